/- The value lies between what was looked at, and comes near to what is looked at for long. No condition. -/
import Derived.Test.YtffjgmhobilfmaaPMeanBetweenx2
import Derived.Test.YtffjgmhobilfmaaHelp
namespace Go.Proofs.Ytffjgmhobilfmaa.Pure
open Go.RowKit Go.Proofs.Ytffjgmhobilfmaa.PMeanBetween Go.Proofs.YtffjgmhobilfmaaW.PrintWords Go.Proofs.YtffjgmhobilfmaaW.PrintLast Go.Proofs.YtffjgmhobilfmaaW.PrintMore
namespace Between
open Go.Proofs.Ytffjgmhobilfmaa.Help

/-- the part that is lost -/
def lookv (a b : Int) : Int := a * 65536 / (a + b)

theorem look_bd (a b : Int) (a0 : 0 ≤ a) (b0 : 0 ≤ b) (h : a + b ≠ 0) : 0 ≤ lookv a b ∧ lookv a b ≤ 65536 := by
  unfold lookv
  refine ⟨Int.ediv_nonneg (by omega) (by omega), ?_⟩
  have h1 : a * 65536 / (a + b) * (a + b) ≤ a * 65536 := Int.ediv_mul_le _ h
  have h2 : a * 65536 ≤ 65536 * (a + b) := by omega
  exact Int.le_of_mul_le_mul_right (Int.le_trans h1 h2) (by omega)

theorem new_ev : mean_New.f = some (0, false) := by unfold mean_New.f; simp
theorem bg : girandolelaw17_begun.f = some true := by decide +kernel

theorem look_ev (a b : Int) (a0 : 0 ≤ a) (b0 : 0 ≤ b) (a1 : a < 4294967296) (b1 : b < 4294967296) (h : a + b ≠ 0) :
    IntKind.u64.wrap (Int.tdiv (IntKind.u64.wrap ((IntKind.u64.wrap a) * 65536)) (IntKind.u64.wrap ((IntKind.u64.wrap a) + (IntKind.u64.wrap b)))) = lookv a b := by
  have hl := look_bd a b a0 b0 h
  rw [wu64 (n := a) (by omega) (by omega), wu64 (n := b) (by omega) (by omega), wu64 (n := a * 65536) (by omega) (by omega), wu64 (n := a + b) (by omega) (by omega), Int.tdiv_eq_ediv_of_nonneg (by omega)]
  show IntKind.u64.wrap (lookv a b) = lookv a b
  rw [wu64 (by omega) (by omega)]

theorem all_ev (a b : Int) (a0 : 0 ≤ a) (b0 : 0 ≤ b) (a1 : a < 4294967296) (b1 : b < 4294967296) :
    IntKind.u64.wrap ((IntKind.u64.wrap a) + (IntKind.u64.wrap b)) = a + b := by
  rw [wu64 (n := a) (by omega) (by omega), wu64 (n := b) (by omega) (by omega), wu64 (n := a + b) (by omega) (by omega)]

theorem add_none (v : Int) (has : Bool) : mean_Mean_Add.f v has 0 0 = some (v, has) := by
  unfold mean_Mean_Add.f
  rw [if_pos (by rw [all_ev 0 0 (by omega) (by omega) (by omega) (by omega)]; omega)]

theorem add_first (v : Int) (a b : Int) (a0 : 0 ≤ a) (b0 : 0 ≤ b) (a1 : a < 4294967296) (b1 : b < 4294967296) (h : a + b ≠ 0) :
    mean_Mean_Add.f v false a b = some (lookv a b, true) := by
  unfold mean_Mean_Add.f
  rw [look_ev a b a0 b0 a1 b1 h, all_ev a b a0 b0 a1 b1, if_neg h, if_neg Bool.false_ne_true]

theorem add_next (v : Int) (v0 : 0 ≤ v) (v1 : v ≤ 65536) (a b : Int) (a0 : 0 ≤ a) (b0 : 0 ≤ b) (a1 : a < 4294967296) (b1 : b < 4294967296) (h : a + b ≠ 0) :
    mean_Mean_Add.f v true a b = some ((7 * v + lookv a b) / 8, true) := by
  have hl := look_bd a b a0 b0 h
  unfold mean_Mean_Add.f
  rw [look_ev a b a0 b0 a1 b1 h, all_ev a b a0 b0 a1 b1, if_neg h, if_pos rfl]
  generalize lookv a b = l at *
  rw [wu64 (n := 7 * v) (by omega) (by omega), wu64 (n := 7 * v + l) (by omega) (by omega), Int.tdiv_eq_ediv_of_nonneg (by omega), wu64 (n := (7 * v + l) / 8) (by omega) (by omega)]


theorem val_ev (v : Int) (has : Bool) (v0 : 0 ≤ v) (v1 : v ≤ 65536) : mean_Mean_Value.f v has = some (v, v, has) := by
  unfold mean_Mean_Value.f
  rw [w64 (n := v) (by omega) (by omega)]

/-- how far above and below the value may still be behind so many looks -/
def above : Nat → Int
  | 0 => 65536
  | n + 1 => 7 * above n / 8
def below : Nat → Int
  | 0 => -65536
  | n + 1 => 7 * below n / 8
theorem above_first : above 0 = 65536 := by simp only [above]
theorem above_next (n : Nat) : above (n + 1) = 7 * above n / 8 := by simp only [above]
theorem below_first : below 0 = -65536 := by simp only [below]
theorem below_next (n : Nat) : below (n + 1) = 7 * below n / 8 := by simp only [below]
theorem above_last : above 120 ≤ 7 := by decide +kernel
theorem below_last : -7 ≤ below 120 := by decide +kernel

theorem mod32 (n : Int) (h0 : 0 ≤ n) (h1 : n < 65536) : n % 4294967296 = n := by omega

theorem last (a b : Int) (a0 : 0 ≤ a) (b0 : 0 ≤ b) (a1 : a < 65536) (b1 : b < 65536) (h : a + b ≠ 0) (d : Nat) : ∀ (k i : Nat) (v : Int), i + d = 120 → d < k → 0 ≤ v → v ≤ 65536 →
    v - lookv a b ≤ above i → below i ≤ v - lookv a b → girandolelaw17_MeanBetween.l1 k a b (lookv a b) i v true = some true := by
  have hl := look_bd a b a0 b0 h
  induction d with
  | zero =>
    intro k i v hi hk v0 v1 h1 h2
    obtain ⟨k, rfl⟩ : ∃ m, k = m + 1 := ⟨k - 1, by omega⟩
    obtain rfl : i = 120 := by omega
    have e1 := above_last
    have e2 := below_last
    simp only [girandolelaw17_MeanBetween.l1]
    rw [if_neg (by omega), val_ev v true v0 v1, bs, w64 (n := v - lookv a b) (by omega) (by omega), if_pos (by omega), decide_eq_true (by omega)]
  | succ d ih =>
    intro k i v hi hk v0 v1 h1 h2
    obtain ⟨k, rfl⟩ : ∃ m, k = m + 1 := ⟨k - 1, by omega⟩
    have g := ih k (i + 1) ((7 * v + lookv a b) / 8) (by omega) (by omega) (by omega) (by omega) (by rw [above_next]; omega) (by rw [below_next]; omega)
    rw [Int.natCast_add, Int.natCast_one] at g
    simp only [girandolelaw17_MeanBetween.l1]
    rw [if_pos (by omega), mod32 a a0 a1, mod32 b b0 b1, add_next v v0 v1 a b a0 b0 (by omega) (by omega) h, bs, w64 (n := (i : Int) + 1) (by omega) (by omega)]
    exact g

/-- the first of the last looks, where there was none -/
theorem lastFirst (m : Nat) (a b : Int) (hm : 120 ≤ m) (a0 : 0 ≤ a) (b0 : 0 ≤ b) (a1 : a < 65536) (b1 : b < 65536) (h : a + b ≠ 0) (v : Int) :
    girandolelaw17_MeanBetween.l1 (m + 1) a b (lookv a b) 0 v false = some true := by
  have hl := look_bd a b a0 b0 h
  have e0 : 0 ≤ above 1 := by decide +kernel
  have e1 : below 1 ≤ 0 := by decide +kernel
  have g := last a b a0 b0 a1 b1 h 119 m 1 (lookv a b) (by omega) (by omega) hl.1 hl.2 (by omega) (by omega)
  rw [Int.natCast_one] at g
  simp only [girandolelaw17_MeanBetween.l1]
  rw [if_pos (by omega), mod32 a a0 a1, mod32 b b0 b1, add_first v a b a0 b0 (by omega) (by omega) h, bs, w64 (n := (0 : Int) + 1) (by omega) (by omega)]
  exact g

theorem lastAny (a b : Int) (a0 : 0 ≤ a) (b0 : 0 ≤ b) (a1 : a < 65536) (b1 : b < 65536) (h : a + b ≠ 0) (v : Int) (has : Bool) (v0 : 0 ≤ v) (v1 : v ≤ 65536) (k : Nat) (hk : 120 < k) :
    girandolelaw17_MeanBetween.l1 k a b (lookv a b) 0 v has = some true := by
  have hl := look_bd a b a0 b0 h
  cases has with
  | true =>
    have g := last a b a0 b0 a1 b1 h 120 k 0 v (by omega) (by omega) v0 v1 (by rw [above_first]; omega) (by rw [below_first]; omega)
    rw [Int.natCast_zero] at g
    exact g
  | false =>
    obtain ⟨k, rfl⟩ : ∃ m, k = m + 1 := ⟨k - 1, by omega⟩
    exact lastFirst k a b (by omega) a0 b0 a1 b1 h v

theorem u16_rd (xs : List Int) (hx : ∀ x ∈ xs, (Lit.int .u16 x).wf = true) (i : Int) (h0 : 0 ≤ i) (h : i < xs.length) : 0 ≤ rd xs i ∧ rd xs i < 65536 := by
  unfold rd
  have h1 : i.toNat < xs.length := by omega
  rw [List.getD_eq_getElem?_getD, List.getElem?_eq_getElem h1]
  exact u16_bd (hx _ (List.getElem_mem h1))


theorem look64 (a b : Int) (a0 : 0 ≤ a) (b0 : 0 ≤ b) (a1 : a < 65536) (b1 : b < 65536) (h : a + b ≠ 0) :
    wrap64 (Int.tdiv (wrap64 ((wrap64 a) * 65536)) (wrap64 ((wrap64 a) + (wrap64 b)))) = lookv a b := by
  have hl := look_bd a b a0 b0 h
  rw [w64 (n := a) (by omega) (by omega), w64 (n := b) (by omega) (by omega), w64 (n := a * 65536) (by omega) (by omega), w64 (n := a + b) (by omega) (by omega), Int.tdiv_eq_ediv_of_nonneg (by omega)]
  show wrap64 (lookv a b) = lookv a b
  rw [w64 (by omega) (by omega)]
theorem all64 (a b : Int) (a0 : 0 ≤ a) (b0 : 0 ≤ b) (a1 : a < 65536) (b1 : b < 65536) : wrap64 ((wrap64 a) + (wrap64 b)) = a + b := by
  rw [w64 (n := a) (by omega) (by omega), w64 (n := b) (by omega) (by omega), w64 (n := a + b) (by omega) (by omega)]

/-- what holds at each round's head -/
def Inv (lo hi v : Int) (has : Bool) : Prop := 0 ≤ lo ∧ lo ≤ 65536 ∧ 0 ≤ hi ∧ hi ≤ 65536 ∧ 0 ≤ v ∧ v ≤ 65536 ∧ (has = true → lo ≤ v ∧ v ≤ hi)

theorem step (lo hi v : Int) (has : Bool) (hv : Inv lo hi v has) (a b : Int) (a0 : 0 ≤ a) (b0 : 0 ≤ b) (a1 : a < 65536) (b1 : b < 65536) (h : a + b ≠ 0) :
    ∃ v', mean_Mean_Add.f v has a b = some (v', true) ∧ Inv (mn lo (lookv a b)) (mx hi (lookv a b)) v' true := by
  have hl := look_bd a b a0 b0 h
  obtain ⟨h1, h2, h3, h4, h5, h6, h7⟩ := hv
  cases has with
  | false =>
    refine ⟨_, add_first v a b a0 b0 (by omega) (by omega) h, ?_⟩
    generalize lookv a b = l at *
    unfold Inv mn mx
    split <;> split <;> exact ⟨by omega, by omega, by omega, by omega, by omega, by omega, fun _ => ⟨by omega, by omega⟩⟩
  | true =>
    obtain ⟨h8, h9⟩ := h7 rfl
    refine ⟨_, add_next v h5 h6 a b a0 b0 (by omega) (by omega) h, ?_⟩
    generalize lookv a b = l at *
    unfold Inv mn mx
    split <;> split <;> exact ⟨by omega, by omega, by omega, by omega, by omega, by omega, fun _ => ⟨by omega, by omega⟩⟩

theorem rounds (xs ys : List Int) (hx : ∀ x ∈ xs, (Lit.int .u16 x).wf = true) (hy : ∀ x ∈ ys, (Lit.int .u16 x).wf = true) (hlen : xs.length ≤ 20) (hle : xs.length ≤ ys.length)
    (a b : Int) (a0 : 0 ≤ a) (b0 : 0 ≤ b) (a1 : a < 65536) (b1 : b < 65536) (d : Nat) : ∀ (k i : Nat) (lo hi v : Int) (has : Bool), i + d = xs.length → 2 * d + 124 < k → Inv lo hi v has →
    girandolelaw17_MeanBetween.l0 k xs ys a b lo hi i v has = some true := by
  induction d with
  | zero =>
    intro k i lo hi v has hi' hk hv
    obtain ⟨k, rfl⟩ : ∃ m, k = m + 1 := ⟨k - 1, by omega⟩
    simp only [girandolelaw17_MeanBetween.l0]
    rw [if_neg (by omega)]
    obtain ⟨k, rfl⟩ : ∃ m, k = m + 1 := ⟨k - 1, by omega⟩
    by_cases ha : a = 0
    · subst ha
      rw [if_pos rfl]
      by_cases hb : b = 0
      · subst hb
        simp only [girandolelaw17_MeanBetween.j3]
        rw [if_pos (by decide)]
      · have hab : (0 : Int) + b ≠ 0 := by omega
        simp only [girandolelaw17_MeanBetween.j3]
        rw [if_neg (by simp only [beq_iff_eq]; exact hb), look64 0 b a0 b0 a1 b1 hab, all64 0 b a0 b0 a1 b1, if_neg hab]
        exact lastAny 0 b a0 b0 a1 b1 hab v has hv.2.2.2.2.1 hv.2.2.2.2.2.1 k (by omega)
    · have hab : a + b ≠ 0 := by omega
      rw [if_neg ha]
      simp only [girandolelaw17_MeanBetween.j3]
      rw [if_neg Bool.false_ne_true, look64 a b a0 b0 a1 b1 hab, all64 a b a0 b0 a1 b1, if_neg hab]
      exact lastAny a b a0 b0 a1 b1 hab v has hv.2.2.2.2.1 hv.2.2.2.2.2.1 k (by omega)
  | succ d ih =>
    intro k i lo hi v has hi' hk hv
    obtain ⟨k, rfl⟩ : ∃ m, k = m + 1 := ⟨k - 1, by omega⟩
    obtain ⟨p0, p1⟩ := u16_rd xs hx i (by omega) (by omega)
    obtain ⟨q0, q1⟩ := u16_rd ys hy i (by omega) (by omega)
    simp only [girandolelaw17_MeanBetween.l0]
    rw [if_pos (by omega), if_pos (by omega), if_pos (by omega)]
    generalize hp : rd xs (i : Int) = p at *
    generalize hq : rd ys (i : Int) = q at *
    rw [mod32 p p0 p1, mod32 q q0 q1]
    obtain ⟨k, rfl⟩ : ∃ m, k = m + 1 := ⟨k - 1, by omega⟩
    by_cases hz : p = 0 ∧ q = 0
    · obtain ⟨rfl, rfl⟩ := hz
      have g := ih k (i + 1) lo hi v has (by omega) (by omega) hv
      rw [Int.natCast_add, Int.natCast_one] at g
      rw [add_none, bs, if_pos rfl]
      simp only [girandolelaw17_MeanBetween.j2]
      rw [if_pos (by decide), w64 (n := (i : Int) + 1) (by omega) (by omega)]
      exact g
    · have hpq : p + q ≠ 0 := by omega
      obtain ⟨v', e, hv'⟩ := step lo hi v has hv p q p0 q0 p1 q1 hpq
      have g := ih k (i + 1) _ _ v' true (by omega) (by omega) hv'
      rw [Int.natCast_add, Int.natCast_one] at g
      obtain ⟨_, _, _, _, v0, v1, hb⟩ := hv'
      obtain ⟨hb0, hb1⟩ := hb rfl
      have F : girandolelaw17_MeanBetween.j2 (k + 1) xs ys a b lo hi i false v' true = some true := by
        simp only [girandolelaw17_MeanBetween.j2]
        rw [if_neg Bool.false_ne_true, if_pos (by omega), if_pos (by omega), if_pos (by omega), hp, hq, look64 p q p0 q0 p1 q1 hpq, all64 p q p0 q0 p1 q1, if_neg hpq,
          val_ev v' true v0 v1, bs, if_neg (by omega), val_ev v' true v0 v1, bs, if_neg (by omega), w64 (n := (i : Int) + 1) (by omega) (by omega)]
        exact g
      rw [e, bs]
      by_cases hp0 : p = 0
      · rw [if_pos hp0, show (q == 0) = false from by simp; omega]
        exact F
      · rw [if_neg hp0]
        exact F

end Between

open Between Go.Proofs.Ytffjgmhobilfmaa.Help in
theorem MeanBetween : girandolelaw17_MeanBetween.Pure := by
  intro xs ys a b _ _ hx _ _ hy wa wb
  obtain ⟨a0, a1⟩ := u16_bd wa
  obtain ⟨b0, b1⟩ := u16_bd wb
  refine ⟨200, ?_⟩
  unfold girandolelaw17_MeanBetween.f
  rw [bg, bs, if_pos rfl]
  by_cases h1 : (xs.length : Int) > 20
  · rw [if_pos h1]
    simp only [girandolelaw17_MeanBetween.j0]
    rw [if_pos trivial]
  · rw [if_neg h1]
    by_cases h2 : (ys.length : Int) < (xs.length : Int)
    · rw [decide_eq_true h2]
      simp only [girandolelaw17_MeanBetween.j0]
      rw [if_pos trivial]
    · rw [decide_eq_false h2]
      generalize hk : 199 = k
      show girandolelaw17_MeanBetween.j0 (199 + 1) xs ys a b false = some true
      rw [hk]
      simp only [girandolelaw17_MeanBetween.j0]
      rw [if_neg Bool.false_ne_true, new_ev, bs]
      have g := rounds xs ys hx hy (by omega) (by omega) a b a0 b0 a1 b1 xs.length k 0 65536 0 0 false (by omega) (by omega) ⟨by omega, by omega, by omega, by omega, by omega, by omega, fun h => by cases h⟩
      rw [Int.natCast_zero] at g
      exact g

end Go.Proofs.Ytffjgmhobilfmaa.Pure
