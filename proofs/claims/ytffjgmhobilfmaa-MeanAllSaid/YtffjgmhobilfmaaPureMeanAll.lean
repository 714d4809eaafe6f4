/- Which losses there are on the whole is what the document says, for any looks (60 at most). No condition. -/
import Derived.Test.YtffjgmhobilfmaaPMeanAllx2
import Derived.Test.YtffjgmhobilfmaaHelp
namespace Go.Proofs.Ytffjgmhobilfmaa.Pure
set_option linter.unusedVariables false
open Go.RowKit Go.Proofs.Ytffjgmhobilfmaa.PMeanAll Go.Proofs.YtffjgmhobilfmaaW.PrintWords Go.Proofs.YtffjgmhobilfmaaW.PrintLast Go.Proofs.YtffjgmhobilfmaaW.PrintMore
namespace All
open Go.Proofs.Ytffjgmhobilfmaa.Help

/-- the part that is lost -/
def lookv (a b : Int) : Int := a * 65536 / (a + b)

theorem look_bd (a b : Int) (a0 : 0 ≤ a) (b0 : 0 ≤ b) (h : a + b ≠ 0) : 0 ≤ lookv a b ∧ lookv a b ≤ 65536 := by
  unfold lookv
  refine ⟨Int.ediv_nonneg (by omega) (by omega), ?_⟩
  have h1 : a * 65536 / (a + b) * (a + b) ≤ a * 65536 := Int.ediv_mul_le _ h
  have h2 : a * 65536 ≤ 65536 * (a + b) := by omega
  exact Int.le_of_mul_le_mul_right (Int.le_trans h1 h2) (by omega)

theorem new_ev : mean_New.f = some (0, false) := by unfold mean_New.f; simp
theorem bg : girandolelaw17_begun.f = some true := by decide +kernel

theorem look_ev (a b : Int) (a0 : 0 ≤ a) (b0 : 0 ≤ b) (a1 : a < 4294967296) (b1 : b < 4294967296) (h : a + b ≠ 0) :
    IntKind.u64.wrap (Int.tdiv (IntKind.u64.wrap ((IntKind.u64.wrap a) * 65536)) (IntKind.u64.wrap ((IntKind.u64.wrap a) + (IntKind.u64.wrap b)))) = lookv a b := by
  have hl := look_bd a b a0 b0 h
  rw [wu64 (n := a) (by omega) (by omega), wu64 (n := b) (by omega) (by omega), wu64 (n := a * 65536) (by omega) (by omega), wu64 (n := a + b) (by omega) (by omega), Int.tdiv_eq_ediv_of_nonneg (by omega)]
  show IntKind.u64.wrap (lookv a b) = lookv a b
  rw [wu64 (by omega) (by omega)]

theorem all_ev (a b : Int) (a0 : 0 ≤ a) (b0 : 0 ≤ b) (a1 : a < 4294967296) (b1 : b < 4294967296) :
    IntKind.u64.wrap ((IntKind.u64.wrap a) + (IntKind.u64.wrap b)) = a + b := by
  rw [wu64 (n := a) (by omega) (by omega), wu64 (n := b) (by omega) (by omega), wu64 (n := a + b) (by omega) (by omega)]

theorem add_none (v : Int) (has : Bool) : mean_Mean_Add.f v has 0 0 = some (v, has) := by
  unfold mean_Mean_Add.f
  rw [if_pos (by rw [all_ev 0 0 (by omega) (by omega) (by omega) (by omega)]; omega)]

theorem add_first (v : Int) (a b : Int) (a0 : 0 ≤ a) (b0 : 0 ≤ b) (a1 : a < 4294967296) (b1 : b < 4294967296) (h : a + b ≠ 0) :
    mean_Mean_Add.f v false a b = some (lookv a b, true) := by
  unfold mean_Mean_Add.f
  rw [look_ev a b a0 b0 a1 b1 h, all_ev a b a0 b0 a1 b1, if_neg h, if_neg Bool.false_ne_true]

theorem add_next (v : Int) (v0 : 0 ≤ v) (v1 : v ≤ 65536) (a b : Int) (a0 : 0 ≤ a) (b0 : 0 ≤ b) (a1 : a < 4294967296) (b1 : b < 4294967296) (h : a + b ≠ 0) :
    mean_Mean_Add.f v true a b = some ((7 * v + lookv a b) / 8, true) := by
  have hl := look_bd a b a0 b0 h
  unfold mean_Mean_Add.f
  rw [look_ev a b a0 b0 a1 b1 h, all_ev a b a0 b0 a1 b1, if_neg h, if_pos rfl]
  generalize lookv a b = l at *
  rw [wu64 (n := 7 * v) (by omega) (by omega), wu64 (n := 7 * v + l) (by omega) (by omega), Int.tdiv_eq_ediv_of_nonneg (by omega), wu64 (n := (7 * v + l) / 8) (by omega) (by omega)]


theorem u32_rd (xs : List Int) (hx : ∀ x ∈ xs, (Lit.int .u32 x).wf = true) (i : Int) (h0 : 0 ≤ i) (h : i < xs.length) : (Lit.int .u32 (rd xs i)).wf = true := by
  unfold rd
  have h1 : i.toNat < xs.length := by omega
  rw [List.getD_eq_getElem?_getD, List.getElem?_eq_getElem h1]
  exact hx _ (List.getElem_mem h1)

theorem val_ev (v : Int) (has : Bool) (v0 : 0 ≤ v) (v1 : v ≤ 65536) : mean_Mean_Value.f v has = some (v, v, has) := by
  unfold mean_Mean_Value.f
  rw [w64 (n := v) (by omega) (by omega)]

theorem ref_none (v : Int) (has : Bool) : girandoleref12_Mean_Add.f has v 0 0 = some (has, v) := by
  unfold girandoleref12_Mean_Add.f
  rw [if_pos (by rw [all_ev 0 0 (by omega) (by omega) (by omega) (by omega)]; omega)]
theorem ref_first (v : Int) (a b : Int) (a0 : 0 ≤ a) (b0 : 0 ≤ b) (a1 : a < 4294967296) (b1 : b < 4294967296) (h : a + b ≠ 0) :
    girandoleref12_Mean_Add.f false v a b = some (true, lookv a b) := by
  have hl := look_bd a b a0 b0 h
  unfold girandoleref12_Mean_Add.f
  rw [look_ev a b a0 b0 a1 b1 h, all_ev a b a0 b0 a1 b1, if_neg h, if_neg Bool.false_ne_true, w64 (n := lookv a b) (by omega) (by omega)]
theorem ref_next (v : Int) (v0 : 0 ≤ v) (v1 : v ≤ 65536) (a b : Int) (a0 : 0 ≤ a) (b0 : 0 ≤ b) (a1 : a < 4294967296) (b1 : b < 4294967296) (h : a + b ≠ 0) :
    girandoleref12_Mean_Add.f true v a b = some (true, (7 * v + lookv a b) / 8) := by
  have hl := look_bd a b a0 b0 h
  unfold girandoleref12_Mean_Add.f
  rw [look_ev a b a0 b0 a1 b1 h, all_ev a b a0 b0 a1 b1, if_neg h, if_pos rfl]
  generalize lookv a b = l at *
  rw [w64 (n := l) (by omega) (by omega), w64 (n := 7 * v) (by omega) (by omega), w64 (n := 7 * v + l) (by omega) (by omega), Int.tdiv_eq_ediv_of_nonneg (by omega), w64 (n := (7 * v + l) / 8) (by omega) (by omega)]

theorem step (v : Int) (has : Bool) (v0 : 0 ≤ v) (v1 : v ≤ 65536) (a b : Int) (a0 : 0 ≤ a) (b0 : 0 ≤ b) (a1 : a < 4294967296) (b1 : b < 4294967296) :
    ∃ v' has', mean_Mean_Add.f v has a b = some (v', has') ∧ girandoleref12_Mean_Add.f has v a b = some (has', v') ∧ 0 ≤ v' ∧ v' ≤ 65536 := by
  by_cases h : a + b = 0
  · obtain ⟨rfl, rfl⟩ : a = 0 ∧ b = 0 := by omega
    exact ⟨v, has, add_none v has, ref_none v has, v0, v1⟩
  · have hl := look_bd a b a0 b0 h
    cases has with
    | false => exact ⟨_, _, add_first v a b a0 b0 a1 b1 h, ref_first v a b a0 b0 a1 b1 h, hl.1, hl.2⟩
    | true => exact ⟨_, _, add_next v v0 v1 a b a0 b0 a1 b1 h, ref_next v v0 v1 a b a0 b0 a1 b1 h, by omega, by omega⟩

theorem rounds (xs ys : List Int) (hx : ∀ x ∈ xs, (Lit.int .u32 x).wf = true) (hy : ∀ x ∈ ys, (Lit.int .u32 x).wf = true) (hlen : xs.length ≤ 60) (hle : xs.length ≤ ys.length) (d : Nat) : ∀ (k i : Nat) (v : Int) (has : Bool), i + d = xs.length → d < k → 0 ≤ v → v ≤ 65536 →
    girandolelaw17_MeanAll.l0 k xs ys i v has has v = some true := by
  induction d with
  | zero =>
    intro k i v has hi hk v0 v1
    obtain ⟨k, rfl⟩ : ∃ m, k = m + 1 := ⟨k - 1, by omega⟩
    simp only [girandolelaw17_MeanAll.l0]
    rw [if_neg (by omega)]
    rfl
  | succ d ih =>
    intro k i v has hi hk v0 v1
    obtain ⟨k, rfl⟩ : ∃ m, k = m + 1 := ⟨k - 1, by omega⟩
    obtain ⟨p0, p1⟩ := u32_bd (u32_rd xs hx i (by omega) (by omega))
    obtain ⟨q0, q1⟩ := u32_bd (u32_rd ys hy i (by omega) (by omega))
    simp only [girandolelaw17_MeanAll.l0]
    rw [if_pos (by omega), if_pos (by omega), if_pos (by omega)]
    generalize rd xs (i : Int) = p at *
    generalize rd ys (i : Int) = q at *
    obtain ⟨v', has', e1, e2, v2, v3⟩ := step v has v0 v1 p q p0 q0 p1 q1
    have g := ih k (i + 1) v' has' (by omega) (by omega) v2 v3
    rw [Int.natCast_add, Int.natCast_one] at g
    rw [e1, bs, e2, bs, val_ev v' has' v2 v3, bs, if_pos rfl, w64 (n := (i : Int) + 1) (by omega) (by omega)]
    exact g

end All

open All Go.Proofs.Ytffjgmhobilfmaa.Help in
theorem MeanAll : girandolelaw17_MeanAll.Pure := by
  intro xs ys _ _ hx _ _ hy
  refine ⟨xs.length + 2, ?_⟩
  unfold girandolelaw17_MeanAll.f
  rw [bg, bs, if_pos rfl]
  by_cases h1 : (xs.length : Int) > 60
  · rw [if_pos h1]
    simp only [girandolelaw17_MeanAll.j0]
    rw [if_pos trivial]
  · rw [if_neg h1]
    by_cases h2 : (ys.length : Int) < (xs.length : Int)
    · rw [decide_eq_true h2]
      simp only [girandolelaw17_MeanAll.j0]
      rw [if_pos trivial]
    · rw [decide_eq_false h2]
      generalize hk : xs.length + 1 = k
      show girandolelaw17_MeanAll.j0 ((xs.length + 1) + 1) xs ys false = some true
      rw [hk]
      simp only [girandolelaw17_MeanAll.j0]
      rw [if_neg Bool.false_ne_true, new_ev, bs]
      have g := rounds xs ys hx hy (by omega) (by omega) xs.length k 0 0 false (by omega) (by omega) (by omega) (by omega)
      rw [Int.natCast_zero] at g
      exact g

end Go.Proofs.Ytffjgmhobilfmaa.Pure
