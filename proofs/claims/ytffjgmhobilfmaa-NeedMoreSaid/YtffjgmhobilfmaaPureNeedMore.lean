/- More loss, longer rows and more symbols are never less repair, and the repair is enough on the whole and no more than that. No condition. -/
import Derived.Test.YtffjgmhobilfmaaPNeedMorex1
namespace Go.Proofs.Ytffjgmhobilfmaa.Pure
open Go.RowKit Go.Proofs.Ytffjgmhobilfmaa.PNeedMore Go.Proofs.YtffjgmhobilfmaaW.PrintWords Go.Proofs.YtffjgmhobilfmaaW.PrintLast
namespace More

theorem w64 {n : Int} (h : -9223372036854775808 ≤ n) (h2 : n < 9223372036854775808) : wrap64 n = n := by unfold wrap64; omega

/-- a over b, rounded up -/
def up (a b : Int) : Int := if a % b > 0 then a / b + 1 else a / b

theorem up_spec (a b : Int) (hb : 0 < b) : a ≤ up a b * b ∧ (up a b - 1) * b < a := by
  have h := Int.mul_ediv_add_emod a b
  have h1 := Int.emod_nonneg a (show b ≠ 0 by omega)
  have h2 := Int.emod_lt_of_pos a hb
  unfold up
  rw [Int.mul_comm b] at h
  split
  · constructor
    · rw [Int.add_mul]; omega
    · rw [show a / b + 1 - 1 = a / b by omega]; omega
  · constructor
    · omega
    · rw [Int.sub_mul]; omega

theorem up_nonneg (a b : Int) (ha : 0 ≤ a) (hb : 0 < b) : 0 ≤ up a b := by
  have := Int.ediv_nonneg ha (show 0 ≤ b by omega)
  unfold up; split <;> omega

theorem up_le (a b : Int) (ha : 0 ≤ a) : up a b ≤ a + 1 := by
  have := Int.ediv_le_self b ha
  unfold up; split <;> omega

theorem up_mono (a b c d : Int) (ha : 0 ≤ a) (hac : a ≤ c) (hd : 0 < d) (hdb : d ≤ b) : up a b ≤ up c d := by
  obtain ⟨_, h1⟩ := up_spec a b (by omega)
  obtain ⟨h2, _⟩ := up_spec c d hd
  have h3 := up_nonneg c d (by omega) hd
  have h4 : up c d * d ≤ up c d * b := Int.mul_le_mul_of_nonneg_left hdb h3
  have h5 : (up a b - 1) * b < up c d * b := by omega
  have h6 := Int.lt_of_mul_lt_mul_right h5 (by omega)
  omega

theorem up_ev (a b : Int) (ha : 0 ≤ a) (ha2 : a < 9223372036854775800) (hb : 0 < b) : need_up.f a b = some (up a b) := by
  have q0 : 0 ≤ a / b := Int.ediv_nonneg ha (by omega)
  have q1 : a / b ≤ a := Int.ediv_le_self _ ha
  unfold need_up.f up
  rw [if_neg (by omega), Int.tmod_eq_emod_of_nonneg ha, Int.tdiv_eq_ediv_of_nonneg ha, w64 (n := a / b) (by omega) (by omega), w64 (n := a / b + 1) (by omega) (by omega)]
  split <;> rfl

theorem prod_bd (k b : Int) (h1 : 0 ≤ k) (h2 : k ≤ 32) (h3 : 0 ≤ b) (h4 : b ≤ 65536) : 0 ≤ k * b ∧ k * b ≤ 2097152 := by
  constructor
  · exact Int.mul_nonneg (by omega) (by omega)
  · have : k * b ≤ 32 * b := Int.mul_le_mul_of_nonneg_right h2 (by omega)
    omega

/-- what Count tells of 1 to 32 symbols, a loss below the whole, a row -/
def cnt (n x p : Int) : Int := if x ≤ 0 then 0 else mn (up (n * x) (65536 - x) + mn (up (mx p 0) 16) 64) 64

theorem count_ev (k : Nat) (n x p : Int) (n1 : 1 ≤ n) (n2 : n ≤ 32) (x2 : x ≤ 65535) (p2 : p ≤ 65535) : need_Count.f (k + 1) n x p = some (cnt n x p) := by
  unfold need_Count.f cnt
  rw [if_neg (by omega)]
  by_cases hb : x ≤ 0
  · rw [decide_eq_true hb, if_pos hb]; rfl
  rw [decide_eq_false hb, if_neg hb]
  simp only [need_Count.j0]
  rw [if_neg Bool.false_ne_true, if_neg (by omega)]
  have e : mn n 32 = n := by unfold mn; split <;> omega
  rw [e]
  obtain ⟨q1, q2⟩ := prod_bd n x (by omega) n2 (by omega) (by omega)
  generalize n * x = m at *
  rw [w64 (n := m) (by omega) (by omega), w64 (n := 65536 - x) (by omega) (by omega), up_ev m _ q1 (by omega) (by omega)]
  simp only [Option.bind_some]
  rw [up_ev (mx p 0) 16 (by unfold mx; split <;> omega) (by unfold mx; split <;> omega) (by omega)]
  simp only [Option.bind_some]
  have u1 := up_nonneg m (65536 - x) q1 (by omega)
  have u2 := up_le m (65536 - x) q1
  have u3 := up_nonneg (mx p 0) 16 (by unfold mx; split <;> omega) (by omega)
  generalize up m (65536 - x) = a at *
  generalize up (mx p 0) 16 = b at *
  rw [w64 (n := a + mn b 64) (by unfold mn; split <;> omega) (by unfold mn; split <;> omega)]

theorem count_zero (x p : Int) : need_Count.f 1 0 x p = some 0 := by unfold need_Count.f; rw [if_pos (by omega)]; rfl

theorem cnt_bd (n x p : Int) (n1 : 1 ≤ n) (x2 : x ≤ 65535) : 0 ≤ cnt n x p ∧ cnt n x p ≤ 64 := by
  unfold cnt
  split
  · omega
  · have u1 := up_nonneg (n * x) (65536 - x) (Int.mul_nonneg (by omega) (by omega)) (by omega)
    have u3 := up_nonneg (mx p 0) 16 (by unfold mx; split <;> omega) (by omega)
    generalize up (n * x) (65536 - x) = a at *
    generalize up (mx p 0) 16 = b at *
    unfold mn; repeat' split
    all_goals omega

theorem cnt_mono (n m x y p q : Int) (n1 : 1 ≤ n) (nm : n ≤ m) (xy : x ≤ y) (y2 : y ≤ 65535) (pq : p ≤ q) : cnt n x p ≤ cnt m y q := by
  by_cases hx : x ≤ 0
  · have := (cnt_bd m y q (by omega) y2).1
    unfold cnt at *; rw [if_pos hx]; exact this
  · have k1 : n * x ≤ m * y := Int.le_trans (Int.mul_le_mul_of_nonneg_right nm (by omega)) (Int.mul_le_mul_of_nonneg_left xy (by omega))
    have u1 := up_mono (n * x) (65536 - x) (m * y) (65536 - y) (Int.mul_nonneg (by omega) (by omega)) k1 (by omega) (by omega)
    have hm : mx p 0 ≤ mx q 0 := by
      unfold mx; repeat' split
      all_goals omega
    have u2 := up_mono (mx p 0) 16 (mx q 0) 16 (by unfold mx; split <;> omega) hm (by omega) (by omega)
    unfold cnt
    rw [if_neg hx, if_neg (by omega)]
    generalize up (n * x) (65536 - x) = a at *
    generalize up (m * y) (65536 - y) = b at *
    generalize up (mx p 0) 16 = c at *
    generalize up (mx q 0) 16 = d at *
    unfold mn; repeat' split
    all_goals omega

theorem cnt_zero (n x : Int) (n1 : 1 ≤ n) (hx : 0 < x) (x2 : x ≤ 65535) : cnt n x 0 = mn (up (n * x) (65536 - x)) 64 := by
  have u1 := up_nonneg (n * x) (65536 - x) (Int.mul_nonneg (by omega) (by omega)) (by omega)
  unfold cnt
  rw [if_neg (by omega), show up (mx 0 0) 16 = 0 by decide]
  generalize up (n * x) (65536 - x) = a at *
  unfold mn; repeat' split
  all_goals omega

theorem enough (n x r : Int) (n1 : 1 ≤ n) (hx : 0 ≤ x) (x2 : x ≤ 65535) (hr : cnt n x 0 = r) (h64 : r ≠ 64) :
    n * 65536 ≤ (n + r) * (65536 - x) ∧ (r ≠ 0 → (n + r - 1) * (65536 - x) < n * 65536) := by
  by_cases h0 : x = 0
  · subst h0
    have : r = 0 := by rw [← hr]; rfl
    subst this
    simp
  · rw [cnt_zero n x n1 (by omega) x2] at hr
    have e : up (n * x) (65536 - x) = r := by
      generalize up (n * x) (65536 - x) = a at *
      unfold mn at hr; split at hr <;> omega
    obtain ⟨h1, h2⟩ := up_spec (n * x) (65536 - x) (by omega)
    rw [e] at h1 h2
    have d1 : (n + r) * (65536 - x) = n * 65536 - n * x + r * (65536 - x) := by rw [Int.add_mul, Int.mul_sub n]
    have d2 : (n + r - 1) * (65536 - x) = n * 65536 - n * x + (r - 1) * (65536 - x) := by rw [show n + r - 1 = n + (r - 1) by omega, Int.add_mul, Int.mul_sub n]
    rw [d1, d2]
    exact ⟨by omega, fun _ => by omega⟩

theorem u8_bd {n : Int} (h : (Lit.int .u8 n).wf = true) : 0 ≤ n ∧ n < 256 := by
  simp [Lit.wf, show IntKind.u8.min = 0 from by decide, show IntKind.u8.max = 255 from by decide] at h
  omega
theorem u16_bd {n : Int} (h : (Lit.int .u16 n).wf = true) : 0 ≤ n ∧ n < 65536 := by
  simp [Lit.wf, show IntKind.u16.min = 0 from by decide, show IntKind.u16.max = 65535 from by decide] at h
  omega

theorem law (k : Nat) (n a p : Int) (n1 : 1 ≤ n) (n2 : n ≤ 32) (a1 : 0 ≤ a) (a2 : a < 65536) (p2 : -65536 ≤ p) (p3 : p < 65536) :
    girandolelaw20_NeedMore.j0 (k + 2) a p n false = some true := by
  have hz : ∀ x p : Int, need_Count.f (k + 1) 0 x p = some 0 := fun x p => by unfold need_Count.f; rw [if_pos (by omega)]; rfl
  obtain ⟨r1, r2⟩ := cnt_bd n a 0 n1 (by omega)
  have en := enough n a (cnt n a 0) n1 a1 (by omega) rfl
  simp only [girandolelaw20_NeedMore.j0]
  rw [if_neg Bool.false_ne_true, w64 (n := p) (by omega) (by omega), w64 (n := a) (by omega) (by omega)]
  rw [count_ev k n 0 p n1 n2 (by omega) (by omega)]
  simp only [Option.bind_some]
  rw [if_pos (by unfold cnt; rw [if_pos (by omega)]), count_ev k n (-1) p n1 n2 (by omega) (by omega)]
  simp only [Option.bind_some]
  rw [if_pos (by unfold cnt; rw [if_pos (by omega)]), hz a p]
  simp only [Option.bind_some]
  rw [if_pos trivial, count_ev k n a 0 n1 n2 (by omega) (by omega)]
  simp only [Option.bind_some]
  generalize cnt n a 0 = r at *
  by_cases h64 : r = 64
  · rw [if_pos h64]
  · obtain ⟨e1, e2⟩ := en h64
    rw [if_neg h64]
    have b2 : (n + r) * (65536 - a) ≤ 96 * (65536 - a) := Int.mul_le_mul_of_nonneg_right (by omega) (by omega)
    have b3 : (n + r - 1) * (65536 - a) ≤ 96 * (65536 - a) := Int.mul_le_mul_of_nonneg_right (by omega) (by omega)
    have b4 : 0 ≤ (n + r - 1) * (65536 - a) := Int.mul_nonneg (by omega) (by omega)
    rw [w64 (n := n + r) (by omega) (by omega), w64 (n := 65536 - a) (by omega) (by omega), w64 (n := n + r - 1) (by omega) (by omega), w64 (n := n * 65536) (by omega) (by omega)]
    generalize hx : (n + r) * (65536 - a) = X at *
    generalize hy : (n + r - 1) * (65536 - a) = Y at *
    rw [w64 (n := X) (by omega) (by omega), w64 (n := Y) (by omega) (by omega), if_pos (by omega)]
    by_cases h0 : r = 0
    · rw [if_pos h0]
    · rw [if_neg h0, decide_eq_true (e2 h0)]

end More

open More in
theorem NeedMore : girandolelaw20_NeedMore.Pure := by
  intro n0 a b p q wn wa wb wp wq
  obtain ⟨n3, n4⟩ := u8_bd wn
  obtain ⟨a1, a2⟩ := u16_bd wa
  obtain ⟨b1, b2⟩ := u16_bd wb
  obtain ⟨p1, p2⟩ := u16_bd wp
  obtain ⟨q1, q2⟩ := u16_bd wq
  refine ⟨2, ?_⟩
  unfold girandolelaw20_NeedMore.f
  rw [show girandolelaw20_begun.f 2 = some true by decide +kernel]
  simp only [Option.bind_some, if_true]
  have i1 : mn a b ≤ mx a b ∧ 0 ≤ mn a b ∧ mx a b < 65536 := by
    unfold mn mx; repeat' split
    all_goals omega
  have i2 : mn p q ≤ mx p q ∧ 0 ≤ mn p q ∧ mx p q < 65536 := by
    unfold mn mx; repeat' split
    all_goals omega
  generalize mn a b = x at *
  generalize mx a b = y at *
  generalize mn p q = u at *
  generalize mx p q = v at *
  rw [w64 (n := n0) (by omega) (by omega), Int.tmod_eq_emod_of_nonneg n3]
  obtain ⟨n, hn, n1, n2⟩ : ∃ n, 1 + n0 % 32 = n ∧ 1 ≤ n ∧ n ≤ 32 := ⟨_, rfl, by omega, by omega⟩
  rw [hn, w64 (n := n) (by omega) (by omega), w64 (n := n - 1) (by omega) (by omega), w64 (n := x) (by omega) (by omega), w64 (n := y) (by omega) (by omega), w64 (n := u) (by omega) (by omega), w64 (n := v) (by omega) (by omega), w64 (n := a) (by omega) (by omega), w64 (n := p) (by omega) (by omega)]
  have m1 : 1 ≤ mx (n - 1) 1 ∧ mx (n - 1) 1 ≤ n := by unfold mx; split <;> omega
  generalize mx (n - 1) 1 = m at *
  rw [count_ev 1 n x u n1 n2 (by omega) (by omega), count_ev 1 n y v n1 n2 (by omega) (by omega), count_ev 1 m a p m1.1 (by omega) (by omega) (by omega), count_ev 1 n a p n1 n2 (by omega) (by omega)]
  simp only [Option.bind_some]
  have c1 := cnt_bd n x u n1 (by omega)
  have c2 := cnt_bd n y v n1 (by omega)
  have c3 := cnt_mono n n x y u v n1 (by omega) (by omega) (by omega) (by omega)
  have c4 := cnt_mono m n a a p p m1.1 (by omega) (by omega) (by omega) (by omega)
  rw [if_neg (by omega), if_neg (by omega), if_neg (by omega), decide_eq_false (by omega)]
  exact law 0 n a p n1 n2 a1 a2 (by omega) p2

end Go.Proofs.Ytffjgmhobilfmaa.Pure
