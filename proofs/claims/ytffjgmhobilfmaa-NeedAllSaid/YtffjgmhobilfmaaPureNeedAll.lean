/- How much more is sent is what the document says, for every number of symbols, every loss and every row. No condition. -/
import Derived.Test.YtffjgmhobilfmaaPNeedAllx1
namespace Go.Proofs.Ytffjgmhobilfmaa.Pure
open Go.RowKit Go.Proofs.Ytffjgmhobilfmaa.PNeedAll Go.Proofs.YtffjgmhobilfmaaW.PrintWords Go.Proofs.YtffjgmhobilfmaaW.PrintLast

theorem w64 {n : Int} (h : -9223372036854775808 ≤ n) (h2 : n < 9223372036854775808) : wrap64 n = n := by unfold wrap64; omega

theorem ceil_eq (m d : Int) (hd : 0 < d) : (m + (d - 1)) / d = if m % d > 0 then m / d + 1 else m / d := by
  have h := Int.mul_ediv_add_emod m d
  have h1 := Int.emod_nonneg m (show d ≠ 0 by omega)
  have h2 := Int.emod_lt_of_pos m hd
  split
  · rename_i hr
    have e : m + (d - 1) = (m % d - 1) + d * (m / d + 1) := by rw [Int.mul_add]; omega
    rw [e, Int.add_mul_ediv_left _ _ (show d ≠ 0 by omega), Int.ediv_eq_zero_of_lt (by omega) (by omega)]; omega
  · have e : m + (d - 1) = (d - 1) + d * (m / d) := by omega
    rw [e, Int.add_mul_ediv_left _ _ (show d ≠ 0 by omega), Int.ediv_eq_zero_of_lt (by omega) (by omega)]; omega

theorem up_ev (a b : Int) (ha : 0 ≤ a) (ha2 : a < 9223372036854775808) (hb : 1 < b ∨ a < 9223372036854775807 ∧ b = 1) : need_up.f a b = some ((a + (b - 1)) / b) := by
  have q0 : 0 ≤ a / b := Int.ediv_nonneg ha (by omega)
  have q1 : a / b ≤ a := Int.ediv_le_self _ ha
  have q2 : a / b < 9223372036854775807 := by
    rcases hb with hb | ⟨hb, rfl⟩
    · have h := Int.mul_ediv_add_emod a b
      have h1 := Int.emod_nonneg a (show b ≠ 0 by omega)
      have h3 : 2 * (a / b) ≤ b * (a / b) := Int.mul_le_mul_of_nonneg_right (by omega) q0
      omega
    · omega
  unfold need_up.f
  rw [if_neg (by omega), Int.tmod_eq_emod_of_nonneg ha, Int.tdiv_eq_ediv_of_nonneg ha, ceil_eq a b (by omega), w64 (n := a / b) (by omega) (by omega), w64 (n := a / b + 1) (by omega) (by omega)]
  split <;> rfl

theorem prod_bd (k b : Int) (h1 : 1 ≤ k) (h2 : k ≤ 32) (h3 : 0 < b) (h4 : b < 65536) : 0 ≤ k * b ∧ k * b ≤ 2097120 := by
  constructor
  · exact Int.mul_nonneg (by omega) (by omega)
  · have : k * b ≤ 32 * b := Int.mul_le_mul_of_nonneg_right h2 (by omega)
    omega

theorem both (a b c : Int) (hc : -9223372036854775808 ≤ c) (hc2 : c < 9223372036854775808) : ∃ v, need_Count.f 1 a b c = some v ∧ girandoleref12_Need.f 1 a b c = some v := by
  unfold need_Count.f girandoleref12_Need.f
  by_cases ha : a ≤ 0
  · rw [if_pos ha, if_pos ha]; exact ⟨0, rfl, rfl⟩
  rw [if_neg ha, if_neg ha]
  by_cases hb : b ≤ 0
  · rw [decide_eq_true hb]; exact ⟨0, rfl, rfl⟩
  rw [decide_eq_false hb]
  simp only [need_Count.j0, girandoleref12_Need.j0]
  rw [if_neg Bool.false_ne_true, if_neg Bool.false_ne_true]
  by_cases hb2 : b ≥ 65536
  · rw [if_pos hb2, if_pos hb2]; exact ⟨64, rfl, rfl⟩
  rw [if_neg hb2, if_neg hb2]
  obtain ⟨k, hk, k1, k2⟩ : ∃ k, mn a 32 = k ∧ 1 ≤ k ∧ k ≤ 32 := ⟨_, rfl, by unfold mn; split <;> omega, by unfold mn; split <;> omega⟩
  rw [hk]
  obtain ⟨p1, p2⟩ := prod_bd k b k1 k2 (by omega) (by omega)
  generalize k * b = m at *
  rw [w64 (n := m) (by omega) (by omega), w64 (n := 65536 - b) (by omega) (by omega), w64 (n := m + 65536) (by omega) (by omega), w64 (n := m + 65536 - b) (by omega) (by omega), w64 (n := m + 65536 - b - 1) (by omega) (by omega)]
  rw [if_neg (by omega), up_ev m _ p1 (by omega) (by omega)]
  simp only [Option.bind_some]
  rw [up_ev (mx c 0) 16 (by unfold mx; split <;> omega) (by unfold mx; split <;> omega) (by omega)]
  simp only [Option.bind_some]
  rw [Int.tdiv_eq_ediv_of_nonneg (a := m + 65536 - b - 1) (by omega), show m + 65536 - b - 1 = m + (65536 - b - 1) by omega]
  have q0 : 0 ≤ (m + (65536 - b - 1)) / (65536 - b) := Int.ediv_nonneg (by omega) (by omega)
  have q1 : (m + (65536 - b - 1)) / (65536 - b) ≤ m + (65536 - b - 1) := Int.ediv_le_self _ (by omega)
  generalize (m + (65536 - b - 1)) / (65536 - b) = q at *
  refine ⟨_, rfl, ?_⟩
  rw [w64 (n := q) (by omega) (by omega)]
  by_cases hc0 : c > 0
  · rw [if_pos hc0, Int.tmod_eq_emod_of_nonneg (a := c) (by omega), Int.tdiv_eq_ediv_of_nonneg (a := c) (by omega), w64 (n := c / 16) (by omega) (by omega)]
    have e : mx c 0 = c := by unfold mx; split <;> omega
    rw [e]
    split
    all_goals
      congr 1
      unfold mn wrap64
      repeat' split
      all_goals omega
  · rw [if_neg hc0]
    have e : mx c 0 = 0 := by unfold mx; split <;> omega
    rw [e]
    congr 1
    unfold mn wrap64
    repeat' split
    all_goals omega

theorem i64_bd {n : Int} (h : (Lit.int .i64 n).wf = true) : -9223372036854775808 ≤ n ∧ n < 9223372036854775808 := by
  simp [Lit.wf, show IntKind.i64.min = -9223372036854775808 from by decide, show IntKind.i64.max = 9223372036854775807 from by decide] at h
  omega

theorem NeedAll : girandolelaw20_NeedAll.Pure := by
  intro a b c _ _ wc
  obtain ⟨c1, c2⟩ := i64_bd wc
  obtain ⟨v, h1, h2⟩ := both a b c c1 c2
  refine ⟨1, ?_⟩
  unfold girandolelaw20_NeedAll.f
  rw [show girandolelaw20_begun.f 1 = some true by decide +kernel]
  simp only [Option.bind_some, if_true]
  rw [h1, h2]
  simp

end Go.Proofs.Ytffjgmhobilfmaa.Pure
