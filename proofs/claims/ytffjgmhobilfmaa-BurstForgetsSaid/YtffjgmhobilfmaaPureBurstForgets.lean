/- A long row is forgotten by a quarter each time, and wholly after a hundred times. No condition. -/
import Derived.Test.YtffjgmhobilfmaaPBurstForgetsx1
namespace Go.Proofs.Ytffjgmhobilfmaa.Pure
open Go.RowKit Go.Proofs.Ytffjgmhobilfmaa.PBurstForgets Go.Proofs.YtffjgmhobilfmaaW.PrintWords Go.Proofs.YtffjgmhobilfmaaW.PrintLast
namespace Forgets

theorem w64 {n : Int} (h : -9223372036854775808 ≤ n) (h2 : n < 9223372036854775808) : wrap64 n = n := by unfold wrap64; omega
theorem u8_bd {n : Int} (h : (Lit.int .u8 n).wf = true) : 0 ≤ n ∧ n < 256 := by
  simp [Lit.wf, show IntKind.u8.min = 0 from by decide, show IntKind.u8.max = 255 from by decide] at h
  omega
theorem u16_bd {n : Int} (h : (Lit.int .u16 n).wf = true) : 0 ≤ n ∧ n < 65536 := by
  simp [Lit.wf, show IntKind.u16.min = 0 from by decide, show IntKind.u16.max = 65535 from by decide] at h
  omega

/-- what the greatest row has come to behind so many looks -/
def most : Nat → Int
  | 0 => 1048575
  | n + 1 => most n * 3 / 4

theorem most_first : most 0 = 1048575 := by simp only [most]
theorem most_next (n : Nat) : most (n + 1) = most n * 3 / 4 := by simp only [most]
theorem most_zero (n : Nat) : most (100 + n) = 0 := by
  induction n with
  | zero => decide +kernel
  | succ n ih => rw [show 100 + (n + 1) = (100 + n) + 1 from rfl, most_next, ih]; decide

theorem add_zero (v : Int) (h0 : 0 ≤ v) (h1 : v ≤ 1048575) : burst_Burst_Add.f v true 0 = some (v * 3 / 4, true) := by
  unfold burst_Burst_Add.f
  rw [if_pos rfl, w64 (n := 0) (by omega) (by omega), w64 (n := 16 * 0) (by omega) (by omega), w64 (n := 3 * v) (by omega) (by omega), w64 (n := 3 * v + 16 * 0) (by omega) (by omega), Int.tdiv_eq_ediv_of_nonneg (by omega), w64 (by omega) (by omega)]
  rw [show 3 * v + 16 * 0 = v * 3 by omega]

theorem rounds (t : Nat) (ht : t < 256) (d : Nat) : ∀ (k i : Nat) (v : Int), i + d = t → d < k → 0 ≤ v → v ≤ most i → v ≤ 1048575 →
    girandolelaw18_BurstForgets.l0 k t v i v true = some true := by
  induction d with
  | zero =>
    intro k i v hi hk h0 h1 h2
    obtain ⟨k, rfl⟩ : ∃ m, k = m + 1 := ⟨k - 1, by omega⟩
    simp only [girandolelaw18_BurstForgets.l0]
    rw [w64 (n := (t : Int)) (by omega) (by omega), if_neg (by omega)]
    by_cases ht : (t : Int) < 100
    · rw [if_pos ht]
    · rw [if_neg ht]
      obtain ⟨j, rfl⟩ : ∃ j, i = 100 + j := ⟨i - 100, by omega⟩
      rw [most_zero] at h1
      obtain rfl : v = 0 := by omega
      rfl
  | succ d ih =>
    intro k i v hi hk h0 h1 h2
    obtain ⟨k, rfl⟩ : ∃ m, k = m + 1 := ⟨k - 1, by omega⟩
    simp only [girandolelaw18_BurstForgets.l0]
    rw [w64 (n := (t : Int)) (by omega) (by omega), if_pos (by omega), add_zero v h0 h2]
    simp only [Option.bind_some, burst_Burst_Value.f]
    rw [w64 (n := v * 3) (by omega) (by omega), Int.tdiv_eq_ediv_of_nonneg (by omega), w64 (n := v * 3 / 4) (by omega) (by omega), if_pos rfl, w64 (n := (i : Int) + 1) (by omega) (by omega)]
    have h := ih k (i + 1) (v * 3 / 4) (by omega) (by omega) (by omega) (by rw [most_next]; omega) (by omega)
    rw [Int.natCast_add, Int.natCast_one] at h
    exact h



theorem new_ev : burst_New.f = some (0, false) := by unfold burst_New.f; simp
theorem bs {α β : Type} (x : α) (f : α → Option β) : (some x).bind f = f x := by simp
theorem bg : girandolelaw18_begun.f = some true := by decide +kernel
theorem first (n : Int) (n0 : 0 ≤ n) (n1 : n < 65536) : burst_Burst_Add.f 0 false n = some (16 * n, true) := by
    unfold burst_Burst_Add.f
    rw [if_neg Bool.false_ne_true, w64 (n := n) (by omega) (by omega), w64 (n := 16 * n) (by omega) (by omega)]
theorem all (n : Int) (t : Nat) (n0 : 0 ≤ n) (n1 : n < 65536) (ht : t < 256) : girandolelaw18_BurstForgets.l0 (t + 1) t (wrap64 (16 * wrap64 n)) 0 (16 * n) true = some true := by
  rw [w64 (n := n) (by omega) (by omega), w64 (n := 16 * n) (by omega) (by omega)]
  have h := rounds t (by omega) t (t + 1) 0 (16 * n) (by omega) (by omega) (by omega) (by rw [most_first]; omega) (by omega)
  rw [Int.natCast_zero] at h
  exact h
end Forgets

open Forgets in
theorem BurstForgets : girandolelaw18_BurstForgets.Pure := by
  intro n t wn wt
  obtain ⟨n0, n1⟩ := u16_bd wn
  obtain ⟨t0, t1⟩ := u8_bd wt
  obtain ⟨t, rfl⟩ := Int.eq_ofNat_of_zero_le t0
  refine ⟨t + 1, ?_⟩
  unfold girandolelaw18_BurstForgets.f
  rw [bg, bs, if_pos rfl, new_ev, bs, first n n0 n1, bs]
  exact all n t n0 n1 (by omega)

end Go.Proofs.Ytffjgmhobilfmaa.Pure
