/- The same look again and again is the value, for every look and however often. No condition. -/
import Derived.Test.YtffjgmhobilfmaaPMeanSamex1
import Derived.Test.YtffjgmhobilfmaaHelp
namespace Go.Proofs.Ytffjgmhobilfmaa.Pure
open Go.RowKit Go.Proofs.Ytffjgmhobilfmaa.PMeanSame Go.Proofs.YtffjgmhobilfmaaW.PrintWords Go.Proofs.YtffjgmhobilfmaaW.PrintLast
namespace Same
open Go.Proofs.Ytffjgmhobilfmaa.Help

/-- the part that is lost -/
def lookv (a b : Int) : Int := a * 65536 / (a + b)

theorem look_bd (a b : Int) (a0 : 0 ≤ a) (b0 : 0 ≤ b) (h : a + b ≠ 0) : 0 ≤ lookv a b ∧ lookv a b ≤ 65536 := by
  unfold lookv
  refine ⟨Int.ediv_nonneg (by omega) (by omega), ?_⟩
  have h1 : a * 65536 / (a + b) * (a + b) ≤ a * 65536 := Int.ediv_mul_le _ h
  have h2 : a * 65536 ≤ 65536 * (a + b) := by omega
  exact Int.le_of_mul_le_mul_right (Int.le_trans h1 h2) (by omega)

theorem new_ev : mean_New.f = some (0, false) := by unfold mean_New.f; simp
theorem bg : girandolelaw17_begun.f = some true := by decide +kernel

theorem look_ev (a b : Int) (a0 : 0 ≤ a) (b0 : 0 ≤ b) (a1 : a < 4294967296) (b1 : b < 4294967296) (h : a + b ≠ 0) :
    IntKind.u64.wrap (Int.tdiv (IntKind.u64.wrap ((IntKind.u64.wrap a) * 65536)) (IntKind.u64.wrap ((IntKind.u64.wrap a) + (IntKind.u64.wrap b)))) = lookv a b := by
  have hl := look_bd a b a0 b0 h
  rw [wu64 (n := a) (by omega) (by omega), wu64 (n := b) (by omega) (by omega), wu64 (n := a * 65536) (by omega) (by omega), wu64 (n := a + b) (by omega) (by omega), Int.tdiv_eq_ediv_of_nonneg (by omega)]
  show IntKind.u64.wrap (lookv a b) = lookv a b
  rw [wu64 (by omega) (by omega)]

theorem all_ev (a b : Int) (a0 : 0 ≤ a) (b0 : 0 ≤ b) (a1 : a < 4294967296) (b1 : b < 4294967296) :
    IntKind.u64.wrap ((IntKind.u64.wrap a) + (IntKind.u64.wrap b)) = a + b := by
  rw [wu64 (n := a) (by omega) (by omega), wu64 (n := b) (by omega) (by omega), wu64 (n := a + b) (by omega) (by omega)]

theorem add_none (v : Int) (has : Bool) : mean_Mean_Add.f v has 0 0 = some (v, has) := by
  unfold mean_Mean_Add.f
  rw [if_pos (by rw [all_ev 0 0 (by omega) (by omega) (by omega) (by omega)]; omega)]

theorem add_first (v : Int) (a b : Int) (a0 : 0 ≤ a) (b0 : 0 ≤ b) (a1 : a < 4294967296) (b1 : b < 4294967296) (h : a + b ≠ 0) :
    mean_Mean_Add.f v false a b = some (lookv a b, true) := by
  unfold mean_Mean_Add.f
  rw [look_ev a b a0 b0 a1 b1 h, all_ev a b a0 b0 a1 b1, if_neg h, if_neg Bool.false_ne_true]

theorem add_next (v : Int) (v0 : 0 ≤ v) (v1 : v ≤ 65536) (a b : Int) (a0 : 0 ≤ a) (b0 : 0 ≤ b) (a1 : a < 4294967296) (b1 : b < 4294967296) (h : a + b ≠ 0) :
    mean_Mean_Add.f v true a b = some ((7 * v + lookv a b) / 8, true) := by
  have hl := look_bd a b a0 b0 h
  unfold mean_Mean_Add.f
  rw [look_ev a b a0 b0 a1 b1 h, all_ev a b a0 b0 a1 b1, if_neg h, if_pos rfl]
  generalize lookv a b = l at *
  rw [wu64 (n := 7 * v) (by omega) (by omega), wu64 (n := 7 * v + l) (by omega) (by omega), Int.tdiv_eq_ediv_of_nonneg (by omega), wu64 (n := (7 * v + l) / 8) (by omega) (by omega)]

theorem rounds (a b : Int) (t : Nat) (ht : t < 256) (want : Int) (w0 : 0 ≤ want) (w1 : want ≤ 65536) (has : Bool) (hadd : mean_Mean_Add.f want has a b = some (want, has)) (d : Nat) : ∀ (k i : Nat), i + d = t + 1 → d < k →
    girandolelaw17_MeanSame.l0 k a b t want i want has = some true := by
  induction d with
  | zero =>
    intro k i hi hk
    obtain ⟨k, rfl⟩ : ∃ m, k = m + 1 := ⟨k - 1, by omega⟩
    simp only [girandolelaw17_MeanSame.l0]
    rw [w64 (n := (t : Int)) (by omega) (by omega), if_neg (by omega)]
  | succ d ih =>
    intro k i hi hk
    obtain ⟨k, rfl⟩ : ∃ m, k = m + 1 := ⟨k - 1, by omega⟩
    have h := ih k (i + 1) (by omega) (by omega)
    rw [Int.natCast_add, Int.natCast_one] at h
    simp only [girandolelaw17_MeanSame.l0]
    rw [w64 (n := (t : Int)) (by omega) (by omega), if_pos (by omega), hadd, bs]
    unfold mean_Mean_Value.f
    rw [bs, w64 (n := want) (by omega) (by omega), if_pos rfl, w64 (n := (i : Int) + 1) (by omega) (by omega)]
    exact h

/-- the first round lays the value -/
theorem firstRound (m : Nat) (a b : Int) (t : Nat) (hm : m = t + 1) (ht : t < 256) (want : Int) (w0 : 0 ≤ want) (w1 : want ≤ 65536) (h0 : mean_Mean_Add.f 0 false a b = some (want, true)) (hadd : mean_Mean_Add.f want true a b = some (want, true)) :
    girandolelaw17_MeanSame.l0 (m + 1) a b t want 0 0 false = some true := by
  have h := rounds a b t ht want w0 w1 true hadd t m 1 (by omega) (by omega)
  rw [Int.natCast_one] at h
  simp only [girandolelaw17_MeanSame.l0]
  rw [w64 (n := (t : Int)) (by omega) (by omega), if_pos (by omega), h0, bs]
  unfold mean_Mean_Value.f
  rw [bs, w64 (n := want) (by omega) (by omega), if_pos rfl, w64 (n := (0 : Int) + 1) (by omega) (by omega)]
  exact h

end Same

open Same Go.Proofs.Ytffjgmhobilfmaa.Help in
theorem MeanSame : girandolelaw17_MeanSame.Pure := by
  intro a b t wa wb wt
  obtain ⟨a0, a1⟩ := u32_bd wa
  obtain ⟨b0, b1⟩ := u32_bd wb
  obtain ⟨t0, t1⟩ := u8_bd wt
  obtain ⟨t, rfl⟩ := Int.eq_ofNat_of_zero_le t0
  refine ⟨t + 3, ?_⟩
  unfold girandolelaw17_MeanSame.f
  rw [bg, bs, if_pos rfl, new_ev, bs]
  by_cases ha : a > 0
  · have hab : a + b ≠ 0 := by omega
    have hl := look_bd a b a0 b0 hab
    rw [if_pos ha, look_ev a b a0 b0 a1 b1 hab, all_ev a b a0 b0 a1 b1, if_neg hab, w64 (n := lookv a b) (by omega) (by omega)]
    simp only [girandolelaw17_MeanSame.j0]
    refine firstRound (t + 1) a b t rfl (by omega) _ hl.1 hl.2 (add_first 0 a b a0 b0 a1 b1 hab) ?_
    rw [add_next _ hl.1 hl.2 a b a0 b0 a1 b1 hab]
    congr 2
    omega
  · obtain rfl : a = 0 := by omega
    rw [if_neg ha]
    simp only [girandolelaw17_MeanSame.j0]
    by_cases hb : b = 0
    · subst hb
      have h := rounds 0 0 t (by omega) 0 (by omega) (by omega) false (add_none 0 false) (t + 1) (t + 2) 0 (by omega) (by omega)
      rw [Int.natCast_zero] at h
      exact h
    · have hab : (0 : Int) + b ≠ 0 := by omega
      have hz : lookv 0 b = 0 := by unfold lookv; rw [Int.zero_mul, Int.zero_ediv]
      refine firstRound (t + 1) 0 b t rfl (by omega) 0 (by omega) (by omega) ?_ ?_
      · rw [add_first 0 0 b (by omega) b0 (by omega) b1 hab, hz]
      · rw [add_next 0 (by omega) (by omega) 0 b (by omega) b0 (by omega) b1 hab, hz]
        congr 1

end Go.Proofs.Ytffjgmhobilfmaa.Pure
