/- Of two numbers that are not just half a round apart one is behind the other, and moved alike they stay so. No condition. -/
import Derived.Test.YtffikjoonelooaaPSerialRoundx1
import Derived.Test.YtffikjoonelooaaHelp
namespace Go.Proofs.Ytffikjoonelooaa.Pure
set_option linter.unusedVariables false
open Go.RowKit Go.Proofs.Ytffikjoonelooaa.PSerialRound Go.Proofs.YtffikjoonelooaaW.PrintWords Go.Proofs.YtffikjoonelooaaW.PrintLast
namespace Round
open Go.Proofs.Ytffikjoonelooaa.Help

/-- how far b is behind a -/
def dif (a b : Int) : Int := (b - a + 32768) % 65536 - 32768
theorem wi16 (n : Int) : IntKind.i16.wrap n = (n + 32768) % 65536 - 32768 := by
  simp only [IntKind.wrap, IntKind.bits, IntKind.signed]; simp; split <;> omega
theorem diff_ev (a b : Int) (a0 : 0 ≤ a) (a1 : a < 65536) (b0 : 0 ≤ b) (b1 : b < 65536) : serial_Diff.f a b = some (dif a b) := by
  unfold serial_Diff.f dif
  rw [wu16, wi16, w64 (by omega) (by omega)]
  congr 1
  omega
theorem less_ev (a b : Int) (a0 : 0 ≤ a) (a1 : a < 65536) (b0 : 0 ≤ b) (b1 : b < 65536) : serial_Less.f a b = some (decide (dif a b > 0)) := by
  unfold serial_Less.f
  rw [diff_ev a b a0 a1 b0 b1, bs]
theorem bg : girandolelaw8_begun.f = some true := by decide +kernel

end Round

open Round Go.Proofs.Ytffikjoonelooaa.Help in
theorem SerialRound : girandolelaw8_SerialRound.Pure := by
  intro a b m wa wb wm
  obtain ⟨a0, a1⟩ := u16_bd wa
  obtain ⟨b0, b1⟩ := u16_bd wb
  obtain ⟨m0, m1⟩ := u16_bd wm
  refine ⟨1, ?_⟩
  have d0 : -32768 ≤ dif a b := by unfold dif; omega
  have d1 : dif a b ≤ 32767 := by unfold dif; omega
  have d2 : (a + dif a b) % 65536 = b := by unfold dif; omega
  have d3 : dif ((a + m) % 65536) ((b + m) % 65536) = dif a b := by unfold dif; omega
  have d4 : dif a b = -32768 → dif b a = -32768 := by unfold dif; omega
  have d5 : dif a b ≠ -32768 → dif b a = - dif a b := by unfold dif; omega
  have d6 : dif a b = 0 ↔ a = b := by unfold dif; omega
  unfold girandolelaw8_SerialRound.f
  rw [bg, bs, if_pos rfl, diff_ev a b a0 a1 b0 b1, bs, less_ev a b a0 a1 b0 b1]
  simp only [wu16]
  rw [diff_ev _ _ (by omega) (by omega) (by omega) (by omega), d3, bs, bs]
  generalize hd : dif a b = d at *
  rw [if_neg (by omega), if_neg (by omega), w64 (n := a) (by omega) (by omega), w64 (n := a + d) (by omega) (by omega), d2, if_pos rfl, if_pos rfl]
  rw [show (decide (d > 0) != decide (d > 0)) = false by simp]
  simp only [girandolelaw8_SerialRound.j0]
  rw [if_neg Bool.false_ne_true, less_ev a b a0 a1 b0 b1, less_ev b a b0 b1 a0 a1, diff_ev b a b0 b1 a0 a1, bs, bs, bs, bs, hd]
  by_cases h : d = -32768
  · rw [if_pos h, decide_eq_false (by omega), if_neg Bool.false_ne_true, d4 h]
    rfl
  · rw [if_neg h, d5 h, w64 (n := -d) (by omega) (by omega), if_pos rfl]
    rw [show (decide (-d > 0) == decide (d < 0)) = true by simp, if_pos rfl]
    by_cases hab : a = b
    · rw [beq_iff_eq.mpr hab, beq_iff_eq.mpr (d6.mpr hab)]; rfl
    · rw [beq_eq_false_iff_ne.mpr hab, beq_eq_false_iff_ne.mpr (fun h => hab (d6.mp h))]; rfl

end Go.Proofs.Ytffikjoonelooaa.Pure
