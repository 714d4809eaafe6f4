/- Numbers that come at most 32,767 from the greatest one so far are told as they are. No condition. -/
import Derived.Test.YtffikjoonelooaaPSerialWindowx1
import Derived.Test.YtffikjoonelooaaHelp
namespace Go.Proofs.Ytffikjoonelooaa.Pure
set_option linter.unusedVariables false
open Go.RowKit Go.Proofs.Ytffikjoonelooaa.PSerialWindow Go.Proofs.YtffikjoonelooaaW.PrintWords Go.Proofs.YtffikjoonelooaaW.PrintLast Go.Proofs.YtffikjoonelooaaW.PrintMore
namespace Window
open Go.Proofs.Ytffikjoonelooaa.Help

/-- how far b is behind a -/
def dif (a b : Int) : Int := (b - a + 32768) % 65536 - 32768
theorem wi16 (n : Int) : IntKind.i16.wrap n = (n + 32768) % 65536 - 32768 := by
  simp only [IntKind.wrap, IntKind.bits, IntKind.signed]; simp; split <;> omega
theorem diff_ev (a b : Int) (a0 : 0 ≤ a) (a1 : a < 65536) (b0 : 0 ≤ b) (b1 : b < 65536) : serial_Diff.f a b = some (dif a b) := by
  unfold serial_Diff.f dif
  rw [wu16, wi16, w64 (by omega) (by omega)]
  congr 1
  omega
theorem bg : girandolelaw8_begun.f = some true := by decide +kernel
theorem new_ev : serial_New.f = some (0, false) := by unfold serial_New.f; simp

theorem i16_rd (xs : List Int) (hx : ∀ x ∈ xs, (Lit.int .i16 x).wf = true) (i : Int) (h0 : 0 ≤ i) (h : i < xs.length) : -32768 ≤ rd xs i ∧ rd xs i < 32768 := by
  unfold rd
  have h1 : i.toNat < xs.length := by omega
  rw [List.getD_eq_getElem?_getD, List.getElem?_eq_getElem h1]
  exact i16_bd (hx _ (List.getElem_mem h1))

theorem mod16 (x : Int) (h0 : 0 ≤ x) (h1 : x < 1000000000) : IntKind.u16.wrap (Int.tmod x 65536) = x % 65536 := by
  rw [wu16, Int.tmod_eq_emod_of_nonneg h0]; omega

theorem ext_ev (top w : Int) (t0 : 65536 ≤ top) (t1 : top < 100000000) (w0 : -32768 < w) (w1 : w < 32768) :
    serial_Ext_Extend.f top true ((top + w) % 65536) = some (top + w, mx top (top + w), true) := by
  unfold serial_Ext_Extend.f
  have e : dif (top % 65536) ((top + w) % 65536) = w := by unfold dif; omega
  rw [if_pos rfl, wu16, diff_ev _ _ (by omega) (by omega) (by omega) (by omega), e, bs, w64 (n := top) (by omega) (by omega), w64 (n := top + w) (by omega) (by omega), if_neg (by omega), wu64 (n := top + w) (by omega) (by omega)]

theorem rounds (xs : List Int) (hx : ∀ x ∈ xs, (Lit.int .i16 x).wf = true) (hlen : xs.length ≤ 60) (d : Nat) : ∀ (k i : Nat) (top : Int), i + d = xs.length → d < k → 65536 ≤ top → top ≤ 131071 + 32767 * i →
    girandolelaw8_SerialWindow.l0 k xs top i top true = some true := by
  induction d with
  | zero =>
    intro k i top hi hk t0 t1
    obtain ⟨k, rfl⟩ : ∃ m, k = m + 1 := ⟨k - 1, by omega⟩
    simp only [girandolelaw8_SerialWindow.l0]
    rw [if_neg (by omega)]
  | succ d ih =>
    intro k i top hi hk t0 t1
    obtain ⟨k, rfl⟩ : ∃ m, k = m + 1 := ⟨k - 1, by omega⟩
    obtain ⟨p0, p1⟩ := i16_rd xs hx i (by omega) (by omega)
    simp only [girandolelaw8_SerialWindow.l0]
    rw [if_pos (by omega), if_pos (by omega)]
    generalize rd xs (i : Int) = w at *
    rw [w64 (n := (i : Int) + 1) (by omega) (by omega)]
    by_cases hw : w = -32768
    · have g := ih k (i + 1) top (by omega) (by omega) t0 (by omega)
      rw [Int.natCast_add, Int.natCast_one] at g
      rw [if_pos hw]
      exact g
    · have hm : 65536 ≤ mx top (top + w) ∧ mx top (top + w) ≤ 131071 + 32767 * ((i + 1 : Nat) : Int) := by unfold mx; split <;> omega
      have g := ih k (i + 1) (mx top (top + w)) (by omega) (by omega) hm.1 hm.2
      rw [Int.natCast_add, Int.natCast_one] at g
      rw [if_neg hw, w64 (n := top) (by omega) (by omega), w64 (n := w) (by omega) (by omega), w64 (n := top + w) (by omega) (by omega), wu64 (n := top + w) (by omega) (by omega), mod16 _ (by omega) (by omega), ext_ev top w t0 (by omega) (by omega) (by omega), bs, if_pos rfl]
      unfold serial_Ext_Top.f
      rw [bs, if_pos rfl, if_pos rfl]
      exact g

end Window

open Window Go.Proofs.Ytffikjoonelooaa.Help in
theorem SerialWindow : girandolelaw8_SerialWindow.Pure := by
  intro a xs wa _ _ hx
  obtain ⟨a0, a1⟩ := u16_bd wa
  refine ⟨xs.length + 1, ?_⟩
  unfold girandolelaw8_SerialWindow.f
  rw [bg, bs, if_pos rfl]
  by_cases h1 : (xs.length : Int) > 60
  · rw [if_pos h1]
  · rw [if_neg h1, new_ev, bs]
    have e : serial_Ext_Extend.f 0 false a = some (65536 + a, 65536 + a, true) := by
      unfold serial_Ext_Extend.f
      rw [if_neg Bool.false_ne_true, wu64 (n := a) (by omega) (by omega), wu64 (n := 65536 + a) (by omega) (by omega)]
    rw [e, bs, wu64 (n := a) (by omega) (by omega), wu64 (n := 65536 + a) (by omega) (by omega), if_pos rfl]
    have g := rounds xs hx (by omega) xs.length (xs.length + 1) 0 (65536 + a) (by omega) (by omega) (by omega) (by omega)
    rw [Int.natCast_zero] at g
    exact g

end Go.Proofs.Ytffikjoonelooaa.Pure
