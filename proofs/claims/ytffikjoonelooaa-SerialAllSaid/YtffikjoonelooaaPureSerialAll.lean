/- Which numbers are behind which, and which number each one is, is what the document says, in any run (60 numbers at most). No condition. -/
import Derived.Test.YtffikjoonelooaaPSerialAllx2
import Derived.Test.YtffikjoonelooaaHelp
namespace Go.Proofs.Ytffikjoonelooaa.Pure
set_option linter.unusedVariables false
open Go.RowKit Go.Proofs.Ytffikjoonelooaa.PSerialAll Go.Proofs.YtffikjoonelooaaW.PrintWords Go.Proofs.YtffikjoonelooaaW.PrintLast Go.Proofs.YtffikjoonelooaaW.PrintMore
namespace SerialAlls
open Go.Proofs.Ytffikjoonelooaa.Help

/-- how far b is behind a -/
def dif (a b : Int) : Int := (b - a + 32768) % 65536 - 32768
theorem wi16 (n : Int) : IntKind.i16.wrap n = (n + 32768) % 65536 - 32768 := by
  simp only [IntKind.wrap, IntKind.bits, IntKind.signed]; simp; split <;> omega
theorem diff_ev (a b : Int) (a0 : 0 ≤ a) (a1 : a < 65536) (b0 : 0 ≤ b) (b1 : b < 65536) : serial_Diff.f a b = some (dif a b) := by
  unfold serial_Diff.f dif
  rw [wu16, wi16, w64 (by omega) (by omega)]
  congr 1
  omega
theorem bg : girandolelaw8_begun.f = some true := by decide +kernel
theorem new_ev : serial_New.f = some (0, false) := by unfold serial_New.f; simp

theorem u16_rd (xs : List Int) (hx : ∀ x ∈ xs, (Lit.int .u16 x).wf = true) (i : Int) (h0 : 0 ≤ i) (h : i < xs.length) : (Lit.int .u16 (rd xs i)).wf = true := by
  unfold rd
  have h1 : i.toNat < xs.length := by omega
  rw [List.getD_eq_getElem?_getD, List.getElem?_eq_getElem h1]
  exact hx _ (List.getElem_mem h1)

theorem refdiff_ev (a b : Int) (a0 : 0 ≤ a) (a1 : a < 65536) (b0 : 0 ≤ b) (b1 : b < 65536) : girandoleref7_Diff.f a b = some (dif a b) := by
  unfold girandoleref7_Diff.f dif
  rw [w64 (n := a) (by omega) (by omega), w64 (n := b) (by omega) (by omega), w64 (n := b - a) (by omega) (by omega), w64 (n := b - a + 65536) (by omega) (by omega), Int.tmod_eq_emod_of_nonneg (by omega)]
  split
  · rw [w64 (by omega) (by omega)]; congr 1; omega
  · congr 1; omega

theorem less_ev (a b : Int) (a0 : 0 ≤ a) (a1 : a < 65536) (b0 : 0 ≤ b) (b1 : b < 65536) : serial_Less.f a b = some (decide (dif a b > 0)) := by
  unfold serial_Less.f
  rw [diff_ev a b a0 a1 b0 b1, bs]
theorem refless_ev (a b : Int) (a0 : 0 ≤ a) (a1 : a < 65536) (b0 : 0 ≤ b) (b1 : b < 65536) : girandoleref7_Less.f a b = some (decide (dif a b > 0)) := by
  unfold girandoleref7_Less.f
  rw [refdiff_ev a b a0 a1 b0 b1, bs]

theorem step (has : Bool) (top n : Int) (n0 : 0 ≤ n) (n1 : n < 65536) (t0 : 0 ≤ top) (t1 : top < 100000000) (ht : has = true → 65536 ≤ top) (hf : has = false → top = 0) :
    ∃ x top', serial_Ext_Extend.f top has n = some (x, top', true) ∧ girandoleref7_Ext_Extend.f has top n = some (x, true, top') ∧ 65536 ≤ top' ∧ top' ≤ top + 32768 + (if has then 0 else 131072) := by
  cases has with
  | false =>
    refine ⟨65536 + n, 65536 + n, ?_, ?_, by omega, ?_⟩
    · unfold serial_Ext_Extend.f
      rw [if_neg Bool.false_ne_true, wu64 (n := n) (by omega) (by omega), wu64 (n := 65536 + n) (by omega) (by omega)]
    · unfold girandoleref7_Ext_Extend.f
      rw [if_neg Bool.false_ne_true, wu64 (n := n) (by omega) (by omega), wu64 (n := 65536 + n) (by omega) (by omega)]
    · rw [if_neg Bool.false_ne_true]; omega
  | true =>
    have h1 := ht rfl
    have d0 : -32768 ≤ dif (top % 65536) n ∧ dif (top % 65536) n ≤ 32767 := by unfold dif; omega
    have e1 := diff_ev (top % 65536) n (by omega) (by omega) n0 n1
    have e2 := refdiff_ev (top % 65536) n (by omega) (by omega) n0 n1
    generalize dif (top % 65536) n = d at *
    refine ⟨top + d, mx top (top + d), ?_, ?_, ?_, ?_⟩
    · unfold serial_Ext_Extend.f
      rw [if_pos rfl, wu16, e1, bs, w64 (n := top) (by omega) (by omega), w64 (n := top + d) (by omega) (by omega), if_neg (by omega), wu64 (n := top + d) (by omega) (by omega)]
    · unfold girandoleref7_Ext_Extend.f
      rw [if_pos rfl, Int.tmod_eq_emod_of_nonneg t0, wu16, Int.emod_emod_of_dvd _ (by decide), e2, bs, w64 (n := top) (by omega) (by omega), w64 (n := top + d) (by omega) (by omega), wu64 (n := top + d) (by omega) (by omega)]
    · unfold mx; split <;> omega
    · rw [if_pos rfl]; unfold mx; split <;> omega

theorem rounds (a b : Int) (a0 : 0 ≤ a) (a1 : a < 65536) (b0 : 0 ≤ b) (b1 : b < 65536) (xs : List Int) (hx : ∀ x ∈ xs, (Lit.int .u16 x).wf = true) (hlen : xs.length ≤ 60) (d : Nat) : ∀ (k i : Nat) (top : Int) (has : Bool), i + d = xs.length → d < k → 0 ≤ top → top ≤ 200000 * i → (has = true → 65536 ≤ top) → (has = false → top = 0) →
    girandolelaw8_SerialAll.l0 k a b xs i top has has top = some true := by
  induction d with
  | zero =>
    intro k i top has hi hk t0 t1 ht hf
    obtain ⟨k, rfl⟩ : ∃ m, k = m + 1 := ⟨k - 1, by omega⟩
    simp only [girandolelaw8_SerialAll.l0]
    rw [if_neg (by omega)]
    unfold serial_Ext_Top_nil.f
    rw [bs, less_ev a b a0 a1 b0 b1, bs, refless_ev a b a0 a1 b0 b1, bs, if_pos (by simp), diff_ev a b a0 a1 b0 b1, bs, refdiff_ev a b a0 a1 b0 b1, bs, if_pos rfl]
    unfold serial_Ext_Extend_nil.f
    rw [bs, if_pos rfl]
    rfl
  | succ d ih =>
    intro k i top has hi hk t0 t1 ht hf
    obtain ⟨k, rfl⟩ : ∃ m, k = m + 1 := ⟨k - 1, by omega⟩
    obtain ⟨p0, p1⟩ := u16_bd (u16_rd xs hx i (by omega) (by omega))
    simp only [girandolelaw8_SerialAll.l0]
    rw [if_pos (by omega), if_pos (by omega)]
    generalize rd xs (i : Int) = p at *
    obtain ⟨x, top', e1, e2, u0, u1⟩ := step has top p p0 p1 t0 (by omega) ht hf
    have u2 : top' ≤ 200000 * ((i + 1 : Nat) : Int) := by split at u1 <;> omega
    have g := ih k (i + 1) top' true (by omega) (by omega) (by omega) u2 (fun _ => u0) (fun h => by cases h)
    rw [Int.natCast_add, Int.natCast_one] at g
    rw [e1, bs, e2, bs, if_pos rfl, w64 (n := (i : Int) + 1) (by omega) (by omega)]
    unfold serial_Ext_Top.f
    rw [bs, if_pos rfl, if_neg (by simp)]
    exact g

end SerialAlls

open SerialAlls Go.Proofs.Ytffikjoonelooaa.Help in
theorem SerialAll : girandolelaw8_SerialAll.Pure := by
  intro a b xs wa wb _ _ hx
  obtain ⟨a0, a1⟩ := u16_bd wa
  obtain ⟨b0, b1⟩ := u16_bd wb
  refine ⟨xs.length + 1, ?_⟩
  unfold girandolelaw8_SerialAll.f
  rw [bg, bs, if_pos rfl]
  by_cases h1 : (xs.length : Int) > 60
  · rw [if_pos h1]
  · rw [if_neg h1, new_ev, bs]
    have g := rounds a b a0 a1 b0 b1 xs hx (by omega) xs.length (xs.length + 1) 0 0 false (by omega) (by omega) (by omega) (by omega) (fun h => by cases h) (fun _ => rfl)
    rw [Int.natCast_zero] at g
    exact g

end Go.Proofs.Ytffikjoonelooaa.Pure
