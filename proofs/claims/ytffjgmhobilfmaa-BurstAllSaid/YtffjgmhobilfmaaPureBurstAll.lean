/- How long rows are that are lost is what the document says, and lies between what was looked at, for any looks (60 at most). No condition. -/
import Derived.Test.YtffjgmhobilfmaaPBurstAllx2
import Derived.Test.YtffjgmhobilfmaaHelp
namespace Go.Proofs.Ytffjgmhobilfmaa.Pure
set_option linter.unusedVariables false
open Go.RowKit Go.Proofs.Ytffjgmhobilfmaa.PBurstAll Go.Proofs.YtffjgmhobilfmaaW.PrintWords Go.Proofs.YtffjgmhobilfmaaW.PrintLast Go.Proofs.YtffjgmhobilfmaaW.PrintMore
namespace BurstAlls
open Go.Proofs.Ytffjgmhobilfmaa.Help
theorem new_ev : burst_New.f = some (0, false) := by unfold burst_New.f; simp
theorem bg : girandolelaw18_begun.f = some true := by decide +kernel

theorem u16_rd (xs : List Int) (hx : ∀ x ∈ xs, (Lit.int .u16 x).wf = true) (i : Int) (h0 : 0 ≤ i) (h : i < xs.length) : (Lit.int .u16 (rd xs i)).wf = true := by
  unfold rd
  have h1 : i.toNat < xs.length := by omega
  rw [List.getD_eq_getElem?_getD, List.getElem?_eq_getElem h1]
  exact hx _ (List.getElem_mem h1)

theorem look_ev (n : Int) (n0 : 0 ≤ n) (n1 : n < 65536) : wrap64 (16 * (wrap64 n)) = 16 * n := by
  rw [w64 (n := n) (by omega) (by omega), w64 (n := 16 * n) (by omega) (by omega)]

/-- what holds at each round's head -/
def Inv (lo hi v : Int) (has : Bool) : Prop := 0 ≤ v ∧ v ≤ 1048575 ∧ (has = true → lo ≤ v ∧ v ≤ hi)

theorem step (lo hi v : Int) (has : Bool) (hv : Inv lo hi v has) (n : Int) (n0 : 0 ≤ n) (n1 : n < 65536) :
    ∃ v', burst_Burst_Add.f v has n = some (v', true) ∧ girandoleref12_Burst_Add.f has v n = some (true, v') ∧ Inv (mn lo (16 * n)) (mx hi (16 * n)) v' true := by
  obtain ⟨h1, h2, h3⟩ := hv
  cases has with
  | false =>
    refine ⟨16 * n, ?_, ?_, ?_⟩
    · unfold burst_Burst_Add.f
      rw [look_ev n n0 n1, if_neg Bool.false_ne_true]
    · unfold girandoleref12_Burst_Add.f
      rw [look_ev n n0 n1, if_neg Bool.false_ne_true]
    · unfold Inv mn mx
      split <;> split <;> exact ⟨by omega, by omega, fun _ => ⟨by omega, by omega⟩⟩
  | true =>
    obtain ⟨h4, h5⟩ := h3 rfl
    refine ⟨(3 * v + 16 * n) / 4, ?_, ?_, ?_⟩
    · unfold burst_Burst_Add.f
      rw [look_ev n n0 n1, if_pos rfl, w64 (n := 3 * v) (by omega) (by omega), w64 (n := 3 * v + 16 * n) (by omega) (by omega), Int.tdiv_eq_ediv_of_nonneg (by omega), w64 (n := (3 * v + 16 * n) / 4) (by omega) (by omega)]
    · unfold girandoleref12_Burst_Add.f
      rw [look_ev n n0 n1, if_pos rfl, w64 (n := 3 * v) (by omega) (by omega), w64 (n := 3 * v + 16 * n) (by omega) (by omega), Int.tdiv_eq_ediv_of_nonneg (by omega), w64 (n := (3 * v + 16 * n) / 4) (by omega) (by omega)]
    · unfold Inv mn mx
      split <;> split <;> exact ⟨by omega, by omega, fun _ => ⟨by omega, by omega⟩⟩

theorem val_ev (v : Int) (has : Bool) : burst_Burst_Value.f v has = some (v, v, has) := by unfold burst_Burst_Value.f; simp

theorem rounds (xs : List Int) (hx : ∀ x ∈ xs, (Lit.int .u16 x).wf = true) (hlen : xs.length ≤ 60) (d : Nat) : ∀ (k i : Nat) (lo hi v : Int) (has : Bool), i + d = xs.length → d < k → Inv lo hi v has →
    girandolelaw18_BurstAll.l0 k xs lo hi i v has has v = some true := by
  induction d with
  | zero =>
    intro k i lo hi v has hi' hk hv
    obtain ⟨k, rfl⟩ : ∃ m, k = m + 1 := ⟨k - 1, by omega⟩
    simp only [girandolelaw18_BurstAll.l0]
    rw [if_neg (by omega)]
    rfl
  | succ d ih =>
    intro k i lo hi v has hi' hk hv
    obtain ⟨k, rfl⟩ : ∃ m, k = m + 1 := ⟨k - 1, by omega⟩
    obtain ⟨p0, p1⟩ := u16_bd (u16_rd xs hx i (by omega) (by omega))
    simp only [girandolelaw18_BurstAll.l0]
    rw [if_pos (by omega), if_pos (by omega)]
    generalize rd xs (i : Int) = p at *
    obtain ⟨v', e1, e2, hv'⟩ := step lo hi v has hv p p0 p1
    have g := ih k (i + 1) _ _ v' true (by omega) (by omega) hv'
    rw [Int.natCast_add, Int.natCast_one] at g
    obtain ⟨_, _, hb⟩ := hv'
    obtain ⟨b0, b1⟩ := hb rfl
    rw [look_ev p p0 p1, e1, bs, e2, bs, val_ev, bs, if_pos rfl, val_ev, bs, if_neg (show ¬ v' < mn lo (16 * p) by omega), val_ev, bs, if_neg (show ¬ v' > mx hi (16 * p) by omega), w64 (n := (i : Int) + 1) (by omega) (by omega)]
    exact g

end BurstAlls

open BurstAlls Go.Proofs.Ytffjgmhobilfmaa.Help in
theorem BurstAll : girandolelaw18_BurstAll.Pure := by
  intro xs _ _ hx
  refine ⟨xs.length + 1, ?_⟩
  unfold girandolelaw18_BurstAll.f
  rw [bg, bs, if_pos rfl]
  by_cases h1 : (xs.length : Int) > 60
  · rw [if_pos h1]
  · rw [if_neg h1, new_ev, bs]
    have g := rounds xs hx (by omega) xs.length (xs.length + 1) 0 2097152 0 0 false (by omega) (by omega) ⟨by omega, by omega, fun h => by cases h⟩
    rw [Int.natCast_zero] at g
    exact g

end Go.Proofs.Ytffjgmhobilfmaa.Pure
