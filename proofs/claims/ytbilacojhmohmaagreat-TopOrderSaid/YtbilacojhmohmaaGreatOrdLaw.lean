/- TopOrder answers true at every input: every order joined, and the statement. No condition. -/
import Derived.Test.YtbilacojhmohmaaGreatOrdC0
import Derived.Test.YtbilacojhmohmaaGreatOrdC1
import Derived.Test.YtbilacojhmohmaaGreatOrdC2
import Derived.Test.YtbilacojhmohmaaGreatOrdC3
import Derived.Test.YtbilacojhmohmaaGreatOrdC4
import Derived.Test.YtbilacojhmohmaaGreatOrdC5
import Derived.Test.YtbilacojhmohmaaGreatOrdC6
import Derived.Test.YtbilacojhmohmaaGreatOrdC7
import Derived.Test.YtbilacojhmohmaaGreatOrdC8
import Derived.Test.YtbilacojhmohmaaGreatOrdC9
import Derived.Test.YtbilacojhmohmaaGreatOrdC10
import Derived.Test.YtbilacojhmohmaaGreatOrdC11
import Derived.Test.YtbilacojhmohmaaGreatOrdCall
import Derived.Test.YtbilacojhmohmaaGreatOrdF
import Derived.ShutString
namespace Go.Proofs.YtbilacojhmohmaaGreat.Ae
open Go
theorem ord_all (a b c : Nat) (ha : a < 6) (hb : b < 5) (hc : c < 4) : exAt [a, b, c] = true := by
  rcases (by omega : a = 0 ∨ a = 1 ∨ a = 2 ∨ a = 3 ∨ a = 4 ∨ a = 5) with rfl | rfl | rfl | rfl | rfl | rfl
  · rcases (by omega : b = 0 ∨ b = 1 ∨ b = 2 ∨ b = 3 ∨ b = 4) with rfl | rfl | rfl | rfl | rfl
    · rcases (by omega : c = 0 ∨ c = 1 ∨ c = 2 ∨ c = 3) with rfl | rfl | rfl | rfl
      · exact ord_0_0_0
      · exact ord_0_0_1
      · exact ord_0_0_2
      · exact ord_0_0_3
    · rcases (by omega : c = 0 ∨ c = 1 ∨ c = 2 ∨ c = 3) with rfl | rfl | rfl | rfl
      · exact ord_0_1_0
      · exact ord_0_1_1
      · exact ord_0_1_2
      · exact ord_0_1_3
    · rcases (by omega : c = 0 ∨ c = 1 ∨ c = 2 ∨ c = 3) with rfl | rfl | rfl | rfl
      · exact ord_0_2_0
      · exact ord_0_2_1
      · exact ord_0_2_2
      · exact ord_0_2_3
    · rcases (by omega : c = 0 ∨ c = 1 ∨ c = 2 ∨ c = 3) with rfl | rfl | rfl | rfl
      · exact ord_0_3_0
      · exact ord_0_3_1
      · exact ord_0_3_2
      · exact ord_0_3_3
    · rcases (by omega : c = 0 ∨ c = 1 ∨ c = 2 ∨ c = 3) with rfl | rfl | rfl | rfl
      · exact ord_0_4_0
      · exact ord_0_4_1
      · exact ord_0_4_2
      · exact ord_0_4_3
  · rcases (by omega : b = 0 ∨ b = 1 ∨ b = 2 ∨ b = 3 ∨ b = 4) with rfl | rfl | rfl | rfl | rfl
    · rcases (by omega : c = 0 ∨ c = 1 ∨ c = 2 ∨ c = 3) with rfl | rfl | rfl | rfl
      · exact ord_1_0_0
      · exact ord_1_0_1
      · exact ord_1_0_2
      · exact ord_1_0_3
    · rcases (by omega : c = 0 ∨ c = 1 ∨ c = 2 ∨ c = 3) with rfl | rfl | rfl | rfl
      · exact ord_1_1_0
      · exact ord_1_1_1
      · exact ord_1_1_2
      · exact ord_1_1_3
    · rcases (by omega : c = 0 ∨ c = 1 ∨ c = 2 ∨ c = 3) with rfl | rfl | rfl | rfl
      · exact ord_1_2_0
      · exact ord_1_2_1
      · exact ord_1_2_2
      · exact ord_1_2_3
    · rcases (by omega : c = 0 ∨ c = 1 ∨ c = 2 ∨ c = 3) with rfl | rfl | rfl | rfl
      · exact ord_1_3_0
      · exact ord_1_3_1
      · exact ord_1_3_2
      · exact ord_1_3_3
    · rcases (by omega : c = 0 ∨ c = 1 ∨ c = 2 ∨ c = 3) with rfl | rfl | rfl | rfl
      · exact ord_1_4_0
      · exact ord_1_4_1
      · exact ord_1_4_2
      · exact ord_1_4_3
  · rcases (by omega : b = 0 ∨ b = 1 ∨ b = 2 ∨ b = 3 ∨ b = 4) with rfl | rfl | rfl | rfl | rfl
    · rcases (by omega : c = 0 ∨ c = 1 ∨ c = 2 ∨ c = 3) with rfl | rfl | rfl | rfl
      · exact ord_2_0_0
      · exact ord_2_0_1
      · exact ord_2_0_2
      · exact ord_2_0_3
    · rcases (by omega : c = 0 ∨ c = 1 ∨ c = 2 ∨ c = 3) with rfl | rfl | rfl | rfl
      · exact ord_2_1_0
      · exact ord_2_1_1
      · exact ord_2_1_2
      · exact ord_2_1_3
    · rcases (by omega : c = 0 ∨ c = 1 ∨ c = 2 ∨ c = 3) with rfl | rfl | rfl | rfl
      · exact ord_2_2_0
      · exact ord_2_2_1
      · exact ord_2_2_2
      · exact ord_2_2_3
    · rcases (by omega : c = 0 ∨ c = 1 ∨ c = 2 ∨ c = 3) with rfl | rfl | rfl | rfl
      · exact ord_2_3_0
      · exact ord_2_3_1
      · exact ord_2_3_2
      · exact ord_2_3_3
    · rcases (by omega : c = 0 ∨ c = 1 ∨ c = 2 ∨ c = 3) with rfl | rfl | rfl | rfl
      · exact ord_2_4_0
      · exact ord_2_4_1
      · exact ord_2_4_2
      · exact ord_2_4_3
  · rcases (by omega : b = 0 ∨ b = 1 ∨ b = 2 ∨ b = 3 ∨ b = 4) with rfl | rfl | rfl | rfl | rfl
    · rcases (by omega : c = 0 ∨ c = 1 ∨ c = 2 ∨ c = 3) with rfl | rfl | rfl | rfl
      · exact ord_3_0_0
      · exact ord_3_0_1
      · exact ord_3_0_2
      · exact ord_3_0_3
    · rcases (by omega : c = 0 ∨ c = 1 ∨ c = 2 ∨ c = 3) with rfl | rfl | rfl | rfl
      · exact ord_3_1_0
      · exact ord_3_1_1
      · exact ord_3_1_2
      · exact ord_3_1_3
    · rcases (by omega : c = 0 ∨ c = 1 ∨ c = 2 ∨ c = 3) with rfl | rfl | rfl | rfl
      · exact ord_3_2_0
      · exact ord_3_2_1
      · exact ord_3_2_2
      · exact ord_3_2_3
    · rcases (by omega : c = 0 ∨ c = 1 ∨ c = 2 ∨ c = 3) with rfl | rfl | rfl | rfl
      · exact ord_3_3_0
      · exact ord_3_3_1
      · exact ord_3_3_2
      · exact ord_3_3_3
    · rcases (by omega : c = 0 ∨ c = 1 ∨ c = 2 ∨ c = 3) with rfl | rfl | rfl | rfl
      · exact ord_3_4_0
      · exact ord_3_4_1
      · exact ord_3_4_2
      · exact ord_3_4_3
  · rcases (by omega : b = 0 ∨ b = 1 ∨ b = 2 ∨ b = 3 ∨ b = 4) with rfl | rfl | rfl | rfl | rfl
    · rcases (by omega : c = 0 ∨ c = 1 ∨ c = 2 ∨ c = 3) with rfl | rfl | rfl | rfl
      · exact ord_4_0_0
      · exact ord_4_0_1
      · exact ord_4_0_2
      · exact ord_4_0_3
    · rcases (by omega : c = 0 ∨ c = 1 ∨ c = 2 ∨ c = 3) with rfl | rfl | rfl | rfl
      · exact ord_4_1_0
      · exact ord_4_1_1
      · exact ord_4_1_2
      · exact ord_4_1_3
    · rcases (by omega : c = 0 ∨ c = 1 ∨ c = 2 ∨ c = 3) with rfl | rfl | rfl | rfl
      · exact ord_4_2_0
      · exact ord_4_2_1
      · exact ord_4_2_2
      · exact ord_4_2_3
    · rcases (by omega : c = 0 ∨ c = 1 ∨ c = 2 ∨ c = 3) with rfl | rfl | rfl | rfl
      · exact ord_4_3_0
      · exact ord_4_3_1
      · exact ord_4_3_2
      · exact ord_4_3_3
    · rcases (by omega : c = 0 ∨ c = 1 ∨ c = 2 ∨ c = 3) with rfl | rfl | rfl | rfl
      · exact ord_4_4_0
      · exact ord_4_4_1
      · exact ord_4_4_2
      · exact ord_4_4_3
  · rcases (by omega : b = 0 ∨ b = 1 ∨ b = 2 ∨ b = 3 ∨ b = 4) with rfl | rfl | rfl | rfl | rfl
    · rcases (by omega : c = 0 ∨ c = 1 ∨ c = 2 ∨ c = 3) with rfl | rfl | rfl | rfl
      · exact ord_5_0_0
      · exact ord_5_0_1
      · exact ord_5_0_2
      · exact ord_5_0_3
    · rcases (by omega : c = 0 ∨ c = 1 ∨ c = 2 ∨ c = 3) with rfl | rfl | rfl | rfl
      · exact ord_5_1_0
      · exact ord_5_1_1
      · exact ord_5_1_2
      · exact ord_5_1_3
    · rcases (by omega : c = 0 ∨ c = 1 ∨ c = 2 ∨ c = 3) with rfl | rfl | rfl | rfl
      · exact ord_5_2_0
      · exact ord_5_2_1
      · exact ord_5_2_2
      · exact ord_5_2_3
    · rcases (by omega : c = 0 ∨ c = 1 ∨ c = 2 ∨ c = 3) with rfl | rfl | rfl | rfl
      · exact ord_5_3_0
      · exact ord_5_3_1
      · exact ord_5_3_2
      · exact ord_5_3_3
    · rcases (by omega : c = 0 ∨ c = 1 ∨ c = 2 ∨ c = 3) with rfl | rfl | rfl | rfl
      · exact ord_5_4_0
      · exact ord_5_4_1
      · exact ord_5_4_2
      · exact ord_5_4_3
end Go.Proofs.YtbilacojhmohmaaGreat.Ae
namespace Go.Proofs.YtbilacojhmohmaaGreat.topOrder
open Go.ChangeShapes Go.WideShapes Go.ChangeAt Go.RowKit
set_option linter.unusedVariables false
theorem own : ownKnob Tryz.prog.godebug = none := by kernel_rfl
set_option maxRecDepth 100000 in
theorem lifted (os : Os) (started : os.Started) (H : Type) (enc : TypeId × Value → H) :
    ReturnsInHanded {} Tryz.checked os 6 .any (Rows.topOrderSpec.pre6 enc Tryz.prog Tryz.f6 Rows.topOrderRow.domain false) (Rows.topOrderSpec.post enc Tryz.prog Tryz.f6 false true false false) := by
  refine returnsInHanded_of_change_sized (C := Tryz.checked) own started (by kernel_rfl) Tryz.func6
    (ChangeSpec.witness6 (enc := enc) (C := Tryz.checked) false ⟨#[], #[.agg #[.int .u8 0, .int .u8 0, .int .u8 0, .int .u8 0, .int .u8 0, .int .u8 0]], []⟩ 8 (by kernel_rfl) (by kernel_rfl) (by kernel_rfl) (by kernel_rfl)) ?_
  intro W base args ds gs before hval0 hW hcnd hsz0 _
  have hval : ∀ (j : Nat) t v, Tryz.f6.params[j]? = some t → args[j]? = some v → Value.okWide Tryz.prog W .any base t v := hval0
  have hW' := hW
  obtain ⟨p, q, hA0, hV, rfl, hfz, hnd⟩ := hW
  have hA : DataW.TrodAll enc Tryz.prog W 0 (fun _ => true) true Tryz.f6.params.toList args.toList ds p := hA0
  rw [Tryz.params6] at hA hval
  obtain ⟨v0, vs0, d0, ds0, p0, q0, hargs, rfl, rfl, h0, r0⟩ := trodAll_cons hA
  obtain ⟨rfl, rfl, rfl⟩ := trodAll_nil r0
  obtain rfl : args = #[v0] := by cases args; simp_all
  obtain ⟨rfl, rfl⟩ := trodVars_none hV
  obtain ⟨ns, hl, hb, rfl, rfl, rfl⟩ := open_six (e := 5) (by kernel_rfl) Tryz.underlying5 (by kernel_rfl) (by kernel_rfl) (hval 0 56 v0 rfl rfl) h0
  clear hA0 hval0 hsz0
  have call := Ae.order_call ns hl hb Ae.ord_pre (Ae.ord_all (ns.getD 0 0 % 6) (ns.getD 1 0 % 5) (ns.getD 2 0 % 4) (Nat.mod_lt _ (by decide)) (Nat.mod_lt _ (by decide)) (Nat.mod_lt _ (by decide))) (fun j a hj => by
    match j with
    | 0 => injection hj with hj; exact hj.symm
    | 1 => injection hj with hj; exact hj.symm
    | 2 => injection hj with hj; exact hj.symm
    | j + 3 => cases hj) W
  refine call.mono fun e W' ⟨he, ho, hp, bl⟩ => ?_
  subst he
  exact ⟨_, rfl, _, _, _, [], _, [], hW', trodAll_mk1 (shut_bool Tryz.underlying4 _), (trodAll_cons_mk (shut_six (e := 5) (by kernel_rfl) Tryz.underlying5 (by kernel_rfl) (by kernel_rfl) hl hb) trodAll_mk0), rfl, ⟨ho, hp, fun i hi => by rw [bl i hi]; split <;> simp_all⟩, fun h => by cases h⟩
theorem over : Rows.topOrderRow.holds Tryz.pinned (OpenSpec.ofChange Rows.topOrderSpec) :=
  OpenClaim.holds_of_wide 6 Tryz.f6 rfl rfl rfl rfl rfl rfl rfl ⟨rfl, rfl, rfl, rfl, rfl⟩ rfl rfl rfl rfl rfl (by kernel_rfl) Tryz.func6 closed
    (of_decide_eq_true (by kernel_rfl)) (by unfold Func.isWrapper; first | (rw [if_pos (by decide +kernel)]; kernel_rfl) | (rw [if_neg (by decide +kernel)]; exact ⟨rfl, rfl⟩))
    (fun os started H enc _ => lifted os started H enc)
theorem proved : Rows.TopOrderSaid := over
#print axioms proved
end Go.Proofs.YtbilacojhmohmaaGreat.topOrder
namespace Go.Proofs.YtbilacojhmohmaaGreat
/-- The row, under a short name, for the claim. -/
theorem topOrder_holds : Rows.TopOrderSaid := topOrder.proved
end Go.Proofs.YtbilacojhmohmaaGreat
