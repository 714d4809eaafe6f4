/- TopGone answers true at every input: the statement. No condition. -/
import Derived.Test.YtbilacojhmohmaaGreatBeGonCl
import Derived.Test.YtbilacojhmohmaaGreatBeGonF
import Derived.Test.YtbilacojhmohmaaGreatRows
import Derived.WalkKit
import Derived.ProofKit
import Derived.OpenShut
import Derived.ChangeOld
import Derived.Below
import Derived.SizedLaws
import Derived.ShutString
namespace Go.Proofs.YtbilacojhmohmaaGreat
open Go Go.ChangeShapes Go.WideShapes Go.ChangeAt Go.RowKit
theorem byte_of {a : Int} (w : (Lit.int .u8 a).wf = true) : ∃ n : Nat, a = .ofNat n ∧ n < 256 := by
  have h1 : IntKind.min .u8 = 0 := rfl
  have h2 : IntKind.max .u8 = 255 := rfl
  simp only [Lit.wf, h1, h2, Bool.and_eq_true, decide_eq_true_eq] at w
  exact ⟨a.toNat, by show a = ((a.toNat : Nat) : Int); omega, by omega⟩
/-- an array of six bytes, read -/
theorem open_six {H : Type} {enc : TypeId × Value → H} {P : Program} {w : World} {base b0 : Nat} {spare : Nat → Bool} {held : Bool} {r : Reach} {t e : TypeId} {v : Value} {d : DataW H} {ps : List MemPlace} (ht : P.underlying t = some (.array 6 e)) (he : P.underlying e = some (.int .u8)) (hc : P.cellsOf t = 6) (hce : P.cellsOf e = 1)
    (hval : Value.okWide P w r b0 t v) (hd : DataW.Trod enc P w base spare held t v d ps) :
    ∃ ns : List Nat, ns.length = 6 ∧ (∀ n ∈ ns, n < 256) ∧ v = .agg (ns.map fun n => Value.int .u8 (.ofNat n)).toArray ∧ d = .agg (ns.map fun n => DataW.lit (.int .u8 (.ofNat n))) ∧ ps = [] := by
  unfold Value.okWide at hval
  rw [ht] at hval
  obtain ⟨cs, rfl, hsz, _⟩ := hval
  obtain ⟨fuel, hf⟩ := hd
  rw [hc] at hsz
  obtain ⟨l⟩ := cs
  simp only [List.size_toArray] at hsz
  match l, hsz with
  | [c0, c1, c2, c3, c4, c5], _ =>
    cases fuel with
    | zero => simp [DataW.trod] at hf
    | succ fuel =>
      have one : ∀ {c : Value} {x : DataW H × List MemPlace}, DataW.trod enc P w base spare held fuel e [c] = some x → ∃ n : Nat, n < 256 ∧ c = .int .u8 (.ofNat n) ∧ x = (.lit (.int .u8 (.ofNat n)), []) := fun h => by
        obtain ⟨n, e1, e2, e3⟩ := DataW.trod_int he h
        simp only [List.cons.injEq, and_true] at e1
        obtain ⟨m, rfl, hm⟩ := byte_of e3
        exact ⟨m, hm, e1, e2⟩
      have hr : List.range 6 = [0, 1, 2, 3, 4, 5] := by decide
      simp only [DataW.trod, Value.cells, ht, hc, hce, hr, List.mapM_cons, List.mapM_nil, List.length_cons, List.length_nil, if_true, Nat.mul_one, Option.map_eq_some_iff, Option.bind_eq_bind, Option.bind_eq_some_iff, Option.pure_def, Option.some.injEq] at hf
      obtain ⟨_, ⟨x0, h0, _, ⟨x1, h1, _, ⟨x2, h2, _, ⟨x3, h3, _, ⟨x4, h4, _, ⟨x5, h5, _, rfl, rfl⟩, rfl⟩, rfl⟩, rfl⟩, rfl⟩, rfl⟩, e⟩ := hf
      obtain ⟨n0, b0, rfl, rfl⟩ := one h0
      obtain ⟨n1, b1, rfl, rfl⟩ := one h1
      obtain ⟨n2, b2, rfl, rfl⟩ := one h2
      obtain ⟨n3, b3, rfl, rfl⟩ := one h3
      obtain ⟨n4, b4, rfl, rfl⟩ := one h4
      obtain ⟨n5, b5, rfl, rfl⟩ := one h5
      simp only [Prod.mk.injEq] at e
      obtain ⟨rfl, rfl⟩ := e
      refine ⟨[n0, n1, n2, n3, n4, n5], rfl, fun n hn => ?_, rfl, rfl, rfl⟩
      simp only [List.mem_cons, List.not_mem_nil, or_false] at hn
      rcases hn with rfl | rfl | rfl | rfl | rfl | rfl <;> assumption
theorem wf_u8 {n : Nat} (h : n < 256) : (Lit.int .u8 (.ofNat n)).wf = true := by
  have h1 : IntKind.min .u8 = 0 := rfl
  have h2 : IntKind.max .u8 = 255 := rfl
  simp only [Lit.wf, h1, h2, Bool.and_eq_true, decide_eq_true_eq]
  exact ⟨Int.natCast_nonneg n, by show (n : Int) ≤ 255; omega⟩
theorem shut_six {H : Type} {enc : TypeId × Value → H} {P : Program} {w : World} {base : Nat} {spare : Nat → Bool} {held : Bool} {t e : TypeId} (ht : P.underlying t = some (.array 6 e)) (he : P.underlying e = some (.int .u8)) (hc : P.cellsOf t = 6) (hce : P.cellsOf e = 1)
    {ns : List Nat} (hl : ns.length = 6) (hb : ∀ n ∈ ns, n < 256) : DataW.Trod enc P w base spare held t (.agg (ns.map fun n => Value.int .u8 (.ofNat n)).toArray) (.agg (ns.map fun n => DataW.lit (.int .u8 (.ofNat n)))) [] := by
  match ns, hl with
  | [n0, n1, n2, n3, n4, n5], _ =>
    have hr : List.range 6 = [0, 1, 2, 3, 4, 5] := by decide
    have w0 : (Lit.int .u8 (n0 : Int)).wf = true := wf_u8 (hb n0 (by simp))
    have w1 : (Lit.int .u8 (n1 : Int)).wf = true := wf_u8 (hb n1 (by simp))
    have w2 : (Lit.int .u8 (n2 : Int)).wf = true := wf_u8 (hb n2 (by simp))
    have w3 : (Lit.int .u8 (n3 : Int)).wf = true := wf_u8 (hb n3 (by simp))
    have w4 : (Lit.int .u8 (n4 : Int)).wf = true := wf_u8 (hb n4 (by simp))
    have w5 : (Lit.int .u8 (n5 : Int)).wf = true := wf_u8 (hb n5 (by simp))
    exact ⟨2, by simp [DataW.trod, Value.cells, ht, he, hc, hce, hr, w0, w1, w2, w3, w4, w5]⟩
end Go.Proofs.YtbilacojhmohmaaGreat
namespace Go.Proofs.YtbilacojhmohmaaGreat.topGone
open Go.ChangeShapes Go.WideShapes Go.ChangeAt Go.RowKit
set_option linter.unusedVariables false
theorem own : ownKnob Tryz.prog.godebug = none := by kernel_rfl
set_option maxRecDepth 100000 in
theorem lifted (os : Os) (started : os.Started) (H : Type) (enc : TypeId × Value → H) :
    ReturnsInHanded {} Tryz.checked os 7 .any (Rows.topGoneSpec.pre6 enc Tryz.prog Tryz.f7 Rows.topGoneRow.domain false) (Rows.topGoneSpec.post enc Tryz.prog Tryz.f7 false true false false) := by
  refine returnsInHanded_of_change_sized (C := Tryz.checked) own started (by kernel_rfl) Tryz.func7
    (ChangeSpec.witness6 (enc := enc) (C := Tryz.checked) false ⟨#[], #[.int .u8 0, .agg #[.int .u8 0, .int .u8 0, .int .u8 0, .int .u8 0, .int .u8 0, .int .u8 0]], []⟩ 8 (by kernel_rfl) (by kernel_rfl) (by kernel_rfl) (by kernel_rfl)) ?_
  intro W base args ds gs before hval0 hW hcnd hsz0 _
  have hval : ∀ (j : Nat) t v, Tryz.f7.params[j]? = some t → args[j]? = some v → Value.okWide Tryz.prog W .any base t v := hval0
  have hW' := hW
  obtain ⟨p, q, hA0, hV, rfl, hfz, hnd⟩ := hW
  have hA : DataW.TrodAll enc Tryz.prog W 0 (fun _ => true) true Tryz.f7.params.toList args.toList ds p := hA0
  rw [Tryz.params7] at hA hval
  obtain ⟨v0, vs0, d0, ds0, p0, q0, hargs, rfl, rfl, h0, r0⟩ := trodAll_cons hA
  obtain ⟨v1, vs1, d1, ds1, p1, q1, rfl, rfl, rfl, h1, r1⟩ := trodAll_cons r0
  obtain ⟨rfl, rfl, rfl⟩ := trodAll_nil r1
  obtain rfl : args = #[v0, v1] := by cases args; simp_all
  obtain ⟨rfl, rfl⟩ := trodVars_none hV
  obtain ⟨a0, rfl, rfl, rfl, w0⟩ := open_int Tryz.underlying5 (hval 0 5 v0 rfl rfl) h0
  obtain ⟨ns, hl, hb, rfl, rfl, rfl⟩ := open_six (e := 5) (by kernel_rfl) Tryz.underlying5 (by kernel_rfl) (by kernel_rfl) (hval 1 56 v1 rfl rfl) h1
  clear hA0 hval0 hsz0
  obtain ⟨n, en, hn⟩ := byte_of w0
  have call := Ae.gone_call n ns hn hl hb W
  rw [← en] at call
  refine call.mono fun e W' ⟨he, ho, hp, bl⟩ => ?_
  subst he
  exact ⟨_, rfl, _, _, _, [], _, [], hW', trodAll_mk1 (shut_bool Tryz.underlying4 _), (trodAll_cons_mk (shut_int Tryz.underlying5 w0) (trodAll_cons_mk (shut_six (e := 5) (by kernel_rfl) Tryz.underlying5 (by kernel_rfl) (by kernel_rfl) hl hb) trodAll_mk0)), rfl, ⟨ho, hp, fun i hi => by rw [bl i hi]; split <;> simp_all⟩, fun h => by cases h⟩
theorem over : Rows.topGoneRow.holds Tryz.pinned (OpenSpec.ofChange Rows.topGoneSpec) :=
  OpenClaim.holds_of_wide 7 Tryz.f7 rfl rfl rfl rfl rfl rfl rfl ⟨rfl, rfl, rfl, rfl, rfl⟩ rfl rfl rfl rfl rfl (by kernel_rfl) Tryz.func7 closed
    (of_decide_eq_true (by kernel_rfl)) (by unfold Func.isWrapper; first | (rw [if_pos (by decide +kernel)]; kernel_rfl) | (rw [if_neg (by decide +kernel)]; exact ⟨rfl, rfl⟩))
    (fun os started H enc _ => lifted os started H enc)
theorem proved : Rows.TopGoneSaid := over
#print axioms proved
end Go.Proofs.YtbilacojhmohmaaGreat.topGone
namespace Go.Proofs.YtbilacojhmohmaaGreat
/-- The row, under a short name, for the claim. -/
theorem topGone_holds : Rows.TopGoneSaid := topGone.proved
end Go.Proofs.YtbilacojhmohmaaGreat
