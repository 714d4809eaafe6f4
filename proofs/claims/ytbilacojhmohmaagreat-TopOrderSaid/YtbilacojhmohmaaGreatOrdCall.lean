/- TopOrder's code, called with six bytes, and an array of six bytes as data. No condition. -/
import Derived.Test.YtbilacojhmohmaaGreatOrdGood
import Derived.Test.YtbilacojhmohmaaGreatRows
import Derived.WalkKit
import Derived.ProofKit
import Derived.OpenShut
import Derived.ChangeOld
import Derived.Below
import Derived.SizedLaws
namespace Go.Proofs.YtbilacojhmohmaaGreat.Ae
open Go
set_option linter.unusedVariables false
set_option linter.unusedSimpArgs false
theorem order_call (ns : List Nat) (hns : ns.length = 6) (hb : ∀ n ∈ ns, n < 256) (hp : ordPre = true) {pre : List Nat} (hx : exAt pre = true) (hpre : ∀ j a, pre[j]? = some a → a = ns.getD j 0 % (6 - j)) (w : World) :
    Calls Tryz.prog 6 #[.agg (ns.map fun n => Value.int .u8 (.ofNat n)).toArray] w fun e w' => e = .returned (.bool true) ∧ w'.os = w.os ∧ w'.output = w.output ∧ ∀ i, i < w.heap.size → w'.heap[i]? = w.heap[i]? := by
  obtain ⟨c, hbody, hc⟩ := ord_code
  refine calls_of_wp Tryz.func6 hbody ?_
  let ρ : Nat → Nat := fun i => ns.getD i 0
  have hρ : ∀ i, ρ i < 256 := fun i => by
    show ns.getD i 0 < 256
    rw [List.getD_eq_getElem?_getD]
    cases hq : ns[i]? with
    | none => simp
    | some x => exact hb x (List.mem_of_getElem? hq)
  let E : Env := ⟨[], sy ρ w.os w.output, fun i => w.heap[i]?⟩
  have hg := all_good (fr := fun i => w.heap[i]?) (ρ := ρ) (os := w.os) (out := w.output) hp hx (fun j a hj => by rw [hpre j a hj]; show ρ j % (6 - j) = ρ j % 256 % (6 - j); rw [Nat.mod_eq_of_lt (hρ j)])
  have hs : VRel E (.agg box6) (.agg (ns.map fun n => Value.int .u8 (.ofNat n)).toArray) := by
    refine .agg (LRel.of_get (by simp [box6, hns]) fun i a ha => ?_)
    obtain ⟨hi, rfl⟩ := box_get i a ha
    refine ⟨.int .u8 (.ofNat (ρ i)), ?_, (sym_iff (os := w.os) (out := w.output) rfl i _).2 (by rw [Nat.mod_eq_of_lt (hρ i)]; exact .int _ _)⟩
    have hlt : i < ns.length := by omega
    have e : ρ i = ns[i] := by show ns.getD i 0 = _; simp [List.getD_eq_getElem?_getD, hlt]
    simp [hlt, e]
  have hinit := init_rel (E := E) (args := [.agg box6]) (cargs := [.agg (ns.map fun n => Value.int .u8 (.ofNat n)).toArray]) (n := 165) (.cons hs .nil) (by decide)
  have hA : ActRel E ⟨tmOf [(0, .agg box6)] .leaf, 165, []⟩ { tmps := #[.agg (ns.map fun n => Value.int .u8 (.ofNat n)).toArray] ++ Array.replicate (Tryz.f6.ntmps - (#[.agg (ns.map fun n => Value.int .u8 (.ofNat n)).toArray] : Array Value).size) undef, defers := [] } := by
    refine ⟨?_, fun t v hv => ?_, .nil⟩
    · rw [Tryz.ntmps6]; simp
    · have e : tmOf [(0, .agg box6)] .leaf = slots [.agg box6] 0 .leaf := by kernel_rfl
      rw [e] at hv
      rw [Tryz.ntmps6]
      exact hinit.tmps t v hv
  have hR : Rel E (ofObjs [] 0) w := ⟨rfl, ⟨⟨ρ, rfl⟩, rfl, rfl⟩, fun j x hj => by rw [ofObjs_get] at hj; simp at hj, fun i j oi oj Li Lj hi => by rw [ofObjs_get] at hi; simp at hi, fun _ _ h => h, fun i oi Li hi => by rw [ofObjs_get] at hi; simp at hi⟩
  refine wp_mono (hg c hc E _ w rfl rfl hA hR) fun e a w' ⟨h1, h2, h3, h4, h5, h6⟩ => ?_
  subst h1
  refine ⟨h2, .bool true, ?_, rfl, h4, h5, fun i hi => ?_⟩
  · have : a.tmps.getD 2 undef = .bool true := by simp [Array.getD_eq_getD_getElem?, h3]
    rw [← this]
    exact results_tmp (t := 2) rfl _ _ _
  · rw [h6 i w.heap[i] (Array.getElem?_eq_getElem hi), Array.getElem?_eq_getElem hi]
end Go.Proofs.YtbilacojhmohmaaGreat.Ae
namespace Go.Proofs.YtbilacojhmohmaaGreat
open Go Go.ChangeShapes Go.WideShapes Go.ChangeAt Go.RowKit
theorem byte_of {a : Int} (w : (Lit.int .u8 a).wf = true) : ∃ n : Nat, a = .ofNat n ∧ n < 256 := by
  have h1 : IntKind.min .u8 = 0 := rfl
  have h2 : IntKind.max .u8 = 255 := rfl
  simp only [Lit.wf, h1, h2, Bool.and_eq_true, decide_eq_true_eq] at w
  exact ⟨a.toNat, by show a = ((a.toNat : Nat) : Int); omega, by omega⟩
/-- an array of six bytes, read -/
theorem open_six {H : Type} {enc : TypeId × Value → H} {P : Program} {w : World} {base b0 : Nat} {spare : Nat → Bool} {held : Bool} {r : Reach} {t e : TypeId} {v : Value} {d : DataW H} {ps : List MemPlace} (ht : P.underlying t = some (.array 6 e)) (he : P.underlying e = some (.int .u8)) (hc : P.cellsOf t = 6) (hce : P.cellsOf e = 1)
    (hval : Value.okWide P w r b0 t v) (hd : DataW.Trod enc P w base spare held t v d ps) :
    ∃ ns : List Nat, ns.length = 6 ∧ (∀ n ∈ ns, n < 256) ∧ v = .agg (ns.map fun n => Value.int .u8 (.ofNat n)).toArray ∧ d = .agg (ns.map fun n => DataW.lit (.int .u8 (.ofNat n))) ∧ ps = [] := by
  unfold Value.okWide at hval
  rw [ht] at hval
  obtain ⟨cs, rfl, hsz, _⟩ := hval
  obtain ⟨fuel, hf⟩ := hd
  rw [hc] at hsz
  obtain ⟨l⟩ := cs
  simp only [List.size_toArray] at hsz
  match l, hsz with
  | [c0, c1, c2, c3, c4, c5], _ =>
    cases fuel with
    | zero => simp [DataW.trod] at hf
    | succ fuel =>
      have one : ∀ {c : Value} {x : DataW H × List MemPlace}, DataW.trod enc P w base spare held fuel e [c] = some x → ∃ n : Nat, n < 256 ∧ c = .int .u8 (.ofNat n) ∧ x = (.lit (.int .u8 (.ofNat n)), []) := fun h => by
        obtain ⟨n, e1, e2, e3⟩ := DataW.trod_int he h
        simp only [List.cons.injEq, and_true] at e1
        obtain ⟨m, rfl, hm⟩ := byte_of e3
        exact ⟨m, hm, e1, e2⟩
      have hr : List.range 6 = [0, 1, 2, 3, 4, 5] := by decide
      simp only [DataW.trod, Value.cells, ht, hc, hce, hr, List.mapM_cons, List.mapM_nil, List.length_cons, List.length_nil, if_true, Nat.mul_one, Option.map_eq_some_iff, Option.bind_eq_bind, Option.bind_eq_some_iff, Option.pure_def, Option.some.injEq] at hf
      obtain ⟨_, ⟨x0, h0, _, ⟨x1, h1, _, ⟨x2, h2, _, ⟨x3, h3, _, ⟨x4, h4, _, ⟨x5, h5, _, rfl, rfl⟩, rfl⟩, rfl⟩, rfl⟩, rfl⟩, rfl⟩, e⟩ := hf
      obtain ⟨n0, b0, rfl, rfl⟩ := one h0
      obtain ⟨n1, b1, rfl, rfl⟩ := one h1
      obtain ⟨n2, b2, rfl, rfl⟩ := one h2
      obtain ⟨n3, b3, rfl, rfl⟩ := one h3
      obtain ⟨n4, b4, rfl, rfl⟩ := one h4
      obtain ⟨n5, b5, rfl, rfl⟩ := one h5
      simp only [Prod.mk.injEq] at e
      obtain ⟨rfl, rfl⟩ := e
      refine ⟨[n0, n1, n2, n3, n4, n5], rfl, fun n hn => ?_, rfl, rfl, rfl⟩
      simp only [List.mem_cons, List.not_mem_nil, or_false] at hn
      rcases hn with rfl | rfl | rfl | rfl | rfl | rfl <;> assumption
theorem wf_u8 {n : Nat} (h : n < 256) : (Lit.int .u8 (.ofNat n)).wf = true := by
  have h1 : IntKind.min .u8 = 0 := rfl
  have h2 : IntKind.max .u8 = 255 := rfl
  simp only [Lit.wf, h1, h2, Bool.and_eq_true, decide_eq_true_eq]
  exact ⟨Int.natCast_nonneg n, by show (n : Int) ≤ 255; omega⟩
theorem shut_six {H : Type} {enc : TypeId × Value → H} {P : Program} {w : World} {base : Nat} {spare : Nat → Bool} {held : Bool} {t e : TypeId} (ht : P.underlying t = some (.array 6 e)) (he : P.underlying e = some (.int .u8)) (hc : P.cellsOf t = 6) (hce : P.cellsOf e = 1)
    {ns : List Nat} (hl : ns.length = 6) (hb : ∀ n ∈ ns, n < 256) : DataW.Trod enc P w base spare held t (.agg (ns.map fun n => Value.int .u8 (.ofNat n)).toArray) (.agg (ns.map fun n => DataW.lit (.int .u8 (.ofNat n)))) [] := by
  match ns, hl with
  | [n0, n1, n2, n3, n4, n5], _ =>
    have hr : List.range 6 = [0, 1, 2, 3, 4, 5] := by decide
    have w0 : (Lit.int .u8 (n0 : Int)).wf = true := wf_u8 (hb n0 (by simp))
    have w1 : (Lit.int .u8 (n1 : Int)).wf = true := wf_u8 (hb n1 (by simp))
    have w2 : (Lit.int .u8 (n2 : Int)).wf = true := wf_u8 (hb n2 (by simp))
    have w3 : (Lit.int .u8 (n3 : Int)).wf = true := wf_u8 (hb n3 (by simp))
    have w4 : (Lit.int .u8 (n4 : Int)).wf = true := wf_u8 (hb n4 (by simp))
    have w5 : (Lit.int .u8 (n5 : Int)).wf = true := wf_u8 (hb n5 (by simp))
    exact ⟨2, by simp [DataW.trod, Value.cells, ht, he, hc, hce, hr, w0, w1, w2, w3, w4, w5]⟩
end Go.Proofs.YtbilacojhmohmaaGreat
