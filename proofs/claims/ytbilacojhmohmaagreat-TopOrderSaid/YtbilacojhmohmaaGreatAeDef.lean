/- Deferred functions that recover and then run code without more: they are sound. No condition. -/
import Derived.Test.YtbilacojhmohmaaGreatAeLaw
import Derived.Recover
namespace Go.Proofs.YtbilacojhmohmaaGreat.Ae
open Go
set_option linter.unusedVariables false
set_option linter.unusedSimpArgs false

/-- a function that recovers first, into slot d, then d2; then 'rest' -/
structure RFn where
  n : Nat
  d : Nat
  d2 : Nat
  rest : CC
def RFn.ok (P : Program) (dr : Array Oper → Option (List CR × List CR)) (f : FuncId) (r : RFn) : Prop :=
  ∃ fn id o1 o2 c, P.funcs[f]? = some fn ∧ fn.body = some (.seq (.region id #[o1, o2] false) c) ∧ o1.op = .call { callee := .builtin .recover, args := #[], argTypes := #[] } ∧ o1.dst = some r.d ∧ o1.guard = none ∧
    o2.op = .assign (.tmp r.d) ∧ o2.dst = some r.d2 ∧ o2.guard = none ∧ fn.results = #[] ∧ fn.ntmps = r.n ∧ cCode P dr c = some r.rest ∧ (fn.name == "runtime.NumGoroutine") = false
def panicVal : Option AV → AV
  | none => .nilIface
  | some v => v
def dRec (N : Nat) (r : RFn) (m : Option AV) (args : List AV) (aw : AW) : Option (Option AV × AW) :=
  bif Nat.ble args.length r.n && (Nat.blt r.d r.n && Nat.blt r.d2 r.n) then
    (match xcode (fun _ _ _ => none) N r.rest ⟨((slots args 0 .leaf).set r.d r.d (panicVal m)).set r.d2 r.d2 (panicVal m), r.n, []⟩ aw with
    | some o => match o.x with
      | .norm => match o.act.defs with
        | [] => some (none, o.aw)
        | _ => none
      | .ret => match o.act.defs with
        | [] => some (none, o.aw)
        | _ => none
      | _ => none
    | none => none) else none

theorem noCall_ok (P : Program) : CallOK P (fun _ _ _ => none) := fun f args aw res h => by cases h

/-- what recover finds -/
theorem recover_finds {E : Env} {m : Option AV} {c₀ : Frame} {cs : List Frame} (h : ModeRel E m c₀.mode) :
    (∃ cv, recoverD (c₀ :: cs) = some (cv, { c₀ with mode := .panicking [{ v := cv, recovered := true }] } :: cs) ∧ VRel E (panicVal m) cv ∧ m.isSome = true) ∨ (recoverD (c₀ :: cs) = none ∧ m = none ∧ c₀.mode = .returning) := by
  cases m with
  | none =>
    right
    cases hm : c₀.mode <;> rw [hm] at h <;> simp only [ModeRel] at h
    exact ⟨by simp [recoverD, hm], rfl, rfl⟩
  | some v =>
    left
    cases hm : c₀.mode <;> rw [hm] at h <;> simp only [ModeRel] at h
    obtain ⟨cv, rfl, hv⟩ := h
    exact ⟨cv, by simp [recoverD, hm], hv, rfl⟩

theorem dRec_sound {P : Program} {dr : Array Oper → Option (List CR × List CR)} (hdr : ∀ call, CallOK P call → DrawOK P call dr) {f : FuncId} {r : RFn} (hr : r.ok P dr f) {N : Nat} {m m' : Option AV} {args : List AV} {aw aw' : AW}
    (h : dRec N r m args aw = some (m', aw')) : callable P f = true ∧ ∀ E w cargs u, LRel E args cargs → Rel E aw w → ModeRel E m u →
      CallsD P f cargs.toArray u w fun e u' w' => ∃ E', E.Le E' ∧ Rel E' aw' w' ∧ (∃ v, e = .returned v) ∧ ModeRel E' m' (settle u') := by
  obtain ⟨fn, id, o1, o2, c, hfn, hbody, h1o, h1d, h1g, h2o, h2d, h2g, hres, hnt, hc, hname⟩ := hr
  refine ⟨by simp [callable, hfn, hbody, hname], fun E w cargs u hargs hR hm => ?_⟩
  unfold dRec at h
  cases hb : (Nat.ble args.length r.n && (Nat.blt r.d r.n && Nat.blt r.d2 r.n)) <;> simp only [hb, cond_true, cond_false, reduceCtorEq] at h
  simp only [Bool.and_eq_true] at hb
  obtain ⟨b1, b2, b3⟩ := hb
  have b1 := Nat.le_of_ble_eq_true b1
  have b2 : r.d < r.n := Nat.le_of_ble_eq_true b2
  have b3 : r.d2 < r.n := Nat.le_of_ble_eq_true b3
  split at h <;> (try (cases h; done))
  rename_i o ho
  refine callsD_of_wpS hfn hbody fun c₀ cs hu => ?_
  have hm : ModeRel E m c₀.mode := hu ▸ hm
  apply wpS_seq
  apply wpS_region
  have hinit := init_rel hargs b1
  rw [← hnt] at hinit
  have go : ∀ (cv : Value) (cs' : List Frame), VRel E (panicVal m) cv → (∃ u', cs' = { c₀ with mode := u' } :: cs ∧ settle u' = .returning) →
      wpOpsS P #[o1, o2] (Exit.thenS (Code.wpS P c (bodyPostS P fn c₀ cs fun e u' w' => ∃ E', E.Le E' ∧ Rel E' aw' w' ∧ (∃ v, e = .returned v) ∧ ModeRel E' m' (settle u'))) (bodyPostS P fn c₀ cs fun e u' w' => ∃ E', E.Le E' ∧ Rel E' aw' w' ∧ (∃ v, e = .returned v) ∧ ModeRel E' m' (settle u'))) [1]
        (Act.put { tmps := cargs.toArray ++ Array.replicate (fn.ntmps - cargs.toArray.size) undef, defers := [] } o1.dst cv) cs' w := by
    intro cv cs' hv ⟨u', hcs, hset⟩
    have hA1 := put_sound (a' := ⟨(slots args 0 .leaf).set r.d r.d (panicVal m), fn.ntmps, []⟩) (d := some r.d) (v := panicVal m) (x := cv)
      (by simp only [AAct.put]; rw [show Nat.blt r.d fn.ntmps = true from Nat.ble_eq_true_of_le (show r.d + 1 ≤ fn.ntmps by rw [hnt]; exact b2)]; rfl) hinit hv
    rw [← h1d] at hA1
    have hA2 := put_sound (a' := ⟨((slots args 0 .leaf).set r.d r.d (panicVal m)).set r.d2 r.d2 (panicVal m), fn.ntmps, []⟩) (d := some r.d2) (v := panicVal m) (x := cv)
      (by simp only [AAct.put]; rw [show Nat.blt r.d2 fn.ntmps = true from Nat.ble_eq_true_of_le (show r.d2 + 1 ≤ fn.ntmps by rw [hnt]; exact b3)]; rfl) hA1 hv
    rw [← h2d] at hA2
    have hg : (Act.put { tmps := cargs.toArray ++ Array.replicate (fn.ntmps - cargs.toArray.size) undef, defers := [] } o1.dst cv).eval (.tmp r.d) = cv := by
      obtain ⟨x, hx, _⟩ := hA1.tmps r.d (panicVal m) (Tr.get_set_same _ _)
      have : (Act.put { tmps := cargs.toArray ++ Array.replicate (fn.ntmps - cargs.toArray.size) undef, defers := [] } o1.dst cv).tmps[r.d]? = some cv := by
        rw [h1d]; simp only [Act.put]
        refine Array.getElem?_setIfInBounds_self_of_lt ?_
        rw [hinit.size]; simp only; rw [hnt]; exact b2
      show (Act.put _ _ _).tmps.getD r.d undef = cv
      rw [Array.getD_eq_getD_getElem?, this]; rfl
    simp only [wpOpsS]
    rw [show (#[o1, o2] : Array Oper)[1]? = some o2 from rfl]
    simp only
    rw [if_pos (by simp [Region.wanted, h2g])]
    have hrun : (execOp (Act.put { tmps := cargs.toArray ++ Array.replicate (fn.ntmps - cargs.toArray.size) undef, defers := [] } o1.dst cv).eval o2).run P w = .ok (.value cv) w := by
      simp only [execOp, h2o, hg]
      rfl
    rw [hrun]
    simp only [Oper.upon, Exit.thenS]
    have ho := ho
    rw [← hnt] at ho
    have hw := (code_sound (noCall_ok P) (hdr _ (noCall_ok P)) N hc ho hA2 hR).1
    refine wpS_of_wp (wp_mono hw fun e a w' hp => ?_)
    obtain ⟨E', hle, hR', hA', hX⟩ := hp
    have fin : o.act.defs = [] → m' = none → aw' = o.aw → a.defers = [] ∧ ∃ u', cs' = { c₀ with mode := u' } :: cs ∧ ∃ v, (results fn a.tmps).run P w' = .ok v w' ∧ ∃ E', E.Le E' ∧ Rel E' aw' w' ∧ (∃ v', Ending.returned v = .returned v') ∧ ModeRel E' m' (settle u') := by
      intro hd hm' haw
      refine ⟨?_, u', hcs, .tuple #[], ?_, E', hle, haw ▸ hR', ⟨_, rfl⟩, ?_⟩
      · have := hA'.defs
        rw [hd] at this
        generalize a.defers = df at this
        cases this; rfl
      · simp [results, hres]
      · rw [hset, hm']; trivial
    split at h
    · rename_i hx
      rw [hx] at hX
      cases e <;> simp only [XRel] at hX
      split at h <;> (try (cases h; done))
      rename_i hd
      simp only [Option.some.injEq, Prod.mk.injEq] at h
      exact fin hd h.1.symm h.2.symm
    · rename_i hx
      rw [hx] at hX
      cases e <;> simp only [XRel] at hX
      split at h <;> (try (cases h; done))
      rename_i hd
      simp only [Option.some.injEq, Prod.mk.injEq] at h
      exact fin hd h.1.symm h.2.symm
    · cases h
  rw [show List.range (#[o1, o2] : Array Oper).size = [0, 1] from rfl]
  unfold wpOpsS
  rw [show (#[o1, o2] : Array Oper)[0]? = some o1 from rfl]
  simp only
  rw [if_pos (by simp [Region.wanted, h1g])]
  have hrun : ∀ ca : Act, (execOp ca.eval o1).run P w = .ok .recover w := by
    intro ca
    simp only [execOp, h1o]
    rfl
  rw [hrun]
  simp only
  rcases recover_finds (cs := cs) hm with ⟨cv, e1, e2, e3⟩ | ⟨e1, e2, e3⟩
  · rw [e1]
    simp only
    exact go cv _ e2 ⟨.panicking [{ v := cv, recovered := true }], rfl, rfl⟩
  · rw [e1]
    simp only
    exact go .nilIface (c₀ :: cs) (by rw [e2]; exact .nilIface) ⟨.returning, by rw [← e3], rfl⟩
end Go.Proofs.YtbilacojhmohmaaGreat.Ae
