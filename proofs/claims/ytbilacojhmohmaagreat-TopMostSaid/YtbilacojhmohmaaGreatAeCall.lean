/- The evaluator of calls: frames, results, deferred calls; it is sound. No condition. -/
import Derived.Test.YtbilacojhmohmaaGreatAeRun2
import Derived.Defers
namespace Go.Proofs.YtbilacojhmohmaaGreat.Ae
open Go
set_option linter.unusedVariables false
set_option linter.unusedSimpArgs false

inductive CRes where
  | tmp (t : Nat)
  | cell (t : Nat) (n : Option Nat)
structure CFn where
  body : CC
  n : Nat
  res : List CRes

def xres (a : AAct) (aw : AW) : List CRes → Option (List AV)
  | [] => some []
  | .tmp t :: l => match a.tmps.get t t with
    | some v => match xres a aw l with
      | some m => some (v :: m)
      | none => none
    | none => none
  | .cell t n :: l => match a.tmps.get t t with
    | some p => match xload aw n p with
      | some v => match xres a aw l with
        | some m => some (v :: m)
        | none => none
      | none => none
    | none => none
def oneOf : List AV → AV
  | [v] => v
  | l => .tuple l
/-- the arguments in their slots -/
def slots : List AV → Nat → Tr AV → Tr AV
  | [], _, t => t
  | v :: l, i, t => slots l (i + 1) (t.set i i v)

abbrev DSum := FuncId → Option (Option AV → List AV → AW → Option (Option AV × AW))
def xdefs (ds : DSum) : List ADef → Option AV → AW → Option (Option AV × AW)
  | [], m, aw => some (m, aw)
  | d :: l, m, aw => match ds d.f with
    | some g => match g m d.args aw with
      | some (m, aw) => xdefs ds l m aw
      | none => none
    | none => none
def xleave (ds : DSum) (cf : CFn) (o : Out) (m : Option AV) : Option ARes :=
  match xdefs ds o.act.defs m o.aw with
  | some (none, aw) => match xres o.act aw cf.res with
    | some l => some (.ret (oneOf l) aw)
    | none => none
  | some (some v, aw) => some (.panic v aw)
  | none => none
abbrev Summ := FuncId → Option (List AV → AW → Option ARes)
def xcall (F : FuncId → Option CFn) (sm : Summ) (ds : DSum) (N : Nat) : Nat → Call
  | 0 => fun _ _ _ => none
  | n + 1 => fun f args aw => match sm f with
    | some g => g args aw
    | none => match F f with
      | some cf => bif Nat.ble args.length cf.n then (match xcode (xcall F sm ds N n) N cf.body ⟨slots args 0 .leaf, cf.n, []⟩ aw with
        | some o => match o.x with
          | .norm => xleave ds cf o none
          | .ret => xleave ds cf o none
          | .panic v => xleave ds cf o (some v)
          | .exit _ => none
        | none => none) else none
      | none => none

def cRess (P : Program) : List ResultVar → Option (List CRes)
  | [] => some []
  | .tmp t :: l => match cRess P l with
    | some m => some (.tmp t :: m)
    | none => none
  | .cell a t :: l => match aggP P t with
    | some n => match cRess P l with
      | some m => some (.cell a n :: m)
      | none => none
    | none => none
def cFn (P : Program) (dr : Array Oper → Option (List CR × List CR)) (f : FuncId) : Option CFn :=
  match P.funcs[f]? with
  | some fn => match fn.body with
    | some c => bif fn.name == "runtime.NumGoroutine" then none else (match cCode P dr c with
      | some cc => match cRess P fn.results.toList with
        | some rs => some ⟨cc, fn.ntmps, rs⟩
        | none => none
      | none => none)
    | none => none
  | none => none

def ModeRel (E : Env) : Option AV → FrameMode → Prop
  | none, .returning => True
  | some v, .panicking ch => ∃ cv, ch = [{ v := cv, recovered := false }] ∧ VRel E v cv
  | _, _ => False
/-- a deferred function's summary -/
def DefOK (P : Program) (ds : DSum) : Prop := ∀ f g m args aw m' aw', ds f = some g → g m args aw = some (m', aw') → callable P f = true ∧ ∀ E w cargs u, LRel E args cargs → Rel E aw w → ModeRel E m u →
  CallsD P f cargs.toArray u w fun e u' w' => ∃ E', E.Le E' ∧ Rel E' aw' w' ∧ (∃ v, e = .returned v) ∧ ModeRel E' m' (settle u')
def SumOK (P : Program) (sm : Summ) : Prop := ∀ f g, sm f = some g → ∀ args aw res, g args aw = some res → callable P f = true ∧ ∀ E w cargs, LRel E args cargs → Rel E aw w →
  Calls P f cargs.toArray w fun e w' => ∃ E', E.Le E' ∧ ResRel E' res e w'

section
variable {P : Program} {E : Env}

theorem slots_get : ∀ (l : List AV) (i : Nat) (t : Tr AV) {j : Nat} {v : AV}, (slots l i t).get j j = some v → (i ≤ j ∧ l[j - i]? = some v) ∨ (t.get j j = some v)
  | [], i, t, j, v, h => .inr h
  | x :: l, i, t, j, v, h => by
    simp only [slots] at h
    rcases slots_get l (i + 1) _ h with ⟨h1, h2⟩ | h
    · left
      refine ⟨by omega, ?_⟩
      rw [show j - i = (j - (i + 1)) + 1 by omega]
      simpa using h2
    · rcases Tr.get_set h with ⟨rfl, rfl⟩ | ⟨_, h⟩
      · exact .inl ⟨Nat.le_refl _, by simp⟩
      · exact .inr h

theorem init_rel {args : List AV} {cargs : List Value} {n : Nat} (h : LRel E args cargs) (hn : args.length ≤ n) : ActRel E ⟨slots args 0 .leaf, n, []⟩ { tmps := cargs.toArray ++ Array.replicate (n - cargs.toArray.size) undef, defers := [] } := by
  have hl := h.length
  refine ⟨by simp; omega, fun t v hv => ?_, .nil⟩
  rcases slots_get _ _ _ hv with ⟨_, h2⟩ | h2
  · obtain ⟨x, hx, hr⟩ := h.get h2
    refine ⟨x, ?_, hr⟩
    have hlt := (List.getElem?_eq_some_iff.1 hx).1
    simp at hlt hx
    rw [Array.getElem?_append_left (by simpa using hlt)]
    simpa using hx
  · simp [Tr.get] at h2

theorem load_sound {aw : AW} {w : World} {t : TypeId} {n : Option Nat} {p v : AV} {pv : Value} (hn : aggP P t = some n) (hx : xload aw n p = some v) (hR : Rel E aw w) (hp : VRel E p pv) :
    ∃ a u, pv = .pointer (some a) ∧ (loadVar t a).run P w = .ok u w ∧ VRel E v u := by
  unfold xload at hx
  split at hx <;> (try (cases hx; done))
  rename_i id off
  split at hx <;> (try (cases hx; done))
  rename_i l e opn hg
  cases pv
  all_goals (try (cases hp; done))
  rename_i ad
  cases ad with
  | none => cases hp
  | some ad =>
    obtain ⟨L, cs, hL, rfl, h1, h2, h3, h5⟩ := hR.at hp hg
    split at hx
    · obtain ⟨u, hu, hru⟩ := h5 _ _ hx
      have hcell : w.cell? ⟨L.block, L.base + off, none⟩ = some u := by obtain ⟨fz, h1⟩ := h1; simp [World.cell?, h1, hu]
      exact ⟨_, u, rfl, by simp only [loadVar, Sem.run_bind, aggP_none hn w, Result.andThen_ok, Bool.false_eq_true, if_false, run_load_at hcell], hru⟩
    · rename_i n
      cases hb : Nat.beq ((l.drop off).take n).length n <;> simp only [hb, cond_false, cond_true, reduceCtorEq, Option.some.injEq] at hx
      subst hx
      obtain ⟨hag, i, hi, rfl⟩ := aggP_some hn
      obtain ⟨vs, hrun, hrel⟩ := load_cells (P := P) h1 h5 (Nat.eq_of_beq_eq_true hb)
      exact ⟨_, .agg vs.toArray, rfl, by simp only [loadVar, Sem.run_bind, hag w, Result.andThen_ok, if_true, run_sizeOf' hi, hrun w rfl, Sem.run_pure], .agg (by simpa using hrel)⟩

/-- one result -/
def resF (tmps : Array Value) : ResultVar → Sem Value
  | .tmp t => pure (tmps.getD t undef)
  | .cell x t => do loadVar t (← asAddr (tmps.getD x undef))
theorem res_sound {a : AAct} {ca : Act} {aw : AW} {w : World} (hA : ActRel E a ca) (hR : Rel E aw w) : ∀ {rs : List ResultVar} {cs : List CRes} {l : List AV}, cRess P rs = some cs → xres a aw cs = some l →
    ∃ vs, (rs.mapM (resF ca.tmps)).run P w = .ok vs w ∧ LRel E l vs
  | [], cs, l, hc, hx => by
    simp [cRess] at hc; subst hc
    simp [xres] at hx; subst hx
    exact ⟨[], rfl, .nil⟩
  | .tmp t :: rs, cs, l, hc, hx => by
    simp only [cRess] at hc
    split at hc <;> (try (cases hc; done))
    rename_i m hm
    simp at hc; subst hc
    simp only [xres] at hx
    split at hx <;> (try (cases hx; done))
    rename_i v hv
    split at hx <;> (try (cases hx; done))
    rename_i l' hl'
    simp at hx; subst hx
    obtain ⟨vs, hrun, hrel⟩ := res_sound hA hR hm hl'
    obtain ⟨x, hx, hr⟩ := hA.tmps _ _ hv
    have hg : ca.tmps.getD t undef = x := by simp [Array.getD_eq_getD_getElem?, hx]
    exact ⟨x :: vs, by simp only [List.mapM_cons, resF, Sem.run_bind, Sem.run_pure, Result.andThen_ok, hg, hrun], .cons hr hrel⟩
  | .cell t ty :: rs, cs, l, hc, hx => by
    simp only [cRess] at hc
    split at hc <;> (try (cases hc; done))
    rename_i n hn
    split at hc <;> (try (cases hc; done))
    rename_i m hm
    simp at hc; subst hc
    simp only [xres] at hx
    split at hx <;> (try (cases hx; done))
    rename_i p hp
    split at hx <;> (try (cases hx; done))
    rename_i v hv
    split at hx <;> (try (cases hx; done))
    rename_i l' hl'
    simp at hx; subst hx
    obtain ⟨vs, hrun, hrel⟩ := res_sound hA hR hm hl'
    obtain ⟨x, hx, hr⟩ := hA.tmps _ _ hp
    have hg : ca.tmps.getD t undef = x := by simp [Array.getD_eq_getD_getElem?, hx]
    obtain ⟨ad, u, rfl, hl, hru⟩ := load_sound hn hv hR hr
    have h1 : (resF ca.tmps (.cell t ty)).run P w = .ok u w := by simp only [resF, Sem.run_bind, hg, asAddr, Sem.run_pure, Result.andThen_ok, hl]
    exact ⟨u :: vs, by simp only [List.mapM_cons, Sem.run_bind, h1, Result.andThen_ok, hrun, Sem.run_pure], .cons hru hrel⟩

theorem results_sound {fn : Func} {a : AAct} {ca : Act} {aw : AW} {w : World} {cs : List CRes} {l : List AV} (hA : ActRel E a ca) (hR : Rel E aw w) (hc : cRess P fn.results.toList = some cs) (hx : xres a aw cs = some l) :
    ∃ v, (results fn ca.tmps).run P w = .ok v w ∧ VRel E (oneOf l) v := by
  obtain ⟨vs, hrun, hrel⟩ := res_sound hA hR hc hx
  have hmm : (fn.results.mapM (resF ca.tmps)).run P w = .ok vs.toArray w := by
    rw [Array.mapM_eq_mapM_toList]
    simp only [Sem.run_map, hrun, Result.andThen_ok]
  refine ⟨if h : vs.toArray.size = 1 then vs.toArray[0] else .tuple vs.toArray, ?_, ?_⟩
  · have hres : results fn ca.tmps = (do let vs ← fn.results.mapM (resF ca.tmps); pure (if h : vs.size = 1 then vs[0] else .tuple vs)) := rfl
    rw [hres]
    simp only [Sem.run_bind]
    rw [hmm]
    rfl
  · cases hrel with
    | nil => simp [oneOf]; exact .tuple .nil
    | cons h1 h2 =>
      cases h2 with
      | nil => simpa [oneOf] using h1
      | cons h3 h4 =>
        simp only [oneOf]
        rw [dif_neg (by simp)]
        exact .tuple (.cons h1 (.cons h3 h4))

theorem settle_rel {E : Env} {m : Option AV} {u : FrameMode} (h : ModeRel E m u) : u ≠ .run := by
  cases m <;> cases u <;> simp [ModeRel] at h ⊢

theorem defs_sound {ds : DSum} (hds : DefOK P ds) {fn : Func} {tmps : Array Value} {R : Ending → World → Prop} : ∀ {l : List ADef} {cl : List Deferred} {E : Env} {m m' : Option AV} {aw aw' : AW} {w : World} {u : FrameMode}, xdefs ds l m aw = some (m', aw') → DRel E l cl → Rel E aw w → ModeRel E m u →
    (∀ E' w' u', E.Le E' → Rel E' aw' w' → ModeRel E' m' u' → Leaves P fn tmps R [] u' w') → Leaves P fn tmps R cl u w
  | [], _, E, m, m', aw, aw', w, u, h, .nil, hR, hm, hk => by
    simp [xdefs] at h; obtain ⟨rfl, rfl⟩ := h
    exact hk E w u (.refl E) hR hm
  | d :: l, e :: cl, E, m, m', aw, aw', w, u, h, .cons (cap := cap) ht ha t, hR, hm, hk => by
    simp only [xdefs] at h
    split at h <;> (try (cases h; done))
    rename_i g hg
    split at h <;> (try (cases h; done))
    rename_i m1 aw1 h1
    obtain ⟨hc, hcall⟩ := hds d.f g m d.args aw m1 aw1 hg h1
    have hargs : LRel E d.args (e.args ++ cap).toList := ha
    have := hcall E w (e.args ++ cap).toList u hargs hR hm
    rw [Array.toArray_toList] at this
    refine ⟨settle_rel hm, .func d.f, cap, d.f, e.args ++ cap, ht, ?_, ?_⟩
    · rw [ht]
      exact run_callFunc hc _ w
    · intro c cs hcm
      obtain ⟨en, u', w', fr, hR1, hcomes, hkk, hgo⟩ := this c cs hcm
      obtain ⟨E1, hle, hR2, ⟨v, rfl⟩, hm2⟩ := hR1
      refine ⟨.returned v, u', w', fr, ?_, hcomes, hkk, hgo⟩
      exact defs_sound hds h (t.mono hle) hR2 hm2 fun E' w2 u2 hle2 h2 h3 => hk E' w2 u2 (hle.trans hle2) h2 h3

theorem leave_sound {ds : DSum} (hds : DefOK P ds) {fn : Func} {cf : CFn} {o : Out} {E E1 : Env} {ca : Act} {w : World} {m : Option AV} {u : FrameMode} {res : ARes} (hle : E.Le E1) (hc : cRess P fn.results.toList = some cf.res) (hx : xleave ds cf o m = some res)
    (hR : Rel E1 o.aw w) (hA : ActRel E1 o.act ca) (hm : ModeRel E1 m u) : Leaves P fn ca.tmps (fun e w' => ∃ E', E.Le E' ∧ ResRel E' res e w') ca.defers u w := by
  unfold xleave at hx
  split at hx <;> (try (cases hx; done))
  · rename_i aw1 h1
    split at hx <;> (try (cases hx; done))
    rename_i l hl
    simp at hx; subst hx
    refine defs_sound hds h1 hA.defs hR hm fun E' w' u' hle2 h2 h3 => ?_
    cases u' <;> simp only [ModeRel] at h3
    obtain ⟨v, hv, hrel⟩ := results_sound (hA.mono hle2) h2 hc hl
    exact ⟨v, hv, E', hle.trans hle2, h2, hrel⟩
  · rename_i v aw1 h1
    simp at hx; subst hx
    refine defs_sound hds h1 hA.defs hR hm fun E' w' u' hle2 h2 h3 => ?_
    cases u' <;> simp only [ModeRel] at h3
    exact ⟨E', hle.trans hle2, h2, h3⟩

theorem xcall_sound {F : FuncId → Option CFn} {dr : Array Oper → Option (List CR × List CR)} (hF : ∀ f cf, F f = some cf → cFn P dr f = some cf) {sm : Summ} (hsm : SumOK P sm) {ds : DSum} (hds : DefOK P ds) (hdr : ∀ call, CallOK P call → DrawOK P call dr) (N : Nat) :
    ∀ n, CallOK P (xcall F sm ds N n) := by
  intro n
  induction n with
  | zero => intro f args aw res h; simp [xcall] at h
  | succ n ih =>
    intro f args aw res h
    simp only [xcall] at h
    split at h
    · rename_i g hg
      exact hsm f g hg args aw res h
    · split at h <;> (try (cases h; done))
      rename_i cf hcf
      cases hb : Nat.ble args.length cf.n <;> simp only [hb, cond_true, cond_false, reduceCtorEq] at h
      have hb := Nat.le_of_ble_eq_true hb
      split at h <;> (try (cases h; done))
      rename_i o ho
      have hcc := hF f cf hcf
      unfold cFn at hcc
      split at hcc <;> (try (cases hcc; done))
      rename_i fn hfn
      split at hcc <;> (try (cases hcc; done))
      rename_i c hbody
      cases hname : (fn.name == "runtime.NumGoroutine") <;> simp only [hname, cond_true, cond_false, reduceCtorEq] at hcc
      split at hcc <;> (try (cases hcc; done))
      rename_i cc hcode
      split at hcc <;> (try (cases hcc; done))
      rename_i rs hrs
      simp at hcc; subst hcc
      refine ⟨by simp [callable, hfn, hbody, hname], fun E w cargs hargs hR => ?_⟩
      refine calls_of_wp_defers hfn hbody ?_
      have hinit := init_rel (n := fn.ntmps) hargs hb
      refine wp_mono (code_sound ih (hdr _ ih) N hcode ho hinit hR).1 fun e a w' hp => ?_
      obtain ⟨E1, hle, hR1, hA1, hX⟩ := hp
      split at h
      · rename_i hx
        rw [hx] at hX
        cases e <;> simp only [XRel] at hX
        exact leave_sound hds hle hrs h hR1 hA1 trivial
      · rename_i hx
        rw [hx] at hX
        cases e <;> simp only [XRel] at hX
        exact leave_sound hds hle hrs h hR1 hA1 trivial
      · rename_i v hx
        rw [hx] at hX
        cases e <;> simp only [XRel] at hX
        exact leave_sound hds hle hrs h hR1 hA1 hX
      · cases h
end
end Go.Proofs.YtbilacojhmohmaaGreat.Ae
