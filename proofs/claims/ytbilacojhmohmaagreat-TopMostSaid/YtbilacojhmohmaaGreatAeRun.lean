/- The evaluator of code: regions, tests, loops, calls; it is sound. No condition. -/
import Derived.Test.YtbilacojhmohmaaGreatAeSnd13
namespace Go.Proofs.YtbilacojhmohmaaGreat.Ae
open Go
set_option linter.unusedVariables false
set_option linter.unusedSimpArgs false

inductive CR where
  | op (d : Option Nat) (g : Option (Nat × Bool)) (c : COp)
  | call (d : Option Nat) (g : Option (Nat × Bool)) (f : FuncId) (args : List Opd)
  | callv (d : Option Nat) (g : Option (Nat × Bool)) (f : Opd) (args : List Opd)
  | defer (d : Option Nat) (f : Opd) (args : List Opd)
  | panic (x : Opd)
  | chk (d : Nat) (g : Option (Nat × Bool)) (c : COp)
inductive CC where
  | skip
  | region (l : List CR)
  | draw (l r : List CR)
  | seq (a b : CC)
  | cond (c : Opd) (a b : CC)
  | block (id : Nat) (b : CC)
  | loop (b : CC)
  | exit (id : Nat)
  | ret
inductive AX where
  | norm
  | exit (id : Nat)
  | ret
  | panic (v : AV)
inductive ARes where
  | ret (v : AV) (aw : AW)
  | panic (v : AV) (aw : AW)
structure Out where
  x : AX
  act : AAct
  aw : AW

def AAct.put (a : AAct) (d : Option Nat) (v : AV) : Option AAct :=
  match d with
  | none => some a
  | some d => bif Nat.blt d a.n then some { a with tmps := a.tmps.set d d v } else none
/-- is the item wanted? -/
def xguard (a : AAct) : Option (Nat × Bool) → Option Bool
  | none => some true
  | some (t, want) => match a.tmps.get t t with
    | some (.bool b) => some (b == want)
    | some (.tuple _) => some false
    | _ => none

/-- are they surely the same? -/
def sameCap : Cap → Cap → Bool
  | .known a, .known b => Nat.beq a b
  | .upto a b, .upto c d => Nat.beq a c && Nat.beq b d
  | _, _ => false
def samePair : Option (Nat × Nat) → Option (Nat × Nat) → Bool
  | none, none => true
  | some (a, b), some (c, d) => Nat.beq a c && Nat.beq b d
  | _, _ => false
def sameL (f : AV → AV → Bool) : List AV → List AV → Bool
  | [], [] => true
  | a :: l, b :: m => f a b && sameL f l m
  | _, _ => false
def AV.same : Nat → AV → AV → Bool
  | 0, _, _ => false
  | n + 1, x, y => match x, y with
    | .int k a, .int k' b => Nat.beq (kc k) (kc k') && ieq a b
    | .sym k i, .sym k' j => Nat.beq (kc k) (kc k') && Nat.beq i j
    | .bool a, .bool b => a == b
    | .ptr a, .ptr b => samePair a b
    | .slc a l c, .slc b m d => samePair a b && (Nat.beq l m && sameCap c d)
    | .map none, .map none => true
    | .map (some a), .map (some b) => Nat.beq a b
    | .nilFunc, .nilFunc => true
    | .nilIface, .nilIface => true
    | .iface t v, .iface u w => Nat.beq t u && AV.same n v w
    | .func (.func f) a b, .func (.func g) c d => Nat.beq f g && (sameL (AV.same n) a c && sameL (AV.same n) b d)
    | .agg l, .agg m => sameL (AV.same n) l m
    | .tuple l, .tuple m => sameL (AV.same n) l m
    | .str l, .str m => sameL (AV.same n) l m
    | _, _ => false
theorem sameCap_eq {a b : Cap} (h : sameCap a b = true) : a = b := by
  cases a <;> cases b <;> simp only [sameCap, Bool.and_eq_true, Bool.false_eq_true] at h
  · rw [Nat.eq_of_beq_eq_true h]
  · rw [Nat.eq_of_beq_eq_true h.1, Nat.eq_of_beq_eq_true h.2]
theorem samePair_eq {a b : Option (Nat × Nat)} (h : samePair a b = true) : a = b := by
  cases a <;> cases b <;> simp only [samePair, Bool.and_eq_true, Bool.false_eq_true] at h
  · rfl
  · rename_i p q
    obtain ⟨a, b⟩ := p; obtain ⟨c, d⟩ := q
    simp only [samePair, Bool.and_eq_true] at h
    rw [Nat.eq_of_beq_eq_true h.1, Nat.eq_of_beq_eq_true h.2]
theorem sameL_eq {f : AV → AV → Bool} (hf : ∀ a b, f a b = true → a = b) : ∀ {l m : List AV}, sameL f l m = true → l = m
  | [], [], _ => rfl
  | a :: l, b :: m, h => by
    simp only [sameL, Bool.and_eq_true] at h
    rw [hf a b h.1, sameL_eq hf h.2]
  | [], _ :: _, h => by simp [sameL] at h
  | _ :: _, [], h => by simp [sameL] at h
theorem AV.same_eq : ∀ (n : Nat) {a b : AV}, AV.same n a b = true → a = b
  | 0, _, _, h => by simp [AV.same] at h
  | n + 1, x, y, h => by
    have ih := fun a b => AV.same_eq n (a := a) (b := b)
    unfold AV.same at h
    split at h
    · simp only [Bool.and_eq_true] at h; rw [kc_inj h.1]; have := h.2; rw [ieq_eq] at this; rw [eq_of_beq this]
    · simp only [Bool.and_eq_true] at h; rw [kc_inj h.1, Nat.eq_of_beq_eq_true h.2]
    · rw [eq_of_beq h]
    · rw [samePair_eq h]
    · simp only [Bool.and_eq_true] at h; rw [samePair_eq h.1, Nat.eq_of_beq_eq_true h.2.1, sameCap_eq h.2.2]
    · rfl
    · rw [Nat.eq_of_beq_eq_true h]
    · rfl
    · rfl
    · simp only [Bool.and_eq_true] at h; rw [Nat.eq_of_beq_eq_true h.1, ih _ _ h.2]
    · simp only [Bool.and_eq_true] at h; rw [Nat.eq_of_beq_eq_true h.1, sameL_eq ih h.2.1, sameL_eq ih h.2.2]
    · rw [sameL_eq ih h]
    · rw [sameL_eq ih h]
    · rw [sameL_eq ih h]
    · cases h

abbrev Call := FuncId → List AV → AW → Option ARes

/-- what a call hands on -/
def xback (a : AAct) (d : Option Nat) (k : AAct → AW → Option Out) : Option ARes → Option Out
  | some (.ret v aw) => match a.put d v with
    | some a => k a aw
    | none => none
  | some (.panic v aw) => some ⟨.panic v, a, aw⟩
  | none => none

def xitems (call : Call) : List CR → AAct → AW → Option Out
  | [], a, aw => some ⟨.norm, a, aw⟩
  | .op d g c :: l, a, aw => match xguard a g with
    | some true => match xop a.tmps aw c with
      | some (v, aw) => match a.put d v with
        | some a => xitems call l a aw
        | none => none
      | none => none
    | some false => match a.put d (.tuple []) with
      | some a => xitems call l a aw
      | none => none
    | none => none
  | .call d g f args :: l, a, aw => match xguard a g with
    | some true => match evs a.tmps args with
      | some vs => xback a d (fun a aw => xitems call l a aw) (call f vs aw)
      | none => none
    | some false => match a.put d (.tuple []) with
      | some a => xitems call l a aw
      | none => none
    | none => none
  | .callv d g f args :: l, a, aw => match xguard a g with
    | some true => match f.ev a.tmps with
      | some (.func (.func f) first cap) => match evs a.tmps args with
        | some vs => xback a d (fun a aw => xitems call l a aw) (call f (first ++ vs ++ cap) aw)
        | none => none
      | _ => none
    | some false => match a.put d (.tuple []) with
      | some a => xitems call l a aw
      | none => none
    | none => none
  | .defer d f args :: l, a, aw => match f.ev a.tmps with
    | some (.func (.func f) first cap) => match evs a.tmps args with
      | some vs => match AAct.put { a with defs := ⟨f, first ++ vs ++ cap⟩ :: a.defs } d (.tuple []) with
        | some a => xitems call l a aw
        | none => none
      | none => none
    | _ => none
  | .panic x :: _, a, aw => match x.ev a.tmps with
    | some (.iface t v) => some ⟨.panic (.iface t v), a, aw⟩
    | _ => none
  | .chk d g c :: l, a, aw => match xguard a g with
    | some true => match xop a.tmps aw c with
      | some (v, _) => match a.tmps.get d d with
        | some u => bif AV.same 6 v u then xitems call l a aw else none
        | none => none
      | none => none
    | some false => xitems call l a aw
    | none => none

def xcode (call : Call) : Nat → CC → AAct → AW → Option Out
  | 0, _, _, _ => none
  | n + 1, c, a, aw => match c with
    | .skip => some ⟨.norm, a, aw⟩
    | .region l => xitems call l a aw
    | .draw l r => match xitems call l a aw with
      | some o => match o.x with
        | .norm => xitems call r o.act o.aw
        | _ => none
      | none => none
    | .seq x y => match xcode call n x a aw with
      | some o => match o.x with
        | .norm => xcode call n y o.act o.aw
        | _ => some o
      | none => none
    | .cond c x y => match c.ev a.tmps with
      | some (.bool b) => match b with
        | true => xcode call n x a aw
        | false => xcode call n y a aw
      | _ => none
    | .block id b => match xcode call n b a aw with
      | some o => match o.x with
        | .exit id' => bif Nat.beq id id' then some ⟨.norm, o.act, o.aw⟩ else some o
        | _ => some o
      | none => none
    | .loop b => match xcode call n b a aw with
      | some o => match o.x with
        | .norm => xcode call n (.loop b) o.act o.aw
        | _ => some o
      | none => none
    | .exit id => some ⟨.exit id, a, aw⟩
    | .ret => some ⟨.ret, a, aw⟩

/-! ### the code, ahead of the run -/
def cGuard (ops : Array Oper) : Option (Nat × Bool) → Option (Option (Nat × Bool))
  | none => some none
  | some (j, want) => match ops[j]? with
    | some o => match o.dst with
      | some t => some (some (t, want))
      | none => none
    | none => none
def callable (P : Program) (f : FuncId) : Bool :=
  match P.funcs[f]? with
  | some fn => fn.body.isSome && !(fn.name == "runtime.NumGoroutine")
  | none => false
def cItem (P : Program) (ops : Array Oper) (o : Oper) : Option CR :=
  match o.op with
  | .call { callee := .value f, args, .. } => match cGuard ops o.guard with
    | some g => match cOpds args.toList with
      | some as => match f with
        | .func f => some (.call o.dst g f as)
        | f => match cOpd f with
          | some f => some (.callv o.dst g f as)
          | none => none
      | none => none
    | none => none
  | .defer { callee := .value f, args, .. } => match o.guard with
    | none => match cOpds args.toList with
      | some as => match cOpd f with
        | some f => some (.defer o.dst f as)
        | none => none
      | none => none
    | some _ => none
  | .panic x => match o.guard with
    | none => match cOpd x with
      | some x => some (.panic x)
      | none => none
    | some _ => none
  | _ => match cGuard ops o.guard with
    | some g => match cOp P o with
      | some c => some (.op o.dst g c)
      | none => none
    | none => none
def cItems (P : Program) (ops : Array Oper) : List Nat → Option (List CR)
  | [] => some []
  | i :: l => match ops[i]? with
    | some o => match cItem P ops o with
      | some c => match cItems P ops l with
        | some m => some (c :: m)
        | none => none
      | none => none
    | none => none

/-! ### soundness -/
def XRel (E : Env) : AX → Exit → Prop
  | .norm, .normal => True
  | .exit id, .exit id' => id = id'
  | .ret, .ret => True
  | .panic v, .panic ch => ∃ cv, ch = [{ v := cv, recovered := false }] ∧ VRel E v cv
  | _, _ => False
def Post (E : Env) (o : Out) (e : Exit) (a : Act) (w : World) : Prop := ∃ E', E.Le E' ∧ Rel E' o.aw w ∧ ActRel E' o.act a ∧ XRel E' o.x e
theorem Post.mono {E E' : Env} (h : E.Le E') {o : Out} {e : Exit} {a : Act} {w : World} (hp : Post E' o e a w) : Post E o e a w := by
  obtain ⟨E2, h1, h2⟩ := hp
  exact ⟨E2, h.trans h1, h2⟩

def ResRel (E : Env) : ARes → Ending → World → Prop
  | .ret v aw, .returned cv, w => Rel E aw w ∧ VRel E v cv
  | .panic v aw, .panicked ch, w => Rel E aw w ∧ ∃ cv, ch = [{ v := cv, recovered := false }] ∧ VRel E v cv
  | _, _, _ => False
def CallOK (P : Program) (call : Call) : Prop := ∀ f args aw res, call f args aw = some res → callable P f = true ∧ ∀ E w cargs, LRel E args cargs → Rel E aw w →
  Calls P f cargs.toArray w fun e w' => ∃ E', E.Le E' ∧ ResRel E' res e w'

section
variable {P : Program} {E : Env}

theorem put_sound {a a' : AAct} {ca : Act} {d : Option Nat} {v : AV} {x : Value} (h : a.put d v = some a') (hA : ActRel E a ca) (hv : VRel E v x) : ActRel E a' (ca.put d x) := by
  unfold AAct.put at h
  split at h
  · simp at h; subst h; exact hA
  · rename_i d
    cases hb : Nat.blt d a.n <;> simp only [hb, cond_true, cond_false, reduceCtorEq, Option.some.injEq] at h
    subst h
    have hb : d < a.n := Nat.le_of_ble_eq_true hb
    refine ⟨by simp [Act.put, hA.size], fun t u hu => ?_, hA.defs⟩
    rcases Tr.get_set hu with ⟨rfl, rfl⟩ | ⟨hne, hu⟩
    · exact ⟨x, by simp only [Act.put]; rw [Array.getElem?_setIfInBounds_self_of_lt (by rw [hA.size]; exact hb)], hv⟩
    · obtain ⟨y, hy, hr⟩ := hA.tmps t u hu
      exact ⟨y, by simp only [Act.put]; rw [Array.getElem?_setIfInBounds_ne (Ne.symm hne)]; exact hy, hr⟩

theorem guard_sound {a : AAct} {ca : Act} {ops : Array Oper} {o : Oper} {g : Option (Nat × Bool)} {b : Bool} (hc : cGuard ops o.guard = some g) (h : xguard a g = some b) (hA : ActRel E a ca) : Region.wanted o (yielded ops ca.tmps) = b := by
  unfold Region.wanted
  cases hg : o.guard with
  | none =>
    rw [hg] at hc
    simp [cGuard] at hc; subst hc
    simp [xguard] at h; subst h
    rfl
  | some p =>
    obtain ⟨j, want⟩ := p
    rw [hg] at hc
    simp only [cGuard] at hc
    split at hc <;> (try (cases hc; done))
    rename_i oj hoj
    split at hc <;> (try (cases hc; done))
    rename_i t ht
    simp at hc; subst hc
    simp only [xguard] at h
    split at h <;> (try (cases h; done))
    · rename_i bb hb
      simp at h; subst h
      obtain ⟨x, hx, hr⟩ := hA.tmps _ _ hb
      cases hr
      simp only [yielded, hoj, Option.bind_some, ht, hx]
      cases bb <;> cases want <;> rfl
    · rename_i l hb
      simp at h; subst h
      obtain ⟨x, hx, hr⟩ := hA.tmps _ _ hb
      cases hr
      simp only [yielded, hoj, Option.bind_some, ht, hx]
      rfl

theorem run_callFunc {f : FuncId} (h : callable P f = true) (args : Array Value) (w : World) : (callFunc f args).run P w = .ok (.enter f args) w := by
  unfold callable at h
  split at h
  · rename_i fn hfn
    simp only [Bool.and_eq_true, Bool.not_eq_true'] at h
    obtain ⟨h1, h2⟩ := h
    have h3 : ¬ fn.body = none := by cases hb : fn.body <;> simp [hb] at h1 ⊢
    have h4 : ¬ fn.name = "runtime.NumGoroutine" := by simpa using h2
    simp [callFunc, hfn, h4, h3]
  · cases h

/-- a call inside a region -/
theorem call_sound {call : Call} (hcall : CallOK P call) {o : Oper} {a : AAct} {ca : Act} {aw : AW} {w : World} {f : FuncId} {vs : List AV} {cargs : List Value} {d : Option Nat} {k : AAct → AW → Option Out} {out : Out} {next : Act → World → Prop} {Q : Exit → Act → World → Prop}
    (hx : xback a d k (call f vs aw) = some out) (hA : ActRel E a ca) (hR : Rel E aw w) (hargs : LRel E vs cargs) (hex : callable P f = true → (execOp ca.eval o).run P w = .ok (.enter f cargs.toArray) w) (hd : o.dst = d)
    (hk : ∀ E' a' aw' ca' w', E.Le E' → k a' aw' = some out → ActRel E' a' ca' → Rel E' aw' w' → next ca' w')
    (hQ : ∀ e a w, Post E out e a w → Q e a w) : o.wp P ca w next Q := by
  cases hres : call f vs aw with
  | none => rw [hres] at hx; simp [xback] at hx
  | some res =>
    obtain ⟨hf, hc⟩ := hcall f vs aw res hres
    rw [hres] at hx
    unfold Oper.wp
    rw [hex hf, Oper.upon_enter]
    refine (hc E w cargs hargs hR).mono fun e w' he => ?_
    obtain ⟨E', hle, hr⟩ := he
    cases res with
    | ret v aw' =>
      cases e with
      | returned cv =>
        obtain ⟨hR', hv⟩ := hr
        simp only [xback] at hx
        split at hx <;> (try (cases hx; done))
        rename_i a' ha'
        exact hk E' a' aw' _ w' hle hx (hd ▸ put_sound ha' (hA.mono hle) hv) hR'
      | panicked ch => exact hr.elim
      | outgrown => exact hr.elim
    | panic v aw' =>
      cases e with
      | returned cv => exact hr.elim
      | panicked ch =>
        obtain ⟨hR', cv, rfl, hv⟩ := hr
        simp only [xback, Option.some.injEq] at hx
        subst hx
        exact hQ _ _ _ ⟨E', hle, hR', hA.mono hle, cv, rfl, hv⟩
      | outgrown => exact hr.elim
end
end Go.Proofs.YtbilacojhmohmaaGreat.Ae
