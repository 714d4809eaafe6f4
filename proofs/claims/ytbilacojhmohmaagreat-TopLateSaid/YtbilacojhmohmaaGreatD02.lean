/- The evaluator of code: regions, tests, loops, calls. No condition. -/
import Derived.Test.YtbilacojhmohmaaGreatD01
import Derived.Defers
set_option linter.unusedVariables false
set_option linter.unusedSimpArgs false
noncomputable section
namespace Go.Proofs.YtbilacojhmohmaaGreat.Ae
open Go
inductive CR where
 | op (d : Option Nat) (g : Option (Nat × Bool)) (c : COp)
 | call (d : Option Nat) (g : Option (Nat × Bool)) (f : FuncId) (args : List Opd)
 | callv (d : Option Nat) (g : Option (Nat × Bool)) (f : Opd) (args : List Opd)
 | defer (d : Option Nat) (f : Opd) (args : List Opd)
 | panic (x : Opd)
 | chk (d : Nat) (g : Option (Nat × Bool)) (c : COp)
inductive CC where
 | skip
 | region (l : List CR)
 | draw (l r : List CR)
 | seq (a b : CC)
 | cond (c : Opd) (a b : CC)
 | block (id : Nat) (b : CC)
 | loop (b : CC)
 | exit (id : Nat)
 | ret
inductive AX where
 | norm
 | exit (id : Nat)
 | ret
 | panic (v : AV)
inductive ARes where
 | ret (v : AV) (aw : AW)
 | panic (v : AV) (aw : AW)
structure Out where
 x : AX
 act : AAct
 aw : AW
def AAct.put (a : AAct) (d : Option Nat) (v : AV) : Option AAct :=
 match d with
 | none => some a
 | some d => bif Nat.blt d a.n then some { a with tmps := a.tmps.set d d v } else none
def xguard (a : AAct) : Option (Nat × Bool) → Option Bool
 | none => some true
 | some (t, want) => match a.tmps.get t t with
  | some (.bool b) => some (b == want)
  | some (.tuple _) => some false
  | _ => none
def sameCap : Cap → Cap → Bool
 | .known a, .known b => Nat.beq a b
 | .upto a b, .upto c d => Nat.beq a c && Nat.beq b d
 | _, _ => false
def samePair : Option (Nat × Nat) → Option (Nat × Nat) → Bool
 | none, none => true
 | some (a, b), some (c, d) => Nat.beq a c && Nat.beq b d
 | _, _ => false
def sameL (f : AV → AV → Bool) : List AV → List AV → Bool
 | [], [] => true
 | a :: l, b :: m => f a b && sameL f l m
 | _, _ => false
def AV.same : Nat → AV → AV → Bool
 | 0, _, _ => false
 | n + 1, x, y => match x, y with
  | .int k a, .int k' b => Nat.beq (kc k) (kc k') && ieq a b
  | .sym k i, .sym k' j => Nat.beq (kc k) (kc k') && Nat.beq i j
  | .bool a, .bool b => a == b
  | .ptr a, .ptr b => samePair a b
  | .slc a l c, .slc b m d => samePair a b && (Nat.beq l m && sameCap c d)
  | .map none, .map none => true
  | .map (some a), .map (some b) => Nat.beq a b
  | .nilFunc, .nilFunc => true
  | .nilIface, .nilIface => true
  | .iface t v, .iface u w => Nat.beq t u && AV.same n v w
  | .func (.func f) a b, .func (.func g) c d => Nat.beq f g && (sameL (AV.same n) a c && sameL (AV.same n) b d)
  | .agg l, .agg m => sameL (AV.same n) l m
  | .tuple l, .tuple m => sameL (AV.same n) l m
  | .str l, .str m => sameL (AV.same n) l m
  | .sl i, .sl j => Nat.beq i j
  | _, _ => false
theorem sameCap_eq {a b : Cap} (h : sameCap a b = true) : a = b := by
 cases a <;> cases b <;> simp only [sameCap, Bool.and_eq_true, Bool.false_eq_true] at h
 ·rw [nbt h]
 ·rw [nbt h.1, nbt h.2]
theorem samePair_eq {a b : Option (Nat × Nat)} (h : samePair a b = true) : a = b := by
 cases a <;> cases b <;> simp only [samePair, Bool.and_eq_true, Bool.false_eq_true] at h
 ·rfl
 ·rename_i p q
  obtain ⟨a, b⟩ := p; obtain ⟨c, d⟩ := q
  simp only [samePair, Bool.and_eq_true] at h
  rw [nbt h.1, nbt h.2]
theorem sameL_eq {f : AV → AV → Bool} (hf : ∀ a b, f a b = true → a = b) : ∀ {l m : List AV}, sameL f l m = true → l = m
 | [], [], _ => rfl
 | a :: l, b :: m, h => by
  simp only [sameL, Bool.and_eq_true] at h
  rw [hf a b h.1, sameL_eq hf h.2]
 | [], _ :: _, h => by simp [sameL] at h
 | _ :: _, [], h => by simp [sameL] at h
theorem AV.same_eq : ∀ (n : Nat) {a b : AV}, AV.same n a b = true → a = b
 | 0, _, _, h => by simp [AV.same] at h
 | n + 1, x, y, h => by
  have ih := fun a b => AV.same_eq n (a := a) (b := b)
  unfold AV.same at h
  split at h
  ·simp only [Bool.and_eq_true] at h; rw [kc_inj h.1]; have := h.2; rw [ieq_eq] at this; rw [eq_of_beq this]
  ·simp only [Bool.and_eq_true] at h; rw [kc_inj h.1, nbt h.2]
  ·rw [eq_of_beq h]
  ·rw [samePair_eq h]
  ·simp only [Bool.and_eq_true] at h; rw [samePair_eq h.1, nbt h.2.1, sameCap_eq h.2.2]
  ·rfl
  ·rw [nbt h]
  ·rfl
  ·rfl
  ·simp only [Bool.and_eq_true] at h; rw [nbt h.1, ih _ _ h.2]
  ·simp only [Bool.and_eq_true] at h; rw [nbt h.1, sameL_eq ih h.2.1, sameL_eq ih h.2.2]
  ·rw [sameL_eq ih h]
  ·rw [sameL_eq ih h]
  ·rw [sameL_eq ih h]
  ·rw [nbt h]
  ·cases h
abbrev Call := FuncId → List AV → AW → Option ARes
def xback (a : AAct) (d : Option Nat) (k : AAct → AW → Option Out) : Option ARes → Option Out
 | some (.ret v aw) => match a.put d v with
  | some a => k a aw
  | none => none
 | some (.panic v aw) => some ⟨.panic v, a, aw⟩
 | none => none
def xitems (call : Call) : List CR → AAct → AW → Option Out
 | [], a, aw => some ⟨.norm, a, aw⟩
 | .op d g c :: l, a, aw => match xguard a g with
  | some true => match xop a.tmps aw c with
   | some (v, aw) => match a.put d v with
    | some a => xitems call l a aw
    | none => none
   | none => none
  | some false => match a.put d (.tuple []) with
   | some a => xitems call l a aw
   | none => none
  | none => none
 | .call d g f args :: l, a, aw => match xguard a g with
  | some true => match evs a.tmps args with
   | some vs => xback a d (fun a aw => xitems call l a aw) (call f vs aw)
   | none => none
  | some false => match a.put d (.tuple []) with
   | some a => xitems call l a aw
   | none => none
  | none => none
 | .callv d g f args :: l, a, aw => match xguard a g with
  | some true => match f.ev a.tmps with
   | some (.func (.func f) first cap) => match evs a.tmps args with
    | some vs => xback a d (fun a aw => xitems call l a aw) (call f (first ++ vs ++ cap) aw)
    | none => none
   | _ => none
  | some false => match a.put d (.tuple []) with
   | some a => xitems call l a aw
   | none => none
  | none => none
 | .defer d f args :: l, a, aw => match f.ev a.tmps with
  | some (.func (.func f) first cap) => match evs a.tmps args with
   | some vs => match AAct.put { a with defs := ⟨f, first ++ vs ++ cap⟩ :: a.defs } d (.tuple []) with
    | some a => xitems call l a aw
    | none => none
   | none => none
  | _ => none
 | .panic x :: _, a, aw => match x.ev a.tmps with
  | some (.iface t v) => some ⟨.panic (.iface t v), a, aw⟩
  | _ => none
 | .chk d g c :: l, a, aw => match xguard a g with
  | some true => match xop a.tmps aw c with
   | some (v, _) => match a.tmps.get d d with
    | some u => bif AV.same 6 v u then xitems call l a aw else none
    | none => none
   | none => none
  | some false => xitems call l a aw
  | none => none
def xcode (call : Call) : Nat → CC → AAct → AW → Option Out
 | 0, _, _, _ => none
 | n + 1, c, a, aw => match c with
  | .skip => some ⟨.norm, a, aw⟩
  | .region l => xitems call l a aw
  | .draw l r => match xitems call l a aw with
   | some o => match o.x with
    | .norm => xitems call r o.act o.aw
    | _ => none
   | none => none
  | .seq x y => match xcode call n x a aw with
   | some o => match o.x with
    | .norm => xcode call n y o.act o.aw
    | _ => some o
   | none => none
  | .cond c x y => match c.ev a.tmps with
   | some (.bool b) => match b with
    | true => xcode call n x a aw
    | false => xcode call n y a aw
   | _ => none
  | .block id b => match xcode call n b a aw with
   | some o => match o.x with
    | .exit id' => bif Nat.beq id id' then some ⟨.norm, o.act, o.aw⟩ else some o
    | _ => some o
   | none => none
  | .loop b => match xcode call n b a aw with
   | some o => match o.x with
    | .norm => xcode call n (.loop b) o.act o.aw
    | _ => some o
   | none => none
  | .exit id => some ⟨.exit id, a, aw⟩
  | .ret => some ⟨.ret, a, aw⟩
def cGuard (ops : Array Oper) : Option (Nat × Bool) → Option (Option (Nat × Bool))
 | none => some none
 | some (j, want) => match ops[j]? with
  | some o => match o.dst with
   | some t => some (some (t, want))
   | none => none
  | none => none
def callable (P : Program) (f : FuncId) : Bool :=
 match P.funcs[f]? with
 | some fn => fn.body.isSome && !(fn.name == "runtime.NumGoroutine")
 | none => false
def cItem (P : Program) (ops : Array Oper) (o : Oper) : Option CR :=
 match o.op with
 | .call { callee := .value f, args, .. } => match cGuard ops o.guard with
  | some g => match cOpds args.toList with
   | some as => match f with
    | .func f => some (.call o.dst g f as)
    | f => match cOpd f with
     | some f => some (.callv o.dst g f as)
     | none => none
   | none => none
  | none => none
 | .defer { callee := .value f, args, .. } => match o.guard with
  | none => match cOpds args.toList with
   | some as => match cOpd f with
    | some f => some (.defer o.dst f as)
    | none => none
   | none => none
  | some _ => none
 | .panic x => match o.guard with
  | none => match cOpd x with
   | some x => some (.panic x)
   | none => none
  | some _ => none
 | _ => match cGuard ops o.guard with
  | some g => match cOp P o with
   | some c => some (.op o.dst g c)
   | none => none
  | none => none
def cItems (P : Program) (ops : Array Oper) : List Nat → Option (List CR)
 | [] => some []
 | i :: l => match ops[i]? with
  | some o => match cItem P ops o with
   | some c => match cItems P ops l with
    | some m => some (c :: m)
    | none => none
   | none => none
  | none => none
def XRel (E : Env) : AX → Exit → Prop
 | .norm, .normal => True
 | .exit id, .exit id' => id = id'
 | .ret, .ret => True
 | .panic v, .panic ch => ∃ cv, ch = [{ v := cv, recovered := false }] ∧ VRel E v cv
 | _, _ => False
def Post (E : Env) (o : Out) (e : Exit) (a : Act) (w : World) : Prop := ∃ E', E.Le E' ∧ Rel E' o.aw w ∧ ActRel E' o.act a ∧ XRel E' o.x e
theorem Post.mono {E E' : Env} (h : E.Le E') {o : Out} {e : Exit} {a : Act} {w : World} (hp : Post E' o e a w) : Post E o e a w := by
 obtain ⟨E2, h1, h2⟩ := hp
 exact ⟨E2, h.trans h1, h2⟩
def ResRel (E : Env) : ARes → Ending → World → Prop
 | .ret v aw, .returned cv, w => Rel E aw w ∧ VRel E v cv
 | .panic v aw, .panicked ch, w => Rel E aw w ∧ ∃ cv, ch = [{ v := cv, recovered := false }] ∧ VRel E v cv
 | _, _, _ => False
def CallOK (P : Program) (call : Call) : Prop := ∀ f args aw res, call f args aw = some res → callable P f = true ∧ ∀ E w cargs, LRel E args cargs → Rel E aw w →
 Calls P f cargs.toArray w fun e w' => ∃ E', E.Le E' ∧ ResRel E' res e w'
section
variable {P : Program} {E : Env}
theorem put_sound {a a' : AAct} {ca : Act} {d : Option Nat} {v : AV} {x : Value} (h : a.put d v = some a') (hA : ActRel E a ca) (hv : VRel E v x) : ActRel E a' (ca.put d x) := by
 unfold AAct.put at h
 split at h
 ·simp at h; subst h; exact hA
 ·rename_i d
  cases hb : Nat.blt d a.n <;> simp only [hb, cond_true, cond_false, reduceCtorEq, sI] at h
  subst h
  have hb : d < a.n := nbl hb
  refine ⟨by simp [Act.put, hA.size], fun t u hu => ?_, hA.defs⟩
  rcases Tr.get_set hu with ⟨rfl, rfl⟩ | ⟨hne, hu⟩
  ·exact ⟨x, by simp only [Act.put]; rw [Array.getElem?_setIfInBounds_self_of_lt (by rw [hA.size]; exact hb)], hv⟩
  ·obtain ⟨y, hy, hr⟩ := hA.tmps t u hu
   exact ⟨y, by simp only [Act.put]; rw [Array.getElem?_setIfInBounds_ne (Ne.symm hne)]; exact hy, hr⟩
theorem guard_sound {a : AAct} {ca : Act} {ops : Array Oper} {o : Oper} {g : Option (Nat × Bool)} {b : Bool} (hc : cGuard ops o.guard = some g) (h : xguard a g = some b) (hA : ActRel E a ca) : Region.wanted o (yielded ops ca.tmps) = b := by
 unfold Region.wanted
 cases hg : o.guard with
 | none =>
  rw [hg] at hc
  simp [cGuard] at hc; subst hc
  simp [xguard] at h; subst h
  rfl
 | some p =>
  obtain ⟨j, want⟩ := p
  rw [hg] at hc
  simp only [cGuard] at hc
  split at hc <;> (try (cases hc; done))
  rename_i oj hoj
  split at hc <;> (try (cases hc; done))
  rename_i t ht
  simp at hc; subst hc
  simp only [xguard] at h
  split at h <;> (try (cases h; done))
  ·rename_i bb hb
   simp at h; subst h
   obtain ⟨x, hx, hr⟩ := hA.tmps _ _ hb
   cases hr
   simp only [yielded, hoj, Option.bind_some, ht, hx]
   cases bb <;> cases want <;> rfl
  ·rename_i l hb
   simp at h; subst h
   obtain ⟨x, hx, hr⟩ := hA.tmps _ _ hb
   cases hr
   simp only [yielded, hoj, Option.bind_some, ht, hx]
   rfl
theorem run_callFunc {f : FuncId} (h : callable P f = true) (args : Array Value) (w : World) : (callFunc f args).run P w = .ok (.enter f args) w := by
 unfold callable at h
 split at h
 ·rename_i fn hfn
  simp only [Bool.and_eq_true, Bool.not_eq_true'] at h
  obtain ⟨h1, h2⟩ := h
  have h3 : ¬ fn.body = none := by cases hb : fn.body <;> simp [hb] at h1 ⊢
  have h4 : ¬ fn.name = "runtime.NumGoroutine" := by simpa using h2
  simp [callFunc, hfn, h4, h3]
 ·cases h
theorem call_sound {call : Call} (hcall : CallOK P call) {o : Oper} {a : AAct} {ca : Act} {aw : AW} {w : World} {f : FuncId} {vs : List AV} {cargs : List Value} {d : Option Nat} {k : AAct → AW → Option Out} {out : Out} {next : Act → World → Prop} {Q : Exit → Act → World → Prop}
  (hx : xback a d k (call f vs aw) = some out) (hA : ActRel E a ca) (hR : Rel E aw w) (hargs : LRel E vs cargs) (hex : callable P f = true → (execOp ca.eval o).run P w = .ok (.enter f cargs.toArray) w) (hd : o.dst = d)
  (hk : ∀ E' a' aw' ca' w', E.Le E' → k a' aw' = some out → ActRel E' a' ca' → Rel E' aw' w' → next ca' w')
  (hQ : ∀ e a w, Post E out e a w → Q e a w) : o.wp P ca w next Q := by
 cases hres : call f vs aw with
 | none => rw [hres] at hx; simp [xback] at hx
 | some res =>
  obtain ⟨hf, hc⟩ := hcall f vs aw res hres
  rw [hres] at hx
  unfold Oper.wp
  rw [hex hf, Oper.upon_enter]
  refine (hc E w cargs hargs hR).mono fun e w' he => ?_
  obtain ⟨E', hle, hr⟩ := he
  cases res with
  | ret v aw' =>
   cases e with
   | returned cv =>
    obtain ⟨hR', hv⟩ := hr
    simp only [xback] at hx
    split at hx <;> (try (cases hx; done))
    rename_i a' ha'
    exact hk E' a' aw' _ w' hle hx (hd ▸ put_sound ha' (hA.mono hle) hv) hR'
   | panicked ch => exact hr.elim
   | outgrown => exact hr.elim
  | panic v aw' =>
   cases e with
   | returned cv => exact hr.elim
   | panicked ch =>
    obtain ⟨hR', cv, rfl, hv⟩ := hr
    simp only [xback, sI] at hx
    subst hx
    exact hQ _ _ _ ⟨E', hle, hR', hA.mono hle, cv, rfl, hv⟩
   | outgrown => exact hr.elim
end
section
variable {P : Program} {E : Env}
theorem exec_call {cl : Go.Call} {o : Oper} {ca : Act} {f : FuncId} {first cap : Array Value} {w : World} (ho : o.op = .call cl) {fo : Operand} (hcl : cl.callee = .value fo) (hf : ca.eval fo = .func (.func f) first cap) (hc : callable P f = true) :
  (execOp ca.eval o).run P w = .ok (.enter f (first ++ cl.args.map ca.eval ++ cap)) w := by
 simp only [execOp, ho, resolve, hcl, hf, Deferred.ofValue]
 have : invoke (.fn (.func f) cap) (first ++ cl.args.map ca.eval) = callFunc f (first ++ cl.args.map ca.eval ++ cap) := rfl
 simp only [Sem.run_bind, Sem.run_pure, Result.andThen_ok, this, run_callFunc hc]
theorem wp_of_yes {o : Oper} {ca : Act} {w : World} {r : AV} {aw' : AW} {a a' : AAct} {out : Out} {next : Act → World → Prop} {Q : Exit → Act → World → Prop} (hy : Yes P o E ca w r aw') (hput : a.put o.dst r = some a') (hA : ActRel E a ca)
  (hk : ∀ E' ca' w', E.Le E' → ActRel E' a' ca' → Rel E' aw' w' → next ca' w') : o.wp P ca w next Q := by
 obtain ⟨E', w', hle, hR', h⟩ := hy
 unfold Oper.wp
 rcases h with ⟨v, hrun, hv⟩ | ⟨hrun, rfl⟩
 ·rw [hrun]
  exact hk E' _ w' hle (put_sound hput (hA.mono hle) hv) hR'
 ·rw [hrun]
  exact hk E' _ w' hle (put_sound hput (hA.mono hle) (.tuple .nil)) hR'
theorem items_sound {call : Call} (hcall : CallOK P call) {ops : Array Oper} : ∀ (l : List Nat) {items : List CR} {E : Env} {a : AAct} {ca : Act} {aw : AW} {w : World} {out : Out} {Q : Exit → Act → World → Prop}, cItems P ops l = some items → xitems call items a aw = some out →
  ActRel E a ca → Rel E aw w → (∀ e a w, Post E out e a w → Q e a w) → wpOps P ops Q l ca w
 | [], items, E, a, ca, aw, w, out, Q, hc, hx, hA, hR, hQ => by
  simp [cItems] at hc; subst hc
  simp [xitems] at hx; subst hx
  exact hQ _ _ _ ⟨E, .refl E, hR, hA, trivial⟩
 | i :: l, items, E, a, ca, aw, w, out, Q, hc, hx, hA, hR, hQ => by
  simp only [cItems] at hc
  split at hc <;> (try (cases hc; done))
  rename_i o ho
  split at hc <;> (try (cases hc; done))
  rename_i c hci
  split at hc <;> (try (cases hc; done))
  rename_i m hm
  simp at hc; subst hc
  have rest : ∀ E' a' aw' ca' w', E.Le E' → xitems call m a' aw' = some out → ActRel E' a' ca' → Rel E' aw' w' → wpOps P ops Q l ca' w' := fun E' a' aw' ca' w' hle h1 h2 h3 =>
   items_sound hcall l hm h1 h2 h3 fun e a w hp => hQ e a w (hp.mono hle)
  simp only [wpOps, ho]
  have guarded : ∀ g, cGuard ops o.guard = some g → (∀ b, xguard a g = some b → (b = true → o.wp P ca w (wpOps P ops Q l) Q) ∧ (b = false → ∃ a', a.put o.dst (.tuple []) = some a' ∧ xitems call m a' aw = some out)) → (∃ b, xguard a g = some b) →
    (if Region.wanted o (yielded ops ca.tmps) = true then o.wp P ca w (wpOps P ops Q l) Q ∨ (o.asks P ca w ∧ LetsOut Q) else wpOps P ops Q l (ca.put o.dst undef) w) := by
   intro g hg hb hex
   obtain ⟨b, hgb⟩ := hex
   rw [guard_sound hg hgb hA]
   cases b with
   | true => rw [if_pos rfl]; exact .inl ((hb true hgb).1 rfl)
   | false =>
    rw [if_neg (by simp)]
    obtain ⟨a', h1, h2⟩ := (hb false hgb).2 rfl
    exact rest E a' aw _ w (.refl E) h2 (put_sound h1 hA (.tuple .nil)) hR
  unfold cItem at hci
  split at hci
  ·
   rename_i f args ts hop
   split at hci <;> (try (cases hci; done))
   rename_i g hg
   split at hci <;> (try (cases hci; done))
   rename_i as has
   split at hci
   ·rename_i f
    simp at hci; subst hci
    simp only [xitems] at hx
    refine guarded g hg (fun b hb => ⟨fun e => ?_, fun e => ?_⟩) ?_
    ·subst e
     rw [hb] at hx
     simp only at hx
     split at hx <;> (try (cases hx; done))
     rename_i vs hvs
     refine call_sound hcall hx hA hR (opds_sound hA has hvs) (fun hf => ?_) rfl (fun E' a' aw' ca' w' => rest E' a' aw' ca' w') hQ
     rw [exec_call hop rfl (rfl : ca.eval (.func f) = .func (.func f) #[] #[]) hf]
     congr 2
     apply Array.ext'
     simp
    ·subst e
     rw [hb] at hx
     simp only at hx
     split at hx <;> (try (cases hx; done))
     rename_i a' ha'
     exact ⟨a', ha', hx⟩
    ·cases hgg : xguard a g with
     | none => rw [hgg] at hx; cases hx
     | some b => exact ⟨b, rfl⟩
   ·split at hci <;> (try (cases hci; done))
    rename_i hnf fo hfo
    simp at hci; subst hci
    simp only [xitems] at hx
    refine guarded g hg (fun b hb => ⟨fun e => ?_, fun e => ?_⟩) ?_
    ·subst e
     rw [hb] at hx
     simp only at hx
     split at hx <;> (try (cases hx; done))
     rename_i ff first cap hfv
     split at hx <;> (try (cases hx; done))
     rename_i vs hvs
     have hr := opd_sound hA hfo hfv
     cases hev : ca.eval f <;> rw [hev] at hr
     all_goals (try (cases hr; done))
     cases hr with
     | func _ h1 h2 =>
      rename_i fc cc
      refine call_sound hcall hx hA hR (LRel.append (LRel.append h1 (opds_sound hA has hvs)) h2) (fun hf => ?_) rfl (fun E' a' aw' ca' w' => rest E' a' aw' ca' w') hQ
      rw [exec_call hop rfl hev hf]
      congr 2
      apply Array.ext'
      simp
    ·subst e
     rw [hb] at hx
     simp only at hx
     split at hx <;> (try (cases hx; done))
     rename_i a' ha'
     exact ⟨a', ha', hx⟩
    ·cases hgg : xguard a g with
     | none => rw [hgg] at hx; cases hx
     | some b => exact ⟨b, rfl⟩
  ·
   rename_i f args ts hop
   split at hci <;> (try (cases hci; done))
   rename_i hg
   split at hci <;> (try (cases hci; done))
   rename_i as has
   split at hci <;> (try (cases hci; done))
   rename_i fo hfo
   simp at hci; subst hci
   simp only [xitems] at hx
   have hw : Region.wanted o (yielded ops ca.tmps) = true := by simp [Region.wanted, hg]
   rw [if_pos hw]
   refine .inl ?_
   split at hx <;> (try (cases hx; done))
   rename_i ff first cap hfv
   split at hx <;> (try (cases hx; done))
   rename_i vs hvs
   split at hx <;> (try (cases hx; done))
   rename_i a' ha'
   have hr := opd_sound hA hfo hfv
   cases hev : ca.eval f <;> rw [hev] at hr
   all_goals (try (cases hr; done))
   cases hr with
   | func _ h1 h2 =>
    rename_i fc cc
    unfold Oper.wp
    have hex : (execOp ca.eval o).run P w = .ok (.defer { target := .fn (.func ff) cc, args := fc ++ args.map ca.eval }) w := by
     simp only [execOp, hop, resolve, hev, Deferred.ofValue]
     rfl
    rw [hex, Oper.upon_defer]
    refine rest E a' aw _ w (.refl E) hx (put_sound ha' (x := undef) ⟨hA.size, hA.tmps, .cons rfl ?_ hA.defs⟩ (.tuple .nil)) hR
    have := LRel.append (LRel.append h1 (opds_sound hA has hvs)) h2
    simpa using this
  ·
   rename_i x hop
   split at hci <;> (try (cases hci; done))
   rename_i hg
   split at hci <;> (try (cases hci; done))
   rename_i ox hox
   simp at hci; subst hci
   simp only [xitems] at hx
   have hw : Region.wanted o (yielded ops ca.tmps) = true := by simp [Region.wanted, hg]
   rw [if_pos hw]
   refine .inl ?_
   split at hx <;> (try (cases hx; done))
   rename_i t v hv
   simp at hx; subst hx
   have hr := opd_sound hA hox hv
   cases hev : ca.eval x <;> rw [hev] at hr
   all_goals (try (cases hr; done))
   rename_i t' v'
   unfold Oper.wp
   have hex : (execOp ca.eval o).run P w = .halt (.panic (.iface t' v')) w := by
    simp [execOp, hop, hev, Instr.panic]
   rw [hex, Oper.upon_panic]
   exact hQ _ _ _ ⟨E, .refl E, hR, hA, _, rfl, hr⟩
  ·
   rename_i h1 h2 h3
   split at hci <;> (try (cases hci; done))
   rename_i g hg
   split at hci <;> (try (cases hci; done))
   rename_i c' hc'
   simp at hci; subst hci
   simp only [xitems] at hx
   refine guarded g hg (fun b hb => ⟨fun e => ?_, fun e => ?_⟩) ?_
   ·subst e
    rw [hb] at hx
    simp only at hx
    split at hx <;> (try (cases hx; done))
    rename_i v aw' hv
    split at hx <;> (try (cases hx; done))
    rename_i a' ha'
    exact wp_of_yes (out := out) (op_sound hc' hv hA hR) ha' hA fun E' ca' w' hle h1 h2 => rest E' a' aw' ca' w' hle hx h1 h2
   ·subst e
    rw [hb] at hx
    simp only at hx
    split at hx <;> (try (cases hx; done))
    rename_i a' ha'
    exact ⟨a', ha', hx⟩
   ·cases hgg : xguard a g with
    | none => rw [hgg] at hx; cases hx
    | some b => exact ⟨b, rfl⟩
def LoopAt (P : Program) (c : Code) (Q : Exit → Act → World → Prop) (a : Act) (w : World) : Prop :=
 ∀ (b : Frame) (k : List Item) (cs : List Frame), ∃ e a' w', Q e a' w' ∧ Arrives P (lone (b.at a (.code c :: .inLoop c :: k)) cs w) b k cs e a' w'
theorem LoopAt.wp {c : Code} {Q : Exit → Act → World → Prop} {a : Act} {w : World} (h : LoopAt P c Q a w) : (Code.loop c).wp P Q a w := by
 intro b k cs
 obtain ⟨e, a', w', hq, harr⟩ := h b k cs
 exact ⟨e, a', w', hq, .of_steps (.one step_loop) harr⟩
theorem LoopAt.round {c : Code} {Q : Exit → Act → World → Prop} {a : Act} {w : World} (h : c.wp P (Exit.then (LoopAt P c Q) Q) a w) : LoopAt P c Q a w := by
 intro b k cs
 obtain ⟨e, a₁, w₁, hq, harr⟩ := h b (.inLoop c :: k) cs
 cases e with
 | normal =>
  obtain ⟨e₂, a₂, w₂, hq₂, harr₂⟩ := hq b k cs
  exact ⟨e₂, a₂, w₂, hq₂, .of_steps (Steps.trans harr (.one step_inLoop)) harr₂⟩
 | exit id => exact ⟨_, a₁, w₁, hq, .pass (x := .inLoop c) rfl (fun _ _ => .inl (by simp)) harr⟩
 | goto l => exact ⟨_, a₁, w₁, hq, .pass (x := .inLoop c) rfl (fun _ _ => .inl (by simp)) harr⟩
 | ret => exact ⟨_, a₁, w₁, hq, .pass (x := .inLoop c) rfl (fun _ _ => .inl (by simp)) harr⟩
 | panic ch => exact ⟨_, a₁, w₁, hq, .pass (x := .inLoop c) rfl (fun _ _ => .inl (by simp)) harr⟩
 | outgrown => exact ⟨_, a₁, w₁, hq, .pass (x := .inLoop c) rfl (fun _ _ => .inl (by simp)) harr⟩
def cCode (P : Program) (dr : Array Oper → Option (List CR × List CR)) : Code → Option CC
 | .skip => some .skip
 | .region id ops draw => match draw with
  | false => match cItems P ops (List.range ops.size) with
   | some l => some (.region l)
   | none => none
  | true => match dr ops with
   | some (l, r) => some (.draw l r)
   | none => none
 | .seq x y => match cCode P dr x with
  | some x => match cCode P dr y with
   | some y => some (.seq x y)
   | none => none
  | none => none
 | .cond c x y => match cOpd c with
  | some c => match cCode P dr x with
   | some x => match cCode P dr y with
    | some y => some (.cond c x y)
    | none => none
   | none => none
  | none => none
 | .block id b => match cCode P dr b with
  | some b => some (.block id b)
  | none => none
 | .loop b => match cCode P dr b with
  | some b => some (.loop b)
  | none => none
 | .exit id => some (.exit id)
 | .ret => some .ret
 | _ => none
def DrawOK (P : Program) (call : Call) (dr : Array Oper → Option (List CR × List CR)) : Prop :=
 ∀ ops l r, dr ops = some (l, r) → ∀ id E a ca aw w o out, xitems call l a aw = some o → o.x = .norm → xitems call r o.act o.aw = some out → ActRel E a ca → Rel E aw w → (Code.region id ops true).wp P (Post E out) ca w
theorem code_sound {call : Call} (hcall : CallOK P call) {dr : Array Oper → Option (List CR × List CR)} (hdr : DrawOK P call dr) : ∀ (n : Nat) {c : Code} {cc : CC} {E : Env} {a : AAct} {ca : Act} {aw : AW} {w : World} {out : Out}, cCode P dr c = some cc → xcode call n cc a aw = some out →
  ActRel E a ca → Rel E aw w → c.wp P (Post E out) ca w ∧ ∀ b, c = .loop b → LoopAt P b (Post E out) ca w := by
 intro n
 induction n with
 | zero => intro c cc E a ca aw w out hc hx; simp [xcode] at hx
 | succ n ih =>
  intro c cc E a ca aw w out hc hx hA hR
  cases c with
  | skip =>
   simp [cCode] at hc; subst hc
   simp [xcode] at hx; subst hx
   exact ⟨wp_skip ⟨E, .refl E, hR, hA, trivial⟩, fun b e => by cases e⟩
  | region id ops draw =>
   cases draw with
   | false =>
    simp only [cCode] at hc
    split at hc <;> (try (cases hc; done))
    rename_i l hl
    simp at hc; subst hc
    simp only [xcode] at hx
    exact ⟨wp_region (items_sound hcall _ hl hx hA hR fun e a w h => h), fun b e => by cases e⟩
   | true =>
    simp only [cCode] at hc
    split at hc <;> (try (cases hc; done))
    rename_i l r hl
    simp at hc; subst hc
    simp only [xcode] at hx
    split at hx <;> (try (cases hx; done))
    rename_i o1 ho1
    split at hx <;> (try (cases hx; done))
    rename_i hn
    exact ⟨hdr ops l r hl id E a ca aw w o1 out ho1 hn hx hA hR, fun b e => by cases e⟩
  | seq x y =>
   simp only [cCode] at hc
   split at hc <;> (try (cases hc; done))
   rename_i cx hcx
   split at hc <;> (try (cases hc; done))
   rename_i cy hcy
   simp at hc; subst hc
   simp only [xcode] at hx
   split at hx <;> (try (cases hx; done))
   rename_i o1 ho1
   refine ⟨wp_seq (wp_mono (ih hcx ho1 hA hR).1 fun e a' w' hp => ?_), fun b e => by cases e⟩
   obtain ⟨E', hle, hR', hA', hX⟩ := hp
   split at hx
   ·rename_i hn
    rw [hn] at hX
    cases e <;> simp only [XRel] at hX
    exact wp_mono (ih hcy hx hA' hR').1 fun e a w hp => hp.mono hle
   ·rename_i hn
    simp at hx; subst hx
    have : Post E o1 e a' w' := ⟨E', hle, hR', hA', hX⟩
    cases e with
    | normal => cases hx1 : o1.x <;> rw [hx1] at hX <;> simp only [XRel] at hX; exact (hn hx1).elim
    | _ => exact this
  | cond co x y =>
   simp only [cCode] at hc
   split at hc <;> (try (cases hc; done))
   rename_i oc hoc
   split at hc <;> (try (cases hc; done))
   rename_i cx hcx
   split at hc <;> (try (cases hc; done))
   rename_i cy hcy
   simp at hc; subst hc
   simp only [xcode] at hx
   split at hx <;> (try (cases hx; done))
   rename_i b hb
   have hr := opd_sound hA hoc hb
   cases hev : ca.eval co <;> rw [hev] at hr <;> cases hr
   refine ⟨wp_cond hev ?_, fun b e => by cases e⟩
   cases b with
   | true => exact (ih hcx hx hA hR).1
   | false => exact (ih hcy hx hA hR).1
  | block id b =>
   simp only [cCode] at hc
   split at hc <;> (try (cases hc; done))
   rename_i cb hcb
   simp at hc; subst hc
   simp only [xcode] at hx
   split at hx <;> (try (cases hx; done))
   rename_i o1 ho1
   refine ⟨wp_block (wp_mono (ih hcb ho1 hA hR).1 fun e a' w' hp => ?_), fun b e => by cases e⟩
   obtain ⟨E', hle, hR', hA', hX⟩ := hp
   split at hx
   ·rename_i id' hn
    rw [hn] at hX
    cases e <;> simp only [XRel] at hX
    subst hX
    simp only [Exit.inBlock]
    cases hb : Nat.beq id id' with
    | true =>
     simp only [hb, cond_true, sI] at hx
     subst hx
     rw [if_pos (nbt hb).symm]
     exact ⟨E', hle, hR', hA', trivial⟩
    | false =>
     simp only [hb, cond_false, sI] at hx
     subst hx
     rw [if_neg fun e => ne_of_beq hb e.symm]
     exact ⟨E', hle, hR', hA', by rw [hn]; rfl⟩
   ·rename_i hn
    simp at hx; subst hx
    have : Post E o1 e a' w' := ⟨E', hle, hR', hA', hX⟩
    cases e with
    | exit id' => cases hx1 : o1.x <;> rw [hx1] at hX <;> simp only [XRel] at hX; exact (hn _ hx1).elim
    | _ => exact this
  | loop b =>
   simp only [cCode] at hc
   split at hc <;> (try (cases hc; done))
   rename_i cb hcb
   simp at hc; subst hc
   simp only [xcode] at hx
   split at hx <;> (try (cases hx; done))
   rename_i o1 ho1
   have key : LoopAt P b (Post E out) ca w := by
    refine LoopAt.round (wp_mono (ih hcb ho1 hA hR).1 fun e a' w' hp => ?_)
    obtain ⟨E', hle, hR', hA', hX⟩ := hp
    split at hx
    ·rename_i hn
     rw [hn] at hX
     cases e <;> simp only [XRel] at hX
     have := (ih (c := .loop b) (cc := .loop cb) (by simp [cCode, hcb]) hx hA' hR').2 b rfl
     intro fb k cs
     obtain ⟨e, a2, w2, hq, harr⟩ := this fb k cs
     exact ⟨e, a2, w2, hq.mono hle, harr⟩
    ·rename_i hn
     simp at hx; subst hx
     have : Post E o1 e a' w' := ⟨E', hle, hR', hA', hX⟩
     cases e with
     | normal => cases hx1 : o1.x <;> rw [hx1] at hX <;> simp only [XRel] at hX; exact (hn hx1).elim
     | _ => exact this
   exact ⟨key.wp, fun b' e => by injection e with e; subst e; exact key⟩
  | exit id =>
   simp [cCode] at hc; subst hc
   simp [xcode] at hx; subst hx
   exact ⟨wp_exit ⟨E, .refl E, hR, hA, rfl⟩, fun b e => by cases e⟩
  | ret =>
   simp [cCode] at hc; subst hc
   simp [xcode] at hx; subst hx
   exact ⟨wp_ret ⟨E, .refl E, hR, hA, trivial⟩, fun b e => by cases e⟩
  | rangeFunc _ _ _ _ => simp [cCode] at hc
  | scope _ => simp [cCode] at hc
  | label _ => simp [cCode] at hc
  | goto _ => simp [cCode] at hc
  | refuse _ => simp [cCode] at hc
end
inductive CRes where
 | tmp (t : Nat)
 | cell (t : Nat) (n : Option Nat)
structure CFn where
 body : CC
 n : Nat
 res : List CRes
def xres (a : AAct) (aw : AW) : List CRes → Option (List AV)
 | [] => some []
 | .tmp t :: l => match a.tmps.get t t with
  | some v => match xres a aw l with
   | some m => some (v :: m)
   | none => none
  | none => none
 | .cell t n :: l => match a.tmps.get t t with
  | some p => match xload aw n p with
   | some v => match xres a aw l with
    | some m => some (v :: m)
    | none => none
   | none => none
  | none => none
def oneOf : List AV → AV
 | [v] => v
 | l => .tuple l
def slots : List AV → Nat → Tr AV → Tr AV
 | [], _, t => t
 | v :: l, i, t => slots l (i + 1) (t.set i i v)
abbrev DSum := FuncId → Option (Option AV → List AV → AW → Option (Option AV × AW))
def xdefs (ds : DSum) : List ADef → Option AV → AW → Option (Option AV × AW)
 | [], m, aw => some (m, aw)
 | d :: l, m, aw => match ds d.f with
  | some g => match g m d.args aw with
   | some (m, aw) => xdefs ds l m aw
   | none => none
  | none => none
def xleave (ds : DSum) (cf : CFn) (o : Out) (m : Option AV) : Option ARes :=
 match xdefs ds o.act.defs m o.aw with
 | some (none, aw) => match xres o.act aw cf.res with
  | some l => some (.ret (oneOf l) aw)
  | none => none
 | some (some v, aw) => some (.panic v aw)
 | none => none
abbrev Summ := FuncId → Option (List AV → AW → Option ARes)
def xcall (F : FuncId → Option CFn) (sm : Summ) (ds : DSum) (N : Nat) : Nat → Call
 | 0 => fun _ _ _ => none
 | n + 1 => fun f args aw => match sm f with
  | some g => g args aw
  | none => match F f with
   | some cf => bif Nat.ble args.length cf.n then (match xcode (xcall F sm ds N n) N cf.body ⟨slots args 0 .leaf, cf.n, []⟩ aw with
    | some o => match o.x with
     | .norm => xleave ds cf o none
     | .ret => xleave ds cf o none
     | .panic v => xleave ds cf o (some v)
     | .exit _ => none
    | none => none) else none
   | none => none
def cRess (P : Program) : List ResultVar → Option (List CRes)
 | [] => some []
 | .tmp t :: l => match cRess P l with
  | some m => some (.tmp t :: m)
  | none => none
 | .cell a t :: l => match aggP P t with
  | some n => match cRess P l with
   | some m => some (.cell a n :: m)
   | none => none
  | none => none
def cFn (P : Program) (dr : Array Oper → Option (List CR × List CR)) (f : FuncId) : Option CFn :=
 match P.funcs[f]? with
 | some fn => match fn.body with
  | some c => bif fn.name == "runtime.NumGoroutine" then none else (match cCode P dr c with
   | some cc => match cRess P fn.results.toList with
    | some rs => some ⟨cc, fn.ntmps, rs⟩
    | none => none
   | none => none)
  | none => none
 | none => none
def ModeRel (E : Env) : Option AV → FrameMode → Prop
 | none, .returning => True
 | some v, .panicking ch => ∃ cv, ch = [{ v := cv, recovered := false }] ∧ VRel E v cv
 | _, _ => False
def DefOK (P : Program) (ds : DSum) : Prop := ∀ f g m args aw m' aw', ds f = some g → g m args aw = some (m', aw') → callable P f = true ∧ ∀ E w cargs u, LRel E args cargs → Rel E aw w → ModeRel E m u →
 CallsD P f cargs.toArray u w fun e u' w' => ∃ E', E.Le E' ∧ Rel E' aw' w' ∧ (∃ v, e = .returned v) ∧ ModeRel E' m' (settle u')
def SumOK (P : Program) (sm : Summ) : Prop := ∀ f g, sm f = some g → ∀ args aw res, g args aw = some res → callable P f = true ∧ ∀ E w cargs, LRel E args cargs → Rel E aw w →
 Calls P f cargs.toArray w fun e w' => ∃ E', E.Le E' ∧ ResRel E' res e w'
section
variable {P : Program} {E : Env}
theorem slots_get : ∀ (l : List AV) (i : Nat) (t : Tr AV) {j : Nat} {v : AV}, (slots l i t).get j j = some v → (i ≤ j ∧ l[j - i]? = some v) ∨ (t.get j j = some v)
 | [], i, t, j, v, h => .inr h
 | x :: l, i, t, j, v, h => by
  simp only [slots] at h
  rcases slots_get l (i + 1) _ h with ⟨h1, h2⟩ | h
  ·left
   refine ⟨by omega, ?_⟩
   rw [show j - i = (j - (i + 1)) + 1 by omega]
   simpa using h2
  ·rcases Tr.get_set h with ⟨rfl, rfl⟩ | ⟨_, h⟩
   ·exact .inl ⟨Nat.le_refl _, by simp⟩
   ·exact .inr h
theorem init_rel {args : List AV} {cargs : List Value} {n : Nat} (h : LRel E args cargs) (hn : args.length ≤ n) : ActRel E ⟨slots args 0 .leaf, n, []⟩ { tmps := cargs.toArray ++ Array.replicate (n - cargs.toArray.size) undef, defers := [] } := by
 have hl := h.length
 refine ⟨by simp; omega, fun t v hv => ?_, .nil⟩
 rcases slots_get _ _ _ hv with ⟨_, h2⟩ | h2
 ·obtain ⟨x, hx, hr⟩ := h.get h2
  refine ⟨x, ?_, hr⟩
  have hlt := (lgs.1 hx).1
  simp at hlt hx
  rw [Array.getElem?_append_left (by simpa using hlt)]
  simpa using hx
 ·simp [Tr.get] at h2
theorem load_sound {aw : AW} {w : World} {t : TypeId} {n : Option Nat} {p v : AV} {pv : Value} (hn : aggP P t = some n) (hx : xload aw n p = some v) (hR : Rel E aw w) (hp : VRel E p pv) :
  ∃ a u, pv = .pointer (some a) ∧ (loadVar t a).run P w = .ok u w ∧ VRel E v u := by
 unfold xload at hx
 split at hx <;> (try (cases hx; done))
 rename_i id off
 split at hx <;> (try (cases hx; done))
 rename_i xo hg
 split at hx <;> (try (cases hx; done))
 rename_i l hrd
 cases pv
 all_goals (try (cases hp; done))
 rename_i ad
 cases ad with
 | none => cases hp
 | some ad =>
  obtain ⟨L, cs, _, hL, rfl, h1, h2, h3, h5⟩ := hR.at hp hg hrd
  split at hx
  ·obtain ⟨u, hu, hru⟩ := h5 _ _ hx
   have hcell : w.cell? ⟨L.block, L.base + off, none⟩ = some u := by obtain ⟨fz, h1⟩ := h1; simp [World.cell?, h1, hu]
   exact ⟨_, u, rfl, by simp only [loadVar, Sem.run_bind, aggP_none hn w, Result.andThen_ok, Bool.false_eq_true, if_false, run_load_at hcell], hru⟩
  ·rename_i n
   cases hb : Nat.beq ((l.drop off).take n).length n <;> simp only [hb, cond_false, cond_true, reduceCtorEq, sI] at hx
   subst hx
   obtain ⟨hag, i, hi, rfl⟩ := aggP_some hn
   obtain ⟨vs, hrun, hrel⟩ := load_cells (P := P) h1 h5 (nbt hb)
   exact ⟨_, .agg vs.toArray, rfl, by simp only [loadVar, Sem.run_bind, hag w, Result.andThen_ok, if_true, run_sizeOf' hi, hrun w rfl, Sem.run_pure], .agg (by simpa using hrel)⟩
def resF (tmps : Array Value) : ResultVar → Sem Value
 | .tmp t => pure (tmps.getD t undef)
 | .cell x t => do loadVar t (← asAddr (tmps.getD x undef))
theorem res_sound {a : AAct} {ca : Act} {aw : AW} {w : World} (hA : ActRel E a ca) (hR : Rel E aw w) : ∀ {rs : List ResultVar} {cs : List CRes} {l : List AV}, cRess P rs = some cs → xres a aw cs = some l →
  ∃ vs, (rs.mapM (resF ca.tmps)).run P w = .ok vs w ∧ LRel E l vs
 | [], cs, l, hc, hx => by
  simp [cRess] at hc; subst hc
  simp [xres] at hx; subst hx
  exact ⟨[], rfl, .nil⟩
 | .tmp t :: rs, cs, l, hc, hx => by
  simp only [cRess] at hc
  split at hc <;> (try (cases hc; done))
  rename_i m hm
  simp at hc; subst hc
  simp only [xres] at hx
  split at hx <;> (try (cases hx; done))
  rename_i v hv
  split at hx <;> (try (cases hx; done))
  rename_i l' hl'
  simp at hx; subst hx
  obtain ⟨vs, hrun, hrel⟩ := res_sound hA hR hm hl'
  obtain ⟨x, hx, hr⟩ := hA.tmps _ _ hv
  have hg : ca.tmps.getD t undef = x := by simp [Array.getD_eq_getD_getElem?, hx]
  exact ⟨x :: vs, by simp only [List.mapM_cons, resF, Sem.run_bind, Sem.run_pure, Result.andThen_ok, hg, hrun], .cons hr hrel⟩
 | .cell t ty :: rs, cs, l, hc, hx => by
  simp only [cRess] at hc
  split at hc <;> (try (cases hc; done))
  rename_i n hn
  split at hc <;> (try (cases hc; done))
  rename_i m hm
  simp at hc; subst hc
  simp only [xres] at hx
  split at hx <;> (try (cases hx; done))
  rename_i p hp
  split at hx <;> (try (cases hx; done))
  rename_i v hv
  split at hx <;> (try (cases hx; done))
  rename_i l' hl'
  simp at hx; subst hx
  obtain ⟨vs, hrun, hrel⟩ := res_sound hA hR hm hl'
  obtain ⟨x, hx, hr⟩ := hA.tmps _ _ hp
  have hg : ca.tmps.getD t undef = x := by simp [Array.getD_eq_getD_getElem?, hx]
  obtain ⟨ad, u, rfl, hl, hru⟩ := load_sound hn hv hR hr
  have h1 : (resF ca.tmps (.cell t ty)).run P w = .ok u w := by simp only [resF, Sem.run_bind, hg, asAddr, Sem.run_pure, Result.andThen_ok, hl]
  exact ⟨u :: vs, by simp only [List.mapM_cons, Sem.run_bind, h1, Result.andThen_ok, hrun, Sem.run_pure], .cons hru hrel⟩
theorem results_sound {fn : Func} {a : AAct} {ca : Act} {aw : AW} {w : World} {cs : List CRes} {l : List AV} (hA : ActRel E a ca) (hR : Rel E aw w) (hc : cRess P fn.results.toList = some cs) (hx : xres a aw cs = some l) :
  ∃ v, (results fn ca.tmps).run P w = .ok v w ∧ VRel E (oneOf l) v := by
 obtain ⟨vs, hrun, hrel⟩ := res_sound hA hR hc hx
 have hmm : (fn.results.mapM (resF ca.tmps)).run P w = .ok vs.toArray w := by
  rw [Array.mapM_eq_mapM_toList]
  simp only [Sem.run_map, hrun, Result.andThen_ok]
 refine ⟨if h : vs.toArray.size = 1 then vs.toArray[0] else .tuple vs.toArray, ?_, ?_⟩
 ·have hres : results fn ca.tmps = (do let vs ← fn.results.mapM (resF ca.tmps); pure (if h : vs.size = 1 then vs[0] else .tuple vs)) := rfl
  rw [hres]
  simp only [Sem.run_bind]
  rw [hmm]
  rfl
 ·cases hrel with
  | nil => simp [oneOf]; exact .tuple .nil
  | cons h1 h2 =>
   cases h2 with
   | nil => simpa [oneOf] using h1
   | cons h3 h4 =>
    simp only [oneOf]
    rw [dif_neg (by simp)]
    exact .tuple (.cons h1 (.cons h3 h4))
theorem settle_rel {E : Env} {m : Option AV} {u : FrameMode} (h : ModeRel E m u) : u ≠ .run := by
 cases m <;> cases u <;> simp [ModeRel] at h ⊢
theorem defs_sound {ds : DSum} (hds : DefOK P ds) {fn : Func} {tmps : Array Value} {R : Ending → World → Prop} : ∀ {l : List ADef} {cl : List Deferred} {E : Env} {m m' : Option AV} {aw aw' : AW} {w : World} {u : FrameMode}, xdefs ds l m aw = some (m', aw') → DRel E l cl → Rel E aw w → ModeRel E m u →
  (∀ E' w' u', E.Le E' → Rel E' aw' w' → ModeRel E' m' u' → Leaves P fn tmps R [] u' w') → Leaves P fn tmps R cl u w
 | [], _, E, m, m', aw, aw', w, u, h, .nil, hR, hm, hk => by
  simp [xdefs] at h; obtain ⟨rfl, rfl⟩ := h
  exact hk E w u (.refl E) hR hm
 | d :: l, e :: cl, E, m, m', aw, aw', w, u, h, .cons (cap := cap) ht ha t, hR, hm, hk => by
  simp only [xdefs] at h
  split at h <;> (try (cases h; done))
  rename_i g hg
  split at h <;> (try (cases h; done))
  rename_i m1 aw1 h1
  obtain ⟨hc, hcall⟩ := hds d.f g m d.args aw m1 aw1 hg h1
  have hargs : LRel E d.args (e.args ++ cap).toList := ha
  have := hcall E w (e.args ++ cap).toList u hargs hR hm
  rw [Array.toArray_toList] at this
  refine ⟨settle_rel hm, .func d.f, cap, d.f, e.args ++ cap, ht, ?_, ?_⟩
  ·rw [ht]
   exact run_callFunc hc _ w
  ·intro c cs hcm
   obtain ⟨en, u', w', fr, hR1, hcomes, hkk, hgo⟩ := this c cs hcm
   obtain ⟨E1, hle, hR2, ⟨v, rfl⟩, hm2⟩ := hR1
   refine ⟨.returned v, u', w', fr, ?_, hcomes, hkk, hgo⟩
   exact defs_sound hds h (t.mono hle) hR2 hm2 fun E' w2 u2 hle2 h2 h3 => hk E' w2 u2 (hle.trans hle2) h2 h3
theorem leave_sound {ds : DSum} (hds : DefOK P ds) {fn : Func} {cf : CFn} {o : Out} {E E1 : Env} {ca : Act} {w : World} {m : Option AV} {u : FrameMode} {res : ARes} (hle : E.Le E1) (hc : cRess P fn.results.toList = some cf.res) (hx : xleave ds cf o m = some res)
  (hR : Rel E1 o.aw w) (hA : ActRel E1 o.act ca) (hm : ModeRel E1 m u) : Leaves P fn ca.tmps (fun e w' => ∃ E', E.Le E' ∧ ResRel E' res e w') ca.defers u w := by
 unfold xleave at hx
 split at hx <;> (try (cases hx; done))
 ·rename_i aw1 h1
  split at hx <;> (try (cases hx; done))
  rename_i l hl
  simp at hx; subst hx
  refine defs_sound hds h1 hA.defs hR hm fun E' w' u' hle2 h2 h3 => ?_
  cases u' <;> simp only [ModeRel] at h3
  obtain ⟨v, hv, hrel⟩ := results_sound (hA.mono hle2) h2 hc hl
  exact ⟨v, hv, E', hle.trans hle2, h2, hrel⟩
 ·rename_i v aw1 h1
  simp at hx; subst hx
  refine defs_sound hds h1 hA.defs hR hm fun E' w' u' hle2 h2 h3 => ?_
  cases u' <;> simp only [ModeRel] at h3
  exact ⟨E', hle.trans hle2, h2, h3⟩
theorem xcall_sound {F : FuncId → Option CFn} {dr : Array Oper → Option (List CR × List CR)} (hF : ∀ f cf, F f = some cf → cFn P dr f = some cf) {sm : Summ} (hsm : SumOK P sm) {ds : DSum} (hds : DefOK P ds) (hdr : ∀ call, CallOK P call → DrawOK P call dr) (N : Nat) :
  ∀ n, CallOK P (xcall F sm ds N n) := by
 intro n
 induction n with
 | zero => intro f args aw res h; simp [xcall] at h
 | succ n ih =>
  intro f args aw res h
  simp only [xcall] at h
  split at h
  ·rename_i g hg
   exact hsm f g hg args aw res h
  ·split at h <;> (try (cases h; done))
   rename_i cf hcf
   cases hb : Nat.ble args.length cf.n <;> simp only [hb, cond_true, cond_false, reduceCtorEq] at h
   have hb := nbl hb
   split at h <;> (try (cases h; done))
   rename_i o ho
   have hcc := hF f cf hcf
   unfold cFn at hcc
   split at hcc <;> (try (cases hcc; done))
   rename_i fn hfn
   split at hcc <;> (try (cases hcc; done))
   rename_i c hbody
   cases hname : (fn.name == "runtime.NumGoroutine") <;> simp only [hname, cond_true, cond_false, reduceCtorEq] at hcc
   split at hcc <;> (try (cases hcc; done))
   rename_i cc hcode
   split at hcc <;> (try (cases hcc; done))
   rename_i rs hrs
   simp at hcc; subst hcc
   refine ⟨by simp [callable, hfn, hbody, hname], fun E w cargs hargs hR => ?_⟩
   refine calls_of_wp_defers hfn hbody ?_
   have hinit := init_rel (n := fn.ntmps) hargs hb
   refine wp_mono (code_sound ih (hdr _ ih) N hcode ho hinit hR).1 fun e a w' hp => ?_
   obtain ⟨E1, hle, hR1, hA1, hX⟩ := hp
   split at h
   ·rename_i hx
    rw [hx] at hX
    cases e <;> simp only [XRel] at hX
    exact leave_sound hds hle hrs h hR1 hA1 trivial
   ·rename_i hx
    rw [hx] at hX
    cases e <;> simp only [XRel] at hX
    exact leave_sound hds hle hrs h hR1 hA1 trivial
   ·rename_i v hx
    rw [hx] at hX
    cases e <;> simp only [XRel] at hX
    exact leave_sound hds hle hrs h hR1 hA1 hX
   ·cases h
end
def Opd.uses : Opd → List Nat
 | .t n => [n]
 | .c _ => []
def usesL : List Opd → List Nat
 | [] => []
 | x :: l => x.uses ++ usesL l
def usesO : Option Opd → List Nat
 | none => []
 | some x => x.uses
def usesP : List (Nat × Nat × Opd) → List Nat
 | [] => []
 | (_, _, x) :: l => x.uses ++ usesP l
def COp.uses : COp → List Nat
 | .mv x | .box _ x | .load _ x | .nilck x | .nileq _ _ x | .bnot x | .neg x | .conv _ x | .b2s x | .iface _ x | .off _ x | .part _ _ x | .range x | .next x | .entry x | .assert _ x _ | .ext _ x | .lenS x | .lenM x | .capS x | .clear _ x | .s2s x => x.uses
 | .pick x y z | .mapset x y z => x.uses ++ (y.uses ++ z.uses)
 | .alloc _ _ | .mkmap => []
 | .build _ ps | .mkslc _ _ _ ps => usesP ps
 | .store _ x y | .bin _ _ x y | .beq _ x y | .seq _ x y | .mkslice _ _ _ x y | .idxS _ x y | .idxA _ _ x y | .idxT x y | .look _ _ x y | .del x y | .append _ _ _ x y | .appendZ _ _ _ x y | .copy _ x y | .mn x y | .mx x y => x.uses ++ y.uses
 | .func _ fs cs => usesL fs ++ usesL cs
 | .slice _ x lo hi m => x.uses ++ (usesO lo ++ (usesO hi ++ usesO m))
theorem ev_congr {a b : Tr AV} {x : Opd} (h : ∀ t ∈ x.uses, a.get t t = b.get t t) : x.ev a = x.ev b := by
 cases x with
 | t n => exact h n (by simp [Opd.uses])
 | c v => rfl
theorem evs_congr {a b : Tr AV} : ∀ {l : List Opd}, (∀ t ∈ usesL l, a.get t t = b.get t t) → evs a l = evs b l
 | [], _ => rfl
 | x :: l, h => by
  simp only [evs]
  rw [ev_congr fun t ht => h t (by simp [usesL, ht]), evs_congr fun t ht => h t (by simp [usesL, ht])]
theorem xfill_congr {a b : Tr AV} : ∀ {ps : List (Nat × Nat × Opd)} {l : List AV}, (∀ t ∈ usesP ps, a.get t t = b.get t t) → xfill a l ps = xfill b l ps
 | [], l, _ => rfl
 | (o, n, x) :: ps, l, h => by
  simp only [xfill]
  rw [ev_congr fun t ht => h t (by simp [usesP, ht])]
  split
  ·split
   ·have : ∀ l', xfill a l' ps = xfill b l' ps := fun l' => xfill_congr fun t ht => h t (by simp [usesP, ht])
    simp only [this]
   ·rfl
  ·rfl
theorem xop_congr {a b : Tr AV} {aw : AW} {c : COp} (h : ∀ t ∈ c.uses, a.get t t = b.get t t) : xop a aw c = xop b aw c := by
 cases c with
 | alloc cs e => rfl
 | mkmap => rfl
 | build z ps => simp only [xop]; rw [xfill_congr h]
 | mkslc e n z ps => simp only [xop]; rw [xfill_congr h]
 | func f fs cs =>
  simp only [xop]
  rw [evs_congr fun t ht => h t (by simp [COp.uses, ht]), evs_congr (l := cs) fun t ht => h t (by simp [COp.uses, ht])]
 | slice sz x lo hi m =>
  have h1 := ev_congr (x := x) fun t ht => h t (by simp [COp.uses, ht])
  have h2 : ∀ o, lo = some o → o.ev a = o.ev b := fun o e => ev_congr fun t ht => h t (by subst e; simp [COp.uses, usesO, ht])
  have h3 : ∀ o, hi = some o → o.ev a = o.ev b := fun o e => ev_congr fun t ht => h t (by subst e; simp [COp.uses, usesO, ht])
  have h4 : ∀ o, m = some o → o.ev a = o.ev b := fun o e => ev_congr fun t ht => h t (by subst e; simp [COp.uses, usesO, ht])
  simp only [xop, h1]
  cases lo <;> cases hi <;> cases m <;> simp at h2 h3 h4 <;> simp only [*]
 | pick x y z =>
  simp only [xop]
  rw [ev_congr (x := x) fun t ht => h t (by simp [COp.uses, ht]), ev_congr (x := y) fun t ht => h t (by simp [COp.uses, ht]), ev_congr (x := z) fun t ht => h t (by simp [COp.uses, ht])]
 | mapset x y z =>
  simp only [xop]
  rw [ev_congr (x := x) fun t ht => h t (by simp [COp.uses, ht]), ev_congr (x := y) fun t ht => h t (by simp [COp.uses, ht]), ev_congr (x := z) fun t ht => h t (by simp [COp.uses, ht])]
 | s2s x | mv x | box _ x | load _ x | nilck x | nileq _ _ x | bnot x | neg x | conv _ x | b2s x | iface _ x | off _ x | part _ _ x | range x | next x | entry x | assert _ x _ | ext _ x | lenS x | lenM x | capS x | clear _ x =>
  simp only [xop]
  rw [ev_congr (x := x) h]
 | idxT x y | store _ x y | bin _ _ x y | beq _ x y | seq _ x y | mkslice _ _ _ x y | idxS _ x y | idxA _ _ x y | look _ _ x y | del x y | append _ _ _ x y | appendZ _ _ _ x y | copy _ x y | mn x y | mx x y =>
  simp only [xop]
  rw [ev_congr (x := x) fun t ht => h t (by simp [COp.uses, ht]), ev_congr (x := y) fun t ht => h t (by simp [COp.uses, ht])]
def COp.kind : COp → Nat
 | .mv _ | .pick _ _ _ | .build _ _ | .bin _ _ _ _ | .nileq _ _ _ | .beq _ _ _ | .seq _ _ _ | .bnot _ | .neg _ | .conv _ _ | .iface _ _ | .func _ _ _ | .slice _ _ _ _ _ | .off _ _ | .part _ _ _ | .idxS _ _ _ | .idxA _ _ _ _ | .idxT _ _ | .nilck _ | .assert _ _ _ | .ext _ _ | .lenS _ | .capS _ | .mn _ _ | .mx _ _ => 0
 | .load _ _ | .look _ _ _ _ | .b2s _ | .lenM _ | .entry _ => 1
 | _ => 2
theorem kind0_eq {a : Tr AV} {aw aw2 : AW} {c : COp} (hk : c.kind = 0) : xop a aw2 c = (xop a aw c).map fun p => (p.1, aw2) := by
 cases c <;> first | (simp [COp.kind] at hk; done) | skip
 case mv x => simp only [xop]; cases x.ev a <;> rfl
 case pick x y z =>
  simp only [xop]
  split
  ·rename_i b _
   cases (bif b then y.ev a else z.ev a) <;> rfl
  ·rfl
 case build z ps => simp only [xop]; cases xfill a z ps <;> rfl
 case nilck x => simp only [xop]; split <;> rfl
 case bin op sh x y =>
  simp only [xop]
  cases x.ev a with
  | none => rfl
  | some u =>
   simp only
   cases y.ev a with
   | none => rfl
   | some v => simp only; cases xbin op sh u v <;> rfl
 case nileq kd neg x =>
  simp only [xop]
  cases x.ev a with
  | none => rfl
  | some u => simp only; cases isNil kd u <;> rfl
 case beq neg x y =>
  simp only [xop]
  split
  ·split <;> rfl
  ·rfl
 case seq neg x y =>
  simp only [xop]
  split
  ·split
   ·rename_i u _ _ v _
    cases sameBytes u v <;> rfl
   ·rfl
  ·rfl
 case bnot x => simp only [xop]; split <;> rfl
 case neg x => simp only [xop]; split <;> rfl
 case conv k x => simp only [xop]; split <;> rfl
 case iface t x => simp only [xop]; cases x.ev a <;> rfl
 case func f fs cs =>
  simp only [xop]
  cases evs a fs with
  | none => rfl
  | some u => simp only; cases evs a cs <;> rfl
 case slice sz x lo hi m =>
  simp only [xop]
  cases x.ev a with
  | none => rfl
  | some s =>
   simp only
   split
   ·split
    ·split
     ·rename_i l _ _ h _ _ m _
      cases xslice sz s l h m <;> rfl
     ·rfl
    ·rfl
   ·rfl
 case off n x => simp only [xop]; split <;> rfl
 case part n o x =>
  simp only [xop]
  split
  ·split
   ·rename_i l _ _
    cases l[o]? <;> rfl
   ·rename_i l _ _ n
    cases Nat.beq ((l.drop o).take n).length n <;> rfl
  ·rfl
 case idxS sz x i =>
  simp only [xop]
  split
  ·cases i.ev a with
   | none => rfl
   | some iv =>
    simp only
    cases xnat iv with
    | none => rfl
    | some i => simp only; rename_i len _ _; cases Nat.blt i len <;> rfl
  ·rfl
 case idxA n sz x i =>
  simp only [xop]
  split
  ·cases i.ev a with
   | none => rfl
   | some iv =>
    simp only
    cases xnat iv with
    | none => rfl
    | some i => simp only; cases Nat.blt i n <;> rfl
  ·rfl
 case idxT x i =>
  simp only [xop]
  split
  ·cases i.ev a with
   | none => rfl
   | some iv =>
    simp only
    cases xnat iv with
    | none => rfl
    | some i => simp only; rename_i l _; cases l[i]? <;> rfl
  ·rfl
 case assert t x z =>
  simp only [xop]
  split
  ·rename_i t' v _
   cases Nat.beq t t' <;> rfl
  ·rfl
 case ext i x =>
  simp only [xop]
  split
  ·rename_i l _
   cases l[i]? <;> rfl
  ·rfl
 case lenS x =>
  simp only [xop]
  cases x.ev a with
  | none => rfl
  | some v => simp only; cases xlen v <;> rfl
 case capS x => simp only [xop]; split <;> rfl
 case mn x y =>
  simp only [xop]
  split
  ·split <;> rfl
  ·rfl
 case mx x y =>
  simp only [xop]
  split
  ·split <;> rfl
  ·rfl
theorem kind0 {a : Tr AV} {aw aw' : AW} {c : COp} {v : AV} (hk : c.kind = 0) (h : xop a aw c = some (v, aw')) : aw' = aw ∧ ∀ aw2, xop a aw2 c = some (v, aw2) := by
 have h1 := kind0_eq (a := a) (aw := aw) (aw2 := aw) hk
 rw [h] at h1
 simp at h1
 refine ⟨h1, fun aw2 => ?_⟩
 rw [kind0_eq (aw := aw) hk, h]
 rfl
theorem kind1 {a : Tr AV} {aw aw' : AW} {c : COp} {v : AV} (hk : c.kind = 1) (h : xop a aw c = some (v, aw')) : aw' = aw := by
 cases c <;> first | (simp [COp.kind] at hk; done) | skip
 case load n x =>
  simp only [xop] at h
  split at h <;> (try (cases h; done))
  split at h <;> (try (cases h; done))
  simp at h; exact h.2.symm
 case look z ok m k =>
  simp only [xop] at h
  split at h <;> (try (cases h; done))
  split at h <;> (try (cases h; done))
  split at h <;> (try (cases h; done))
  split at h <;> (try (cases h; done)) <;> (simp at h; exact h.2.symm)
 case b2s x =>
  simp only [xop] at h
  split at h <;> (try (cases h; done))
  split at h <;> (try (cases h; done))
  rename_i l _
  cases hu : allU8 l <;> simp [hu] at h
  exact h.2.symm
 case lenM x =>
  simp only [xop] at h
  split at h <;> (try (cases h; done))
  ·simp at h; exact h.2.symm
  ·split at h <;> (try (cases h; done))
   simp at h; exact h.2.symm
 case entry x =>
  simp only [xop] at h
  split at h <;> (try (cases h; done))
  split at h <;> (try (cases h; done))
  split at h <;> (try (cases h; done))
  rename_i b st _ _ e clock _
  revert h
  generalize (Nat.beq clock st && Nat.beq b e.born) = q
  intro h
  cases q
  ·cases h
  ·simp at h; exact h.2.symm
end Go.Proofs.YtbilacojhmohmaaGreat.Ae
end
