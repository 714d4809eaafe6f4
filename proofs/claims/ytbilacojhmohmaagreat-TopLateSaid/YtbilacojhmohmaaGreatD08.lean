/- A state of the evaluator, told anew: other numbers for the objects, what is of no use forgotten. A law's code,. No condition. -/
import Derived.Recover
import Derived.Test.YtbilacojhmohmaaGreatD06
import Derived.KernelRfl
import Derived.Test.YtbilacojhmohmaaGreatProg
import Derived.RangeFuncNested
import Derived.RangeFuncBound
import Derived.RangeFuncCalls
import Derived.RangeFuncLeaves
import Derived.RangeFuncBox
import Derived.RangeFuncFrom
import Derived.Shelf.Abstract
import Derived.Shelf.RegionOpen
import Derived.WalkKit
import Derived.OwnWalkIn
import Derived.TacticsInMore
import Derived.LoopNIn
import Derived.LoopIn
import Derived.Maps.OwnIn
import Derived.Maps.AppendAt
import Derived.Sort.MapsRangeIn
import Derived.Sort.KeysCollected
set_option linter.unusedVariables false
set_option linter.unusedSimpArgs false
noncomputable section
namespace Go.Proofs.YtbilacojhmohmaaGreat.Ae
open Go
section
def trOf {α : Type} (l : List α) : Nat → Tr α → Tr α := List.rec (motive := fun _ => Nat → Tr α → Tr α) (fun _ t => t) (fun x _ ih i t => ih (Nat.succ i) (trSet t i x)) l
theorem trOf_get {α : Type} : ∀ (l : List α) (i : Nat) (t : Tr α) (j : Nat), (trOf l i t).get j j = if i ≤ j ∧ j < i + l.length then l[j - i]? else t.get j j
 | [], i, t, j => by
  rw [if_neg (by simp)]
  rfl
 | x :: l, i, t, j => by
  show (trOf l (i + 1) (trSet t i x)).get j j = _
  rw [trOf_get l, trSet_eq]
  by_cases h1 : j = i
  ·subst h1
   rw [if_neg (by omega), if_pos (by simp), Tr.get_set_same]
   simp
  ·by_cases h2 : i + 1 ≤ j ∧ j < i + 1 + l.length
   ·rw [if_pos h2, if_pos (by simp; omega), show j - i = (j - (i + 1)) + 1 by omega]
    simp
   ·rw [if_neg h2, if_neg (by simp; omega), Tr.get_set_other h1]
def ofObjs (l : List AO) (n : Nat) : AW := ⟨trOf l (nat_lit 0) .leaf, n, nat_lit 0⟩
theorem ofObjs_get (l : List AO) (n j : Nat) : (ofObjs l n).get j = l[j]? := by
 show (trOf l 0 .leaf).get j j = _
 rw [trOf_get]
 by_cases h : j < l.length
 ·rw [if_pos (by omega)]; simp
 ·rw [if_neg (by omega)]; simp [Tr.get]; omega
def tmOf (l : List (Nat × AV)) : Tr AV → Tr AV := List.rec (motive := fun _ => Tr AV → Tr AV) (fun t => t) (fun x _ ih t => Prod.rec (motive := fun _ => Tr AV) (fun i v => ih (trSet t i v)) x) l
theorem tmOf_get : ∀ (l : List (Nat × AV)) (t : Tr AV) (j : Nat) (v : AV), (tmOf l t).get j j = some v → (j, v) ∈ l ∨ t.get j j = some v
 | [], t, j, v, h => .inr h
 | (i, x) :: l, t, j, v, h => by
  have h : (tmOf l (trSet t i x)).get j j = some v := h
  rcases tmOf_get l _ j v h with h | h
  ·exact .inl (List.mem_cons_of_mem _ h)
  ·rw [trSet_eq] at h
   rcases Tr.get_set h with ⟨rfl, rfl⟩ | ⟨_, h⟩
   ·exact .inl (by simp)
   ·exact .inr h
def SRel (σ : Tr Nat) (E E' : Env) : Prop := E'.sym = E.sym ∧ E'.tk = E.tk ∧ ∀ j i, σ.get j j = some i → ∀ L, E.loc[i]? = some L → E'.loc[j]? = some L
def Bd (N : Nat) (σ : Tr Nat) : Prop := ∀ j i, σ.get j j = some i → j < N
def Ext (N : Nat) (σ σ' : Tr Nat) : Prop := (∀ j i, σ.get j j = some i → σ'.get j j = some i) ∧ (Bd N σ → Bd N σ')
theorem Ext.refl {N : Nat} (σ : Tr Nat) : Ext N σ σ := ⟨fun _ _ h => h, id⟩
theorem Ext.trans {N : Nat} {a b c : Tr Nat} (h : Ext N a b) (h' : Ext N b c) : Ext N a c := ⟨fun j i q => h'.1 j i (h.1 j i q), fun q => h'.2 (h.2 q)⟩
theorem SRel.mono {N : Nat} {σ σ' : Tr Nat} {E E' : Env} (h : Ext N σ σ') (hs : SRel σ' E E') : SRel σ E E' := ⟨hs.1, hs.2.1, fun j i q => hs.2.2 j i (h.1 j i q)⟩
def WkV (σ : Tr Nat) (o n : AV) : Prop := ∀ E E' v, SRel σ E E' → VRel E o v → VRel E' n v
theorem WkV.mono {N : Nat} {σ σ' : Tr Nat} (h : Ext N σ σ') {o n : AV} (hw : WkV σ o n) : WkV σ' o n := fun E E' v hs => hw E E' v (hs.mono h)
def WkO (σ : Tr Nat) (o n : AO) : Prop := (n.live = true → o.live = true) ∧ ∀ E E' L w, SRel σ E E' → ORel E L w o → ORel E' L w n
theorem WkO.mono {N : Nat} {σ σ' : Tr Nat} (h : Ext N σ σ') {o n : AO} (hw : WkO σ o n) : WkO σ' o n := ⟨hw.1, fun E E' L w hs => hw.2 E E' L w (hs.mono h)⟩
variable {N : Nat}
section
variable {P : Program} {dr : Array Oper → Option (List CR × List CR)} {fr : Nat → Option Obj} {sy : SymW} {call : Call} {cc x y b : CC} {Q : Exit → Act → World → Prop} {a a1 : AAct} {aw aw1 : AW}
abbrev Post' := Exit → Act → World → Prop
def Good (P : Program) (dr : Array Oper → Option (List CR × List CR)) (fr : Nat → Option Obj) (sy : SymW) (cc : CC) (Q : Post') (a : AAct) (aw : AW) : Prop :=
 ∀ c, cCode P dr c = some cc → ∀ E ca w, E.fr = fr → E.sym = sy → ActRel E a ca → Rel E aw w → c.wp P Q ca w
def GoodL (P : Program) (dr : Array Oper → Option (List CR × List CR)) (fr : Nat → Option Obj) (sy : SymW) (b : CC) (Q : Post') (a : AAct) (aw : AW) : Prop :=
 ∀ c, cCode P dr c = some b → ∀ E ca w, E.fr = fr → E.sym = sy → ActRel E a ca → Rel E aw w → LoopAt P c Q ca w
def thenC (P : Program) (dr : Array Oper → Option (List CR × List CR)) (y : CC) (Q : Post') : Post'
 | .normal, ca, w => ∀ c, cCode P dr c = some y → c.wp P Q ca w
 | e, ca, w => Q e ca w
theorem inv_seq {c : Code} (h : cCode P dr c = some (.seq x y)) : ∃ c1 c2, c = .seq c1 c2 ∧ cCode P dr c1 = some x ∧ cCode P dr c2 = some y := by
 cases c <;> simp only [cCode] at h <;> (try (cases h; done))
 ·split at h <;> split at h <;> simp at h
 ·split at h <;> (try (cases h; done))
  split at h <;> (try (cases h; done))
  simp at h; obtain ⟨rfl, rfl⟩ := h
  exact ⟨_, _, rfl, by assumption, by assumption⟩
 ·split at h <;> (try (cases h; done))
  split at h <;> (try (cases h; done))
  split at h <;> (try (cases h; done))
 ·split at h <;> (try (cases h; done))
 ·split at h <;> (try (cases h; done))
theorem inv_block {c : Code} {id : Nat} (h : cCode P dr c = some (.block id b)) : ∃ c1, c = .block id c1 ∧ cCode P dr c1 = some b := by
 cases c <;> simp only [cCode] at h <;> (try (cases h; done))
 ·split at h <;> split at h <;> simp at h
 ·split at h <;> (try (cases h; done))
  split at h <;> (try (cases h; done))
 ·split at h <;> (try (cases h; done))
  split at h <;> (try (cases h; done))
  split at h <;> (try (cases h; done))
 ·split at h <;> (try (cases h; done))
  rename_i q hq
  simp at h; obtain ⟨rfl, rfl⟩ := h
  exact ⟨_, rfl, hq⟩
 ·split at h <;> (try (cases h; done))
theorem inv_loop {c : Code} (h : cCode P dr c = some (.loop b)) : ∃ c1, c = .loop c1 ∧ cCode P dr c1 = some b := by
 cases c <;> simp only [cCode] at h <;> (try (cases h; done))
 ·split at h <;> split at h <;> simp at h
 ·split at h <;> (try (cases h; done))
  split at h <;> (try (cases h; done))
 ·split at h <;> (try (cases h; done))
  split at h <;> (try (cases h; done))
  split at h <;> (try (cases h; done))
 ·split at h <;> (try (cases h; done))
 ·split at h <;> (try (cases h; done))
  rename_i q hq
  simp at h; subst h
  exact ⟨_, rfl, hq⟩
theorem Good.run (hcall : CallOK P call) (hdr : DrawOK P call dr) {n : Nat} {o : Out} (h : xcode call n cc a aw = some o)
  (hk : ∀ E e ca w, E.fr = fr → E.sym = sy → Rel E o.aw w → ActRel E o.act ca → XRel E o.x e → Q e ca w) : Good P dr fr sy cc Q a aw := by
 intro c hc E ca w hE hS hA hR
 refine wp_mono (code_sound hcall hdr n hc h hA hR).1 fun e a' w' ⟨E', hle, h1, h2, h3⟩ => ?_
 exact hk E' e a' w' (hle.2.2.1.trans hE) (hle.2.1.trans hS) h1 h2 h3
theorem Good.seq (hcall : CallOK P call) (hdr : DrawOK P call dr) {n : Nat} (h : xcode call n x a aw = some ⟨.norm, a1, aw1⟩) (hy : Good P dr fr sy y Q a1 aw1) : Good P dr fr sy (.seq x y) Q a aw := by
 intro c hc E ca w hE hS hA hR
 obtain ⟨c1, c2, rfl, h1, h2⟩ := inv_seq hc
 refine wp_seq (wp_mono (code_sound hcall hdr n h1 h hA hR).1 fun e a' w' ⟨E', hle, g1, g2, g3⟩ => ?_)
 cases e <;> simp only [XRel] at g3
 exact hy c2 h2 E' a' w' (hle.2.2.1.trans hE) (hle.2.1.trans hS) g2 g1
theorem Good.into (h : Good P dr fr sy x (thenC P dr y Q) a aw) : Good P dr fr sy (.seq x y) Q a aw := by
 intro c hc E ca w hE hS hA hR
 obtain ⟨c1, c2, rfl, h1, h2⟩ := inv_seq hc
 refine wp_seq (wp_mono (h c1 h1 E ca w hE hS hA hR) fun e a' w' hq => ?_)
 cases e <;> simp only [thenC, Exit.then] at hq ⊢ <;> first | exact hq c2 h2 | exact hq
theorem Good.block {id : Nat} (h : Good P dr fr sy b (Exit.inBlock id Q) a aw) : Good P dr fr sy (.block id b) Q a aw := by
 intro c hc E ca w hE hS hA hR
 obtain ⟨c1, rfl, h1⟩ := inv_block hc
 exact wp_block (h c1 h1 E ca w hE hS hA hR)
theorem Good.loop (h : GoodL P dr fr sy b Q a aw) : Good P dr fr sy (.loop b) Q a aw := by
 intro c hc E ca w hE hS hA hR
 obtain ⟨c1, rfl, h1⟩ := inv_loop hc
 exact (h c1 h1 E ca w hE hS hA hR).wp
theorem GoodL.round (hcall : CallOK P call) (hdr : DrawOK P call dr) {n : Nat} (h : xcode call n b a aw = some ⟨.norm, a1, aw1⟩) (hg : GoodL P dr fr sy b Q a1 aw1) : GoodL P dr fr sy b Q a aw := by
 intro c hc E ca w hE hS hA hR
 refine LoopAt.round (wp_mono (code_sound hcall hdr n hc h hA hR).1 fun e a' w' ⟨E', hle, g1, g2, g3⟩ => ?_)
 cases e <;> simp only [XRel] at g3
 exact hg c hc E' a' w' (hle.2.2.1.trans hE) (hle.2.1.trans hS) g2 g1
theorem Good.as {a' : AAct} (hw : ∀ E ca, E.sym = sy → ActRel E a ca → ActRel E a' ca) (hg : Good P dr fr sy cc Q a' aw) : Good P dr fr sy cc Q a aw := by
 intro c hc E ca w hE hS hA hR
 exact hg c hc E ca w hE hS (hw E ca hS hA) hR
def loopQ (P : Program) (dr : Array Oper → Option (List CR × List CR)) (b : CC) (Q : Post') : Post'
 | .normal, ca, w => ∀ c, cCode P dr c = some b → LoopAt P c Q ca w
 | e, ca, w => Q e ca w
theorem GoodL.of (h : Good P dr fr sy b (loopQ P dr b Q) a aw) : GoodL P dr fr sy b Q a aw := by
 intro c hc E ca w hE hS hA hR
 refine LoopAt.round (wp_mono (h c hc E ca w hE hS hA hR) fun e a' w' hq => ?_)
 cases e <;> simp only [loopQ, Exit.then] at hq ⊢ <;> first | exact hq c hc | exact hq
end
theorem Rel.move {E : Env} {aw : AW} {w w' : World} (h : Rel E aw w) (hn : (∃ ρ, E.sym.f = symVal ρ) ∧ w'.os = E.sym.os ∧ w'.output = E.sym.out) (ho : ∀ j x L, aw.get j = some x → E.loc[j]? = some L → ORel E L w x → x.live = true → ORel E L w' x) (hf : ∀ b o, E.fr b = some o → w'.heap[b]? = some o) (ht : ∀ b x, E.tk b = some x → TokAt w' b x) : Rel E aw w' := by
 refine ⟨h.nx, hn, fun j x hj => ?_, h.inj, hf, h.apart, fun b o hb => ⟨ht b o hb, (h.tok.1 b o hb).2⟩, h.tok.2⟩
 obtain ⟨L, hL, hr⟩ := h.obj j x hj
 refine ⟨L, hL, ?_⟩
 cases hx : x.live with
 | false => cases x <;> first | trivial | exact hr | simp [AO.live] at hx
 | true => exact ho j x L hj hL hr hx
theorem Rel.addAt {E : Env} {aw : AW} {w : World} {L : Loc} {o : AO} (h : Rel E aw w) (hne : ∀ j x Lj, aw.get j = some x → x.live = true → E.loc[j]? = some Lj → Lj.block ≠ L.block) (hf : E.fr L.block = none) (htk : E.tk L.block = none) (ho : ORel (E.put L) L w o) : Rel (E.put L) (aw.add o) w := by
 have hle := E.put_le L
 have new : (E.put L).loc[aw.nx]? = some L := h.nx ▸ E.put_new L
 have old : ∀ k ok Lk, aw.get k = some ok → (E.put L).loc[k]? = some Lk → E.loc[k]? = some Lk := fun k ok Lk hk ek => by
  obtain ⟨L', hL', hr⟩ := h.obj k ok hk
  rw [hle.loc hL'] at ek; injection ek with ek; subst ek
  exact hL'
 refine ⟨by simp [AW.add, Env.put, h.nx], h.ns, fun j x hj => ?_, fun i j oi oj Li Lj hi hj li lj ei ej e => ?_, h.frame, fun i oi Li hi li ei => ?_, h.tok.1, fun i oi Li hi li ei => ?_⟩
 ·rcases AW.get_add hj with ⟨rfl, rfl⟩ | ⟨hne, hj⟩
  ·exact ⟨L, new, ho⟩
  ·obtain ⟨L', hL', hr⟩ := h.obj j x hj
   exact ⟨L', hle.loc hL', hr.mono hle⟩
 ·rcases AW.get_add hi with ⟨e1, e2⟩ | ⟨hni, hi2⟩ <;> rcases AW.get_add hj with ⟨e3, e4⟩ | ⟨hnj, hj2⟩
  ·rw [e1, e3]
  ·rw [e1, new] at ei; injection ei with ei; subst ei
   exact (hne j oj Lj hj2 lj (old j oj Lj hj2 ej) e.symm).elim
  ·rw [e3, new] at ej; injection ej with ej; subst ej
   exact (hne i oi Li hi2 li (old i oi Li hi2 ei) e).elim
  ·exact h.inj i j oi oj Li Lj hi2 hj2 li lj (old i oi Li hi2 ei) (old j oj Lj hj2 ej) e
 ·rcases AW.get_add hi with ⟨e1, e2⟩ | ⟨hni, hi2⟩
  ·rw [e1, new] at ei; injection ei with ei; subst ei; exact hf
  ·exact h.apart i oi Li hi2 li (old i oi Li hi2 ei)
 ·rcases AW.get_add hi with ⟨e1, e2⟩ | ⟨hni, hi2⟩
  ·rw [e1, new] at ei; injection ei with ei; subst ei; exact htk
  ·exact h.tok.2 i oi Li hi2 li (old i oi Li hi2 ei)
def AV.plain : AV → Bool
 | .int _ _ | .bool _ | .undef | .nilFunc | .nilIface | .ptr none | .map none => true
 | .slc none 0 (.known 0) => true
 | _ => false
theorem VRel.plain {E E' : Env} {a : AV} {v : Value} (ha : a.plain = true) (h : VRel E a v) : VRel E' a v := by
 cases h <;> first | (simp [AV.plain] at ha; done) | (constructor; done)
def plainL : List AV → Bool
 | [] => true
 | a :: l => a.plain && plainL l
theorem plainL_get : ∀ {l : List AV}, plainL l = true → ∀ {i : Nat} {a : AV}, l[i]? = some a → a.plain = true
 | [], _, i, a, h => by simp at h
 | x :: l, hl, i, a, h => by
  simp only [plainL, Bool.and_eq_true] at hl
  cases i with
  | zero => simp at h; subst h; exact hl.1
  | succ i => simp at h; exact plainL_get hl.2 h
theorem ORel.plain {E E' : Env} {L : Loc} {w : World} {l : List AV} {e : TypeId} {b : Bool} (hl : plainL l = true) (h : ORel E L w (.cells l e b)) : ORel E' L w (.cells l e b) := by
 obtain ⟨c, fz, h1, h2, h3, h4, h5⟩ := h
 exact ⟨c, fz, h1, h2, h3, h4, fun i a hi => let ⟨v, hv, hr⟩ := h5 i a hi; ⟨v, hv, hr.plain (plainL_get hl hi)⟩⟩
def emptyE (E : Env) (w : World) : Env := ⟨[], E.sym, fun b => w.heap[b]?, fun _ => none⟩
theorem emptyE_rel {E : Env} {aw : AW} {w : World} (h : Rel E aw w) : Rel (emptyE E w) ⟨.leaf, 0, 0⟩ w :=
 ⟨rfl, h.ns, fun j x hj => by simp [AW.get, Tr.get] at hj, fun i j oi oj Li Lj hi => by simp [AW.get, Tr.get] at hi, fun b o hb => hb, fun i oi Li hi => by simp [AW.get, Tr.get] at hi, ⟨fun b o hb => (by cases hb), fun _ _ _ _ _ _ => rfl⟩⟩
theorem sum_fresh {P : Program} {call : Call} (hcall : CallOK P call) {f : FuncId} {args : List AV} (hargs : ∀ a ∈ args, a.plain = true) {i : Nat} {aw' : AW} {l : List AV} {e : TypeId} {b : Bool} (hc : call f args ⟨.leaf, 0, 0⟩ = some (.ret (.ptr (some (i, 0))) aw')) (hg : aw'.get i = some (.cells l e b)) (hl : plainL l = true) :
  callable P f = true ∧ ∀ (E : Env) (aw : AW) (w : World) cargs, LRel E args cargs → Rel E aw w → Calls P f cargs.toArray w fun en w' => ∃ E', E.Le E' ∧ ResRel E' (.ret (.ptr (some (aw.nx, 0))) (aw.add (.cells l e b))) en w' := by
 obtain ⟨h1, h2⟩ := hcall f args _ _ hc
 refine ⟨h1, fun E aw w cargs hr hR => ?_⟩
 have hargs' : ∀ {E E' : Env} {l : List AV} {m : List Value}, (∀ a ∈ l, a.plain = true) → LRel E l m → LRel E' l m := by
  intro E E' l m hp h
  refine LRel.of_get h.length fun i a ha => ?_
  obtain ⟨v, hv, hr⟩ := h.get ha
  exact ⟨v, hv, hr.plain (hp a (List.mem_of_getElem? ha))⟩
 refine (h2 (emptyE E w) w cargs (hargs' hargs hr) (emptyE_rel hR)).mono fun en w' ⟨E1, hle, hres⟩ => ?_
 cases en with
 | returned cv =>
  obtain ⟨hR1, hv⟩ := hres
  obtain ⟨L, hL, ho⟩ := hR1.obj i _ hg
  have hfr : ∀ bb ob, w.heap[bb]? = some ob → w'.heap[bb]? = some ob := fun bb ob hb => hR1.frame bb ob (by rw [hle.2.2.1]; exact hb)
  have hnew : w.heap[L.block]? = none := by
   have := hR1.apart i _ L hg rfl hL
   rw [hle.2.2.1] at this; exact this
  have hmv : Rel E aw w' := hR.move (hle.2.1 ▸ hR1.ns) (fun j x Lj hj hLj ho hx => by
   have hlt := ho.lt hx
   refine ho.heap ?_
   rw [hfr _ _ (age hlt), age hlt]) (fun bb ob hb => hfr bb ob (hR.frame bb ob hb)) (fun bb x hb => let q := (hR.tok.1 bb x hb).1; q.heap ((hfr bb _ (age q.lt)).trans (age q.lt).symm))
  refine ⟨E.put L, E.put_le L, hmv.addAt (fun j x Lj hj hx hLj e => ?_) ?_ ?_ (ho.plain hl), ?_⟩
  ·obtain ⟨L', hL', hro⟩ := hR.obj j x hj
   rw [hLj] at hL'; injection hL' with hL'; subst hL'
   have := hro.lt hx
   rw [e] at this
   rw [age this] at hnew; cases hnew
  ·cases hq : E.fr L.block with
   | none => rfl
   | some ob => have := hR.frame _ _ hq; rw [hnew] at this; cases this
  ·cases hq : E.tk L.block with
   | none => rfl
   | some ob => have := (hR.tok.1 _ _ hq).1.lt; rw [age this] at hnew; cases hnew
  ·cases hv with
   | ptr hL2 =>
    rw [hL] at hL2; injection hL2 with hL2; subst hL2
    exact .ptr (by rw [hR.nx]; exact E.put_new L)
 | panicked ch => exact hres.elim
 | outgrown => exact hres.elim
def oneE (E : Env) (w : World) (L : Loc) : Env := ⟨[L], E.sym, fun b => bif Nat.beq b L.block then none else w.heap[b]?, fun _ => none⟩
theorem oneE_rel {E : Env} {aw : AW} {w : World} {L : Loc} {o : AO} (h : Rel E aw w) (ho : ORel (oneE E w L) L w o) : Rel (oneE E w L) (ofObjs [o] 1) w := by
 refine ⟨rfl, h.ns, fun j x hj => ?_, fun i j oi oj Li Lj hi hj _ _ _ _ _ => ?_, fun b ob hb => ?_, fun i oi Li hi _ hL => ?_, ⟨fun b o hb => (by cases hb), fun _ _ _ _ _ _ => rfl⟩⟩
 ·rw [ofObjs_get] at hj
  cases j with
  | zero => simp at hj; subst hj; exact ⟨L, rfl, ho⟩
  | succ j => simp at hj
 ·rw [ofObjs_get] at hi hj
  cases i with
  | zero => cases j with
   | zero => rfl
   | succ j => simp at hj
  | succ i => simp at hi
 ·simp only [oneE] at hb
  cases hq : Nat.beq b L.block <;> simp [hq] at hb
  exact hb
 ·rw [ofObjs_get] at hi
  cases i with
  | zero =>
   have : L = Li := by simpa [oneE] using hL
   subst this
   simp [oneE, Nat.beq_refl]
  | succ i => simp at hi
theorem oneE_frame {E E1 : Env} {aw1 : AW} {w w' : World} {L : Loc} (hle : (oneE E w L).Le E1) (h : Rel E1 aw1 w') : ∀ b, b ≠ L.block → b < w.heap.size → w'.heap[b]? = w.heap[b]? := fun b hb hlt => by
 have : (oneE E w L).fr b = some w.heap[b] := by
  simp only [oneE]
  cases hq : Nat.beq b L.block with
  | true => exact (hb (nbt hq)).elim
  | false => simp [hlt]
 rw [h.frame b _ (by rw [hle.2.2.1]; exact this), age hlt]
theorem oneE_back {E E1 : Env} {aw aw1 : AW} {w w' : World} {id : Nat} {L : Loc} {o : AO} (hR : Rel E aw w) (hg : aw.get id = some o) (hlive : o.live = true) (hL : E.loc[id]? = some L) (hle : (oneE E w L).Le E1) (h : Rel E1 aw1 w') (ho : ORel E L w' o) : Rel E aw w' := by
 have hkeep := oneE_frame hle h
 refine hR.move (hle.2.1 ▸ h.ns) (fun j x Lj hj hLj hoj hx => ?_) (fun b ob hb => ?_) (fun b ob hb => ?_)
 ·by_cases e : j = id
  ·subst e
   rw [hg] at hj; injection hj with hj; subst hj
   rw [hL] at hLj; injection hLj with hLj; subst hLj
   exact ho
  ·exact hoj.heap (hkeep _ (fun q => e (hR.inj j id x o Lj L hj hg hx hlive hLj hL q)) (hoj.lt hx))
 ·have hb' := hR.frame b ob hb
  rw [hkeep b (fun q => by rw [q, hR.apart id o L hg hlive hL] at hb; cases hb) (agz.1 hb').1]
  exact hb'
 ·have hb' := (hR.tok.1 b ob hb).1
  exact hb'.heap (hkeep b (fun q => by rw [q, hR.tok.2 id o L hg hlive hL] at hb; cases hb) hb'.lt)
theorem oneE_new {E E1 : Env} {aw aw1 : AW} {w w' : World} {id i : Nat} {L L1 : Loc} {o o0 o1 : AO} (hR : Rel E aw w) (hg : aw.get id = some o) (hlive : o.live = true) (hL : E.loc[id]? = some L) (hle : (oneE E w L).Le E1) (h : Rel E1 aw1 w')
  (h0 : aw1.get 0 = some o0) (l0 : o0.live = true) (h1 : aw1.get i = some o1) (l1 : o1.live = true) (hi : i ≠ 0) (hL1 : E1.loc[i]? = some L1) :
  (∀ j x Lj, aw.get j = some x → x.live = true → E.loc[j]? = some Lj → Lj.block ≠ L1.block) ∧ E.fr L1.block = none ∧ E.tk L1.block = none := by
 have hL0 : E1.loc[0]? = some L := hle.loc (i := 0) rfl
 have hne : L1.block ≠ L.block := fun e => hi (h.inj i 0 o1 o0 L1 L h1 h0 l1 l0 hL1 hL0 e)
 have hnone : w.heap[L1.block]? = none := by
  have := h.apart i o1 L1 h1 l1 hL1
  rw [hle.2.2.1] at this
  simp only [oneE] at this
  cases hq : Nat.beq L1.block L.block with
  | true => exact (hne (nbt hq)).elim
  | false => simpa [hq] using this
 refine ⟨fun j x Lj hj hx hLj e => ?_, ?_, ?_⟩
 ·obtain ⟨L', hL', hro⟩ := hR.obj j x hj
  rw [hLj] at hL'; injection hL' with hL'; subst hL'
  have := hro.lt hx
  rw [e] at this
  rw [age this] at hnone; cases hnone
 ·cases hq : E.fr L1.block with
  | none => rfl
  | some ob => have := hR.frame _ _ hq; rw [hnone] at this; cases this
 ·cases hq : E.tk L1.block with
  | none => rfl
  | some ob => have := (hR.tok.1 _ _ hq).1.lt; rw [age this] at hnone; cases hnone
structure RFn where
 n : Nat
 d : Nat
 d2 : Nat
 rest : CC
def RFn.ok (P : Program) (dr : Array Oper → Option (List CR × List CR)) (f : FuncId) (r : RFn) : Prop :=
 ∃ fn id o1 o2 c, P.funcs[f]? = some fn ∧ fn.body = some (.seq (.region id #[o1, o2] false) c) ∧ o1.op = .call { callee := .builtin .recover, args := #[], argTypes := #[] } ∧ o1.dst = some r.d ∧ o1.guard = none ∧
  o2.op = .assign (.tmp r.d) ∧ o2.dst = some r.d2 ∧ o2.guard = none ∧ fn.results = #[] ∧ fn.ntmps = r.n ∧ cCode P dr c = some r.rest ∧ (fn.name == "runtime.NumGoroutine") = false
def panicVal : Option AV → AV
 | none => .nilIface
 | some v => v
def dRec (N : Nat) (r : RFn) (m : Option AV) (args : List AV) (aw : AW) : Option (Option AV × AW) :=
 bif Nat.ble args.length r.n && (Nat.blt r.d r.n && Nat.blt r.d2 r.n) then
  (match xcode (fun _ _ _ => none) N r.rest ⟨((slots args 0 .leaf).set r.d r.d (panicVal m)).set r.d2 r.d2 (panicVal m), r.n, []⟩ aw with
  | some o => match o.x with
   | .norm => match o.act.defs with
    | [] => some (none, o.aw)
    | _ => none
   | .ret => match o.act.defs with
    | [] => some (none, o.aw)
    | _ => none
   | _ => none
  | none => none) else none
theorem noCall_ok (P : Program) : CallOK P (fun _ _ _ => none) := fun f args aw res h => by cases h
theorem recover_finds {E : Env} {m : Option AV} {c₀ : Frame} {cs : List Frame} (h : ModeRel E m c₀.mode) :
  (∃ cv, recoverD (c₀ :: cs) = some (cv, { c₀ with mode := .panicking [{ v := cv, recovered := true }] } :: cs) ∧ VRel E (panicVal m) cv ∧ m.isSome = true) ∨ (recoverD (c₀ :: cs) = none ∧ m = none ∧ c₀.mode = .returning) := by
 cases m with
 | none =>
  right
  cases hm : c₀.mode <;> rw [hm] at h <;> simp only [ModeRel] at h
  exact ⟨by simp [recoverD, hm], rfl, rfl⟩
 | some v =>
  left
  cases hm : c₀.mode <;> rw [hm] at h <;> simp only [ModeRel] at h
  obtain ⟨cv, rfl, hv⟩ := h
  exact ⟨cv, by simp [recoverD, hm], hv, rfl⟩
theorem dRec_sound {P : Program} {dr : Array Oper → Option (List CR × List CR)} (hdr : ∀ call, CallOK P call → DrawOK P call dr) {f : FuncId} {r : RFn} (hr : r.ok P dr f) {N : Nat} {m m' : Option AV} {args : List AV} {aw aw' : AW}
  (h : dRec N r m args aw = some (m', aw')) : callable P f = true ∧ ∀ E w cargs u, LRel E args cargs → Rel E aw w → ModeRel E m u →
   CallsD P f cargs.toArray u w fun e u' w' => ∃ E', E.Le E' ∧ Rel E' aw' w' ∧ (∃ v, e = .returned v) ∧ ModeRel E' m' (settle u') := by
 obtain ⟨fn, id, o1, o2, c, hfn, hbody, h1o, h1d, h1g, h2o, h2d, h2g, hres, hnt, hc, hname⟩ := hr
 refine ⟨by simp [callable, hfn, hbody, hname], fun E w cargs u hargs hR hm => ?_⟩
 unfold dRec at h
 cases hb : (Nat.ble args.length r.n && (Nat.blt r.d r.n && Nat.blt r.d2 r.n)) <;> simp only [hb, cond_true, cond_false, reduceCtorEq] at h
 simp only [Bool.and_eq_true] at hb
 obtain ⟨b1, b2, b3⟩ := hb
 have b1 := nbl b1
 have b2 : r.d < r.n := nbl b2
 have b3 : r.d2 < r.n := nbl b3
 split at h <;> (try (cases h; done))
 rename_i o ho
 refine callsD_of_wpS hfn hbody fun c₀ cs hu => ?_
 have hm : ModeRel E m c₀.mode := hu ▸ hm
 apply wpS_seq
 apply wpS_region
 have hinit := init_rel hargs b1
 rw [← hnt] at hinit
 have go : ∀ (cv : Value) (cs' : List Frame), VRel E (panicVal m) cv → (∃ u', cs' = { c₀ with mode := u' } :: cs ∧ settle u' = .returning) →
   wpOpsS P #[o1, o2] (Exit.thenS (Code.wpS P c (bodyPostS P fn c₀ cs fun e u' w' => ∃ E', E.Le E' ∧ Rel E' aw' w' ∧ (∃ v, e = .returned v) ∧ ModeRel E' m' (settle u'))) (bodyPostS P fn c₀ cs fun e u' w' => ∃ E', E.Le E' ∧ Rel E' aw' w' ∧ (∃ v, e = .returned v) ∧ ModeRel E' m' (settle u'))) [1]
    (Act.put { tmps := cargs.toArray ++ Array.replicate (fn.ntmps - cargs.toArray.size) undef, defers := [] } o1.dst cv) cs' w := by
  intro cv cs' hv ⟨u', hcs, hset⟩
  have hA1 := put_sound (a' := ⟨(slots args 0 .leaf).set r.d r.d (panicVal m), fn.ntmps, []⟩) (d := some r.d) (v := panicVal m) (x := cv)
   (by simp only [AAct.put]; rw [show Nat.blt r.d fn.ntmps = true from Nat.ble_eq_true_of_le (show r.d + 1 ≤ fn.ntmps by rw [hnt]; exact b2)]; rfl) hinit hv
  rw [← h1d] at hA1
  have hA2 := put_sound (a' := ⟨((slots args 0 .leaf).set r.d r.d (panicVal m)).set r.d2 r.d2 (panicVal m), fn.ntmps, []⟩) (d := some r.d2) (v := panicVal m) (x := cv)
   (by simp only [AAct.put]; rw [show Nat.blt r.d2 fn.ntmps = true from Nat.ble_eq_true_of_le (show r.d2 + 1 ≤ fn.ntmps by rw [hnt]; exact b3)]; rfl) hA1 hv
  rw [← h2d] at hA2
  have hg : (Act.put { tmps := cargs.toArray ++ Array.replicate (fn.ntmps - cargs.toArray.size) undef, defers := [] } o1.dst cv).eval (.tmp r.d) = cv := by
   obtain ⟨x, hx, _⟩ := hA1.tmps r.d (panicVal m) (Tr.get_set_same _ _)
   have : (Act.put { tmps := cargs.toArray ++ Array.replicate (fn.ntmps - cargs.toArray.size) undef, defers := [] } o1.dst cv).tmps[r.d]? = some cv := by
    rw [h1d]; simp only [Act.put]
    refine Array.getElem?_setIfInBounds_self_of_lt ?_
    rw [hinit.size]; simp only; rw [hnt]; exact b2
   show (Act.put _ _ _).tmps.getD r.d undef = cv
   rw [Array.getD_eq_getD_getElem?, this]; rfl
  simp only [wpOpsS]
  rw [show (#[o1, o2] : Array Oper)[1]? = some o2 from rfl]
  simp only
  rw [if_pos (by simp [Region.wanted, h2g])]
  have hrun : (execOp (Act.put { tmps := cargs.toArray ++ Array.replicate (fn.ntmps - cargs.toArray.size) undef, defers := [] } o1.dst cv).eval o2).run P w = .ok (.value cv) w := by
   simp only [execOp, h2o, hg]
   rfl
  rw [hrun]
  simp only [Oper.upon, Exit.thenS]
  have ho := ho
  rw [← hnt] at ho
  have hw := (code_sound (noCall_ok P) (hdr _ (noCall_ok P)) N hc ho hA2 hR).1
  refine wpS_of_wp (wp_mono hw fun e a w' hp => ?_)
  obtain ⟨E', hle, hR', hA', hX⟩ := hp
  have fin : o.act.defs = [] → m' = none → aw' = o.aw → a.defers = [] ∧ ∃ u', cs' = { c₀ with mode := u' } :: cs ∧ ∃ v, (results fn a.tmps).run P w' = .ok v w' ∧ ∃ E', E.Le E' ∧ Rel E' aw' w' ∧ (∃ v', Ending.returned v = .returned v') ∧ ModeRel E' m' (settle u') := by
   intro hd hm' haw
   refine ⟨?_, u', hcs, .tuple #[], ?_, E', hle, haw ▸ hR', ⟨_, rfl⟩, ?_⟩
   ·have := hA'.defs
    rw [hd] at this
    generalize a.defers = df at this
    cases this; rfl
   ·simp [results, hres]
   ·rw [hset, hm']; trivial
  split at h
  ·rename_i hx
   rw [hx] at hX
   cases e <;> simp only [XRel] at hX
   split at h <;> (try (cases h; done))
   rename_i hd
   simp only [sI, pmi] at h
   exact fin hd h.1.symm h.2.symm
  ·rename_i hx
   rw [hx] at hX
   cases e <;> simp only [XRel] at hX
   split at h <;> (try (cases h; done))
   rename_i hd
   simp only [sI, pmi] at h
   exact fin hd h.1.symm h.2.symm
  ·cases h
 rw [show List.range (#[o1, o2] : Array Oper).size = [0, 1] from rfl]
 unfold wpOpsS
 rw [show (#[o1, o2] : Array Oper)[0]? = some o1 from rfl]
 simp only
 rw [if_pos (by simp [Region.wanted, h1g])]
 have hrun : ∀ ca : Act, (execOp ca.eval o1).run P w = .ok .recover w := by
  intro ca
  simp only [execOp, h1o]
  rfl
 rw [hrun]
 simp only
 rcases recover_finds (cs := cs) hm with ⟨cv, e1, e2, e3⟩ | ⟨e1, e2, e3⟩
 ·rw [e1]
  simp only
  exact go cv _ e2 ⟨.panicking [{ v := cv, recovered := true }], rfl, rfl⟩
 ·rw [e1]
  simp only
  exact go .nilIface (c₀ :: cs) (by rw [e2]; exact .nilIface) ⟨.returning, by rw [← e3], rfl⟩
section
variable {P : Program} {dr : Array Oper → Option (List CR × List CR)} {K : Env → Prop} {call : Call} {cc x y b : CC} {Q : Exit → Act → World → Prop} {a a1 : AAct} {aw aw1 : AW}
def GoodK (P : Program) (dr : Array Oper → Option (List CR × List CR)) (K : Env → Prop) (cc : CC) (Q : Post') (a : AAct) (aw : AW) : Prop :=
 ∀ c, cCode P dr c = some cc → ∀ E ca w, K E → ActRel E a ca → Rel E aw w → c.wp P Q ca w
def GoodLK (P : Program) (dr : Array Oper → Option (List CR × List CR)) (K : Env → Prop) (b : CC) (Q : Post') (a : AAct) (aw : AW) : Prop :=
 ∀ c, cCode P dr c = some b → ∀ E ca w, K E → ActRel E a ca → Rel E aw w → LoopAt P c Q ca w
theorem GoodK.run (hK : ∀ E E', K E → E.Le E' → K E') (hcall : CallOK P call) (hdr : DrawOK P call dr) {n : Nat} {o : Out} (h : xcode call n cc a aw = some o)
  (hk : ∀ E e ca w, K E → Rel E o.aw w → ActRel E o.act ca → XRel E o.x e → Q e ca w) : GoodK P dr K cc Q a aw := by
 intro c hc E ca w hE hA hR
 refine wp_mono (code_sound hcall hdr n hc h hA hR).1 fun e a' w' ⟨E', hle, h1, h2, h3⟩ => ?_
 exact hk E' e a' w' (hK E E' hE hle) h1 h2 h3
theorem GoodK.seq (hK : ∀ E E', K E → E.Le E' → K E') (hcall : CallOK P call) (hdr : DrawOK P call dr) {n : Nat} (h : xcode call n x a aw = some ⟨.norm, a1, aw1⟩) (hy : GoodK P dr K y Q a1 aw1) : GoodK P dr K (.seq x y) Q a aw := by
 intro c hc E ca w hE hA hR
 obtain ⟨c1, c2, rfl, h1, h2⟩ := inv_seq hc
 refine wp_seq (wp_mono (code_sound hcall hdr n h1 h hA hR).1 fun e a' w' ⟨E', hle, g1, g2, g3⟩ => ?_)
 cases e <;> simp only [XRel] at g3
 exact hy c2 h2 E' a' w' (hK E E' hE hle) g2 g1
theorem GoodK.into (h : GoodK P dr K x (thenC P dr y Q) a aw) : GoodK P dr K (.seq x y) Q a aw := by
 intro c hc E ca w hE hA hR
 obtain ⟨c1, c2, rfl, h1, h2⟩ := inv_seq hc
 refine wp_seq (wp_mono (h c1 h1 E ca w hE hA hR) fun e a' w' hq => ?_)
 cases e <;> simp only [thenC, Exit.then] at hq ⊢ <;> first | exact hq c2 h2 | exact hq
theorem GoodK.block {id : Nat} (h : GoodK P dr K b (Exit.inBlock id Q) a aw) : GoodK P dr K (.block id b) Q a aw := by
 intro c hc E ca w hE hA hR
 obtain ⟨c1, rfl, h1⟩ := inv_block hc
 exact wp_block (h c1 h1 E ca w hE hA hR)
theorem GoodK.loop (h : GoodLK P dr K b Q a aw) : GoodK P dr K (.loop b) Q a aw := by
 intro c hc E ca w hE hA hR
 obtain ⟨c1, rfl, h1⟩ := inv_loop hc
 exact (h c1 h1 E ca w hE hA hR).wp
theorem GoodLK.of (h : GoodK P dr K b (loopQ P dr b Q) a aw) : GoodLK P dr K b Q a aw := by
 intro c hc E ca w hE hA hR
 refine LoopAt.round (wp_mono (h c hc E ca w hE hA hR) fun e a' w' hq => ?_)
 cases e <;> simp only [loopQ, Exit.then] at hq ⊢ <;> first | exact hq c hc | exact hq
theorem GoodLK.round (hK : ∀ E E', K E → E.Le E' → K E') (hcall : CallOK P call) (hdr : DrawOK P call dr) {n : Nat} (h : xcode call n b a aw = some ⟨.norm, a1, aw1⟩) (hg : GoodLK P dr K b Q a1 aw1) : GoodLK P dr K b Q a aw := by
 intro c hc E ca w hE hA hR
 refine LoopAt.round (wp_mono (code_sound hcall hdr n hc h hA hR).1 fun e a' w' ⟨E', hle, g1, g2, g3⟩ => ?_)
 cases e <;> simp only [XRel] at g3
 exact hg c hc E' a' w' (hK E E' hE hle) g2 g1
theorem GoodLK.exit' (hK : ∀ E E', K E → E.Le E' → K E') (hcall : CallOK P call) (hdr : DrawOK P call dr) {n id : Nat} (h : xcode call n b a aw = some ⟨.exit id, a1, aw1⟩)
  (hk : ∀ E ca w, K E → ActRel E a1 ca → Rel E aw1 w → Q .normal ca w) : GoodLK P dr K b (Exit.inBlock id Q) a aw := by
 intro c hc E ca w hE hA hR
 refine LoopAt.round (wp_mono (code_sound hcall hdr n hc h hA hR).1 fun e a' w' ⟨E', hle, g1, g2, g3⟩ => ?_)
 cases e <;> simp only [XRel] at g3
 subst g3
 simp only [Exit.then, Exit.inBlock, if_true]
 exact hk E' a' w' (hK E E' hE hle) g2 g1
end
end
def ds0 : DSum := fun _ => none
def sm0 : Summ := fun _ => none
def c0 : Call := callK (fun f => trGet kfTree f) sm0 ds0 (nat_lit 100) (nat_lit 3)
def bitG (x : Int) : Int := wrapG .u32 (.ofNat (Nat.xor (bitsOfF .u32 (wrapG .u32 (pow2F x (minF (nat_lit 1) (bitsF .u32))))) (bitsOfF .u32 (wrapG .u32 (iMul (shr2F x (minF (nat_lit 31) (bitsF .u32))) (.ofNat (nat_lit 79764919)))))))
def firstG (x c : Int) : Int := wrapG .u32 (.ofNat (Nat.xor (bitsOfF .u32 x) (bitsOfF .u32 (wrapG .u32 (pow2F (wrapG .u32 c) (minF (nat_lit 24) (bitsF .u32)))))))
def stepG (x c : Int) : Int := bitG (bitG (bitG (bitG (bitG (bitG (bitG (bitG (firstG x c))))))))
theorem step_run (x c : Int) (aw : AW) : c0 351 [.int .u32 x, .int .u8 c] aw = some (.ret (.int .u32 (stepG x c)) aw) := by kernel_rfl
theorem xor_lt32 {a b : Nat} (ha : a < 4294967296) (hb : b < 4294967296) : Nat.xor a b < 4294967296 := Nat.xor_lt_two_pow (n := 32) ha hb
theorem wrapG_small {m : Nat} (h : m < 4294967296) : wrapG .u32 (.ofNat m) = .ofNat m := by
 show bb2 (Nat.ble m (topF .u32)) _ _ = _
 rw [bb2_eq, show Nat.ble m (topF .u32) = true from Nat.ble_eq_true_of_le (show m ≤ 4294967295 by omega)]; rfl
theorem wrapG_mod (m : Nat) : wrapG .u32 (.ofNat m) = .ofNat (m % 4294967296) := by
 show bb2 (Nat.ble m (topF .u32)) _ _ = _
 rw [bb2_eq]
 cases h : Nat.ble m (topF .u32) with
 | true =>
  have h : m ≤ 4294967295 := nbl h
  rw [Nat.mod_eq_of_lt (by omega)]; rfl
 | false => rfl
theorem bits_small {m : Nat} (h : m < 4294967296) : bitsOfF .u32 (.ofNat m) = m := by
 show bb2 (Nat.ble m (topF .u32)) _ _ = _
 rw [bb2_eq, show Nat.ble m (topF .u32) = true from Nat.ble_eq_true_of_le (show m ≤ 4294967295 by omega)]; rfl
theorem bitG_eq {r : Nat} (h : r < 4294967296) : bitG (.ofNat r) = .ofNat (crcBit r) ∧ crcBit r < 4294967296 := by
 have h31 : r / 2147483648 < 2 := by omega
 have e1 : pow2F (.ofNat r) (minF 1 (bitsF .u32)) = .ofNat (r * 2) := by rw [pow2F_eq]; rfl
 have e2 : shr2F (.ofNat r) (minF 31 (bitsF .u32)) = .ofNat (r / 2147483648) := by rw [shr2F_eq]; rfl
 have e3 : iMul (.ofNat (r / 2147483648)) (.ofNat 79764919) = .ofNat (r / 2147483648 * 79764919) := rfl
 have b1 : r * 2 % 4294967296 < 4294967296 := Nat.mod_lt _ (by decide)
 have b2 : r / 2147483648 * 79764919 < 4294967296 := by omega
 have b3 := xor_lt32 b1 b2
 refine ⟨?_, b3⟩
 show wrapG .u32 (.ofNat (Nat.xor (bitsOfF .u32 (wrapG .u32 (pow2F (.ofNat r) (minF 1 (bitsF .u32))))) (bitsOfF .u32 (wrapG .u32 (iMul (shr2F (.ofNat r) (minF 31 (bitsF .u32))) (.ofNat 79764919)))))) = _
 rw [e1, e2, e3, wrapG_mod (r * 2), wrapG_small b2, bits_small b1, bits_small b2, wrapG_small b3]
 rfl
theorem stepG_eq {r c : Nat} (h : r < 4294967296) (hc : c < 256) : stepG (.ofNat r) (.ofNat c) = .ofNat (crcByte r c) ∧ crcByte r c < 4294967296 := by
 have e0 : wrapG .u32 (.ofNat c) = .ofNat c := wrapG_small (by omega)
 have e1 : pow2F (.ofNat c) (minF 24 (bitsF .u32)) = .ofNat (c * 16777216) := by rw [pow2F_eq]; rfl
 have b1 : c * 16777216 < 4294967296 := by omega
 have b2 := xor_lt32 h b1
 have e2 : firstG (.ofNat r) (.ofNat c) = .ofNat (Nat.xor r (c * 16777216)) := by
  show wrapG .u32 (.ofNat (Nat.xor (bitsOfF .u32 (.ofNat r)) (bitsOfF .u32 (wrapG .u32 (pow2F (wrapG .u32 (.ofNat c)) (minF 24 (bitsF .u32))))))) = _
  rw [e0, e1, wrapG_small b1, bits_small h, bits_small b1, wrapG_small b2]
 unfold stepG
 rw [e2]
 obtain ⟨f1, l1⟩ := bitG_eq b2
 obtain ⟨f2, l2⟩ := bitG_eq l1
 obtain ⟨f3, l3⟩ := bitG_eq l2
 obtain ⟨f4, l4⟩ := bitG_eq l3
 obtain ⟨f5, l5⟩ := bitG_eq l4
 obtain ⟨f6, l6⟩ := bitG_eq l5
 obtain ⟨f7, l7⟩ := bitG_eq l6
 obtain ⟨f8, l8⟩ := bitG_eq l7
 rw [f1, f2, f3, f4, f5, f6, f7, f8]
 exact ⟨rfl, l8⟩
theorem foldG_eq : ∀ (l : List Nat) {r : Nat}, r < 4294967296 → (∀ c ∈ l, c < 256) → (l.map Int.ofNat).foldl stepG (.ofNat r) = .ofNat (l.foldl crcByte r) ∧ l.foldl crcByte r < 4294967296
 | [], r, h, _ => ⟨rfl, h⟩
 | c :: l, r, h, hl => by
  obtain ⟨e1, h1⟩ := stepG_eq h (hl c (by simp))
  simp only [List.map_cons, List.foldl_cons, e1]
  exact foldG_eq l h1 fun c hc => hl c (by simp [hc])
def stepS (args : List AV) (aw : AW) : Option ARes := match args with
 | [.int .u32 x, .int .u8 c] => some (.ret (.int .u32 (stepG x c)) aw)
 | _ => none
def sm1 : Summ := fun f => bif Nat.beq f (nat_lit 351) then some stepS else none
def cSeal : Call := callK (fun f => trGet kfTree f) sm1 ds0 (nat_lit 200) (nat_lit 12)
def see (r : Option ARes) : Option (Nat × Nat × Cap × Option AO × Option AO) := match r with
 | some (.ret (.slc (some (k, 0)) n cap) aw) => some (k, n, cap, aw.get 0, aw.get k)
 | _ => none
def partG (q : Nat) (x : Int) : AV := match q with
 | 0 => .int .u8 (wrapG .u8 (shr2F x (minF (nat_lit 24) (bitsF .u32))))
 | 1 => .int .u8 (wrapG .u8 (shr2F x (minF (nat_lit 16) (bitsF .u32))))
 | 2 => .int .u8 (wrapG .u8 (shr2F x (minF (nat_lit 8) (bitsF .u32))))
 | _ => .int .u8 (wrapG .u8 x)
theorem seal5 (x0 x1 x2 x3 x4 : Int) (rest : List AV) (e : TypeId) (opn : Bool) (cap : Cap) : see (cSeal 233 [.slc (some (0, 0)) 5 cap] (ofObjs [.cells (.int .u8 x0 :: .int .u8 x1 :: .int .u8 x2 :: .int .u8 x3 :: .int .u8 x4 :: rest) e opn] 1)) =
  some (3, 9, .upto 1 9, some (.cells (.int .u8 x0 :: .int .u8 x1 :: .int .u8 x2 :: .int .u8 x3 :: .int .u8 x4 :: rest) e opn), some (.cells (.int .u8 x0 :: .int .u8 x1 :: .int .u8 x2 :: .int .u8 x3 :: .int .u8 x4 :: [partG 0 (([x0, x1, x2, x3, x4] : List Int).foldl stepG (.ofNat (nat_lit 4294967295))), partG 1 (([x0, x1, x2, x3, x4] : List Int).foldl stepG (.ofNat (nat_lit 4294967295))), partG 2 (([x0, x1, x2, x3, x4] : List Int).foldl stepG (.ofNat (nat_lit 4294967295))), partG 3 (([x0, x1, x2, x3, x4] : List Int).foldl stepG (.ofNat (nat_lit 4294967295)))]) 5 true)) := by kernel_rfl
theorem seal13 (x0 x1 x2 x3 x4 x5 x6 x7 x8 x9 x10 x11 x12 : Int) (rest : List AV) (e : TypeId) (opn : Bool) (cap : Cap) : see (cSeal 233 [.slc (some (0, 0)) 13 cap] (ofObjs [.cells (.int .u8 x0 :: .int .u8 x1 :: .int .u8 x2 :: .int .u8 x3 :: .int .u8 x4 :: .int .u8 x5 :: .int .u8 x6 :: .int .u8 x7 :: .int .u8 x8 :: .int .u8 x9 :: .int .u8 x10 :: .int .u8 x11 :: .int .u8 x12 :: rest) e opn] 1)) =
  some (3, 17, .upto 1 17, some (.cells (.int .u8 x0 :: .int .u8 x1 :: .int .u8 x2 :: .int .u8 x3 :: .int .u8 x4 :: .int .u8 x5 :: .int .u8 x6 :: .int .u8 x7 :: .int .u8 x8 :: .int .u8 x9 :: .int .u8 x10 :: .int .u8 x11 :: .int .u8 x12 :: rest) e opn), some (.cells (.int .u8 x0 :: .int .u8 x1 :: .int .u8 x2 :: .int .u8 x3 :: .int .u8 x4 :: .int .u8 x5 :: .int .u8 x6 :: .int .u8 x7 :: .int .u8 x8 :: .int .u8 x9 :: .int .u8 x10 :: .int .u8 x11 :: .int .u8 x12 :: [partG 0 (([x0, x1, x2, x3, x4, x5, x6, x7, x8, x9, x10, x11, x12] : List Int).foldl stepG (.ofNat (nat_lit 4294967295))), partG 1 (([x0, x1, x2, x3, x4, x5, x6, x7, x8, x9, x10, x11, x12] : List Int).foldl stepG (.ofNat (nat_lit 4294967295))), partG 2 (([x0, x1, x2, x3, x4, x5, x6, x7, x8, x9, x10, x11, x12] : List Int).foldl stepG (.ofNat (nat_lit 4294967295))), partG 3 (([x0, x1, x2, x3, x4, x5, x6, x7, x8, x9, x10, x11, x12] : List Int).foldl stepG (.ofNat (nat_lit 4294967295)))]) 5 true)) := by kernel_rfl
theorem seal15 (x0 x1 x2 x3 x4 x5 x6 x7 x8 x9 x10 x11 x12 x13 x14 : Int) (rest : List AV) (e : TypeId) (opn : Bool) (cap : Cap) : see (cSeal 233 [.slc (some (0, 0)) 15 cap] (ofObjs [.cells (.int .u8 x0 :: .int .u8 x1 :: .int .u8 x2 :: .int .u8 x3 :: .int .u8 x4 :: .int .u8 x5 :: .int .u8 x6 :: .int .u8 x7 :: .int .u8 x8 :: .int .u8 x9 :: .int .u8 x10 :: .int .u8 x11 :: .int .u8 x12 :: .int .u8 x13 :: .int .u8 x14 :: rest) e opn] 1)) =
  some (3, 19, .upto 1 19, some (.cells (.int .u8 x0 :: .int .u8 x1 :: .int .u8 x2 :: .int .u8 x3 :: .int .u8 x4 :: .int .u8 x5 :: .int .u8 x6 :: .int .u8 x7 :: .int .u8 x8 :: .int .u8 x9 :: .int .u8 x10 :: .int .u8 x11 :: .int .u8 x12 :: .int .u8 x13 :: .int .u8 x14 :: rest) e opn), some (.cells (.int .u8 x0 :: .int .u8 x1 :: .int .u8 x2 :: .int .u8 x3 :: .int .u8 x4 :: .int .u8 x5 :: .int .u8 x6 :: .int .u8 x7 :: .int .u8 x8 :: .int .u8 x9 :: .int .u8 x10 :: .int .u8 x11 :: .int .u8 x12 :: .int .u8 x13 :: .int .u8 x14 :: [partG 0 (([x0, x1, x2, x3, x4, x5, x6, x7, x8, x9, x10, x11, x12, x13, x14] : List Int).foldl stepG (.ofNat (nat_lit 4294967295))), partG 1 (([x0, x1, x2, x3, x4, x5, x6, x7, x8, x9, x10, x11, x12, x13, x14] : List Int).foldl stepG (.ofNat (nat_lit 4294967295))), partG 2 (([x0, x1, x2, x3, x4, x5, x6, x7, x8, x9, x10, x11, x12, x13, x14] : List Int).foldl stepG (.ofNat (nat_lit 4294967295))), partG 3 (([x0, x1, x2, x3, x4, x5, x6, x7, x8, x9, x10, x11, x12, x13, x14] : List Int).foldl stepG (.ofNat (nat_lit 4294967295)))]) 5 true)) := by kernel_rfl
end Go.Proofs.YtbilacojhmohmaaGreat.Ae
namespace Go.Proofs.YtbilacojhmohmaaGreat
open Go Go.Proofs Go.RowKit Go.Shelf Go.Maps Go.Sort
attribute [local go_sem] Oper.semAt_some
abbrev encU : Int → Value := Value.int .u32
theorem keyOf_u32 {P : Program} {k : TypeId} (hk : P.underlying k = some (.int .u32)) {key : Value} {kl : Lit} (h : keyOf P k key = some kl) : ∃ x : Int, key = encU x ∧ kl = .int .u32 x := by
 cases key <;> simp [keyOf, hk, mapKey] at h
 rename_i q a
 obtain ⟨⟨rfl, hw⟩, rfl⟩ := h
 exact ⟨a, rfl, rfl⟩
def CollU {H : Type} (D0 : DataW H) (left : Lit → Bool) (ss : List Int) : Prop := ss.Nodup ∧ ∀ x, x ∈ ss ↔ (has D0 (.int .u32 x) = true ∧ left (.int .u32 x) = false)
theorem CollU.step {H : Type} {D0 : DataW H} {left : Lit → Bool} {ss : List Int} (h : CollU D0 left ss) {x : Int} {y : DataW H} (hl : left (.int .u32 x) = true) (hat : ∀ zd, D0.atKey (.int .u32 x) zd = y) :
  CollU D0 (fun z => left z && !z.sameKey (.int .u32 x)) (ss ++ [x]) := by
 have hh : has D0 (.int .u32 x) = true := has_true_of_atKey hat
 have hx : x ∉ ss := fun hx => by have := ((h.2 x).1 hx).2; rw [hl] at this; cases this
 refine ⟨List.nodup_append.2 ⟨h.1, by simp, fun a ha b hb => by simp at hb; subst hb; exact fun e => hx (e ▸ ha)⟩, fun y => ?_⟩
 by_cases hy : y = x
 ·subst hy; simp [hh, Lit.sameKey]
 ·simp [h.2 y, hy, Lit.sameKey]
set_option maxRecDepth 100000 in
set_option maxHeartbeats 1000000 in
theorem keys319 {H : Type} (Bm b nn : Nat) (D0 : DataW H) {R : Value → Option (DataW H × List MemPlace)} (w : World) (hBm : Bm < w.heap.size) (hm : w.cell? ⟨Bm, 0, none⟩ = some (.map (some b))) (hown : w.ownsMap Tryz.prog 28 R b nn D0) :
  SeqStopsK Fence.wide 5 Tryz.prog 319 #[.pointer (some ⟨Bm, 0, none⟩)] (fun x : Int => #[encU x]) KeepsWalks (fun ss => CollU D0 (fun _ => false) ss) (fun _ => True) (Maps.size D0) w := by
 intro l J Jx W hW hJ hJx hY h0
 have hown' : W.ownsMap Tryz.prog 28 R b nn D0 := by
  have hbl := hown.lt
  obtain ⟨es, clock, hb, Ft, hs, hD⟩ := hown
  exact ⟨es, clock, (hW.block b hbl).trans hb, Ft, hs, hD⟩
 have hm' : W.cell? ⟨Bm, 0, none⟩ = some (.map (some b)) := (hW.cell (p := ⟨Bm, 0, none⟩) hBm).trans hm
 refine callsIn_of_wp Tryz.func319 rfl trivial ?_ rfl
 simp only [Tryz.ntmps319, List.size_toArray, List.length_cons, List.length_nil, Nat.reduceAdd, Nat.reduceSub, Array.replicate_succ, Array.replicate_zero, List.push_toArray, List.append_toArray, List.nil_append, List.cons_append]
 gi_wp2_with (first
  | (gi_at_range; refine wpListIn_range_own _ rfl _ 189 rfl 28 286 (int_keyed Tryz.underlying28) Tryz.underlying189 R b nn _ rfl hown' ?_; intro w0 hrg0 hg0 hs0)
  | gi_in)
 try go_frame
 gi_loopw [3] (fun _ wr => ∃ (left : Lit → Bool) (cnt : Nat) (ss : List Int), wr.ranges Tryz.prog 28 R b W.heap.size nn D0 left cnt ∧ ss.length + cnt ≤ Maps.size D0 ∧ CollU D0 left ss ∧ J ss wr)
  (fun _ wr => wr.rangeLeft b W.heap.size)
 case atStart =>
  exact ⟨_, _, [], hrg0, by simp, ⟨List.nodup_nil, fun x => by cases has D0 (.int .u32 x) <;> simp⟩, hJ [] W w0 none h0 hg0 (fun r e => by cases e)⟩
 case round =>
  obtain ⟨left, cnt, ss, hrg, hcs, hC, hJs⟩ := hrel
  gi_wp2_with (first
   | (gi_at_next; refine wpListIn_next_ranges _ rfl _ rfl 28 (int_keyed Tryz.underlying28) R encU id (fun key kl hk => by obtain ⟨x, hx, _⟩ := keyOf_u32 Tryz.underlying28 hk; exact ⟨x, hx⟩) (fun v _ _ => ⟨v, rfl⟩) b W.heap.size nn _ _ _ rfl hrg ?_ ?_)
   | gi_in)
  ·intro hc0 hl0
   gi_wp2
   go_end0
   exact ⟨⟨_, rfl⟩, .inl ⟨ss, ⟨hC.1, fun x => by rw [hC.2 x, hl0]⟩, hJs⟩⟩
  ·intro x c kl yd yp w2 cnt2 hkey hlk hv hat hrg2 hlt hg2 hs2 hen
   obtain ⟨x', ex, rfl⟩ := keyOf_u32 Tryz.underlying28 hkey
   obtain rfl : x = x' := by simpa using ex
   have hJ2 : J ss w2 := hJ ss wr w2 (some W.heap.size) hJs hg2 (fun r e => by cases e; exact ⟨Nat.le_refl _, hrg.iter_walk⟩)
   obtain ⟨fn, tmps, assign, body, hy, hR⟩ := hY ss x w2 hJ2 (by omega)
   clear hs2
   gi_wp2
   refine hR.mono ?_
   rintro e W3 (⟨rfl, hJ3, hk3⟩ | ⟨rfl, hJ3⟩)
   ·gi_wp2
    have hrg3 := hrg2.of_walks hk3
    go_roundw
    case rel => exact ⟨_, cnt2, ss ++ [x], hrg3, by simp; omega, hC.step hlk hat, hJ3⟩
    case measure => rw [hrg3.left_eq, hrg.left_eq]; exact hlt
   ·gi_wp2
    exact bodyPost_ret (results_none rfl _ _ _) rfl ⟨⟨_, rfl⟩, .inr ⟨_, trivial, hJ3⟩⟩
theorem infoU : (Tryz.prog.info? 28).map (fun i => (i.zero, i.size, i.bytes)) = some (some (.int .u32 0), 1, 4) := by kernel_rfl
set_option maxRecDepth 100000 in
set_option maxHeartbeats 2000000 in
theorem append358 {H : Type} (Bm b nn : Nat) (D0 : DataW H) {R : Value → Option (DataW H × List MemPlace)} (w : World) (hBm : Bm < w.heap.size) (hm : w.cell? ⟨Bm, 0, none⟩ = some (.map (some b))) (hown : w.ownsMap Tryz.prog 28 R b nn D0) (hN : Maps.size D0 ≤ 1000) :
  Calls Tryz.prog 358 #[.slice none 0 0, .func (.func 319) #[] #[.pointer (some ⟨Bm, 0, none⟩)]] w fun e W' => ∃ v ss, e = .returned v ∧ CollU D0 (fun _ => false) ss ∧ W'.ownsRow w.heap.size 28 1 v ss.length (ss.map encU) ∧ (v = .slice none 0 0 ↔ ss = []) ∧ Below w.heap.size w W' := by
 have hM : 2000 ≤ maxLen := by decide
 refine (callsIn_wide (n := 6)).1 ?_
 refine callsIn_of_wp_marks Tryz.func358 rfl trivial ?_ rfl
 simp only [Tryz.ntmps358, List.size_toArray, List.length_cons, List.length_nil, Nat.reduceAdd, Nat.reduceSub, Array.replicate_succ, Array.replicate_zero, List.push_toArray, List.append_toArray, List.nil_append, List.cons_append]
 gi_wp2
 have hbl := hown.lt
 have hb0 : Boxed (w.alloc (.cells #[.slice none 0 0] 29)) w.heap.size 29 (.slice none 0 0) := Boxed.new w 29 _
 have hown0 : (w.alloc (.cells #[.slice none 0 0] 29)).ownsMap Tryz.prog 28 R b nn D0 := by
  obtain ⟨es, clock, hb, Ft, hs, hD⟩ := hown
  exact ⟨es, clock, (Below.heap_alloc _ _ b hbl).trans hb, Ft, hs, hD⟩
 have hB0 : Below w.heap.size w (w.alloc (.cells #[.slice none 0 0] 29)) := (Below.refl _ w).alloc (Nat.le_refl _) _
 have hm0 : (w.alloc (.cells #[.slice none 0 0] 29)).cell? ⟨Bm, 0, none⟩ = some (.map (some b)) := (hB0.cell (p := ⟨Bm, 0, none⟩) hBm).trans hm
 refine wpIn_rangeFunc_ownF rfl (by omega) (gf := 319) (lb := #[.pointer (some ⟨Bm, 0, none⟩)]) rfl trivial (enters_of Tryz.func319 (by kernel_rfl) rfl)
  (keys319 Bm b nn D0 _ (by simp; omega) hm0 hown0) (fun h k => h.trans k) (fun W l o o' hl h _ hw => KeepsWalks.putObj _ h hw) (Below.refl _ _) (fun _ => rfl)
  (fun pre W => (∃ v, Boxed W w.heap.size 29 v ∧ W.ownsRow w.heap.size 28 1 v pre.length (pre.map encU) ∧ (v = .slice none 0 0 ↔ pre = [])) ∧ Below w.heap.size w W)
  (fun _ _ _ => False)
  (OwnFrom.and (Own.from (holdsRow_own w.heap.size w.heap.size 29 28 1 (fun pre => pre.length) (fun pre => pre.map encU) (fun pre v => (v = .slice none 0 0 ↔ pre = []))) _) (ownFrom_below (Nat.le_refl _) (by simp)))
  (fun _ _ _ _ _ h _ _ => h)
  ⟨⟨_, hb0, World.ownsRow_nil _ _ _ _, by simp⟩, hB0⟩
  (fun x => { tmps := #[.slice none 0 0, .func (.func 319) #[] #[.pointer (some ⟨Bm, 0, none⟩)], .pointer (some ⟨w.heap.size, 0, none⟩), undef, .slice none 0 0, encU x, .func (.func 319) #[] #[.pointer (some ⟨Bm, 0, none⟩)], encU x, undef, undef, undef, undef, undef], defers := [] }) ?assign ?body ?done ?stop
 case assign =>
  intro l x W K hK
  gi_wp2
  exact hK
 case body =>
  rintro l pre x W ⟨⟨v, hv, hrow, hnil⟩, hB⟩ hlen
  obtain ⟨i0, hi, hz0, hz1, hz2⟩ := info_parts infoU
  have hvc := hv.cell
  have hlen : pre.length < 1000 := by omega
  gi_wp2_with (first
   | (gi_at_builtin; refine wpListIn_append_own _ rfl _ _ 29 rfl w.heap.size 28 i0 (.int .u32 0) 1 4 Tryz.underlying29 hi hz0 hz1 hz2 rfl (by decide) _ _ _ rfl (hrow.alloc _) ⟨W.heap.size, 0, none⟩ 1 1 [encU x] rfl rfl (cell_one_new _ _ _) (by simp [Value.oneCell']) (by omega) (by omega) (by have := hB.size; simp; omega) ?_; intro v' w1 hown' hgrow _; obtain ⟨g', cap', rfl⟩ := ownsRow_succ hown'; obtain ⟨hv1, hv2, hr2, hk2, hb2⟩ := hv.appended (by decide) hrow hB.size (Nat.le_refl _) hown' hgrow; have hc1 := hv1.cell; have hf1 := hv1.frozen)
   | gi_in)
  exact ⟨hk2, ⟨hk2.size, fun k o h hw => hk2.same k o h (Obj.not_cells_of_walk hw)⟩, ⟨_, hv2, by simpa using hr2, by simp⟩, hB.trans hb2⟩
 case done =>
  rintro D xs W hD hS ⟨⟨v, hv, hrow, hnil⟩, hB⟩ hK
  have hvc := hv.cell
  gi_wp2
  refine ⟨by simp, .inl ⟨_, _, rfl, run_takeDeferred hK, ?_⟩⟩
  exact ⟨v, results_tmp (t := 4) rfl _ _ _, v, xs, rfl, hS, ownsRow_putObj hrow _ hK rfl, hnil, hB.grown (grownBy_putObj' _ D _) hB.size (fun j e => by cases e; simp at hD; omega)⟩
 case stop =>
  rintro D c pre W _ _ h _
  exact h.elim
end Go.Proofs.YtbilacojhmohmaaGreat
end
