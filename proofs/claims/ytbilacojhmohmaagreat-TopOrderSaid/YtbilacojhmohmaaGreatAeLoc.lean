/- A call that is run over a small memory of its own, inside a greater one. No condition. -/
import Derived.Test.YtbilacojhmohmaaGreatAeLaw
namespace Go.Proofs.YtbilacojhmohmaaGreat.Ae
open Go
set_option linter.unusedVariables false
set_option linter.unusedSimpArgs false

theorem Rel.move {E : Env} {aw : AW} {w w' : World} (h : Rel E aw w) (hn : (∃ ρ, E.sym.f = symVal ρ) ∧ w'.os = E.sym.os ∧ w'.output = E.sym.out) (ho : ∀ j x L, aw.get j = some x → E.loc[j]? = some L → ORel E L w x → x.live = true → ORel E L w' x) (hf : ∀ b o, E.fr b = some o → w'.heap[b]? = some o) : Rel E aw w' := by
  refine ⟨h.nx, hn, fun j x hj => ?_, h.inj, hf, h.apart⟩
  obtain ⟨L, hL, hr⟩ := h.obj j x hj
  refine ⟨L, hL, ?_⟩
  cases hx : x.live with
  | false => cases x <;> first | trivial | simp [AO.live] at hx
  | true => exact ho j x L hj hL hr hx
theorem Rel.addAt {E : Env} {aw : AW} {w : World} {L : Loc} {o : AO} (h : Rel E aw w) (hne : ∀ j x Lj, aw.get j = some x → x.live = true → E.loc[j]? = some Lj → Lj.block ≠ L.block) (hf : E.fr L.block = none) (ho : ORel (E.put L) L w o) : Rel (E.put L) (aw.add o) w := by
  have hle := E.put_le L
  have new : (E.put L).loc[aw.nx]? = some L := h.nx ▸ E.put_new L
  have old : ∀ k ok Lk, aw.get k = some ok → (E.put L).loc[k]? = some Lk → E.loc[k]? = some Lk := fun k ok Lk hk ek => by
    obtain ⟨L', hL', hr⟩ := h.obj k ok hk
    rw [hle.loc hL'] at ek; injection ek with ek; subst ek
    exact hL'
  refine ⟨by simp [AW.add, Env.put, h.nx], h.ns, fun j x hj => ?_, fun i j oi oj Li Lj hi hj li lj ei ej e => ?_, h.frame, fun i oi Li hi li ei => ?_⟩
  · rcases AW.get_add hj with ⟨rfl, rfl⟩ | ⟨hne, hj⟩
    · exact ⟨L, new, ho⟩
    · obtain ⟨L', hL', hr⟩ := h.obj j x hj
      exact ⟨L', hle.loc hL', hr.mono hle⟩
  · rcases AW.get_add hi with ⟨e1, e2⟩ | ⟨hni, hi2⟩ <;> rcases AW.get_add hj with ⟨e3, e4⟩ | ⟨hnj, hj2⟩
    · rw [e1, e3]
    · rw [e1, new] at ei; injection ei with ei; subst ei
      exact (hne j oj Lj hj2 lj (old j oj Lj hj2 ej) e.symm).elim
    · rw [e3, new] at ej; injection ej with ej; subst ej
      exact (hne i oi Li hi2 li (old i oi Li hi2 ei) e).elim
    · exact h.inj i j oi oj Li Lj hi2 hj2 li lj (old i oi Li hi2 ei) (old j oj Lj hj2 ej) e
  · rcases AW.get_add hi with ⟨e1, e2⟩ | ⟨hni, hi2⟩
    · rw [e1, new] at ei; injection ei with ei; subst ei; exact hf
    · exact h.apart i oi Li hi2 li (old i oi Li hi2 ei)

/-- scalars: they speak of no object -/
def AV.plain : AV → Bool
  | .int _ _ | .bool _ | .undef | .nilFunc | .nilIface | .ptr none | .map none => true
  | .slc none 0 (.known 0) => true
  | _ => false
theorem VRel.plain {E E' : Env} {a : AV} {v : Value} (ha : a.plain = true) (h : VRel E a v) : VRel E' a v := by
  cases h <;> first | (simp [AV.plain] at ha; done) | (constructor; done)
def plainL : List AV → Bool
  | [] => true
  | a :: l => a.plain && plainL l
theorem plainL_get : ∀ {l : List AV}, plainL l = true → ∀ {i : Nat} {a : AV}, l[i]? = some a → a.plain = true
  | [], _, i, a, h => by simp at h
  | x :: l, hl, i, a, h => by
    simp only [plainL, Bool.and_eq_true] at hl
    cases i with
    | zero => simp at h; subst h; exact hl.1
    | succ i => simp at h; exact plainL_get hl.2 h
theorem ORel.plain {E E' : Env} {L : Loc} {w : World} {l : List AV} {e : TypeId} {b : Bool} (hl : plainL l = true) (h : ORel E L w (.cells l e b)) : ORel E' L w (.cells l e b) := by
  obtain ⟨c, fz, h1, h2, h3, h4, h5⟩ := h
  exact ⟨c, fz, h1, h2, h3, h4, fun i a hi => let ⟨v, hv, hr⟩ := h5 i a hi; ⟨v, hv, hr.plain (plainL_get hl hi)⟩⟩

/-- no memory at all: all that lies stays -/
def emptyE (E : Env) (w : World) : Env := ⟨[], E.sym, fun b => w.heap[b]?⟩
theorem emptyE_rel {E : Env} {aw : AW} {w : World} (h : Rel E aw w) : Rel (emptyE E w) ⟨.leaf, 0, 0⟩ w :=
  ⟨rfl, h.ns, fun j x hj => by simp [AW.get, Tr.get] at hj, fun i j oi oj Li Lj hi => by simp [AW.get, Tr.get] at hi, fun b o hb => hb, fun i oi Li hi => by simp [AW.get, Tr.get] at hi⟩

/-- a call that takes nothing and yields a new block of scalars -/
theorem sum_fresh {P : Program} {call : Call} (hcall : CallOK P call) {f : FuncId} {args : List AV} (hargs : ∀ a ∈ args, a.plain = true) {i : Nat} {aw' : AW} {l : List AV} {e : TypeId} {b : Bool} (hc : call f args ⟨.leaf, 0, 0⟩ = some (.ret (.ptr (some (i, 0))) aw')) (hg : aw'.get i = some (.cells l e b)) (hl : plainL l = true) :
    callable P f = true ∧ ∀ (E : Env) (aw : AW) (w : World) cargs, LRel E args cargs → Rel E aw w → Calls P f cargs.toArray w fun en w' => ∃ E', E.Le E' ∧ ResRel E' (.ret (.ptr (some (aw.nx, 0))) (aw.add (.cells l e b))) en w' := by
  obtain ⟨h1, h2⟩ := hcall f args _ _ hc
  refine ⟨h1, fun E aw w cargs hr hR => ?_⟩
  have hargs' : ∀ {E E' : Env} {l : List AV} {m : List Value}, (∀ a ∈ l, a.plain = true) → LRel E l m → LRel E' l m := by
    intro E E' l m hp h
    refine LRel.of_get h.length fun i a ha => ?_
    obtain ⟨v, hv, hr⟩ := h.get ha
    exact ⟨v, hv, hr.plain (hp a (List.mem_of_getElem? ha))⟩
  refine (h2 (emptyE E w) w cargs (hargs' hargs hr) (emptyE_rel hR)).mono fun en w' ⟨E1, hle, hres⟩ => ?_
  cases en with
  | returned cv =>
    obtain ⟨hR1, hv⟩ := hres
    obtain ⟨L, hL, ho⟩ := hR1.obj i _ hg
    have hfr : ∀ bb ob, w.heap[bb]? = some ob → w'.heap[bb]? = some ob := fun bb ob hb => hR1.frame bb ob (by rw [hle.2.2]; exact hb)
    have hnew : w.heap[L.block]? = none := by
      have := hR1.apart i _ L hg rfl hL
      rw [hle.2.2] at this; exact this
    have hmv : Rel E aw w' := hR.move (hle.2.1 ▸ hR1.ns) (fun j x Lj hj hLj ho hx => by
      have hlt := ho.lt hx
      refine ho.heap ?_
      rw [hfr _ _ (Array.getElem?_eq_getElem hlt), Array.getElem?_eq_getElem hlt]) (fun bb ob hb => hfr bb ob (hR.frame bb ob hb))
    refine ⟨E.put L, E.put_le L, hmv.addAt (fun j x Lj hj hx hLj e => ?_) ?_ (ho.plain hl), ?_⟩
    · obtain ⟨L', hL', hro⟩ := hR.obj j x hj
      rw [hLj] at hL'; injection hL' with hL'; subst hL'
      have := hro.lt hx
      rw [e] at this
      rw [Array.getElem?_eq_getElem this] at hnew; cases hnew
    · cases hq : E.fr L.block with
      | none => rfl
      | some ob => have := hR.frame _ _ hq; rw [hnew] at this; cases this
    · cases hv with
      | ptr hL2 =>
        rw [hL] at hL2; injection hL2 with hL2; subst hL2
        exact .ptr (by rw [hR.nx]; exact E.put_new L)
  | panicked ch => exact hres.elim
  | outgrown => exact hres.elim

/-- one object alone: all else stays -/
def oneE (E : Env) (w : World) (L : Loc) : Env := ⟨[L], E.sym, fun b => bif Nat.beq b L.block then none else w.heap[b]?⟩
theorem oneE_rel {E : Env} {aw : AW} {w : World} {L : Loc} {o : AO} (h : Rel E aw w) (ho : ORel (oneE E w L) L w o) : Rel (oneE E w L) (ofObjs [o] 1) w := by
  refine ⟨rfl, h.ns, fun j x hj => ?_, fun i j oi oj Li Lj hi hj _ _ _ _ _ => ?_, fun b ob hb => ?_, fun i oi Li hi _ hL => ?_⟩
  · rw [ofObjs_get] at hj
    cases j with
    | zero => simp at hj; subst hj; exact ⟨L, rfl, ho⟩
    | succ j => simp at hj
  · rw [ofObjs_get] at hi hj
    cases i with
    | zero => cases j with
      | zero => rfl
      | succ j => simp at hj
    | succ i => simp at hi
  · simp only [oneE] at hb
    cases hq : Nat.beq b L.block <;> simp [hq] at hb
    exact hb
  · rw [ofObjs_get] at hi
    cases i with
    | zero =>
      have : L = Li := by simpa [oneE] using hL
      subst this
      simp [oneE, Nat.beq_refl]
    | succ i => simp at hi
theorem oneE_frame {E E1 : Env} {aw1 : AW} {w w' : World} {L : Loc} (hle : (oneE E w L).Le E1) (h : Rel E1 aw1 w') : ∀ b, b ≠ L.block → b < w.heap.size → w'.heap[b]? = w.heap[b]? := fun b hb hlt => by
  have : (oneE E w L).fr b = some w.heap[b] := by
    simp only [oneE]
    cases hq : Nat.beq b L.block with
    | true => exact (hb (Nat.eq_of_beq_eq_true hq)).elim
    | false => simp [hlt]
  rw [h.frame b _ (by rw [hle.2.2]; exact this), Array.getElem?_eq_getElem hlt]
/-- the greater memory behind it: as it was, if that one object still holds -/
theorem oneE_back {E E1 : Env} {aw aw1 : AW} {w w' : World} {id : Nat} {L : Loc} {o : AO} (hR : Rel E aw w) (hg : aw.get id = some o) (hlive : o.live = true) (hL : E.loc[id]? = some L) (hle : (oneE E w L).Le E1) (h : Rel E1 aw1 w') (ho : ORel E L w' o) : Rel E aw w' := by
  have hkeep := oneE_frame hle h
  refine hR.move (hle.2.1 ▸ h.ns) (fun j x Lj hj hLj hoj hx => ?_) (fun b ob hb => ?_)
  · by_cases e : j = id
    · subst e
      rw [hg] at hj; injection hj with hj; subst hj
      rw [hL] at hLj; injection hLj with hLj; subst hLj
      exact ho
    · exact hoj.heap (hkeep _ (fun q => e (hR.inj j id x o Lj L hj hg hx hlive hLj hL q)) (hoj.lt hx))
  · have hb' := hR.frame b ob hb
    rw [hkeep b (fun q => by rw [q, hR.apart id o L hg hlive hL] at hb; cases hb) (Array.getElem?_eq_some_iff.1 hb').1]
    exact hb'
/-- a new object of it is new to the greater one -/
theorem oneE_new {E E1 : Env} {aw aw1 : AW} {w w' : World} {id i : Nat} {L L1 : Loc} {o o0 o1 : AO} (hR : Rel E aw w) (hg : aw.get id = some o) (hlive : o.live = true) (hL : E.loc[id]? = some L) (hle : (oneE E w L).Le E1) (h : Rel E1 aw1 w')
    (h0 : aw1.get 0 = some o0) (l0 : o0.live = true) (h1 : aw1.get i = some o1) (l1 : o1.live = true) (hi : i ≠ 0) (hL1 : E1.loc[i]? = some L1) :
    (∀ j x Lj, aw.get j = some x → x.live = true → E.loc[j]? = some Lj → Lj.block ≠ L1.block) ∧ E.fr L1.block = none := by
  have hL0 : E1.loc[0]? = some L := hle.loc (i := 0) rfl
  have hne : L1.block ≠ L.block := fun e => hi (h.inj i 0 o1 o0 L1 L h1 h0 l1 l0 hL1 hL0 e)
  have hnone : w.heap[L1.block]? = none := by
    have := h.apart i o1 L1 h1 l1 hL1
    rw [hle.2.2] at this
    simp only [oneE] at this
    cases hq : Nat.beq L1.block L.block with
    | true => exact (hne (Nat.eq_of_beq_eq_true hq)).elim
    | false => simpa [hq] using this
  refine ⟨fun j x Lj hj hx hLj e => ?_, ?_⟩
  · obtain ⟨L', hL', hro⟩ := hR.obj j x hj
    rw [hLj] at hL'; injection hL' with hL'; subst hL'
    have := hro.lt hx
    rw [e] at this
    rw [Array.getElem?_eq_getElem this] at hnone; cases hnone
  · cases hq : E.fr L1.block with
    | none => rfl
    | some ob => have := hR.frame _ _ hq; rw [hnone] at this; cases this
end Go.Proofs.YtbilacojhmohmaaGreat.Ae
