/- A state of the evaluator, told anew: other numbers for the objects, what is of no use forgotten. A law's code, run in pieces: between two pieces its state is told anew. A call that is run over a small memory of its own, inside a greater one. Deferred functions that recover and then run code without more: they are sound. A code run in pieces, whatever of the environment stays as it grows. No condition. -/
import Derived.Test.YtbilacojhmohmaaGreatBeKern
import Derived.Recover
namespace Go.Proofs.YtbilacojhmohmaaGreat.Ae
open Go
set_option linter.unusedVariables false
set_option linter.unusedSimpArgs false

/-! ### memory out of a list -/
noncomputable def trOf {α : Type} (l : List α) : Nat → Tr α → Tr α := List.rec (motive := fun _ => Nat → Tr α → Tr α) (fun _ t => t) (fun x _ ih i t => ih (Nat.succ i) (trSet t i x)) l
theorem trOf_get {α : Type} : ∀ (l : List α) (i : Nat) (t : Tr α) (j : Nat), (trOf l i t).get j j = if i ≤ j ∧ j < i + l.length then l[j - i]? else t.get j j
  | [], i, t, j => by
    rw [if_neg (by simp)]
    rfl
  | x :: l, i, t, j => by
    show (trOf l (i + 1) (trSet t i x)).get j j = _
    rw [trOf_get l, trSet_eq]
    by_cases h1 : j = i
    · subst h1
      rw [if_neg (by omega), if_pos (by simp), Tr.get_set_same]
      simp
    · by_cases h2 : i + 1 ≤ j ∧ j < i + 1 + l.length
      · rw [if_pos h2, if_pos (by simp; omega), show j - i = (j - (i + 1)) + 1 by omega]
        simp
      · rw [if_neg h2, if_neg (by simp; omega), Tr.get_set_other h1]
noncomputable def ofObjs (l : List AO) (n : Nat) : AW := ⟨trOf l (nat_lit 0) .leaf, n, nat_lit 0⟩
theorem ofObjs_get (l : List AO) (n j : Nat) : (ofObjs l n).get j = l[j]? := by
  show (trOf l 0 .leaf).get j j = _
  rw [trOf_get]
  by_cases h : j < l.length
  · rw [if_pos (by omega)]; simp
  · rw [if_neg (by omega)]; simp [Tr.get]; omega
noncomputable def tmOf (l : List (Nat × AV)) : Tr AV → Tr AV := List.rec (motive := fun _ => Tr AV → Tr AV) (fun t => t) (fun x _ ih t => Prod.rec (motive := fun _ => Tr AV) (fun i v => ih (trSet t i v)) x) l
theorem tmOf_get : ∀ (l : List (Nat × AV)) (t : Tr AV) (j : Nat) (v : AV), (tmOf l t).get j j = some v → (j, v) ∈ l ∨ t.get j j = some v
  | [], t, j, v, h => .inr h
  | (i, x) :: l, t, j, v, h => by
    have h : (tmOf l (trSet t i x)).get j j = some v := h
    rcases tmOf_get l _ j v h with h | h
    · exact .inl (List.mem_cons_of_mem _ h)
    · rw [trSet_eq] at h
      rcases Tr.get_set h with ⟨rfl, rfl⟩ | ⟨_, h⟩
      · exact .inl (by simp)
      · exact .inr h

noncomputable def lenA (l : List AO) : Nat := List.rec (motive := fun _ => Nat) (nat_lit 0) (fun _ _ ih => Nat.succ ih) l
theorem lenA_eq (l : List AO) : lenA l = l.length := by induction l with | nil => rfl | cons x l ih => exact congrArg Nat.succ ih

/-! ### what stands for what -/
def SRel (σ : Tr Nat) (E E' : Env) : Prop := E'.sym = E.sym ∧ E'.tk = E.tk ∧ ∀ j i, σ.get j j = some i → ∀ L, E.loc[i]? = some L → E'.loc[j]? = some L
def Bd (N : Nat) (σ : Tr Nat) : Prop := ∀ j i, σ.get j j = some i → j < N
def Ext (N : Nat) (σ σ' : Tr Nat) : Prop := (∀ j i, σ.get j j = some i → σ'.get j j = some i) ∧ (Bd N σ → Bd N σ')
theorem Ext.refl {N : Nat} (σ : Tr Nat) : Ext N σ σ := ⟨fun _ _ h => h, id⟩
theorem Ext.trans {N : Nat} {a b c : Tr Nat} (h : Ext N a b) (h' : Ext N b c) : Ext N a c := ⟨fun j i q => h'.1 j i (h.1 j i q), fun q => h'.2 (h.2 q)⟩
theorem SRel.mono {N : Nat} {σ σ' : Tr Nat} {E E' : Env} (h : Ext N σ σ') (hs : SRel σ' E E') : SRel σ E E' := ⟨hs.1, hs.2.1, fun j i q => hs.2.2 j i (h.1 j i q)⟩
def WkV (σ : Tr Nat) (o n : AV) : Prop := ∀ E E' v, SRel σ E E' → VRel E o v → VRel E' n v
theorem WkV.mono {N : Nat} {σ σ' : Tr Nat} (h : Ext N σ σ') {o n : AV} (hw : WkV σ o n) : WkV σ' o n := fun E E' v hs => hw E E' v (hs.mono h)
def WkL (σ : Tr Nat) (l m : List AV) : Prop := ∀ E E' vs, SRel σ E E' → LRel E l vs → LRel E' m vs
def WkO (σ : Tr Nat) (o n : AO) : Prop := (n.live = true → o.live = true) ∧ ∀ E E' L w, SRel σ E E' → ORel E L w o → ORel E' L w n
theorem WkO.mono {N : Nat} {σ σ' : Tr Nat} (h : Ext N σ σ') {o n : AO} (hw : WkO σ o n) : WkO σ' o n := ⟨hw.1, fun E E' L w hs => hw.2 E E' L w (hs.mono h)⟩

variable {N : Nat}
/-- number i stands for number j from here on -/
noncomputable def mId (N : Nat) (σ : Tr Nat) (i j : Nat) : Option (Tr Nat) :=
  Option.rec (motive := fun _ => Option (Tr Nat)) (bb2 (Nat.ble (Nat.succ j) N) (some (trSet σ j i)) none) (fun k => bb2 (Nat.beq k i) (some σ) none) (trGet σ j)
theorem mId_ok {σ σ' : Tr Nat} {i j : Nat} (h : mId N σ i j = some σ') : Ext N σ σ' ∧ σ'.get j j = some i := by
  unfold mId at h
  rw [trGet_eq] at h
  cases hg : σ.get j j with
  | none =>
    rw [hg] at h
    simp only [bb2_eq] at h
    cases hk : Nat.ble (Nat.succ j) N <;> simp only [hk, cond_true, cond_false, reduceCtorEq, Option.some.injEq] at h
    subst h
    refine ⟨⟨fun a b q => ?_, fun hb a b q => ?_⟩, by rw [trSet_eq, Tr.get_set_same]⟩
    · rw [trSet_eq]
      by_cases e : a = j
      · subst e; rw [hg] at q; cases q
      · rw [Tr.get_set_other e]; exact q
    · rw [trSet_eq] at q
      rcases Tr.get_set q with ⟨rfl, _⟩ | ⟨_, q⟩
      · exact Nat.le_of_ble_eq_true hk
      · exact hb a b q
  | some k =>
    rw [hg] at h
    simp only [bb2_eq] at h
    cases hk : Nat.beq k i <;> simp only [hk, cond_true, cond_false, reduceCtorEq, Option.some.injEq] at h
    subst h
    rw [Nat.eq_of_beq_eq_true hk] at hg
    exact ⟨.refl _, hg⟩

noncomputable def mV (N : Nat) (σ : Tr Nat) (o n : AV) : Option (Tr Nat) :=
  match n, o with
  | .undef, _ => some σ
  | .int k b, .int k' a => bb2 (Nat.beq (kcF k) (kcF k')) (bb2 (ieqF a b) (some σ) none) none
  | .sym k j, .sym k' i => bb2 (Nat.beq (kcF k) (kcF k')) (bb2 (Nat.beq i j) (some σ) none) none
  | .bool true, .bool true => some σ
  | .bool false, .bool false => some σ
  | .ptr none, .ptr none => some σ
  | .ptr (some (j, q)), .ptr (some (i, p)) => bb2 (Nat.beq p q) (mId N σ i j) none
  | .slc none 0 (.known 0), .slc none 0 (.known 0) => some σ
  | .slc (some (j, q)) n c, .slc (some (i, p)) m d => bb2 (Nat.beq p q) (bb2 (Nat.beq m n) (bb2 (sameCap d c) (mId N σ i j) none) none) none
  | .map none, .map none => some σ
  | .map (some j), .map (some i) => mId N σ i j
  | .nilFunc, .nilFunc => some σ
  | .nilIface, .nilIface => some σ
  | .sl j, .sl i => bb2 (Nat.beq i j) (some σ) none
  | _, _ => none
theorem VRel.sl_env {E E' : Env} {j : Nat} {v : Value} (h1 : E'.sym = E.sym) (h2 : E'.tk = E.tk) (h : VRel E (.sl j) v) : VRel E' (.sl j) v := by
  cases h with
  | sl hk ha =>
    rw [← h1] at hk ha ⊢
    exact .sl hk (by unfold SlAt at ha ⊢; rw [h2]; exact ha)
theorem mV_ok {σ σ' : Tr Nat} {o n : AV} (h : mV N σ o n = some σ') : Ext N σ σ' ∧ WkV σ' o n := by
  unfold mV at h
  split at h <;> (try (cases h; done))
  · simp only [Option.some.injEq] at h; subst h; exact ⟨.refl _, fun _ _ _ _ _ => .undef _⟩
  · rename_i k b k' a
    simp only [bb2_eq, kcF_eq, ieqF_eq] at h
    cases hk : Nat.beq (kc k) (kc k') <;> simp only [hk, cond_true, cond_false, reduceCtorEq] at h
    cases hi : ieq a b <;> simp only [hi, cond_true, cond_false, reduceCtorEq, Option.some.injEq] at h
    subst h
    rw [ieq_eq] at hi
    have := eq_of_beq hi; subst this
    have := kc_inj hk; subst this
    exact ⟨.refl _, fun _ _ v _ hv => by cases hv; exact .int _ _⟩
  · rename_i k j k' i
    simp only [bb2_eq, kcF_eq] at h
    cases hk : Nat.beq (kc k) (kc k') <;> simp only [hk, cond_true, cond_false, reduceCtorEq] at h
    cases hi : Nat.beq i j <;> simp only [hi, cond_true, cond_false, reduceCtorEq, Option.some.injEq] at h
    subst h
    have := Nat.eq_of_beq_eq_true hi; subst this
    have := kc_inj hk; subst this
    exact ⟨.refl _, fun _ _ v hs hv => by
      cases hv with
      | sym _ h1 h2 => exact .sym _ (by rw [hs.1]; exact h1) h2⟩
  · simp only [Option.some.injEq] at h; subst h; exact ⟨.refl _, fun _ _ _ _ hv => by cases hv; exact .bool _⟩
  · simp only [Option.some.injEq] at h; subst h; exact ⟨.refl _, fun _ _ _ _ hv => by cases hv; exact .bool _⟩
  · simp only [Option.some.injEq] at h; subst h; exact ⟨.refl _, fun _ _ _ _ hv => by cases hv; exact .nilPtr⟩
  · rename_i j q i p
    simp only [bb2_eq] at h
    cases hp : Nat.beq p q <;> simp only [hp, cond_true, cond_false, reduceCtorEq] at h
    have := Nat.eq_of_beq_eq_true hp; subst this
    obtain ⟨h1, h2⟩ := mId_ok h
    exact ⟨h1, fun _ _ _ hs hv => by
      cases hv with
      | ptr hL => exact .ptr (hs.2.2 _ _ h2 _ hL)⟩
  · simp only [Option.some.injEq] at h; subst h; exact ⟨.refl _, fun _ _ _ _ hv => by cases hv; exact .nilSlc⟩
  · rename_i j q n c i p m d
    simp only [bb2_eq] at h
    cases hp : Nat.beq p q <;> simp only [hp, cond_true, cond_false, reduceCtorEq] at h
    cases hm : Nat.beq m n <;> simp only [hm, cond_true, cond_false, reduceCtorEq] at h
    cases hc : sameCap d c <;> simp only [hc, cond_true, cond_false, reduceCtorEq] at h
    have := Nat.eq_of_beq_eq_true hp; subst this
    have := Nat.eq_of_beq_eq_true hm; subst this
    have := sameCap_eq hc; subst this
    obtain ⟨h1, h2⟩ := mId_ok h
    exact ⟨h1, fun _ _ _ hs hv => by
      cases hv with
      | slc hL ha => exact .slc (hs.2.2 _ _ h2 _ hL) ha
      | slcUp hL a b c => exact .slcUp (hs.2.2 _ _ h2 _ hL) a b c⟩
  · simp only [Option.some.injEq] at h; subst h; exact ⟨.refl _, fun _ _ _ _ hv => by cases hv; exact .nilMap⟩
  · obtain ⟨h1, h2⟩ := mId_ok h
    exact ⟨h1, fun _ _ _ hs hv => by
      cases hv with
      | map hL hb => exact .map (hs.2.2 _ _ h2 _ hL) hb⟩
  · simp only [Option.some.injEq] at h; subst h; exact ⟨.refl _, fun _ _ _ _ hv => by cases hv; exact .nilFunc⟩
  · simp only [Option.some.injEq] at h; subst h; exact ⟨.refl _, fun _ _ _ _ hv => by cases hv; exact .nilIface⟩
  · rename_i j i
    simp only [bb2_eq] at h
    cases hi : Nat.beq i j <;> simp only [hi, cond_true, cond_false, reduceCtorEq, Option.some.injEq] at h
    subst h
    have := Nat.eq_of_beq_eq_true hi; subst this
    exact ⟨.refl _, fun _ _ v hs hv => hv.sl_env hs.1 hs.2.1⟩

noncomputable def mL (N : Nat) (l : List AV) : List AV → Tr Nat → Option (Tr Nat) :=
  List.rec (motive := fun _ => List AV → Tr Nat → Option (Tr Nat)) (fun m σ => List.rec (motive := fun _ => Option (Tr Nat)) (some σ) (fun _ _ _ => none) m)
    (fun o _ ih m σ => List.rec (motive := fun _ => Option (Tr Nat)) none (fun n m _ => Option.rec (motive := fun _ => Option (Tr Nat)) none (fun σ => ih m σ) (mV N σ o n)) m) l
theorem mL_ok : ∀ {l m : List AV} {σ σ' : Tr Nat}, mL N l m σ = some σ' → Ext N σ σ' ∧ l.length = m.length ∧ ∀ (i : Nat) (n : AV), m[i]? = some n → ∃ o, l[i]? = some o ∧ WkV σ' o n
  | [], [], σ, σ', h => by
    have h : some σ = some σ' := h
    injection h with h; subst h
    exact ⟨.refl _, rfl, fun i n hi => by simp at hi⟩
  | [], _ :: _, σ, σ', h => by
    have h : (none : Option (Tr Nat)) = some σ' := h
    cases h
  | _ :: _, [], σ, σ', h => by
    have h : (none : Option (Tr Nat)) = some σ' := h
    cases h
  | o :: l, n :: m, σ, σ', h => by
    have h : Option.rec (motive := fun _ => Option (Tr Nat)) none (fun σ => mL N l m σ) (mV N σ o n) = some σ' := h
    cases hv : mV N σ o n with
    | none => rw [hv] at h; cases h
    | some σ1 =>
      rw [hv] at h
      have h : mL N l m σ1 = some σ' := h
      obtain ⟨a1, a2⟩ := mV_ok hv
      obtain ⟨b1, b2, b3⟩ := mL_ok h
      refine ⟨a1.trans b1, by simp [b2], fun i x hi => ?_⟩
      cases i with
      | zero => simp at hi; subst hi; exact ⟨o, by simp, a2.mono b1⟩
      | succ i => simp at hi; simpa using b3 i x hi
/-- a map's value: a struct, too -/
noncomputable def mV2 (N : Nat) (σ : Tr Nat) (o n : AV) : Option (Tr Nat) :=
  match n with
  | .agg m => match o with
    | .agg l => mL N l m σ
    | _ => none
  | n => mV N σ o n
theorem mV2_ok {σ σ' : Tr Nat} {o n : AV} (h : mV2 N σ o n = some σ') : Ext N σ σ' ∧ WkV σ' o n := by
  unfold mV2 at h
  split at h
  · rename_i m
    split at h <;> (try (cases h; done))
    rename_i l
    obtain ⟨h1, h2, h3⟩ := mL_ok h
    refine ⟨h1, fun E E' v hs hv => ?_⟩
    cases hv with
    | agg hl =>
      refine .agg (LRel.of_get (by rw [← h2]; exact hl.length) fun i a hi => ?_)
      obtain ⟨x, hx, hw⟩ := h3 i a hi
      obtain ⟨u, hu, hr⟩ := hl.get hx
      exact ⟨u, hu, hw _ _ _ hs hr⟩
  · exact mV_ok h
noncomputable def mE (N : Nat) (l : List AEnt) : List AEnt → Tr Nat → Option (Tr Nat) :=
  List.rec (motive := fun _ => List AEnt → Tr Nat → Option (Tr Nat)) (fun m σ => List.rec (motive := fun _ => Option (Tr Nat)) (some σ) (fun _ _ _ => none) m)
    (fun o _ ih m σ => List.rec (motive := fun _ => Option (Tr Nat)) none (fun n m _ => bb2 (Nat.beq o.born n.born) (Option.rec (motive := fun _ => Option (Tr Nat)) none (fun σ => Option.rec (motive := fun _ => Option (Tr Nat)) none (fun σ => ih m σ) (mV2 N σ o.val n.val)) (mV N σ o.key n.key)) none) m) l
theorem mE_ok : ∀ {l m : List AEnt} {σ σ' : Tr Nat}, mE N l m σ = some σ' → Ext N σ σ' ∧ ∀ E E' vs, SRel σ' E E' → ERel E l vs → ERel E' m vs
  | [], [], σ, σ', h => by
    have h : some σ = some σ' := h
    injection h with h; subst h
    exact ⟨.refl _, fun E E' vs _ hr => by cases hr; exact .nil⟩
  | [], _ :: _, σ, σ', h => by
    have h : (none : Option (Tr Nat)) = some σ' := h
    cases h
  | _ :: _, [], σ, σ', h => by
    have h : (none : Option (Tr Nat)) = some σ' := h
    cases h
  | o :: l, n :: m, σ, σ', h => by
    have h : bb2 (Nat.beq o.born n.born) (Option.rec (motive := fun _ => Option (Tr Nat)) none (fun σ => Option.rec (motive := fun _ => Option (Tr Nat)) none (fun σ => mE N l m σ) (mV2 N σ o.val n.val)) (mV N σ o.key n.key)) none = some σ' := h
    rw [bb2_eq] at h
    cases hb : Nat.beq o.born n.born <;> simp only [hb, cond_true, cond_false, reduceCtorEq] at h
    cases hk : mV N σ o.key n.key with
    | none => rw [hk] at h; cases h
    | some σ1 =>
      rw [hk] at h
      cases hv : mV2 N σ1 o.val n.val with
      | none => simp only [hv] at h; cases h
      | some σ2 =>
        simp only [hv] at h
        obtain ⟨a1, a2⟩ := mV_ok hk
        obtain ⟨b1, b2⟩ := mV2_ok hv
        obtain ⟨c1, c2⟩ := mE_ok h
        refine ⟨(a1.trans b1).trans c1, fun E E' vs hs hr => ?_⟩
        cases hr with
        | cons h1 h2 h3 t => exact .cons ((a2.mono (b1.trans c1)) _ _ _ hs h1) ((b2.mono c1) _ _ _ hs h2) (by rw [← h3]; exact (Nat.eq_of_beq_eq_true hb).symm) (c2 _ _ _ hs t)

noncomputable def mO (N : Nat) (σ : Tr Nat) (o n : AO) : Option (Tr Nat) :=
  match n, o with
  | .dead, _ => some σ
  | .cells m e' b', .cells l e b => bb2 (Nat.beq e e') (bb2 (bb2 b b' true) (mL N l m σ) none) none
  | .map fs c', .map es c => bb2 (Nat.beq c c') (mE N es fs σ) none
  | _, _ => none
theorem mO_ok {σ σ' : Tr Nat} {o n : AO} (h : mO N σ o n = some σ') : Ext N σ σ' ∧ WkO σ' o n := by
  unfold mO at h
  split at h <;> (try (cases h; done))
  · simp only [Option.some.injEq] at h; subst h
    exact ⟨.refl _, fun h => by simp [AO.live] at h, fun _ _ _ _ _ _ => trivial⟩
  · rename_i m e' b' l e b
    simp only [bb2_eq] at h
    cases he : Nat.beq e e' <;> simp only [he, cond_true, cond_false, reduceCtorEq] at h
    cases hb : (bif b then b' else true) <;> simp only [hb, cond_true, cond_false, reduceCtorEq] at h
    have := Nat.eq_of_beq_eq_true he; subst this
    obtain ⟨h1, h2, h3⟩ := mL_ok h
    refine ⟨h1, fun _ => rfl, fun E E' L w hs ho => ?_⟩
    obtain ⟨c, fz, g1, g2, g3, g4, g5⟩ := ho
    refine ⟨c, fz, g1, g2, by rw [← h2]; exact g3, fun q => ?_, fun i a hi => ?_⟩
    · subst q
      cases b with
      | true => simp at hb
      | false => rw [← h2]; exact g4 rfl
    · obtain ⟨x, hx, hw⟩ := h3 i a hi
      obtain ⟨v, hv, hr⟩ := g5 i x hx
      exact ⟨v, hv, hw _ _ _ hs hr⟩
  · rename_i fs c' es c
    simp only [bb2_eq] at h
    cases he : Nat.beq c c' <;> simp only [he, cond_true, cond_false, reduceCtorEq] at h
    have := Nat.eq_of_beq_eq_true he; subst this
    obtain ⟨h1, h2⟩ := mE_ok h
    refine ⟨h1, fun _ => rfl, fun E E' L w hs ho => ?_⟩
    obtain ⟨g1, ces, g2, g3⟩ := ho
    exact ⟨g1, ces, g2, h2 _ _ _ hs g3⟩

/-- the objects, one by one -/
noncomputable def mAll (N : Nat) (aw : AW) (l : List AO) : Nat → Tr Nat → Option (Tr Nat) :=
  List.rec (motive := fun _ => Nat → Tr Nat → Option (Tr Nat)) (fun _ σ => some σ)
    (fun n _ ih j σ => Option.rec (motive := fun _ => Option (Tr Nat)) none (fun i => Option.rec (motive := fun _ => Option (Tr Nat)) none (fun o => Option.rec (motive := fun _ => Option (Tr Nat)) none (fun σ => ih (Nat.succ j) σ) (mO N σ o n)) (awGet aw i)) (trGet σ j)) l
theorem mAll_ok {aw : AW} : ∀ {l : List AO} {j : Nat} {σ σ' : Tr Nat}, mAll N aw l j σ = some σ' → Ext N σ σ' ∧ ∀ (k : Nat) (n : AO), l[k]? = some n → ∃ i o, σ'.get (j + k) (j + k) = some i ∧ aw.get i = some o ∧ WkO σ' o n
  | [], j, σ, σ', h => by
    have h : some σ = some σ' := h
    injection h with h; subst h
    exact ⟨.refl _, fun k n hk => by simp at hk⟩
  | n :: l, j, σ, σ', h => by
    have h : Option.rec (motive := fun _ => Option (Tr Nat)) none (fun i => Option.rec (motive := fun _ => Option (Tr Nat)) none (fun o => Option.rec (motive := fun _ => Option (Tr Nat)) none (fun σ => mAll N aw l (j + 1) σ) (mO N σ o n)) (awGet aw i)) (trGet σ j) = some σ' := h
    rw [trGet_eq] at h
    cases hj : σ.get j j with
    | none => rw [hj] at h; cases h
    | some i =>
      simp only [hj] at h
      rw [awGet_eq] at h
      cases ho : aw.get i with
      | none => simp only [ho] at h; cases h
      | some o =>
        simp only [ho] at h
        cases hm : mO N σ o n with
        | none => simp only [hm] at h; cases h
        | some σ1 =>
          simp only [hm] at h
          obtain ⟨a1, a2⟩ := mO_ok hm
          obtain ⟨b1, b2⟩ := mAll_ok h
          refine ⟨a1.trans b1, fun k x hk => ?_⟩
          cases k with
          | zero => simp at hk; subst hk; exact ⟨i, o, (a1.trans b1).1 j i hj, ho, a2.mono b1⟩
          | succ k =>
            simp at hk
            obtain ⟨i', o', c1, c2, c3⟩ := b2 k x hk
            exact ⟨i', o', by rw [show j + (k + 1) = j + 1 + k by omega]; exact c1, c2, c3⟩
noncomputable def mTm (N : Nat) (t : Tr AV) (l : List (Nat × AV)) : Tr Nat → Option (Tr Nat) :=
  List.rec (motive := fun _ => Tr Nat → Option (Tr Nat)) (fun σ => some σ)
    (fun x _ ih σ => Prod.rec (motive := fun _ => Option (Tr Nat)) (fun i n => Option.rec (motive := fun _ => Option (Tr Nat)) none (fun o => Option.rec (motive := fun _ => Option (Tr Nat)) none (fun σ => ih σ) (mV N σ o n)) (trGet t i)) x) l
theorem mTm_ok {t : Tr AV} : ∀ {l : List (Nat × AV)} {σ σ' : Tr Nat}, mTm N t l σ = some σ' → Ext N σ σ' ∧ ∀ i n, (i, n) ∈ l → ∃ o, t.get i i = some o ∧ WkV σ' o n
  | [], σ, σ', h => by
    have h : some σ = some σ' := h
    injection h with h; subst h
    exact ⟨.refl _, fun i n hk => by cases hk⟩
  | (i, n) :: l, σ, σ', h => by
    have h : Option.rec (motive := fun _ => Option (Tr Nat)) none (fun o => Option.rec (motive := fun _ => Option (Tr Nat)) none (fun σ => mTm N t l σ) (mV N σ o n)) (trGet t i) = some σ' := h
    rw [trGet_eq] at h
    cases hj : t.get i i with
    | none => rw [hj] at h; cases h
    | some o =>
      simp only [hj] at h
      cases hm : mV N σ o n with
      | none => simp only [hm] at h; cases h
      | some σ1 =>
        simp only [hm] at h
        obtain ⟨a1, a2⟩ := mV_ok hm
        obtain ⟨b1, b2⟩ := mTm_ok h
        refine ⟨a1.trans b1, fun k x hk => ?_⟩
        rcases List.mem_cons.1 hk with e | hk
        · injection e with e1 e2; subst e1; subst e2
          exact ⟨o, hj, a2.mono b1⟩
        · exact b2 k x hk
/-- no two stand for the same -/
noncomputable def mOnce (σ : Tr Nat) (n : Nat) : Option (Tr Nat) :=
  Nat.rec (motive := fun _ => Option (Tr Nat)) (some .leaf) (fun j r => Option.rec (motive := fun _ => Option (Tr Nat)) none (fun ι => Option.rec (motive := fun _ => Option (Tr Nat)) none (fun i => Option.rec (motive := fun _ => Option (Tr Nat)) (some (trSet ι i j)) (fun _ => none) (trGet ι i)) (trGet σ j)) r) n
theorem mOnce_ok {σ : Tr Nat} : ∀ {n : Nat} {ι : Tr Nat}, mOnce σ n = some ι → ∀ j i, j < n → σ.get j j = some i → ι.get i i = some j
  | 0, ι, h, j, i, hj, _ => by omega
  | n + 1, ι, h, j, i, hj, hg => by
    have h : Option.rec (motive := fun _ => Option (Tr Nat)) none (fun ι => Option.rec (motive := fun _ => Option (Tr Nat)) none (fun i => Option.rec (motive := fun _ => Option (Tr Nat)) (some (trSet ι i n)) (fun _ => none) (trGet ι i)) (trGet σ n)) (mOnce σ n) = some ι := h
    cases h0 : mOnce σ n with
    | none => rw [h0] at h; cases h
    | some ι0 =>
      simp only [h0] at h
      rw [trGet_eq] at h
      cases h1 : σ.get n n with
      | none => simp only [h1] at h; cases h
      | some k =>
        simp only [h1, trGet_eq] at h
        cases h2 : ι0.get k k with
        | some x => simp only [h2] at h; cases h
        | none =>
          simp only [h2, Option.some.injEq] at h
          subst h
          rw [trSet_eq]
          by_cases e : j = n
          · subst e; rw [h1] at hg; injection hg with hg; subst hg
            rw [Tr.get_set_same]
          · have := mOnce_ok h0 j i (by omega) hg
            by_cases e2 : i = k
            · subst e2; rw [h2] at this; cases this
            · rw [Tr.get_set_other e2]; exact this

/-- a state, told as those objects, that frame -/
noncomputable def told (n : Nat) (l : List AO) (tm : List (Nat × AV)) (t : Tr AV) (aw : AW) : Bool :=
  Option.rec (motive := fun _ => Bool) false (fun σ => Option.rec (motive := fun _ => Bool) false (fun σ => Option.rec (motive := fun _ => Bool) false (fun _ => true) (mOnce σ n)) (mAll n aw l (nat_lit 0) σ)) (mTm n t tm .leaf)
theorem told_ok {n : Nat} {l : List AO} {tm : List (Nat × AV)} {a : AAct} {aw : AW} (h : told n l tm a.tmps aw = true) (hn : n = l.length) (hd : a.defs = []) {E : Env} {ca : Act} {w : World} (hA : ActRel E a ca) (hR : Rel E aw w) :
    ∃ E', E'.fr = E.fr ∧ E'.sym = E.sym ∧ ActRel E' ⟨tmOf tm .leaf, a.n, []⟩ ca ∧ Rel E' (ofObjs l n) w := by
  subst hn
  unfold told at h
  cases h1 : mTm l.length a.tmps tm .leaf with
  | none => simp only [h1] at h; cases h
  | some σ1 =>
    simp only [h1] at h
    cases h2 : mAll l.length aw l (nat_lit 0) σ1 with
    | none => simp only [h2] at h; cases h
    | some σ =>
      simp only [h2] at h
      cases h3 : mOnce σ l.length with
      | none => simp only [h3] at h; cases h
      | some ι =>
        obtain ⟨a1, a2⟩ := mTm_ok h1
        obtain ⟨b1, b2⟩ := mAll_ok h2
        have once := mOnce_ok h3
        have bd : Bd l.length σ := (a1.trans b1).2 fun j i q => by simp [Tr.get] at q
        have b2 : ∀ (k : Nat) (n : AO), l[k]? = some n → ∃ i o, σ.get k k = some i ∧ aw.get i = some o ∧ WkO σ o n := fun k n hk => by
          have := b2 k n hk
          rwa [show (nat_lit 0) + k = k from Nat.zero_add k] at this
        let E' : Env := { E with loc := (List.range l.length).map fun j => match σ.get j j with | some i => E.loc.getD i ⟨0, 0, 0⟩ | none => ⟨0, 0, 0⟩ }
        have hloc : ∀ j i, σ.get j j = some i → ∀ L, E.loc[i]? = some L → E'.loc[j]? = some L := fun j i hg L hL => by
          have hj := bd j i hg
          simp only [E', List.getElem?_map, List.getElem?_range hj, Option.map_some, hg, List.getD_eq_getElem?_getD, hL, Option.getD_some]
        have hS : SRel σ E E' := ⟨rfl, rfl, hloc⟩
        have one : ∀ k n, (ofObjs l l.length).get k = some n → ∃ i o L, σ.get k k = some i ∧ aw.get i = some o ∧ WkO σ o n ∧ E.loc[i]? = some L ∧ E'.loc[k]? = some L ∧ ORel E L w o ∧ k < l.length := fun k n hk => by
          rw [ofObjs_get] at hk
          obtain ⟨i, o, c1, c2, c3⟩ := b2 k n hk
          obtain ⟨L, hL, hr⟩ := hR.obj i o c2
          exact ⟨i, o, L, c1, c2, c3, hL, hloc k i c1 L hL, hr, bd k i c1⟩
        refine ⟨E', rfl, rfl, ⟨hA.size, fun t v hv => ?_, ?_⟩, ⟨by simp [ofObjs, E'], hR.ns, fun k n hk => ?_, fun k k' n n' Lk Lk' hk hk' lk lk' ek ek' hb => ?_, hR.frame, fun k n Lk hk lk ek => ?_, hR.tok.1, fun k n Lk hk lk ek => ?_⟩⟩
        · rcases tmOf_get tm _ t v hv with hm | hm
          · obtain ⟨o, ho, hw⟩ := a2 t v hm
            obtain ⟨x, hx, hr⟩ := hA.tmps t o ho
            exact ⟨x, hx, (hw.mono b1) _ _ _ hS hr⟩
          · simp [Tr.get] at hm
        · have := hA.defs
          rw [hd] at this
          generalize ca.defers = df at this
          cases this; exact .nil
        · obtain ⟨i, o, L, c1, c2, c3, c4, c5, c6, _⟩ := one k n hk
          exact ⟨L, c5, c3.2 _ _ _ _ hS c6⟩
        · obtain ⟨i, o, L, c1, c2, c3, c4, c5, c6, c7⟩ := one k n hk
          obtain ⟨i', o', L', d1, d2, d3, d4, d5, d6, d7⟩ := one k' n' hk'
          rw [c5] at ek; injection ek with ek; subst ek
          rw [d5] at ek'; injection ek' with ek'; subst ek'
          have := hR.inj i i' o o' _ _ c2 d2 (c3.1 lk) (d3.1 lk') c4 d4 hb
          subst this
          have e1 := once k i c7 c1
          have e2 := once k' i d7 d1
          rw [e1] at e2; injection e2
        · obtain ⟨i, o, L, c1, c2, c3, c4, c5, c6, _⟩ := one k n hk
          rw [c5] at ek; injection ek with ek; subst ek
          exact hR.apart i o _ c2 (c3.1 lk) c4
        · obtain ⟨i, o, L, c1, c2, c3, c4, c5, c6, _⟩ := one k n hk
          rw [c5] at ek; injection ek with ek; subst ek
          exact hR.tok.2 i o _ c2 (c3.1 lk) c4
end Go.Proofs.YtbilacojhmohmaaGreat.Ae

namespace Go.Proofs.YtbilacojhmohmaaGreat.Ae
open Go
set_option linter.unusedVariables false
set_option linter.unusedSimpArgs false

section
variable {P : Program} {dr : Array Oper → Option (List CR × List CR)} {fr : Nat → Option Obj} {sy : SymW} {call : Call} {cc x y b : CC} {Q : Exit → Act → World → Prop} {a a1 : AAct} {aw aw1 : AW}
abbrev Post' := Exit → Act → World → Prop
/-- from this state the code does what it should -/
def Good (P : Program) (dr : Array Oper → Option (List CR × List CR)) (fr : Nat → Option Obj) (sy : SymW) (cc : CC) (Q : Post') (a : AAct) (aw : AW) : Prop :=
  ∀ c, cCode P dr c = some cc → ∀ E ca w, E.fr = fr → E.sym = sy → ActRel E a ca → Rel E aw w → c.wp P Q ca w
def GoodL (P : Program) (dr : Array Oper → Option (List CR × List CR)) (fr : Nat → Option Obj) (sy : SymW) (b : CC) (Q : Post') (a : AAct) (aw : AW) : Prop :=
  ∀ c, cCode P dr c = some b → ∀ E ca w, E.fr = fr → E.sym = sy → ActRel E a ca → Rel E aw w → LoopAt P c Q ca w
/-- and then y -/
def thenC (P : Program) (dr : Array Oper → Option (List CR × List CR)) (y : CC) (Q : Post') : Post'
  | .normal, ca, w => ∀ c, cCode P dr c = some y → c.wp P Q ca w
  | e, ca, w => Q e ca w

theorem inv_seq {c : Code} (h : cCode P dr c = some (.seq x y)) : ∃ c1 c2, c = .seq c1 c2 ∧ cCode P dr c1 = some x ∧ cCode P dr c2 = some y := by
  cases c <;> simp only [cCode] at h <;> (try (cases h; done))
  · split at h <;> split at h <;> simp at h
  · split at h <;> (try (cases h; done))
    split at h <;> (try (cases h; done))
    simp at h; obtain ⟨rfl, rfl⟩ := h
    exact ⟨_, _, rfl, by assumption, by assumption⟩
  · split at h <;> (try (cases h; done))
    split at h <;> (try (cases h; done))
    split at h <;> (try (cases h; done))
  · split at h <;> (try (cases h; done))
  · split at h <;> (try (cases h; done))
theorem inv_block {c : Code} {id : Nat} (h : cCode P dr c = some (.block id b)) : ∃ c1, c = .block id c1 ∧ cCode P dr c1 = some b := by
  cases c <;> simp only [cCode] at h <;> (try (cases h; done))
  · split at h <;> split at h <;> simp at h
  · split at h <;> (try (cases h; done))
    split at h <;> (try (cases h; done))
  · split at h <;> (try (cases h; done))
    split at h <;> (try (cases h; done))
    split at h <;> (try (cases h; done))
  · split at h <;> (try (cases h; done))
    rename_i q hq
    simp at h; obtain ⟨rfl, rfl⟩ := h
    exact ⟨_, rfl, hq⟩
  · split at h <;> (try (cases h; done))
theorem inv_loop {c : Code} (h : cCode P dr c = some (.loop b)) : ∃ c1, c = .loop c1 ∧ cCode P dr c1 = some b := by
  cases c <;> simp only [cCode] at h <;> (try (cases h; done))
  · split at h <;> split at h <;> simp at h
  · split at h <;> (try (cases h; done))
    split at h <;> (try (cases h; done))
  · split at h <;> (try (cases h; done))
    split at h <;> (try (cases h; done))
    split at h <;> (try (cases h; done))
  · split at h <;> (try (cases h; done))
  · split at h <;> (try (cases h; done))
    rename_i q hq
    simp at h; subst h
    exact ⟨_, rfl, hq⟩

theorem Good.run (hcall : CallOK P call) (hdr : DrawOK P call dr) {n : Nat} {o : Out} (h : xcode call n cc a aw = some o)
    (hk : ∀ E e ca w, E.fr = fr → E.sym = sy → Rel E o.aw w → ActRel E o.act ca → XRel E o.x e → Q e ca w) : Good P dr fr sy cc Q a aw := by
  intro c hc E ca w hE hS hA hR
  refine wp_mono (code_sound hcall hdr n hc h hA hR).1 fun e a' w' ⟨E', hle, h1, h2, h3⟩ => ?_
  exact hk E' e a' w' (hle.2.2.1.trans hE) (hle.2.1.trans hS) h1 h2 h3
theorem Good.seq (hcall : CallOK P call) (hdr : DrawOK P call dr) {n : Nat} (h : xcode call n x a aw = some ⟨.norm, a1, aw1⟩) (hy : Good P dr fr sy y Q a1 aw1) : Good P dr fr sy (.seq x y) Q a aw := by
  intro c hc E ca w hE hS hA hR
  obtain ⟨c1, c2, rfl, h1, h2⟩ := inv_seq hc
  refine wp_seq (wp_mono (code_sound hcall hdr n h1 h hA hR).1 fun e a' w' ⟨E', hle, g1, g2, g3⟩ => ?_)
  cases e <;> simp only [XRel] at g3
  exact hy c2 h2 E' a' w' (hle.2.2.1.trans hE) (hle.2.1.trans hS) g2 g1
theorem Good.into (h : Good P dr fr sy x (thenC P dr y Q) a aw) : Good P dr fr sy (.seq x y) Q a aw := by
  intro c hc E ca w hE hS hA hR
  obtain ⟨c1, c2, rfl, h1, h2⟩ := inv_seq hc
  refine wp_seq (wp_mono (h c1 h1 E ca w hE hS hA hR) fun e a' w' hq => ?_)
  cases e <;> simp only [thenC, Exit.then] at hq ⊢ <;> first | exact hq c2 h2 | exact hq
theorem Good.block {id : Nat} (h : Good P dr fr sy b (Exit.inBlock id Q) a aw) : Good P dr fr sy (.block id b) Q a aw := by
  intro c hc E ca w hE hS hA hR
  obtain ⟨c1, rfl, h1⟩ := inv_block hc
  exact wp_block (h c1 h1 E ca w hE hS hA hR)
theorem Good.loop (h : GoodL P dr fr sy b Q a aw) : Good P dr fr sy (.loop b) Q a aw := by
  intro c hc E ca w hE hS hA hR
  obtain ⟨c1, rfl, h1⟩ := inv_loop hc
  exact (h c1 h1 E ca w hE hS hA hR).wp
theorem Good.told {l : List AO} {tm : List (Nat × AV)} (h : told (lenA l) l tm a.tmps aw = true) (hd : a.defs = []) (hg : Good P dr fr sy cc Q ⟨tmOf tm .leaf, a.n, []⟩ (ofObjs l (lenA l))) : Good P dr fr sy cc Q a aw := by
  intro c hc E ca w hE hS hA hR
  obtain ⟨E', g1, g2, g3, g4⟩ := told_ok h (lenA_eq l) hd hA hR
  exact hg c hc E' ca w (g1.trans hE) (g2.trans hS) g3 g4
theorem GoodL.told {l : List AO} {tm : List (Nat × AV)} (h : told (lenA l) l tm a.tmps aw = true) (hd : a.defs = []) (hg : GoodL P dr fr sy b Q ⟨tmOf tm .leaf, a.n, []⟩ (ofObjs l (lenA l))) : GoodL P dr fr sy b Q a aw := by
  intro c hc E ca w hE hS hA hR
  obtain ⟨E', g1, g2, g3, g4⟩ := told_ok h (lenA_eq l) hd hA hR
  exact hg c hc E' ca w (g1.trans hE) (g2.trans hS) g3 g4
theorem GoodL.round (hcall : CallOK P call) (hdr : DrawOK P call dr) {n : Nat} (h : xcode call n b a aw = some ⟨.norm, a1, aw1⟩) (hg : GoodL P dr fr sy b Q a1 aw1) : GoodL P dr fr sy b Q a aw := by
  intro c hc E ca w hE hS hA hR
  refine LoopAt.round (wp_mono (code_sound hcall hdr n hc h hA hR).1 fun e a' w' ⟨E', hle, g1, g2, g3⟩ => ?_)
  cases e <;> simp only [XRel] at g3
  exact hg c hc E' a' w' (hle.2.2.1.trans hE) (hle.2.1.trans hS) g2 g1
/-- the loop's end: its block is left, and what stands behind it goes on -/
theorem GoodL.leave (hcall : CallOK P call) (hdr : DrawOK P call dr) {n id : Nat} (h : xcode call n b a aw = some ⟨.exit id, a1, aw1⟩) (hg : Good P dr fr sy y Q a1 aw1) : GoodL P dr fr sy b (Exit.inBlock id (thenC P dr y Q)) a aw := by
  intro c hc E ca w hE hS hA hR
  refine LoopAt.round (wp_mono (code_sound hcall hdr n hc h hA hR).1 fun e a' w' ⟨E', hle, g1, g2, g3⟩ => ?_)
  cases e <;> simp only [XRel] at g3
  subst g3
  simp only [Exit.then, Exit.inBlock, if_true]
  exact fun c2 h2 => hg c2 h2 E' a' w' (hle.2.2.1.trans hE) (hle.2.1.trans hS) g2 g1

/-- what the frame holds, said otherwise -/
theorem Good.as {a' : AAct} (hw : ∀ E ca, E.sym = sy → ActRel E a ca → ActRel E a' ca) (hg : Good P dr fr sy cc Q a' aw) : Good P dr fr sy cc Q a aw := by
  intro c hc E ca w hE hS hA hR
  exact hg c hc E ca w hE hS (hw E ca hS hA) hR
theorem retm {tm tm' : List (Nat × AV)} {n : Nat} {E : Env} {ca : Act} (h : ∀ t v', (t, v') ∈ tm' → ∃ v, (tmOf tm .leaf).get t t = some v ∧ ∀ x, VRel E v x → VRel E v' x) (hA : ActRel E ⟨tmOf tm .leaf, n, []⟩ ca) : ActRel E ⟨tmOf tm' .leaf, n, []⟩ ca := by
  refine ⟨hA.size, fun t v' hv => ?_, hA.defs⟩
  rcases tmOf_get tm' _ t v' hv with hm | hm
  · obtain ⟨v, h1, h2⟩ := h t v' hm
    obtain ⟨x, hx, hr⟩ := hA.tmps t v h1
    exact ⟨x, hx, h2 x hr⟩
  · simp [Tr.get] at hm
/-- the loop's body, and then the loop again -/
def loopQ (P : Program) (dr : Array Oper → Option (List CR × List CR)) (b : CC) (Q : Post') : Post'
  | .normal, ca, w => ∀ c, cCode P dr c = some b → LoopAt P c Q ca w
  | e, ca, w => Q e ca w
theorem GoodL.of (h : Good P dr fr sy b (loopQ P dr b Q) a aw) : GoodL P dr fr sy b Q a aw := by
  intro c hc E ca w hE hS hA hR
  refine LoopAt.round (wp_mono (h c hc E ca w hE hS hA hR) fun e a' w' hq => ?_)
  cases e <;> simp only [loopQ, Exit.then] at hq ⊢ <;> first | exact hq c hc | exact hq
/-- a piece that is run and told anew, and then the loop again -/
theorem Good.again (hcall : CallOK P call) (hdr : DrawOK P call dr) {n : Nat} {l : List AO} {tm : List (Nat × AV)} (h : xcode call n x a aw = some ⟨.norm, a1, aw1⟩) (ht : Ae.told (lenA l) l tm a1.tmps aw1 = true) (hd : a1.defs = [])
    (hg : GoodL P dr fr sy b Q ⟨tmOf tm .leaf, a1.n, []⟩ (ofObjs l (lenA l))) : Good P dr fr sy x (loopQ P dr b Q) a aw := by
  refine Good.run hcall hdr h fun E e ca w hE hS hR hA hX => ?_
  cases e <;> simp only [XRel] at hX
  intro c hc
  obtain ⟨E', g1, g2, g3, g4⟩ := told_ok ht (lenA_eq l) hd hA hR
  exact hg c hc E' ca w (g1.trans hE) (g2.trans hS) g3 g4

/-! in the kernel: a piece is run, and its end told anew -/
noncomputable def atNorm (n0 : Nat) (r : Option Out) (f : Tr AV → AW → Bool) : Bool :=
  Option.rec (motive := fun _ => Bool) false (fun o => Out.rec (motive := fun _ => Bool) (fun x act aw => AX.rec (motive := fun _ => Bool) (AAct.rec (motive := fun _ => Bool) (fun t n ds => List.rec (motive := fun _ => Bool) (bb2 (Nat.beq n n0) (f t aw) false) (fun _ _ _ => false) ds) act) (fun _ => false) false (fun _ => false) x) o) r
theorem atNorm_ok {n0 : Nat} {r : Option Out} {f : Tr AV → AW → Bool} (h : atNorm n0 r f = true) : ∃ t aw, r = some ⟨.norm, ⟨t, n0, []⟩, aw⟩ ∧ f t aw = true := by
  cases r with
  | none => cases h
  | some o =>
    obtain ⟨x, ⟨t, n, ds⟩, aw⟩ := o
    cases x with
    | norm =>
      cases ds with
      | nil =>
        have h : bb2 (Nat.beq n n0) (f t aw) false = true := h
        rw [bb2_eq] at h
        cases hn : Nat.beq n n0 <;> simp only [hn, cond_true, cond_false, Bool.false_eq_true] at h
        rw [Nat.eq_of_beq_eq_true hn]
        exact ⟨t, aw, rfl, h⟩
      | cons d l => cases h
    | exit _ => cases h
    | ret => cases h
    | panic _ => cases h
end
end Go.Proofs.YtbilacojhmohmaaGreat.Ae

namespace Go.Proofs.YtbilacojhmohmaaGreat.Ae
open Go
set_option linter.unusedVariables false
set_option linter.unusedSimpArgs false

theorem Rel.move {E : Env} {aw : AW} {w w' : World} (h : Rel E aw w) (hn : (∃ ρ, E.sym.f = symVal ρ) ∧ w'.os = E.sym.os ∧ w'.output = E.sym.out) (ho : ∀ j x L, aw.get j = some x → E.loc[j]? = some L → ORel E L w x → x.live = true → ORel E L w' x) (hf : ∀ b o, E.fr b = some o → w'.heap[b]? = some o) (ht : ∀ b x, E.tk b = some x → TokAt w' b x) : Rel E aw w' := by
  refine ⟨h.nx, hn, fun j x hj => ?_, h.inj, hf, h.apart, fun b o hb => ⟨ht b o hb, (h.tok.1 b o hb).2⟩, h.tok.2⟩
  obtain ⟨L, hL, hr⟩ := h.obj j x hj
  refine ⟨L, hL, ?_⟩
  cases hx : x.live with
  | false => cases x <;> first | trivial | exact hr | simp [AO.live] at hx
  | true => exact ho j x L hj hL hr hx
theorem Rel.addAt {E : Env} {aw : AW} {w : World} {L : Loc} {o : AO} (h : Rel E aw w) (hne : ∀ j x Lj, aw.get j = some x → x.live = true → E.loc[j]? = some Lj → Lj.block ≠ L.block) (hf : E.fr L.block = none) (htk : E.tk L.block = none) (ho : ORel (E.put L) L w o) : Rel (E.put L) (aw.add o) w := by
  have hle := E.put_le L
  have new : (E.put L).loc[aw.nx]? = some L := h.nx ▸ E.put_new L
  have old : ∀ k ok Lk, aw.get k = some ok → (E.put L).loc[k]? = some Lk → E.loc[k]? = some Lk := fun k ok Lk hk ek => by
    obtain ⟨L', hL', hr⟩ := h.obj k ok hk
    rw [hle.loc hL'] at ek; injection ek with ek; subst ek
    exact hL'
  refine ⟨by simp [AW.add, Env.put, h.nx], h.ns, fun j x hj => ?_, fun i j oi oj Li Lj hi hj li lj ei ej e => ?_, h.frame, fun i oi Li hi li ei => ?_, h.tok.1, fun i oi Li hi li ei => ?_⟩
  · rcases AW.get_add hj with ⟨rfl, rfl⟩ | ⟨hne, hj⟩
    · exact ⟨L, new, ho⟩
    · obtain ⟨L', hL', hr⟩ := h.obj j x hj
      exact ⟨L', hle.loc hL', hr.mono hle⟩
  · rcases AW.get_add hi with ⟨e1, e2⟩ | ⟨hni, hi2⟩ <;> rcases AW.get_add hj with ⟨e3, e4⟩ | ⟨hnj, hj2⟩
    · rw [e1, e3]
    · rw [e1, new] at ei; injection ei with ei; subst ei
      exact (hne j oj Lj hj2 lj (old j oj Lj hj2 ej) e.symm).elim
    · rw [e3, new] at ej; injection ej with ej; subst ej
      exact (hne i oi Li hi2 li (old i oi Li hi2 ei) e).elim
    · exact h.inj i j oi oj Li Lj hi2 hj2 li lj (old i oi Li hi2 ei) (old j oj Lj hj2 ej) e
  · rcases AW.get_add hi with ⟨e1, e2⟩ | ⟨hni, hi2⟩
    · rw [e1, new] at ei; injection ei with ei; subst ei; exact hf
    · exact h.apart i oi Li hi2 li (old i oi Li hi2 ei)
  · rcases AW.get_add hi with ⟨e1, e2⟩ | ⟨hni, hi2⟩
    · rw [e1, new] at ei; injection ei with ei; subst ei; exact htk
    · exact h.tok.2 i oi Li hi2 li (old i oi Li hi2 ei)

/-- scalars: they speak of no object -/
def AV.plain : AV → Bool
  | .int _ _ | .bool _ | .undef | .nilFunc | .nilIface | .ptr none | .map none => true
  | .slc none 0 (.known 0) => true
  | _ => false
theorem VRel.plain {E E' : Env} {a : AV} {v : Value} (ha : a.plain = true) (h : VRel E a v) : VRel E' a v := by
  cases h <;> first | (simp [AV.plain] at ha; done) | (constructor; done)
def plainL : List AV → Bool
  | [] => true
  | a :: l => a.plain && plainL l
theorem plainL_get : ∀ {l : List AV}, plainL l = true → ∀ {i : Nat} {a : AV}, l[i]? = some a → a.plain = true
  | [], _, i, a, h => by simp at h
  | x :: l, hl, i, a, h => by
    simp only [plainL, Bool.and_eq_true] at hl
    cases i with
    | zero => simp at h; subst h; exact hl.1
    | succ i => simp at h; exact plainL_get hl.2 h
theorem ORel.plain {E E' : Env} {L : Loc} {w : World} {l : List AV} {e : TypeId} {b : Bool} (hl : plainL l = true) (h : ORel E L w (.cells l e b)) : ORel E' L w (.cells l e b) := by
  obtain ⟨c, fz, h1, h2, h3, h4, h5⟩ := h
  exact ⟨c, fz, h1, h2, h3, h4, fun i a hi => let ⟨v, hv, hr⟩ := h5 i a hi; ⟨v, hv, hr.plain (plainL_get hl hi)⟩⟩

/-- no memory at all: all that lies stays -/
def emptyE (E : Env) (w : World) : Env := ⟨[], E.sym, fun b => w.heap[b]?, fun _ => none⟩
theorem emptyE_rel {E : Env} {aw : AW} {w : World} (h : Rel E aw w) : Rel (emptyE E w) ⟨.leaf, 0, 0⟩ w :=
  ⟨rfl, h.ns, fun j x hj => by simp [AW.get, Tr.get] at hj, fun i j oi oj Li Lj hi => by simp [AW.get, Tr.get] at hi, fun b o hb => hb, fun i oi Li hi => by simp [AW.get, Tr.get] at hi, ⟨fun b o hb => (by cases hb), fun _ _ _ _ _ _ => rfl⟩⟩

/-- a call that takes nothing and yields a new block of scalars -/
theorem sum_fresh {P : Program} {call : Call} (hcall : CallOK P call) {f : FuncId} {args : List AV} (hargs : ∀ a ∈ args, a.plain = true) {i : Nat} {aw' : AW} {l : List AV} {e : TypeId} {b : Bool} (hc : call f args ⟨.leaf, 0, 0⟩ = some (.ret (.ptr (some (i, 0))) aw')) (hg : aw'.get i = some (.cells l e b)) (hl : plainL l = true) :
    callable P f = true ∧ ∀ (E : Env) (aw : AW) (w : World) cargs, LRel E args cargs → Rel E aw w → Calls P f cargs.toArray w fun en w' => ∃ E', E.Le E' ∧ ResRel E' (.ret (.ptr (some (aw.nx, 0))) (aw.add (.cells l e b))) en w' := by
  obtain ⟨h1, h2⟩ := hcall f args _ _ hc
  refine ⟨h1, fun E aw w cargs hr hR => ?_⟩
  have hargs' : ∀ {E E' : Env} {l : List AV} {m : List Value}, (∀ a ∈ l, a.plain = true) → LRel E l m → LRel E' l m := by
    intro E E' l m hp h
    refine LRel.of_get h.length fun i a ha => ?_
    obtain ⟨v, hv, hr⟩ := h.get ha
    exact ⟨v, hv, hr.plain (hp a (List.mem_of_getElem? ha))⟩
  refine (h2 (emptyE E w) w cargs (hargs' hargs hr) (emptyE_rel hR)).mono fun en w' ⟨E1, hle, hres⟩ => ?_
  cases en with
  | returned cv =>
    obtain ⟨hR1, hv⟩ := hres
    obtain ⟨L, hL, ho⟩ := hR1.obj i _ hg
    have hfr : ∀ bb ob, w.heap[bb]? = some ob → w'.heap[bb]? = some ob := fun bb ob hb => hR1.frame bb ob (by rw [hle.2.2.1]; exact hb)
    have hnew : w.heap[L.block]? = none := by
      have := hR1.apart i _ L hg rfl hL
      rw [hle.2.2.1] at this; exact this
    have hmv : Rel E aw w' := hR.move (hle.2.1 ▸ hR1.ns) (fun j x Lj hj hLj ho hx => by
      have hlt := ho.lt hx
      refine ho.heap ?_
      rw [hfr _ _ (Array.getElem?_eq_getElem hlt), Array.getElem?_eq_getElem hlt]) (fun bb ob hb => hfr bb ob (hR.frame bb ob hb)) (fun bb x hb => let q := (hR.tok.1 bb x hb).1; q.heap ((hfr bb _ (Array.getElem?_eq_getElem q.lt)).trans (Array.getElem?_eq_getElem q.lt).symm))
    refine ⟨E.put L, E.put_le L, hmv.addAt (fun j x Lj hj hx hLj e => ?_) ?_ ?_ (ho.plain hl), ?_⟩
    · obtain ⟨L', hL', hro⟩ := hR.obj j x hj
      rw [hLj] at hL'; injection hL' with hL'; subst hL'
      have := hro.lt hx
      rw [e] at this
      rw [Array.getElem?_eq_getElem this] at hnew; cases hnew
    · cases hq : E.fr L.block with
      | none => rfl
      | some ob => have := hR.frame _ _ hq; rw [hnew] at this; cases this
    · cases hq : E.tk L.block with
      | none => rfl
      | some ob => have := (hR.tok.1 _ _ hq).1.lt; rw [Array.getElem?_eq_getElem this] at hnew; cases hnew
    · cases hv with
      | ptr hL2 =>
        rw [hL] at hL2; injection hL2 with hL2; subst hL2
        exact .ptr (by rw [hR.nx]; exact E.put_new L)
  | panicked ch => exact hres.elim
  | outgrown => exact hres.elim

/-- one object alone: all else stays -/
def oneE (E : Env) (w : World) (L : Loc) : Env := ⟨[L], E.sym, fun b => bif Nat.beq b L.block then none else w.heap[b]?, fun _ => none⟩
theorem oneE_rel {E : Env} {aw : AW} {w : World} {L : Loc} {o : AO} (h : Rel E aw w) (ho : ORel (oneE E w L) L w o) : Rel (oneE E w L) (ofObjs [o] 1) w := by
  refine ⟨rfl, h.ns, fun j x hj => ?_, fun i j oi oj Li Lj hi hj _ _ _ _ _ => ?_, fun b ob hb => ?_, fun i oi Li hi _ hL => ?_, ⟨fun b o hb => (by cases hb), fun _ _ _ _ _ _ => rfl⟩⟩
  · rw [ofObjs_get] at hj
    cases j with
    | zero => simp at hj; subst hj; exact ⟨L, rfl, ho⟩
    | succ j => simp at hj
  · rw [ofObjs_get] at hi hj
    cases i with
    | zero => cases j with
      | zero => rfl
      | succ j => simp at hj
    | succ i => simp at hi
  · simp only [oneE] at hb
    cases hq : Nat.beq b L.block <;> simp [hq] at hb
    exact hb
  · rw [ofObjs_get] at hi
    cases i with
    | zero =>
      have : L = Li := by simpa [oneE] using hL
      subst this
      simp [oneE, Nat.beq_refl]
    | succ i => simp at hi
theorem oneE_frame {E E1 : Env} {aw1 : AW} {w w' : World} {L : Loc} (hle : (oneE E w L).Le E1) (h : Rel E1 aw1 w') : ∀ b, b ≠ L.block → b < w.heap.size → w'.heap[b]? = w.heap[b]? := fun b hb hlt => by
  have : (oneE E w L).fr b = some w.heap[b] := by
    simp only [oneE]
    cases hq : Nat.beq b L.block with
    | true => exact (hb (Nat.eq_of_beq_eq_true hq)).elim
    | false => simp [hlt]
  rw [h.frame b _ (by rw [hle.2.2.1]; exact this), Array.getElem?_eq_getElem hlt]
/-- the greater memory behind it: as it was, if that one object still holds -/
theorem oneE_back {E E1 : Env} {aw aw1 : AW} {w w' : World} {id : Nat} {L : Loc} {o : AO} (hR : Rel E aw w) (hg : aw.get id = some o) (hlive : o.live = true) (hL : E.loc[id]? = some L) (hle : (oneE E w L).Le E1) (h : Rel E1 aw1 w') (ho : ORel E L w' o) : Rel E aw w' := by
  have hkeep := oneE_frame hle h
  refine hR.move (hle.2.1 ▸ h.ns) (fun j x Lj hj hLj hoj hx => ?_) (fun b ob hb => ?_) (fun b ob hb => ?_)
  · by_cases e : j = id
    · subst e
      rw [hg] at hj; injection hj with hj; subst hj
      rw [hL] at hLj; injection hLj with hLj; subst hLj
      exact ho
    · exact hoj.heap (hkeep _ (fun q => e (hR.inj j id x o Lj L hj hg hx hlive hLj hL q)) (hoj.lt hx))
  · have hb' := hR.frame b ob hb
    rw [hkeep b (fun q => by rw [q, hR.apart id o L hg hlive hL] at hb; cases hb) (Array.getElem?_eq_some_iff.1 hb').1]
    exact hb'
  · have hb' := (hR.tok.1 b ob hb).1
    exact hb'.heap (hkeep b (fun q => by rw [q, hR.tok.2 id o L hg hlive hL] at hb; cases hb) hb'.lt)
/-- a new object of it is new to the greater one -/
theorem oneE_new {E E1 : Env} {aw aw1 : AW} {w w' : World} {id i : Nat} {L L1 : Loc} {o o0 o1 : AO} (hR : Rel E aw w) (hg : aw.get id = some o) (hlive : o.live = true) (hL : E.loc[id]? = some L) (hle : (oneE E w L).Le E1) (h : Rel E1 aw1 w')
    (h0 : aw1.get 0 = some o0) (l0 : o0.live = true) (h1 : aw1.get i = some o1) (l1 : o1.live = true) (hi : i ≠ 0) (hL1 : E1.loc[i]? = some L1) :
    (∀ j x Lj, aw.get j = some x → x.live = true → E.loc[j]? = some Lj → Lj.block ≠ L1.block) ∧ E.fr L1.block = none ∧ E.tk L1.block = none := by
  have hL0 : E1.loc[0]? = some L := hle.loc (i := 0) rfl
  have hne : L1.block ≠ L.block := fun e => hi (h.inj i 0 o1 o0 L1 L h1 h0 l1 l0 hL1 hL0 e)
  have hnone : w.heap[L1.block]? = none := by
    have := h.apart i o1 L1 h1 l1 hL1
    rw [hle.2.2.1] at this
    simp only [oneE] at this
    cases hq : Nat.beq L1.block L.block with
    | true => exact (hne (Nat.eq_of_beq_eq_true hq)).elim
    | false => simpa [hq] using this
  refine ⟨fun j x Lj hj hx hLj e => ?_, ?_, ?_⟩
  · obtain ⟨L', hL', hro⟩ := hR.obj j x hj
    rw [hLj] at hL'; injection hL' with hL'; subst hL'
    have := hro.lt hx
    rw [e] at this
    rw [Array.getElem?_eq_getElem this] at hnone; cases hnone
  · cases hq : E.fr L1.block with
    | none => rfl
    | some ob => have := hR.frame _ _ hq; rw [hnone] at this; cases this
  · cases hq : E.tk L1.block with
    | none => rfl
    | some ob => have := (hR.tok.1 _ _ hq).1.lt; rw [Array.getElem?_eq_getElem this] at hnone; cases hnone
end Go.Proofs.YtbilacojhmohmaaGreat.Ae

namespace Go.Proofs.YtbilacojhmohmaaGreat.Ae
open Go
set_option linter.unusedVariables false
set_option linter.unusedSimpArgs false

/-- a function that recovers first, into slot d, then d2; then 'rest' -/
structure RFn where
  n : Nat
  d : Nat
  d2 : Nat
  rest : CC
def RFn.ok (P : Program) (dr : Array Oper → Option (List CR × List CR)) (f : FuncId) (r : RFn) : Prop :=
  ∃ fn id o1 o2 c, P.funcs[f]? = some fn ∧ fn.body = some (.seq (.region id #[o1, o2] false) c) ∧ o1.op = .call { callee := .builtin .recover, args := #[], argTypes := #[] } ∧ o1.dst = some r.d ∧ o1.guard = none ∧
    o2.op = .assign (.tmp r.d) ∧ o2.dst = some r.d2 ∧ o2.guard = none ∧ fn.results = #[] ∧ fn.ntmps = r.n ∧ cCode P dr c = some r.rest ∧ (fn.name == "runtime.NumGoroutine") = false
def panicVal : Option AV → AV
  | none => .nilIface
  | some v => v
def dRec (N : Nat) (r : RFn) (m : Option AV) (args : List AV) (aw : AW) : Option (Option AV × AW) :=
  bif Nat.ble args.length r.n && (Nat.blt r.d r.n && Nat.blt r.d2 r.n) then
    (match xcode (fun _ _ _ => none) N r.rest ⟨((slots args 0 .leaf).set r.d r.d (panicVal m)).set r.d2 r.d2 (panicVal m), r.n, []⟩ aw with
    | some o => match o.x with
      | .norm => match o.act.defs with
        | [] => some (none, o.aw)
        | _ => none
      | .ret => match o.act.defs with
        | [] => some (none, o.aw)
        | _ => none
      | _ => none
    | none => none) else none

theorem noCall_ok (P : Program) : CallOK P (fun _ _ _ => none) := fun f args aw res h => by cases h

/-- what recover finds -/
theorem recover_finds {E : Env} {m : Option AV} {c₀ : Frame} {cs : List Frame} (h : ModeRel E m c₀.mode) :
    (∃ cv, recoverD (c₀ :: cs) = some (cv, { c₀ with mode := .panicking [{ v := cv, recovered := true }] } :: cs) ∧ VRel E (panicVal m) cv ∧ m.isSome = true) ∨ (recoverD (c₀ :: cs) = none ∧ m = none ∧ c₀.mode = .returning) := by
  cases m with
  | none =>
    right
    cases hm : c₀.mode <;> rw [hm] at h <;> simp only [ModeRel] at h
    exact ⟨by simp [recoverD, hm], rfl, rfl⟩
  | some v =>
    left
    cases hm : c₀.mode <;> rw [hm] at h <;> simp only [ModeRel] at h
    obtain ⟨cv, rfl, hv⟩ := h
    exact ⟨cv, by simp [recoverD, hm], hv, rfl⟩

theorem dRec_sound {P : Program} {dr : Array Oper → Option (List CR × List CR)} (hdr : ∀ call, CallOK P call → DrawOK P call dr) {f : FuncId} {r : RFn} (hr : r.ok P dr f) {N : Nat} {m m' : Option AV} {args : List AV} {aw aw' : AW}
    (h : dRec N r m args aw = some (m', aw')) : callable P f = true ∧ ∀ E w cargs u, LRel E args cargs → Rel E aw w → ModeRel E m u →
      CallsD P f cargs.toArray u w fun e u' w' => ∃ E', E.Le E' ∧ Rel E' aw' w' ∧ (∃ v, e = .returned v) ∧ ModeRel E' m' (settle u') := by
  obtain ⟨fn, id, o1, o2, c, hfn, hbody, h1o, h1d, h1g, h2o, h2d, h2g, hres, hnt, hc, hname⟩ := hr
  refine ⟨by simp [callable, hfn, hbody, hname], fun E w cargs u hargs hR hm => ?_⟩
  unfold dRec at h
  cases hb : (Nat.ble args.length r.n && (Nat.blt r.d r.n && Nat.blt r.d2 r.n)) <;> simp only [hb, cond_true, cond_false, reduceCtorEq] at h
  simp only [Bool.and_eq_true] at hb
  obtain ⟨b1, b2, b3⟩ := hb
  have b1 := Nat.le_of_ble_eq_true b1
  have b2 : r.d < r.n := Nat.le_of_ble_eq_true b2
  have b3 : r.d2 < r.n := Nat.le_of_ble_eq_true b3
  split at h <;> (try (cases h; done))
  rename_i o ho
  refine callsD_of_wpS hfn hbody fun c₀ cs hu => ?_
  have hm : ModeRel E m c₀.mode := hu ▸ hm
  apply wpS_seq
  apply wpS_region
  have hinit := init_rel hargs b1
  rw [← hnt] at hinit
  have go : ∀ (cv : Value) (cs' : List Frame), VRel E (panicVal m) cv → (∃ u', cs' = { c₀ with mode := u' } :: cs ∧ settle u' = .returning) →
      wpOpsS P #[o1, o2] (Exit.thenS (Code.wpS P c (bodyPostS P fn c₀ cs fun e u' w' => ∃ E', E.Le E' ∧ Rel E' aw' w' ∧ (∃ v, e = .returned v) ∧ ModeRel E' m' (settle u'))) (bodyPostS P fn c₀ cs fun e u' w' => ∃ E', E.Le E' ∧ Rel E' aw' w' ∧ (∃ v, e = .returned v) ∧ ModeRel E' m' (settle u'))) [1]
        (Act.put { tmps := cargs.toArray ++ Array.replicate (fn.ntmps - cargs.toArray.size) undef, defers := [] } o1.dst cv) cs' w := by
    intro cv cs' hv ⟨u', hcs, hset⟩
    have hA1 := put_sound (a' := ⟨(slots args 0 .leaf).set r.d r.d (panicVal m), fn.ntmps, []⟩) (d := some r.d) (v := panicVal m) (x := cv)
      (by simp only [AAct.put]; rw [show Nat.blt r.d fn.ntmps = true from Nat.ble_eq_true_of_le (show r.d + 1 ≤ fn.ntmps by rw [hnt]; exact b2)]; rfl) hinit hv
    rw [← h1d] at hA1
    have hA2 := put_sound (a' := ⟨((slots args 0 .leaf).set r.d r.d (panicVal m)).set r.d2 r.d2 (panicVal m), fn.ntmps, []⟩) (d := some r.d2) (v := panicVal m) (x := cv)
      (by simp only [AAct.put]; rw [show Nat.blt r.d2 fn.ntmps = true from Nat.ble_eq_true_of_le (show r.d2 + 1 ≤ fn.ntmps by rw [hnt]; exact b3)]; rfl) hA1 hv
    rw [← h2d] at hA2
    have hg : (Act.put { tmps := cargs.toArray ++ Array.replicate (fn.ntmps - cargs.toArray.size) undef, defers := [] } o1.dst cv).eval (.tmp r.d) = cv := by
      obtain ⟨x, hx, _⟩ := hA1.tmps r.d (panicVal m) (Tr.get_set_same _ _)
      have : (Act.put { tmps := cargs.toArray ++ Array.replicate (fn.ntmps - cargs.toArray.size) undef, defers := [] } o1.dst cv).tmps[r.d]? = some cv := by
        rw [h1d]; simp only [Act.put]
        refine Array.getElem?_setIfInBounds_self_of_lt ?_
        rw [hinit.size]; simp only; rw [hnt]; exact b2
      show (Act.put _ _ _).tmps.getD r.d undef = cv
      rw [Array.getD_eq_getD_getElem?, this]; rfl
    simp only [wpOpsS]
    rw [show (#[o1, o2] : Array Oper)[1]? = some o2 from rfl]
    simp only
    rw [if_pos (by simp [Region.wanted, h2g])]
    have hrun : (execOp (Act.put { tmps := cargs.toArray ++ Array.replicate (fn.ntmps - cargs.toArray.size) undef, defers := [] } o1.dst cv).eval o2).run P w = .ok (.value cv) w := by
      simp only [execOp, h2o, hg]
      rfl
    rw [hrun]
    simp only [Oper.upon, Exit.thenS]
    have ho := ho
    rw [← hnt] at ho
    have hw := (code_sound (noCall_ok P) (hdr _ (noCall_ok P)) N hc ho hA2 hR).1
    refine wpS_of_wp (wp_mono hw fun e a w' hp => ?_)
    obtain ⟨E', hle, hR', hA', hX⟩ := hp
    have fin : o.act.defs = [] → m' = none → aw' = o.aw → a.defers = [] ∧ ∃ u', cs' = { c₀ with mode := u' } :: cs ∧ ∃ v, (results fn a.tmps).run P w' = .ok v w' ∧ ∃ E', E.Le E' ∧ Rel E' aw' w' ∧ (∃ v', Ending.returned v = .returned v') ∧ ModeRel E' m' (settle u') := by
      intro hd hm' haw
      refine ⟨?_, u', hcs, .tuple #[], ?_, E', hle, haw ▸ hR', ⟨_, rfl⟩, ?_⟩
      · have := hA'.defs
        rw [hd] at this
        generalize a.defers = df at this
        cases this; rfl
      · simp [results, hres]
      · rw [hset, hm']; trivial
    split at h
    · rename_i hx
      rw [hx] at hX
      cases e <;> simp only [XRel] at hX
      split at h <;> (try (cases h; done))
      rename_i hd
      simp only [Option.some.injEq, Prod.mk.injEq] at h
      exact fin hd h.1.symm h.2.symm
    · rename_i hx
      rw [hx] at hX
      cases e <;> simp only [XRel] at hX
      split at h <;> (try (cases h; done))
      rename_i hd
      simp only [Option.some.injEq, Prod.mk.injEq] at h
      exact fin hd h.1.symm h.2.symm
    · cases h
  rw [show List.range (#[o1, o2] : Array Oper).size = [0, 1] from rfl]
  unfold wpOpsS
  rw [show (#[o1, o2] : Array Oper)[0]? = some o1 from rfl]
  simp only
  rw [if_pos (by simp [Region.wanted, h1g])]
  have hrun : ∀ ca : Act, (execOp ca.eval o1).run P w = .ok .recover w := by
    intro ca
    simp only [execOp, h1o]
    rfl
  rw [hrun]
  simp only
  rcases recover_finds (cs := cs) hm with ⟨cv, e1, e2, e3⟩ | ⟨e1, e2, e3⟩
  · rw [e1]
    simp only
    exact go cv _ e2 ⟨.panicking [{ v := cv, recovered := true }], rfl, rfl⟩
  · rw [e1]
    simp only
    exact go .nilIface (c₀ :: cs) (by rw [e2]; exact .nilIface) ⟨.returning, by rw [← e3], rfl⟩
end Go.Proofs.YtbilacojhmohmaaGreat.Ae

namespace Go.Proofs.YtbilacojhmohmaaGreat.Ae
open Go
set_option linter.unusedVariables false
set_option linter.unusedSimpArgs false
section
variable {P : Program} {dr : Array Oper → Option (List CR × List CR)} {K : Env → Prop} {call : Call} {cc x y b : CC} {Q : Exit → Act → World → Prop} {a a1 : AAct} {aw aw1 : AW}
/-- from this state the code does what it should -/
def GoodK (P : Program) (dr : Array Oper → Option (List CR × List CR)) (K : Env → Prop) (cc : CC) (Q : Post') (a : AAct) (aw : AW) : Prop :=
  ∀ c, cCode P dr c = some cc → ∀ E ca w, K E → ActRel E a ca → Rel E aw w → c.wp P Q ca w
def GoodLK (P : Program) (dr : Array Oper → Option (List CR × List CR)) (K : Env → Prop) (b : CC) (Q : Post') (a : AAct) (aw : AW) : Prop :=
  ∀ c, cCode P dr c = some b → ∀ E ca w, K E → ActRel E a ca → Rel E aw w → LoopAt P c Q ca w
theorem GoodK.run (hK : ∀ E E', K E → E.Le E' → K E') (hcall : CallOK P call) (hdr : DrawOK P call dr) {n : Nat} {o : Out} (h : xcode call n cc a aw = some o)
    (hk : ∀ E e ca w, K E → Rel E o.aw w → ActRel E o.act ca → XRel E o.x e → Q e ca w) : GoodK P dr K cc Q a aw := by
  intro c hc E ca w hE hA hR
  refine wp_mono (code_sound hcall hdr n hc h hA hR).1 fun e a' w' ⟨E', hle, h1, h2, h3⟩ => ?_
  exact hk E' e a' w' (hK E E' hE hle) h1 h2 h3
theorem GoodK.seq (hK : ∀ E E', K E → E.Le E' → K E') (hcall : CallOK P call) (hdr : DrawOK P call dr) {n : Nat} (h : xcode call n x a aw = some ⟨.norm, a1, aw1⟩) (hy : GoodK P dr K y Q a1 aw1) : GoodK P dr K (.seq x y) Q a aw := by
  intro c hc E ca w hE hA hR
  obtain ⟨c1, c2, rfl, h1, h2⟩ := inv_seq hc
  refine wp_seq (wp_mono (code_sound hcall hdr n h1 h hA hR).1 fun e a' w' ⟨E', hle, g1, g2, g3⟩ => ?_)
  cases e <;> simp only [XRel] at g3
  exact hy c2 h2 E' a' w' (hK E E' hE hle) g2 g1
theorem GoodK.into (h : GoodK P dr K x (thenC P dr y Q) a aw) : GoodK P dr K (.seq x y) Q a aw := by
  intro c hc E ca w hE hA hR
  obtain ⟨c1, c2, rfl, h1, h2⟩ := inv_seq hc
  refine wp_seq (wp_mono (h c1 h1 E ca w hE hA hR) fun e a' w' hq => ?_)
  cases e <;> simp only [thenC, Exit.then] at hq ⊢ <;> first | exact hq c2 h2 | exact hq
theorem GoodK.block {id : Nat} (h : GoodK P dr K b (Exit.inBlock id Q) a aw) : GoodK P dr K (.block id b) Q a aw := by
  intro c hc E ca w hE hA hR
  obtain ⟨c1, rfl, h1⟩ := inv_block hc
  exact wp_block (h c1 h1 E ca w hE hA hR)
theorem GoodK.loop (h : GoodLK P dr K b Q a aw) : GoodK P dr K (.loop b) Q a aw := by
  intro c hc E ca w hE hA hR
  obtain ⟨c1, rfl, h1⟩ := inv_loop hc
  exact (h c1 h1 E ca w hE hA hR).wp
theorem GoodLK.of (h : GoodK P dr K b (loopQ P dr b Q) a aw) : GoodLK P dr K b Q a aw := by
  intro c hc E ca w hE hA hR
  refine LoopAt.round (wp_mono (h c hc E ca w hE hA hR) fun e a' w' hq => ?_)
  cases e <;> simp only [loopQ, Exit.then] at hq ⊢ <;> first | exact hq c hc | exact hq
theorem GoodLK.round (hK : ∀ E E', K E → E.Le E' → K E') (hcall : CallOK P call) (hdr : DrawOK P call dr) {n : Nat} (h : xcode call n b a aw = some ⟨.norm, a1, aw1⟩) (hg : GoodLK P dr K b Q a1 aw1) : GoodLK P dr K b Q a aw := by
  intro c hc E ca w hE hA hR
  refine LoopAt.round (wp_mono (code_sound hcall hdr n hc h hA hR).1 fun e a' w' ⟨E', hle, g1, g2, g3⟩ => ?_)
  cases e <;> simp only [XRel] at g3
  exact hg c hc E' a' w' (hK E E' hE hle) g2 g1
theorem GoodLK.exit' (hK : ∀ E E', K E → E.Le E' → K E') (hcall : CallOK P call) (hdr : DrawOK P call dr) {n id : Nat} (h : xcode call n b a aw = some ⟨.exit id, a1, aw1⟩)
    (hk : ∀ E ca w, K E → ActRel E a1 ca → Rel E aw1 w → Q .normal ca w) : GoodLK P dr K b (Exit.inBlock id Q) a aw := by
  intro c hc E ca w hE hA hR
  refine LoopAt.round (wp_mono (code_sound hcall hdr n hc h hA hR).1 fun e a' w' ⟨E', hle, g1, g2, g3⟩ => ?_)
  cases e <;> simp only [XRel] at g3
  subst g3
  simp only [Exit.then, Exit.inBlock, if_true]
  exact hk E' a' w' (hK E E' hE hle) g2 g1
end
end Go.Proofs.YtbilacojhmohmaaGreat.Ae
