/- A state of the evaluator, told anew: other numbers for the objects, what is of no use forgotten. No condition. -/
import Derived.Test.YtbilacojhmohmaaGreatAeKern
namespace Go.Proofs.YtbilacojhmohmaaGreat.Ae
open Go
set_option linter.unusedVariables false
set_option linter.unusedSimpArgs false

/-! ### memory out of a list -/
noncomputable def trOf {α : Type} (l : List α) : Nat → Tr α → Tr α := List.rec (motive := fun _ => Nat → Tr α → Tr α) (fun _ t => t) (fun x _ ih i t => ih (Nat.succ i) (trSet t i x)) l
theorem trOf_get {α : Type} : ∀ (l : List α) (i : Nat) (t : Tr α) (j : Nat), (trOf l i t).get j j = if i ≤ j ∧ j < i + l.length then l[j - i]? else t.get j j
  | [], i, t, j => by
    rw [if_neg (by simp)]
    rfl
  | x :: l, i, t, j => by
    show (trOf l (i + 1) (trSet t i x)).get j j = _
    rw [trOf_get l, trSet_eq]
    by_cases h1 : j = i
    · subst h1
      rw [if_neg (by omega), if_pos (by simp), Tr.get_set_same]
      simp
    · by_cases h2 : i + 1 ≤ j ∧ j < i + 1 + l.length
      · rw [if_pos h2, if_pos (by simp; omega), show j - i = (j - (i + 1)) + 1 by omega]
        simp
      · rw [if_neg h2, if_neg (by simp; omega), Tr.get_set_other h1]
noncomputable def ofObjs (l : List AO) (n : Nat) : AW := ⟨trOf l (nat_lit 0) .leaf, n, nat_lit 0⟩
theorem ofObjs_get (l : List AO) (n j : Nat) : (ofObjs l n).get j = l[j]? := by
  show (trOf l 0 .leaf).get j j = _
  rw [trOf_get]
  by_cases h : j < l.length
  · rw [if_pos (by omega)]; simp
  · rw [if_neg (by omega)]; simp [Tr.get]; omega
noncomputable def tmOf (l : List (Nat × AV)) : Tr AV → Tr AV := List.rec (motive := fun _ => Tr AV → Tr AV) (fun t => t) (fun x _ ih t => Prod.rec (motive := fun _ => Tr AV) (fun i v => ih (trSet t i v)) x) l
theorem tmOf_get : ∀ (l : List (Nat × AV)) (t : Tr AV) (j : Nat) (v : AV), (tmOf l t).get j j = some v → (j, v) ∈ l ∨ t.get j j = some v
  | [], t, j, v, h => .inr h
  | (i, x) :: l, t, j, v, h => by
    have h : (tmOf l (trSet t i x)).get j j = some v := h
    rcases tmOf_get l _ j v h with h | h
    · exact .inl (List.mem_cons_of_mem _ h)
    · rw [trSet_eq] at h
      rcases Tr.get_set h with ⟨rfl, rfl⟩ | ⟨_, h⟩
      · exact .inl (by simp)
      · exact .inr h

noncomputable def lenA (l : List AO) : Nat := List.rec (motive := fun _ => Nat) (nat_lit 0) (fun _ _ ih => Nat.succ ih) l
theorem lenA_eq (l : List AO) : lenA l = l.length := by induction l with | nil => rfl | cons x l ih => exact congrArg Nat.succ ih

/-! ### what stands for what -/
def SRel (σ : Tr Nat) (E E' : Env) : Prop := E'.sym = E.sym ∧ ∀ j i, σ.get j j = some i → ∀ L, E.loc[i]? = some L → E'.loc[j]? = some L
def Bd (N : Nat) (σ : Tr Nat) : Prop := ∀ j i, σ.get j j = some i → j < N
def Ext (N : Nat) (σ σ' : Tr Nat) : Prop := (∀ j i, σ.get j j = some i → σ'.get j j = some i) ∧ (Bd N σ → Bd N σ')
theorem Ext.refl {N : Nat} (σ : Tr Nat) : Ext N σ σ := ⟨fun _ _ h => h, id⟩
theorem Ext.trans {N : Nat} {a b c : Tr Nat} (h : Ext N a b) (h' : Ext N b c) : Ext N a c := ⟨fun j i q => h'.1 j i (h.1 j i q), fun q => h'.2 (h.2 q)⟩
theorem SRel.mono {N : Nat} {σ σ' : Tr Nat} {E E' : Env} (h : Ext N σ σ') (hs : SRel σ' E E') : SRel σ E E' := ⟨hs.1, fun j i q => hs.2 j i (h.1 j i q)⟩
def WkV (σ : Tr Nat) (o n : AV) : Prop := ∀ E E' v, SRel σ E E' → VRel E o v → VRel E' n v
theorem WkV.mono {N : Nat} {σ σ' : Tr Nat} (h : Ext N σ σ') {o n : AV} (hw : WkV σ o n) : WkV σ' o n := fun E E' v hs => hw E E' v (hs.mono h)
def WkL (σ : Tr Nat) (l m : List AV) : Prop := ∀ E E' vs, SRel σ E E' → LRel E l vs → LRel E' m vs
def WkO (σ : Tr Nat) (o n : AO) : Prop := (n.live = true → o.live = true) ∧ ∀ E E' L w, SRel σ E E' → ORel E L w o → ORel E' L w n
theorem WkO.mono {N : Nat} {σ σ' : Tr Nat} (h : Ext N σ σ') {o n : AO} (hw : WkO σ o n) : WkO σ' o n := ⟨hw.1, fun E E' L w hs => hw.2 E E' L w (hs.mono h)⟩

variable {N : Nat}
/-- number i stands for number j from here on -/
noncomputable def mId (N : Nat) (σ : Tr Nat) (i j : Nat) : Option (Tr Nat) :=
  Option.rec (motive := fun _ => Option (Tr Nat)) (bb2 (Nat.ble (Nat.succ j) N) (some (trSet σ j i)) none) (fun k => bb2 (Nat.beq k i) (some σ) none) (trGet σ j)
theorem mId_ok {σ σ' : Tr Nat} {i j : Nat} (h : mId N σ i j = some σ') : Ext N σ σ' ∧ σ'.get j j = some i := by
  unfold mId at h
  rw [trGet_eq] at h
  cases hg : σ.get j j with
  | none =>
    rw [hg] at h
    simp only [bb2_eq] at h
    cases hk : Nat.ble (Nat.succ j) N <;> simp only [hk, cond_true, cond_false, reduceCtorEq, Option.some.injEq] at h
    subst h
    refine ⟨⟨fun a b q => ?_, fun hb a b q => ?_⟩, by rw [trSet_eq, Tr.get_set_same]⟩
    · rw [trSet_eq]
      by_cases e : a = j
      · subst e; rw [hg] at q; cases q
      · rw [Tr.get_set_other e]; exact q
    · rw [trSet_eq] at q
      rcases Tr.get_set q with ⟨rfl, _⟩ | ⟨_, q⟩
      · exact Nat.le_of_ble_eq_true hk
      · exact hb a b q
  | some k =>
    rw [hg] at h
    simp only [bb2_eq] at h
    cases hk : Nat.beq k i <;> simp only [hk, cond_true, cond_false, reduceCtorEq, Option.some.injEq] at h
    subst h
    rw [Nat.eq_of_beq_eq_true hk] at hg
    exact ⟨.refl _, hg⟩

noncomputable def mV (N : Nat) (σ : Tr Nat) (o n : AV) : Option (Tr Nat) :=
  match n, o with
  | .undef, _ => some σ
  | .int k b, .int k' a => bb2 (Nat.beq (kcF k) (kcF k')) (bb2 (ieqF a b) (some σ) none) none
  | .sym k j, .sym k' i => bb2 (Nat.beq (kcF k) (kcF k')) (bb2 (Nat.beq i j) (some σ) none) none
  | .bool true, .bool true => some σ
  | .bool false, .bool false => some σ
  | .ptr none, .ptr none => some σ
  | .ptr (some (j, q)), .ptr (some (i, p)) => bb2 (Nat.beq p q) (mId N σ i j) none
  | .slc none 0 (.known 0), .slc none 0 (.known 0) => some σ
  | .slc (some (j, q)) n c, .slc (some (i, p)) m d => bb2 (Nat.beq p q) (bb2 (Nat.beq m n) (bb2 (sameCap d c) (mId N σ i j) none) none) none
  | .map none, .map none => some σ
  | .map (some j), .map (some i) => mId N σ i j
  | .nilFunc, .nilFunc => some σ
  | .nilIface, .nilIface => some σ
  | _, _ => none
theorem mV_ok {σ σ' : Tr Nat} {o n : AV} (h : mV N σ o n = some σ') : Ext N σ σ' ∧ WkV σ' o n := by
  unfold mV at h
  split at h <;> (try (cases h; done))
  · simp only [Option.some.injEq] at h; subst h; exact ⟨.refl _, fun _ _ _ _ _ => .undef _⟩
  · rename_i k b k' a
    simp only [bb2_eq, kcF_eq, ieqF_eq] at h
    cases hk : Nat.beq (kc k) (kc k') <;> simp only [hk, cond_true, cond_false, reduceCtorEq] at h
    cases hi : ieq a b <;> simp only [hi, cond_true, cond_false, reduceCtorEq, Option.some.injEq] at h
    subst h
    rw [ieq_eq] at hi
    have := eq_of_beq hi; subst this
    have := kc_inj hk; subst this
    exact ⟨.refl _, fun _ _ v _ hv => by cases hv; exact .int _ _⟩
  · rename_i k j k' i
    simp only [bb2_eq, kcF_eq] at h
    cases hk : Nat.beq (kc k) (kc k') <;> simp only [hk, cond_true, cond_false, reduceCtorEq] at h
    cases hi : Nat.beq i j <;> simp only [hi, cond_true, cond_false, reduceCtorEq, Option.some.injEq] at h
    subst h
    have := Nat.eq_of_beq_eq_true hi; subst this
    have := kc_inj hk; subst this
    exact ⟨.refl _, fun _ _ v hs hv => by
      cases hv with
      | sym _ h1 h2 => exact .sym _ (by rw [hs.1]; exact h1) h2⟩
  · simp only [Option.some.injEq] at h; subst h; exact ⟨.refl _, fun _ _ _ _ hv => by cases hv; exact .bool _⟩
  · simp only [Option.some.injEq] at h; subst h; exact ⟨.refl _, fun _ _ _ _ hv => by cases hv; exact .bool _⟩
  · simp only [Option.some.injEq] at h; subst h; exact ⟨.refl _, fun _ _ _ _ hv => by cases hv; exact .nilPtr⟩
  · rename_i j q i p
    simp only [bb2_eq] at h
    cases hp : Nat.beq p q <;> simp only [hp, cond_true, cond_false, reduceCtorEq] at h
    have := Nat.eq_of_beq_eq_true hp; subst this
    obtain ⟨h1, h2⟩ := mId_ok h
    exact ⟨h1, fun _ _ _ hs hv => by
      cases hv with
      | ptr hL => exact .ptr (hs.2 _ _ h2 _ hL)⟩
  · simp only [Option.some.injEq] at h; subst h; exact ⟨.refl _, fun _ _ _ _ hv => by cases hv; exact .nilSlc⟩
  · rename_i j q n c i p m d
    simp only [bb2_eq] at h
    cases hp : Nat.beq p q <;> simp only [hp, cond_true, cond_false, reduceCtorEq] at h
    cases hm : Nat.beq m n <;> simp only [hm, cond_true, cond_false, reduceCtorEq] at h
    cases hc : sameCap d c <;> simp only [hc, cond_true, cond_false, reduceCtorEq] at h
    have := Nat.eq_of_beq_eq_true hp; subst this
    have := Nat.eq_of_beq_eq_true hm; subst this
    have := sameCap_eq hc; subst this
    obtain ⟨h1, h2⟩ := mId_ok h
    exact ⟨h1, fun _ _ _ hs hv => by
      cases hv with
      | slc hL ha => exact .slc (hs.2 _ _ h2 _ hL) ha
      | slcUp hL a b c => exact .slcUp (hs.2 _ _ h2 _ hL) a b c⟩
  · simp only [Option.some.injEq] at h; subst h; exact ⟨.refl _, fun _ _ _ _ hv => by cases hv; exact .nilMap⟩
  · obtain ⟨h1, h2⟩ := mId_ok h
    exact ⟨h1, fun _ _ _ hs hv => by
      cases hv with
      | map hL hb => exact .map (hs.2 _ _ h2 _ hL) hb⟩
  · simp only [Option.some.injEq] at h; subst h; exact ⟨.refl _, fun _ _ _ _ hv => by cases hv; exact .nilFunc⟩
  · simp only [Option.some.injEq] at h; subst h; exact ⟨.refl _, fun _ _ _ _ hv => by cases hv; exact .nilIface⟩

noncomputable def mL (N : Nat) (l : List AV) : List AV → Tr Nat → Option (Tr Nat) :=
  List.rec (motive := fun _ => List AV → Tr Nat → Option (Tr Nat)) (fun m σ => List.rec (motive := fun _ => Option (Tr Nat)) (some σ) (fun _ _ _ => none) m)
    (fun o _ ih m σ => List.rec (motive := fun _ => Option (Tr Nat)) none (fun n m _ => Option.rec (motive := fun _ => Option (Tr Nat)) none (fun σ => ih m σ) (mV N σ o n)) m) l
theorem mL_ok : ∀ {l m : List AV} {σ σ' : Tr Nat}, mL N l m σ = some σ' → Ext N σ σ' ∧ l.length = m.length ∧ ∀ (i : Nat) (n : AV), m[i]? = some n → ∃ o, l[i]? = some o ∧ WkV σ' o n
  | [], [], σ, σ', h => by
    have h : some σ = some σ' := h
    injection h with h; subst h
    exact ⟨.refl _, rfl, fun i n hi => by simp at hi⟩
  | [], _ :: _, σ, σ', h => by
    have h : (none : Option (Tr Nat)) = some σ' := h
    cases h
  | _ :: _, [], σ, σ', h => by
    have h : (none : Option (Tr Nat)) = some σ' := h
    cases h
  | o :: l, n :: m, σ, σ', h => by
    have h : Option.rec (motive := fun _ => Option (Tr Nat)) none (fun σ => mL N l m σ) (mV N σ o n) = some σ' := h
    cases hv : mV N σ o n with
    | none => rw [hv] at h; cases h
    | some σ1 =>
      rw [hv] at h
      have h : mL N l m σ1 = some σ' := h
      obtain ⟨a1, a2⟩ := mV_ok hv
      obtain ⟨b1, b2, b3⟩ := mL_ok h
      refine ⟨a1.trans b1, by simp [b2], fun i x hi => ?_⟩
      cases i with
      | zero => simp at hi; subst hi; exact ⟨o, by simp, a2.mono b1⟩
      | succ i => simp at hi; simpa using b3 i x hi
/-- a map's value: a struct, too -/
noncomputable def mV2 (N : Nat) (σ : Tr Nat) (o n : AV) : Option (Tr Nat) :=
  match n with
  | .agg m => match o with
    | .agg l => mL N l m σ
    | _ => none
  | n => mV N σ o n
theorem mV2_ok {σ σ' : Tr Nat} {o n : AV} (h : mV2 N σ o n = some σ') : Ext N σ σ' ∧ WkV σ' o n := by
  unfold mV2 at h
  split at h
  · rename_i m
    split at h <;> (try (cases h; done))
    rename_i l
    obtain ⟨h1, h2, h3⟩ := mL_ok h
    refine ⟨h1, fun E E' v hs hv => ?_⟩
    cases hv with
    | agg hl =>
      refine .agg (LRel.of_get (by rw [← h2]; exact hl.length) fun i a hi => ?_)
      obtain ⟨x, hx, hw⟩ := h3 i a hi
      obtain ⟨u, hu, hr⟩ := hl.get hx
      exact ⟨u, hu, hw _ _ _ hs hr⟩
  · exact mV_ok h
noncomputable def mE (N : Nat) (l : List AEnt) : List AEnt → Tr Nat → Option (Tr Nat) :=
  List.rec (motive := fun _ => List AEnt → Tr Nat → Option (Tr Nat)) (fun m σ => List.rec (motive := fun _ => Option (Tr Nat)) (some σ) (fun _ _ _ => none) m)
    (fun o _ ih m σ => List.rec (motive := fun _ => Option (Tr Nat)) none (fun n m _ => bb2 (Nat.beq o.born n.born) (Option.rec (motive := fun _ => Option (Tr Nat)) none (fun σ => Option.rec (motive := fun _ => Option (Tr Nat)) none (fun σ => ih m σ) (mV2 N σ o.val n.val)) (mV N σ o.key n.key)) none) m) l
theorem mE_ok : ∀ {l m : List AEnt} {σ σ' : Tr Nat}, mE N l m σ = some σ' → Ext N σ σ' ∧ ∀ E E' vs, SRel σ' E E' → ERel E l vs → ERel E' m vs
  | [], [], σ, σ', h => by
    have h : some σ = some σ' := h
    injection h with h; subst h
    exact ⟨.refl _, fun E E' vs _ hr => by cases hr; exact .nil⟩
  | [], _ :: _, σ, σ', h => by
    have h : (none : Option (Tr Nat)) = some σ' := h
    cases h
  | _ :: _, [], σ, σ', h => by
    have h : (none : Option (Tr Nat)) = some σ' := h
    cases h
  | o :: l, n :: m, σ, σ', h => by
    have h : bb2 (Nat.beq o.born n.born) (Option.rec (motive := fun _ => Option (Tr Nat)) none (fun σ => Option.rec (motive := fun _ => Option (Tr Nat)) none (fun σ => mE N l m σ) (mV2 N σ o.val n.val)) (mV N σ o.key n.key)) none = some σ' := h
    rw [bb2_eq] at h
    cases hb : Nat.beq o.born n.born <;> simp only [hb, cond_true, cond_false, reduceCtorEq] at h
    cases hk : mV N σ o.key n.key with
    | none => rw [hk] at h; cases h
    | some σ1 =>
      rw [hk] at h
      cases hv : mV2 N σ1 o.val n.val with
      | none => simp only [hv] at h; cases h
      | some σ2 =>
        simp only [hv] at h
        obtain ⟨a1, a2⟩ := mV_ok hk
        obtain ⟨b1, b2⟩ := mV2_ok hv
        obtain ⟨c1, c2⟩ := mE_ok h
        refine ⟨(a1.trans b1).trans c1, fun E E' vs hs hr => ?_⟩
        cases hr with
        | cons h1 h2 h3 t => exact .cons ((a2.mono (b1.trans c1)) _ _ _ hs h1) ((b2.mono c1) _ _ _ hs h2) (by rw [← h3]; exact (Nat.eq_of_beq_eq_true hb).symm) (c2 _ _ _ hs t)

noncomputable def mO (N : Nat) (σ : Tr Nat) (o n : AO) : Option (Tr Nat) :=
  match n, o with
  | .dead, _ => some σ
  | .cells m e' b', .cells l e b => bb2 (Nat.beq e e') (bb2 (bb2 b b' true) (mL N l m σ) none) none
  | .map fs c', .map es c => bb2 (Nat.beq c c') (mE N es fs σ) none
  | _, _ => none
theorem mO_ok {σ σ' : Tr Nat} {o n : AO} (h : mO N σ o n = some σ') : Ext N σ σ' ∧ WkO σ' o n := by
  unfold mO at h
  split at h <;> (try (cases h; done))
  · simp only [Option.some.injEq] at h; subst h
    exact ⟨.refl _, fun h => by simp [AO.live] at h, fun _ _ _ _ _ _ => trivial⟩
  · rename_i m e' b' l e b
    simp only [bb2_eq] at h
    cases he : Nat.beq e e' <;> simp only [he, cond_true, cond_false, reduceCtorEq] at h
    cases hb : (bif b then b' else true) <;> simp only [hb, cond_true, cond_false, reduceCtorEq] at h
    have := Nat.eq_of_beq_eq_true he; subst this
    obtain ⟨h1, h2, h3⟩ := mL_ok h
    refine ⟨h1, fun _ => rfl, fun E E' L w hs ho => ?_⟩
    obtain ⟨c, fz, g1, g2, g3, g4, g5⟩ := ho
    refine ⟨c, fz, g1, g2, by rw [← h2]; exact g3, fun q => ?_, fun i a hi => ?_⟩
    · subst q
      cases b with
      | true => simp at hb
      | false => rw [← h2]; exact g4 rfl
    · obtain ⟨x, hx, hw⟩ := h3 i a hi
      obtain ⟨v, hv, hr⟩ := g5 i x hx
      exact ⟨v, hv, hw _ _ _ hs hr⟩
  · rename_i fs c' es c
    simp only [bb2_eq] at h
    cases he : Nat.beq c c' <;> simp only [he, cond_true, cond_false, reduceCtorEq] at h
    have := Nat.eq_of_beq_eq_true he; subst this
    obtain ⟨h1, h2⟩ := mE_ok h
    refine ⟨h1, fun _ => rfl, fun E E' L w hs ho => ?_⟩
    obtain ⟨g1, ces, g2, g3⟩ := ho
    exact ⟨g1, ces, g2, h2 _ _ _ hs g3⟩

/-- the objects, one by one -/
noncomputable def mAll (N : Nat) (aw : AW) (l : List AO) : Nat → Tr Nat → Option (Tr Nat) :=
  List.rec (motive := fun _ => Nat → Tr Nat → Option (Tr Nat)) (fun _ σ => some σ)
    (fun n _ ih j σ => Option.rec (motive := fun _ => Option (Tr Nat)) none (fun i => Option.rec (motive := fun _ => Option (Tr Nat)) none (fun o => Option.rec (motive := fun _ => Option (Tr Nat)) none (fun σ => ih (Nat.succ j) σ) (mO N σ o n)) (awGet aw i)) (trGet σ j)) l
theorem mAll_ok {aw : AW} : ∀ {l : List AO} {j : Nat} {σ σ' : Tr Nat}, mAll N aw l j σ = some σ' → Ext N σ σ' ∧ ∀ (k : Nat) (n : AO), l[k]? = some n → ∃ i o, σ'.get (j + k) (j + k) = some i ∧ aw.get i = some o ∧ WkO σ' o n
  | [], j, σ, σ', h => by
    have h : some σ = some σ' := h
    injection h with h; subst h
    exact ⟨.refl _, fun k n hk => by simp at hk⟩
  | n :: l, j, σ, σ', h => by
    have h : Option.rec (motive := fun _ => Option (Tr Nat)) none (fun i => Option.rec (motive := fun _ => Option (Tr Nat)) none (fun o => Option.rec (motive := fun _ => Option (Tr Nat)) none (fun σ => mAll N aw l (j + 1) σ) (mO N σ o n)) (awGet aw i)) (trGet σ j) = some σ' := h
    rw [trGet_eq] at h
    cases hj : σ.get j j with
    | none => rw [hj] at h; cases h
    | some i =>
      simp only [hj] at h
      rw [awGet_eq] at h
      cases ho : aw.get i with
      | none => simp only [ho] at h; cases h
      | some o =>
        simp only [ho] at h
        cases hm : mO N σ o n with
        | none => simp only [hm] at h; cases h
        | some σ1 =>
          simp only [hm] at h
          obtain ⟨a1, a2⟩ := mO_ok hm
          obtain ⟨b1, b2⟩ := mAll_ok h
          refine ⟨a1.trans b1, fun k x hk => ?_⟩
          cases k with
          | zero => simp at hk; subst hk; exact ⟨i, o, (a1.trans b1).1 j i hj, ho, a2.mono b1⟩
          | succ k =>
            simp at hk
            obtain ⟨i', o', c1, c2, c3⟩ := b2 k x hk
            exact ⟨i', o', by rw [show j + (k + 1) = j + 1 + k by omega]; exact c1, c2, c3⟩
noncomputable def mTm (N : Nat) (t : Tr AV) (l : List (Nat × AV)) : Tr Nat → Option (Tr Nat) :=
  List.rec (motive := fun _ => Tr Nat → Option (Tr Nat)) (fun σ => some σ)
    (fun x _ ih σ => Prod.rec (motive := fun _ => Option (Tr Nat)) (fun i n => Option.rec (motive := fun _ => Option (Tr Nat)) none (fun o => Option.rec (motive := fun _ => Option (Tr Nat)) none (fun σ => ih σ) (mV N σ o n)) (trGet t i)) x) l
theorem mTm_ok {t : Tr AV} : ∀ {l : List (Nat × AV)} {σ σ' : Tr Nat}, mTm N t l σ = some σ' → Ext N σ σ' ∧ ∀ i n, (i, n) ∈ l → ∃ o, t.get i i = some o ∧ WkV σ' o n
  | [], σ, σ', h => by
    have h : some σ = some σ' := h
    injection h with h; subst h
    exact ⟨.refl _, fun i n hk => by cases hk⟩
  | (i, n) :: l, σ, σ', h => by
    have h : Option.rec (motive := fun _ => Option (Tr Nat)) none (fun o => Option.rec (motive := fun _ => Option (Tr Nat)) none (fun σ => mTm N t l σ) (mV N σ o n)) (trGet t i) = some σ' := h
    rw [trGet_eq] at h
    cases hj : t.get i i with
    | none => rw [hj] at h; cases h
    | some o =>
      simp only [hj] at h
      cases hm : mV N σ o n with
      | none => simp only [hm] at h; cases h
      | some σ1 =>
        simp only [hm] at h
        obtain ⟨a1, a2⟩ := mV_ok hm
        obtain ⟨b1, b2⟩ := mTm_ok h
        refine ⟨a1.trans b1, fun k x hk => ?_⟩
        rcases List.mem_cons.1 hk with e | hk
        · injection e with e1 e2; subst e1; subst e2
          exact ⟨o, hj, a2.mono b1⟩
        · exact b2 k x hk
/-- no two stand for the same -/
noncomputable def mOnce (σ : Tr Nat) (n : Nat) : Option (Tr Nat) :=
  Nat.rec (motive := fun _ => Option (Tr Nat)) (some .leaf) (fun j r => Option.rec (motive := fun _ => Option (Tr Nat)) none (fun ι => Option.rec (motive := fun _ => Option (Tr Nat)) none (fun i => Option.rec (motive := fun _ => Option (Tr Nat)) (some (trSet ι i j)) (fun _ => none) (trGet ι i)) (trGet σ j)) r) n
theorem mOnce_ok {σ : Tr Nat} : ∀ {n : Nat} {ι : Tr Nat}, mOnce σ n = some ι → ∀ j i, j < n → σ.get j j = some i → ι.get i i = some j
  | 0, ι, h, j, i, hj, _ => by omega
  | n + 1, ι, h, j, i, hj, hg => by
    have h : Option.rec (motive := fun _ => Option (Tr Nat)) none (fun ι => Option.rec (motive := fun _ => Option (Tr Nat)) none (fun i => Option.rec (motive := fun _ => Option (Tr Nat)) (some (trSet ι i n)) (fun _ => none) (trGet ι i)) (trGet σ n)) (mOnce σ n) = some ι := h
    cases h0 : mOnce σ n with
    | none => rw [h0] at h; cases h
    | some ι0 =>
      simp only [h0] at h
      rw [trGet_eq] at h
      cases h1 : σ.get n n with
      | none => simp only [h1] at h; cases h
      | some k =>
        simp only [h1, trGet_eq] at h
        cases h2 : ι0.get k k with
        | some x => simp only [h2] at h; cases h
        | none =>
          simp only [h2, Option.some.injEq] at h
          subst h
          rw [trSet_eq]
          by_cases e : j = n
          · subst e; rw [h1] at hg; injection hg with hg; subst hg
            rw [Tr.get_set_same]
          · have := mOnce_ok h0 j i (by omega) hg
            by_cases e2 : i = k
            · subst e2; rw [h2] at this; cases this
            · rw [Tr.get_set_other e2]; exact this

/-- a state, told as those objects, that frame -/
noncomputable def told (n : Nat) (l : List AO) (tm : List (Nat × AV)) (t : Tr AV) (aw : AW) : Bool :=
  Option.rec (motive := fun _ => Bool) false (fun σ => Option.rec (motive := fun _ => Bool) false (fun σ => Option.rec (motive := fun _ => Bool) false (fun _ => true) (mOnce σ n)) (mAll n aw l (nat_lit 0) σ)) (mTm n t tm .leaf)
theorem told_ok {n : Nat} {l : List AO} {tm : List (Nat × AV)} {a : AAct} {aw : AW} (h : told n l tm a.tmps aw = true) (hn : n = l.length) (hd : a.defs = []) {E : Env} {ca : Act} {w : World} (hA : ActRel E a ca) (hR : Rel E aw w) :
    ∃ E', E'.fr = E.fr ∧ E'.sym = E.sym ∧ ActRel E' ⟨tmOf tm .leaf, a.n, []⟩ ca ∧ Rel E' (ofObjs l n) w := by
  subst hn
  unfold told at h
  cases h1 : mTm l.length a.tmps tm .leaf with
  | none => simp only [h1] at h; cases h
  | some σ1 =>
    simp only [h1] at h
    cases h2 : mAll l.length aw l (nat_lit 0) σ1 with
    | none => simp only [h2] at h; cases h
    | some σ =>
      simp only [h2] at h
      cases h3 : mOnce σ l.length with
      | none => simp only [h3] at h; cases h
      | some ι =>
        obtain ⟨a1, a2⟩ := mTm_ok h1
        obtain ⟨b1, b2⟩ := mAll_ok h2
        have once := mOnce_ok h3
        have bd : Bd l.length σ := (a1.trans b1).2 fun j i q => by simp [Tr.get] at q
        have b2 : ∀ (k : Nat) (n : AO), l[k]? = some n → ∃ i o, σ.get k k = some i ∧ aw.get i = some o ∧ WkO σ o n := fun k n hk => by
          have := b2 k n hk
          rwa [show (nat_lit 0) + k = k from Nat.zero_add k] at this
        let E' : Env := { E with loc := (List.range l.length).map fun j => match σ.get j j with | some i => E.loc.getD i ⟨0, 0, 0⟩ | none => ⟨0, 0, 0⟩ }
        have hloc : ∀ j i, σ.get j j = some i → ∀ L, E.loc[i]? = some L → E'.loc[j]? = some L := fun j i hg L hL => by
          have hj := bd j i hg
          simp only [E', List.getElem?_map, List.getElem?_range hj, Option.map_some, hg, List.getD_eq_getElem?_getD, hL, Option.getD_some]
        have hS : SRel σ E E' := ⟨rfl, hloc⟩
        have one : ∀ k n, (ofObjs l l.length).get k = some n → ∃ i o L, σ.get k k = some i ∧ aw.get i = some o ∧ WkO σ o n ∧ E.loc[i]? = some L ∧ E'.loc[k]? = some L ∧ ORel E L w o ∧ k < l.length := fun k n hk => by
          rw [ofObjs_get] at hk
          obtain ⟨i, o, c1, c2, c3⟩ := b2 k n hk
          obtain ⟨L, hL, hr⟩ := hR.obj i o c2
          exact ⟨i, o, L, c1, c2, c3, hL, hloc k i c1 L hL, hr, bd k i c1⟩
        refine ⟨E', rfl, rfl, ⟨hA.size, fun t v hv => ?_, ?_⟩, ⟨by simp [ofObjs, E'], hR.ns, fun k n hk => ?_, fun k k' n n' Lk Lk' hk hk' lk lk' ek ek' hb => ?_, hR.frame, fun k n Lk hk lk ek => ?_⟩⟩
        · rcases tmOf_get tm _ t v hv with hm | hm
          · obtain ⟨o, ho, hw⟩ := a2 t v hm
            obtain ⟨x, hx, hr⟩ := hA.tmps t o ho
            exact ⟨x, hx, (hw.mono b1) _ _ _ hS hr⟩
          · simp [Tr.get] at hm
        · have := hA.defs
          rw [hd] at this
          generalize ca.defers = df at this
          cases this; exact .nil
        · obtain ⟨i, o, L, c1, c2, c3, c4, c5, c6, _⟩ := one k n hk
          exact ⟨L, c5, c3.2 _ _ _ _ hS c6⟩
        · obtain ⟨i, o, L, c1, c2, c3, c4, c5, c6, c7⟩ := one k n hk
          obtain ⟨i', o', L', d1, d2, d3, d4, d5, d6, d7⟩ := one k' n' hk'
          rw [c5] at ek; injection ek with ek; subst ek
          rw [d5] at ek'; injection ek' with ek'; subst ek'
          have := hR.inj i i' o o' _ _ c2 d2 (c3.1 lk) (d3.1 lk') c4 d4 hb
          subst this
          have e1 := once k i c7 c1
          have e2 := once k' i d7 d1
          rw [e1] at e2; injection e2
        · obtain ⟨i, o, L, c1, c2, c3, c4, c5, c6, _⟩ := one k n hk
          rw [c5] at ek; injection ek with ek; subst ek
          exact hR.apart i o _ c2 (c3.1 lk) c4
end Go.Proofs.YtbilacojhmohmaaGreat.Ae
