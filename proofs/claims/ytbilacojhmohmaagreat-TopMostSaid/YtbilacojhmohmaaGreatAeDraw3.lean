/- Regions that draw their order: what a run in the planned order tells of each operation, at each stage. No condition. -/
import Derived.Test.YtbilacojhmohmaaGreatAeDraw2
namespace Go.Proofs.YtbilacojhmohmaaGreat.Ae
open Go
set_option linter.unusedVariables false
set_option linter.unusedSimpArgs false

def effL : List (Nat × CR) → List Nat
  | [] => []
  | (i, it) :: l => bif Nat.beq it.kind 2 then effL l ++ [i] else effL l
def Fact (call : Call) (M : List Nat) (T : AAct) (hs : List AW) (E : List Nat) (i : Nat) (it : CR) (c : Nat) : Prop :=
  (it.kind = 2 → ∃ h h', hs[c]? = some h ∧ hs[c + 1]? = some h' ∧ ItemAt call T it h h') ∧
  (it.kind = 0 → ∀ (m : Nat) h, hs[m]? = some h → ItemAt call T it h h) ∧
  (it.kind = 1 → ∀ (m : Nat) h, hs[m]? = some h → c ≤ m → (∀ (q : Nat) e, c ≤ q → q < m → E[q]? = some e → bb M e i = false) → ItemAt call T it h h)
def Facts (call : Call) (M : List Nat) (T : AAct) (hs : List AW) (dn : List (Nat × CR)) : Prop :=
  ∀ newer i it older, dn = newer ++ (i, it) :: older → it.kind ≤ 2 ∧ Fact call M T hs (effL dn) i it (effL older).length
/-- the frame beside what the region writes -/
def Beside (T0 T : AAct) (dn : List (Nat × CR)) : Prop :=
  T.n = T0.n ∧ T.defs = T0.defs ∧ ∀ t, (∀ p ∈ dn, p.2.dst ≠ some t) → T.tmps.get t t = T0.tmps.get t t
def OKL (M : List Nat) (lt : Option Nat) (dn : List (Nat × CR)) : Prop :=
  ∀ newer i it older, dn = newer ++ (i, it) :: older → it.kind ≤ 2 ∧ okNew M i it older = true ∧ okSelf it = true ∧ okStage M lt i it older = true

theorem okNew_mem {M : List Nat} {i : Nat} {it : CR} : ∀ {l : List (Nat × CR)}, okNew M i it l = true → ∀ j jt, (j, jt) ∈ l → okPair M i it j jt = true
  | [], _, j, jt, h => by simp at h
  | (k, kt) :: l, h, j, jt, hm => by
    simp only [okNew, Bool.and_eq_true] at h
    rcases List.mem_cons.1 hm with e | hm
    · injection e with e1 e2; subst e1; subst e2; exact h.1
    · exact okNew_mem h.2 j jt hm
theorem okPair_inv {M : List Nat} {i j : Nat} {it jt : CR} (h : okPair M i it j jt = true) : i ≠ j ∧ (∀ d, jt.dst = some d → d ∈ it.uses → bb M i j = true) ∧ (∀ d, it.dst = some d → d ∉ jt.uses ∧ jt.dst ≠ some d) := by
  unfold okPair at h
  simp only [Bool.and_eq_true, Bool.not_eq_true'] at h
  obtain ⟨h1, h2, h3⟩ := h
  refine ⟨ne_of_beq h1, fun d e hu => ?_, fun d e => ?_⟩
  · rw [e] at h2
    simp only [Bool.or_eq_true, Bool.not_eq_true'] at h2
    exact h2.resolve_left fun q => by rw [memN_iff.2 hu] at q; cases q
  · rw [e] at h3
    simp only [Bool.and_eq_true, Bool.not_eq_true'] at h3
    refine ⟨fun hu => (by rw [memN_iff.2 hu] at h3; cases h3.1), fun e' => ?_⟩
    rw [e'] at h3
    simp [Nat.beq_refl] at h3
theorem okSelf_inv {it : CR} (h : okSelf it = true) : (∀ d, it.dst = some d → d ∉ it.uses) ∧ (it.dst = none → it.kind ≠ 1) := by
  unfold okSelf at h
  refine ⟨fun d e hu => ?_, fun e hk => ?_⟩
  · rw [e] at h; simp [memN_iff.2 hu] at h
  · rw [e, hk] at h; simp at h

/-- one item -/
theorem item_step {call : Call} {it : CR} {l : List CR} {a : AAct} {aw : AW} {o : Out} (h : xitems call (it :: l) a aw = some o) (hn : o.x = .norm) (hk : it.kind ≤ 2) (hs : okSelf it = true) :
    ∃ a' aw', ItemAt call a' it aw aw' ∧ xitems call l a' aw' = some o ∧ a'.n = a.n ∧ a'.defs = a.defs ∧ ∀ t, it.dst ≠ some t → a'.tmps.get t t = a.tmps.get t t := by
  obtain ⟨hs1, _⟩ := okSelf_inv hs
  have use : ∀ {a' : AAct} {d : Option Nat} {v : AV}, it.dst = d → a.put d v = some a' → ∀ t ∈ it.uses, a.tmps.get t t = a'.tmps.get t t := fun hd hp t ht =>
    ((put_get hp).2.2.2 t fun e => hs1 t (hd.trans e) ht).symm
  cases it with
  | op d g c =>
    simp only [xitems] at h
    split at h <;> (try (cases h; done))
    · rename_i hg
      split at h <;> (try (cases h; done))
      rename_i v aw' hv
      split at h <;> (try (cases h; done))
      rename_i a' ha
      have hu := use rfl ha
      obtain ⟨p1, p2, p3, p4⟩ := put_get ha
      refine ⟨a', aw', .inl ⟨?_, v, ?_, p3⟩, h, p1, p2, p4⟩
      · rw [← hg]; exact (xguard_congr fun t ht => hu t (by simp [CR.uses, ht])).symm
      · rw [← hv]; exact (xop_congr fun t ht => hu t (by simp [CR.uses, ht])).symm
    · rename_i hg
      split at h <;> (try (cases h; done))
      rename_i a' ha
      have hu := use rfl ha
      obtain ⟨p1, p2, p3, p4⟩ := put_get ha
      refine ⟨a', aw, .inr ⟨?_, rfl, p3⟩, h, p1, p2, p4⟩
      rw [← hg]; exact (xguard_congr fun t ht => hu t (by simp [CR.uses, ht])).symm
  | call d g f as =>
    simp only [xitems] at h
    split at h <;> (try (cases h; done))
    · rename_i hg
      split at h <;> (try (cases h; done))
      rename_i vs hvs
      cases hres : call f vs aw with
      | none => rw [hres] at h; cases h
      | some res =>
        rw [hres] at h
        cases res with
        | panic v aw' => simp only [xback, Option.some.injEq] at h; subst h; cases hn
        | ret v aw' =>
          simp only [xback] at h
          split at h <;> (try (cases h; done))
          rename_i a' ha
          have hu := use rfl ha
          obtain ⟨p1, p2, p3, p4⟩ := put_get ha
          refine ⟨a', aw', .inl ⟨?_, vs, v, ?_, hres, p3⟩, h, p1, p2, p4⟩
          · rw [← hg]; exact (xguard_congr fun t ht => hu t (by simp [CR.uses, ht])).symm
          · rw [← hvs]; exact (evs_congr fun t ht => hu t (by simp [CR.uses, ht])).symm
    · rename_i hg
      split at h <;> (try (cases h; done))
      rename_i a' ha
      have hu := use rfl ha
      obtain ⟨p1, p2, p3, p4⟩ := put_get ha
      refine ⟨a', aw, .inr ⟨?_, rfl, p3⟩, h, p1, p2, p4⟩
      rw [← hg]; exact (xguard_congr fun t ht => hu t (by simp [CR.uses, ht])).symm
  | callv d g f as =>
    simp only [xitems] at h
    split at h <;> (try (cases h; done))
    · rename_i hg
      split at h <;> (try (cases h; done))
      rename_i ff first cap hf
      split at h <;> (try (cases h; done))
      rename_i vs hvs
      cases hres : call ff (first ++ vs ++ cap) aw with
      | none => rw [hres] at h; cases h
      | some res =>
        rw [hres] at h
        cases res with
        | panic v aw' => simp only [xback, Option.some.injEq] at h; subst h; cases hn
        | ret v aw' =>
          simp only [xback] at h
          split at h <;> (try (cases h; done))
          rename_i a' ha
          have hu := use rfl ha
          obtain ⟨p1, p2, p3, p4⟩ := put_get ha
          refine ⟨a', aw', .inl ⟨?_, ff, first, cap, vs, v, ?_, ?_, hres, p3⟩, h, p1, p2, p4⟩
          · rw [← hg]; exact (xguard_congr fun t ht => hu t (by simp [CR.uses, ht])).symm
          · rw [← hf]; exact (ev_congr fun t ht => hu t (by simp [CR.uses, ht])).symm
          · rw [← hvs]; exact (evs_congr fun t ht => hu t (by simp [CR.uses, ht])).symm
    · rename_i hg
      split at h <;> (try (cases h; done))
      rename_i a' ha
      have hu := use rfl ha
      obtain ⟨p1, p2, p3, p4⟩ := put_get ha
      refine ⟨a', aw, .inr ⟨?_, rfl, p3⟩, h, p1, p2, p4⟩
      rw [← hg]; exact (xguard_congr fun t ht => hu t (by simp [CR.uses, ht])).symm
  | defer d f as => simp [CR.kind] at hk
  | panic x => simp [CR.kind] at hk
  | chk d g c => simp [CR.kind] at hk

theorem ItemAt.kind0 {call : Call} {T : AAct} {it : CR} {h h' h2 : AW} (hi : ItemAt call T it h h') (hk : it.kind = 0) : h' = h ∧ ItemAt call T it h2 h2 := by
  cases it with
  | op d g c =>
    rcases hi with ⟨h1, v, hx, h3⟩ | ⟨h1, rfl, h3⟩
    · obtain ⟨e, hall⟩ := Ae.kind0 (c := c) hk hx
      exact ⟨e, .inl ⟨h1, v, hall h2, h3⟩⟩
    · exact ⟨rfl, .inr ⟨h1, rfl, h3⟩⟩
  | _ => simp [CR.kind] at hk
theorem ItemAt.kind1 {call : Call} {T : AAct} {it : CR} {h h' : AW} (hi : ItemAt call T it h h') (hk : it.kind = 1) : h' = h := by
  cases it with
  | op d g c =>
    rcases hi with ⟨h1, v, hx, h3⟩ | ⟨h1, rfl, h3⟩
    · exact Ae.kind1 (c := c) hk hx
    · rfl
  | _ => simp [CR.kind] at hk

/-- what is read again -/
theorem chks_run {call : Call} {M : List Nat} {e : Nat} {a : AAct} {aw : AW} {o : Out} {l : List CR} : ∀ {done : List (Nat × CR)}, (∀ j jt, (j, jt) ∈ done → jt.kind = 1 → ∃ h, ItemAt call a jt h h) → (∀ j jt, (j, jt) ∈ done → okSelf jt = true) → xitems call (chks M e done ++ l) a aw = some o →
    xitems call l a aw = some o ∧ ∀ j jt, (j, jt) ∈ done → jt.kind = 1 → bb M e j = false → ItemAt call a jt aw aw
  | [], _, _, h => ⟨h, fun j jt hm => by simp at hm⟩
  | (k, kt) :: done, hf, hs, h => by
    have hf' : ∀ j jt, (j, jt) ∈ done → jt.kind = 1 → ∃ h, ItemAt call a jt h h := fun j jt hm => hf j jt (by simp [hm])
    have hs' : ∀ j jt, (j, jt) ∈ done → okSelf jt = true := fun j jt hm => hs j jt (by simp [hm])
    have skip : xitems call (chks M e done ++ l) a aw = some o → (kt.kind = 1 → bb M e k = false → ItemAt call a kt aw aw) →
        xitems call l a aw = some o ∧ ∀ j jt, (j, jt) ∈ (k, kt) :: done → jt.kind = 1 → bb M e j = false → ItemAt call a jt aw aw := fun h1 h2 => by
      obtain ⟨r1, r2⟩ := chks_run hf' hs' h1
      refine ⟨r1, fun j jt hm hk hb => ?_⟩
      rcases List.mem_cons.1 hm with q | hm
      · injection q with q1 q2; subst q1; subst q2; exact h2 hk hb
      · exact r2 j jt hm hk hb
    simp only [chks] at h
    split at h
    · rename_i d g c
      cases hq : (Nat.beq c.kind 1 && !bb M e k) with
      | false =>
        simp only [hq, cond_false] at h
        refine skip h fun hk hb => ?_
        have hk' : c.kind = 1 := hk
        rw [hk', hb] at hq
        simp [Nat.beq_refl] at hq
      | true =>
        simp only [hq, cond_true, List.cons_append, xitems] at h
        simp only [Bool.and_eq_true] at hq
        have hk1 := Nat.eq_of_beq_eq_true hq.1
        obtain ⟨h0, hi⟩ := hf k (.op (some d) g c) (by simp) hk1
        split at h <;> (try (cases h; done))
        · rename_i hg
          split at h <;> (try (cases h; done))
          rename_i v aw2 hv
          split at h <;> (try (cases h; done))
          rename_i u hu
          cases hsame : AV.same 6 v u <;> simp only [hsame, cond_true, cond_false, reduceCtorEq] at h
          have := AV.same_eq 6 hsame; subst this
          have haw := Ae.kind1 hk1 hv; subst haw
          refine skip h fun _ _ => .inl ⟨hg, v, hv, ?_⟩
          rcases hi with ⟨_, v', _, h3⟩ | ⟨h1, _, _⟩
          · exact ⟨hu, h3.2⟩
          · rw [hg] at h1; cases h1
        · rename_i hg
          refine skip h fun _ _ => .inr ⟨hg, rfl, ?_⟩
          rcases hi with ⟨h1, _⟩ | ⟨_, _, h3⟩
          · rw [hg] at h1; cases h1
          · exact h3
    · rename_i hno
      refine skip h fun hk hb => ?_
      cases kt with
      | op d g c =>
        cases d with
        | some d => exact (hno d g c rfl).elim
        | none => exact ((okSelf_inv (hs k (.op none g c) (by simp))).2 rfl hk).elim
      | _ => simp [CR.kind] at hk
end Go.Proofs.YtbilacojhmohmaaGreat.Ae
