/- Regions that draw their order: an item is carried out in a world that its heap stands for. No condition. -/
import Derived.Test.YtbilacojhmohmaaGreatAeDraw5
namespace Go.Proofs.YtbilacojhmohmaaGreat.Ae
open Go
set_option linter.unusedVariables false
set_option linter.unusedSimpArgs false

def restr (T : Tr AV) : List Nat → Tr AV
  | [] => .leaf
  | t :: l => match T.get t t with
    | some v => (restr T l).set t t v
    | none => restr T l
theorem restr_get {T : Tr AV} {t : Nat} {v : AV} : ∀ {l : List Nat}, (restr T l).get t t = some v → T.get t t = some v ∧ t ∈ l
  | [], h => by simp [restr, Tr.get] at h
  | s :: l, h => by
    simp only [restr] at h
    split at h
    · rename_i u hu
      rcases Tr.get_set h with ⟨rfl, rfl⟩ | ⟨_, h⟩
      · exact ⟨hu, by simp⟩
      · have := restr_get h; exact ⟨this.1, by simp [this.2]⟩
    · have := restr_get h; exact ⟨this.1, by simp [this.2]⟩
theorem restr_same {T : Tr AV} {t : Nat} : ∀ {l : List Nat}, t ∈ l → (restr T l).get t t = T.get t t
  | [], h => by simp at h
  | s :: l, h => by
    simp only [restr]
    by_cases e : t = s
    · subst e
      cases hu : T.get t t with
      | some u => simp only; rw [Tr.get_set_same]
      | none =>
        simp only
        cases hq : (restr T l).get t t with
        | none => rfl
        | some v => have := (restr_get hq).1; rw [hu] at this; cases this
    · have hm : t ∈ l := by rcases List.mem_cons.1 h with q | q; exact (e q).elim; exact q
      split
      · rw [Tr.get_set_other e]; exact restr_same hm
      · exact restr_same hm

section
variable {P : Program} {call : Call} {ops : Array Oper} {o : Oper} {i : Nat} {it : CR} {T : AAct} {h h' : AW} {E' : Env} {a : Act} {w : World} {K : Act → World → Prop} {Q : Exit → Act → World → Prop}

theorem citem_dst (hit : cItem P ops o = some it) (hk : it.kind ≤ 2) : it.dst = o.dst := by
  unfold cItem at hit
  split at hit
  · split at hit <;> (try (cases hit; done))
    split at hit <;> (try (cases hit; done))
    split at hit
    · simp at hit; subst hit; rfl
    · split at hit <;> (try (cases hit; done))
      simp at hit; subst hit; rfl
  · split at hit <;> (try (cases hit; done))
    split at hit <;> (try (cases hit; done))
    split at hit <;> (try (cases hit; done))
    simp at hit; subst hit; simp [CR.kind] at hk
  · split at hit <;> (try (cases hit; done))
    split at hit <;> (try (cases hit; done))
    simp at hit; subst hit; simp [CR.kind] at hk
  · split at hit <;> (try (cases hit; done))
    split at hit <;> (try (cases hit; done))
    simp at hit; subst hit; rfl

theorem exec_item (hcall : CallOK P call) (ho : ops[i]? = some o) (hit : cItem P ops o = some it) (hk : it.kind ≤ 2) (hI : ItemAt call T it h h') (hR : Rel E' h w) (hsz : a.tmps.size = T.n) (hdef : DRel E' T.defs a.defers)
    (huse : ∀ t ∈ it.uses, ∀ v, T.tmps.get t t = some v → ∃ x, a.tmps[t]? = some x ∧ VRel E' v x)
    (hK : ∀ E2 w' x, E'.Le E2 → Rel E2 h' w' → (∀ d, it.dst = some d → ∃ v, T.tmps.get d d = some v ∧ d < T.n ∧ VRel E2 v x) → K (a.put o.dst x) w') : wpOp P ops Q i K a w := by
  have hdst := citem_dst hit hk
  let R : AAct := ⟨restr T.tmps it.uses, T.n, T.defs⟩
  have hA : ActRel E' R a := ⟨hsz, fun t v hv => huse t (restr_get hv).2 v (restr_get hv).1, hdef⟩
  have same : ∀ t ∈ it.uses, R.tmps.get t t = T.tmps.get t t := fun t ht => restr_same ht
  have got : ∀ {d : Option Nat} {v : AV} {E2 : Env} {x : Value}, it.dst = d → Got T d v → VRel E2 v x → ∀ d, it.dst = some d → ∃ v, T.tmps.get d d = some v ∧ d < T.n ∧ VRel E2 v x := fun e hg hv d hd => by
    rw [hd] at e; subst e
    exact ⟨_, hg.1, hg.2, hv⟩
  unfold wpOp
  simp only [ho]
  have skip : ∀ g, cGuard ops o.guard = some g → (∀ t ∈ guse g, t ∈ it.uses) → xguard T g = some false → h' = h → Got T it.dst (.tuple []) →
      (if Region.wanted o (yielded ops a.tmps) = true then o.wp P a w K Q ∨ (o.asks P a w ∧ LetsOut Q) else K (a.put o.dst undef) w) := by
    intro g hg hgu h1 h2 h3
    have hx : xguard R g = some false := by rw [← h1]; exact xguard_congr fun t ht => same t (hgu t ht)
    rw [guard_sound hg hx hA, if_neg (by simp)]
    subst h2
    exact hK E' w undef (.refl _) hR (got rfl h3 (.tuple .nil))
  have take : ∀ g, cGuard ops o.guard = some g → (∀ t ∈ guse g, t ∈ it.uses) → xguard T g = some true → o.wp P a w K Q →
      (if Region.wanted o (yielded ops a.tmps) = true then o.wp P a w K Q ∨ (o.asks P a w ∧ LetsOut Q) else K (a.put o.dst undef) w) := by
    intro g hg hgu h1 h2
    have hx : xguard R g = some true := by rw [← h1]; exact xguard_congr fun t ht => same t (hgu t ht)
    rw [guard_sound hg hx hA, if_pos rfl]
    exact .inl h2
  have docall : ∀ {f : FuncId} {vs : List AV} {cargs : List Value} {v : AV}, call f vs h = some (.ret v h') → LRel E' vs cargs → (callable P f = true → (execOp a.eval o).run P w = .ok (.enter f cargs.toArray) w) → Got T it.dst v → o.wp P a w K Q := by
    intro f vs cargs v hres hargs hex hgot
    obtain ⟨hf, hc⟩ := hcall f vs h _ hres
    unfold Oper.wp
    rw [hex hf, Oper.upon_enter]
    refine (hc E' w cargs hargs hR).mono fun e w' he => ?_
    obtain ⟨E2, hle, hr⟩ := he
    cases e with
    | returned cv =>
      obtain ⟨hR', hv⟩ := hr
      exact hK E2 w' cv hle hR' (got rfl hgot hv)
    | panicked ch => exact hr.elim
    | outgrown => exact hr.elim
  unfold cItem at hit
  split at hit
  · rename_i f args ts hop
    split at hit <;> (try (cases hit; done))
    rename_i g hg
    split at hit <;> (try (cases hit; done))
    rename_i as has
    split at hit
    · rename_i f
      simp at hit; subst hit
      have hgu : ∀ t ∈ guse g, t ∈ (CR.call o.dst g f as).uses := fun t ht => by simp [CR.uses, ht]
      rcases hI with ⟨h1, vs, v, h2, h3, h4⟩ | ⟨h1, h2, h3⟩
      · refine take g hg hgu h1 (docall h3 (opds_sound (vs := vs) hA has ?_) (fun hf => ?_) h4)
        · rw [← h2]; exact evs_congr fun t ht => same t (by simp [CR.uses, ht])
        · rw [exec_call hop rfl (rfl : a.eval (.func f) = .func (.func f) #[] #[]) hf]
          congr 2
          apply Array.ext'
          simp
      · exact skip g hg hgu h1 h2 h3
    · split at hit <;> (try (cases hit; done))
      rename_i hnf fo hfo
      simp at hit; subst hit
      have hgu : ∀ t ∈ guse g, t ∈ (CR.callv o.dst g fo as).uses := fun t ht => by simp [CR.uses, ht]
      rcases hI with ⟨h1, ff, first, cap, vs, v, h0, h2, h3, h4⟩ | ⟨h1, h2, h3⟩
      · have hfe : fo.ev R.tmps = some (.func (.func ff) first cap) := by rw [← h0]; exact ev_congr fun t ht => same t (by simp [CR.uses, ht])
        have hr := opd_sound hA hfo hfe
        cases hev : a.eval f <;> rw [hev] at hr
        all_goals (try (cases hr; done))
        cases hr with
        | func _ hr1 hr2 =>
          refine take g hg hgu h1 (docall h3 (LRel.append (LRel.append hr1 (opds_sound (vs := vs) hA has ?_)) hr2) (fun hf => ?_) h4)
          · rw [← h2]; exact evs_congr fun t ht => same t (by simp [CR.uses, ht])
          · rw [exec_call hop rfl hev hf]
            congr 2
            apply Array.ext'
            simp
      · exact skip g hg hgu h1 h2 h3
  · split at hit <;> (try (cases hit; done))
    split at hit <;> (try (cases hit; done))
    split at hit <;> (try (cases hit; done))
    simp at hit; subst hit; simp [CR.kind] at hk
  · split at hit <;> (try (cases hit; done))
    split at hit <;> (try (cases hit; done))
    simp at hit; subst hit; simp [CR.kind] at hk
  · split at hit <;> (try (cases hit; done))
    rename_i g hg
    split at hit <;> (try (cases hit; done))
    rename_i c hc
    simp at hit; subst hit
    have hgu : ∀ t ∈ guse g, t ∈ (CR.op o.dst g c).uses := fun t ht => by simp [CR.uses, ht]
    rcases hI with ⟨h1, v, h2, h3⟩ | ⟨h1, h2, h3⟩
    · have hx : xop R.tmps h c = some (v, h') := by rw [← h2]; exact xop_congr fun t ht => same t (by simp [CR.uses, ht])
      obtain ⟨E2, w', hle, hR', hy⟩ := op_sound hc hx hA hR
      refine take g hg hgu h1 ?_
      unfold Oper.wp
      rcases hy with ⟨x, hrun, hv⟩ | ⟨hrun, rfl⟩
      · rw [hrun]; exact hK E2 w' x hle hR' (got rfl h3 hv)
      · rw [hrun]; exact hK E2 w' undef hle hR' (got rfl h3 (.tuple .nil))
    · exact skip g hg hgu h1 h2 h3
end
end Go.Proofs.YtbilacojhmohmaaGreat.Ae
