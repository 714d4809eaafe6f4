/- The evaluator's operations are sound: map iterators, slices, made slices. No condition. -/
import Derived.Test.YtbilacojhmohmaaGreatAeSnd6
namespace Go.Proofs.YtbilacojhmohmaaGreat.Ae
open Go
set_option linter.unusedVariables false
set_option linter.unusedSimpArgs false

section
variable {P : Program} {o : Oper} {E : Env} {a : AAct} {ca : Act} {aw aw' : AW} {w : World} {r : AV} {c : COp}

theorem rel_iter {m : Option Nat} {cm : Option Nat} {since st : Nat} (hR : Rel E aw w) (hm : VRel E (.map m) (.map cm)) :
    ∃ L, L.block = w.heap.size ∧ L.base = 0 ∧ E.Le (E.put L) ∧ Rel (E.put L) (aw.add (.iter m since [] st)) (w.alloc (.mapIter cm since #[] st)) ∧ (E.put L).loc[aw.nx]? = some L := by
  let L : Loc := ⟨w.heap.size, 0, 0⟩
  refine ⟨L, rfl, rfl, E.put_le L, hR.add ⟨rfl, rfl⟩ (fun b hb => ?_) (Nat.le_refl _) ⟨rfl, cm, ?_, hm.mono (E.put_le L)⟩, hR.nx ▸ E.put_new L⟩
  · show (w.heap.push _)[b]? = _
    rw [Array.getElem?_push, if_neg (Nat.ne_of_lt hb)]
  · show (w.heap.push _)[w.heap.size]? = _
    simp

theorem y_range {t : TypeId} {m : Operand} (ho : o.op = .range t m) (hc : cOp P o = some c) (h : xop a.tmps aw c = some (r, aw')) (hA : ActRel E a ca) (hR : Rel E aw w) : Yes P o E ca w r aw' := by
  simp only [cOp, ho] at hc
  split at hc
  · rename_i k e hu
    obtain ⟨om, hm, rfl⟩ := c1_inv hc
    simp only [xop] at h
    split at h
    · rename_i hmv
      simp at h; obtain ⟨rfl, rfl⟩ := h
      have hr := opd_sound hA hm hmv
      cases hm2 : ca.eval m <;> rw [hm2] at hr <;> cases hr
      obtain ⟨L, hb, h0, hle, hR', hn⟩ := rel_iter (since := 0) (st := 0) hR (VRel.nilMap (E := E))
      refine yes_value' (v := .pointer (some ⟨L.block, L.base + 0, none⟩)) hle hR' (by simp only [execOp, ho]; rfl) ?_ (.ptr hn)
      simp [hm2, Instr.range, run_underlying hu, hb, h0]
    · rename_i id hmv
      split at h
      · rename_i es clock hg
        simp at h; obtain ⟨rfl, rfl⟩ := h
        have hr := opd_sound hA hm hmv
        cases hm2 : ca.eval m <;> rw [hm2] at hr
        all_goals (try (cases hr; done))
        have hr' := hr
        cases hr with
        | map hL hb =>
          rename_i L0
          obtain ⟨L', hL', _, ces, h1, h2⟩ := hR.obj _ _ hg
          rw [hL] at hL'; injection hL' with hL'; subst hL'
          obtain ⟨L, hb, h0, hle, hR', hn⟩ := rel_iter (since := clock) (st := clock) hR hr'
          refine yes_value' (v := .pointer (some ⟨L.block, L.base + 0, none⟩)) hle hR' (by simp only [execOp, ho]; rfl) ?_ (.ptr hn)
          simp [hm2, Instr.range, run_underlying hu, hb, h0, run_getObj_map h1]
      · cases h
    · cases h
  · cases hc

theorem run_getObj_iter {b : Nat} {cm : Option Nat} {since st : Nat} {seen : Array Nat} (h : w.heap[b]? = some (.mapIter cm since seen st)) : (getObj b).run P w = .ok (.mapIter cm since seen st) w := by
  simp [getObj, Sem.run, h]
theorem run_setObj_iter {b : Nat} {cm : Option Nat} {since st : Nat} {seen : Array Nat} (h : w.heap[b]? = some (.mapIter cm since seen st)) (o : Obj) : (setObj b o).run P w = .ok () { w with heap := w.heap.setIfInBounds b o } := by
  simp [setObj, Sem.run, h]

theorem iter_at {id : Nat} {v : Value} {m : Option Nat} {since st : Nat} {seen : List Nat} (hR : Rel E aw w) (hv : VRel E (.ptr (some (id, 0))) v) (hg : aw.get id = some (.iter m since seen st)) :
    ∃ L cm, E.loc[id]? = some L ∧ L.base = 0 ∧ v = .pointer (some ⟨L.block, 0, none⟩) ∧ w.heap[L.block]? = some (.mapIter cm since seen.toArray st) ∧ VRel E (.map m) (.map cm) := by
  cases hv with
  | ptr hL =>
    rename_i L
    obtain ⟨L', hL', hb, cm, h1, h2⟩ := hR.obj _ _ hg
    rw [hL] at hL'; injection hL' with hL'; subst hL'
    exact ⟨L, cm, hL, hb, by rw [hb], h1, h2⟩
theorem map_at {id : Nat} {cm : Option Nat} {es : List AEnt} {clock : Nat} (hR : Rel E aw w) (hv : VRel E (.map (some id)) (.map cm)) (hg : aw.get id = some (.map es clock)) :
    ∃ L ces, E.loc[id]? = some L ∧ cm = some L.block ∧ w.heap[L.block]? = some (.map ces clock) ∧ ERel E es ces.toList := by
  cases hv with
  | map hL hb =>
    rename_i L
    obtain ⟨L', hL', _, ces, h1, h2⟩ := hR.obj _ _ hg
    rw [hL] at hL'; injection hL' with hL'; subst hL'
    exact ⟨L, ces, hL, rfl, h1, h2⟩
theorem ERel.nil_inv {ces : Array MapEntry} (h : ERel E [] ces.toList) : ces = #[] := by
  generalize hx : ces.toList = l at h
  cases h
  exact Array.toList_inj.1 hx
theorem ERel.one_inv {e : AEnt} {ces : Array MapEntry} (h : ERel E [e] ces.toList) : ∃ f, ces = #[f] ∧ VRel E e.key f.key ∧ VRel E e.val f.val ∧ e.born = f.born := by
  generalize hx : ces.toList = l at h
  cases h with
  | cons hk hv hb t =>
    rename_i f m
    cases t
    exact ⟨f, Array.toList_inj.1 hx, hk, hv, hb⟩

theorem y_next {it : Operand} {b : Bool} (ho : o.op = .next it b) (hc : cOp P o = some c) (h : xop a.tmps aw c = some (r, aw')) (hA : ActRel E a ca) (hR : Rel E aw w) : Yes P o E ca w r aw' := by
  cases b with
  | true => simp [cOp, ho] at hc
  | false =>
  simp only [cOp, ho] at hc
  obtain ⟨oi, hi, rfl⟩ := c1_inv hc
  simp only [xop] at h
  split at h
  · rename_i id hiv
    have hr := opd_sound hA hi hiv
    split at h
    · rename_i since seen st hg
      simp at h; obtain ⟨rfl, rfl⟩ := h
      obtain ⟨L, cm, hL, hb, e1, h1, h2⟩ := iter_at hR hr hg
      cases h2
      refine yes_value (v := .tuple #[.bool false]) hR (by simp only [execOp, ho]; rfl) ?_ (.tuple (.cons (.bool _) .nil))
      simp [e1, Instr.next, run_getObj_iter h1]
    · rename_i m since seen st hg
      obtain ⟨L, cm, hL, hb, e1, h1, h2⟩ := iter_at hR hr hg
      split at h
      · rename_i clock hgm
        simp at h; obtain ⟨rfl, rfl⟩ := h
        obtain ⟨L2, ces, hL2, rfl, h3, h4⟩ := map_at hR h2 hgm
        have := h4.nil_inv; subst this
        refine yes_value (v := .tuple #[.bool false]) hR (by simp only [execOp, ho]; rfl) ?_ (.tuple (.cons (.bool _) .nil))
        simp [e1, Instr.next, run_getObj_iter h1, run_getObj_map h3, Question.forced]
      · rename_i e clock hgm
        obtain ⟨L2, ces, hL2, rfl, h3, h4⟩ := map_at hR h2 hgm
        obtain ⟨f, rfl, hk, hv, hbn⟩ := h4.one_inv
        cases hs : Nat.blt e.born since <;> simp only [hs, cond_true, cond_false, reduceCtorEq] at h
        have hs : e.born < since := Nat.le_of_ble_eq_true hs
        rw [hbn] at hs
        split at h
        · simp at h; obtain ⟨rfl, rfl⟩ := h
          have hlt := (Array.getElem?_eq_some_iff.1 h1).1
          have hR' : Rel E (aw.set id (.iter (some m) since [e.born] clock)) { w with heap := w.heap.setIfInBounds L.block (.mapIter (some L2.block) since #[f.born] clock) } := by
            refine hR.update ⟨rfl, rfl⟩ hg rfl hL (fun b hne => Array.getElem?_setIfInBounds_ne (Ne.symm hne)) ⟨hb, some L2.block, ?_, h2⟩
            rw [hbn]
            exact Array.getElem?_setIfInBounds_self_of_lt hlt
          refine yes_value' (v := .tuple #[.bool true, f.key, f.val]) (.refl E) hR' (by simp only [execOp, ho]; rfl) ?_ (.tuple (.cons (.bool _) (.cons hk (.cons hv .nil))))
          have hn : ¬ since ≤ f.born := by omega
          have f1 : (#[f].filter fun e => !(#[] : Array Nat).contains e.born) = #[f] := by apply Array.toList_inj.1; simp
          have f2 : (#[f].filter fun e => decide (e.born < since)) = #[f] := by apply Array.toList_inj.1; simp [hs]
          have f3 : (#[f].filter fun e => decide (e.born ≥ since)) = #[] := by apply Array.toList_inj.1; simp; omega
          simp only [e1, Instr.next, Sem.run_bind, run_getObj_iter h1, run_getObj_map h3, Result.andThen_ok]
          simp only [Array.isEmpty_empty, Bool.not_true, Bool.false_and, Bool.false_eq_true, if_false, f1, f2, f3]
          simp [Question.forced, run_setObj_iter h1]
        · rename_i b
          cases hq : (Nat.beq b e.born && Nat.blt e.born st) <;> simp only [hq, cond_true, cond_false, reduceCtorEq, Option.some.injEq, Prod.mk.injEq] at h
          obtain ⟨rfl, rfl⟩ := h
          simp only [Bool.and_eq_true] at hq
          have hq1 := Nat.eq_of_beq_eq_true hq.1
          have hq2 : e.born < st := Nat.le_of_ble_eq_true hq.2
          subst hq1
          rw [hbn] at h1 hq2
          have hn2 : ¬ st ≤ f.born := by omega
          refine yes_value (v := .tuple #[.bool false]) hR (by simp only [execOp, ho]; rfl) ?_ (.tuple (.cons (.bool _) .nil))
          have f1 : (#[f].filter fun e => !(#[f.born] : Array Nat).contains e.born) = #[] := by apply Array.toList_inj.1; simp
          simp only [e1, Instr.next, Sem.run_bind, run_getObj_iter h1, run_getObj_map h3, Result.andThen_ok]
          simp [f1, hn2, Question.forced]
        · cases h
      · cases h
    · cases h
  · cases h

theorem y_entry {it : Operand} (ho : o.op = .entry it) (hc : cOp P o = some c) (h : xop a.tmps aw c = some (r, aw')) (hA : ActRel E a ca) (hR : Rel E aw w) : Yes P o E ca w r aw' := by
  simp only [cOp, ho] at hc
  obtain ⟨oi, hi, rfl⟩ := c1_inv hc
  simp only [xop] at h
  split at h
  · rename_i id hiv
    have hr := opd_sound hA hi hiv
    split at h
    · rename_i m since b st hg
      obtain ⟨L, cm, hL, hb, e1, h1, h2⟩ := iter_at hR hr hg
      split at h
      · rename_i e clock hgm
        obtain ⟨L2, ces, hL2, rfl, h3, h4⟩ := map_at hR h2 hgm
        obtain ⟨f, rfl, hk, hv, hbn⟩ := h4.one_inv
        cases hq : (Nat.beq clock st && Nat.beq b e.born) <;> simp only [hq, cond_true, cond_false, reduceCtorEq, Option.some.injEq, Prod.mk.injEq] at h
        obtain ⟨rfl, rfl⟩ := h
        simp only [Bool.and_eq_true] at hq
        have hq1 := Nat.eq_of_beq_eq_true hq.1
        have hq2 := Nat.eq_of_beq_eq_true hq.2
        subst hq1; subst hq2
        rw [hbn] at h1
        refine yes_value (v := .tuple #[f.key, f.val]) hR (by simp only [execOp, ho]; rfl) ?_ (.tuple (.cons hk (.cons hv .nil)))
        simp [e1, Instr.entry, run_getObj_iter h1, run_getObj_map h3]
      · cases h
    · cases h
  · cases h
end
end Go.Proofs.YtbilacojhmohmaaGreat.Ae
