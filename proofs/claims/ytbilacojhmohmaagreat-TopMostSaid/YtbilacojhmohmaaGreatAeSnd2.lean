/- The evaluator's operations are sound: memory, comparisons. No condition. -/
import Derived.Test.YtbilacojhmohmaaGreatAeSnd
import Derived.Laws.Pointers
import Derived.Laws.Cover3
namespace Go.Proofs.YtbilacojhmohmaaGreat.Ae
open Go
set_option linter.unusedVariables false
set_option linter.unusedSimpArgs false

theorem aggP_none {P : Program} {t : TypeId} (h : aggP P t = some none) : ∀ w, (isAgg t).run P w = .ok false w := by
  intro w
  unfold aggP at h
  split at h
  · split at h <;> simp at h
  · split at h <;> simp at h
  · rename_i d h1 h2 hd
    simp only [isAgg, Sem.run_bind, run_underlying hd, Result.andThen_ok]
    rfl
  · cases h
theorem aggP_some {P : Program} {t : TypeId} {n : Nat} (h : aggP P t = some (some n)) : (∀ w, (isAgg t).run P w = .ok true w) ∧ ∃ i, P.info? t = some i ∧ i.size = n := by
  unfold aggP at h
  split at h
  · rename_i d hd
    split at h <;> simp at h
    rename_i i hi
    exact ⟨fun w => by simp [isAgg, run_underlying hd], i, hi, h⟩
  · rename_i d e hd
    split at h <;> simp at h
    rename_i i hi
    exact ⟨fun w => by simp [isAgg, run_underlying hd], i, hi, h⟩
  · simp at h
  · cases h
theorem run_sizeOf' {P : Program} {t : TypeId} {i : TypeInfo} (h : P.info? t = some i) (w : World) : (sizeOf t).run P w = .ok i.size w := by simp [sizeOf, typeInfo, h]
theorem run_zeroValue' {P : Program} {t : TypeId} {v : Value} {a : AV} (h : zeroP P t = some (v, a)) (w : World) : (zeroValue t).run P w = .ok v w := by
  unfold zeroP at h
  split at h
  · rename_i i hi
    split at h
    · rename_i u hu
      split at h
      · simp at h; obtain ⟨rfl, rfl⟩ := h
        simp [zeroValue, typeInfo, hi, hu]
      · cases h
    · cases h
  · cases h
theorem zeroP_rel {P : Program} {t : TypeId} {v : Value} {a : AV} (h : zeroP P t = some (v, a)) (E : Env) : VRel E a v := by
  unfold zeroP at h
  split at h
  · split at h
    · split at h
      · rename_i hc; simp at h; obtain ⟨rfl, rfl⟩ := h; exact cVal_sound E hc
      · cases h
    · cases h
  · cases h

theorem run_load_at {P : Program} {w : World} {ad : Addr} {v : Value} (h : w.cell? ad = some v) : (load ad).run P w = .ok v w := by simp [h]

section
variable {P : Program} {o : Oper} {E : Env} {a : AAct} {ca : Act} {aw aw' : AW} {w : World} {r : AV} {c : COp}

theorem y_load {t : TypeId} {x : Operand} (ho : o.op = .load t x) (hc : cOp P o = some c) (h : xop a.tmps aw c = some (r, aw')) (hA : ActRel E a ca) (hR : Rel E aw w) : Yes P o E ca w r aw' := by
  simp only [cOp, ho] at hc
  split at hc
  · rename_i n hn
    obtain ⟨ox, hx, rfl⟩ := c1_inv hc
    simp only [xop] at h
    split at h
    · rename_i p hp
      split at h
      · rename_i v hv
        simp at h; obtain ⟨rfl, rfl⟩ := h
        unfold xload at hv
        split at hv
        · rename_i id off
          split at hv
          · rename_i l e opn hg
            have hr := opd_sound hA hx hp
            cases hv' : ca.eval x <;> rw [hv'] at hr
            all_goals (try (cases hr; done))
            rename_i ad
            cases ad with
            | none => cases hr
            | some ad =>
              obtain ⟨L, cs, hL, rfl, h1, h2, h3, h5⟩ := hR.at hr hg
              split at hv
              · obtain ⟨u, hu, hru⟩ := h5 _ _ hv
                refine yes_value (v := u) hR (by simp only [execOp, ho]; rfl) ?_ hru
                have hcell : w.cell? ⟨L.block, L.base + off, none⟩ = some u := by obtain ⟨fz, h1⟩ := h1; simp [World.cell?, h1, hu]
                simp only [hv', Instr.loadAt, Instr.sureAddr, Sem.run_bind, Sem.run_pure, Result.andThen_ok, loadVar, aggP_none hn w, Bool.false_eq_true, if_false, run_load_at hcell]
              · rename_i n
                cases hb : Nat.beq ((l.drop off).take n).length n <;> simp only [hb, cond_false, cond_true, reduceCtorEq, Option.some.injEq] at hv
                subst hv
                obtain ⟨hag, i, hi, rfl⟩ := aggP_some hn
                obtain ⟨vs, hrun, hrel⟩ := load_cells (P := P) h1 h5 (Nat.eq_of_beq_eq_true hb)
                refine yes_value (v := .agg vs.toArray) hR (by simp only [execOp, ho]; rfl) ?_ (.agg (by simpa using hrel))
                simp only [hv', Instr.loadAt, Instr.sureAddr, Sem.run_bind, Sem.run_pure, Result.andThen_ok, loadVar, hag w, if_true, run_sizeOf' hi, hrun w rfl]
          · cases hv
        · cases hv
      · cases h
    · cases h
  · cases hc

theorem y_store {t : TypeId} {x y : Operand} (ho : o.op = .store t x y) (hc : cOp P o = some c) (h : xop a.tmps aw c = some (r, aw')) (hA : ActRel E a ca) (hR : Rel E aw w) : Yes P o E ca w r aw' := by
  simp only [cOp, ho] at hc
  split at hc
  · rename_i i hi
    obtain ⟨ox, oy, hx, hy, rfl⟩ := c2_inv hc
    simp only [xop] at h
    split at h
    · rename_i p hp
      split at h
      · rename_i v hv
        unfold xstore at h
        split at h
        · rename_i id off
          split at h
          · rename_i cs hcs
            split at h
            · rename_i l e opn hg
              cases hb : (Nat.beq cs.length i.size && (Nat.ble (off + i.size) l.length && allOne cs)) <;> simp only [hb, cond_false, cond_true, reduceCtorEq, Option.some.injEq, Prod.mk.injEq] at h
              obtain ⟨rfl, rfl⟩ := h
              simp only [Bool.and_eq_true] at hb
              obtain ⟨b1, b2, b3⟩ := hb
              have b1 := Nat.eq_of_beq_eq_true b1
              have b2 := Nat.le_of_ble_eq_true b2
              have hr := opd_sound hA hx hp
              have hq := opd_sound hA hy hv
              cases hv' : ca.eval x <;> rw [hv'] at hr
              all_goals (try (cases hr; done))
              rename_i ad
              cases hr with
              | ptr hL =>
                rename_i L
                have hcl := hq.cells hcs
                obtain ⟨w', hrun, hR'⟩ := store_cells (P := P) (o := off) (x := cs) hR hL hg hcl b3 (by omega)
                refine yes_skip (.refl E) hR' (by simp only [execOp, ho]; rfl) ?_
                have hlen : (ca.eval y).cells.size = i.size := by have := hcl.length; simp at this; omega
                simp only [hv', Instr.storeAt, Instr.sureAddr, Sem.run_bind, Sem.run_pure, Result.andThen_ok, storeVar, run_sizeOf' hi, hlen, ne_eq, not_true_eq_false, if_false, hrun]
            · cases h
          · cases h
        · cases h
      · cases h
    · cases h
  · cases hc

theorem rel_alloc {cs : List Value} {l : List AV} {e : TypeId} {opn : Bool} (hR : Rel E aw w) (hl : LRel E l cs) :
    ∃ L, L.block = w.heap.size ∧ L.base = 0 ∧ L.total = cs.length ∧ E.Le (E.put L) ∧ Rel (E.put L) (aw.add (.cells l e opn)) (w.alloc (.cells cs.toArray e (0, 0))) ∧ (E.put L).loc[aw.nx]? = some L := by
  let L : Loc := ⟨w.heap.size, 0, cs.length⟩
  refine ⟨L, rfl, rfl, rfl, E.put_le L, hR.add ⟨rfl, rfl⟩ (fun b hb => ?_) (Nat.le_refl _) ⟨cs.toArray, (0, 0), ⟨?_, .inl rfl⟩, by simp [L], by simp [L, hl.length], fun _ => by simp [L, hl.length], fun i x hi => ?_⟩, hR.nx ▸ E.put_new L⟩
  · show (w.heap.push _)[b]? = _
    rw [Array.getElem?_push, if_neg (Nat.ne_of_lt hb)]
  · show (w.heap.push _)[w.heap.size]? = _
    simp
  · obtain ⟨v, hv, hr⟩ := hl.get hi
    exact ⟨v, by simpa [L] using hv, hr.mono (E.put_le L)⟩

theorem y_alloc {t : TypeId} (ho : o.op = .alloc t) (hc : cOp P o = some c) (h : xop a.tmps aw c = some (r, aw')) (hA : ActRel E a ca) (hR : Rel E aw w) : Yes P o E ca w r aw' := by
  simp only [cOp, ho] at hc
  split at hc
  · rename_i z az hz
    split at hc
    · rename_i l hl
      simp at hc; subst hc
      simp only [xop] at h
      simp at h; obtain ⟨rfl, rfl⟩ := h
      have hcl := (zeroP_rel hz E).cells hl
      obtain ⟨L, hb, h0, _, hle, hR', hn⟩ := rel_alloc (e := t) (opn := false) hR hcl
      refine yes_value' (v := .pointer (some ⟨L.block, L.base + 0, none⟩)) hle hR' (by simp only [execOp, ho]; rfl) ?_ (.ptr hn)
      simp only [Instr.alloc, Sem.run_bind, run_zeroValue' hz, Result.andThen_ok, newVar, newRow, run_newObj]
      simp [hb, h0]
    · cases hc
  · cases hc

theorem y_box {t : TypeId} {x : Operand} (ho : o.op = .box t x) (hc : cOp P o = some c) (h : xop a.tmps aw c = some (r, aw')) (hA : ActRel E a ca) (hR : Rel E aw w) : Yes P o E ca w r aw' := by
  simp only [cOp, ho] at hc
  obtain ⟨ox, hx, rfl⟩ := c1_inv hc
  simp only [xop] at h
  split at h
  · rename_i v hv
    split at h
    · rename_i cs hcs
      simp at h; obtain ⟨rfl, rfl⟩ := h
      have hcl := (opd_sound hA hx hv).cells hcs
      obtain ⟨L, hb, h0, _, hle, hR', hn⟩ := rel_alloc (e := t) (opn := false) hR hcl
      refine yes_value' (v := .pointer (some ⟨L.block, L.base + 0, none⟩)) hle hR' (by simp only [execOp, ho]; rfl) ?_ (.ptr hn)
      simp only [Instr.box, Sem.run_bind, newVar, newRow, run_newObj, Result.andThen_ok]
      simp [hb, h0]
    · cases h
  · cases h

theorem y_nilCheck {x : Operand} (ho : o.op = .nilCheck x) (hc : cOp P o = some c) (h : xop a.tmps aw c = some (r, aw')) (hA : ActRel E a ca) (hR : Rel E aw w) : Yes P o E ca w r aw' := by
  simp only [cOp, ho] at hc
  obtain ⟨ox, hx, rfl⟩ := c1_inv hc
  simp only [xop] at h
  split at h
  · rename_i p hp
    simp at h; obtain ⟨rfl, rfl⟩ := h
    have hr := opd_sound hA hx hp
    cases hv' : ca.eval x <;> rw [hv'] at hr
    all_goals (try (cases hr; done))
    rename_i ad
    cases ad with
    | none => cases hr
    | some ad => exact ⟨E, w, .refl E, hR, .inl ⟨.pointer (some ad), by simp [execOp, ho, hv'], hr⟩⟩
  · cases h

theorem y_field {t : TypeId} {x : Operand} {f : Nat} (ho : o.op = .field t x f) (hc : cOp P o = some c) (h : xop a.tmps aw c = some (r, aw')) (hA : ActRel E a ca) (hR : Rel E aw w) : Yes P o E ca w r aw' := by
  simp only [cOp, ho] at hc
  split at hc
  · rename_i fs hu
    split at hc
    · rename_i fl hf
      split at hc
      · rename_i n hn
        obtain ⟨ox, hx, rfl⟩ := c1_inv hc
        simp only [xop] at h
        split at h
        · rename_i l hl
          have hr := opd_sound hA hx hl
          cases hv' : ca.eval x <;> rw [hv'] at hr <;> cases hr
          rename_i cs hL
          split at h
          · split at h
            · rename_i v hv
              simp at h; obtain ⟨rfl, rfl⟩ := h
              obtain ⟨u, hu', hr⟩ := hL.get hv
              refine yes_value (v := u) hR (by simp only [execOp, ho]; rfl) ?_ hr
              simp at hu'
              simp only [hv', Instr.field, Sem.run_bind, run_underlying hu, Result.andThen_ok, hf, asAgg, Sem.run_pure, part, aggP_none hn w, Bool.false_eq_true, if_false, hu']
            · cases h
          · rename_i n
            cases hb : Nat.beq ((l.drop fl.offset).take n).length n <;> simp only [hb, cond_false, cond_true, reduceCtorEq, Option.some.injEq, Prod.mk.injEq] at h
            obtain ⟨rfl, rfl⟩ := h
            obtain ⟨hag, i, hi, rfl⟩ := aggP_some hn
            refine yes_value (v := .agg (cs.extract fl.offset (fl.offset + i.size))) hR (by simp only [execOp, ho]; rfl) ?_ (.agg ?_)
            · simp only [hv', Instr.field, Sem.run_bind, run_underlying hu, Result.andThen_ok, hf, asAgg, Sem.run_pure, part, hag w, if_true, run_sizeOf' hi]
            · have := (hL.drop fl.offset).take i.size
              simpa [Array.toList_extract, List.extract_eq_take_drop] using this
        · cases h
      · cases hc
    · cases hc
  · cases hc

theorem nil_equalIn (dd : Nat) {kd : Nat} {d : TypeDesc} {t : TypeId} {y : Operand} {x : AV} {v : Value} {b : Bool} (hu : P.underlying t = some d) (hk : nilKind d y = some kd) (h : isNil kd x = some b) (hv : VRel E x v) :
    (Op.equalIn (dd + 1) t v (ca.eval y)).run P w = .ok b w := by
  unfold nilKind at hk
  split at hk <;> simp at hk <;> subst hk <;> simp only [isNil] at h
  · cases x <;> simp only [isNil, reduceCtorEq, Option.some.injEq] at h
    subst h
    cases hv <;> simp [Op.equalIn, run_underlying hu, Act.eval]
  · cases x <;> simp only [isNil, reduceCtorEq, Option.some.injEq] at h
    subst h
    cases hv <;> simp [Op.equalIn, run_underlying hu, Act.eval]
  · cases x <;> simp only [isNil, reduceCtorEq, Option.some.injEq] at h
    subst h
    cases hv <;> simp [Op.equalIn, run_underlying hu, Act.eval]
  · cases x <;> simp only [isNil, reduceCtorEq, Option.some.injEq] at h
    all_goals subst h
    all_goals cases hv <;> simp [Op.equalIn, run_underlying hu, Act.eval]
  · cases x <;> simp only [isNil, reduceCtorEq, Option.some.injEq] at h
    all_goals subst h
    all_goals cases hv <;> simp [Op.equalIn, run_underlying hu, Act.eval]
theorem nil_equal {kd : Nat} {d : TypeDesc} {t : TypeId} {y : Operand} {x : AV} {v : Value} {b : Bool} (hu : P.underlying t = some d) (hk : nilKind d y = some kd) (h : isNil kd x = some b) (hv : VRel E x v) :
    (Op.equal t v (ca.eval y)).run P w = .ok b w := nil_equalIn 9999 hu hk h hv
theorem nil_not_int {kd : Nat} {d : TypeDesc} {y : Operand} {x : AV} {v : Value} {b : Bool} (hk : nilKind d y = some kd) (h : isNil kd x = some b) (hv : VRel E x v) (t : TypeId) :
    binOp .eql t v (ca.eval y) = (do pure (.bool (← Op.equal t v (ca.eval y)))) ∧ binOp .neq t v (ca.eval y) = (do pure (.bool (!(← Op.equal t v (ca.eval y))))) ∧
    ∀ op x', eqGuard op t x' y v (ca.eval y) = pure () := by
  unfold nilKind at hk
  split at hk <;> simp at hk <;> subst hk <;> (cases x <;> simp only [isNil, reduceCtorEq] at h) <;> cases hv <;> refine ⟨rfl, rfl, fun op x' => ?_⟩ <;> cases op <;> first | rfl | (cases x' <;> rfl)
end
end Go.Proofs.YtbilacojhmohmaaGreat.Ae
