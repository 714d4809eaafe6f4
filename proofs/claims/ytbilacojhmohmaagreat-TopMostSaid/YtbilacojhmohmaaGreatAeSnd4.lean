/- The evaluator's operations are sound: structs, slices that are written out, conversions. No condition. -/
import Derived.Test.YtbilacojhmohmaaGreatAeSnd3
namespace Go.Proofs.YtbilacojhmohmaaGreat.Ae
open Go
set_option linter.unusedVariables false
set_option linter.unusedSimpArgs false

theorem foldl_set (off : Nat) : ∀ (vs : List Value) (n : Nat) (cells : Array Value), off + n + vs.length ≤ cells.size →
    ((vs.zipIdx n).foldl (fun cs p => cs.setIfInBounds (off + p.2) p.1) cells).size = cells.size ∧
    ∀ k, ((vs.zipIdx n).foldl (fun cs p => cs.setIfInBounds (off + p.2) p.1) cells)[k]? = if off + n ≤ k ∧ k < off + n + vs.length then vs[k - (off + n)]? else cells[k]?
  | [], n, cells, _ => ⟨rfl, fun k => by rw [if_neg (by simp)]; rfl⟩
  | v :: vs, n, cells, h => by
    simp only [List.length_cons] at h
    simp only [List.zipIdx_cons, List.foldl_cons]
    obtain ⟨h1, h2⟩ := foldl_set off vs (n + 1) (cells.setIfInBounds (off + n) v) (by simp only [Array.size_setIfInBounds]; omega)
    refine ⟨by rw [h1]; simp, fun k => ?_⟩
    rw [h2 k]
    simp only [List.length_cons]
    by_cases e1 : k = off + n
    · subst e1
      rw [if_neg (by omega), if_pos (by omega), Array.getElem?_setIfInBounds_self_of_lt (by omega)]
      simp
    · by_cases e2 : off + (n + 1) ≤ k ∧ k < off + (n + 1) + vs.length
      · rw [if_pos e2, if_pos (by omega), show k - (off + n) = (k - (off + (n + 1))) + 1 by omega]
        simp
      · rw [if_neg e2, if_neg (by omega), Array.getElem?_setIfInBounds_ne (by omega)]

section
variable {P : Program} {o : Oper} {E : Env} {a : AAct} {ca : Act} {aw aw' : AW} {w : World} {r : AV} {c : COp}

theorem splice_rel {l x : List AV} {off : Nat} {cells : Array Value} {vs : Array Value} (hl : LRel E l cells.toList) (hx : LRel E x vs.toList) (hb : off + x.length ≤ l.length) :
    LRel E (splice l off x) (vs.zipIdx.foldl (fun cs (p : Value × Nat) => cs.setIfInBounds (off + p.2) p.1) cells).toList := by
  have n1 := hl.length
  have n2 := hx.length
  simp at n1 n2
  obtain ⟨h1, h2⟩ := foldl_set off vs.toList 0 cells (by simp; omega)
  rw [← Array.foldl_toList, Array.toList_zipIdx]
  refine LRel.of_get (by rw [splice_length hb]; simp [h1, n1]) fun i y hy => ?_
  rw [splice_get hb] at hy
  have := h2 i
  rw [Array.getElem?_toList, this]
  by_cases e : off ≤ i ∧ i < off + x.length
  · rw [if_pos e] at hy
    rw [if_pos (by simp; omega)]
    exact hx.get hy
  · rw [if_neg e] at hy
    rw [if_neg (by simp; omega)]
    obtain ⟨v, hv, hr⟩ := hl.get hy
    exact ⟨v, by simpa using hv, hr⟩

theorem fill_sound {place : Nat → Option (Nat × Nat)} (hA : ActRel E a ca) : ∀ {ps : List (Nat × Operand)} {qs : List (Nat × Nat × Opd)} {l l' : List AV} {cells : Array Value}, cParts place ps = some qs → xfill a.tmps l qs = some l' → LRel E l cells.toList →
    ∃ cells' : Array Value, Instr.fill place cells (ps.map fun (i, x) => (i, ca.eval x)) = some cells' ∧ LRel E l' cells'.toList
  | [], qs, l, l', cells, hc, hx, hl => by
    simp [cParts] at hc; subst hc
    simp [xfill] at hx; subst hx
    exact ⟨cells, rfl, hl⟩
  | (i, x) :: ps, qs, l, l', cells, hc, hx, hl => by
    simp only [cParts] at hc
    split at hc
    · rename_i off n hp
      split at hc
      · rename_i ox hox
        split at hc
        · rename_i m hm
          simp at hc; subst hc
          simp only [xfill] at hx
          split at hx
          · rename_i v hv
            split at hx
            · rename_i cs hcs
              cases b1 : Nat.beq cs.length n <;> simp only [b1, cond_true, cond_false, reduceCtorEq] at hx
              cases b2 : Nat.ble (off + n) l.length <;> simp only [b2, cond_true, cond_false, reduceCtorEq] at hx
              have b1 := Nat.eq_of_beq_eq_true b1
              have b2 := Nat.le_of_ble_eq_true b2
              have hcl := (opd_sound hA hox hv).cells hcs
              have n1 := hcl.length
              have n2 := hl.length
              simp at n1 n2
              obtain ⟨cells', h1, h2⟩ := fill_sound hA hm hx (splice_rel hl hcl (by omega))
              refine ⟨cells', ?_, h2⟩
              simp only [List.map_cons, Instr.fill, hp]
              rw [if_neg (by simp; omega)]
              exact h1
            · cases hx
          · cases hx
        · cases hc
      · cases hc
    · cases hc

theorem fieldsP_sound : ∀ {fs : List Field} {pl : List (Nat × Nat)}, fieldsP P fs = some pl → (fs.mapM (fun f => do pure (f.offset, ← sizeOf f.type) : Field → Sem (Nat × Nat))).run P w = .ok pl w
  | [], pl, h => by simp [fieldsP] at h; subst h; rfl
  | f :: fs, pl, h => by
    simp only [fieldsP] at h
    split at h
    · rename_i i hi
      split at h
      · rename_i m hm
        simp at h; subst h
        have ih := fieldsP_sound hm
        simp only [List.mapM_cons, Sem.run_bind, run_sizeOf' hi, Result.andThen_ok, Sem.run_pure, ih]
      · cases h
    · cases h

theorem y_build {t : TypeId} {ps : Array (Nat × Operand)} (ho : o.op = .build t ps) (hc : cOp P o = some c) (h : xop a.tmps aw c = some (r, aw')) (hA : ActRel E a ca) (hR : Rel E aw w) : Yes P o E ca w r aw' := by
  simp only [cOp, ho] at hc
  split at hc
  · rename_i z az hz
    split at hc
    · rename_i l hl
      split at hc
      · rename_i fs hu
        split at hc
        · rename_i pl hpl
          split at hc
          · rename_i qs hqs
            simp at hc; subst hc
            simp only [xop] at h
            split at h
            · rename_i l' hl'
              simp at h; obtain ⟨rfl, rfl⟩ := h
              obtain ⟨cells', h1, h2⟩ := fill_sound hA hqs hl' ((zeroP_rel hz E).cells hl)
              refine yes_value (v := .agg cells') hR (by simp only [execOp, ho]; rfl) ?_ (.agg h2)
              have hm := fieldsP_sound (w := w) hpl
              have hmm : (fs.mapM (fun f => do pure (f.offset, ← sizeOf f.type) : Field → Sem (Nat × Nat))).run P w = .ok pl.toArray w := by
                rw [Array.mapM_eq_mapM_toList]
                simp only [Sem.run_map, hm, Result.andThen_ok]
              simp only [Instr.build, Sem.run_bind, run_zeroValue' hz, Result.andThen_ok, run_underlying hu, hmm]
              simp only [List.getElem?_toArray, Array.toList_map]
              rw [h1]
              rfl
            · cases h
          · cases hc
        · cases hc
      · cases hc
    · cases hc
  · cases hc

theorem repCells_rel {z : List AV} {zv : List Value} (hz : LRel E z zv) : ∀ n, LRel E (repCells z n) (List.flatten (List.replicate n zv))
  | 0 => .nil
  | n + 1 => by
    rw [List.replicate_succ, List.flatten_cons]
    exact LRel.append hz (repCells_rel hz n)
theorem range_mod (z : Array Value) (h : z.size ≠ 0) : ∀ n, ((Array.range (n * z.size)).map fun i => z[i % z.size]!).toList = List.flatten (List.replicate n z.toList) := by
  intro n
  apply List.ext_getElem?
  intro i
  have hlen : ∀ n, (List.flatten (List.replicate n z.toList)).length = n * z.size := fun n => by simp [List.length_flatten]
  have key : ∀ n i, i < n * z.size → (List.flatten (List.replicate n z.toList))[i]? = z[i % z.size]? := by
    intro n
    induction n with
    | zero => intro i hi; simp at hi
    | succ n ih =>
      intro i hi
      rw [List.replicate_succ, List.flatten_cons]
      by_cases hl : i < z.size
      · rw [List.getElem?_append_left (by simpa using hl), Nat.mod_eq_of_lt hl]
        simp
      · rw [List.getElem?_append_right (by simp; omega)]
        rw [ih _ (by simp [Nat.succ_mul] at hi ⊢; omega)]
        simp
        rw [← Nat.mod_eq_sub_mod (by omega)]
  by_cases hi : i < n * z.size
  · rw [key n i hi]
    have hm : i % z.size < z.size := Nat.mod_lt _ (by omega)
    simp [hi, hm]
  · rw [List.getElem?_eq_none (by simp; omega), List.getElem?_eq_none (by rw [hlen]; omega)]

theorem y_buildSlice {t : TypeId} {len : Nat} {ps : Array (Nat × Operand)} (ho : o.op = .buildSlice t len ps) (hc : cOp P o = some c) (h : xop a.tmps aw c = some (r, aw')) (hA : ActRel E a ca) (hR : Rel E aw w) : Yes P o E ca w r aw' := by
  simp only [cOp, ho] at hc
  split at hc
  · rename_i e i hs
    have hs' : P.underlying t = some (.slice e) ∧ P.info? e = some i := by
      unfold sliceOf at hs
      split at hs
      · split at hs
        · simp at hs; obtain ⟨rfl, rfl⟩ := hs; exact ⟨by assumption, by assumption⟩
        · cases hs
      · cases hs
    obtain ⟨hu, hi⟩ := hs'
    split at hc
    · rename_i z az hz
      split at hc
      · rename_i l hl
        cases hb : (Nat.beq l.length i.size && Nat.ble (len * i.size) 16777216) <;> simp only [hb, cond_true, cond_false, reduceCtorEq] at hc
        simp only [Bool.and_eq_true] at hb
        have b1 := Nat.eq_of_beq_eq_true hb.1
        have b2 := Nat.le_of_ble_eq_true hb.2
        split at hc
        · rename_i qs hqs
          simp at hc; subst hc
          simp only [xop] at h
          split at h
          · rename_i l' hl'
            simp at h; obtain ⟨rfl, rfl⟩ := h
            have hzl := (zeroP_rel hz E).cells hl
            have hzs : z.cells.size = i.size := by have := hzl.length; simp at this; omega
            have hinit : LRel E (repCells l len) ((Array.range (len * i.size)).map fun j => (if len * i.size = 0 then (#[] : Array Value) else z.cells)[j % (if len * i.size = 0 then (#[] : Array Value) else z.cells).size]!).toList := by
              by_cases h0 : len * i.size = 0
              · have : (repCells l len) = [] := by
                  have := (repCells_rel hzl len).length
                  simp [List.length_flatten] at this
                  rw [hzs, h0] at this
                  exact List.length_eq_zero_iff.1 this
                rw [this, h0]; simpa using LRel.nil
              · rw [if_neg h0, ← hzs, range_mod z.cells (by intro e; rw [hzs] at e; rw [e] at h0; simp at h0)]
                exact repCells_rel hzl len
            obtain ⟨cells', h1, h2⟩ := fill_sound hA hqs hl' hinit
            obtain ⟨L, hb0, h0, _, hle, hR', hn⟩ := rel_alloc (e := e) (opn := false) hR h2
            refine yes_value' (v := .slice (some ⟨L.block, L.base + 0, none⟩) len len) hle hR' (by simp only [execOp, ho]; rfl) ?_ (.slc hn (.inr rfl))
            simp only [Array.toList_map] at h1
            simp only [Instr.buildSlice, Sem.run_bind, run_underlying hu, Result.andThen_ok, run_sizeOf' hi, Array.toList_map]
            rw [if_neg (by omega)]
            by_cases hq : len * i.size = 0
            · simp only [hq, if_true] at h1 ⊢
              simp only [Sem.run_bind, Sem.run_pure, Result.andThen_ok]
              rw [h1]
              simp [newRow, hb0, h0]
            · simp only [hq, if_false] at h1 ⊢
              simp only [Sem.run_bind, Sem.run_pure, Result.andThen_ok, run_zeroValue' hz]
              rw [h1]
              simp [newRow, hb0, h0]
          · cases h
        · cases hc
      · cases hc
    · cases hc
  · cases hc
end
end Go.Proofs.YtbilacojhmohmaaGreat.Ae
