/- The evaluator's operations are sound: what is built in, the calls. No condition. -/
import Derived.Test.YtbilacojhmohmaaGreatAeSnd11
namespace Go.Proofs.YtbilacojhmohmaaGreat.Ae
open Go
set_option linter.unusedVariables false
set_option linter.unusedSimpArgs false

section
variable {P : Program} {o : Oper} {E : Env} {a : AAct} {ca : Act} {aw aw' : AW} {w : World} {r : AV} {c : COp}

theorem toList_one {xs : Array Operand} {x : Operand} (h : xs.toList = [x]) : xs = #[x] := Array.toList_inj.1 h
theorem toList_two {xs : Array Operand} {x y : Operand} (h : xs.toList = [x, y]) : xs = #[x, y] := Array.toList_inj.1 h

theorem y_len {args : Array Operand} {ts : Array TypeId} (ho : o.op = .call { callee := .builtin .len, args, argTypes := ts }) (hc : cBuiltin P .len ts args.toList = some c) (h : xop a.tmps aw c = some (r, aw')) (hA : ActRel E a ca) (hR : Rel E aw w) : Yes P o E ca w r aw' := by
  unfold cBuiltin at hc
  split at hc <;> (try (cases hc; done)) <;> rename_i hb ha <;> (try (cases hb; done))
  have := toList_one ha; subst this
  rename_i x
  split at hc <;> (try (cases hc; done))
  rename_i t ht
  split at hc <;> (try (cases hc; done))
  · rename_i e hu
    obtain ⟨ox, hx, rfl⟩ := c1_inv hc
    simp only [xop] at h
    split at h
    · rename_i v hv
      split at h
      · rename_i n hn
        simp at h; obtain ⟨rfl, rfl⟩ := h
        have hr := opd_sound hA hx hv
        unfold xlen at hn
        split at hn <;> simp at hn
        rename_i bq n cq
        subst hn
        have : ∃ b cp, ca.eval x = .slice b n cp := by cases hx' : ca.eval x <;> rw [hx'] at hr <;> cases hr <;> exact ⟨_, _, rfl⟩
        obtain ⟨b, cp, hx'⟩ := this
        refine yes_value (v := .int .i64 (n : Int)) hR (by simp only [execOp, ho]; rfl) ?_ (.int _ _)
        simp [hx', Builtin.len_, ht, run_underlying hu, goInt]
      · cases h
    · cases h
  · rename_i k e hu
    obtain ⟨ox, hx, rfl⟩ := c1_inv hc
    simp only [xop] at h
    split at h
    · rename_i hv
      simp at h; obtain ⟨rfl, rfl⟩ := h
      have hr := opd_sound hA hx hv
      cases hx' : ca.eval x <;> rw [hx'] at hr <;> cases hr
      refine yes_value (v := .int .i64 (0 : Int)) hR (by simp only [execOp, ho]; rfl) ?_ (.int _ _)
      simp [hx', Builtin.len_, ht, run_underlying hu, goInt]
    · rename_i id hv
      split at h
      · rename_i es cl hg
        simp at h; obtain ⟨rfl, rfl⟩ := h
        have hr := opd_sound hA hx hv
        cases hx' : ca.eval x <;> rw [hx'] at hr
        all_goals (try (cases hr; done))
        rename_i m
        obtain ⟨L, ces, hL, rfl, h1, h2⟩ := map_at hR hr hg
        refine yes_value (v := .int .i64 (ces.size : Int)) hR (by simp only [execOp, ho]; rfl) ?_ (by rw [h2.get]; simp; exact .int _ _)
        simp [hx', Builtin.len_, ht, run_underlying hu, goInt, run_getObj_map h1]
      · cases h
    · cases h

theorem y_cap {args : Array Operand} {ts : Array TypeId} (ho : o.op = .call { callee := .builtin .cap, args, argTypes := ts }) (hc : cBuiltin P .cap ts args.toList = some c) (h : xop a.tmps aw c = some (r, aw')) (hA : ActRel E a ca) (hR : Rel E aw w) : Yes P o E ca w r aw' := by
  unfold cBuiltin at hc
  split at hc <;> (try (cases hc; done)) <;> rename_i hb ha <;> (try (cases hb; done))
  have := toList_one ha; subst this
  rename_i x
  split at hc <;> (try (cases hc; done))
  rename_i t ht
  split at hc <;> (try (cases hc; done))
  rename_i e hu
  obtain ⟨ox, hx, rfl⟩ := c1_inv hc
  simp only [xop] at h
  split at h
  · rename_i ba ln cp hv
    simp at h; obtain ⟨rfl, rfl⟩ := h
    have hr := opd_sound hA hx hv
    have : ∃ b l, ca.eval x = .slice b l cp := by cases hx' : ca.eval x <;> rw [hx'] at hr <;> cases hr <;> exact ⟨_, _, rfl⟩
    obtain ⟨b, l, hx'⟩ := this
    refine yes_value (v := .int .i64 (cp : Int)) hR (by simp only [execOp, ho]; rfl) ?_ (.int _ _)
    simp [hx', Builtin.cap_, ht, run_underlying hu, goInt]
  · cases h

theorem y_min {args : Array Operand} {ts : Array TypeId} (ho : o.op = .call { callee := .builtin .min, args, argTypes := ts }) (hc : cBuiltin P .min ts args.toList = some c) (h : xop a.tmps aw c = some (r, aw')) (hA : ActRel E a ca) (hR : Rel E aw w) : Yes P o E ca w r aw' := by
  unfold cBuiltin at hc
  split at hc <;> (try (cases hc; done)) <;> rename_i hb ha <;> (try (cases hb; done))
  have := toList_two ha; subst this
  rename_i x y
  obtain ⟨ox, oy, hx, hy, rfl⟩ := c2_inv hc
  simp only [xop] at h
  split at h
  · rename_i k u hu
    split at h
    · rename_i k' v hv
      simp at h; obtain ⟨rfl, rfl⟩ := h
      have h1 := opd_sound hA hx hu
      have h2 := opd_sound hA hy hv
      cases hx' : ca.eval x <;> rw [hx'] at h1 <;> cases h1
      cases hy' : ca.eval y <;> rw [hy'] at h2 <;> cases h2
      refine yes_value (v := .int k (if v < u then v else u)) hR (by simp only [execOp, ho]; rfl) ?_ ?_
      · simp [hx', hy', Builtin.min_, Builtin.min2]
      · rw [ilt_eq]; by_cases hh : v < u <;> simp [hh] <;> exact .int _ _
    · cases h
  · cases h
theorem y_max {args : Array Operand} {ts : Array TypeId} (ho : o.op = .call { callee := .builtin .max, args, argTypes := ts }) (hc : cBuiltin P .max ts args.toList = some c) (h : xop a.tmps aw c = some (r, aw')) (hA : ActRel E a ca) (hR : Rel E aw w) : Yes P o E ca w r aw' := by
  unfold cBuiltin at hc
  split at hc <;> (try (cases hc; done)) <;> rename_i hb ha <;> (try (cases hb; done))
  have := toList_two ha; subst this
  rename_i x y
  obtain ⟨ox, oy, hx, hy, rfl⟩ := c2_inv hc
  simp only [xop] at h
  split at h
  · rename_i k u hu
    split at h
    · rename_i k' v hv
      simp at h; obtain ⟨rfl, rfl⟩ := h
      have h1 := opd_sound hA hx hu
      have h2 := opd_sound hA hy hv
      cases hx' : ca.eval x <;> rw [hx'] at h1 <;> cases h1
      cases hy' : ca.eval y <;> rw [hy'] at h2 <;> cases h2
      refine yes_value (v := .int k (if u < v then v else u)) hR (by simp only [execOp, ho]; rfl) ?_ ?_
      · simp [hx', hy', Builtin.max_, Builtin.max2]
      · rw [ilt_eq]; by_cases hh : u < v <;> simp [hh] <;> exact .int _ _
    · cases h
  · cases h

theorem y_delete {args : Array Operand} {ts : Array TypeId} (ho : o.op = .call { callee := .builtin .delete, args, argTypes := ts }) (hc : cBuiltin P .delete ts args.toList = some c) (h : xop a.tmps aw c = some (r, aw')) (hA : ActRel E a ca) (hR : Rel E aw w) : Yes P o E ca w r aw' := by
  unfold cBuiltin at hc
  split at hc <;> (try (cases hc; done)) <;> rename_i hb ha <;> (try (cases hb; done))
  have := toList_two ha; subst this
  rename_i m k
  split at hc <;> (try (cases hc; done))
  rename_i t ht
  split at hc <;> (try (cases hc; done))
  rename_i kt e hu
  split at hc <;> (try (cases hc; done))
  rename_i kd hk
  obtain ⟨om, ok, hm, hk', rfl⟩ := c2_inv hc
  simp only [xop] at h
  split at h
  · rename_i mv hmv
    split at h
    · rename_i kk n hkv
      split at h
      · rename_i id es clock hxm
        have hq := opd_sound hA hk' hkv
        cases hk2 : ca.eval k <;> rw [hk2] at hq <;> cases hq
        obtain ⟨hg, L, ces, hL, hb, e1, h1, h2⟩ := xmap_sound hxm hR (opd_sound hA hm hmv)
        split at h
        · rename_i j val hf
          simp at h; obtain ⟨rfl, rfl⟩ := h
          obtain ⟨m', f, e', ej, f1, f2, _, _, _, f6⟩ := xfind_sound (kt := kt) (kd := kd) hf h2
          rw [Nat.zero_add] at ej; subst ej
          refine yes_value' (v := .tuple #[]) (.refl E) (rel_setMap (ces' := ces.eraseIdxIfInBounds j) hR hg hL hb h1 ?_) (by simp only [execOp, ho]; rfl) ?_ (.tuple .nil)
          · rw [Array.toList_eraseIdxIfInBounds]; exact ERel.del _ h2
          · simp [hk2, e1, Builtin.delete_, ht, run_underlying hu, run_getObj_map h1, run_checkKey_int hk _ _ ⟨kk, n, rfl⟩, run_findKey_int hk f1, run_setObj_map h1]
        · rename_i hf
          simp at h; obtain ⟨rfl, rfl⟩ := h
          have f1 := xfind_sound (kt := kt) (kd := kd) hf h2
          refine yes_value' (v := .tuple #[]) (.refl E) (rel_setMap (ces' := ces) hR hg hL hb h1 h2) (by simp only [execOp, ho]; rfl) ?_ (.tuple .nil)
          simp [hk2, e1, Builtin.delete_, ht, run_underlying hu, run_getObj_map h1, run_checkKey_int hk _ _ ⟨kk, n, rfl⟩, run_findKey_int hk f1, run_setObj_map h1]
        · cases h
      · cases h
    · cases h
  · cases h

theorem zc_size (z : Array Value) (n : Nat) : (Builtin.zeroCells z n).size = n * z.size := by simp [Builtin.zeroCells]

theorem y_append {args : Array Operand} {ts : Array TypeId} (ho : o.op = .call { callee := .builtin .append, args, argTypes := ts }) (hc : cBuiltin P .append ts args.toList = some c) (h : xop a.tmps aw c = some (r, aw')) (hA : ActRel E a ca) (hR : Rel E aw w) : Yes P o E ca w r aw' := by
  unfold cBuiltin at hc
  split at hc <;> (try (cases hc; done)) <;> rename_i hb ha <;> (try (cases hb; done))
  have := toList_two ha; subst this
  rename_i x y
  split at hc <;> (try (cases hc; done))
  rename_i t ht
  split at hc <;> (try (cases hc; done))
  rename_i e i hs
  obtain ⟨hu, hi⟩ := sliceOf_inv hs
  split at hc <;> (try (cases hc; done))
  rename_i u ht1
  have slcx : ∀ {s : AV} {q : AV} {n new}, VRel E s (ca.eval x) → xappend aw e i.size i.bytes s n new = some (q, aw') → ∃ ba l cp, ca.eval x = .slice ba l cp := by
    intro s q n new hr hx
    unfold xappend at hx
    split at hx
    all_goals first
      | (cases hx' : ca.eval x <;> rw [hx'] at hr <;> cases hr <;> exact ⟨_, _, _, rfl⟩)
      | cases hx
  split at hc <;> (try (cases hc; done))
  · rename_i e2 hu2
    split at hc <;> (try (cases hc; done))
    rename_i z az hz
    cases hzs : Nat.beq z.cells.size i.size <;> simp only [hzs, cond_true, cond_false, reduceCtorEq] at hc
    have hzs := Nat.eq_of_beq_eq_true hzs
    obtain ⟨ox, oy, hx, hy, rfl⟩ := c2_inv hc
    simp only [xop] at h
    split at h <;> (try (cases h; done))
    rename_i s hsv
    split at h <;> (try (cases h; done))
    rename_i v hv
    split at h <;> (try (cases h; done))
    rename_i n hn
    split at h <;> (try (cases h; done))
    rename_i new hnew
    have r1 := opd_sound hA hx hsv
    have r2 := opd_sound hA hy hv
    obtain ⟨ba, l, cp, hx'⟩ := slcx r1 h
    have hyy : ∃ bb cp2, ca.eval y = .slice bb n cp2 := by
      unfold xlen at hn
      split at hn <;> simp at hn
      subst hn
      cases hy' : ca.eval y <;> rw [hy'] at r2 <;> cases r2 <;> exact ⟨_, _, rfl⟩
    obtain ⟨bb, cp2, hy'⟩ := hyy
    rw [hx'] at r1
    rw [hy'] at r2
    obtain ⟨vs, hrun, hrel, hll, _⟩ := xcells_sound (P := P) hnew hR r2
    have hlen : ∀ w' : World, (Builtin.lenOf (.slice bb n cp2)).run P w' = .ok n w' := fun w' => rfl
    obtain ⟨E', w', v', hle, hR', hS, hv'⟩ := xappend_sound (P := P) (S := Builtin.append_ ts o.type #[.slice ba l cp, .slice bb n cp2]) (bytes := i.bytes) hR r1 hrel hll
      (fun hfit => run_append_fit ht ht1 hu hi hu2 (fun k e => by cases e) (hlen w) (hrun w rfl) hfit)
      (fun old hold hlt s1 s2 => by
        obtain ⟨cap, k1, k2⟩ := run_append_more (P := P) (w := w) (ty := o.type) ht ht1 hu hi hu2 (fun k e => by cases e) hz (fun w' _ => hlen w') hrun hold hlt s1 s2
        exact ⟨cap, _, k1, by rw [zc_size, hzs], k2⟩) h
    refine yes_value' hle hR' (by simp only [execOp, ho]; rfl) ?_ hv'
    simpa [hx', hy'] using hS
  · rename_i kk hu2
    split at hc <;> (try (cases hc; done))
    rename_i z az hz
    split at hc <;> (try (cases hc; done))
    rename_i cs hcs
    cases hzs : (Nat.beq cs.length i.size && allOne cs) <;> simp only [hzs, cond_true, cond_false, reduceCtorEq] at hc
    simp only [Bool.and_eq_true] at hzs
    have hcl := Nat.eq_of_beq_eq_true hzs.1
    obtain ⟨ox, oy, hx, hy, rfl⟩ := c2_inv hc
    simp only [xop] at h
    split at h <;> (try (cases h; done))
    rename_i s hsv
    split at h <;> (try (cases h; done))
    rename_i v hv
    split at h <;> (try (cases h; done))
    rename_i n hn
    cases hnb : small n i.bytes <;> simp only [hnb, cond_true, cond_false, reduceCtorEq] at h
    obtain ⟨hnb, hnb2⟩ := small_inv hnb
    rw [hcl] at h
    have r1 := opd_sound hA hx hsv
    have r2 := opd_sound hA hy hv
    obtain ⟨ba, l, cp, hx'⟩ := slcx r1 h
    unfold xnat at hn
    split at hn <;> simp at hn
    rename_i k m
    subst hn
    cases hy' : ca.eval y <;> rw [hy'] at r2 <;> cases r2
    rw [hx'] at r1
    have hzl := (zeroP_rel hz E).cells hcs
    have hzz : z.cells.size = i.size := by have := hzl.length; simp only [Array.length_toList] at this; omega
    have hrel : LRel E (repCells cs m) (if m * i.size = 0 then [] else (Builtin.zeroCells z.cells m).toList) := by
      by_cases h0 : m * i.size = 0
      · have : (repCells cs m) = [] := by
          have := (repCells_rel hzl m).length
          simp only [List.length_flatten, List.map_replicate, List.sum_replicate_nat, Array.length_toList, hzz, h0] at this
          exact List.length_eq_zero_iff.1 this
        rw [this, if_pos h0]; exact .nil
      · rw [if_neg h0]
        unfold Builtin.zeroCells
        rw [range_mod z.cells (by intro e; rw [hzz] at e; rw [e] at h0; simp at h0)]
        exact repCells_rel hzl m
    have hll : (repCells cs m).length = m * i.size := by
      have := (repCells_rel hzl m).length
      simp only [List.length_flatten, List.map_replicate, List.sum_replicate_nat, Array.length_toList, hzz] at this
      exact this
    obtain ⟨E', w', v', hle, hR', hS, hv'⟩ := xappend_sound (P := P) (S := Builtin.append_ ts o.type #[.slice ba l cp, .int k (Int.ofNat m)]) (bytes := i.bytes) hR r1 hrel hll
      (fun hfit => run_append_zfit ht ht1 hu hi hu2 hz hnb hnb2 rfl hfit)
      (fun old hold hlt s1 s2 => by
        obtain ⟨cap, k1, k2⟩ := run_append_zmore (P := P) (w := w) (ty := o.type) (k := k) ht ht1 hu hi hu2 hz hnb rfl hold hlt s1 s2
        exact ⟨cap, _, k1, by rw [zc_size, hzz], k2⟩) h
    refine yes_value' hle hR' (by simp only [execOp, ho]; rfl) ?_ hv'
    simpa [hx', hy'] using hS

theorem y_copy {args : Array Operand} {ts : Array TypeId} (ho : o.op = .call { callee := .builtin .copy, args, argTypes := ts }) (hc : cBuiltin P .copy ts args.toList = some c) (h : xop a.tmps aw c = some (r, aw')) (hA : ActRel E a ca) (hR : Rel E aw w) : Yes P o E ca w r aw' := by
  unfold cBuiltin at hc
  split at hc <;> (try (cases hc; done)) <;> rename_i hb ha <;> (try (cases hb; done))
  have := toList_two ha; subst this
  rename_i x y
  split at hc <;> (try (cases hc; done))
  rename_i t ht
  split at hc <;> (try (cases hc; done))
  rename_i e i hs
  obtain ⟨hu, hi⟩ := sliceOf_inv hs
  obtain ⟨ox, oy, hx, hy, rfl⟩ := c2_inv hc
  simp only [xop] at h
  split at h <;> (try (cases h; done))
  rename_i b len cap hsv
  split at h <;> (try (cases h; done))
  rename_i v hv
  split at h <;> (try (cases h; done))
  rename_i m hm
  split at h <;> (try (cases h; done))
  rename_i cs hcs
  have r1 := opd_sound hA hx hsv
  have r2 := opd_sound hA hy hv
  have hxx : ∃ ba cp, ca.eval x = .slice ba len cp ∧ VRel E (.slc b len cap) (.slice ba len cp) := by
    cases hx' : ca.eval x <;> rw [hx'] at r1
    all_goals (try (cases r1; done))
    have r1' := r1
    cases r1 <;> exact ⟨_, _, rfl, r1'⟩
  obtain ⟨ba, cp, hx', r1'⟩ := hxx
  have hyy : ∃ bb cp2, ca.eval y = .slice bb m cp2 := by
    unfold xlen at hm
    split at hm <;> simp at hm
    subst hm
    cases hy' : ca.eval y <;> rw [hy'] at r2 <;> cases r2 <;> exact ⟨_, _, rfl⟩
  obtain ⟨bb, cp2, hy'⟩ := hyy
  rw [hy'] at r2
  obtain ⟨vs, hrun, hrel, hll, _⟩ := xcells_sound (P := P) hcs hR r2
  have hbase : (Builtin.copy_ ts o.type #[.slice ba len cp, .slice bb m cp2]).run P w = ((match ba with | some a => (storeCells a vs).run P w | none => .ok () w).andThen fun _ w' => .ok (goInt (Nat.min m len)) w') := by
    simp only [Builtin.copy_, ht, Sem.run_bind, run_underlying hu, Result.andThen_ok, Builtin.lenOf, Sem.run_pure, run_sizeOf' hi, hrun w rfl, List.getElem?_toArray, List.getElem?_cons_zero, List.getElem?_cons_succ]
    cases ba <;> simp
  split at h
  · simp at h; obtain ⟨rfl, rfl⟩ := h
    cases r1'
    refine yes_value (v := .int .i64 (Nat.min m 0 : Int)) hR (by simp only [execOp, ho]; rfl) ?_ (.int _ _)
    have := hbase
    simpa [hx', hy', goInt] using this
  · rename_i id of
    cases hz : Nat.beq (Nat.min m len) 0 with
    | true =>
      simp only [hz, cond_true, Option.some.injEq, Prod.mk.injEq] at h
      obtain ⟨rfl, rfl⟩ := h
      have hz := Nat.eq_of_beq_eq_true hz
      have hv0 : vs = [] := by
        have := hrel.length
        rw [hll, hz] at this
        simp at this
        exact List.length_eq_zero_iff.1 this.symm
      subst hv0
      refine yes_value (v := .int .i64 ((0 : Nat) : Int)) hR (by simp only [execOp, ho]; rfl) ?_ (.int _ _)
      rw [hz] at hbase
      have h2 : (match ba with | some a => (storeCells a []).run P w | none => .ok () w) = .ok () w := by cases ba <;> rfl
      rw [h2] at hbase
      simpa [hx', hy', goInt] using hbase
    | false =>
      simp only [hz, cond_false] at h
      have hz := ne_of_beq hz
      split at h <;> (try (cases h; done))
      rename_i l e' opn hg
      cases hq : (Nat.ble (of + cs.length) l.length && allOne cs) <;> simp only [hq, cond_true, cond_false, reduceCtorEq, Option.some.injEq, Prod.mk.injEq] at h
      obtain ⟨rfl, rfl⟩ := h
      simp only [Bool.and_eq_true] at hq
      have hml : Nat.min m len ≤ len := Nat.min_le_right _ _
      have hex : ∃ L, E.loc[id]? = some L ∧ ba = some ⟨L.block, L.base + of, none⟩ := by
        cases r1' with
        | slc hL hd => exact ⟨_, hL, by rw [hd.resolve_left (by omega)]⟩
        | slcUp hL hl hlo hd => exact ⟨_, hL, by rw [(hd.resolve_left (by omega)).1]⟩
      obtain ⟨L, hL, rfl⟩ := hex
      obtain ⟨w', hrun2, hR'⟩ := store_cells (P := P) hR hL hg hrel hq.2 (Nat.le_of_ble_eq_true hq.1)
      refine yes_value' (v := .int .i64 ((Nat.min m len : Nat) : Int)) (.refl E) hR' (by simp only [execOp, ho]; rfl) ?_ (.int _ _)
      simp only [hrun2, Result.andThen_ok] at hbase
      simpa [hx', hy', goInt] using hbase

theorem y_clear {args : Array Operand} {ts : Array TypeId} (ho : o.op = .call { callee := .builtin .clear, args, argTypes := ts }) (hc : cBuiltin P .clear ts args.toList = some c) (h : xop a.tmps aw c = some (r, aw')) (hA : ActRel E a ca) (hR : Rel E aw w) : Yes P o E ca w r aw' := by
  unfold cBuiltin at hc
  split at hc <;> (try (cases hc; done)) <;> rename_i hb ha <;> (try (cases hb; done))
  have := toList_one ha; subst this
  rename_i x
  split at hc <;> (try (cases hc; done))
  rename_i t ht
  split at hc <;> (try (cases hc; done))
  rename_i e i hs
  obtain ⟨hu, hi⟩ := sliceOf_inv hs
  split at hc <;> (try (cases hc; done))
  rename_i z az hz
  split at hc <;> (try (cases hc; done))
  rename_i cs hcs
  obtain ⟨ox, hx, rfl⟩ := c1_inv hc
  simp only [xop] at h
  split at h <;> (try (cases h; done))
  · rename_i ln cp hsv
    simp at h; obtain ⟨rfl, rfl⟩ := h
    have r1 := opd_sound hA hx hsv
    cases hx' : ca.eval x <;> rw [hx'] at r1 <;> cases r1
    refine yes_value (v := .tuple #[]) hR (by simp only [execOp, ho]; rfl) ?_ (.tuple .nil)
    simp [hx', Builtin.clear_, ht, run_underlying hu]
  · rename_i id of len cp hsv
    have r1 := opd_sound hA hx hsv
    have hxx : ∃ ad c2, ca.eval x = .slice (some ad) len c2 ∧ (len ≠ 0 → ∃ L, E.loc[id]? = some L ∧ ad = ⟨L.block, L.base + of, none⟩) := by
      cases hx' : ca.eval x <;> rw [hx'] at r1
      all_goals (try (cases r1; done))
      cases r1 with
      | slc hL hd => exact ⟨_, _, rfl, fun hn => ⟨_, hL, hd.resolve_left (by omega)⟩⟩
      | slcUp hL hl hlo hd => exact ⟨_, _, rfl, fun hn => ⟨_, hL, (hd.resolve_left (by omega)).1⟩⟩
    obtain ⟨ad, c2, hx', hL'⟩ := hxx
    cases h0 : Nat.beq len 0 with
    | true =>
      simp only [h0, cond_true, Option.some.injEq, Prod.mk.injEq] at h
      obtain ⟨rfl, rfl⟩ := h
      have := Nat.eq_of_beq_eq_true h0; subst this
      refine yes_value (v := .tuple #[]) hR (by simp only [execOp, ho]; rfl) ?_ (.tuple .nil)
      simp [hx', Builtin.clear_, ht, run_underlying hu]
    | false =>
      simp only [h0, cond_false] at h
      have h0 := ne_of_beq h0
      obtain ⟨L, hL, rfl⟩ := hL' h0
      split at h <;> (try (cases h; done))
      rename_i l e' opn hg
      cases hq : (Nat.ble (of + (repCells cs len).length) l.length && allOne cs) <;> simp only [hq, cond_true, cond_false, reduceCtorEq, Option.some.injEq, Prod.mk.injEq] at h
      obtain ⟨rfl, rfl⟩ := h
      simp only [Bool.and_eq_true] at hq
      have hzl := (zeroP_rel hz E).cells hcs
      have hrel : LRel E (repCells cs len) (Builtin.zeroCells z.cells len).toList := by
        unfold Builtin.zeroCells
        by_cases hzz : z.cells.size = 0
        · have : z.cells = #[] := Array.size_eq_zero_iff.1 hzz
          have hz2 := repCells_rel hzl len
          rw [this] at hz2 ⊢
          simpa [Array.range_zero'] using hz2
        · rw [range_mod z.cells hzz]
          exact repCells_rel hzl len
      have hone : ∀ n, allOne (repCells cs n) = true := by
        have happ : ∀ l m, allOne l = true → allOne m = true → allOne (l ++ m) = true := by
          intro l
          induction l with
          | nil => intro m _ hm; exact hm
          | cons a l ih =>
            intro m hl hm
            simp only [allOne] at hl
            cases ha : a.one <;> simp [ha] at hl
            simp only [List.cons_append, allOne, ha, cond_true]
            exact ih m hl hm
        intro n
        induction n with
        | zero => rfl
        | succ n ih => exact happ _ _ hq.2 ih
      obtain ⟨w', hrun2, hR'⟩ := store_cells (P := P) hR hL hg hrel (hone len) (Nat.le_of_ble_eq_true hq.1)
      refine yes_value' (v := .tuple #[]) (.refl E) hR' (by simp only [execOp, ho]; rfl) ?_ (.tuple .nil)
      have : ∃ n, len = n + 1 := ⟨len - 1, by omega⟩
      obtain ⟨n, rfl⟩ := this
      simp [hx', Builtin.clear_, ht, run_underlying hu, run_zeroValue' hz, hrun2]
end
end Go.Proofs.YtbilacojhmohmaaGreat.Ae
