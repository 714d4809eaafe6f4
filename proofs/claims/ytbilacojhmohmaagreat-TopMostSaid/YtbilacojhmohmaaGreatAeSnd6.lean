/- The evaluator's operations are sound: bytes as a string, maps that are written, map iterators. No condition. -/
import Derived.Test.YtbilacojhmohmaaGreatAeSnd5
namespace Go.Proofs.YtbilacojhmohmaaGreat.Ae
open Go
set_option linter.unusedVariables false
set_option linter.unusedSimpArgs false

section
variable {P : Program} {o : Oper} {E : Env} {a : AAct} {ca : Act} {aw aw' : AW} {w : World} {r : AV} {c : COp}

theorem allU8_sound : ∀ {l : List AV} {vs : List Value}, allU8 l = true → LRel E l vs → ∃ ns : List Int, vs = ns.map (Value.int .u8) ∧ ∀ n ∈ ns, 0 ≤ n ∧ n ≤ 255
  | [], _, _, .nil => ⟨[], rfl, by simp⟩
  | x :: l, _, h, .cons hx hl => by
    cases x <;> try (simp only [allU8, Bool.false_eq_true] at h; done)
    · rename_i k n
      cases n <;> simp only [allU8, Bool.false_eq_true, Bool.and_eq_true] at h
      rename_i n
      obtain ⟨hk, hn, ht⟩ := h
      have := kc_inj (b := .u8) hk; subst this
      have hn := Nat.le_of_ble_eq_true hn
      obtain ⟨ns, rfl, hns⟩ := allU8_sound ht hl
      cases hx
      refine ⟨Int.ofNat n :: ns, rfl, fun m hm => ?_⟩
      rcases List.mem_cons.1 hm with rfl | hm
      · have : (Int.ofNat n : Int) = (n : Int) := rfl
        omega
      · exact hns m hm
    · rename_i k j
      simp only [allU8, Bool.and_eq_true] at h
      have := kc_inj (b := .u8) h.1; subst this
      obtain ⟨ns, rfl, hns⟩ := allU8_sound h.2 hl
      cases hx with
      | sym _ h1 h2 =>
        rename_i n
        refine ⟨n :: ns, rfl, fun m hm => ?_⟩
        rcases List.mem_cons.1 hm with rfl | hm
        · simp [IntKind.wrap, IntKind.bits, IntKind.signed] at h2
          omega
        · exact hns m hm

theorem push_bytes : ∀ (ns : List Int) (acc : ByteArray), (∀ n ∈ ns, 0 ≤ n ∧ n ≤ 255) →
    ((ns.foldl (fun r n => r.push (UInt8.ofNat n.toNat)) acc).data.toList.map fun b => Value.int .u8 (b.toNat : Int)) = (acc.data.toList.map fun b => Value.int .u8 (b.toNat : Int)) ++ ns.map (Value.int .u8)
  | [], acc, _ => by simp
  | n :: ns, acc, h => by
    rw [List.foldl_cons, push_bytes ns _ fun m hm => h m (by simp [hm])]
    have hn := h n (by simp)
    have : ((UInt8.ofNat n.toNat).toNat : Int) = n := by simp; omega
    rw [show ((acc.push (UInt8.ofNat n.toNat)).data.toList) = acc.data.toList ++ [UInt8.ofNat n.toNat] from by simp]
    simp only [List.map_append, List.map_cons, List.map_nil, this, List.append_assoc, List.singleton_append]

theorem y_b2s {s d : TypeId} {x : Operand} {ox : Opd} (ho : o.op = .convert s d x) (hc : cOp P o = some (.b2s ox)) (h : xop a.tmps aw (.b2s ox) = some (r, aw')) (hA : ActRel E a ca) (hR : Rel E aw w) : Yes P o E ca w r aw' := by
  simp only [cOp, ho] at hc
  split at hc
  · obtain ⟨_, _, hh⟩ := c1_inv hc; cases hh
  · rename_i e hs hd
    split at hc
    · rename_i he
      obtain ⟨ox', hx, hh⟩ := c1_inv hc
      injection hh with hh; subst hh
      simp only [xop] at h
      split at h
      · rename_i b len cap hv
        split at h
        · rename_i l hl
          cases hu : allU8 l <;> simp only [hu, cond_true, cond_false, reduceCtorEq, Option.some.injEq, Prod.mk.injEq] at h
          obtain ⟨rfl, rfl⟩ := h
          have hr := opd_sound hA hx hv
          cases hx' : ca.eval x <;> rw [hx'] at hr
          all_goals (try (cases hr; done))
          rename_i ba len' cap'
          have hlen : len' = len := by cases hr <;> rfl
          subst hlen
          obtain ⟨vs, _, hrel, hll, hload, hnone⟩ := xcells_sound (P := P) hl hR hr
          obtain ⟨ns, rfl, hns⟩ := allU8_sound hu hrel
          have hpb := push_bytes ns ByteArray.empty hns
          have hout : (Conv.bytesToString (.slice ba len' cap')).run P w = .ok (.string (ns.foldl (fun r n => r.push (UInt8.ofNat n.toNat)) ByteArray.empty)) w := by
            cases ba with
            | none =>
              obtain ⟨_, hv0⟩ := hnone rfl
              have : ns = [] := by simpa using hv0
              subst this
              rfl
            | some b' => exact run_bytesToString w b' len' cap' ns (by simpa using hload b' rfl)
          refine yes_value (v := .string (ns.foldl (fun r n => r.push (UInt8.ofNat n.toNat)) ByteArray.empty)) hR (by simp only [execOp, ho]; rfl) ?_ (.str ?_)
          · simp only [hx', convert, Sem.run_bind, run_underlying hs, run_underlying hd, run_underlying he, Result.andThen_ok, hout]
          · rw [hpb]; simpa using hrel
        · cases h
      · cases h
    · cases hc
  · split at hc
    · rename_i he
      cases hsd : Nat.beq s d <;> simp only [hsd, cond_true, cond_false, reduceCtorEq] at hc
      obtain ⟨_, _, hh⟩ := c1_inv hc; cases hh
    · cases hc
  · cases hc

theorem ERel.get : ∀ {es : List AEnt} {ces : List MapEntry}, ERel E es ces → es.length = ces.length
  | _, _, .nil => rfl
  | _, _, .cons _ _ _ t => by simp [ERel.get t]
theorem ERel.put {key v : AV} {ck cv : Value} (hk : VRel E key ck) (hv : VRel E v cv) : ∀ {es : List AEnt} {ces : List MapEntry} (i : Nat), ERel E es ces → ERel E (entPut key v es i) (ces.modify i fun e => { e with key := ck, val := cv })
  | _, _, i, .nil => by cases i <;> simp [entPut] <;> exact .nil
  | _, _, 0, .cons h1 h2 h3 t => by simp only [entPut, List.modify_zero_cons]; exact .cons hk hv h3 t
  | _, _, i + 1, .cons h1 h2 h3 t => by simp only [entPut, List.modify_succ_cons]; exact .cons h1 h2 h3 (ERel.put hk hv i t)
theorem ERel.del : ∀ {es : List AEnt} {ces : List MapEntry} (i : Nat), ERel E es ces → ERel E (entDel es i) (ces.eraseIdx i)
  | _, _, i, .nil => by cases i <;> simp [entDel] <;> exact .nil
  | _, _, 0, .cons h1 h2 h3 t => t
  | _, _, i + 1, .cons h1 h2 h3 t => by simp only [entDel, List.eraseIdx_cons_succ]; exact .cons h1 h2 h3 (ERel.del i t)
theorem ERel.push {e : AEnt} {f : MapEntry} (hk : VRel E e.key f.key) (hv : VRel E e.val f.val) (hb : e.born = f.born) : ∀ {es : List AEnt} {ces : List MapEntry}, ERel E es ces → ERel E (es ++ [e]) (ces ++ [f])
  | _, _, .nil => .cons hk hv hb .nil
  | _, _, .cons h1 h2 h3 t => .cons h1 h2 h3 (ERel.push hk hv hb t)

theorem xmap_sound {mv : AV} {m : Value} {id : Nat} {es : List AEnt} {clock : Nat} (h : xmap aw mv = some (id, es, clock)) (hR : Rel E aw w) (hv : VRel E mv m) :
    aw.get id = some (.map es clock) ∧ ∃ L ces, E.loc[id]? = some L ∧ L.base = 0 ∧ m = .map (some L.block) ∧ w.heap[L.block]? = some (.map ces clock) ∧ ERel E es ces.toList := by
  unfold xmap at h
  split at h
  · split at h
    · rename_i hg
      simp at h; obtain ⟨rfl, rfl, rfl⟩ := h
      cases hv with
      | map hL hb =>
        obtain ⟨L', hL', _, ces, h1, h2⟩ := hR.obj _ _ hg
        rw [hL] at hL'; injection hL' with hL'; subst hL'
        exact ⟨hg, _, ces, hL, hb, rfl, h1, h2⟩
    · cases h
  · cases h

theorem rel_setMap {id : Nat} {L : Loc} {es es' : List AEnt} {clock clock' : Nat} {ces' : Array MapEntry} {ces : Array MapEntry} (hR : Rel E aw w) (hg : aw.get id = some (.map es clock)) (hL : E.loc[id]? = some L) (hb : L.base = 0)
    (h1 : w.heap[L.block]? = some (.map ces clock)) (h2 : ERel E es' ces'.toList) : Rel E (aw.set id (.map es' clock')) { w with heap := w.heap.setIfInBounds L.block (.map ces' clock') } := by
  have hlt := (Array.getElem?_eq_some_iff.1 h1).1
  refine hR.update ⟨rfl, rfl⟩ hg rfl hL (fun b hne => ?_) ⟨hb, ces', ?_, h2⟩
  · exact Array.getElem?_setIfInBounds_ne (Ne.symm hne)
  · exact Array.getElem?_setIfInBounds_self_of_lt hlt

theorem run_mapUpdate {t kt e : TypeId} {kd : IntKind} {b : Nat} {ces : Array MapEntry} {clock : Nat} (hu : P.underlying t = some (.map kt e)) (hk : P.underlying kt = some (.int kd)) (h1 : w.heap[b]? = some (.map ces clock)) (kk : IntKind) (n : Int) (v : Value) :
    (∀ j val f, Instr.findNow (.int kd) (.int kk n) ces.toList 0 = some (some (j, val)) → ces[j]? = some f → f.key = .int kk n →
      (Instr.mapUpdate t (.map (some b)) (.int kk n) v).run P w = .ok () { w with heap := w.heap.setIfInBounds b (.map (ces.modify j fun e => { e with key := .int kk n, val := v }) clock) }) ∧
    (Instr.findNow (.int kd) (.int kk n) ces.toList 0 = some none →
      (Instr.mapUpdate t (.map (some b)) (.int kk n) v).run P w = .ok () { w with heap := w.heap.setIfInBounds b (.map (ces.push { key := .int kk n, val := v, born := clock }) (clock + 1)) }) := by
  constructor
  · intro j val f hf hj hkey
    simp only [Instr.mapUpdate, Sem.run_bind, run_underlying hu, Result.andThen_ok, run_getObj_map h1, run_checkKey_int hk _ _ ⟨kk, n, rfl⟩, run_findKey_int hk hf, hj, Option.map_some, Option.getD_some, hkey]
    have : (Instr.keyThatStays (.int kk n) (.int kk n)).run P w = .ok (.int kk n) w := by
      unfold Instr.keyThatStays
      have : Instr.sameBits 10000 (.int kk n) (.int kk n) = true := by simp [Instr.sameBits]
      rw [if_pos this]; rfl
    rw [this]
    simp only [Result.andThen_ok, run_setObj_map h1]
  · intro hf
    simp only [Instr.mapUpdate, Sem.run_bind, run_underlying hu, Result.andThen_ok, run_getObj_map h1, run_checkKey_int hk _ _ ⟨kk, n, rfl⟩, run_findKey_int hk hf, run_setObj_map h1]

theorem y_mapset {t : TypeId} {m k v : Operand} (ho : o.op = .mapUpdate t m k v ∨ o.op = .insert t m k v) (hc : cOp P o = some c) (h : xop a.tmps aw c = some (r, aw')) (hA : ActRel E a ca) (hR : Rel E aw w) : Yes P o E ca w r aw' := by
  have hex : execOp ca.eval o = (do Instr.mapUpdate t (ca.eval m) (ca.eval k) (ca.eval v); pure .skip) := by rcases ho with ho | ho <;> simp only [execOp, ho]
  have key : ∃ kt e kd om, P.underlying t = some (.map kt e) ∧ P.underlying kt = some (.int kd) ∧ cOpd m = some om ∧ c2 (.mapset om) k v = some c := by
    rcases ho with ho | ho <;> simp only [cOp, ho] at hc <;> split at hc <;> (try (cases hc; done)) <;> split at hc <;> (try (cases hc; done)) <;> split at hc <;> (try (cases hc; done)) <;> exact ⟨_, _, _, _, by assumption, by assumption, by assumption, hc⟩
  obtain ⟨kt, e, kd, om, hu, hk, hm, hc'⟩ := key
  obtain ⟨ok', ov, hk', hv', rfl⟩ := c2_inv hc'
  simp only [xop] at h
  split at h
  · rename_i mv hmv
    split at h
    · rename_i kk n hkv
      split at h
      · rename_i x hxv
        split at h
        · rename_i id es clock hxm
          have hq := opd_sound hA hk' hkv
          cases hk2 : ca.eval k <;> rw [hk2] at hq <;> cases hq
          have hx := opd_sound hA hv' hxv
          obtain ⟨hg, L, ces, hL, hb, e1, h1, h2⟩ := xmap_sound hxm hR (opd_sound hA hm hmv)
          obtain ⟨r1, r2⟩ := run_mapUpdate (P := P) (w := w) hu hk h1 kk n (ca.eval v)
          split at h
          · rename_i j val hf
            simp at h; obtain ⟨rfl, rfl⟩ := h
            obtain ⟨m', f, e', ej, f1, f2, _, _, _, f6⟩ := xfind_sound (kt := kt) (kd := kd) hf h2
            rw [Nat.zero_add] at ej; subst ej
            refine yes_skip (.refl E) (rel_setMap hR hg hL hb h1 ?_) hex (by rw [hk2, e1]; exact r1 _ _ f f1 (by simpa using f2) f6)
            rw [Array.toList_modify]
            exact ERel.put (.int _ _) hx _ h2
          · rename_i hf
            simp at h; obtain ⟨rfl, rfl⟩ := h
            have f1 := xfind_sound (kt := kt) (kd := kd) hf h2
            refine yes_skip (.refl E) (rel_setMap hR hg hL hb h1 ?_) hex (by rw [hk2, e1]; exact r2 f1)
            rw [Array.toList_push]
            exact ERel.push (.int _ _) hx rfl h2
          · cases h
        · cases h
      · cases h
    · cases h
  · cases h

theorem y_s2s {s d : TypeId} {x : Operand} {ox : Opd} (ho : o.op = .convert s d x) (hc : cOp P o = some (.s2s ox)) (h : xop a.tmps aw (.s2s ox) = some (r, aw')) (hA : ActRel E a ca) (hR : Rel E aw w) : Yes P o E ca w r aw' := by
  simp only [cOp, ho] at hc
  split at hc
  · obtain ⟨_, _, hh⟩ := c1_inv hc; cases hh
  · split at hc
    · obtain ⟨_, _, hh⟩ := c1_inv hc; cases hh
    · cases hc
  · rename_i e e' hs hd
    split at hc
    · rename_i he
      cases hsd : Nat.beq s d <;> simp only [hsd, cond_true, cond_false, reduceCtorEq] at hc
      have := Nat.eq_of_beq_eq_true hsd; subst this
      rw [hs] at hd
      injection hd with hd; injection hd with hd; subst hd
      obtain ⟨ox', hx, hh⟩ := c1_inv hc
      injection hh with hh; subst hh
      simp only [xop] at h
      split at h <;> (try (cases h; done))
      rename_i id of len cap hv
      split at h <;> (try (cases h; done))
      rename_i l el opn hg
      cases hlen : Nat.blt 0 len <;> simp only [hlen, cond_true, cond_false, reduceCtorEq, Option.some.injEq, Prod.mk.injEq] at h
      obtain ⟨rfl, rfl⟩ := h
      have hlen : 0 < len := Nat.le_of_ble_eq_true hlen
      have hr := opd_sound hA hx hv
      have hh : ∃ L c2, E.loc[id]? = some L ∧ ca.eval x = .slice (some ⟨L.block, L.base + of, none⟩) len c2 := by
        cases hx' : ca.eval x <;> rw [hx'] at hr
        all_goals (try (cases hr; done))
        cases hr with
        | slc hL hd => exact ⟨_, _, hL, by rw [hd.resolve_left (by omega)]⟩
        | slcUp hL hl hlo hd => exact ⟨_, _, hL, by rw [(hd.resolve_left (by omega)).1]⟩
      obtain ⟨L, c2, hL, hx'⟩ := hh
      obtain ⟨L', hL', cc, fz, ⟨g1, gf⟩, g2, g3, g4, g5⟩ := hR.obj id _ hg
      rw [hL] at hL'; injection hL' with hL'; subst hL'
      have hlt := (Array.getElem?_eq_some_iff.1 g1).1
      have hsh : w.shape? L.block = some (el, cc.size) := by simp [World.shape?, g1]
      have hfr : ∃ fz', Fz cc.size fz' ∧ (w.freeze ⟨L.block, cc.size, none⟩ 1).heap[L.block]? = some (.cells cc el fz') := by
        obtain ⟨lo, hi⟩ := fz
        refine ⟨if lo == hi then (cc.size, cc.size + 1) else (min lo cc.size, max hi (cc.size + 1)), ?_, ?_⟩
        · unfold Fz at *
          split
          · exact .inr (Nat.le_refl _)
          · rename_i hne
            simp at hne
            right
            simp only
            rcases gf with gf | gf
            · exact (hne gf).elim
            · simp only at gf; omega
        · simp [World.freeze, Array.getElem?_modify, g1]
      obtain ⟨fz', hf1, hf2⟩ := hfr
      have hoth : ∀ b, b ≠ L.block → (w.freeze ⟨L.block, cc.size, none⟩ 1).heap[b]? = w.heap[b]? := fun b hb => by
        simp [World.freeze, Array.getElem?_modify, Ne.symm hb]
      refine yes_value' (v := ca.eval x) (.refl E) (hR.touch (show Same w (w.freeze ⟨L.block, cc.size, none⟩ 1) from ⟨rfl, rfl⟩) hg rfl hL hoth ⟨cc, fz', ⟨hf2, hf1⟩, g2, g3, g4, g5⟩) (by simp only [execOp, ho]; rfl) ?_ hr
      rw [hx']
      simp [convert, run_underlying hs, run_underlying he, markStringish, hsh]
    · cases hc
  · cases hc

theorem y_index {t : TypeId} {x y : Operand} (ho : o.op = .index t x y) (hc : cOp P o = some c) (h : xop a.tmps aw c = some (r, aw')) (hA : ActRel E a ca) (hR : Rel E aw w) : Yes P o E ca w r aw' := by
  simp only [cOp, ho] at hc
  split at hc <;> (try (cases hc; done))
  rename_i hu
  obtain ⟨ox, oy, hx, hy, rfl⟩ := c2_inv hc
  simp only [xop] at h
  split at h <;> (try (cases h; done))
  rename_i l hl
  split at h <;> (try (cases h; done))
  rename_i iv hiv
  split at h <;> (try (cases h; done))
  rename_i i hi
  split at h <;> (try (cases h; done))
  rename_i v hv
  simp at h; obtain ⟨rfl, rfl⟩ := h
  have r1 := opd_sound hA hx hl
  have r2 := opd_sound hA hy hiv
  unfold xnat at hi
  split at hi <;> simp at hi
  rename_i k m
  subst hi
  cases hy' : ca.eval y <;> rw [hy'] at r2 <;> cases r2
  cases hx' : ca.eval x <;> rw [hx'] at r1 <;> cases r1
  rename_i s hL
  obtain ⟨u, hu2, hr⟩ := hL.get hv
  rw [List.getElem?_map] at hu2
  cases hb : s.data.toList[m]? with
  | none => rw [hb] at hu2; cases hu2
  | some b =>
    rw [hb] at hu2
    simp at hu2
    refine yes_value (v := u) hR (by simp only [execOp, ho]; rfl) ?_ hr
    have hget : s[m]? = some b := by
      have hlt := (List.getElem?_eq_some_iff.1 hb).1
      have hb2 := (List.getElem?_eq_some_iff.1 hb).2
      simp at hlt hb2
      have : m < s.size := hlt
      simp [getElem?_def, this, ← hb2, ByteArray.getElem_eq_getElem_data]
    simp [hx', hy', Instr.index, asIntOf, run_underlying hu, hget, ← hu2]
end
end Go.Proofs.YtbilacojhmohmaaGreat.Ae
