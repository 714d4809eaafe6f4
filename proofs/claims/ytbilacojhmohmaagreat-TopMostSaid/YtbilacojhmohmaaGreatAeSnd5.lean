/- The evaluator's operations are sound: conversions, maps. No condition. -/
import Derived.Test.YtbilacojhmohmaaGreatAeSnd4
namespace Go.Proofs.YtbilacojhmohmaaGreat.Ae
open Go
set_option linter.unusedVariables false
set_option linter.unusedSimpArgs false

section
variable {P : Program} {o : Oper} {E : Env} {a : AAct} {ca : Act} {aw aw' : AW} {w : World} {r : AV} {c : COp}

/-- the cells of a slice -/
theorem xcells_sound {sz n : Nat} {s : AV} {l : List AV} {ba : Option Addr} {len cap : Nat} (h : xcells aw sz n s = some l) (hR : Rel E aw w) (hv : VRel E s (.slice ba len cap)) :
    ∃ vs : List Value, (∀ w' : World, w'.heap = w.heap → (Builtin.firstCells sz n (.slice ba len cap)).run P w' = .ok vs.toArray w') ∧ LRel E l vs ∧ l.length = n * sz ∧
      (∀ b, ba = some b → (loadCells b (n * sz)).run P w = .ok vs.toArray w) ∧ (ba = none → n = 0 ∧ vs = []) := by
  unfold xcells at h
  split at h
  · cases hv
    cases hb : Nat.beq n 0 <;> simp only [hb, cond_true, cond_false, reduceCtorEq, Option.some.injEq] at h
    subst h
    have := Nat.eq_of_beq_eq_true hb; subst this
    exact ⟨[], fun _ _ => rfl, .nil, by simp, (fun b hb => nomatch hb), fun _ => ⟨rfl, rfl⟩⟩
  · rename_i id of len' cap'
    have hsome : ∃ b, ba = some b := by cases hv <;> exact ⟨_, rfl⟩
    obtain ⟨b, rfl⟩ := hsome
    cases hb : Nat.beq n 0 with
    | true =>
      simp only [hb, cond_true, Option.some.injEq] at h
      subst h
      have := Nat.eq_of_beq_eq_true hb; subst this
      refine ⟨[], fun _ _ => ?_, .nil, by simp, (fun b' hb' => ?_), (fun e => nomatch e)⟩
      · simp [Builtin.firstCells, loadCells, loadCellsFrom]
      · simp [loadCells, loadCellsFrom]
    | false =>
    simp only [hb, cond_false] at h
    cases hn : Nat.ble n len' <;> simp only [hn, cond_true, cond_false, reduceCtorEq] at h
    have hn := Nat.le_of_ble_eq_true hn
    have hn0 := ne_of_beq hb
    split at h
    · rename_i cl e opn hg
      cases hq : Nat.beq ((cl.drop of).take (n * sz)).length (n * sz) <;> simp only [hq, cond_true, cond_false, reduceCtorEq, Option.some.injEq] at h
      subst h
      have hq := Nat.eq_of_beq_eq_true hq
      have hh : ∃ L, E.loc[id]? = some L ∧ b = ⟨L.block, L.base + of, none⟩ := by
        cases hv with
        | slc hL hd => exact ⟨_, hL, hd.resolve_left (by omega)⟩
        | slcUp hL hl hlo hd => exact ⟨_, hL, (hd.resolve_left (by omega)).1⟩
      obtain ⟨L, hL, rfl⟩ := hh
      obtain ⟨L', cs, hL', _, h1, h2, h3, h5⟩ := hR.at (VRel.ptr (o := of) hL) hg
      rw [hL] at hL'; injection hL' with hL'; subst hL'
      obtain ⟨vs, hrun, hrel⟩ := load_cells (P := P) h1 h5 hq
      refine ⟨vs, fun w' hw' => ?_, hrel, hq, (fun b' hb' => by injection hb' with hb'; subst hb'; exact hrun w rfl), (fun e => nomatch e)⟩
      simp only [Builtin.firstCells]; exact hrun w' hw'
    · cases h
  · cases h

theorem y_convert {s d : TypeId} {x : Operand} (ho : o.op = .convert s d x) (hc : cOp P o = some c) (h : xop a.tmps aw c = some (r, aw')) (hA : ActRel E a ca) (hR : Rel E aw w) (hno : ∀ x, c ≠ .b2s x ∧ c ≠ .s2s x) : Yes P o E ca w r aw' := by
  simp only [cOp, ho] at hc
  split at hc
  · rename_i ks kd hs hd
    obtain ⟨ox, hx, rfl⟩ := c1_inv hc
    simp only [xop] at h
    split at h
    · rename_i k n hv
      simp at h; obtain ⟨rfl, rfl⟩ := h
      have hr := opd_sound hA hx hv
      cases hx' : ca.eval x <;> rw [hx'] at hr <;> cases hr
      refine yes_value (v := .int kd (kd.wrap n)) hR (by simp only [execOp, ho]; rfl) ?_ (by rw [wrapF_eq]; exact .int _ _)
      simp [hx', convert, run_underlying hs, run_underlying hd, Conv.intToInt]
    · cases h
  · split at hc
    · obtain ⟨ox, hx, rfl⟩ := c1_inv hc
      exact ((hno _).1 rfl).elim
    · cases hc
  · split at hc
    · cases hsd : Nat.beq s d <;> simp only [hsd, cond_true, cond_false, reduceCtorEq] at hc
      obtain ⟨ox, hx, rfl⟩ := c1_inv hc
      exact ((hno _).2 rfl).elim
    · cases hc
  · cases hc

theorem xfind_sound {kk : IntKind} {n : Int} {kt : TypeId} {kd : IntKind} : ∀ {es : List AEnt} {ces : List MapEntry} {i : Nat} {res : Option (Nat × AV)}, xfind kk n es i = some res → ERel E es ces →
    match res with
    | some (j, v) => ∃ m f e, j = i + m ∧ Instr.findNow (.int kd) (.int kk n) ces i = some (some (j, f.val)) ∧ ces[m]? = some f ∧ es[m]? = some e ∧ e.val = v ∧ VRel E v f.val ∧ f.key = .int kk n
    | none => Instr.findNow (.int kd) (.int kk n) ces i = some none
  | [], _, i, res, h, .nil => by simp [xfind] at h; subst h; rfl
  | e :: es, f :: ces, i, res, h, .cons hk hv hb t => by
    simp only [xfind] at h
    split at h
    · rename_i k' m he
      rw [he] at hk
      cases hfk : f.key <;> rw [hfk] at hk <;> cases hk
      cases hkk : Nat.beq (kc kk) (kc k') <;> simp only [hkk, cond_true, cond_false, reduceCtorEq] at h
      have := kc_inj hkk; subst this
      cases hm : ieq n m <;> simp only [hm, cond_true, cond_false, Option.some.injEq] at h
      · rw [ieq_eq] at hm
        have ih := xfind_sound (kt := kt) (kd := kd) h t
        have hstep : Instr.findNow (.int kd) (.int kk n) (f :: ces) i = Instr.findNow (.int kd) (.int kk n) ces (i + 1) := by
          simp [Instr.findNow, Instr.sameNow, hfk, hm]
        cases res with
        | none => simp only at ih ⊢; rw [hstep, ih]
        | some p =>
          obtain ⟨j, v⟩ := p
          obtain ⟨m', f', e', rfl, h1, h2, h3, h4, h5, h6⟩ := ih
          exact ⟨m' + 1, f', e', by omega, by rw [hstep, h1], by simpa using h2, by simpa using h3, h4, h5, h6⟩
      · rw [ieq_eq] at hm
        subst h
        simp only
        have hm := eq_of_beq hm; subst hm
        exact ⟨0, f, e, rfl, by simp [Instr.findNow, Instr.sameNow, hfk], rfl, rfl, rfl, hv, hfk⟩
    · cases h

theorem run_checkKey_int {kt : TypeId} {kd : IntKind} (hk : P.underlying kt = some (.int kd)) (em : Bool) (v : Value) (hv : ∃ k n, v = .int k n) : (Instr.checkKey em 10000 kt v).run P w = .ok () w := by
  obtain ⟨k, n, rfl⟩ := hv
  show (Instr.checkKey em (9999 + 1) kt _).run P w = _
  unfold Instr.checkKey
  simp [run_underlying hk]
theorem run_findKey_int {kt : TypeId} {kd : IntKind} (hk : P.underlying kt = some (.int kd)) {v : Value} {es : List MapEntry} {res : Option (Nat × Value)} (h : Instr.findNow (.int kd) v es 0 = some res) : (Instr.findKey kt v es).run P w = .ok res w := by
  simp [Instr.findKey, run_underlying hk, h]
theorem run_getObj_map {b : Nat} {ces : Array MapEntry} {clock : Nat} (h : w.heap[b]? = some (.map ces clock)) : (getObj b).run P w = .ok (.map ces clock) w := by
  simp [getObj, Sem.run, h]
theorem run_setObj_map {b : Nat} {ces : Array MapEntry} {clock : Nat} (h : w.heap[b]? = some (.map ces clock)) (o : Obj) : (setObj b o).run P w = .ok () { w with heap := w.heap.setIfInBounds b o } := by
  simp [setObj, Sem.run, h]

theorem run_lookup {t kt e : TypeId} {kd : IntKind} {z : Value} {az : AV} {mv : Value} {ces : Array MapEntry} {ok : Bool} (hu : P.underlying t = some (.map kt e)) (hk : P.underlying kt = some (.int kd)) (hz : zeroP P e = some (z, az))
    (hcase : (mv = .map none ∧ ces = #[]) ∨ ∃ b cl, mv = .map (some b) ∧ w.heap[b]? = some (.map ces cl)) (kk : IntKind) (n : Int) (res : Option (Nat × Value)) (hf : Instr.findNow (.int kd) (.int kk n) ces.toList 0 = some res) :
    (Instr.lookup t mv (.int kk n) ok).run P w = .ok (match res with | some (_, v) => if ok then .tuple #[v, .bool true] else v | none => if ok then .tuple #[z, .bool false] else z) w := by
  rcases hcase with ⟨rfl, rfl⟩ | ⟨b, cl, rfl, e2⟩
  · simp only [Instr.lookup, Sem.run_bind, run_underlying hu, Result.andThen_ok, Sem.run_pure, run_checkKey_int hk _ _ ⟨kk, n, rfl⟩, run_findKey_int hk hf]
    cases res with
    | none => simp [run_zeroValue' hz]
    | some p => rfl
  · simp only [Instr.lookup, Sem.run_bind, run_underlying hu, Result.andThen_ok, Sem.run_pure, run_getObj_map e2, run_checkKey_int hk _ _ ⟨kk, n, rfl⟩, run_findKey_int hk hf]
    cases res with
    | none => simp [run_zeroValue' hz]
    | some p => rfl

theorem y_lookup {t : TypeId} {m k : Operand} {ok : Bool} (ho : o.op = .lookup t m k ok) (hc : cOp P o = some c) (h : xop a.tmps aw c = some (r, aw')) (hA : ActRel E a ca) (hR : Rel E aw w) : Yes P o E ca w r aw' := by
  simp only [cOp, ho] at hc
  split at hc
  · rename_i kt e hu
    split at hc
    · rename_i kd hk
      split at hc
      · rename_i z az hz
        obtain ⟨om, ok', hm, hk', rfl⟩ := c2_inv hc
        simp only [xop] at h
        split at h
        · rename_i mv hmv
          split at h
          · rename_i kk n hkv
            split at h
            · rename_i es hes
              have hr := opd_sound hA hm hmv
              have hq := opd_sound hA hk' hkv
              cases hk2 : ca.eval k <;> rw [hk2] at hq <;> cases hq
              have hmap : ∃ ces : Array MapEntry, ERel E es ces.toList ∧ ((ca.eval m = .map none ∧ ces = #[]) ∨ ∃ b cl, ca.eval m = .map (some b) ∧ w.heap[b]? = some (.map ces cl)) := by
                split at hes
                · simp at hes; subst hes
                  cases hm2 : ca.eval m <;> rw [hm2] at hr <;> cases hr
                  exact ⟨#[], .nil, .inl ⟨rfl, rfl⟩⟩
                · rename_i id
                  split at hes
                  · rename_i es' cl hg
                    simp at hes; subst hes
                    cases hm2 : ca.eval m <;> rw [hm2] at hr
                    all_goals (try (cases hr; done))
                    cases hr with
                    | map hL hb =>
                      rename_i L
                      obtain ⟨L', hL', _, ces, h1, h2⟩ := hR.obj _ _ hg
                      rw [hL] at hL'; injection hL' with hL'; subst hL'
                      exact ⟨ces, h2, .inr ⟨L.block, cl, rfl, h1⟩⟩
                  · cases hes
                · cases hes
              obtain ⟨ces, hE, hcase⟩ := hmap
              have hrun := fun res => run_lookup (P := P) (w := w) (ok := ok) hu hk hz hcase kk n res
              split at h
              · rename_i j v hf
                simp at h; obtain ⟨rfl, rfl⟩ := h
                obtain ⟨m', f, e', _, h1, _, _, _, h5, _⟩ := xfind_sound (kt := kt) (kd := kd) hf hE
                refine yes_value (v := if ok then .tuple #[f.val, .bool true] else f.val) hR (by simp only [execOp, ho]; rfl) (by rw [hk2]; exact hrun _ h1) ?_
                cases ok
                · exact h5
                · exact .tuple (.cons h5 (.cons (.bool _) .nil))
              · rename_i hf
                simp at h; obtain ⟨rfl, rfl⟩ := h
                have h1 := xfind_sound (kt := kt) (kd := kd) hf hE
                refine yes_value (v := if ok then .tuple #[z, .bool false] else z) hR (by simp only [execOp, ho]; rfl) (by rw [hk2]; exact hrun _ h1) ?_
                cases ok
                · exact zeroP_rel hz E
                · exact .tuple (.cons (zeroP_rel hz E) (.cons (.bool _) .nil))
              · cases h
            · cases h
          · cases h
        · cases h
      · cases hc
    · cases hc
  · cases hc
end
end Go.Proofs.YtbilacojhmohmaaGreat.Ae
