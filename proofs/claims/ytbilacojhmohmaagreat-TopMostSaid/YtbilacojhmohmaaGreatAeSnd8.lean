/- The evaluator's operations are sound: slices of slices, made slices. No condition. -/
import Derived.Test.YtbilacojhmohmaaGreatAeSnd7
namespace Go.Proofs.YtbilacojhmohmaaGreat.Ae
open Go
set_option linter.unusedVariables false
set_option linter.unusedSimpArgs false

section
variable {P : Program} {o : Oper} {E : Env} {a : AAct} {ca : Act} {aw aw' : AW} {w : World} {r : AV} {c : COp}

theorem sliceOf_inv {t e : TypeId} {i : TypeInfo} (hs : sliceOf P t = some (e, i)) : P.underlying t = some (.slice e) ∧ P.info? e = some i := by
  unfold sliceOf at hs
  split at hs
  · split at hs
    · simp at hs; obtain ⟨rfl, rfl⟩ := hs; exact ⟨by assumption, by assumption⟩
    · cases hs
  · cases hs

theorem run_sliceBound_nat {k : IntKind} {n y : Nat} {code : BoundsCode} (h : n ≤ y) : (Instr.sliceBound (.int k (Int.ofNat n)) y code).run P w = .ok n w := by
  have e : (Int.ofNat n : Int) = (n : Int) := rfl
  simp [Instr.sliceBound, asIntOf, e]
  omega

theorem run_slice_of {t e : TypeId} {i : TypeInfo} {ba : Option Addr} {len cap l h m : Nat} {lo hi mx : Option Value} (hu : P.underlying t = some (.slice e)) (hi' : P.info? e = some i)
    (hlo : (lo = none ∧ l = 0) ∨ ∃ k, lo = some (.int k (Int.ofNat l))) (hhi : (hi = none ∧ mx = none ∧ h = len) ∨ ∃ k, hi = some (.int k (Int.ofNat h)))
    (hmx : (mx = none ∧ m = cap) ∨ ∃ k, mx = some (.int k (Int.ofNat m))) (h1 : l ≤ h) (h2 : h ≤ m) (h3 : m ≤ cap) :
    (Instr.sliceAt t (.slice ba len cap) lo hi mx).run P w = .ok (.slice (if m = l then ba else ba.map (·.add (l * i.size))) (h - l) (m - l)) w := by
  rcases hlo with ⟨rfl, rfl⟩ | ⟨kl, rfl⟩ <;> rcases hhi with ⟨rfl, rfl, rfl⟩ | ⟨kh, rfl⟩ <;> rcases hmx with ⟨hm0, rfl⟩ | ⟨km, hm0⟩ <;> (first | (cases hm0; done) | skip) <;> (try subst hm0) <;>
    simp only [Instr.sliceAt, Instr.slice, Instr.sliceBounds, Sem.run_bind, run_underlying hu, Result.andThen_ok, Sem.run_pure, run_sizeOf' hi', run_sliceBound_nat h1, run_sliceBound_nat h2, run_sliceBound_nat h3]

theorem optn_sound (hA : ActRel E a ca) {x : Option Operand} {ox : Option Opd} {n : Nat} (h : (match ox with | none => some 0 | some o => match o.ev a.tmps with | some v => xnat v | none => none) = some n) (hc : cOpt x = some ox) :
    (x.map ca.eval = none ∧ n = 0) ∨ ∃ k, x.map ca.eval = some (.int k (Int.ofNat n)) := by
  cases x with
  | none => simp [cOpt] at hc; subst hc; simp at h; exact .inl ⟨rfl, h.symm⟩
  | some x =>
    simp only [cOpt] at hc
    split at hc
    · rename_i o' ho'
      simp at hc; subst hc
      simp only at h
      split at h
      · rename_i v hv
        unfold xnat at h
        split at h
        · rename_i k m
          simp at h; subst h
          have hr := opd_sound hA ho' hv
          right
          cases hx' : ca.eval x <;> rw [hx'] at hr <;> cases hr
          exact ⟨k, by simp [hx']⟩
        · cases h
      · cases h
    · cases hc
theorem opto_sound (hA : ActRel E a ca) {x : Option Operand} {ox : Option Opd} {n : Option Nat} (h : (match ox with | none => some none | some o => match o.ev a.tmps with | some v => (xnat v).map some | none => none) = some n) (hc : cOpt x = some ox) :
    (x = none ∧ ox = none ∧ n = none) ∨ ∃ m k, n = some m ∧ ox.isSome = true ∧ x.map ca.eval = some (.int k (Int.ofNat m)) := by
  cases x with
  | none => simp [cOpt] at hc; subst hc; simp at h; exact .inl ⟨rfl, rfl, h.symm⟩
  | some x =>
    simp only [cOpt] at hc
    split at hc
    · rename_i o' ho'
      simp at hc; subst hc
      simp only at h
      split at h
      · rename_i v hv
        unfold xnat at h
        split at h
        · rename_i k m
          simp at h; subst h
          have hr := opd_sound hA ho' hv
          right
          cases hx' : ca.eval x <;> rw [hx'] at hr <;> cases hr
          exact ⟨m, k, rfl, rfl, by simp [hx']⟩
        · cases h
      · cases h
    · cases hc

theorem slcUp_inv {id of len sz lo : Nat} {v : Value} (h : VRel E (.slc (some (id, of)) len (.upto sz lo)) v) :
    ∃ L ad cap, v = .slice (some ad) len cap ∧ E.loc[id]? = some L ∧ len ≤ cap ∧ lo ≤ cap ∧ (cap = 0 ∨ (ad = ⟨L.block, L.base + of, none⟩ ∧ L.base + of + cap * sz ≤ L.total)) := by
  cases h with
  | slcUp hL hl hlo ha => exact ⟨_, _, _, rfl, hL, hl, hlo, ha⟩
theorem slcKn_inv {id of len c : Nat} {v : Value} (h : VRel E (.slc (some (id, of)) len (.known c)) v) :
    ∃ L ad, v = .slice (some ad) len c ∧ E.loc[id]? = some L ∧ ((c = 0 ∧ len = 0) ∨ ad = ⟨L.block, L.base + of, none⟩) := by
  cases h with
  | slc hL ha => exact ⟨_, _, rfl, hL, ha⟩
theorem i64_wrap {n : Nat} (h : n ≤ 9223372036854775807) : IntKind.i64.wrap (Int.ofNat n) = (n : Int) := by
  rw [← wrapF_eq]
  have : Nat.ble n (top .i64) = true := Nat.ble_eq_true_of_le h
  simp only [wrapF, this, cond_true]
  rfl

theorem y_slice {t : TypeId} {x : Operand} {lo hi mx : Option Operand} (ho : o.op = .slice t x lo hi mx) (hc : cOp P o = some c) (h : xop a.tmps aw c = some (r, aw')) (hA : ActRel E a ca) (hR : Rel E aw w) : Yes P o E ca w r aw' := by
  simp only [cOp, ho] at hc
  split at hc
  · rename_i e i hs
    obtain ⟨hu, hi'⟩ := sliceOf_inv hs
    split at hc
    · rename_i ox hx
      split at hc
      · rename_i olo hlo
        split at hc
        · rename_i ohi hhi
          split at hc
          · rename_i omx hmx
            cases hmh : (omx.isNone || ohi.isSome) <;> simp only [hmh, cond_true, cond_false, reduceCtorEq, Option.some.injEq] at hc
            subst hc
            simp only [xop] at h
            split at h
            · rename_i s hsv
              split at h
              · rename_i l hl
                split at h
                · rename_i hh hhv
                  split at h
                  · rename_i m hm
                    split at h
                    · rename_i res hres
                      simp at h; obtain ⟨rfl, rfl⟩ := h
                      have hr := opd_sound hA hx hsv
                      have kl := optn_sound hA hl hlo
                      have kh := opto_sound hA hhv hhi
                      have km := opto_sound hA hm hmx
                      have fin : ∀ (ba : Option Addr) (len cap h' m' : Nat), ca.eval x = .slice ba len cap → l ≤ h' → h' ≤ m' → m' ≤ cap → (hh = none → m = none → h' = len) → (∀ q, hh = some q → h' = q) → (m = none → m' = cap) → (∀ q, m = some q → m' = q) →
                          VRel E res (.slice (if m' = l then ba else ba.map (·.add (l * i.size))) (h' - l) (m' - l)) → Yes P o E ca w res aw := by
                        intro ba len cap h' m' hx2 g1 g2 g3 g4 g5 g6 g7 g8
                        refine yes_value (v := .slice (if m' = l then ba else ba.map (·.add (l * i.size))) (h' - l) (m' - l)) hR (by simp only [execOp, ho]; rfl) ?_ g8
                        rw [hx2]
                        refine run_slice_of hu hi' kl ?_ ?_ g1 g2 g3
                        · rcases kh with ⟨rfl, rfl, rfl⟩ | ⟨q, k, rfl, _, e2⟩
                          · rcases km with ⟨rfl, rfl, rfl⟩ | ⟨q, k, rfl, e1, _⟩
                            · exact .inl ⟨rfl, rfl, g4 rfl rfl⟩
                            · cases omx <;> simp at e1 hmh
                          · exact .inr ⟨k, by rw [e2, g5 q rfl]⟩
                        · rcases km with ⟨rfl, rfl, rfl⟩ | ⟨q, k, rfl, _, e2⟩
                          · exact .inl ⟨rfl, g6 rfl⟩
                          · exact .inr ⟨k, by rw [e2, g7 q rfl]⟩
                      unfold xslice at hres
                      split at hres
                      · -- nil
                        cases hx2 : ca.eval x <;> rw [hx2] at hr <;> cases hr
                        cases hq : (Nat.beq l 0 && zeroOpt hh && zeroOpt m) <;> simp only [hq, cond_true, cond_false, reduceCtorEq, Option.some.injEq] at hres
                        subst hres
                        simp only [Bool.and_eq_true] at hq
                        have q1 := Nat.eq_of_beq_eq_true hq.1.1; subst q1
                        refine fin none 0 0 0 0 hx2 (by omega) (by omega) (by omega) (fun _ _ => rfl) (fun q e => ?_) (fun _ => rfl) (fun q e => ?_) (by simpa using VRel.nilSlc)
                        · rw [e] at hq; exact (Nat.eq_of_beq_eq_true hq.1.2).symm
                        · rw [e] at hq; exact (Nat.eq_of_beq_eq_true hq.2).symm
                      · rename_i id of len cc
                        cases hq : (Nat.ble l (hh.getD len) && (Nat.ble (hh.getD len) (m.getD cc) && Nat.ble (m.getD cc) cc)) <;> simp only [hq, cond_true, cond_false, reduceCtorEq, Option.some.injEq] at hres
                        subst hres
                        simp only [Bool.and_eq_true] at hq
                        have q1 := Nat.le_of_ble_eq_true hq.1
                        have q2 := Nat.le_of_ble_eq_true hq.2.1
                        have q3 := Nat.le_of_ble_eq_true hq.2.2
                        cases hx2 : ca.eval x <;> rw [hx2] at hr
                        all_goals (try (cases hr; done))
                        cases hr with
                        | slc hL hd =>
                          rename_i ad L
                          refine fin (some ad) len cc (hh.getD len) (m.getD cc) hx2 q1 q2 q3 (fun e _ => by rw [e]; rfl) (fun q e => by rw [e]; rfl) (fun e => by rw [e]; rfl) (fun q e => by rw [e]; rfl) ?_
                          by_cases e : m.getD cc = l
                          · rw [if_pos e]
                            exact .slc hL (.inl ⟨by omega, by omega⟩)
                          · rw [if_neg e]
                            have hb : Nat.beq (m.getD cc) l = false := by cases hb : Nat.beq (m.getD cc) l; rfl; exact (e (Nat.eq_of_beq_eq_true hb)).elim
                            have hd := hd.resolve_left (by omega)
                            subst hd
                            rw [hb]
                            simp only [Option.map_some, add_eq, cond_false]
                            exact .slc hL (.inr (by simp; omega))
                      · rename_i id of len sz' lo'
                        split at hres
                        · cases hq : (Nat.ble l (hh.getD len) && (Nat.ble (hh.getD len) lo' && Nat.beq i.size sz')) <;> simp only [hq, cond_true, cond_false, reduceCtorEq, Option.some.injEq] at hres
                          subst hres
                          simp only [Bool.and_eq_true] at hq
                          have q1 := Nat.le_of_ble_eq_true hq.1
                          have q2 := Nat.le_of_ble_eq_true hq.2.1
                          have q3 := Nat.eq_of_beq_eq_true hq.2.2
                          subst q3
                          obtain ⟨L, ad, cap, hx2, hL, hl2, hlo2, hd⟩ := slcUp_inv hr
                          · refine fin (some ad) len cap (hh.getD len) cap hx2 q1 (by omega) (by omega) (fun e _ => by rw [e]; rfl) (fun q e => by rw [e]; rfl) (fun _ => rfl) (fun q e => by cases e) ?_
                            by_cases e : cap = l
                            · rw [if_pos e]
                              exact .slcUp hL (by omega) (by omega) (.inl (by omega))
                            · rw [if_neg e]
                              obtain ⟨rfl, hd⟩ := hd.resolve_left (by omega)
                              simp only [Option.map_some, add_eq]
                              refine .slcUp hL (by omega) (by omega) (.inr ⟨by simp; omega, ?_⟩)
                              have : cap * i.size = l * i.size + (cap - l) * i.size := by rw [← Nat.add_mul]; congr 1; omega
                              omega
                        · rename_i m'
                          cases hq : (Nat.ble l (hh.getD len) && (Nat.ble (hh.getD len) m' && Nat.ble m' lo')) <;> simp only [hq, cond_true, cond_false, reduceCtorEq, Option.some.injEq] at hres
                          subst hres
                          simp only [Bool.and_eq_true] at hq
                          have q1 := Nat.le_of_ble_eq_true hq.1
                          have q2 := Nat.le_of_ble_eq_true hq.2.1
                          have q3 := Nat.le_of_ble_eq_true hq.2.2
                          obtain ⟨L, ad, cap, hx2, hL, hl2, hlo2, hd⟩ := slcUp_inv hr
                          · refine fin (some ad) len cap (hh.getD len) m' hx2 q1 q2 (by omega) (fun e _ => by rw [e]; rfl) (fun q e => by rw [e]; rfl) (fun e => by cases e) (fun q e => by injection e) ?_
                            by_cases e : m' = l
                            · rw [if_pos e]
                              exact .slc hL (.inl ⟨by omega, by omega⟩)
                            · rw [if_neg e]
                              obtain ⟨rfl, hd⟩ := hd.resolve_left (by omega)
                              have hb : Nat.beq m' l = false := by cases hb : Nat.beq m' l; rfl; exact (e (Nat.eq_of_beq_eq_true hb)).elim
                              rw [hb]
                              simp only [Option.map_some, add_eq, cond_false]
                              exact .slc hL (.inr (by simp; omega))
                      · cases hres
                    · cases h
                  · cases h
                · cases h
              · cases h
            · cases h
          · cases hc
        · cases hc
      · cases hc
    · cases hc
  · cases hc

theorem y_makeSlice {t : TypeId} {x y : Operand} (ho : o.op = .makeSlice t x y) (hc : cOp P o = some c) (h : xop a.tmps aw c = some (r, aw')) (hA : ActRel E a ca) (hR : Rel E aw w) : Yes P o E ca w r aw' := by
  simp only [cOp, ho] at hc
  split at hc
  · rename_i e i hs
    obtain ⟨hu, hi'⟩ := sliceOf_inv hs
    split at hc
    · rename_i z az hz
      split at hc
      · rename_i cs hcs
        cases hb : Nat.beq cs.length i.size <;> simp only [hb, cond_true, cond_false, reduceCtorEq] at hc
        have hb := Nat.eq_of_beq_eq_true hb
        obtain ⟨ox, oy, hx, hy, rfl⟩ := c2_inv hc
        simp only [xop] at h
        split at h
        · rename_i lv hlv
          split at h
          · rename_i cv hcv
            split at h
            · rename_i l hl
              split at h
              · rename_i cp hcp
                cases hq : (Nat.ble l cp && Nat.ble (i.bytes * cp) 140737488355328 && Nat.ble cp 140737488355328) <;> simp only [hq, cond_true, cond_false, reduceCtorEq, Option.some.injEq, Prod.mk.injEq] at h
                obtain ⟨rfl, rfl⟩ := h
                simp only [Bool.and_eq_true] at hq
                have q1 := Nat.le_of_ble_eq_true hq.1.1
                have q2 := Nat.le_of_ble_eq_true hq.1.2
                have q3 := Nat.le_of_ble_eq_true hq.2
                have r1 := opd_sound hA hx hlv
                have r2 := opd_sound hA hy hcv
                unfold xnat at hl hcp
                split at hl <;> simp at hl
                split at hcp <;> simp at hcp
                subst hl; subst hcp
                rename_i k1 n1 _ k2 n2
                cases hx2 : ca.eval x <;> rw [hx2] at r1 <;> cases r1
                cases hy2 : ca.eval y <;> rw [hy2] at r2 <;> cases r2
                have hzl := (zeroP_rel hz E).cells hcs
                have hzs : z.cells.size = i.size := by have := hzl.length; simp only [Array.length_toList] at this; omega
                have hw : ∀ n : Nat, n ≤ 140737488355328 → IntKind.i64.wrap (Int.ofNat n) = (n : Int) := fun n hn => i64_wrap (by omega)
                have e1 : (i.bytes : Int) * (n2 : Int) ≤ 140737488355328 := by
                  have h1 := Int.ofNat_le.2 q2
                  rw [Int.natCast_mul] at h1
                  exact h1
                have d1 : (decide ((n2 : Int) < 0) || decide ((i.bytes : Int) * (n2 : Int) > 2 ^ 48)) = false := by
                  have : (2 : Int) ^ 48 = 281474976710656 := by decide
                  rw [this, Bool.or_eq_false_iff]
                  exact ⟨decide_eq_false (by omega), decide_eq_false (by omega)⟩
                have d2 : decide ((n1 : Int) < 0) = false := decide_eq_false (by omega)
                have d3 : decide ((n1 : Int) > (n2 : Int)) = false := decide_eq_false (by omega)
                by_cases hq0 : n2 * i.size = 0
                · have hnil : (repCells cs n2) = [] := by
                    have := (repCells_rel hzl n2).length
                    simp [List.length_flatten] at this
                    rw [hzs, hq0] at this
                    exact List.length_eq_zero_iff.1 this
                  obtain ⟨L, hb0, h0, _, hle, hR', hn⟩ := rel_alloc (l := repCells cs n2) (e := e) (opn := false) hR (by rw [hnil]; exact LRel.nil)
                  refine yes_value' (v := .slice (some ⟨L.block, L.base + 0, none⟩) n1 n2) hle hR' (by simp only [execOp, ho]; rfl) ?_ (.slc hn (.inr rfl))
                  simp only [hx2, hy2, Instr.makeSlice, Sem.run_bind, run_underlying hu, Result.andThen_ok, asInt, asIntOf, Sem.run_pure, typeInfo, run_program, hi', hw n1 (by omega), hw n2 q3, d1, d2, d3, Bool.or_self, Bool.false_eq_true, if_false]
                  simp [hq0, run_sizeOf' hi', newRow, hb0, h0, run_askRoom, Array.range_zero']
                · obtain ⟨L, hb0, h0, _, hle, hR', hn⟩ := rel_alloc (cs := ((Array.range (n2 * z.cells.size)).map fun j => z.cells[j % z.cells.size]!).toList) (l := repCells cs n2) (e := e) (opn := false) hR (by
                    rw [range_mod z.cells (by intro e; rw [hzs] at e; rw [e] at hq0; simp at hq0)]
                    exact repCells_rel hzl n2)
                  refine yes_value' (v := .slice (some ⟨L.block, L.base + 0, none⟩) n1 n2) hle hR' (by simp only [execOp, ho]; rfl) ?_ (.slc hn (.inr rfl))
                  simp only [hx2, hy2, Instr.makeSlice, Sem.run_bind, run_underlying hu, Result.andThen_ok, asInt, asIntOf, Sem.run_pure, typeInfo, run_program, hi', hw n1 (by omega), hw n2 q3, d1, d2, d3, Bool.or_self, Bool.false_eq_true, if_false]
                  rw [hzs]
                  simp only [Array.toArray_toList]
                  simp [hq0, run_sizeOf' hi', newRow, hb0, h0, run_askRoom, run_zeroValue' hz, hzs]
              · cases h
            · cases h
          · cases h
        · cases h
      · cases hc
    · cases hc
  · cases hc
end
end Go.Proofs.YtbilacojhmohmaaGreat.Ae
