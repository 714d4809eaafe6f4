/- The evaluator's operations are sound: the first of them, on values alone. No condition. -/
import Derived.Test.YtbilacojhmohmaaGreatAeComp
import Derived.Laws.Slices
import Derived.Laws.BytesString
namespace Go.Proofs.YtbilacojhmohmaaGreat.Ae
open Go
set_option linter.unusedVariables false
set_option linter.unusedSimpArgs false

structure ADef where
  f : FuncId
  args : List AV
structure AAct where
  tmps : Tr AV
  n : Nat
  defs : List ADef

inductive DRel (E : Env) : List ADef → List Deferred → Prop
  | nil : DRel E [] []
  | cons {d e l m cap} (ht : e.target = .fn (.func d.f) cap) (ha : LRel E d.args (e.args ++ cap).toList) (t : DRel E l m) : DRel E (d :: l) (e :: m)
theorem DRel.mono {E E' : Env} (hE : E.Le E') : ∀ {l m}, DRel E l m → DRel E' l m
  | _, _, .nil => .nil
  | _, _, .cons ht ha t => .cons ht (ha.mono hE) (DRel.mono hE t)

structure ActRel (E : Env) (a : AAct) (ca : Act) : Prop where
  size : ca.tmps.size = a.n
  tmps : ∀ t v, a.tmps.get t t = some v → ∃ x, ca.tmps[t]? = some x ∧ VRel E v x
  defs : DRel E a.defs ca.defers
theorem ActRel.mono {E E' : Env} (hE : E.Le E') {a : AAct} {ca : Act} (h : ActRel E a ca) : ActRel E' a ca :=
  ⟨h.size, fun t v hv => let ⟨x, hx, hr⟩ := h.tmps t v hv; ⟨x, hx, hr.mono hE⟩, h.defs.mono hE⟩

theorem LRel.bytes (E : Env) : ∀ (l : List UInt8), LRel E (l.map fun b => AV.int .u8 (b.toNat : Int)) (l.map fun b => Value.int .u8 (b.toNat : Int))
  | [] => .nil
  | b :: l => .cons (.int _ _) (LRel.bytes E l)
theorem cScal_sound (E : Env) {v : Value} {a : AV} (h : cScal v = some a) : VRel E a v := by
  unfold cScal at h
  split at h <;> (try simp only [Option.some.injEq, reduceCtorEq] at h) <;> (try subst h)
  case h_9 f x y =>
    cases hb : (x.isEmpty && y.isEmpty) <;> simp [hb] at h
    subst h
    simp at hb
    obtain ⟨rfl, rfl⟩ := hb
    exact .func _ .nil .nil
  all_goals first | exact .bool _ | exact .int _ _ | exact .str (LRel.bytes E _) | exact .nilPtr | exact .nilSlc | exact .nilMap | exact .nilFunc | exact .nilIface | cases h
theorem cList_sound (E : Env) : ∀ {l : List Value} {m : List AV}, cList l = some m → LRel E m l
  | [], _, h => by simp [cList] at h; subst h; exact .nil
  | v :: l, m, h => by
    simp only [cList] at h
    split at h
    · rename_i a ha
      split at h
      · rename_i m' hm
        simp at h; subst h
        exact .cons (cScal_sound E ha) (cList_sound E hm)
      · cases h
    · cases h
theorem cVal_sound (E : Env) {v : Value} {a : AV} (h : cVal v = some a) : VRel E a v := by
  unfold cVal at h
  split at h
  · split at h
    · rename_i l hl; simp at h; subst h; exact .agg (cList_sound E hl)
    · cases h
  · split at h
    · rename_i l hl; simp at h; subst h; exact .iface _ (cScal_sound E hl)
    · cases h
  · exact cScal_sound E h

theorem opd_sound {E : Env} {a : AAct} {ca : Act} (hA : ActRel E a ca) {x : Operand} {o : Opd} {v : AV} (hc : cOpd x = some o) (he : o.ev a.tmps = some v) : VRel E v (ca.eval x) := by
  unfold cOpd at hc
  split at hc
  · simp at hc; subst hc
    obtain ⟨y, hy, hr⟩ := hA.tmps _ _ he
    simp [Act.eval, Array.getD_eq_getD_getElem?, hy]
    exact hr
  · split at hc
    · rename_i b hb
      simp at hc; subst hc
      simp [Opd.ev] at he; subst he
      exact cVal_sound E hb
    · cases hc
  · simp at hc; subst hc
    simp [Opd.ev] at he; subst he
    exact .func _ .nil .nil
  · cases hc
theorem opds_sound {E : Env} {a : AAct} {ca : Act} (hA : ActRel E a ca) : ∀ {xs : List Operand} {os : List Opd} {vs : List AV}, cOpds xs = some os → evs a.tmps os = some vs → LRel E vs (xs.map ca.eval)
  | [], os, vs, hc, he => by
    simp [cOpds] at hc; subst hc
    simp [evs] at he; subst he
    exact .nil
  | x :: xs, os, vs, hc, he => by
    simp only [cOpds] at hc
    split at hc
    · rename_i o ho
      split at hc
      · rename_i m hm
        simp at hc; subst hc
        simp only [evs] at he
        split at he
        · rename_i v hv
          split at he
          · rename_i us hu
            simp at he; subst he
            exact .cons (opd_sound hA ho hv) (opds_sound hA hm hu)
          · cases he
        · cases he
      · cases hc
    · cases hc

theorem c1_inv {f : Opd → COp} {x : Operand} {c : COp} (h : c1 f x = some c) : ∃ a, cOpd x = some a ∧ c = f a := by
  unfold c1 at h
  split at h
  · rename_i a ha; simp at h; exact ⟨a, ha, h.symm⟩
  · cases h
theorem c2_inv {f : Opd → Opd → COp} {x y : Operand} {c : COp} (h : c2 f x y = some c) : ∃ a b, cOpd x = some a ∧ cOpd y = some b ∧ c = f a b := by
  unfold c2 at h
  split at h
  · rename_i a ha
    split at h
    · rename_i b hb; simp at h; exact ⟨a, b, ha, hb, h.symm⟩
    · cases h
  · cases h

/-- the operation yields what the evaluator says -/
def Yes (P : Program) (o : Oper) (E : Env) (ca : Act) (w : World) (r : AV) (aw' : AW) : Prop :=
  ∃ E' w', E.Le E' ∧ Rel E' aw' w' ∧ ((∃ v, (execOp ca.eval o).run P w = .ok (.value v) w' ∧ VRel E' r v) ∨ ((execOp ca.eval o).run P w = .ok .skip w' ∧ r = .tuple []))
theorem yes_value {P : Program} {o : Oper} {E : Env} {ca : Act} {w : World} {r : AV} {aw : AW} {s : Sem Value} {v : Value} (hR : Rel E aw w) (he : execOp ca.eval o = (do pure (.value (← s)))) (hs : s.run P w = .ok v w) (hv : VRel E r v) : Yes P o E ca w r aw :=
  ⟨E, w, .refl E, hR, .inl ⟨v, by rw [he]; simp [hs], hv⟩⟩
theorem yes_value' {P : Program} {o : Oper} {E E' : Env} {ca : Act} {w w' : World} {r : AV} {aw' : AW} {s : Sem Value} {v : Value} (hE : E.Le E') (hR : Rel E' aw' w') (he : execOp ca.eval o = (do pure (.value (← s)))) (hs : s.run P w = .ok v w') (hv : VRel E' r v) : Yes P o E ca w r aw' :=
  ⟨E', w', hE, hR, .inl ⟨v, by rw [he]; simp [hs], hv⟩⟩
theorem yes_skip {P : Program} {o : Oper} {E E' : Env} {ca : Act} {w w' : World} {aw' : AW} {s : Sem Unit} (hE : E.Le E') (hR : Rel E' aw' w') (he : execOp ca.eval o = (do s; pure .skip)) (hs : s.run P w = .ok () w') : Yes P o E ca w (.tuple []) aw' :=
  ⟨E', w', hE, hR, .inr ⟨by rw [he]; simp [hs], rfl⟩⟩

section
variable {P : Program} {o : Oper} {E : Env} {a : AAct} {ca : Act} {aw aw' : AW} {w : World} {r : AV} {c : COp}

theorem y_mv {x : Operand} (ho : o.op = .move x ∨ o.op = .assign x) (hc : cOp P o = some c) (h : xop a.tmps aw c = some (r, aw')) (hA : ActRel E a ca) (hR : Rel E aw w) : Yes P o E ca w r aw' := by
  have hc' : c1 .mv x = some c := by rcases ho with ho | ho <;> simpa only [cOp, ho] using hc
  obtain ⟨ox, hx, rfl⟩ := c1_inv hc'
  simp only [xop] at h
  split at h
  · rename_i v hv
    simp at h; obtain ⟨rfl, rfl⟩ := h
    refine ⟨E, w, .refl E, hR, .inl ⟨ca.eval x, ?_, opd_sound hA hx hv⟩⟩
    rcases ho with ho | ho <;> simp [execOp, ho]
  · cases h

theorem y_pick {x y z : Operand} (ho : o.op = .pick x y z) (hc : cOp P o = some c) (h : xop a.tmps aw c = some (r, aw')) (hA : ActRel E a ca) (hR : Rel E aw w) : Yes P o E ca w r aw' := by
  simp only [cOp, ho] at hc
  split at hc
  · rename_i oc hoc
    obtain ⟨oy, oz, hy, hz, rfl⟩ := c2_inv hc
    simp only [xop] at h
    split at h
    · rename_i b hb
      have hcb := opd_sound hA hoc hb
      cases hcb' : ca.eval x <;> rw [hcb'] at hcb <;> cases hcb
      split at h
      · rename_i v hv
        simp at h; obtain ⟨rfl, rfl⟩ := h
        refine ⟨E, w, .refl E, hR, .inl ⟨if b then ca.eval y else ca.eval z, ?_, ?_⟩⟩
        · simp [execOp, ho, hcb', asBool]
        · cases b
          · exact opd_sound hA hz hv
          · exact opd_sound hA hy hv
      · cases h
    · cases h
  · cases hc

theorem y_bnot {t : TypeId} {x : Operand} {op : UnOp} (ho : o.op = .unOp op t x) (hc : cOp P o = some c) (h : xop a.tmps aw c = some (r, aw')) (hA : ActRel E a ca) (hR : Rel E aw w) : Yes P o E ca w r aw' := by
  cases op with
  | not =>
    simp only [cOp, ho] at hc
    obtain ⟨ox, hx, rfl⟩ := c1_inv hc
    simp only [xop] at h
    split at h
    · rename_i b hb
      simp at h; obtain ⟨rfl, rfl⟩ := h
      have hv := opd_sound hA hx hb
      cases hv' : ca.eval x <;> rw [hv'] at hv <;> cases hv
      exact yes_value hR (by simp only [execOp, ho]; rfl) (by simp [hv', Op.unary]; try rfl) (.bool _)
    · cases h
  | neg =>
    simp only [cOp, ho] at hc
    obtain ⟨ox, hx, rfl⟩ := c1_inv hc
    simp only [xop] at h
    split at h
    · rename_i k n hb
      simp at h; obtain ⟨rfl, rfl⟩ := h
      have hv := opd_sound hA hx hb
      cases hv' : ca.eval x <;> rw [hv'] at hv <;> cases hv
      exact yes_value hR (by simp only [execOp, ho]; rfl) (v := .int k (k.wrap (0 - n))) (by simp [hv', Op.unary, Op.intArith]) (by rw [wrapF_eq, Int.zero_sub]; exact .int _ _)
    · cases h
  | xor => simp [cOp, ho] at hc
  | plus => simp [cOp, ho] at hc

theorem y_makeInterface {t : TypeId} {x : Operand} (ho : o.op = .makeInterface t x) (hc : cOp P o = some c) (h : xop a.tmps aw c = some (r, aw')) (hA : ActRel E a ca) (hR : Rel E aw w) : Yes P o E ca w r aw' := by
  simp only [cOp, ho] at hc
  split at hc
  · cases hc
  · rename_i d hni hd
    obtain ⟨ox, hx, rfl⟩ := c1_inv hc
    simp only [xop] at h
    split at h
    · rename_i v hv
      simp at h; obtain ⟨rfl, rfl⟩ := h
      refine yes_value (v := .iface t (ca.eval x)) hR (by simp only [execOp, ho]; rfl) ?_ (.iface _ (opd_sound hA hx hv))
      simp only [Instr.makeInterface, Sem.run_bind, run_underlying hd, Result.andThen_ok]
      rfl
    · cases h
  · cases hc

theorem y_makeFunc {fn : Fn} {x y : Array Operand} (ho : o.op = .makeFunc fn x y) (hc : cOp P o = some c) (h : xop a.tmps aw c = some (r, aw')) (hA : ActRel E a ca) (hR : Rel E aw w) : Yes P o E ca w r aw' := by
  cases fn <;> simp only [cOp, ho, reduceCtorEq] at hc
  split at hc
  · rename_i l hl
    split at hc
    · rename_i m hm
      simp at hc; subst hc
      simp only [xop] at h
      split at h
      · rename_i u hu
        split at h
        · rename_i v hv
          simp at h; obtain ⟨rfl, rfl⟩ := h
          refine yes_value (v := .func (.func _) (x.map ca.eval) (y.map ca.eval)) hR (by simp only [execOp, ho]; rfl) rfl (.func _ ?_ ?_)
          · simpa using opds_sound hA hl hu
          · simpa using opds_sound hA hm hv
        · cases h
      · cases h
    · cases hc
  · cases hc

theorem y_extract {x : Operand} {i : Nat} (ho : o.op = .extract x i) (hc : cOp P o = some c) (h : xop a.tmps aw c = some (r, aw')) (hA : ActRel E a ca) (hR : Rel E aw w) : Yes P o E ca w r aw' := by
  simp only [cOp, ho] at hc
  obtain ⟨ox, hx, rfl⟩ := c1_inv hc
  simp only [xop] at h
  split at h
  · rename_i l hl
    split at h
    · rename_i v hv
      simp at h; obtain ⟨rfl, rfl⟩ := h
      have hr := opd_sound hA hx hl
      cases hv' : ca.eval x <;> rw [hv'] at hr <;> cases hr
      rename_i vs hL
      obtain ⟨u, hu, hr⟩ := hL.get hv
      refine yes_value (v := u) hR (by simp only [execOp, ho]; rfl) ?_ hr
      simp at hu
      simp [hv', Instr.extract, hu]
    · cases h
  · cases h

theorem y_fieldAddr {t : TypeId} {x : Operand} {f : Nat} (ho : o.op = .fieldAddr t x f) (hc : cOp P o = some c) (h : xop a.tmps aw c = some (r, aw')) (hA : ActRel E a ca) (hR : Rel E aw w) : Yes P o E ca w r aw' := by
  simp only [cOp, ho] at hc
  split at hc
  · rename_i fs hu
    split at hc
    · rename_i fl hf
      split at hc
      · rename_i i hi
        cases hz : Nat.beq i.size 0 <;> simp only [hz, cond_false, cond_true, reduceCtorEq] at hc
        obtain ⟨ox, hx, rfl⟩ := c1_inv hc
        simp only [xop] at h
        split at h
        · rename_i id of hp
          simp at h; obtain ⟨rfl, rfl⟩ := h
          have hr := opd_sound hA hx hp
          cases hv' : ca.eval x <;> rw [hv'] at hr <;> cases hr
          rename_i L hL
          have hs : ¬ i.size = 0 := ne_of_beq hz
          refine yes_value (v := .pointer (some ⟨L.block, L.base + (of + fl.offset), none⟩)) hR (by simp only [execOp, ho]; rfl) ?_ (.ptr hL)
          simp [hv', Instr.fieldAt, run_underlying hu, hf, Instr.sureAddr, fieldPlace, sizeOf, typeInfo, hi, hs, add_eq, Nat.add_assoc]
        · cases h
      · cases hc
    · cases hc
  · cases hc

theorem y_indexAddr {t : TypeId} {x y : Operand} (ho : o.op = .indexAddr t x y) (hc : cOp P o = some c) (h : xop a.tmps aw c = some (r, aw')) (hA : ActRel E a ca) (hR : Rel E aw w) : Yes P o E ca w r aw' := by
  simp only [cOp, ho] at hc
  split at hc
  · rename_i e hu
    split at hc
    · rename_i j hj
      obtain ⟨ox, oy, hx, hy, rfl⟩ := c2_inv hc
      simp only [xop] at h
      split at h
      · rename_i id of len cap hp
        split at h
        · rename_i iv hiv
          split at h
          · rename_i i hi
            cases hb : Nat.blt i len <;> simp only [hb, cond_false, cond_true, reduceCtorEq, Option.some.injEq, Prod.mk.injEq] at h
            obtain ⟨rfl, rfl⟩ := h
            have hlt : i < len := Nat.le_of_ble_eq_true hb
            have hr := opd_sound hA hx hp
            have hq := opd_sound hA hy hiv
            unfold xnat at hi
            split at hi <;> simp at hi
            rename_i kk m
            subst hi
            cases hq' : ca.eval y <;> rw [hq'] at hq <;> cases hq
            cases hv' : ca.eval x <;> rw [hv'] at hr
            all_goals (try (cases hr; done))
            rename_i ad len' cap'
            have hh : len' = len ∧ ∃ L, E.loc[id]? = some L ∧ ad = some ⟨L.block, L.base + of, none⟩ := by
              cases hr with
              | slc hL hd =>
                rename_i L
                rcases hd with ⟨_, h0⟩ | rfl
                · omega
                · exact ⟨rfl, L, hL, rfl⟩
              | slcUp hL hl hlo hd =>
                rename_i L
                rcases hd with h0 | ⟨rfl, _⟩
                · omega
                · exact ⟨rfl, L, hL, rfl⟩
            obtain ⟨rfl, L, hL, rfl⟩ := hh
            refine yes_value (v := .pointer (some ⟨L.block, L.base + (of + m * j.size), none⟩)) hR (by simp only [execOp, ho]; rfl) ?_ (.ptr hL)
            have e1 : (Int.ofNat m : Int) = (m : Int) := rfl
            simp [hv', hq', Instr.indexAt, asIntOf, run_underlying hu, e1, sizeOf, typeInfo, hj, add_eq, Nat.add_assoc]
            omega
          · cases h
        · cases h
      · cases h
    · cases hc
  · rename_i n e hu
    split at hc
    · rename_i j hj
      cases h1n : Nat.blt 1 n <;> simp only [h1n, cond_false, cond_true, reduceCtorEq] at hc
      obtain ⟨ox, oy, hx, hy, rfl⟩ := c2_inv hc
      simp only [xop] at h
      split at h
      · rename_i id of hp
        split at h
        · rename_i iv hiv
          split at h
          · rename_i i hi
            cases hb : Nat.blt i n <;> simp only [hb, cond_false, cond_true, reduceCtorEq, Option.some.injEq, Prod.mk.injEq] at h
            obtain ⟨rfl, rfl⟩ := h
            have hlt : i < n := Nat.le_of_ble_eq_true hb
            have hr := opd_sound hA hx hp
            have hq := opd_sound hA hy hiv
            unfold xnat at hi
            split at hi <;> simp at hi
            rename_i kk m
            subst hi
            cases hq' : ca.eval y <;> rw [hq'] at hq <;> cases hq
            cases hv' : ca.eval x <;> rw [hv'] at hr <;> cases hr
            rename_i L hL
            refine yes_value (v := .pointer (some ⟨L.block, L.base + (of + m * j.size), none⟩)) hR (by simp only [execOp, ho]; rfl) ?_ (.ptr hL)
            have e1 : (Int.ofNat m : Int) = (m : Int) := rfl
            simp [hv', hq', Instr.indexAt, asIntOf, run_underlying hu, e1, sizeOf, typeInfo, hj, add_eq, Nat.add_assoc, Instr.sureAddr]
            omega
          · cases h
        · cases h
      · cases h
    · cases hc
  · cases hc
end
end Go.Proofs.YtbilacojhmohmaaGreat.Ae
