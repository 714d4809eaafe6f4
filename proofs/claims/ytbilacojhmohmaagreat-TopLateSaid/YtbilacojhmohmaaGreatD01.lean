/- The evaluator's operations are sound: the first of them, on values alone. The evaluator's operations are sound. No condition. -/
import Derived.Test.YtbilacojhmohmaaGreatD00
import Derived.Laws.Slices
import Derived.Laws.BytesString
import Derived.Laws.Pointers
import Derived.Laws.Cover3
import Derived.Laws.Strings
import Derived.Laws.AppendOwn
set_option linter.unusedVariables false
set_option linter.unusedSimpArgs false
noncomputable section
namespace Go.Proofs.YtbilacojhmohmaaGreat.Ae
open Go
structure ADef where
 f : FuncId
 args : List AV
structure AAct where
 tmps : Tr AV
 n : Nat
 defs : List ADef
inductive DRel (E : Env) : List ADef → List Deferred → Prop
 | nil : DRel E [] []
 | cons {d e l m cap} (ht : e.target = .fn (.func d.f) cap) (ha : LRel E d.args (e.args ++ cap).toList) (t : DRel E l m) : DRel E (d :: l) (e :: m)
theorem DRel.mono {E E' : Env} (hE : E.Le E') : ∀ {l m}, DRel E l m → DRel E' l m
 | _, _, .nil => .nil
 | _, _, .cons ht ha t => .cons ht (ha.mono hE) (DRel.mono hE t)
structure ActRel (E : Env) (a : AAct) (ca : Act) : Prop where
 size : ca.tmps.size = a.n
 tmps : ∀ t v, a.tmps.get t t = some v → ∃ x, ca.tmps[t]? = some x ∧ VRel E v x
 defs : DRel E a.defs ca.defers
theorem ActRel.mono {E E' : Env} (hE : E.Le E') {a : AAct} {ca : Act} (h : ActRel E a ca) : ActRel E' a ca :=
 ⟨h.size, fun t v hv => let ⟨x, hx, hr⟩ := h.tmps t v hv; ⟨x, hx, hr.mono hE⟩, h.defs.mono hE⟩
theorem LRel.bytes (E : Env) : ∀ (l : List UInt8), LRel E (l.map fun b => AV.int .u8 (b.toNat : Int)) (l.map fun b => Value.int .u8 (b.toNat : Int))
 | [] => .nil
 | b :: l => .cons (.int _ _) (LRel.bytes E l)
theorem cScal_sound (E : Env) {v : Value} {a : AV} (h : cScal v = some a) : VRel E a v := by
 unfold cScal at h
 split at h <;> (try simp only [sI, reduceCtorEq] at h) <;> (try subst h)
 case h_9 f x y =>
  cases hb : (x.isEmpty && y.isEmpty) <;> simp [hb] at h
  subst h
  simp at hb
  obtain ⟨rfl, rfl⟩ := hb
  exact .func _ .nil .nil
 all_goals first | exact .bool _ | exact .int _ _ | exact .str (LRel.bytes E _) | exact .nilPtr | exact .nilSlc | exact .nilMap | exact .nilFunc | exact .nilIface | cases h
theorem cList_sound (E : Env) : ∀ {l : List Value} {m : List AV}, cList l = some m → LRel E m l
 | [], _, h => by simp [cList] at h; subst h; exact .nil
 | v :: l, m, h => by
  simp only [cList] at h
  split at h
  ·rename_i a ha
   split at h
   ·rename_i m' hm
    simp at h; subst h
    exact .cons (cScal_sound E ha) (cList_sound E hm)
   ·cases h
  ·cases h
theorem cVal_sound (E : Env) {v : Value} {a : AV} (h : cVal v = some a) : VRel E a v := by
 unfold cVal at h
 split at h
 ·split at h
  ·rename_i l hl; simp at h; subst h; exact .agg (cList_sound E hl)
  ·cases h
 ·split at h
  ·rename_i l hl; simp at h; subst h; exact .iface _ (cScal_sound E hl)
  ·cases h
 ·exact cScal_sound E h
theorem opd_sound {E : Env} {a : AAct} {ca : Act} (hA : ActRel E a ca) {x : Operand} {o : Opd} {v : AV} (hc : cOpd x = some o) (he : o.ev a.tmps = some v) : VRel E v (ca.eval x) := by
 unfold cOpd at hc
 split at hc
 ·simp at hc; subst hc
  obtain ⟨y, hy, hr⟩ := hA.tmps _ _ he
  simp [Act.eval, Array.getD_eq_getD_getElem?, hy]
  exact hr
 ·split at hc
  ·rename_i b hb
   simp at hc; subst hc
   simp [Opd.ev] at he; subst he
   exact cVal_sound E hb
  ·cases hc
 ·simp at hc; subst hc
  simp [Opd.ev] at he; subst he
  exact .func _ .nil .nil
 ·cases hc
theorem opds_sound {E : Env} {a : AAct} {ca : Act} (hA : ActRel E a ca) : ∀ {xs : List Operand} {os : List Opd} {vs : List AV}, cOpds xs = some os → evs a.tmps os = some vs → LRel E vs (xs.map ca.eval)
 | [], os, vs, hc, he => by
  simp [cOpds] at hc; subst hc
  simp [evs] at he; subst he
  exact .nil
 | x :: xs, os, vs, hc, he => by
  simp only [cOpds] at hc
  split at hc
  ·rename_i o ho
   split at hc
   ·rename_i m hm
    simp at hc; subst hc
    simp only [evs] at he
    split at he
    ·rename_i v hv
     split at he
     ·rename_i us hu
      simp at he; subst he
      exact .cons (opd_sound hA ho hv) (opds_sound hA hm hu)
     ·cases he
    ·cases he
   ·cases hc
  ·cases hc
theorem c1_inv {f : Opd → COp} {x : Operand} {c : COp} (h : c1 f x = some c) : ∃ a, cOpd x = some a ∧ c = f a := by
 unfold c1 at h
 split at h
 ·rename_i a ha; simp at h; exact ⟨a, ha, h.symm⟩
 ·cases h
theorem c2_inv {f : Opd → Opd → COp} {x y : Operand} {c : COp} (h : c2 f x y = some c) : ∃ a b, cOpd x = some a ∧ cOpd y = some b ∧ c = f a b := by
 unfold c2 at h
 split at h
 ·rename_i a ha
  split at h
  ·rename_i b hb; simp at h; exact ⟨a, b, ha, hb, h.symm⟩
  ·cases h
 ·cases h
def Yes (P : Program) (o : Oper) (E : Env) (ca : Act) (w : World) (r : AV) (aw' : AW) : Prop :=
 ∃ E' w', E.Le E' ∧ Rel E' aw' w' ∧ ((∃ v, (execOp ca.eval o).run P w = .ok (.value v) w' ∧ VRel E' r v) ∨ ((execOp ca.eval o).run P w = .ok .skip w' ∧ r = .tuple []))
theorem yes_value {P : Program} {o : Oper} {E : Env} {ca : Act} {w : World} {r : AV} {aw : AW} {s : Sem Value} {v : Value} (hR : Rel E aw w) (he : execOp ca.eval o = (do pure (.value (← s)))) (hs : s.run P w = .ok v w) (hv : VRel E r v) : Yes P o E ca w r aw :=
 ⟨E, w, .refl E, hR, .inl ⟨v, by rw [he]; simp [hs], hv⟩⟩
theorem yes_value' {P : Program} {o : Oper} {E E' : Env} {ca : Act} {w w' : World} {r : AV} {aw' : AW} {s : Sem Value} {v : Value} (hE : E.Le E') (hR : Rel E' aw' w') (he : execOp ca.eval o = (do pure (.value (← s)))) (hs : s.run P w = .ok v w') (hv : VRel E' r v) : Yes P o E ca w r aw' :=
 ⟨E', w', hE, hR, .inl ⟨v, by rw [he]; simp [hs], hv⟩⟩
theorem yes_skip {P : Program} {o : Oper} {E E' : Env} {ca : Act} {w w' : World} {aw' : AW} {s : Sem Unit} (hE : E.Le E') (hR : Rel E' aw' w') (he : execOp ca.eval o = (do s; pure .skip)) (hs : s.run P w = .ok () w') : Yes P o E ca w (.tuple []) aw' :=
 ⟨E', w', hE, hR, .inr ⟨by rw [he]; simp [hs], rfl⟩⟩
section
variable {P : Program} {o : Oper} {E : Env} {a : AAct} {ca : Act} {aw aw' : AW} {w : World} {r : AV} {c : COp}
theorem y_mv {x : Operand} (ho : o.op = .move x ∨ o.op = .assign x) (hc : cOp P o = some c) (h : xop a.tmps aw c = some (r, aw')) (hA : ActRel E a ca) (hR : Rel E aw w) : Yes P o E ca w r aw' := by
 have hc' : c1 .mv x = some c := by rcases ho with ho | ho <;> simpa only [cOp, ho] using hc
 obtain ⟨ox, hx, rfl⟩ := c1_inv hc'
 simp only [xop] at h
 split at h
 ·rename_i v hv
  simp at h; obtain ⟨rfl, rfl⟩ := h
  refine ⟨E, w, .refl E, hR, .inl ⟨ca.eval x, ?_, opd_sound hA hx hv⟩⟩
  rcases ho with ho | ho <;> simp [execOp, ho]
 ·cases h
theorem y_pick {x y z : Operand} (ho : o.op = .pick x y z) (hc : cOp P o = some c) (h : xop a.tmps aw c = some (r, aw')) (hA : ActRel E a ca) (hR : Rel E aw w) : Yes P o E ca w r aw' := by
 simp only [cOp, ho] at hc
 split at hc
 ·rename_i oc hoc
  obtain ⟨oy, oz, hy, hz, rfl⟩ := c2_inv hc
  simp only [xop] at h
  split at h
  ·rename_i b hb
   have hcb := opd_sound hA hoc hb
   cases hcb' : ca.eval x <;> rw [hcb'] at hcb <;> cases hcb
   split at h
   ·rename_i v hv
    simp at h; obtain ⟨rfl, rfl⟩ := h
    refine ⟨E, w, .refl E, hR, .inl ⟨if b then ca.eval y else ca.eval z, ?_, ?_⟩⟩
    ·simp [execOp, ho, hcb', asBool]
    ·cases b
     ·exact opd_sound hA hz hv
     ·exact opd_sound hA hy hv
   ·cases h
  ·cases h
 ·cases hc
theorem y_bnot {t : TypeId} {x : Operand} {op : UnOp} (ho : o.op = .unOp op t x) (hc : cOp P o = some c) (h : xop a.tmps aw c = some (r, aw')) (hA : ActRel E a ca) (hR : Rel E aw w) : Yes P o E ca w r aw' := by
 cases op with
 | not =>
  simp only [cOp, ho] at hc
  obtain ⟨ox, hx, rfl⟩ := c1_inv hc
  simp only [xop] at h
  split at h
  ·rename_i b hb
   simp at h; obtain ⟨rfl, rfl⟩ := h
   have hv := opd_sound hA hx hb
   cases hv' : ca.eval x <;> rw [hv'] at hv <;> cases hv
   exact yes_value hR (by simp only [execOp, ho]; rfl) (by simp [hv', Op.unary]; try rfl) (.bool _)
  ·cases h
 | neg =>
  simp only [cOp, ho] at hc
  obtain ⟨ox, hx, rfl⟩ := c1_inv hc
  simp only [xop] at h
  split at h
  ·rename_i k n hb
   simp at h; obtain ⟨rfl, rfl⟩ := h
   have hv := opd_sound hA hx hb
   cases hv' : ca.eval x <;> rw [hv'] at hv <;> cases hv
   exact yes_value hR (by simp only [execOp, ho]; rfl) (v := .int k (k.wrap (0 - n))) (by simp [hv', Op.unary, Op.intArith]) (by rw [wrapF_eq, Int.zero_sub]; exact .int _ _)
  ·cases h
 | xor => simp [cOp, ho] at hc
 | plus => simp [cOp, ho] at hc
theorem y_makeInterface {t : TypeId} {x : Operand} (ho : o.op = .makeInterface t x) (hc : cOp P o = some c) (h : xop a.tmps aw c = some (r, aw')) (hA : ActRel E a ca) (hR : Rel E aw w) : Yes P o E ca w r aw' := by
 simp only [cOp, ho] at hc
 split at hc
 ·cases hc
 ·rename_i d hni hd
  obtain ⟨ox, hx, rfl⟩ := c1_inv hc
  simp only [xop] at h
  split at h
  ·rename_i v hv
   simp at h; obtain ⟨rfl, rfl⟩ := h
   refine yes_value (v := .iface t (ca.eval x)) hR (by simp only [execOp, ho]; rfl) ?_ (.iface _ (opd_sound hA hx hv))
   simp only [Instr.makeInterface, Sem.run_bind, run_underlying hd, Result.andThen_ok]
   rfl
  ·cases h
 ·cases hc
theorem y_makeFunc {fn : Fn} {x y : Array Operand} (ho : o.op = .makeFunc fn x y) (hc : cOp P o = some c) (h : xop a.tmps aw c = some (r, aw')) (hA : ActRel E a ca) (hR : Rel E aw w) : Yes P o E ca w r aw' := by
 cases fn <;> simp only [cOp, ho, reduceCtorEq] at hc
 split at hc
 ·rename_i l hl
  split at hc
  ·rename_i m hm
   simp at hc; subst hc
   simp only [xop] at h
   split at h
   ·rename_i u hu
    split at h
    ·rename_i v hv
     simp at h; obtain ⟨rfl, rfl⟩ := h
     refine yes_value (v := .func (.func _) (x.map ca.eval) (y.map ca.eval)) hR (by simp only [execOp, ho]; rfl) rfl (.func _ ?_ ?_)
     ·simpa using opds_sound hA hl hu
     ·simpa using opds_sound hA hm hv
    ·cases h
   ·cases h
  ·cases hc
 ·cases hc
theorem y_extract {x : Operand} {i : Nat} (ho : o.op = .extract x i) (hc : cOp P o = some c) (h : xop a.tmps aw c = some (r, aw')) (hA : ActRel E a ca) (hR : Rel E aw w) : Yes P o E ca w r aw' := by
 simp only [cOp, ho] at hc
 obtain ⟨ox, hx, rfl⟩ := c1_inv hc
 simp only [xop] at h
 split at h
 ·rename_i l hl
  split at h
  ·rename_i v hv
   simp at h; obtain ⟨rfl, rfl⟩ := h
   have hr := opd_sound hA hx hl
   cases hv' : ca.eval x <;> rw [hv'] at hr <;> cases hr
   rename_i vs hL
   obtain ⟨u, hu, hr⟩ := hL.get hv
   refine yes_value (v := u) hR (by simp only [execOp, ho]; rfl) ?_ hr
   simp at hu
   simp [hv', Instr.extract, hu]
  ·cases h
 ·cases h
theorem y_fieldAddr {t : TypeId} {x : Operand} {f : Nat} (ho : o.op = .fieldAddr t x f) (hc : cOp P o = some c) (h : xop a.tmps aw c = some (r, aw')) (hA : ActRel E a ca) (hR : Rel E aw w) : Yes P o E ca w r aw' := by
 simp only [cOp, ho] at hc
 split at hc
 ·rename_i fs hu
  split at hc
  ·rename_i fl hf
   split at hc
   ·rename_i i hi
    cases hz : Nat.beq i.size 0 <;> simp only [hz, cond_false, cond_true, reduceCtorEq] at hc
    obtain ⟨ox, hx, rfl⟩ := c1_inv hc
    simp only [xop] at h
    split at h
    ·rename_i id of hp
     simp at h; obtain ⟨rfl, rfl⟩ := h
     have hr := opd_sound hA hx hp
     cases hv' : ca.eval x <;> rw [hv'] at hr <;> cases hr
     rename_i L hL
     have hs : ¬ i.size = 0 := ne_of_beq hz
     refine yes_value (v := .pointer (some ⟨L.block, L.base + (of + fl.offset), none⟩)) hR (by simp only [execOp, ho]; rfl) ?_ (.ptr hL)
     simp [hv', Instr.fieldAt, run_underlying hu, hf, Instr.sureAddr, fieldPlace, sizeOf, typeInfo, hi, hs, add_eq, Nat.add_assoc]
    ·cases h
   ·cases hc
  ·cases hc
 ·cases hc
theorem y_indexAddr {t : TypeId} {x y : Operand} (ho : o.op = .indexAddr t x y) (hc : cOp P o = some c) (h : xop a.tmps aw c = some (r, aw')) (hA : ActRel E a ca) (hR : Rel E aw w) : Yes P o E ca w r aw' := by
 simp only [cOp, ho] at hc
 split at hc
 ·rename_i e hu
  split at hc
  ·rename_i j hj
   obtain ⟨ox, oy, hx, hy, rfl⟩ := c2_inv hc
   simp only [xop] at h
   split at h
   ·rename_i id of len cap hp
    split at h
    ·rename_i iv hiv
     split at h
     ·rename_i i hi
      cases hb : Nat.blt i len <;> simp only [hb, cond_false, cond_true, reduceCtorEq, sI, pmi] at h
      obtain ⟨rfl, rfl⟩ := h
      have hlt : i < len := nbl hb
      have hr := opd_sound hA hx hp
      have hq := opd_sound hA hy hiv
      unfold xnat at hi
      split at hi <;> simp at hi
      rename_i kk m
      subst hi
      cases hq' : ca.eval y <;> rw [hq'] at hq <;> cases hq
      cases hv' : ca.eval x <;> rw [hv'] at hr
      all_goals (try (cases hr; done))
      rename_i ad len' cap'
      have hh : len' = len ∧ ∃ L, E.loc[id]? = some L ∧ ad = some ⟨L.block, L.base + of, none⟩ := by
       cases hr with
       | slc hL hd =>
        rename_i L
        rcases hd with ⟨_, h0⟩ | rfl
        ·omega
        ·exact ⟨rfl, L, hL, rfl⟩
       | slcUp hL hl hlo hd =>
        rename_i L
        rcases hd with h0 | ⟨rfl, _⟩
        ·omega
        ·exact ⟨rfl, L, hL, rfl⟩
      obtain ⟨rfl, L, hL, rfl⟩ := hh
      refine yes_value (v := .pointer (some ⟨L.block, L.base + (of + m * j.size), none⟩)) hR (by simp only [execOp, ho]; rfl) ?_ (.ptr hL)
      have e1 : (Int.ofNat m : Int) = (m : Int) := rfl
      simp [hv', hq', Instr.indexAt, asIntOf, run_underlying hu, e1, sizeOf, typeInfo, hj, add_eq, Nat.add_assoc]
      omega
     ·cases h
    ·cases h
   ·cases h
  ·cases hc
 ·rename_i n e hu
  split at hc
  ·rename_i j hj
   cases h1n : Nat.blt 1 n <;> simp only [h1n, cond_false, cond_true, reduceCtorEq] at hc
   obtain ⟨ox, oy, hx, hy, rfl⟩ := c2_inv hc
   simp only [xop] at h
   split at h
   ·rename_i id of hp
    split at h
    ·rename_i iv hiv
     split at h
     ·rename_i i hi
      cases hb : Nat.blt i n <;> simp only [hb, cond_false, cond_true, reduceCtorEq, sI, pmi] at h
      obtain ⟨rfl, rfl⟩ := h
      have hlt : i < n := nbl hb
      have hr := opd_sound hA hx hp
      have hq := opd_sound hA hy hiv
      unfold xnat at hi
      split at hi <;> simp at hi
      rename_i kk m
      subst hi
      cases hq' : ca.eval y <;> rw [hq'] at hq <;> cases hq
      cases hv' : ca.eval x <;> rw [hv'] at hr <;> cases hr
      rename_i L hL
      refine yes_value (v := .pointer (some ⟨L.block, L.base + (of + m * j.size), none⟩)) hR (by simp only [execOp, ho]; rfl) ?_ (.ptr hL)
      have e1 : (Int.ofNat m : Int) = (m : Int) := rfl
      simp [hv', hq', Instr.indexAt, asIntOf, run_underlying hu, e1, sizeOf, typeInfo, hj, add_eq, Nat.add_assoc, Instr.sureAddr]
      omega
     ·cases h
    ·cases h
   ·cases h
  ·cases hc
 ·cases hc
end
theorem aggP_none {P : Program} {t : TypeId} (h : aggP P t = some none) : ∀ w, (isAgg t).run P w = .ok false w := by
 intro w
 unfold aggP at h
 split at h
 ·split at h <;> simp at h
 ·split at h <;> simp at h
 ·rename_i d h1 h2 hd
  simp only [isAgg, Sem.run_bind, run_underlying hd, Result.andThen_ok]
  rfl
 ·cases h
theorem aggP_some {P : Program} {t : TypeId} {n : Nat} (h : aggP P t = some (some n)) : (∀ w, (isAgg t).run P w = .ok true w) ∧ ∃ i, P.info? t = some i ∧ i.size = n := by
 unfold aggP at h
 split at h
 ·rename_i d hd
  split at h <;> simp at h
  rename_i i hi
  exact ⟨fun w => by simp [isAgg, run_underlying hd], i, hi, h⟩
 ·rename_i d e hd
  split at h <;> simp at h
  rename_i i hi
  exact ⟨fun w => by simp [isAgg, run_underlying hd], i, hi, h⟩
 ·simp at h
 ·cases h
theorem run_sizeOf' {P : Program} {t : TypeId} {i : TypeInfo} (h : P.info? t = some i) (w : World) : (sizeOf t).run P w = .ok i.size w := by simp [sizeOf, typeInfo, h]
theorem run_zeroValue' {P : Program} {t : TypeId} {v : Value} {a : AV} (h : zeroP P t = some (v, a)) (w : World) : (zeroValue t).run P w = .ok v w := by
 unfold zeroP at h
 split at h
 ·rename_i i hi
  split at h
  ·rename_i u hu
   split at h
   ·simp at h; obtain ⟨rfl, rfl⟩ := h
    simp [zeroValue, typeInfo, hi, hu]
   ·cases h
  ·cases h
 ·cases h
theorem zeroP_rel {P : Program} {t : TypeId} {v : Value} {a : AV} (h : zeroP P t = some (v, a)) (E : Env) : VRel E a v := by
 unfold zeroP at h
 split at h
 ·split at h
  ·split at h
   ·rename_i hc; simp at h; obtain ⟨rfl, rfl⟩ := h; exact cVal_sound E hc
   ·cases h
  ·cases h
 ·cases h
theorem run_load_at {P : Program} {w : World} {ad : Addr} {v : Value} (h : w.cell? ad = some v) : (load ad).run P w = .ok v w := by simp [h]
section
variable {P : Program} {o : Oper} {E : Env} {a : AAct} {ca : Act} {aw aw' : AW} {w : World} {r : AV} {c : COp}
theorem y_load {t : TypeId} {x : Operand} (ho : o.op = .load t x) (hc : cOp P o = some c) (h : xop a.tmps aw c = some (r, aw')) (hA : ActRel E a ca) (hR : Rel E aw w) : Yes P o E ca w r aw' := by
 simp only [cOp, ho] at hc
 split at hc
 ·rename_i n hn
  obtain ⟨ox, hx, rfl⟩ := c1_inv hc
  simp only [xop] at h
  split at h
  ·rename_i p hp
   split at h
   ·rename_i v hv
    simp at h; obtain ⟨rfl, rfl⟩ := h
    unfold xload at hv
    split at hv
    ·rename_i id off
     split at hv
     rotate_left
     ·cases hv
     rename_i xo hg
     split at hv
     ·rename_i l hrd
      have hr := opd_sound hA hx hp
      cases hv' : ca.eval x <;> rw [hv'] at hr
      all_goals (try (cases hr; done))
      rename_i ad
      cases ad with
      | none => cases hr
      | some ad =>
       obtain ⟨L, cs, e, hL, rfl, h1, h2, h3, h5⟩ := hR.at hr hg hrd
       split at hv
       ·obtain ⟨u, hu, hru⟩ := h5 _ _ hv
        refine yes_value (v := u) hR (by simp only [execOp, ho]; rfl) ?_ hru
        have hcell : w.cell? ⟨L.block, L.base + off, none⟩ = some u := by obtain ⟨fz, h1⟩ := h1; simp [World.cell?, h1, hu]
        simp only [hv', Instr.loadAt, Instr.sureAddr, Sem.run_bind, Sem.run_pure, Result.andThen_ok, loadVar, aggP_none hn w, Bool.false_eq_true, if_false, run_load_at hcell]
       ·rename_i n
        cases hb : Nat.beq ((l.drop off).take n).length n <;> simp only [hb, cond_false, cond_true, reduceCtorEq, sI] at hv
        subst hv
        obtain ⟨hag, i, hi, rfl⟩ := aggP_some hn
        obtain ⟨vs, hrun, hrel⟩ := load_cells (P := P) h1 h5 (nbt hb)
        refine yes_value (v := .agg vs.toArray) hR (by simp only [execOp, ho]; rfl) ?_ (.agg (by simpa using hrel))
        simp only [hv', Instr.loadAt, Instr.sureAddr, Sem.run_bind, Sem.run_pure, Result.andThen_ok, loadVar, hag w, if_true, run_sizeOf' hi, hrun w rfl]
     ·cases hv
    ·cases hv
   ·cases h
  ·cases h
 ·cases hc
theorem y_store {t : TypeId} {x y : Operand} (ho : o.op = .store t x y) (hc : cOp P o = some c) (h : xop a.tmps aw c = some (r, aw')) (hA : ActRel E a ca) (hR : Rel E aw w) : Yes P o E ca w r aw' := by
 simp only [cOp, ho] at hc
 split at hc
 ·rename_i i hi
  obtain ⟨ox, oy, hx, hy, rfl⟩ := c2_inv hc
  simp only [xop] at h
  split at h
  ·rename_i p hp
   split at h
   ·rename_i v hv
    unfold xstore at h
    split at h
    ·rename_i id off
     split at h
     ·rename_i cs hcs
      split at h
      ·rename_i l e opn hg
       cases hb : (Nat.beq cs.length i.size && (Nat.ble (off + i.size) l.length && allOne cs)) <;> simp only [hb, cond_false, cond_true, reduceCtorEq, sI, pmi] at h
       obtain ⟨rfl, rfl⟩ := h
       simp only [Bool.and_eq_true] at hb
       obtain ⟨b1, b2, b3⟩ := hb
       have b1 := nbt b1
       have b2 := nbl b2
       have hr := opd_sound hA hx hp
       have hq := opd_sound hA hy hv
       cases hv' : ca.eval x <;> rw [hv'] at hr
       all_goals (try (cases hr; done))
       rename_i ad
       cases hr with
       | ptr hL =>
        rename_i L
        have hcl := hq.cells hcs
        obtain ⟨w', hrun, hR'⟩ := store_cells (P := P) (o := off) (x := cs) hR hL hg hcl b3 (by omega)
        refine yes_skip (.refl E) hR' (by simp only [execOp, ho]; rfl) ?_
        have hlen : (ca.eval y).cells.size = i.size := by have := hcl.length; simp at this; omega
        simp only [hv', Instr.storeAt, Instr.sureAddr, Sem.run_bind, Sem.run_pure, Result.andThen_ok, storeVar, run_sizeOf' hi, hlen, ne_eq, not_true_eq_false, if_false, hrun]
      ·cases h
     ·cases h
    ·cases h
   ·cases h
  ·cases h
 ·cases hc
theorem rel_alloc {cs : List Value} {l : List AV} {e : TypeId} {opn : Bool} (hR : Rel E aw w) (hl : LRel E l cs) :
  ∃ L, L.block = w.heap.size ∧ L.base = 0 ∧ L.total = cs.length ∧ E.Le (E.put L) ∧ Rel (E.put L) (aw.add (.cells l e opn)) (w.alloc (.cells cs.toArray e (0, 0))) ∧ (E.put L).loc[aw.nx]? = some L := by
 let L : Loc := ⟨w.heap.size, 0, cs.length⟩
 refine ⟨L, rfl, rfl, rfl, E.put_le L, hR.add ⟨rfl, rfl⟩ (fun b hb => ?_) (Nat.le_refl _) ⟨cs.toArray, (0, 0), ⟨?_, .inl rfl⟩, by simp [L], by simp [L, hl.length], fun _ => by simp [L, hl.length], fun i x hi => ?_⟩, hR.nx ▸ E.put_new L⟩
 ·show (w.heap.push _)[b]? = _
  rw [Array.getElem?_push, if_neg (Nat.ne_of_lt hb)]
 ·show (w.heap.push _)[w.heap.size]? = _
  simp
 ·obtain ⟨v, hv, hr⟩ := hl.get hi
  exact ⟨v, by simpa [L] using hv, hr.mono (E.put_le L)⟩
theorem y_alloc {t : TypeId} (ho : o.op = .alloc t) (hc : cOp P o = some c) (h : xop a.tmps aw c = some (r, aw')) (hA : ActRel E a ca) (hR : Rel E aw w) : Yes P o E ca w r aw' := by
 simp only [cOp, ho] at hc
 split at hc
 ·rename_i z az hz
  split at hc
  ·rename_i l hl
   simp at hc; subst hc
   simp only [xop] at h
   simp at h; obtain ⟨rfl, rfl⟩ := h
   have hcl := (zeroP_rel hz E).cells hl
   obtain ⟨L, hb, h0, _, hle, hR', hn⟩ := rel_alloc (e := t) (opn := false) hR hcl
   refine yes_value' (v := .pointer (some ⟨L.block, L.base + 0, none⟩)) hle hR' (by simp only [execOp, ho]; rfl) ?_ (.ptr hn)
   simp only [Instr.alloc, Sem.run_bind, run_zeroValue' hz, Result.andThen_ok, newVar, newRow, run_newObj]
   simp [hb, h0]
  ·cases hc
 ·cases hc
theorem y_box {t : TypeId} {x : Operand} (ho : o.op = .box t x) (hc : cOp P o = some c) (h : xop a.tmps aw c = some (r, aw')) (hA : ActRel E a ca) (hR : Rel E aw w) : Yes P o E ca w r aw' := by
 simp only [cOp, ho] at hc
 obtain ⟨ox, hx, rfl⟩ := c1_inv hc
 simp only [xop] at h
 split at h
 ·rename_i v hv
  split at h
  ·rename_i cs hcs
   simp at h; obtain ⟨rfl, rfl⟩ := h
   have hcl := (opd_sound hA hx hv).cells hcs
   obtain ⟨L, hb, h0, _, hle, hR', hn⟩ := rel_alloc (e := t) (opn := false) hR hcl
   refine yes_value' (v := .pointer (some ⟨L.block, L.base + 0, none⟩)) hle hR' (by simp only [execOp, ho]; rfl) ?_ (.ptr hn)
   simp only [Instr.box, Sem.run_bind, newVar, newRow, run_newObj, Result.andThen_ok]
   simp [hb, h0]
  ·cases h
 ·cases h
theorem y_nilCheck {x : Operand} (ho : o.op = .nilCheck x) (hc : cOp P o = some c) (h : xop a.tmps aw c = some (r, aw')) (hA : ActRel E a ca) (hR : Rel E aw w) : Yes P o E ca w r aw' := by
 simp only [cOp, ho] at hc
 obtain ⟨ox, hx, rfl⟩ := c1_inv hc
 simp only [xop] at h
 split at h
 ·rename_i p hp
  simp at h; obtain ⟨rfl, rfl⟩ := h
  have hr := opd_sound hA hx hp
  cases hv' : ca.eval x <;> rw [hv'] at hr
  all_goals (try (cases hr; done))
  rename_i ad
  cases ad with
  | none => cases hr
  | some ad => exact ⟨E, w, .refl E, hR, .inl ⟨.pointer (some ad), by simp [execOp, ho, hv'], hr⟩⟩
 ·cases h
theorem y_field {t : TypeId} {x : Operand} {f : Nat} (ho : o.op = .field t x f) (hc : cOp P o = some c) (h : xop a.tmps aw c = some (r, aw')) (hA : ActRel E a ca) (hR : Rel E aw w) : Yes P o E ca w r aw' := by
 simp only [cOp, ho] at hc
 split at hc
 ·rename_i fs hu
  split at hc
  ·rename_i fl hf
   split at hc
   ·rename_i n hn
    obtain ⟨ox, hx, rfl⟩ := c1_inv hc
    simp only [xop] at h
    split at h
    ·rename_i l hl
     have hr := opd_sound hA hx hl
     cases hv' : ca.eval x <;> rw [hv'] at hr <;> cases hr
     rename_i cs hL
     split at h
     ·split at h
      ·rename_i v hv
       simp at h; obtain ⟨rfl, rfl⟩ := h
       obtain ⟨u, hu', hr⟩ := hL.get hv
       refine yes_value (v := u) hR (by simp only [execOp, ho]; rfl) ?_ hr
       simp at hu'
       simp only [hv', Instr.field, Sem.run_bind, run_underlying hu, Result.andThen_ok, hf, asAgg, Sem.run_pure, part, aggP_none hn w, Bool.false_eq_true, if_false, hu']
      ·cases h
     ·rename_i n
      cases hb : Nat.beq ((l.drop fl.offset).take n).length n <;> simp only [hb, cond_false, cond_true, reduceCtorEq, sI, pmi] at h
      obtain ⟨rfl, rfl⟩ := h
      obtain ⟨hag, i, hi, rfl⟩ := aggP_some hn
      refine yes_value (v := .agg (cs.extract fl.offset (fl.offset + i.size))) hR (by simp only [execOp, ho]; rfl) ?_ (.agg ?_)
      ·simp only [hv', Instr.field, Sem.run_bind, run_underlying hu, Result.andThen_ok, hf, asAgg, Sem.run_pure, part, hag w, if_true, run_sizeOf' hi]
      ·have := (hL.drop fl.offset).take i.size
       simpa [Array.toList_extract, List.extract_eq_take_drop] using this
    ·cases h
   ·cases hc
  ·cases hc
 ·cases hc
theorem nil_equalIn (dd : Nat) {kd : Nat} {d : TypeDesc} {t : TypeId} {y : Operand} {x : AV} {v : Value} {b : Bool} (hu : P.underlying t = some d) (hk : nilKind d y = some kd) (h : isNil kd x = some b) (hv : VRel E x v) :
  (Op.equalIn (dd + 1) t v (ca.eval y)).run P w = .ok b w := by
 unfold nilKind at hk
 split at hk <;> simp at hk <;> subst hk <;> simp only [isNil] at h
 ·cases x <;> simp only [isNil, reduceCtorEq, sI] at h
  subst h
  cases hv <;> simp [Op.equalIn, run_underlying hu, Act.eval]
 ·cases x <;> simp only [isNil, reduceCtorEq, sI] at h
  subst h
  cases hv <;> simp [Op.equalIn, run_underlying hu, Act.eval]
 ·cases x <;> simp only [isNil, reduceCtorEq, sI] at h
  subst h
  cases hv <;> simp [Op.equalIn, run_underlying hu, Act.eval]
 ·cases x <;> simp only [isNil, reduceCtorEq, sI] at h
  all_goals subst h
  all_goals cases hv <;> simp [Op.equalIn, run_underlying hu, Act.eval]
 ·cases x <;> simp only [isNil, reduceCtorEq, sI] at h
  all_goals subst h
  all_goals cases hv <;> simp [Op.equalIn, run_underlying hu, Act.eval]
theorem nil_equal {kd : Nat} {d : TypeDesc} {t : TypeId} {y : Operand} {x : AV} {v : Value} {b : Bool} (hu : P.underlying t = some d) (hk : nilKind d y = some kd) (h : isNil kd x = some b) (hv : VRel E x v) :
  (Op.equal t v (ca.eval y)).run P w = .ok b w := nil_equalIn 9999 hu hk h hv
theorem nil_not_int {kd : Nat} {d : TypeDesc} {y : Operand} {x : AV} {v : Value} {b : Bool} (hk : nilKind d y = some kd) (h : isNil kd x = some b) (hv : VRel E x v) (t : TypeId) :
  binOp .eql t v (ca.eval y) = (do pure (.bool (← Op.equal t v (ca.eval y)))) ∧ binOp .neq t v (ca.eval y) = (do pure (.bool (!(← Op.equal t v (ca.eval y))))) ∧
  ∀ op x', eqGuard op t x' y v (ca.eval y) = pure () := by
 unfold nilKind at hk
 split at hk <;> simp at hk <;> subst hk <;> (cases x <;> simp only [isNil, reduceCtorEq] at h) <;> cases hv <;> refine ⟨rfl, rfl, fun op x' => ?_⟩ <;> cases op <;> first | rfl | (cases x' <;> rfl)
end
section
variable {P : Program} {o : Oper} {E : Env} {a : AAct} {ca : Act} {aw aw' : AW} {w : World} {r : AV} {c : COp}
theorem sameBytes_sound : ∀ {u v : List AV} {x y : List UInt8} {b : Bool}, sameBytes u v = some b → LRel E u (x.map fun b => .int .u8 (b.toNat : Int)) → LRel E v (y.map fun b => .int .u8 (b.toNat : Int)) → (x == y) = b
 | [], [], x, y, b, h, hx, hy => by
  have h1 := hx.length; have h2 := hy.length
  simp at h1 h2
  have e1 := List.length_eq_zero_iff.1 h1.symm
  have e2 := List.length_eq_zero_iff.1 h2.symm
  subst e1; subst e2
  simp [sameBytes] at h; subst h; rfl
 | [], _ :: _, x, y, b, h, hx, hy => by
  have h1 := hx.length; have h2 := hy.length
  simp at h1 h2
  have e1 := List.length_eq_zero_iff.1 h1.symm
  subst e1
  simp [sameBytes] at h; subst h
  cases y with
  | nil => simp at h2
  | cons _ _ => rfl
 | _ :: _, [], x, y, b, h, hx, hy => by
  have h1 := hx.length; have h2 := hy.length
  simp at h1 h2
  have e2 := List.length_eq_zero_iff.1 h2.symm
  subst e2
  simp [sameBytes] at h; subst h
  cases x with
  | nil => simp at h1
  | cons _ _ => rfl
 | p :: u, q :: v, [], y, b, h, hx, hy => by have := hx.length; simp at this
 | p :: u, q :: v, _ :: _, [], b, h, hx, hy => by have := hy.length; simp at this
 | p :: u, q :: v, x0 :: x, y0 :: y, b, h, hx, hy => by
  simp only [List.map_cons] at hx hy
  cases hx with
  | cons hp hu =>
   cases hy with
   | cons hq hv =>
    have inj : ∀ {m n : UInt8}, (m.toNat : Int) = (n.toNat : Int) → m = n := fun e => UInt8.toNat_inj.1 (by omega)
    cases p <;> cases q <;> simp only [sameBytes, reduceCtorEq] at h
    ·cases hp; cases hq
     rw [ieq_eq] at h
     split at h
     ·rename_i r hr
      have ih := sameBytes_sound hr hu hv
      simp at h; subst h
      simp only [List.cons_beq_cons, ih]
      congr 1
      rw [Bool.eq_iff_iff]
      simp
      constructor
      ·rintro rfl; rfl
      ·exact fun e => inj (by exact_mod_cast e)
     ·cases he : ((x0.toNat : Int) == (y0.toNat : Int)) <;> simp only [he, cond_true, cond_false, reduceCtorEq, sI] at h
      subst h
      simp at he
      simp [List.cons_beq_cons]
      intro e; subst e; exact (he rfl).elim
    ·rename_i k i k' j
     cases hij : Nat.beq i j <;> simp only [hij, cond_true, cond_false, reduceCtorEq] at h
     have := nbt hij; subst this
     have ih := sameBytes_sound h hu hv
     cases hp with
     | sym _ h1 _ =>
      cases hq with
      | sym _ h2 _ =>
       rw [h1] at h2; injection h2 with h2
       have := inj h2; subst this
       simp [List.cons_beq_cons, ih]
theorem y_binOp {op : BinOp} {t u : TypeId} {x y : Operand} (ho : o.op = .binOp op t x y u) (hc : cOp P o = some c) (h : xop a.tmps aw c = some (r, aw')) (hA : ActRel E a ca) (hR : Rel E aw w) : Yes P o E ca w r aw' := by
 simp only [cOp, ho] at hc
 split at hc
 ·
  have hcc : ∃ sh, (sh = true → op = .shl ∨ op = .shr) ∧ c2 (.bin op sh) x y = some c := by
   split at hc
   ·exact ⟨true, fun _ => .inl rfl, hc⟩
   ·exact ⟨true, fun _ => .inr rfl, hc⟩
   ·exact ⟨false, fun e => Bool.noConfusion e, hc⟩
  obtain ⟨sh, hsh, hcc⟩ := hcc
  obtain ⟨ox, oy, hx, hy, rfl⟩ := c2_inv hcc
  simp only [xop] at h
  split at h
  ·rename_i p hp
   split at h
   ·rename_i q hq
    split at h
    ·rename_i v hv
     simp at h; obtain ⟨rfl, rfl⟩ := h
     have h1 := opd_sound hA hx hp
     have h2 := opd_sound hA hy hq
     obtain ⟨res, hrun, hrel⟩ := xbin_sound (P := P) (w := w) hsh hv h1 h2 t
     refine yes_value (v := res) hR (by simp only [execOp, ho]; rfl) ?_ hrel
     have hg : eqGuard op t x y (ca.eval x) (ca.eval y) = pure () := by
      have : ∃ k n, ca.eval x = .int k n := by
       cases p <;> simp only [xbin, reduceCtorEq] at hv
       ·cases hx' : ca.eval x <;> rw [hx'] at h1 <;> cases h1; exact ⟨_, _, rfl⟩
       ·cases hx' : ca.eval x <;> rw [hx'] at h1 <;> cases h1; exact ⟨_, _, rfl⟩
      obtain ⟨k, n, e⟩ := this
      rw [e]; cases op <;> rfl
     simp only [hg, Sem.run_bind, Sem.run_pure, Result.andThen_ok, hrun]
    ·cases h
   ·cases h
  ·cases h
 ·
  rename_i hu
  have hcc : ∃ neg, (op = .eql ∧ neg = false ∨ op = .neq ∧ neg = true) ∧ c2 (.beq neg) x y = some c := by
   split at hc
   ·exact ⟨false, .inl ⟨rfl, rfl⟩, hc⟩
   ·exact ⟨true, .inr ⟨rfl, rfl⟩, hc⟩
   ·cases hc
  obtain ⟨neg, hneg, hcc⟩ := hcc
  obtain ⟨ox, oy, hx, hy, rfl⟩ := c2_inv hcc
  simp only [xop] at h
  split at h
  ·rename_i p hp
   split at h
   ·rename_i q hq
    simp at h; obtain ⟨rfl, rfl⟩ := h
    have h1 := opd_sound hA hx hp
    have h2 := opd_sound hA hy hq
    cases hx' : ca.eval x <;> rw [hx'] at h1 <;> cases h1
    cases hy' : ca.eval y <;> rw [hy'] at h2 <;> cases h2
    refine yes_value (v := .bool (bif neg then !(p == q) else p == q)) hR (by simp only [execOp, ho]; rfl) ?_ (.bool _)
    rcases hneg with ⟨rfl, rfl⟩ | ⟨rfl, rfl⟩
    ·simp [hx', hy', eqGuard_at_bool, run_eql_bool w t p q hu]
    ·simp [hx', hy', eqGuard_at_bool, run_neq_bool w t p q hu]
   ·cases h
  ·cases h
 ·
  rename_i hu
  have hcc : ∃ neg, (op = .eql ∧ neg = false ∨ op = .neq ∧ neg = true) ∧ c2 (.seq neg) x y = some c := by
   split at hc
   ·exact ⟨false, .inl ⟨rfl, rfl⟩, hc⟩
   ·exact ⟨true, .inr ⟨rfl, rfl⟩, hc⟩
   ·cases hc
  obtain ⟨neg, hneg, hcc⟩ := hcc
  obtain ⟨ox, oy, hx, hy, rfl⟩ := c2_inv hcc
  simp only [xop] at h
  split at h
  ·rename_i p hp
   split at h
   ·rename_i q hq
    split at h
    ·rename_i b hb
     simp at h; obtain ⟨rfl, rfl⟩ := h
     have h1 := opd_sound hA hx hp
     have h2 := opd_sound hA hy hq
     cases hx' : ca.eval x <;> rw [hx'] at h1 <;> cases h1
     rename_i s1 l1
     cases hy' : ca.eval y <;> rw [hy'] at h2 <;> cases h2
     rename_i s2 l2
     have hs := sameBytes_sound hb l1 l2
     rw [← ByteArray.toList_eq, ← ByteArray.toList_eq] at hs
     refine yes_value (v := .bool (bif neg then !b else b)) hR (by simp only [execOp, ho]; rfl) ?_ (.bool _)
     rcases hneg with ⟨rfl, rfl⟩ | ⟨rfl, rfl⟩
     ·simp only [hx', hy', eqGuard_at_string, binOp, Op.stringOp, Sem.run_bind, Sem.run_pure, Result.andThen_ok, cond_false]
      rw [hs]
     ·simp only [hx', hy', eqGuard_at_string, binOp, Op.stringOp, Sem.run_bind, Sem.run_pure, Result.andThen_ok, cond_true]
      rw [hs]
    ·cases h
   ·cases h
  ·cases h
 ·
  rename_i d h1 h2 h3 hu
  split at hc
  ·rename_i kd hk
   have hcc : ∃ neg, (op = .eql ∧ neg = false ∨ op = .neq ∧ neg = true) ∧ c1 (.nileq kd neg) x = some c := by
    split at hc
    ·exact ⟨false, .inl ⟨rfl, rfl⟩, hc⟩
    ·exact ⟨true, .inr ⟨rfl, rfl⟩, hc⟩
    ·cases hc
   obtain ⟨neg, hneg, hcc⟩ := hcc
   obtain ⟨ox, hx, rfl⟩ := c1_inv hcc
   simp only [xop] at h
   split at h
   ·rename_i p hp
    split at h
    ·rename_i b hb
     simp at h; obtain ⟨rfl, rfl⟩ := h
     have hv := opd_sound hA hx hp
     have heq := nil_equal (ca := ca) (w := w) hu hk hb hv
     obtain ⟨e1, e2, e3⟩ := nil_not_int (ca := ca) hk hb hv t
     refine yes_value (v := .bool (bif neg then !b else b)) hR (by simp only [execOp, ho]; rfl) ?_ (.bool _)
     rcases hneg with ⟨rfl, rfl⟩ | ⟨rfl, rfl⟩
     ·simp [e1, e3, heq]
     ·simp [e2, e3, heq]
    ·cases h
   ·cases h
  ·cases hc
 ·cases hc
theorem y_makeMap {t : TypeId} {hint : Option Operand} (ho : o.op = .makeMap t hint) (hc : cOp P o = some c) (h : xop a.tmps aw c = some (r, aw')) (hA : ActRel E a ca) (hR : Rel E aw w) : Yes P o E ca w r aw' := by
 cases hint with
 | some x => simp [cOp, ho] at hc
 | none =>
  simp only [cOp, ho, sI] at hc
  subst hc
  simp only [xop, sI, pmi] at h
  obtain ⟨rfl, rfl⟩ := h
  let L : Loc := ⟨w.heap.size, 0, 0⟩
  have hR' : Rel (E.put L) (aw.add (.map [] 0)) (w.alloc (.map #[] 0)) := hR.add ⟨rfl, rfl⟩ (fun b hb => by
   show (w.heap.push _)[b]? = _
   rw [Array.getElem?_push, if_neg (Nat.ne_of_lt hb)]) (Nat.le_refl _) ⟨rfl, #[], by show (w.heap.push _)[w.heap.size]? = _; simp, .nil⟩
  refine yes_value' (v := .map (some w.heap.size)) (E.put_le L) hR' (by simp only [execOp, ho]; rfl) ?_ (.map (L := L) (hR.nx ▸ E.put_new L) rfl)
  simp [Instr.makeMap]
theorem y_typeAssert {x : Operand} {t u : TypeId} {ok : Bool} (ho : o.op = .typeAssert x u t ok) (hc : cOp P o = some c) (h : xop a.tmps aw c = some (r, aw')) (hA : ActRel E a ca) (hR : Rel E aw w) : Yes P o E ca w r aw' := by
 cases ok with
 | false => simp [cOp, ho] at hc
 | true =>
  simp only [cOp, ho] at hc
  split at hc
  ·cases hc
  ·rename_i d hni hd
   split at hc
   ·rename_i z az hz
    split at hc
    ·rename_i ox hx
     simp at hc; subst hc
     simp only [xop] at h
     split at h
     ·rename_i t' v hv
      have hr := opd_sound hA hx hv
      cases hx' : ca.eval x <;> rw [hx'] at hr <;> cases hr
      rename_i v' hv'
      cases ht : Nat.beq t t' <;> simp only [ht, cond_true, cond_false, sI, pmi] at h
      ·obtain ⟨rfl, rfl⟩ := h
       have hne : ¬ t' = t := fun e => ne_of_beq ht e.symm
       refine yes_value (v := .tuple #[z, .bool false]) hR (by simp only [execOp, ho]; rfl) ?_ (.tuple (.cons (zeroP_rel hz E) (.cons (.bool _) .nil)))
       simp only [hx', Instr.typeAssert, Sem.run_bind, run_underlying hd, Result.andThen_ok]
       simp [hne, run_zeroValue' hz]
      ·obtain ⟨rfl, rfl⟩ := h
       have he := nbt ht
       refine yes_value (v := .tuple #[v', .bool true]) hR (by simp only [execOp, ho]; rfl) ?_ (.tuple (.cons hv' (.cons (.bool _) .nil)))
       simp only [hx', Instr.typeAssert, Sem.run_bind, run_underlying hd, Result.andThen_ok]
       simp [he]
     ·cases h
    ·cases hc
   ·cases hc
  ·cases hc
end
theorem foldl_set (off : Nat) : ∀ (vs : List Value) (n : Nat) (cells : Array Value), off + n + vs.length ≤ cells.size →
  ((vs.zipIdx n).foldl (fun cs p => cs.setIfInBounds (off + p.2) p.1) cells).size = cells.size ∧
  ∀ k, ((vs.zipIdx n).foldl (fun cs p => cs.setIfInBounds (off + p.2) p.1) cells)[k]? = if off + n ≤ k ∧ k < off + n + vs.length then vs[k - (off + n)]? else cells[k]?
 | [], n, cells, _ => ⟨rfl, fun k => by rw [if_neg (by simp)]; rfl⟩
 | v :: vs, n, cells, h => by
  simp only [List.length_cons] at h
  simp only [List.zipIdx_cons, List.foldl_cons]
  obtain ⟨h1, h2⟩ := foldl_set off vs (n + 1) (cells.setIfInBounds (off + n) v) (by simp only [Array.size_setIfInBounds]; omega)
  refine ⟨by rw [h1]; simp, fun k => ?_⟩
  rw [h2 k]
  simp only [List.length_cons]
  by_cases e1 : k = off + n
  ·subst e1
   rw [if_neg (by omega), if_pos (by omega), Array.getElem?_setIfInBounds_self_of_lt (by omega)]
   simp
  ·by_cases e2 : off + (n + 1) ≤ k ∧ k < off + (n + 1) + vs.length
   ·rw [if_pos e2, if_pos (by omega), show k - (off + n) = (k - (off + (n + 1))) + 1 by omega]
    simp
   ·rw [if_neg e2, if_neg (by omega), Array.getElem?_setIfInBounds_ne (by omega)]
section
variable {P : Program} {o : Oper} {E : Env} {a : AAct} {ca : Act} {aw aw' : AW} {w : World} {r : AV} {c : COp}
theorem splice_rel {l x : List AV} {off : Nat} {cells : Array Value} {vs : Array Value} (hl : LRel E l cells.toList) (hx : LRel E x vs.toList) (hb : off + x.length ≤ l.length) :
  LRel E (splice l off x) (vs.zipIdx.foldl (fun cs (p : Value × Nat) => cs.setIfInBounds (off + p.2) p.1) cells).toList := by
 have n1 := hl.length
 have n2 := hx.length
 simp at n1 n2
 obtain ⟨h1, h2⟩ := foldl_set off vs.toList 0 cells (by simp; omega)
 rw [← Array.foldl_toList, Array.toList_zipIdx]
 refine LRel.of_get (by rw [splice_length hb]; simp [h1, n1]) fun i y hy => ?_
 rw [splice_get hb] at hy
 have := h2 i
 rw [Array.getElem?_toList, this]
 by_cases e : off ≤ i ∧ i < off + x.length
 ·rw [if_pos e] at hy
  rw [if_pos (by simp; omega)]
  exact hx.get hy
 ·rw [if_neg e] at hy
  rw [if_neg (by simp; omega)]
  obtain ⟨v, hv, hr⟩ := hl.get hy
  exact ⟨v, by simpa using hv, hr⟩
theorem fill_sound {place : Nat → Option (Nat × Nat)} (hA : ActRel E a ca) : ∀ {ps : List (Nat × Operand)} {qs : List (Nat × Nat × Opd)} {l l' : List AV} {cells : Array Value}, cParts place ps = some qs → xfill a.tmps l qs = some l' → LRel E l cells.toList →
  ∃ cells' : Array Value, Instr.fill place cells (ps.map fun (i, x) => (i, ca.eval x)) = some cells' ∧ LRel E l' cells'.toList
 | [], qs, l, l', cells, hc, hx, hl => by
  simp [cParts] at hc; subst hc
  simp [xfill] at hx; subst hx
  exact ⟨cells, rfl, hl⟩
 | (i, x) :: ps, qs, l, l', cells, hc, hx, hl => by
  simp only [cParts] at hc
  split at hc
  ·rename_i off n hp
   split at hc
   ·rename_i ox hox
    split at hc
    ·rename_i m hm
     simp at hc; subst hc
     simp only [xfill] at hx
     split at hx
     ·rename_i v hv
      split at hx
      ·rename_i cs hcs
       cases b1 : Nat.beq cs.length n <;> simp only [b1, cond_true, cond_false, reduceCtorEq] at hx
       cases b2 : Nat.ble (off + n) l.length <;> simp only [b2, cond_true, cond_false, reduceCtorEq] at hx
       have b1 := nbt b1
       have b2 := nbl b2
       have hcl := (opd_sound hA hox hv).cells hcs
       have n1 := hcl.length
       have n2 := hl.length
       simp at n1 n2
       obtain ⟨cells', h1, h2⟩ := fill_sound hA hm hx (splice_rel hl hcl (by omega))
       refine ⟨cells', ?_, h2⟩
       simp only [List.map_cons, Instr.fill, hp]
       rw [if_neg (by simp; omega)]
       exact h1
      ·cases hx
     ·cases hx
    ·cases hc
   ·cases hc
  ·cases hc
theorem fieldsP_sound : ∀ {fs : List Field} {pl : List (Nat × Nat)}, fieldsP P fs = some pl → (fs.mapM (fun f => do pure (f.offset, ← sizeOf f.type) : Field → Sem (Nat × Nat))).run P w = .ok pl w
 | [], pl, h => by simp [fieldsP] at h; subst h; rfl
 | f :: fs, pl, h => by
  simp only [fieldsP] at h
  split at h
  ·rename_i i hi
   split at h
   ·rename_i m hm
    simp at h; subst h
    have ih := fieldsP_sound hm
    simp only [List.mapM_cons, Sem.run_bind, run_sizeOf' hi, Result.andThen_ok, Sem.run_pure, ih]
   ·cases h
  ·cases h
theorem y_build {t : TypeId} {ps : Array (Nat × Operand)} (ho : o.op = .build t ps) (hc : cOp P o = some c) (h : xop a.tmps aw c = some (r, aw')) (hA : ActRel E a ca) (hR : Rel E aw w) : Yes P o E ca w r aw' := by
 simp only [cOp, ho] at hc
 split at hc
 ·rename_i z az hz
  split at hc
  ·rename_i l hl
   split at hc
   ·rename_i fs hu
    split at hc
    ·rename_i pl hpl
     split at hc
     ·rename_i qs hqs
      simp at hc; subst hc
      simp only [xop] at h
      split at h
      ·rename_i l' hl'
       simp at h; obtain ⟨rfl, rfl⟩ := h
       obtain ⟨cells', h1, h2⟩ := fill_sound hA hqs hl' ((zeroP_rel hz E).cells hl)
       refine yes_value (v := .agg cells') hR (by simp only [execOp, ho]; rfl) ?_ (.agg h2)
       have hm := fieldsP_sound (w := w) hpl
       have hmm : (fs.mapM (fun f => do pure (f.offset, ← sizeOf f.type) : Field → Sem (Nat × Nat))).run P w = .ok pl.toArray w := by
        rw [Array.mapM_eq_mapM_toList]
        simp only [Sem.run_map, hm, Result.andThen_ok]
       simp only [Instr.build, Sem.run_bind, run_zeroValue' hz, Result.andThen_ok, run_underlying hu, hmm]
       simp only [List.getElem?_toArray, Array.toList_map]
       rw [h1]
       rfl
      ·cases h
     ·cases hc
    ·cases hc
   ·cases hc
  ·cases hc
 ·cases hc
theorem repCells_rel {z : List AV} {zv : List Value} (hz : LRel E z zv) : ∀ n, LRel E (repCells z n) (List.flatten (List.replicate n zv))
 | 0 => .nil
 | n + 1 => by
  rw [List.replicate_succ, List.flatten_cons]
  exact LRel.append hz (repCells_rel hz n)
theorem range_mod (z : Array Value) (h : z.size ≠ 0) : ∀ n, ((Array.range (n * z.size)).map fun i => z[i % z.size]!).toList = List.flatten (List.replicate n z.toList) := by
 intro n
 apply List.ext_getElem?
 intro i
 have hlen : ∀ n, (List.flatten (List.replicate n z.toList)).length = n * z.size := fun n => by simp [List.length_flatten]
 have key : ∀ n i, i < n * z.size → (List.flatten (List.replicate n z.toList))[i]? = z[i % z.size]? := by
  intro n
  induction n with
  | zero => intro i hi; simp at hi
  | succ n ih =>
   intro i hi
   rw [List.replicate_succ, List.flatten_cons]
   by_cases hl : i < z.size
   ·rw [lal (by simpa using hl), Nat.mod_eq_of_lt hl]
    simp
   ·rw [lar (by simp; omega)]
    rw [ih _ (by simp [Nat.succ_mul] at hi ⊢; omega)]
    simp
    rw [← Nat.mod_eq_sub_mod (by omega)]
 by_cases hi : i < n * z.size
 ·rw [key n i hi]
  have hm : i % z.size < z.size := Nat.mod_lt _ (by omega)
  simp [hi, hm]
 ·rw [List.getElem?_eq_none (by simp; omega), List.getElem?_eq_none (by rw [hlen]; omega)]
theorem y_buildSlice {t : TypeId} {len : Nat} {ps : Array (Nat × Operand)} (ho : o.op = .buildSlice t len ps) (hc : cOp P o = some c) (h : xop a.tmps aw c = some (r, aw')) (hA : ActRel E a ca) (hR : Rel E aw w) : Yes P o E ca w r aw' := by
 simp only [cOp, ho] at hc
 split at hc
 ·rename_i e i hs
  have hs' : P.underlying t = some (.slice e) ∧ P.info? e = some i := by
   unfold sliceOf at hs
   split at hs
   ·split at hs
    ·simp at hs; obtain ⟨rfl, rfl⟩ := hs; exact ⟨by assumption, by assumption⟩
    ·cases hs
   ·cases hs
  obtain ⟨hu, hi⟩ := hs'
  split at hc
  ·rename_i z az hz
   split at hc
   ·rename_i l hl
    cases hb : (Nat.beq l.length i.size && Nat.ble (len * i.size) 16777216) <;> simp only [hb, cond_true, cond_false, reduceCtorEq] at hc
    simp only [Bool.and_eq_true] at hb
    have b1 := nbt hb.1
    have b2 := nbl hb.2
    split at hc
    ·rename_i qs hqs
     simp at hc; subst hc
     simp only [xop] at h
     split at h
     ·rename_i l' hl'
      simp at h; obtain ⟨rfl, rfl⟩ := h
      have hzl := (zeroP_rel hz E).cells hl
      have hzs : z.cells.size = i.size := by have := hzl.length; simp at this; omega
      have hinit : LRel E (repCells l len) ((Array.range (len * i.size)).map fun j => (if len * i.size = 0 then (#[] : Array Value) else z.cells)[j % (if len * i.size = 0 then (#[] : Array Value) else z.cells).size]!).toList := by
       by_cases h0 : len * i.size = 0
       ·have : (repCells l len) = [] := by
         have := (repCells_rel hzl len).length
         simp [List.length_flatten] at this
         rw [hzs, h0] at this
         exact List.length_eq_zero_iff.1 this
        rw [this, h0]; simpa using LRel.nil
       ·rw [if_neg h0, ← hzs, range_mod z.cells (by intro e; rw [hzs] at e; rw [e] at h0; simp at h0)]
        exact repCells_rel hzl len
      obtain ⟨cells', h1, h2⟩ := fill_sound hA hqs hl' hinit
      obtain ⟨L, hb0, h0, _, hle, hR', hn⟩ := rel_alloc (e := e) (opn := false) hR h2
      refine yes_value' (v := .slice (some ⟨L.block, L.base + 0, none⟩) len len) hle hR' (by simp only [execOp, ho]; rfl) ?_ (.slc hn (.inr rfl))
      simp only [Array.toList_map] at h1
      simp only [Instr.buildSlice, Sem.run_bind, run_underlying hu, Result.andThen_ok, run_sizeOf' hi, Array.toList_map]
      rw [if_neg (by omega)]
      by_cases hq : len * i.size = 0
      ·simp only [hq, if_true] at h1 ⊢
       simp only [Sem.run_bind, Sem.run_pure, Result.andThen_ok]
       rw [h1]
       simp [newRow, hb0, h0]
      ·simp only [hq, if_false] at h1 ⊢
       simp only [Sem.run_bind, Sem.run_pure, Result.andThen_ok, run_zeroValue' hz]
       rw [h1]
       simp [newRow, hb0, h0]
     ·cases h
    ·cases hc
   ·cases hc
  ·cases hc
 ·cases hc
end
section
variable {P : Program} {o : Oper} {E : Env} {a : AAct} {ca : Act} {aw aw' : AW} {w : World} {r : AV} {c : COp}
theorem xcells_sound {sz n : Nat} {s : AV} {l : List AV} {ba : Option Addr} {len cap : Nat} (h : xcells aw sz n s = some l) (hR : Rel E aw w) (hv : VRel E s (.slice ba len cap)) :
  ∃ vs : List Value, (∀ w' : World, w'.heap = w.heap → (Builtin.firstCells sz n (.slice ba len cap)).run P w' = .ok vs.toArray w') ∧ LRel E l vs ∧ l.length = n * sz ∧
   (∀ b, ba = some b → (loadCells b (n * sz)).run P w = .ok vs.toArray w) ∧ (ba = none → n = 0 ∧ vs = []) := by
 unfold xcells at h
 split at h
 ·cases hv
  cases hb : Nat.beq n 0 <;> simp only [hb, cond_true, cond_false, reduceCtorEq, sI] at h
  subst h
  have := nbt hb; subst this
  exact ⟨[], fun _ _ => rfl, .nil, by simp, (fun b hb => nomatch hb), fun _ => ⟨rfl, rfl⟩⟩
 ·rename_i id of len' cap'
  have hsome : ∃ b, ba = some b := by cases hv <;> exact ⟨_, rfl⟩
  obtain ⟨b, rfl⟩ := hsome
  cases hb : Nat.beq n 0 with
  | true =>
   simp only [hb, cond_true, sI] at h
   subst h
   have := nbt hb; subst this
   refine ⟨[], fun _ _ => ?_, .nil, by simp, (fun b' hb' => ?_), (fun e => nomatch e)⟩
   ·simp [Builtin.firstCells, loadCells, loadCellsFrom]
   ·simp [loadCells, loadCellsFrom]
  | false =>
  simp only [hb, cond_false] at h
  cases hn : Nat.ble n len' <;> simp only [hn, cond_true, cond_false, reduceCtorEq] at h
  have hn := nbl hn
  have hn0 := ne_of_beq hb
  split at h
  rotate_left
  ·cases h
  rename_i xo hg
  split at h
  ·rename_i cl hrd
   cases hq : Nat.beq ((cl.drop of).take (n * sz)).length (n * sz) <;> simp only [hq, cond_true, cond_false, reduceCtorEq, sI] at h
   subst h
   have hq := nbt hq
   have hh : ∃ L, E.loc[id]? = some L ∧ b = ⟨L.block, L.base + of, none⟩ := by
    cases hv with
    | slc hL hd => exact ⟨_, hL, hd.resolve_left (by omega)⟩
    | slcUp hL hl hlo hd => exact ⟨_, hL, (hd.resolve_left (by omega)).1⟩
   obtain ⟨L, hL, rfl⟩ := hh
   obtain ⟨L', cs, e, hL', _, h1, h2, h3, h5⟩ := hR.at (VRel.ptr (o := of) hL) hg hrd
   rw [hL] at hL'; injection hL' with hL'; subst hL'
   obtain ⟨vs, hrun, hrel⟩ := load_cells (P := P) h1 h5 hq
   refine ⟨vs, fun w' hw' => ?_, hrel, hq, (fun b' hb' => by injection hb' with hb'; subst hb'; exact hrun w rfl), (fun e => nomatch e)⟩
   simp only [Builtin.firstCells]; exact hrun w' hw'
  ·cases h
 ·cases h
theorem y_convert {s d : TypeId} {x : Operand} (ho : o.op = .convert s d x) (hc : cOp P o = some c) (h : xop a.tmps aw c = some (r, aw')) (hA : ActRel E a ca) (hR : Rel E aw w) (hno : ∀ x, c ≠ .b2s x ∧ c ≠ .s2s x) : Yes P o E ca w r aw' := by
 simp only [cOp, ho] at hc
 split at hc
 ·rename_i ks kd hs hd
  obtain ⟨ox, hx, rfl⟩ := c1_inv hc
  simp only [xop] at h
  split at h
  ·rename_i k n hv
   simp at h; obtain ⟨rfl, rfl⟩ := h
   have hr := opd_sound hA hx hv
   cases hx' : ca.eval x <;> rw [hx'] at hr <;> cases hr
   refine yes_value (v := .int kd (kd.wrap n)) hR (by simp only [execOp, ho]; rfl) ?_ (by rw [wrapF_eq]; exact .int _ _)
   simp [hx', convert, run_underlying hs, run_underlying hd, Conv.intToInt]
  ·cases h
 ·split at hc
  ·obtain ⟨ox, hx, rfl⟩ := c1_inv hc
   exact ((hno _).1 rfl).elim
  ·cases hc
 ·split at hc
  ·cases hsd : Nat.beq s d <;> simp only [hsd, cond_true, cond_false, reduceCtorEq] at hc
   obtain ⟨ox, hx, rfl⟩ := c1_inv hc
   exact ((hno _).2 rfl).elim
  ·cases hc
 ·cases hc
theorem xfind_sound {kk : IntKind} {n : Int} {kt : TypeId} {kd : IntKind} : ∀ {es : List AEnt} {ces : List MapEntry} {i : Nat} {res : Option (Nat × AV)}, xfind kk n es i = some res → ERel E es ces →
  match res with
  | some (j, v) => ∃ m f e, j = i + m ∧ Instr.findNow (.int kd) (.int kk n) ces i = some (some (j, f.val)) ∧ ces[m]? = some f ∧ es[m]? = some e ∧ e.val = v ∧ VRel E v f.val ∧ f.key = .int kk n
  | none => Instr.findNow (.int kd) (.int kk n) ces i = some none
 | [], _, i, res, h, .nil => by simp [xfind] at h; subst h; rfl
 | e :: es, f :: ces, i, res, h, .cons hk hv hb t => by
  simp only [xfind] at h
  split at h
  ·rename_i k' m he
   rw [he] at hk
   cases hfk : f.key <;> rw [hfk] at hk <;> cases hk
   cases hkk : Nat.beq (kc kk) (kc k') <;> simp only [hkk, cond_true, cond_false, reduceCtorEq] at h
   have := kc_inj hkk; subst this
   cases hm : ieq n m <;> simp only [hm, cond_true, cond_false, sI] at h
   ·rw [ieq_eq] at hm
    have ih := xfind_sound (kt := kt) (kd := kd) h t
    have hstep : Instr.findNow (.int kd) (.int kk n) (f :: ces) i = Instr.findNow (.int kd) (.int kk n) ces (i + 1) := by
     simp [Instr.findNow, Instr.sameNow, hfk, hm]
    cases res with
    | none => simp only at ih ⊢; rw [hstep, ih]
    | some p =>
     obtain ⟨j, v⟩ := p
     obtain ⟨m', f', e', rfl, h1, h2, h3, h4, h5, h6⟩ := ih
     exact ⟨m' + 1, f', e', by omega, by rw [hstep, h1], by simpa using h2, by simpa using h3, h4, h5, h6⟩
   ·rw [ieq_eq] at hm
    subst h
    simp only
    have hm := eq_of_beq hm; subst hm
    exact ⟨0, f, e, rfl, by simp [Instr.findNow, Instr.sameNow, hfk], rfl, rfl, rfl, hv, hfk⟩
  ·cases h
theorem run_checkKey_int {kt : TypeId} {kd : IntKind} (hk : P.underlying kt = some (.int kd)) (em : Bool) (v : Value) (hv : ∃ k n, v = .int k n) : (Instr.checkKey em 10000 kt v).run P w = .ok () w := by
 obtain ⟨k, n, rfl⟩ := hv
 show (Instr.checkKey em (9999 + 1) kt _).run P w = _
 unfold Instr.checkKey
 simp [run_underlying hk]
theorem run_findKey_int {kt : TypeId} {kd : IntKind} (hk : P.underlying kt = some (.int kd)) {v : Value} {es : List MapEntry} {res : Option (Nat × Value)} (h : Instr.findNow (.int kd) v es 0 = some res) : (Instr.findKey kt v es).run P w = .ok res w := by
 simp [Instr.findKey, run_underlying hk, h]
theorem run_getObj_map {b : Nat} {ces : Array MapEntry} {clock : Nat} (h : w.heap[b]? = some (.map ces clock)) : (getObj b).run P w = .ok (.map ces clock) w := by
 simp [getObj, Sem.run, h]
theorem run_setObj_map {b : Nat} {ces : Array MapEntry} {clock : Nat} (h : w.heap[b]? = some (.map ces clock)) (o : Obj) : (setObj b o).run P w = .ok () { w with heap := w.heap.setIfInBounds b o } := by
 simp [setObj, Sem.run, h]
theorem run_lookup {t kt e : TypeId} {kd : IntKind} {z : Value} {az : AV} {mv : Value} {ces : Array MapEntry} {ok : Bool} (hu : P.underlying t = some (.map kt e)) (hk : P.underlying kt = some (.int kd)) (hz : zeroP P e = some (z, az))
  (hcase : (mv = .map none ∧ ces = #[]) ∨ ∃ b cl, mv = .map (some b) ∧ w.heap[b]? = some (.map ces cl)) (kk : IntKind) (n : Int) (res : Option (Nat × Value)) (hf : Instr.findNow (.int kd) (.int kk n) ces.toList 0 = some res) :
  (Instr.lookup t mv (.int kk n) ok).run P w = .ok (match res with | some (_, v) => if ok then .tuple #[v, .bool true] else v | none => if ok then .tuple #[z, .bool false] else z) w := by
 rcases hcase with ⟨rfl, rfl⟩ | ⟨b, cl, rfl, e2⟩
 ·simp only [Instr.lookup, Sem.run_bind, run_underlying hu, Result.andThen_ok, Sem.run_pure, run_checkKey_int hk _ _ ⟨kk, n, rfl⟩, run_findKey_int hk hf]
  cases res with
  | none => simp [run_zeroValue' hz]
  | some p => rfl
 ·simp only [Instr.lookup, Sem.run_bind, run_underlying hu, Result.andThen_ok, Sem.run_pure, run_getObj_map e2, run_checkKey_int hk _ _ ⟨kk, n, rfl⟩, run_findKey_int hk hf]
  cases res with
  | none => simp [run_zeroValue' hz]
  | some p => rfl
theorem y_lookup {t : TypeId} {m k : Operand} {ok : Bool} (ho : o.op = .lookup t m k ok) (hc : cOp P o = some c) (h : xop a.tmps aw c = some (r, aw')) (hA : ActRel E a ca) (hR : Rel E aw w) : Yes P o E ca w r aw' := by
 simp only [cOp, ho] at hc
 split at hc
 ·rename_i kt e hu
  split at hc
  ·rename_i kd hk
   split at hc
   ·rename_i z az hz
    obtain ⟨om, ok', hm, hk', rfl⟩ := c2_inv hc
    simp only [xop] at h
    split at h
    ·rename_i mv hmv
     split at h
     ·rename_i kk n hkv
      split at h
      ·rename_i es hes
       have hr := opd_sound hA hm hmv
       have hq := opd_sound hA hk' hkv
       cases hk2 : ca.eval k <;> rw [hk2] at hq <;> cases hq
       have hmap : ∃ ces : Array MapEntry, ERel E es ces.toList ∧ ((ca.eval m = .map none ∧ ces = #[]) ∨ ∃ b cl, ca.eval m = .map (some b) ∧ w.heap[b]? = some (.map ces cl)) := by
        split at hes
        ·simp at hes; subst hes
         cases hm2 : ca.eval m <;> rw [hm2] at hr <;> cases hr
         exact ⟨#[], .nil, .inl ⟨rfl, rfl⟩⟩
        ·rename_i id
         split at hes
         ·rename_i es' cl hg
          simp at hes; subst hes
          cases hm2 : ca.eval m <;> rw [hm2] at hr
          all_goals (try (cases hr; done))
          cases hr with
          | map hL hb =>
           rename_i L
           obtain ⟨L', hL', _, ces, h1, h2⟩ := hR.obj _ _ hg
           rw [hL] at hL'; injection hL' with hL'; subst hL'
           exact ⟨ces, h2, .inr ⟨L.block, cl, rfl, h1⟩⟩
         ·cases hes
        ·cases hes
       obtain ⟨ces, hE, hcase⟩ := hmap
       have hrun := fun res => run_lookup (P := P) (w := w) (ok := ok) hu hk hz hcase kk n res
       split at h
       ·rename_i j v hf
        simp at h; obtain ⟨rfl, rfl⟩ := h
        obtain ⟨m', f, e', _, h1, _, _, _, h5, _⟩ := xfind_sound (kt := kt) (kd := kd) hf hE
        refine yes_value (v := if ok then .tuple #[f.val, .bool true] else f.val) hR (by simp only [execOp, ho]; rfl) (by rw [hk2]; exact hrun _ h1) ?_
        cases ok
        ·exact h5
        ·exact .tuple (.cons h5 (.cons (.bool _) .nil))
       ·rename_i hf
        simp at h; obtain ⟨rfl, rfl⟩ := h
        have h1 := xfind_sound (kt := kt) (kd := kd) hf hE
        refine yes_value (v := if ok then .tuple #[z, .bool false] else z) hR (by simp only [execOp, ho]; rfl) (by rw [hk2]; exact hrun _ h1) ?_
        cases ok
        ·exact zeroP_rel hz E
        ·exact .tuple (.cons (zeroP_rel hz E) (.cons (.bool _) .nil))
       ·cases h
      ·cases h
     ·cases h
    ·cases h
   ·cases hc
  ·cases hc
 ·cases hc
end
section
variable {P : Program} {o : Oper} {E : Env} {a : AAct} {ca : Act} {aw aw' : AW} {w : World} {r : AV} {c : COp}
theorem allU8_sound : ∀ {l : List AV} {vs : List Value}, allU8 l = true → LRel E l vs → ∃ ns : List Int, vs = ns.map (Value.int .u8) ∧ ∀ n ∈ ns, 0 ≤ n ∧ n ≤ 255
 | [], _, _, .nil => ⟨[], rfl, by simp⟩
 | x :: l, _, h, .cons hx hl => by
  cases x <;> try (simp only [allU8, Bool.false_eq_true] at h; done)
  ·rename_i k n
   cases n <;> simp only [allU8, Bool.false_eq_true, Bool.and_eq_true] at h
   rename_i n
   obtain ⟨hk, hn, ht⟩ := h
   have := kc_inj (b := .u8) hk; subst this
   have hn := nbl hn
   obtain ⟨ns, rfl, hns⟩ := allU8_sound ht hl
   cases hx
   refine ⟨Int.ofNat n :: ns, rfl, fun m hm => ?_⟩
   rcases List.mem_cons.1 hm with rfl | hm
   ·have : (Int.ofNat n : Int) = (n : Int) := rfl
    omega
   ·exact hns m hm
  ·rename_i k j
   simp only [allU8, Bool.and_eq_true] at h
   have := kc_inj (b := .u8) h.1; subst this
   obtain ⟨ns, rfl, hns⟩ := allU8_sound h.2 hl
   cases hx with
   | sym _ h1 h2 =>
    rename_i n
    refine ⟨n :: ns, rfl, fun m hm => ?_⟩
    rcases List.mem_cons.1 hm with rfl | hm
    ·simp [IntKind.wrap, IntKind.bits, IntKind.signed] at h2
     omega
    ·exact hns m hm
theorem push_bytes : ∀ (ns : List Int) (acc : ByteArray), (∀ n ∈ ns, 0 ≤ n ∧ n ≤ 255) →
  ((ns.foldl (fun r n => r.push (UInt8.ofNat n.toNat)) acc).data.toList.map fun b => Value.int .u8 (b.toNat : Int)) = (acc.data.toList.map fun b => Value.int .u8 (b.toNat : Int)) ++ ns.map (Value.int .u8)
 | [], acc, _ => by simp
 | n :: ns, acc, h => by
  rw [List.foldl_cons, push_bytes ns _ fun m hm => h m (by simp [hm])]
  have hn := h n (by simp)
  have : ((UInt8.ofNat n.toNat).toNat : Int) = n := by simp; omega
  rw [show ((acc.push (UInt8.ofNat n.toNat)).data.toList) = acc.data.toList ++ [UInt8.ofNat n.toNat] from by simp]
  simp only [List.map_append, List.map_cons, List.map_nil, this, List.append_assoc, List.singleton_append]
theorem y_b2s {s d : TypeId} {x : Operand} {ox : Opd} (ho : o.op = .convert s d x) (hc : cOp P o = some (.b2s ox)) (h : xop a.tmps aw (.b2s ox) = some (r, aw')) (hA : ActRel E a ca) (hR : Rel E aw w) : Yes P o E ca w r aw' := by
 simp only [cOp, ho] at hc
 split at hc
 ·obtain ⟨_, _, hh⟩ := c1_inv hc; cases hh
 ·rename_i e hs hd
  split at hc
  ·rename_i he
   obtain ⟨ox', hx, hh⟩ := c1_inv hc
   injection hh with hh; subst hh
   simp only [xop] at h
   split at h
   ·rename_i b len cap hv
    split at h
    ·rename_i l hl
     cases hu : allU8 l <;> simp only [hu, cond_true, cond_false, reduceCtorEq, sI, pmi] at h
     obtain ⟨rfl, rfl⟩ := h
     have hr := opd_sound hA hx hv
     cases hx' : ca.eval x <;> rw [hx'] at hr
     all_goals (try (cases hr; done))
     rename_i ba len' cap'
     have hlen : len' = len := by cases hr <;> rfl
     subst hlen
     obtain ⟨vs, _, hrel, hll, hload, hnone⟩ := xcells_sound (P := P) hl hR hr
     obtain ⟨ns, rfl, hns⟩ := allU8_sound hu hrel
     have hpb := push_bytes ns ByteArray.empty hns
     have hout : (Conv.bytesToString (.slice ba len' cap')).run P w = .ok (.string (ns.foldl (fun r n => r.push (UInt8.ofNat n.toNat)) ByteArray.empty)) w := by
      cases ba with
      | none =>
       obtain ⟨_, hv0⟩ := hnone rfl
       have : ns = [] := by simpa using hv0
       subst this
       rfl
      | some b' => exact run_bytesToString w b' len' cap' ns (by simpa using hload b' rfl)
     refine yes_value (v := .string (ns.foldl (fun r n => r.push (UInt8.ofNat n.toNat)) ByteArray.empty)) hR (by simp only [execOp, ho]; rfl) ?_ (.str ?_)
     ·simp only [hx', convert, Sem.run_bind, run_underlying hs, run_underlying hd, run_underlying he, Result.andThen_ok, hout]
     ·rw [hpb]; simpa using hrel
    ·cases h
   ·cases h
  ·cases hc
 ·split at hc
  ·rename_i he
   cases hsd : Nat.beq s d <;> simp only [hsd, cond_true, cond_false, reduceCtorEq] at hc
   obtain ⟨_, _, hh⟩ := c1_inv hc; cases hh
  ·cases hc
 ·cases hc
theorem ERel.get : ∀ {es : List AEnt} {ces : List MapEntry}, ERel E es ces → es.length = ces.length
 | _, _, .nil => rfl
 | _, _, .cons _ _ _ t => by simp [ERel.get t]
theorem ERel.put {key v : AV} {ck cv : Value} (hk : VRel E key ck) (hv : VRel E v cv) : ∀ {es : List AEnt} {ces : List MapEntry} (i : Nat), ERel E es ces → ERel E (entPut key v es i) (ces.modify i fun e => { e with key := ck, val := cv })
 | _, _, i, .nil => by cases i <;> simp [entPut] <;> exact .nil
 | _, _, 0, .cons h1 h2 h3 t => by simp only [entPut, List.modify_zero_cons]; exact .cons hk hv h3 t
 | _, _, i + 1, .cons h1 h2 h3 t => by simp only [entPut, List.modify_succ_cons]; exact .cons h1 h2 h3 (ERel.put hk hv i t)
theorem ERel.del : ∀ {es : List AEnt} {ces : List MapEntry} (i : Nat), ERel E es ces → ERel E (entDel es i) (ces.eraseIdx i)
 | _, _, i, .nil => by cases i <;> simp [entDel] <;> exact .nil
 | _, _, 0, .cons h1 h2 h3 t => t
 | _, _, i + 1, .cons h1 h2 h3 t => by simp only [entDel, List.eraseIdx_cons_succ]; exact .cons h1 h2 h3 (ERel.del i t)
theorem ERel.push {e : AEnt} {f : MapEntry} (hk : VRel E e.key f.key) (hv : VRel E e.val f.val) (hb : e.born = f.born) : ∀ {es : List AEnt} {ces : List MapEntry}, ERel E es ces → ERel E (es ++ [e]) (ces ++ [f])
 | _, _, .nil => .cons hk hv hb .nil
 | _, _, .cons h1 h2 h3 t => .cons h1 h2 h3 (ERel.push hk hv hb t)
theorem xmap_sound {mv : AV} {m : Value} {id : Nat} {es : List AEnt} {clock : Nat} (h : xmap aw mv = some (id, es, clock)) (hR : Rel E aw w) (hv : VRel E mv m) :
  aw.get id = some (.map es clock) ∧ ∃ L ces, E.loc[id]? = some L ∧ L.base = 0 ∧ m = .map (some L.block) ∧ w.heap[L.block]? = some (.map ces clock) ∧ ERel E es ces.toList := by
 unfold xmap at h
 split at h
 ·split at h
  ·rename_i hg
   simp at h; obtain ⟨rfl, rfl, rfl⟩ := h
   cases hv with
   | map hL hb =>
    obtain ⟨L', hL', _, ces, h1, h2⟩ := hR.obj _ _ hg
    rw [hL] at hL'; injection hL' with hL'; subst hL'
    exact ⟨hg, _, ces, hL, hb, rfl, h1, h2⟩
  ·cases h
 ·cases h
theorem rel_setMap {id : Nat} {L : Loc} {es es' : List AEnt} {clock clock' : Nat} {ces' : Array MapEntry} {ces : Array MapEntry} (hR : Rel E aw w) (hg : aw.get id = some (.map es clock)) (hL : E.loc[id]? = some L) (hb : L.base = 0)
  (h1 : w.heap[L.block]? = some (.map ces clock)) (h2 : ERel E es' ces'.toList) : Rel E (aw.set id (.map es' clock')) { w with heap := w.heap.setIfInBounds L.block (.map ces' clock') } := by
 have hlt := (agz.1 h1).1
 refine hR.update ⟨rfl, rfl⟩ hg rfl hL (fun b hne => ?_) ⟨hb, ces', ?_, h2⟩
 ·exact Array.getElem?_setIfInBounds_ne (Ne.symm hne)
 ·exact Array.getElem?_setIfInBounds_self_of_lt hlt
theorem run_mapUpdate {t kt e : TypeId} {kd : IntKind} {b : Nat} {ces : Array MapEntry} {clock : Nat} (hu : P.underlying t = some (.map kt e)) (hk : P.underlying kt = some (.int kd)) (h1 : w.heap[b]? = some (.map ces clock)) (kk : IntKind) (n : Int) (v : Value) :
  (∀ j val f, Instr.findNow (.int kd) (.int kk n) ces.toList 0 = some (some (j, val)) → ces[j]? = some f → f.key = .int kk n →
   (Instr.mapUpdate t (.map (some b)) (.int kk n) v).run P w = .ok () { w with heap := w.heap.setIfInBounds b (.map (ces.modify j fun e => { e with key := .int kk n, val := v }) clock) }) ∧
  (Instr.findNow (.int kd) (.int kk n) ces.toList 0 = some none →
   (Instr.mapUpdate t (.map (some b)) (.int kk n) v).run P w = .ok () { w with heap := w.heap.setIfInBounds b (.map (ces.push { key := .int kk n, val := v, born := clock }) (clock + 1)) }) := by
 constructor
 ·intro j val f hf hj hkey
  simp only [Instr.mapUpdate, Sem.run_bind, run_underlying hu, Result.andThen_ok, run_getObj_map h1, run_checkKey_int hk _ _ ⟨kk, n, rfl⟩, run_findKey_int hk hf, hj, Option.map_some, Option.getD_some, hkey]
  have : (Instr.keyThatStays (.int kk n) (.int kk n)).run P w = .ok (.int kk n) w := by
   unfold Instr.keyThatStays
   have : Instr.sameBits 10000 (.int kk n) (.int kk n) = true := by simp [Instr.sameBits]
   rw [if_pos this]; rfl
  rw [this]
  simp only [Result.andThen_ok, run_setObj_map h1]
 ·intro hf
  simp only [Instr.mapUpdate, Sem.run_bind, run_underlying hu, Result.andThen_ok, run_getObj_map h1, run_checkKey_int hk _ _ ⟨kk, n, rfl⟩, run_findKey_int hk hf, run_setObj_map h1]
theorem y_mapset {t : TypeId} {m k v : Operand} (ho : o.op = .mapUpdate t m k v ∨ o.op = .insert t m k v) (hc : cOp P o = some c) (h : xop a.tmps aw c = some (r, aw')) (hA : ActRel E a ca) (hR : Rel E aw w) : Yes P o E ca w r aw' := by
 have hex : execOp ca.eval o = (do Instr.mapUpdate t (ca.eval m) (ca.eval k) (ca.eval v); pure .skip) := by rcases ho with ho | ho <;> simp only [execOp, ho]
 have key : ∃ kt e kd om, P.underlying t = some (.map kt e) ∧ P.underlying kt = some (.int kd) ∧ cOpd m = some om ∧ c2 (.mapset om) k v = some c := by
  rcases ho with ho | ho <;> simp only [cOp, ho] at hc <;> split at hc <;> (try (cases hc; done)) <;> split at hc <;> (try (cases hc; done)) <;> split at hc <;> (try (cases hc; done)) <;> exact ⟨_, _, _, _, by assumption, by assumption, by assumption, hc⟩
 obtain ⟨kt, e, kd, om, hu, hk, hm, hc'⟩ := key
 obtain ⟨ok', ov, hk', hv', rfl⟩ := c2_inv hc'
 simp only [xop] at h
 split at h
 ·rename_i mv hmv
  split at h
  ·rename_i kk n hkv
   split at h
   ·rename_i x hxv
    split at h
    ·rename_i id es clock hxm
     have hq := opd_sound hA hk' hkv
     cases hk2 : ca.eval k <;> rw [hk2] at hq <;> cases hq
     have hx := opd_sound hA hv' hxv
     obtain ⟨hg, L, ces, hL, hb, e1, h1, h2⟩ := xmap_sound hxm hR (opd_sound hA hm hmv)
     obtain ⟨r1, r2⟩ := run_mapUpdate (P := P) (w := w) hu hk h1 kk n (ca.eval v)
     split at h
     ·rename_i j val hf
      simp at h; obtain ⟨rfl, rfl⟩ := h
      obtain ⟨m', f, e', ej, f1, f2, _, _, _, f6⟩ := xfind_sound (kt := kt) (kd := kd) hf h2
      rw [Nat.zero_add] at ej; subst ej
      refine yes_skip (.refl E) (rel_setMap hR hg hL hb h1 ?_) hex (by rw [hk2, e1]; exact r1 _ _ f f1 (by simpa using f2) f6)
      rw [Array.toList_modify]
      exact ERel.put (.int _ _) hx _ h2
     ·rename_i hf
      simp at h; obtain ⟨rfl, rfl⟩ := h
      have f1 := xfind_sound (kt := kt) (kd := kd) hf h2
      refine yes_skip (.refl E) (rel_setMap hR hg hL hb h1 ?_) hex (by rw [hk2, e1]; exact r2 f1)
      rw [Array.toList_push]
      exact ERel.push (.int _ _) hx rfl h2
     ·cases h
    ·cases h
   ·cases h
  ·cases h
 ·cases h
theorem y_s2s {s d : TypeId} {x : Operand} {ox : Opd} (ho : o.op = .convert s d x) (hc : cOp P o = some (.s2s ox)) (h : xop a.tmps aw (.s2s ox) = some (r, aw')) (hA : ActRel E a ca) (hR : Rel E aw w) : Yes P o E ca w r aw' := by
 simp only [cOp, ho] at hc
 split at hc
 ·obtain ⟨_, _, hh⟩ := c1_inv hc; cases hh
 ·split at hc
  ·obtain ⟨_, _, hh⟩ := c1_inv hc; cases hh
  ·cases hc
 ·rename_i e e' hs hd
  split at hc
  ·rename_i he
   cases hsd : Nat.beq s d <;> simp only [hsd, cond_true, cond_false, reduceCtorEq] at hc
   have := nbt hsd; subst this
   rw [hs] at hd
   injection hd with hd; injection hd with hd; subst hd
   obtain ⟨ox', hx, hh⟩ := c1_inv hc
   injection hh with hh; subst hh
   simp only [xop] at h
   split at h <;> (try (cases h; done))
   rename_i id of len cap hv
   split at h <;> (try (cases h; done))
   rename_i l el opn hg
   cases hlen : Nat.blt 0 len <;> simp only [hlen, cond_true, cond_false, reduceCtorEq, sI, pmi] at h
   obtain ⟨rfl, rfl⟩ := h
   have hlen : 0 < len := nbl hlen
   have hr := opd_sound hA hx hv
   have hh : ∃ L c2, E.loc[id]? = some L ∧ ca.eval x = .slice (some ⟨L.block, L.base + of, none⟩) len c2 := by
    cases hx' : ca.eval x <;> rw [hx'] at hr
    all_goals (try (cases hr; done))
    cases hr with
    | slc hL hd => exact ⟨_, _, hL, by rw [hd.resolve_left (by omega)]⟩
    | slcUp hL hl hlo hd => exact ⟨_, _, hL, by rw [(hd.resolve_left (by omega)).1]⟩
   obtain ⟨L, c2, hL, hx'⟩ := hh
   obtain ⟨L', hL', cc, fz, ⟨g1, gf⟩, g2, g3, g4, g5⟩ := hR.obj id _ hg
   rw [hL] at hL'; injection hL' with hL'; subst hL'
   have hlt := (agz.1 g1).1
   have hsh : w.shape? L.block = some (el, cc.size) := by simp [World.shape?, g1]
   have hfr : ∃ fz', Fz cc.size fz' ∧ (w.freeze ⟨L.block, cc.size, none⟩ 1).heap[L.block]? = some (.cells cc el fz') := by
    obtain ⟨lo, hi⟩ := fz
    refine ⟨if lo == hi then (cc.size, cc.size + 1) else (min lo cc.size, max hi (cc.size + 1)), ?_, ?_⟩
    ·unfold Fz at *
     split
     ·exact .inr (Nat.le_refl _)
     ·rename_i hne
      simp at hne
      right
      simp only
      rcases gf with gf | gf
      ·exact (hne gf).elim
      ·simp only at gf; omega
    ·simp [World.freeze, Array.getElem?_modify, g1]
   obtain ⟨fz', hf1, hf2⟩ := hfr
   have hoth : ∀ b, b ≠ L.block → (w.freeze ⟨L.block, cc.size, none⟩ 1).heap[b]? = w.heap[b]? := fun b hb => by
    simp [World.freeze, Array.getElem?_modify, Ne.symm hb]
   refine yes_value' (v := ca.eval x) (.refl E) (hR.touch (show Same w (w.freeze ⟨L.block, cc.size, none⟩ 1) from ⟨rfl, rfl⟩) hg rfl hL hoth ⟨cc, fz', ⟨hf2, hf1⟩, g2, g3, g4, g5⟩) (by simp only [execOp, ho]; rfl) ?_ hr
   rw [hx']
   simp [convert, run_underlying hs, run_underlying he, markStringish, hsh]
  ·cases hc
 ·cases hc
theorem y_index {t : TypeId} {x y : Operand} (ho : o.op = .index t x y) (hc : cOp P o = some c) (h : xop a.tmps aw c = some (r, aw')) (hA : ActRel E a ca) (hR : Rel E aw w) : Yes P o E ca w r aw' := by
 simp only [cOp, ho] at hc
 split at hc <;> (try (cases hc; done))
 rename_i hu
 obtain ⟨ox, oy, hx, hy, rfl⟩ := c2_inv hc
 simp only [xop] at h
 split at h <;> (try (cases h; done))
 rename_i l hl
 split at h <;> (try (cases h; done))
 rename_i iv hiv
 split at h <;> (try (cases h; done))
 rename_i i hi
 split at h <;> (try (cases h; done))
 rename_i v hv
 simp at h; obtain ⟨rfl, rfl⟩ := h
 have r1 := opd_sound hA hx hl
 have r2 := opd_sound hA hy hiv
 unfold xnat at hi
 split at hi <;> simp at hi
 rename_i k m
 subst hi
 cases hy' : ca.eval y <;> rw [hy'] at r2 <;> cases r2
 cases hx' : ca.eval x <;> rw [hx'] at r1 <;> cases r1
 rename_i s hL
 obtain ⟨u, hu2, hr⟩ := hL.get hv
 rw [List.getElem?_map] at hu2
 cases hb : s.data.toList[m]? with
 | none => rw [hb] at hu2; cases hu2
 | some b =>
  rw [hb] at hu2
  simp at hu2
  refine yes_value (v := u) hR (by simp only [execOp, ho]; rfl) ?_ hr
  have hget : s[m]? = some b := by
   have hlt := (lgs.1 hb).1
   have hb2 := (lgs.1 hb).2
   simp at hlt hb2
   have : m < s.size := hlt
   simp [getElem?_def, this, ← hb2, ByteArray.getElem_eq_getElem_data]
  simp [hx', hy', Instr.index, asIntOf, run_underlying hu, hget, ← hu2]
end
section
variable {P : Program} {o : Oper} {E : Env} {a : AAct} {ca : Act} {aw aw' : AW} {w : World} {r : AV} {c : COp}
theorem rel_iter {m : Option Nat} {cm : Option Nat} {since st : Nat} (hR : Rel E aw w) (hm : VRel E (.map m) (.map cm)) :
  ∃ L, L.block = w.heap.size ∧ L.base = 0 ∧ E.Le (E.put L) ∧ Rel (E.put L) (aw.add (.iter m since [] st)) (w.alloc (.mapIter cm since #[] st)) ∧ (E.put L).loc[aw.nx]? = some L := by
 let L : Loc := ⟨w.heap.size, 0, 0⟩
 refine ⟨L, rfl, rfl, E.put_le L, hR.add ⟨rfl, rfl⟩ (fun b hb => ?_) (Nat.le_refl _) ⟨rfl, cm, ?_, hm.mono (E.put_le L)⟩, hR.nx ▸ E.put_new L⟩
 ·show (w.heap.push _)[b]? = _
  rw [Array.getElem?_push, if_neg (Nat.ne_of_lt hb)]
 ·show (w.heap.push _)[w.heap.size]? = _
  simp
theorem y_range {t : TypeId} {m : Operand} (ho : o.op = .range t m) (hc : cOp P o = some c) (h : xop a.tmps aw c = some (r, aw')) (hA : ActRel E a ca) (hR : Rel E aw w) : Yes P o E ca w r aw' := by
 simp only [cOp, ho] at hc
 split at hc
 ·rename_i k e hu
  obtain ⟨om, hm, rfl⟩ := c1_inv hc
  simp only [xop] at h
  split at h
  ·rename_i hmv
   simp at h; obtain ⟨rfl, rfl⟩ := h
   have hr := opd_sound hA hm hmv
   cases hm2 : ca.eval m <;> rw [hm2] at hr <;> cases hr
   obtain ⟨L, hb, h0, hle, hR', hn⟩ := rel_iter (since := 0) (st := 0) hR (VRel.nilMap (E := E))
   refine yes_value' (v := .pointer (some ⟨L.block, L.base + 0, none⟩)) hle hR' (by simp only [execOp, ho]; rfl) ?_ (.ptr hn)
   simp [hm2, Instr.range, run_underlying hu, hb, h0]
  ·rename_i id hmv
   split at h
   ·rename_i es clock hg
    simp at h; obtain ⟨rfl, rfl⟩ := h
    have hr := opd_sound hA hm hmv
    cases hm2 : ca.eval m <;> rw [hm2] at hr
    all_goals (try (cases hr; done))
    have hr' := hr
    cases hr with
    | map hL hb =>
     rename_i L0
     obtain ⟨L', hL', _, ces, h1, h2⟩ := hR.obj _ _ hg
     rw [hL] at hL'; injection hL' with hL'; subst hL'
     obtain ⟨L, hb, h0, hle, hR', hn⟩ := rel_iter (since := clock) (st := clock) hR hr'
     refine yes_value' (v := .pointer (some ⟨L.block, L.base + 0, none⟩)) hle hR' (by simp only [execOp, ho]; rfl) ?_ (.ptr hn)
     simp [hm2, Instr.range, run_underlying hu, hb, h0, run_getObj_map h1]
   ·cases h
  ·cases h
 ·cases hc
theorem run_getObj_iter {b : Nat} {cm : Option Nat} {since st : Nat} {seen : Array Nat} (h : w.heap[b]? = some (.mapIter cm since seen st)) : (getObj b).run P w = .ok (.mapIter cm since seen st) w := by
 simp [getObj, Sem.run, h]
theorem run_setObj_iter {b : Nat} {cm : Option Nat} {since st : Nat} {seen : Array Nat} (h : w.heap[b]? = some (.mapIter cm since seen st)) (o : Obj) : (setObj b o).run P w = .ok () { w with heap := w.heap.setIfInBounds b o } := by
 simp [setObj, Sem.run, h]
theorem iter_at {id : Nat} {v : Value} {m : Option Nat} {since st : Nat} {seen : List Nat} (hR : Rel E aw w) (hv : VRel E (.ptr (some (id, 0))) v) (hg : aw.get id = some (.iter m since seen st)) :
  ∃ L cm, E.loc[id]? = some L ∧ L.base = 0 ∧ v = .pointer (some ⟨L.block, 0, none⟩) ∧ w.heap[L.block]? = some (.mapIter cm since seen.toArray st) ∧ VRel E (.map m) (.map cm) := by
 cases hv with
 | ptr hL =>
  rename_i L
  obtain ⟨L', hL', hb, cm, h1, h2⟩ := hR.obj _ _ hg
  rw [hL] at hL'; injection hL' with hL'; subst hL'
  exact ⟨L, cm, hL, hb, by rw [hb], h1, h2⟩
theorem map_at {id : Nat} {cm : Option Nat} {es : List AEnt} {clock : Nat} (hR : Rel E aw w) (hv : VRel E (.map (some id)) (.map cm)) (hg : aw.get id = some (.map es clock)) :
  ∃ L ces, E.loc[id]? = some L ∧ cm = some L.block ∧ w.heap[L.block]? = some (.map ces clock) ∧ ERel E es ces.toList := by
 cases hv with
 | map hL hb =>
  rename_i L
  obtain ⟨L', hL', _, ces, h1, h2⟩ := hR.obj _ _ hg
  rw [hL] at hL'; injection hL' with hL'; subst hL'
  exact ⟨L, ces, hL, rfl, h1, h2⟩
theorem ERel.nil_inv {ces : Array MapEntry} (h : ERel E [] ces.toList) : ces = #[] := by
 generalize hx : ces.toList = l at h
 cases h
 exact Array.toList_inj.1 hx
theorem ERel.one_inv {e : AEnt} {ces : Array MapEntry} (h : ERel E [e] ces.toList) : ∃ f, ces = #[f] ∧ VRel E e.key f.key ∧ VRel E e.val f.val ∧ e.born = f.born := by
 generalize hx : ces.toList = l at h
 cases h with
 | cons hk hv hb t =>
  rename_i f m
  cases t
  exact ⟨f, Array.toList_inj.1 hx, hk, hv, hb⟩
theorem y_next {it : Operand} {b : Bool} (ho : o.op = .next it b) (hc : cOp P o = some c) (h : xop a.tmps aw c = some (r, aw')) (hA : ActRel E a ca) (hR : Rel E aw w) : Yes P o E ca w r aw' := by
 cases b with
 | true => simp [cOp, ho] at hc
 | false =>
 simp only [cOp, ho] at hc
 obtain ⟨oi, hi, rfl⟩ := c1_inv hc
 simp only [xop] at h
 split at h
 ·rename_i id hiv
  have hr := opd_sound hA hi hiv
  split at h
  ·rename_i since seen st hg
   simp at h; obtain ⟨rfl, rfl⟩ := h
   obtain ⟨L, cm, hL, hb, e1, h1, h2⟩ := iter_at hR hr hg
   cases h2
   refine yes_value (v := .tuple #[.bool false]) hR (by simp only [execOp, ho]; rfl) ?_ (.tuple (.cons (.bool _) .nil))
   simp [e1, Instr.next, run_getObj_iter h1]
  ·rename_i m since seen st hg
   obtain ⟨L, cm, hL, hb, e1, h1, h2⟩ := iter_at hR hr hg
   split at h
   ·rename_i clock hgm
    simp at h; obtain ⟨rfl, rfl⟩ := h
    obtain ⟨L2, ces, hL2, rfl, h3, h4⟩ := map_at hR h2 hgm
    have := h4.nil_inv; subst this
    refine yes_value (v := .tuple #[.bool false]) hR (by simp only [execOp, ho]; rfl) ?_ (.tuple (.cons (.bool _) .nil))
    simp [e1, Instr.next, run_getObj_iter h1, run_getObj_map h3, Question.forced]
   ·rename_i e clock hgm
    obtain ⟨L2, ces, hL2, rfl, h3, h4⟩ := map_at hR h2 hgm
    obtain ⟨f, rfl, hk, hv, hbn⟩ := h4.one_inv
    cases hs : Nat.blt e.born since <;> simp only [hs, cond_true, cond_false, reduceCtorEq] at h
    have hs : e.born < since := nbl hs
    rw [hbn] at hs
    split at h
    ·simp at h; obtain ⟨rfl, rfl⟩ := h
     have hlt := (agz.1 h1).1
     have hR' : Rel E (aw.set id (.iter (some m) since [e.born] clock)) { w with heap := w.heap.setIfInBounds L.block (.mapIter (some L2.block) since #[f.born] clock) } := by
      refine hR.update ⟨rfl, rfl⟩ hg rfl hL (fun b hne => Array.getElem?_setIfInBounds_ne (Ne.symm hne)) ⟨hb, some L2.block, ?_, h2⟩
      rw [hbn]
      exact Array.getElem?_setIfInBounds_self_of_lt hlt
     refine yes_value' (v := .tuple #[.bool true, f.key, f.val]) (.refl E) hR' (by simp only [execOp, ho]; rfl) ?_ (.tuple (.cons (.bool _) (.cons hk (.cons hv .nil))))
     have hn : ¬ since ≤ f.born := by omega
     have f1 : (#[f].filter fun e => !(#[] : Array Nat).contains e.born) = #[f] := by apply Array.toList_inj.1; simp
     have f2 : (#[f].filter fun e => decide (e.born < since)) = #[f] := by apply Array.toList_inj.1; simp [hs]
     have f3 : (#[f].filter fun e => decide (e.born ≥ since)) = #[] := by apply Array.toList_inj.1; simp; omega
     simp only [e1, Instr.next, Sem.run_bind, run_getObj_iter h1, run_getObj_map h3, Result.andThen_ok]
     simp only [Array.isEmpty_empty, Bool.not_true, Bool.false_and, Bool.false_eq_true, if_false, f1, f2, f3]
     simp [Question.forced, run_setObj_iter h1]
    ·rename_i b
     cases hq : (Nat.beq b e.born && Nat.blt e.born st) <;> simp only [hq, cond_true, cond_false, reduceCtorEq, sI, pmi] at h
     obtain ⟨rfl, rfl⟩ := h
     simp only [Bool.and_eq_true] at hq
     have hq1 := nbt hq.1
     have hq2 : e.born < st := nbl hq.2
     subst hq1
     rw [hbn] at h1 hq2
     have hn2 : ¬ st ≤ f.born := by omega
     refine yes_value (v := .tuple #[.bool false]) hR (by simp only [execOp, ho]; rfl) ?_ (.tuple (.cons (.bool _) .nil))
     have f1 : (#[f].filter fun e => !(#[f.born] : Array Nat).contains e.born) = #[] := by apply Array.toList_inj.1; simp
     simp only [e1, Instr.next, Sem.run_bind, run_getObj_iter h1, run_getObj_map h3, Result.andThen_ok]
     simp [f1, hn2, Question.forced]
    ·cases h
   ·cases h
  ·cases h
 ·cases h
theorem y_entry {it : Operand} (ho : o.op = .entry it) (hc : cOp P o = some c) (h : xop a.tmps aw c = some (r, aw')) (hA : ActRel E a ca) (hR : Rel E aw w) : Yes P o E ca w r aw' := by
 simp only [cOp, ho] at hc
 obtain ⟨oi, hi, rfl⟩ := c1_inv hc
 simp only [xop] at h
 split at h
 ·rename_i id hiv
  have hr := opd_sound hA hi hiv
  split at h
  ·rename_i m since b st hg
   obtain ⟨L, cm, hL, hb, e1, h1, h2⟩ := iter_at hR hr hg
   split at h
   ·rename_i e clock hgm
    obtain ⟨L2, ces, hL2, rfl, h3, h4⟩ := map_at hR h2 hgm
    obtain ⟨f, rfl, hk, hv, hbn⟩ := h4.one_inv
    cases hq : (Nat.beq clock st && Nat.beq b e.born) <;> simp only [hq, cond_true, cond_false, reduceCtorEq, sI, pmi] at h
    obtain ⟨rfl, rfl⟩ := h
    simp only [Bool.and_eq_true] at hq
    have hq1 := nbt hq.1
    have hq2 := nbt hq.2
    subst hq1; subst hq2
    rw [hbn] at h1
    refine yes_value (v := .tuple #[f.key, f.val]) hR (by simp only [execOp, ho]; rfl) ?_ (.tuple (.cons hk (.cons hv .nil)))
    simp [e1, Instr.entry, run_getObj_iter h1, run_getObj_map h3]
   ·cases h
  ·cases h
 ·cases h
end
section
variable {P : Program} {o : Oper} {E : Env} {a : AAct} {ca : Act} {aw aw' : AW} {w : World} {r : AV} {c : COp}
theorem sliceOf_inv {t e : TypeId} {i : TypeInfo} (hs : sliceOf P t = some (e, i)) : P.underlying t = some (.slice e) ∧ P.info? e = some i := by
 unfold sliceOf at hs
 split at hs
 ·split at hs
  ·simp at hs; obtain ⟨rfl, rfl⟩ := hs; exact ⟨by assumption, by assumption⟩
  ·cases hs
 ·cases hs
theorem run_sliceBound_nat {k : IntKind} {n y : Nat} {code : BoundsCode} (h : n ≤ y) : (Instr.sliceBound (.int k (Int.ofNat n)) y code).run P w = .ok n w := by
 have e : (Int.ofNat n : Int) = (n : Int) := rfl
 simp [Instr.sliceBound, asIntOf, e]
 omega
theorem run_slice_of {t e : TypeId} {i : TypeInfo} {ba : Option Addr} {len cap l h m : Nat} {lo hi mx : Option Value} (hu : P.underlying t = some (.slice e)) (hi' : P.info? e = some i)
  (hlo : (lo = none ∧ l = 0) ∨ ∃ k, lo = some (.int k (Int.ofNat l))) (hhi : (hi = none ∧ mx = none ∧ h = len) ∨ ∃ k, hi = some (.int k (Int.ofNat h)))
  (hmx : (mx = none ∧ m = cap) ∨ ∃ k, mx = some (.int k (Int.ofNat m))) (h1 : l ≤ h) (h2 : h ≤ m) (h3 : m ≤ cap) :
  (Instr.sliceAt t (.slice ba len cap) lo hi mx).run P w = .ok (.slice (if m = l then ba else ba.map (·.add (l * i.size))) (h - l) (m - l)) w := by
 rcases hlo with ⟨rfl, rfl⟩ | ⟨kl, rfl⟩ <;> rcases hhi with ⟨rfl, rfl, rfl⟩ | ⟨kh, rfl⟩ <;> rcases hmx with ⟨hm0, rfl⟩ | ⟨km, hm0⟩ <;> (first | (cases hm0; done) | skip) <;> (try subst hm0) <;>
  simp only [Instr.sliceAt, Instr.slice, Instr.sliceBounds, Sem.run_bind, run_underlying hu, Result.andThen_ok, Sem.run_pure, run_sizeOf' hi', run_sliceBound_nat h1, run_sliceBound_nat h2, run_sliceBound_nat h3]
theorem optn_sound (hA : ActRel E a ca) {x : Option Operand} {ox : Option Opd} {n : Nat} (h : (match ox with | none => some 0 | some o => match o.ev a.tmps with | some v => xnat v | none => none) = some n) (hc : cOpt x = some ox) :
  (x.map ca.eval = none ∧ n = 0) ∨ ∃ k, x.map ca.eval = some (.int k (Int.ofNat n)) := by
 cases x with
 | none => simp [cOpt] at hc; subst hc; simp at h; exact .inl ⟨rfl, h.symm⟩
 | some x =>
  simp only [cOpt] at hc
  split at hc
  ·rename_i o' ho'
   simp at hc; subst hc
   simp only at h
   split at h
   ·rename_i v hv
    unfold xnat at h
    split at h
    ·rename_i k m
     simp at h; subst h
     have hr := opd_sound hA ho' hv
     right
     cases hx' : ca.eval x <;> rw [hx'] at hr <;> cases hr
     exact ⟨k, by simp [hx']⟩
    ·cases h
   ·cases h
  ·cases hc
theorem opto_sound (hA : ActRel E a ca) {x : Option Operand} {ox : Option Opd} {n : Option Nat} (h : (match ox with | none => some none | some o => match o.ev a.tmps with | some v => (xnat v).map some | none => none) = some n) (hc : cOpt x = some ox) :
  (x = none ∧ ox = none ∧ n = none) ∨ ∃ m k, n = some m ∧ ox.isSome = true ∧ x.map ca.eval = some (.int k (Int.ofNat m)) := by
 cases x with
 | none => simp [cOpt] at hc; subst hc; simp at h; exact .inl ⟨rfl, rfl, h.symm⟩
 | some x =>
  simp only [cOpt] at hc
  split at hc
  ·rename_i o' ho'
   simp at hc; subst hc
   simp only at h
   split at h
   ·rename_i v hv
    unfold xnat at h
    split at h
    ·rename_i k m
     simp at h; subst h
     have hr := opd_sound hA ho' hv
     right
     cases hx' : ca.eval x <;> rw [hx'] at hr <;> cases hr
     exact ⟨m, k, rfl, rfl, by simp [hx']⟩
    ·cases h
   ·cases h
  ·cases hc
theorem slcUp_inv {id of len sz lo : Nat} {v : Value} (h : VRel E (.slc (some (id, of)) len (.upto sz lo)) v) :
  ∃ L ad cap, v = .slice (some ad) len cap ∧ E.loc[id]? = some L ∧ len ≤ cap ∧ lo ≤ cap ∧ (cap = 0 ∨ (ad = ⟨L.block, L.base + of, none⟩ ∧ L.base + of + cap * sz ≤ L.total)) := by
 cases h with
 | slcUp hL hl hlo ha => exact ⟨_, _, _, rfl, hL, hl, hlo, ha⟩
theorem slcKn_inv {id of len c : Nat} {v : Value} (h : VRel E (.slc (some (id, of)) len (.known c)) v) :
  ∃ L ad, v = .slice (some ad) len c ∧ E.loc[id]? = some L ∧ ((c = 0 ∧ len = 0) ∨ ad = ⟨L.block, L.base + of, none⟩) := by
 cases h with
 | slc hL ha => exact ⟨_, _, rfl, hL, ha⟩
theorem i64_wrap {n : Nat} (h : n ≤ 9223372036854775807) : IntKind.i64.wrap (Int.ofNat n) = (n : Int) := by
 rw [← wrapF_eq]
 have : Nat.ble n (top .i64) = true := Nat.ble_eq_true_of_le h
 simp only [wrapF, this, cond_true]
 rfl
theorem y_slice {t : TypeId} {x : Operand} {lo hi mx : Option Operand} (ho : o.op = .slice t x lo hi mx) (hc : cOp P o = some c) (h : xop a.tmps aw c = some (r, aw')) (hA : ActRel E a ca) (hR : Rel E aw w) : Yes P o E ca w r aw' := by
 simp only [cOp, ho] at hc
 split at hc
 ·rename_i e i hs
  obtain ⟨hu, hi'⟩ := sliceOf_inv hs
  split at hc
  ·rename_i ox hx
   split at hc
   ·rename_i olo hlo
    split at hc
    ·rename_i ohi hhi
     split at hc
     ·rename_i omx hmx
      cases hmh : (omx.isNone || ohi.isSome) <;> simp only [hmh, cond_true, cond_false, reduceCtorEq, sI] at hc
      subst hc
      simp only [xop] at h
      split at h
      ·rename_i s hsv
       split at h
       ·rename_i l hl
        split at h
        ·rename_i hh hhv
         split at h
         ·rename_i m hm
          split at h
          ·rename_i res hres
           simp at h; obtain ⟨rfl, rfl⟩ := h
           have hr := opd_sound hA hx hsv
           have kl := optn_sound hA hl hlo
           have kh := opto_sound hA hhv hhi
           have km := opto_sound hA hm hmx
           have fin : ∀ (ba : Option Addr) (len cap h' m' : Nat), ca.eval x = .slice ba len cap → l ≤ h' → h' ≤ m' → m' ≤ cap → (hh = none → m = none → h' = len) → (∀ q, hh = some q → h' = q) → (m = none → m' = cap) → (∀ q, m = some q → m' = q) →
             VRel E res (.slice (if m' = l then ba else ba.map (·.add (l * i.size))) (h' - l) (m' - l)) → Yes P o E ca w res aw := by
            intro ba len cap h' m' hx2 g1 g2 g3 g4 g5 g6 g7 g8
            refine yes_value (v := .slice (if m' = l then ba else ba.map (·.add (l * i.size))) (h' - l) (m' - l)) hR (by simp only [execOp, ho]; rfl) ?_ g8
            rw [hx2]
            refine run_slice_of hu hi' kl ?_ ?_ g1 g2 g3
            ·rcases kh with ⟨rfl, rfl, rfl⟩ | ⟨q, k, rfl, _, e2⟩
             ·rcases km with ⟨rfl, rfl, rfl⟩ | ⟨q, k, rfl, e1, _⟩
              ·exact .inl ⟨rfl, rfl, g4 rfl rfl⟩
              ·cases omx <;> simp at e1 hmh
             ·exact .inr ⟨k, by rw [e2, g5 q rfl]⟩
            ·rcases km with ⟨rfl, rfl, rfl⟩ | ⟨q, k, rfl, _, e2⟩
             ·exact .inl ⟨rfl, g6 rfl⟩
             ·exact .inr ⟨k, by rw [e2, g7 q rfl]⟩
           unfold xslice at hres
           split at hres
           ·
            cases hx2 : ca.eval x <;> rw [hx2] at hr <;> cases hr
            cases hq : (Nat.beq l 0 && zeroOpt hh && zeroOpt m) <;> simp only [hq, cond_true, cond_false, reduceCtorEq, sI] at hres
            subst hres
            simp only [Bool.and_eq_true] at hq
            have q1 := nbt hq.1.1; subst q1
            refine fin none 0 0 0 0 hx2 (by omega) (by omega) (by omega) (fun _ _ => rfl) (fun q e => ?_) (fun _ => rfl) (fun q e => ?_) (by simpa using VRel.nilSlc)
            ·rw [e] at hq; exact (nbt hq.1.2).symm
            ·rw [e] at hq; exact (nbt hq.2).symm
           ·rename_i id of len cc
            cases hq : (Nat.ble l (hh.getD len) && (Nat.ble (hh.getD len) (m.getD cc) && Nat.ble (m.getD cc) cc)) <;> simp only [hq, cond_true, cond_false, reduceCtorEq, sI] at hres
            subst hres
            simp only [Bool.and_eq_true] at hq
            have q1 := nbl hq.1
            have q2 := nbl hq.2.1
            have q3 := nbl hq.2.2
            cases hx2 : ca.eval x <;> rw [hx2] at hr
            all_goals (try (cases hr; done))
            cases hr with
            | slc hL hd =>
             rename_i ad L
             refine fin (some ad) len cc (hh.getD len) (m.getD cc) hx2 q1 q2 q3 (fun e _ => by rw [e]; rfl) (fun q e => by rw [e]; rfl) (fun e => by rw [e]; rfl) (fun q e => by rw [e]; rfl) ?_
             by_cases e : m.getD cc = l
             ·rw [if_pos e]
              exact .slc hL (.inl ⟨by omega, by omega⟩)
             ·rw [if_neg e]
              have hb : Nat.beq (m.getD cc) l = false := by cases hb : Nat.beq (m.getD cc) l; rfl; exact (e (nbt hb)).elim
              have hd := hd.resolve_left (by omega)
              subst hd
              rw [hb]
              simp only [Option.map_some, add_eq, cond_false]
              exact .slc hL (.inr (by simp; omega))
           ·rename_i id of len sz' lo'
            split at hres
            ·cases hq : (Nat.ble l (hh.getD len) && (Nat.ble (hh.getD len) lo' && Nat.beq i.size sz')) <;> simp only [hq, cond_true, cond_false, reduceCtorEq, sI] at hres
             subst hres
             simp only [Bool.and_eq_true] at hq
             have q1 := nbl hq.1
             have q2 := nbl hq.2.1
             have q3 := nbt hq.2.2
             subst q3
             obtain ⟨L, ad, cap, hx2, hL, hl2, hlo2, hd⟩ := slcUp_inv hr
             ·refine fin (some ad) len cap (hh.getD len) cap hx2 q1 (by omega) (by omega) (fun e _ => by rw [e]; rfl) (fun q e => by rw [e]; rfl) (fun _ => rfl) (fun q e => by cases e) ?_
              by_cases e : cap = l
              ·rw [if_pos e]
               exact .slcUp hL (by omega) (by omega) (.inl (by omega))
              ·rw [if_neg e]
               obtain ⟨rfl, hd⟩ := hd.resolve_left (by omega)
               simp only [Option.map_some, add_eq]
               refine .slcUp hL (by omega) (by omega) (.inr ⟨by simp; omega, ?_⟩)
               have : cap * i.size = l * i.size + (cap - l) * i.size := by rw [← Nat.add_mul]; congr 1; omega
               omega
            ·rename_i m'
             cases hq : (Nat.ble l (hh.getD len) && (Nat.ble (hh.getD len) m' && Nat.ble m' lo')) <;> simp only [hq, cond_true, cond_false, reduceCtorEq, sI] at hres
             subst hres
             simp only [Bool.and_eq_true] at hq
             have q1 := nbl hq.1
             have q2 := nbl hq.2.1
             have q3 := nbl hq.2.2
             obtain ⟨L, ad, cap, hx2, hL, hl2, hlo2, hd⟩ := slcUp_inv hr
             ·refine fin (some ad) len cap (hh.getD len) m' hx2 q1 q2 (by omega) (fun e _ => by rw [e]; rfl) (fun q e => by rw [e]; rfl) (fun e => by cases e) (fun q e => by injection e) ?_
              by_cases e : m' = l
              ·rw [if_pos e]
               exact .slc hL (.inl ⟨by omega, by omega⟩)
              ·rw [if_neg e]
               obtain ⟨rfl, hd⟩ := hd.resolve_left (by omega)
               have hb : Nat.beq m' l = false := by cases hb : Nat.beq m' l; rfl; exact (e (nbt hb)).elim
               rw [hb]
               simp only [Option.map_some, add_eq, cond_false]
               exact .slc hL (.inr (by simp; omega))
           ·cases hres
          ·cases h
         ·cases h
        ·cases h
       ·cases h
      ·cases h
     ·cases hc
    ·cases hc
   ·cases hc
  ·cases hc
 ·cases hc
theorem y_makeSlice {t : TypeId} {x y : Operand} (ho : o.op = .makeSlice t x y) (hc : cOp P o = some c) (h : xop a.tmps aw c = some (r, aw')) (hA : ActRel E a ca) (hR : Rel E aw w) : Yes P o E ca w r aw' := by
 simp only [cOp, ho] at hc
 split at hc
 ·rename_i e i hs
  obtain ⟨hu, hi'⟩ := sliceOf_inv hs
  split at hc
  ·rename_i z az hz
   split at hc
   ·rename_i cs hcs
    cases hb : Nat.beq cs.length i.size <;> simp only [hb, cond_true, cond_false, reduceCtorEq] at hc
    have hb := nbt hb
    obtain ⟨ox, oy, hx, hy, rfl⟩ := c2_inv hc
    simp only [xop] at h
    split at h
    ·rename_i lv hlv
     split at h
     ·rename_i cv hcv
      split at h
      ·rename_i l hl
       split at h
       ·rename_i cp hcp
        cases hq : (Nat.ble l cp && Nat.ble (i.bytes * cp) 140737488355328 && Nat.ble cp 140737488355328) <;> simp only [hq, cond_true, cond_false, reduceCtorEq, sI, pmi] at h
        obtain ⟨rfl, rfl⟩ := h
        simp only [Bool.and_eq_true] at hq
        have q1 := nbl hq.1.1
        have q2 := nbl hq.1.2
        have q3 := nbl hq.2
        have r1 := opd_sound hA hx hlv
        have r2 := opd_sound hA hy hcv
        unfold xnat at hl hcp
        split at hl <;> simp at hl
        split at hcp <;> simp at hcp
        subst hl; subst hcp
        rename_i k1 n1 _ k2 n2
        cases hx2 : ca.eval x <;> rw [hx2] at r1 <;> cases r1
        cases hy2 : ca.eval y <;> rw [hy2] at r2 <;> cases r2
        have hzl := (zeroP_rel hz E).cells hcs
        have hzs : z.cells.size = i.size := by have := hzl.length; simp only [Array.length_toList] at this; omega
        have hw : ∀ n : Nat, n ≤ 140737488355328 → IntKind.i64.wrap (Int.ofNat n) = (n : Int) := fun n hn => i64_wrap (by omega)
        have e1 : (i.bytes : Int) * (n2 : Int) ≤ 140737488355328 := by
         have h1 := Int.ofNat_le.2 q2
         rw [Int.natCast_mul] at h1
         exact h1
        have d1 : (decide ((n2 : Int) < 0) || decide ((i.bytes : Int) * (n2 : Int) > 2 ^ 48)) = false := by
         have : (2 : Int) ^ 48 = 281474976710656 := by decide
         rw [this, Bool.or_eq_false_iff]
         exact ⟨decide_eq_false (by omega), decide_eq_false (by omega)⟩
        have d2 : decide ((n1 : Int) < 0) = false := decide_eq_false (by omega)
        have d3 : decide ((n1 : Int) > (n2 : Int)) = false := decide_eq_false (by omega)
        by_cases hq0 : n2 * i.size = 0
        ·have hnil : (repCells cs n2) = [] := by
          have := (repCells_rel hzl n2).length
          simp [List.length_flatten] at this
          rw [hzs, hq0] at this
          exact List.length_eq_zero_iff.1 this
         obtain ⟨L, hb0, h0, _, hle, hR', hn⟩ := rel_alloc (l := repCells cs n2) (e := e) (opn := false) hR (by rw [hnil]; exact LRel.nil)
         refine yes_value' (v := .slice (some ⟨L.block, L.base + 0, none⟩) n1 n2) hle hR' (by simp only [execOp, ho]; rfl) ?_ (.slc hn (.inr rfl))
         simp only [hx2, hy2, Instr.makeSlice, Sem.run_bind, run_underlying hu, Result.andThen_ok, asInt, asIntOf, Sem.run_pure, typeInfo, run_program, hi', hw n1 (by omega), hw n2 q3, d1, d2, d3, Bool.or_self, Bool.false_eq_true, if_false]
         simp [hq0, run_sizeOf' hi', newRow, hb0, h0, run_askRoom, Array.range_zero']
        ·obtain ⟨L, hb0, h0, _, hle, hR', hn⟩ := rel_alloc (cs := ((Array.range (n2 * z.cells.size)).map fun j => z.cells[j % z.cells.size]!).toList) (l := repCells cs n2) (e := e) (opn := false) hR (by
          rw [range_mod z.cells (by intro e; rw [hzs] at e; rw [e] at hq0; simp at hq0)]
          exact repCells_rel hzl n2)
         refine yes_value' (v := .slice (some ⟨L.block, L.base + 0, none⟩) n1 n2) hle hR' (by simp only [execOp, ho]; rfl) ?_ (.slc hn (.inr rfl))
         simp only [hx2, hy2, Instr.makeSlice, Sem.run_bind, run_underlying hu, Result.andThen_ok, asInt, asIntOf, Sem.run_pure, typeInfo, run_program, hi', hw n1 (by omega), hw n2 q3, d1, d2, d3, Bool.or_self, Bool.false_eq_true, if_false]
         rw [hzs]
         simp only [Array.toArray_toList]
         simp [hq0, run_sizeOf' hi', newRow, hb0, h0, run_askRoom, run_zeroValue' hz, hzs]
       ·cases h
      ·cases h
     ·cases h
    ·cases h
   ·cases hc
  ·cases hc
 ·cases hc
end
section
variable {P : Program} {o : Oper} {E : Env} {a : AAct} {ca : Act} {aw aw' : AW} {w : World} {r : AV} {c : COp}
theorem run_append_fit {ts : Array TypeId} {ty t e : TypeId} {i : TypeInfo} {u : TypeId} {d : TypeDesc} {x : Value} {new : List Value} {ba : Option Addr} {sLen sCap n : Nat} (h0 : ts[0]? = some t) (h1 : ts[1]? = some u) (hu : P.underlying t = some (.slice e)) (hi : P.info? e = some i) (hd : P.underlying u = some d)
  (hni : ∀ k, d ≠ .int k) (hlen : (Builtin.lenOf x).run P w = .ok n w) (hnew : (Builtin.firstCells i.size n x).run P w = .ok new.toArray w) (hfit : sLen + n ≤ sCap) :
  (Builtin.append_ ts ty #[.slice ba sLen sCap, x]).run P w = ((match ba with | some a => (storeCells (a.add (sLen * i.size)) new).run P w | none => .ok () w).andThen fun _ w' => .ok (.slice ba (sLen + n) sCap) w') := by
 have hz : (match d with | .int _ => true | _ => false) = false := by
  cases d <;> first | rfl | exact (hni _ rfl).elim
 simp only [Builtin.append_, h0, h1, Sem.run_bind, run_underlying hu, run_sizeOf' hi, run_underlying hd, Result.andThen_ok, Sem.run_pure, List.getElem?_toArray, List.getElem?_cons_zero, List.getElem?_cons_succ]
 simp only [hz, Bool.false_eq_true, if_false, hlen, Result.andThen_ok, hfit, if_true, Sem.run_bind, Bool.not_false, hnew]
 cases ba with
 | none => rfl
 | some a => simp
theorem run_append_more {ts : Array TypeId} {ty t e : TypeId} {i : TypeInfo} {u : TypeId} {d : TypeDesc} {x z : Value} {az : AV} {new old : List Value} {ba : Option Addr} {sLen sCap n : Nat} (h0 : ts[0]? = some t) (h1 : ts[1]? = some u) (hu : P.underlying t = some (.slice e)) (hi : P.info? e = some i) (hd : P.underlying u = some d)
  (hni : ∀ k, d ≠ .int k) (hz0 : zeroP P e = some (z, az)) (hlen : ∀ w', w'.heap = w.heap → (Builtin.lenOf x).run P w' = .ok n w') (hnew : ∀ w', w'.heap = w.heap → (Builtin.firstCells i.size n x).run P w' = .ok new.toArray w') (hold : ∀ w', w'.heap = w.heap → (Builtin.firstCells i.size sLen (.slice ba sLen sCap)).run P w' = .ok old.toArray w')
  (hgrow : sCap < sLen + n) (hs1 : sLen + n ≤ 140737488355328) (hs2 : (sLen + n) * i.bytes ≤ 140737488355328) :
  ∃ cap, sLen + n ≤ cap ∧ (Builtin.append_ ts ty #[.slice ba sLen sCap, x]).run P w = .ok (.slice (some ⟨w.heap.size, 0, none⟩) (sLen + n) cap) ((w.drew).alloc (.cells (old.toArray ++ new.toArray ++ Builtin.zeroCells z.cells (cap - (sLen + n))) e (0, 0))) := by
 have hz : (match d with | .int _ => true | _ => false) = false := by
  cases d <;> first | rfl | exact (hni _ rfl).elim
 have hc := growslice_fits (bytes := i.bytes) hgrow hs2
 have hn : ¬ (sLen + n ≤ sCap) := by omega
 have h63' : ¬ (9223372036854775807 < ((sLen : Int) + (n : Int))) := by omega
 have h48' : ¬ (281474976710656 < Builtin.nextslicecap (sLen + n) sCap * i.bytes) := by omega
 refine ⟨(Question.appendCap (sLen + n) sCap e).cut (w.tape w.drawn (.appendCap (sLen + n) sCap e)), by simp [Question.cut], ?_⟩
 simp [Builtin.append_, h0, h1, run_underlying hu, run_underlying hd, run_sizeOf' hi, typeInfo, hi, hz, hlen w rfl, hn, h63', h48', Question.forced, hold w.drew rfl, hnew w.drew rfl, run_zeroValue' hz0, newRow]
 congr 2
 apply Array.ext'
 simp [List.append_assoc]
theorem rel_allocOpen {cs : List Value} {rest : Array Value} {l : List AV} {e : TypeId} {w1 : World} (hR : Rel E aw w) (hw : w1.heap = w.heap) (hsm : Same w w1) (hl : LRel E l cs) :
  ∃ L, L.block = w.heap.size ∧ L.base = 0 ∧ L.total = cs.length + rest.size ∧ E.Le (E.put L) ∧ Rel (E.put L) (aw.add (.cells l e true)) (w1.alloc (.cells (cs.toArray ++ rest) e (0, 0))) ∧ (E.put L).loc[aw.nx]? = some L := by
 let L : Loc := ⟨w.heap.size, 0, cs.length + rest.size⟩
 have hR1 : Rel E aw w1 := hR.world hsm hw
 refine ⟨L, rfl, rfl, rfl, E.put_le L, hR1.add ⟨rfl, rfl⟩ (fun b hb => ?_) (by rw [hw]; exact Nat.le_refl _) ⟨cs.toArray ++ rest, (0, 0), ⟨?_, .inl rfl⟩, by simp [L], by simp [L, hl.length], (fun h => Bool.noConfusion h), fun i x hi => ?_⟩, hR.nx ▸ E.put_new L⟩
 ·show (w1.heap.push _)[b]? = _
  rw [Array.getElem?_push, if_neg (Nat.ne_of_lt hb)]
 ·show (w1.heap.push _)[w.heap.size]? = _
  rw [← hw]; simp
 ·obtain ⟨v, hv, hr⟩ := hl.get hi
  refine ⟨v, ?_, hr.mono (E.put_le L)⟩
  have hlt := (lgs.1 hv).1
  simp only [L, Nat.zero_add]
  rw [Array.getElem?_append_left (by simpa using hlt)]
  simpa using hv
theorem rel_inplace {id of : Nat} {L : Loc} {l new : List AV} {vs : List Value} {e : TypeId} {opn : Bool} (hR : Rel E aw w) (hg : aw.get id = some (.cells l e opn)) (hL : E.loc[id]? = some L) (hof : of ≤ l.length)
  (hnew : LRel E new vs) (h1 : allOne new = true) (hb : L.base + l.length + new.length ≤ L.total) :
  ∃ w', (storeCells ⟨L.block, L.base + l.length, none⟩ vs).run P w = .ok () w' ∧ Rel (E.put ⟨L.block, L.base + of, L.total⟩) ((aw.set id .dead).add (.cells (l.drop of ++ new) e true)) w' := by
 obtain ⟨L', hL', c, fz, ⟨g1, gf⟩, g2, g3, g4, g5⟩ := hR.obj id _ hg
 rw [hL] at hL'; injection hL' with hL'; subst hL'
 have hlen := hnew.length
 obtain ⟨w', c', hr, ⟨hsm, ho⟩, hsz, hh, hcs, hj⟩ := run_storeCells' (P := P) (b := L.block) (o := L.base + l.length) vs 0 w c g1 gf (by omega) (allOne_spec hnew h1)
 refine ⟨w', hr, ?_⟩
 have hle := E.put_le ⟨L.block, L.base + of, L.total⟩
 have hlive : ∀ j x, (aw.set id .dead).get j = some x → x.live = true → j ≠ id ∧ aw.get j = some x := fun j x hx lx => by
  rcases AW.get_set hx with ⟨_, rfl⟩ | h
  ·simp [AO.live] at lx
  ·exact h
 have hother : ∀ j x Lj, aw.get j = some x → x.live = true → j ≠ id → E.loc[j]? = some Lj → Lj.block ≠ L.block := fun j x Lj hx lx hne eL e =>
  hne (hR.inj j id x _ Lj L hx hg lx rfl eL hL e)
 refine ⟨by simp [AW.add, AW.set, Env.put, hR.nx], hsm.ns hR.ns, fun j x hx => ?_, fun i j oi oj Li Lj hi hj li lj ei ej e => ?_, fun b ob hb => ?_, fun i oi Li hi li ei => ?_, fun b ob hb => ?_, fun i oi Li hi li ei => ?_⟩
 rotate_left 2
 ·rw [ho b fun e => by have := hR.apart id _ L hg rfl hL; rw [e] at hb; have hb' : E.fr L.block = some ob := hb; rw [this] at hb'; cases hb']
  exact hR.frame b ob hb
 ·rcases AW.get_add hi with ⟨e1, e2⟩ | ⟨_, hi⟩
  ·have new : (E.put ⟨L.block, L.base + of, L.total⟩).loc[aw.nx]? = some ⟨L.block, L.base + of, L.total⟩ := hR.nx ▸ E.put_new _
   rw [e1] at ei
   have ei' : (E.put ⟨L.block, L.base + of, L.total⟩).loc[aw.nx]? = some Li := ei
   rw [new] at ei'; injection ei' with ei'; subst ei'
   exact hR.apart id _ L hg rfl hL
  ·obtain ⟨_, hi2⟩ := hlive i oi hi li
   obtain ⟨L', hL', hr⟩ := hR.obj i oi hi2
   rw [hle.loc hL'] at ei; injection ei with ei; subst ei
   exact hR.apart i oi _ hi2 li hL'
 ·obtain ⟨q1, q2⟩ := hR.tok.1 b ob hb
  exact ⟨q1.heap (ho b fun e => by have := hR.tok.2 id _ L hg rfl hL; rw [e] at hb; have hb' : E.tk L.block = some ob := hb; rw [this] at hb'; cases hb'), q2⟩
 ·rcases AW.get_add hi with ⟨e1, e2⟩ | ⟨_, hi⟩
  ·have new : (E.put ⟨L.block, L.base + of, L.total⟩).loc[aw.nx]? = some ⟨L.block, L.base + of, L.total⟩ := hR.nx ▸ E.put_new _
   rw [e1] at ei
   have ei' : (E.put ⟨L.block, L.base + of, L.total⟩).loc[aw.nx]? = some Li := ei
   rw [new] at ei'; injection ei' with ei'; subst ei'
   exact hR.tok.2 id _ L hg rfl hL
  ·obtain ⟨_, hi2⟩ := hlive i oi hi li
   obtain ⟨L', hL', hr⟩ := hR.obj i oi hi2
   rw [hle.loc hL'] at ei; injection ei with ei; subst ei
   exact hR.tok.2 i oi _ hi2 li hL'
 ·rcases AW.get_add hx with ⟨rfl, rfl⟩ | ⟨hne, hx⟩
  ·refine ⟨⟨L.block, L.base + of, L.total⟩, (by show (E.put _).loc[aw.nx]? = _; exact hR.nx ▸ E.put_new _), c', fz, ⟨hh, by rw [hcs]; exact gf⟩, by simp only; omega, by simp only [List.length_append, List.length_drop]; omega, (fun h => Bool.noConfusion h), fun i y hy => ?_⟩
   simp only
   by_cases hi : i < (l.drop of).length
   ·rw [lal hi, List.getElem?_drop] at hy
    obtain ⟨v, hv, hrel⟩ := g5 _ _ hy
    refine ⟨v, ?_, hrel.mono hle⟩
    rw [hj, if_neg (by simp at hi; omega), ← hv]
    congr 1; omega
   ·rw [lar (by omega)] at hy
    obtain ⟨v, hv, hrel⟩ := hnew.get hy
    have hlt := (lgs.1 hv).1
    refine ⟨v, ?_, hrel.mono hle⟩
    simp only [List.length_drop] at hi hlt hv
    rw [hj, if_pos (by omega), ← hv]
    congr 1; omega
  ·cases hx' : x.live with
   | false =>
    cases x <;> simp [AO.live] at hx'
    ·rcases AW.get_set hx with ⟨rfl, _⟩ | ⟨_, hx⟩
     ·exact ⟨L, hle.loc hL, trivial⟩
     ·obtain ⟨Lj, hLj, _⟩ := hR.obj j _ hx
      exact ⟨Lj, hle.loc hLj, trivial⟩
    ·rcases AW.get_set hx with ⟨_, hq⟩ | ⟨_, hx⟩
     ·cases hq
     ·obtain ⟨Lj, hLj, hrr⟩ := hR.obj j _ hx
      exact ⟨Lj, hle.loc hLj, hrr.mono hle⟩
   | true =>
    obtain ⟨hne2, hx2⟩ := hlive j x hx hx'
    obtain ⟨Lj, hLj, hrel⟩ := hR.obj j x hx2
    exact ⟨Lj, hle.loc hLj, (hrel.heap (ho _ (hother j x Lj hx2 hx' hne2 hLj))).mono hle⟩
 ·have new' : (E.put ⟨L.block, L.base + of, L.total⟩).loc[aw.nx]? = some ⟨L.block, L.base + of, L.total⟩ := hR.nx ▸ E.put_new _
  have old : ∀ k ok Lk, k ≠ id → aw.get k = some ok → ok.live = true → (E.put ⟨L.block, L.base + of, L.total⟩).loc[k]? = some Lk → Lk.block ≠ L.block ∧ E.loc[k]? = some Lk := fun k ok Lk hne hk lk ek => by
   obtain ⟨L', hL', hr⟩ := hR.obj k ok hk
   rw [hle.loc hL'] at ek; injection ek with ek; subst ek
   exact ⟨hother k ok _ hk lk hne hL', hL'⟩
  rcases AW.get_add hi with ⟨e1, e2⟩ | ⟨hni, hi2⟩ <;> rcases AW.get_add hj with ⟨e3, e4⟩ | ⟨hnj, hj2⟩
  ·rw [e1, e3]
  ·rw [e1] at ei
   have ei' : (E.put ⟨L.block, L.base + of, L.total⟩).loc[aw.nx]? = some Li := ei
   rw [new'] at ei'; injection ei' with ei'; subst ei'
   obtain ⟨q1, q2⟩ := hlive j oj hj2 lj
   exact ((old j oj Lj q1 q2 lj ej).1 e.symm).elim
  ·rw [e3] at ej
   have ej' : (E.put ⟨L.block, L.base + of, L.total⟩).loc[aw.nx]? = some Lj := ej
   rw [new'] at ej'; injection ej' with ej'; subst ej'
   obtain ⟨q1, q2⟩ := hlive i oi hi2 li
   exact ((old i oi Li q1 q2 li ei).1 e).elim
  ·obtain ⟨q1, q2⟩ := hlive j oj hj2 lj
   obtain ⟨q3, q4⟩ := hlive i oi hi2 li
   exact hR.inj i j oi oj Li Lj q4 q2 li lj (old i oi Li q3 q4 li ei).2 (old j oj Lj q1 q2 lj ej).2 e
end
section
variable {P : Program} {o : Oper} {E : Env} {a : AAct} {ca : Act} {aw aw' : AW} {w : World} {r : AV} {c : COp}
theorem small_inv {n b : Nat} (h : small n b = true) : n ≤ 140737488355328 ∧ n * b ≤ 140737488355328 := by
 unfold small at h
 simp only [Bool.and_eq_true] at h
 exact ⟨nbl h.1, nbl h.2⟩
theorem xappend_sound {S : Sem Value} {ba : Option Addr} {sLen sCap n sz bytes : Nat} {e : TypeId} {s : AV} {new : List AV} {vs : List Value} (hR : Rel E aw w) (hs : VRel E s (.slice ba sLen sCap)) (hnew : LRel E new vs) (hnl : new.length = n * sz)
  (hfit : sLen + n ≤ sCap → S.run P w = ((match ba with | some a => (storeCells (a.add (sLen * sz)) vs).run P w | none => .ok () w).andThen fun _ w' => .ok (.slice ba (sLen + n) sCap) w'))
  (hmore : ∀ old : List Value, (∀ w', w'.heap = w.heap → (Builtin.firstCells sz sLen (.slice ba sLen sCap)).run P w' = .ok old.toArray w') → sCap < sLen + n → sLen + n ≤ 140737488355328 → (sLen + n) * bytes ≤ 140737488355328 →
   ∃ (cap : Nat) (rest : Array Value), sLen + n ≤ cap ∧ rest.size = (cap - (sLen + n)) * sz ∧ S.run P w = .ok (.slice (some ⟨w.heap.size, 0, none⟩) (sLen + n) cap) ((w.drew).alloc (.cells (old.toArray ++ vs.toArray ++ rest) e (0, 0))))
  (h : xappend aw e sz bytes s n new = some (r, aw')) : ∃ E' w' v, E.Le E' ∧ Rel E' aw' w' ∧ S.run P w = .ok v w' ∧ VRel E' r v := by
 have hvl := hnew.length
 have grow : ∀ (old : List Value) (lold : List AV), LRel E lold old → lold.length = sLen * sz → (∀ w', w'.heap = w.heap → (Builtin.firstCells sz sLen (.slice ba sLen sCap)).run P w' = .ok old.toArray w') → sCap < sLen + n → small (sLen + n) bytes = true →
   r = .slc (some (aw.nx, 0)) (sLen + n) (.upto sz (sLen + n)) → aw' = aw.add (.cells (lold ++ new) e true) → ∃ E' w' v, E.Le E' ∧ Rel E' aw' w' ∧ S.run P w = .ok v w' ∧ VRel E' r v := by
  intro old lold hold hlo hrun hlt hsm e1 e2
  obtain ⟨s1, s2⟩ := small_inv hsm
  obtain ⟨cap, rest, h1, h2, h3⟩ := hmore old hrun hlt s1 s2
  obtain ⟨L, hb, h0, ht, hle, hR', hn⟩ := rel_allocOpen (w1 := w.drew) (rest := rest) (e := e) hR rfl ⟨rfl, rfl⟩ (LRel.append hold hnew)
  have hol := hold.length
  refine ⟨E.put L, _, .slice (some ⟨L.block, 0, none⟩) (sLen + n) cap, hle, e2 ▸ hR', ?_, ?_⟩
  ·rw [h3, hb]
   simp
  ·rw [e1]
   refine .slcUp hn h1 h1 (.inr ⟨by rw [h0], ?_⟩)
   rw [h0, ht, h2]
   simp only [List.length_append]
   rw [← hol, ← hvl, hlo, hnl, ← Nat.add_mul, Nat.zero_add, ← Nat.add_mul]
   exact Nat.mul_le_mul_right _ (by omega)
 unfold xappend at h
 split at h
 ·
  cases hs
  cases hn0 : Nat.beq n 0 with
  | true =>
   simp only [hn0, cond_true, sI, pmi] at h
   obtain ⟨rfl, rfl⟩ := h
   have := nbt hn0; subst this
   exact ⟨E, w, .slice none 0 0, .refl E, hR, by rw [hfit (by omega)]; rfl, .nilSlc⟩
  | false =>
   simp only [hn0, cond_false] at h
   have hn0 := ne_of_beq hn0
   cases hsm : small n bytes <;> simp only [hsm, cond_true, cond_false, reduceCtorEq, sI, pmi] at h
   obtain ⟨rfl, rfl⟩ := h
   exact grow [] [] .nil (by simp) (fun w' _ => rfl) (by omega) (by simpa using hsm) (by simp) (by simp)
 ·
  rename_i id of len cc
  obtain ⟨L, ad, hv, hL, hd⟩ := slcKn_inv hs
  injection hv with hv1 hv2 hv3
  subst hv1; subst hv2; subst hv3
  cases hfc : Nat.ble (sLen + n) sCap with
  | true =>
   simp only [hfc, cond_true] at h
   have hle := nbl hfc
   cases hn0 : Nat.beq n 0 with
   | true =>
    simp only [hn0, cond_true, sI, pmi] at h
    obtain ⟨rfl, rfl⟩ := h
    have := nbt hn0; subst this
    have : vs = [] := by rw [hnl] at hvl; simp at hvl; exact List.length_eq_zero_iff.1 hvl.symm
    subst this
    exact ⟨E, w, .slice (some ad) sLen sCap, .refl E, hR, by rw [hfit hle]; rfl, hs⟩
   | false =>
    simp only [hn0, cond_false] at h
    have hn0 := ne_of_beq hn0
    split at h
    ·rename_i l e' opn hg
     cases hq : (Nat.ble (of + (sLen + n) * sz) l.length && allOne new) <;> simp only [hq, cond_true, cond_false, reduceCtorEq, sI, pmi] at h
     obtain ⟨rfl, rfl⟩ := h
     simp only [Bool.and_eq_true] at hq
     have q1 := nbl hq.1
     have hd := hd.resolve_left (by omega)
     subst hd
     have q2 : (sLen + n) * sz = sLen * sz + n * sz := Nat.add_mul _ _ _
     obtain ⟨w', hrun, hR'⟩ := store_cells (P := P) (o := of + sLen * sz) hR hL hg hnew hq.2 (by omega)
     refine ⟨E, w', .slice (some ⟨L.block, L.base + of, none⟩) (sLen + n) sCap, .refl E, hR', ?_, .slc hL (.inr rfl)⟩
     rw [hfit hle]
     simp only [add_eq]
     rw [Nat.add_assoc, hrun]
     rfl
    ·cases h
  | false =>
   simp only [hfc, cond_false] at h
   have hgt : sCap < sLen + n := by
    rcases Nat.lt_or_ge sCap (sLen + n) with h' | h'
    ·exact h'
    ·rw [Nat.ble_eq_true_of_le h'] at hfc; cases hfc
   cases hsm : small (sLen + n) bytes <;> simp only [hsm, cond_true, cond_false, reduceCtorEq] at h
   split at h
   ·rename_i lold hold
    simp at h; obtain ⟨rfl, rfl⟩ := h
    obtain ⟨old, hrun, hrel, hll, _⟩ := xcells_sound (P := P) hold hR hs
    exact grow old lold hrel hll hrun hgt hsm rfl rfl
   ·cases h
 ·
  rename_i id of len sz' lo
  obtain ⟨L, ad, cap, hv, hL, hl, hlo, hd⟩ := slcUp_inv hs
  injection hv with hv1 hv2 hv3
  subst hv1; subst hv2; subst hv3
  cases hss : Nat.beq sz sz' <;> simp only [hss, cond_true, cond_false, reduceCtorEq] at h
  have := nbt hss; subst this
  cases hfc : Nat.ble (sLen + n) lo with
  | true =>
   simp only [hfc, cond_true] at h
   have hle := nbl hfc
   cases hn0 : Nat.beq n 0 with
   | true =>
    simp only [hn0, cond_true, sI, pmi] at h
    obtain ⟨rfl, rfl⟩ := h
    have := nbt hn0; subst this
    have : vs = [] := by rw [hnl] at hvl; simp at hvl; exact List.length_eq_zero_iff.1 hvl.symm
    subst this
    exact ⟨E, w, .slice (some ad) sLen sCap, .refl E, hR, by rw [hfit (by omega)]; rfl, hs⟩
   | false =>
    simp only [hn0, cond_false] at h
    have hn0 := ne_of_beq hn0
    split at h
    ·rename_i l e' opn hg
     cases hq : (Nat.ble (of + (sLen + n) * sz) l.length && allOne new) <;> simp only [hq, cond_true, cond_false, reduceCtorEq, sI, pmi] at h
     obtain ⟨rfl, rfl⟩ := h
     simp only [Bool.and_eq_true] at hq
     have q1 := nbl hq.1
     obtain ⟨hd, hd2⟩ := hd.resolve_left (by omega)
     subst hd
     have q2 : (sLen + n) * sz = sLen * sz + n * sz := Nat.add_mul _ _ _
     obtain ⟨w', hrun, hR'⟩ := store_cells (P := P) (o := of + sLen * sz) hR hL hg hnew hq.2 (by omega)
     refine ⟨E, w', .slice (some ⟨L.block, L.base + of, none⟩) (sLen + n) sCap, .refl E, hR', ?_, .slcUp hL (by omega) hlo (.inr ⟨rfl, hd2⟩)⟩
     rw [hfit (by omega)]
     simp only [add_eq]
     rw [Nat.add_assoc, hrun]
     rfl
    ·cases h
  | false =>
   simp only [hfc, cond_false] at h
   have hgt : lo < sLen + n := by
    rcases Nat.lt_or_ge lo (sLen + n) with h' | h'
    ·exact h'
    ·rw [Nat.ble_eq_true_of_le h'] at hfc; cases hfc
   split at h
   ·rename_i l e' opn hg
    cases hq : (Nat.beq (of + sLen * sz) l.length && (Nat.beq e e' && (small (sLen + n) bytes && allOne new))) <;> simp only [hq, cond_true, cond_false, reduceCtorEq, sI, pmi] at h
    obtain ⟨rfl, rfl⟩ := h
    simp only [Bool.and_eq_true] at hq
    obtain ⟨q1, q2, q3, q4⟩ := hq
    have q1 := nbt q1
    have q2 := nbt q2
    subst q2
    have q5 : (sLen + n) * sz = sLen * sz + n * sz := Nat.add_mul _ _ _
    rcases Nat.lt_or_ge sCap (sLen + n) with hc | hc
    ·
     obtain ⟨s1, s2⟩ := small_inv q3
     have hdl : (l.drop of).length = sLen * sz := by simp; omega
     have hold : ∃ old : List Value, LRel E (l.drop of) old ∧ (∀ w', w'.heap = w.heap → (Builtin.firstCells sz sLen (.slice (some ad) sLen sCap)).run P w' = .ok old.toArray w') := by
      rcases hd with h0 | ⟨rfl, _⟩
      ·have : sLen = 0 := by omega
       subst this
       have : l.drop of = [] := List.length_eq_zero_iff.1 (by rw [hdl]; simp)
       exact ⟨[], by rw [this]; exact .nil, fun w' _ => by simp [Builtin.firstCells, loadCells, loadCellsFrom]⟩
      ·obtain ⟨L', cs, _, hL', _, g1, g2, g3, g5⟩ := hR.at (VRel.ptr (o := of) hL) hg rfl
       rw [hL] at hL'; injection hL' with hL'; subst hL'
       have htk : (l.drop of).take (sLen * sz) = l.drop of := List.take_of_length_le (by omega)
       obtain ⟨vs', hrun, hrel⟩ := load_cells (P := P) (o := of) (n := sLen * sz) g1 g5 (by rw [htk]; exact hdl)
       rw [htk] at hrel
       exact ⟨vs', hrel, fun w' hw' => by simp only [Builtin.firstCells]; exact hrun w' hw'⟩
     obtain ⟨old, hrel, hrun⟩ := hold
     obtain ⟨cap', rest, k1, k2, k3⟩ := hmore old hrun hc s1 s2
     have hRd : Rel E (aw.set id .dead) w := by
      refine ⟨hR.nx, hR.ns, fun j x hj => ?_, fun i j oi oj Li Lj hi hj li lj => ?_, hR.frame, fun i oi Li hi li ei => ?_, hR.tok.1, fun i oi Li hi li ei => ?_⟩
      rotate_left 2
      ·rcases AW.get_set hi with ⟨rfl, rfl⟩ | ⟨_, hi⟩
       ·simp [AO.live] at li
       ·exact hR.apart i oi Li hi li ei
      ·rcases AW.get_set hi with ⟨rfl, rfl⟩ | ⟨_, hi⟩
       ·simp [AO.live] at li
       ·exact hR.tok.2 i oi Li hi li ei
      ·rcases AW.get_set hj with ⟨rfl, rfl⟩ | ⟨_, hj⟩
       ·exact ⟨L, hL, trivial⟩
       ·exact hR.obj j x hj
      ·rcases AW.get_set hi with ⟨rfl, rfl⟩ | ⟨_, hi⟩
       ·simp [AO.live] at li
       ·rcases AW.get_set hj with ⟨rfl, rfl⟩ | ⟨_, hj⟩
        ·simp [AO.live] at lj
        ·exact hR.inj i j oi oj Li Lj hi hj li lj
     obtain ⟨L2, hb, h0, ht, hle, hR', hn⟩ := rel_allocOpen (w1 := w.drew) (rest := rest) (e := e) hRd rfl ⟨rfl, rfl⟩ (LRel.append hrel hnew)
     have hol := hrel.length
     refine ⟨E.put L2, _, .slice (some ⟨L2.block, 0, none⟩) (sLen + n) cap', hle, hR', ?_, ?_⟩
     ·rw [k3, hb]; simp
     ·refine .slcUp hn k1 k1 (.inr ⟨by rw [h0], ?_⟩)
      rw [h0, ht, k2]
      simp only [List.length_append]
      rw [← hol, ← hvl, hdl, hnl, ← Nat.add_mul, Nat.zero_add, ← Nat.add_mul]
      exact Nat.mul_le_mul_right _ (by omega)
    ·
     obtain ⟨rfl, hd2⟩ := hd.resolve_left (by omega)
     have hmul : (sLen + n) * sz ≤ sCap * sz := Nat.mul_le_mul_right _ hc
     obtain ⟨w', hrun, hR'⟩ := rel_inplace (P := P) (of := of) hR hg hL (by omega) hnew q4 (by omega)
     refine ⟨_, w', .slice (some ⟨L.block, L.base + of, none⟩) (sLen + n) sCap, E.put_le _, hR', ?_, ?_⟩
     ·rw [hfit hc]
      simp only [add_eq]
      rw [Nat.add_assoc, q1, hrun]
      rfl
     ·have hn := E.put_new ⟨L.block, L.base + of, L.total⟩
      rw [← hR.nx] at hn
      exact .slcUp hn hc hc (.inr ⟨rfl, by simp only [Nat.add_zero]; exact hd2⟩)
   ·cases h
 ·cases h
end
section
variable {P : Program} {o : Oper} {E : Env} {a : AAct} {ca : Act} {aw aw' : AW} {w : World} {r : AV} {c : COp}
theorem run_append_zfit {ts : Array TypeId} {ty t e : TypeId} {i : TypeInfo} {u : TypeId} {kk k : IntKind} {z : Value} {az : AV} {ba : Option Addr} {sLen sCap n : Nat} {new : List Value} (h0 : ts[0]? = some t) (h1 : ts[1]? = some u) (hu : P.underlying t = some (.slice e)) (hi : P.info? e = some i) (hd : P.underlying u = some (.int kk))
  (hz0 : zeroP P e = some (z, az)) (hn : n ≤ 140737488355328) (hb : n * i.bytes ≤ 140737488355328) (hnew : new = if n * i.size = 0 then [] else (Builtin.zeroCells z.cells n).toList) (hfit : sLen + n ≤ sCap) :
  (Builtin.append_ ts ty #[.slice ba sLen sCap, .int k (Int.ofNat n)]).run P w = ((match ba with | some a => (storeCells (a.add (sLen * i.size)) new).run P w | none => .ok () w).andThen fun _ w' => .ok (.slice ba (sLen + n) sCap) w') := by
 have hw : IntKind.i64.wrap (Int.ofNat n) = (n : Int) := i64_wrap (by omega)
 have c1 : ¬ ((n : Int) < 0) := by omega
 have hb' : (n : Int) * (i.bytes : Int) ≤ 140737488355328 := by
  have h1 := Int.ofNat_le.2 hb
  rw [Int.natCast_mul] at h1
  exact h1
 have c2 : ¬ ((n : Int) * (i.bytes : Int) > 2 ^ 48) := by
  have : (2 : Int) ^ 48 = 281474976710656 := by decide
  rw [this]; omega
 simp only [Builtin.append_, h0, h1, Sem.run_bind, run_underlying hu, run_sizeOf' hi, run_underlying hd, Result.andThen_ok, Sem.run_pure, List.getElem?_toArray, List.getElem?_cons_zero, List.getElem?_cons_succ, if_true, asInt, asIntOf, hw, c1, if_false, typeInfo, run_program, hi, c2, Int.toNat_natCast, hfit, Bool.not_true, Bool.false_eq_true]
 by_cases hq : n * i.size = 0
 ·simp only [hq, if_true, Sem.run_pure, Result.andThen_ok] at hnew ⊢
  subst hnew
  cases ba <;> simp
 ·simp only [hq, if_false, Sem.run_bind, run_zeroValue' hz0, Sem.run_pure, Result.andThen_ok] at hnew ⊢
  subst hnew
  cases ba <;> simp
theorem run_append_zmore {ts : Array TypeId} {ty t e : TypeId} {i : TypeInfo} {u : TypeId} {kk k : IntKind} {z : Value} {az : AV} {ba : Option Addr} {sLen sCap n : Nat} {new old : List Value} (h0 : ts[0]? = some t) (h1 : ts[1]? = some u) (hu : P.underlying t = some (.slice e)) (hi : P.info? e = some i) (hd : P.underlying u = some (.int kk))
  (hz0 : zeroP P e = some (z, az)) (hn : n ≤ 140737488355328) (hnew : new = if n * i.size = 0 then [] else (Builtin.zeroCells z.cells n).toList) (hold : ∀ w', w'.heap = w.heap → (Builtin.firstCells i.size sLen (.slice ba sLen sCap)).run P w' = .ok old.toArray w')
  (hgrow : sCap < sLen + n) (hs1 : sLen + n ≤ 140737488355328) (hs2 : (sLen + n) * i.bytes ≤ 140737488355328) :
  ∃ cap, sLen + n ≤ cap ∧ (Builtin.append_ ts ty #[.slice ba sLen sCap, .int k (Int.ofNat n)]).run P w = .ok (.slice (some ⟨w.heap.size, 0, none⟩) (sLen + n) cap) ((w.drew).alloc (.cells (old.toArray ++ new.toArray ++ Builtin.zeroCells z.cells (cap - (sLen + n))) e (0, 0))) := by
 have hw : IntKind.i64.wrap (Int.ofNat n) = (n : Int) := i64_wrap (by omega)
 have hw' : IntKind.i64.wrap (n : Int) = (n : Int) := hw
 have c1 : ¬ ((n : Int) < 0) := by omega
 have hb : n * i.bytes ≤ 140737488355328 := Nat.le_trans (Nat.mul_le_mul_right _ (by omega)) hs2
 have hb' : (n : Int) * (i.bytes : Int) ≤ 140737488355328 := by
  have h1 := Int.ofNat_le.2 hb
  rw [Int.natCast_mul] at h1
  exact h1
 have c2 : ¬ (281474976710656 < (n : Int) * (i.bytes : Int)) := by omega
 have hc := growslice_fits (bytes := i.bytes) hgrow hs2
 have hn : ¬ (sLen + n ≤ sCap) := by omega
 have h63' : ¬ (9223372036854775807 < ((sLen : Int) + (n : Int))) := by omega
 have h48' : ¬ (281474976710656 < Builtin.nextslicecap (sLen + n) sCap * i.bytes) := by omega
 refine ⟨(Question.appendCap (sLen + n) sCap e).cut (w.tape w.drawn (.appendCap (sLen + n) sCap e)), by simp [Question.cut], ?_⟩
 by_cases hq : n * i.size = 0
 ·rw [if_pos hq] at hnew; subst hnew
  simp [Builtin.append_, h0, h1, run_underlying hu, run_underlying hd, run_sizeOf' hi, typeInfo, hi, asInt, asIntOf, hw, hw', c1, c2, hn, h63', h48', Question.forced, hold w.drew rfl, hq, run_zeroValue' hz0, newRow]
  try (congr 2; apply Array.ext'; simp [List.append_assoc])
 ·rw [if_neg hq] at hnew; subst hnew
  simp [Builtin.append_, h0, h1, run_underlying hu, run_underlying hd, run_sizeOf' hi, typeInfo, hi, asInt, asIntOf, hw, hw', c1, c2, hn, h63', h48', Question.forced, hold w.drew rfl, hq, run_zeroValue' hz0, newRow]
  try (congr 2; apply Array.ext'; simp [List.append_assoc])
end
section
variable {P : Program} {o : Oper} {E : Env} {a : AAct} {ca : Act} {aw aw' : AW} {w : World} {r : AV} {c : COp}
theorem toList_one {xs : Array Operand} {x : Operand} (h : xs.toList = [x]) : xs = #[x] := Array.toList_inj.1 h
theorem toList_two {xs : Array Operand} {x y : Operand} (h : xs.toList = [x, y]) : xs = #[x, y] := Array.toList_inj.1 h
theorem y_len {args : Array Operand} {ts : Array TypeId} (ho : o.op = .call { callee := .builtin .len, args, argTypes := ts }) (hc : cBuiltin P .len ts args.toList = some c) (h : xop a.tmps aw c = some (r, aw')) (hA : ActRel E a ca) (hR : Rel E aw w) : Yes P o E ca w r aw' := by
 unfold cBuiltin at hc
 split at hc <;> (try (cases hc; done)) <;> rename_i hb ha <;> (try (cases hb; done))
 have := toList_one ha; subst this
 rename_i x
 split at hc <;> (try (cases hc; done))
 rename_i t ht
 split at hc <;> (try (cases hc; done))
 ·rename_i e hu
  obtain ⟨ox, hx, rfl⟩ := c1_inv hc
  simp only [xop] at h
  split at h
  ·rename_i v hv
   split at h
   ·rename_i n hn
    simp at h; obtain ⟨rfl, rfl⟩ := h
    have hr := opd_sound hA hx hv
    unfold xlen at hn
    split at hn <;> simp at hn
    rename_i bq n cq
    subst hn
    have : ∃ b cp, ca.eval x = .slice b n cp := by cases hx' : ca.eval x <;> rw [hx'] at hr <;> cases hr <;> exact ⟨_, _, rfl⟩
    obtain ⟨b, cp, hx'⟩ := this
    refine yes_value (v := .int .i64 (n : Int)) hR (by simp only [execOp, ho]; rfl) ?_ (.int _ _)
    simp [hx', Builtin.len_, ht, run_underlying hu, goInt]
   ·cases h
  ·cases h
 ·rename_i k e hu
  obtain ⟨ox, hx, rfl⟩ := c1_inv hc
  simp only [xop] at h
  split at h
  ·rename_i hv
   simp at h; obtain ⟨rfl, rfl⟩ := h
   have hr := opd_sound hA hx hv
   cases hx' : ca.eval x <;> rw [hx'] at hr <;> cases hr
   refine yes_value (v := .int .i64 (0 : Int)) hR (by simp only [execOp, ho]; rfl) ?_ (.int _ _)
   simp [hx', Builtin.len_, ht, run_underlying hu, goInt]
  ·rename_i id hv
   split at h
   ·rename_i es cl hg
    simp at h; obtain ⟨rfl, rfl⟩ := h
    have hr := opd_sound hA hx hv
    cases hx' : ca.eval x <;> rw [hx'] at hr
    all_goals (try (cases hr; done))
    rename_i m
    obtain ⟨L, ces, hL, rfl, h1, h2⟩ := map_at hR hr hg
    refine yes_value (v := .int .i64 (ces.size : Int)) hR (by simp only [execOp, ho]; rfl) ?_ (by rw [h2.get]; simp; exact .int _ _)
    simp [hx', Builtin.len_, ht, run_underlying hu, goInt, run_getObj_map h1]
   ·cases h
  ·cases h
theorem y_cap {args : Array Operand} {ts : Array TypeId} (ho : o.op = .call { callee := .builtin .cap, args, argTypes := ts }) (hc : cBuiltin P .cap ts args.toList = some c) (h : xop a.tmps aw c = some (r, aw')) (hA : ActRel E a ca) (hR : Rel E aw w) : Yes P o E ca w r aw' := by
 unfold cBuiltin at hc
 split at hc <;> (try (cases hc; done)) <;> rename_i hb ha <;> (try (cases hb; done))
 have := toList_one ha; subst this
 rename_i x
 split at hc <;> (try (cases hc; done))
 rename_i t ht
 split at hc <;> (try (cases hc; done))
 rename_i e hu
 obtain ⟨ox, hx, rfl⟩ := c1_inv hc
 simp only [xop] at h
 split at h
 ·rename_i ba ln cp hv
  simp at h; obtain ⟨rfl, rfl⟩ := h
  have hr := opd_sound hA hx hv
  have : ∃ b l, ca.eval x = .slice b l cp := by cases hx' : ca.eval x <;> rw [hx'] at hr <;> cases hr <;> exact ⟨_, _, rfl⟩
  obtain ⟨b, l, hx'⟩ := this
  refine yes_value (v := .int .i64 (cp : Int)) hR (by simp only [execOp, ho]; rfl) ?_ (.int _ _)
  simp [hx', Builtin.cap_, ht, run_underlying hu, goInt]
 ·cases h
theorem y_min {args : Array Operand} {ts : Array TypeId} (ho : o.op = .call { callee := .builtin .min, args, argTypes := ts }) (hc : cBuiltin P .min ts args.toList = some c) (h : xop a.tmps aw c = some (r, aw')) (hA : ActRel E a ca) (hR : Rel E aw w) : Yes P o E ca w r aw' := by
 unfold cBuiltin at hc
 split at hc <;> (try (cases hc; done)) <;> rename_i hb ha <;> (try (cases hb; done))
 have := toList_two ha; subst this
 rename_i x y
 obtain ⟨ox, oy, hx, hy, rfl⟩ := c2_inv hc
 simp only [xop] at h
 split at h
 ·rename_i k u hu
  split at h
  ·rename_i k' v hv
   simp at h; obtain ⟨rfl, rfl⟩ := h
   have h1 := opd_sound hA hx hu
   have h2 := opd_sound hA hy hv
   cases hx' : ca.eval x <;> rw [hx'] at h1 <;> cases h1
   cases hy' : ca.eval y <;> rw [hy'] at h2 <;> cases h2
   refine yes_value (v := .int k (if v < u then v else u)) hR (by simp only [execOp, ho]; rfl) ?_ ?_
   ·simp [hx', hy', Builtin.min_, Builtin.min2]
   ·rw [ilt_eq]; by_cases hh : v < u <;> simp [hh] <;> exact .int _ _
  ·cases h
 ·cases h
theorem y_max {args : Array Operand} {ts : Array TypeId} (ho : o.op = .call { callee := .builtin .max, args, argTypes := ts }) (hc : cBuiltin P .max ts args.toList = some c) (h : xop a.tmps aw c = some (r, aw')) (hA : ActRel E a ca) (hR : Rel E aw w) : Yes P o E ca w r aw' := by
 unfold cBuiltin at hc
 split at hc <;> (try (cases hc; done)) <;> rename_i hb ha <;> (try (cases hb; done))
 have := toList_two ha; subst this
 rename_i x y
 obtain ⟨ox, oy, hx, hy, rfl⟩ := c2_inv hc
 simp only [xop] at h
 split at h
 ·rename_i k u hu
  split at h
  ·rename_i k' v hv
   simp at h; obtain ⟨rfl, rfl⟩ := h
   have h1 := opd_sound hA hx hu
   have h2 := opd_sound hA hy hv
   cases hx' : ca.eval x <;> rw [hx'] at h1 <;> cases h1
   cases hy' : ca.eval y <;> rw [hy'] at h2 <;> cases h2
   refine yes_value (v := .int k (if u < v then v else u)) hR (by simp only [execOp, ho]; rfl) ?_ ?_
   ·simp [hx', hy', Builtin.max_, Builtin.max2]
   ·rw [ilt_eq]; by_cases hh : u < v <;> simp [hh] <;> exact .int _ _
  ·cases h
 ·cases h
theorem y_delete {args : Array Operand} {ts : Array TypeId} (ho : o.op = .call { callee := .builtin .delete, args, argTypes := ts }) (hc : cBuiltin P .delete ts args.toList = some c) (h : xop a.tmps aw c = some (r, aw')) (hA : ActRel E a ca) (hR : Rel E aw w) : Yes P o E ca w r aw' := by
 unfold cBuiltin at hc
 split at hc <;> (try (cases hc; done)) <;> rename_i hb ha <;> (try (cases hb; done))
 have := toList_two ha; subst this
 rename_i m k
 split at hc <;> (try (cases hc; done))
 rename_i t ht
 split at hc <;> (try (cases hc; done))
 rename_i kt e hu
 split at hc <;> (try (cases hc; done))
 rename_i kd hk
 obtain ⟨om, ok, hm, hk', rfl⟩ := c2_inv hc
 simp only [xop] at h
 split at h
 ·rename_i mv hmv
  split at h
  ·rename_i kk n hkv
   split at h
   ·rename_i id es clock hxm
    have hq := opd_sound hA hk' hkv
    cases hk2 : ca.eval k <;> rw [hk2] at hq <;> cases hq
    obtain ⟨hg, L, ces, hL, hb, e1, h1, h2⟩ := xmap_sound hxm hR (opd_sound hA hm hmv)
    split at h
    ·rename_i j val hf
     simp at h; obtain ⟨rfl, rfl⟩ := h
     obtain ⟨m', f, e', ej, f1, f2, _, _, _, f6⟩ := xfind_sound (kt := kt) (kd := kd) hf h2
     rw [Nat.zero_add] at ej; subst ej
     refine yes_value' (v := .tuple #[]) (.refl E) (rel_setMap (ces' := ces.eraseIdxIfInBounds j) hR hg hL hb h1 ?_) (by simp only [execOp, ho]; rfl) ?_ (.tuple .nil)
     ·rw [Array.toList_eraseIdxIfInBounds]; exact ERel.del _ h2
     ·simp [hk2, e1, Builtin.delete_, ht, run_underlying hu, run_getObj_map h1, run_checkKey_int hk _ _ ⟨kk, n, rfl⟩, run_findKey_int hk f1, run_setObj_map h1]
    ·rename_i hf
     simp at h; obtain ⟨rfl, rfl⟩ := h
     have f1 := xfind_sound (kt := kt) (kd := kd) hf h2
     refine yes_value' (v := .tuple #[]) (.refl E) (rel_setMap (ces' := ces) hR hg hL hb h1 h2) (by simp only [execOp, ho]; rfl) ?_ (.tuple .nil)
     simp [hk2, e1, Builtin.delete_, ht, run_underlying hu, run_getObj_map h1, run_checkKey_int hk _ _ ⟨kk, n, rfl⟩, run_findKey_int hk f1, run_setObj_map h1]
    ·cases h
   ·cases h
  ·cases h
 ·cases h
theorem zc_size (z : Array Value) (n : Nat) : (Builtin.zeroCells z n).size = n * z.size := by simp [Builtin.zeroCells]
theorem y_append {args : Array Operand} {ts : Array TypeId} (ho : o.op = .call { callee := .builtin .append, args, argTypes := ts }) (hc : cBuiltin P .append ts args.toList = some c) (h : xop a.tmps aw c = some (r, aw')) (hA : ActRel E a ca) (hR : Rel E aw w) : Yes P o E ca w r aw' := by
 unfold cBuiltin at hc
 split at hc <;> (try (cases hc; done)) <;> rename_i hb ha <;> (try (cases hb; done))
 have := toList_two ha; subst this
 rename_i x y
 split at hc <;> (try (cases hc; done))
 rename_i t ht
 split at hc <;> (try (cases hc; done))
 rename_i e i hs
 obtain ⟨hu, hi⟩ := sliceOf_inv hs
 split at hc <;> (try (cases hc; done))
 rename_i u ht1
 have slcx : ∀ {s : AV} {q : AV} {n new}, VRel E s (ca.eval x) → xappend aw e i.size i.bytes s n new = some (q, aw') → ∃ ba l cp, ca.eval x = .slice ba l cp := by
  intro s q n new hr hx
  unfold xappend at hx
  split at hx
  all_goals first
   | (cases hx' : ca.eval x <;> rw [hx'] at hr <;> cases hr <;> exact ⟨_, _, _, rfl⟩)
   | cases hx
 split at hc <;> (try (cases hc; done))
 ·rename_i e2 hu2
  split at hc <;> (try (cases hc; done))
  rename_i z az hz
  cases hzs : Nat.beq z.cells.size i.size <;> simp only [hzs, cond_true, cond_false, reduceCtorEq] at hc
  have hzs := nbt hzs
  obtain ⟨ox, oy, hx, hy, rfl⟩ := c2_inv hc
  simp only [xop] at h
  split at h <;> (try (cases h; done))
  rename_i s hsv
  split at h <;> (try (cases h; done))
  rename_i v hv
  split at h <;> (try (cases h; done))
  rename_i n hn
  split at h <;> (try (cases h; done))
  rename_i new hnew
  have r1 := opd_sound hA hx hsv
  have r2 := opd_sound hA hy hv
  obtain ⟨ba, l, cp, hx'⟩ := slcx r1 h
  have hyy : ∃ bb cp2, ca.eval y = .slice bb n cp2 := by
   unfold xlen at hn
   split at hn <;> simp at hn
   subst hn
   cases hy' : ca.eval y <;> rw [hy'] at r2 <;> cases r2 <;> exact ⟨_, _, rfl⟩
  obtain ⟨bb, cp2, hy'⟩ := hyy
  rw [hx'] at r1
  rw [hy'] at r2
  obtain ⟨vs, hrun, hrel, hll, _⟩ := xcells_sound (P := P) hnew hR r2
  have hlen : ∀ w' : World, (Builtin.lenOf (.slice bb n cp2)).run P w' = .ok n w' := fun w' => rfl
  obtain ⟨E', w', v', hle, hR', hS, hv'⟩ := xappend_sound (P := P) (S := Builtin.append_ ts o.type #[.slice ba l cp, .slice bb n cp2]) (bytes := i.bytes) hR r1 hrel hll
   (fun hfit => run_append_fit ht ht1 hu hi hu2 (fun k e => by cases e) (hlen w) (hrun w rfl) hfit)
   (fun old hold hlt s1 s2 => by
    obtain ⟨cap, k1, k2⟩ := run_append_more (P := P) (w := w) (ty := o.type) ht ht1 hu hi hu2 (fun k e => by cases e) hz (fun w' _ => hlen w') hrun hold hlt s1 s2
    exact ⟨cap, _, k1, by rw [zc_size, hzs], k2⟩) h
  refine yes_value' hle hR' (by simp only [execOp, ho]; rfl) ?_ hv'
  simpa [hx', hy'] using hS
 ·rename_i kk hu2
  split at hc <;> (try (cases hc; done))
  rename_i z az hz
  split at hc <;> (try (cases hc; done))
  rename_i cs hcs
  cases hzs : (Nat.beq cs.length i.size && allOne cs) <;> simp only [hzs, cond_true, cond_false, reduceCtorEq] at hc
  simp only [Bool.and_eq_true] at hzs
  have hcl := nbt hzs.1
  obtain ⟨ox, oy, hx, hy, rfl⟩ := c2_inv hc
  simp only [xop] at h
  split at h <;> (try (cases h; done))
  rename_i s hsv
  split at h <;> (try (cases h; done))
  rename_i v hv
  split at h <;> (try (cases h; done))
  rename_i n hn
  cases hnb : small n i.bytes <;> simp only [hnb, cond_true, cond_false, reduceCtorEq] at h
  obtain ⟨hnb, hnb2⟩ := small_inv hnb
  rw [hcl] at h
  have r1 := opd_sound hA hx hsv
  have r2 := opd_sound hA hy hv
  obtain ⟨ba, l, cp, hx'⟩ := slcx r1 h
  unfold xnat at hn
  split at hn <;> simp at hn
  rename_i k m
  subst hn
  cases hy' : ca.eval y <;> rw [hy'] at r2 <;> cases r2
  rw [hx'] at r1
  have hzl := (zeroP_rel hz E).cells hcs
  have hzz : z.cells.size = i.size := by have := hzl.length; simp only [Array.length_toList] at this; omega
  have hrel : LRel E (repCells cs m) (if m * i.size = 0 then [] else (Builtin.zeroCells z.cells m).toList) := by
   by_cases h0 : m * i.size = 0
   ·have : (repCells cs m) = [] := by
     have := (repCells_rel hzl m).length
     simp only [List.length_flatten, List.map_replicate, List.sum_replicate_nat, Array.length_toList, hzz, h0] at this
     exact List.length_eq_zero_iff.1 this
    rw [this, if_pos h0]; exact .nil
   ·rw [if_neg h0]
    unfold Builtin.zeroCells
    rw [range_mod z.cells (by intro e; rw [hzz] at e; rw [e] at h0; simp at h0)]
    exact repCells_rel hzl m
  have hll : (repCells cs m).length = m * i.size := by
   have := (repCells_rel hzl m).length
   simp only [List.length_flatten, List.map_replicate, List.sum_replicate_nat, Array.length_toList, hzz] at this
   exact this
  obtain ⟨E', w', v', hle, hR', hS, hv'⟩ := xappend_sound (P := P) (S := Builtin.append_ ts o.type #[.slice ba l cp, .int k (Int.ofNat m)]) (bytes := i.bytes) hR r1 hrel hll
   (fun hfit => run_append_zfit ht ht1 hu hi hu2 hz hnb hnb2 rfl hfit)
   (fun old hold hlt s1 s2 => by
    obtain ⟨cap, k1, k2⟩ := run_append_zmore (P := P) (w := w) (ty := o.type) (k := k) ht ht1 hu hi hu2 hz hnb rfl hold hlt s1 s2
    exact ⟨cap, _, k1, by rw [zc_size, hzz], k2⟩) h
  refine yes_value' hle hR' (by simp only [execOp, ho]; rfl) ?_ hv'
  simpa [hx', hy'] using hS
theorem y_copy {args : Array Operand} {ts : Array TypeId} (ho : o.op = .call { callee := .builtin .copy, args, argTypes := ts }) (hc : cBuiltin P .copy ts args.toList = some c) (h : xop a.tmps aw c = some (r, aw')) (hA : ActRel E a ca) (hR : Rel E aw w) : Yes P o E ca w r aw' := by
 unfold cBuiltin at hc
 split at hc <;> (try (cases hc; done)) <;> rename_i hb ha <;> (try (cases hb; done))
 have := toList_two ha; subst this
 rename_i x y
 split at hc <;> (try (cases hc; done))
 rename_i t ht
 split at hc <;> (try (cases hc; done))
 rename_i e i hs
 obtain ⟨hu, hi⟩ := sliceOf_inv hs
 obtain ⟨ox, oy, hx, hy, rfl⟩ := c2_inv hc
 simp only [xop] at h
 split at h <;> (try (cases h; done))
 rename_i b len cap hsv
 split at h <;> (try (cases h; done))
 rename_i v hv
 split at h <;> (try (cases h; done))
 rename_i m hm
 split at h <;> (try (cases h; done))
 rename_i cs hcs
 have r1 := opd_sound hA hx hsv
 have r2 := opd_sound hA hy hv
 have hxx : ∃ ba cp, ca.eval x = .slice ba len cp ∧ VRel E (.slc b len cap) (.slice ba len cp) := by
  cases hx' : ca.eval x <;> rw [hx'] at r1
  all_goals (try (cases r1; done))
  have r1' := r1
  cases r1 <;> exact ⟨_, _, rfl, r1'⟩
 obtain ⟨ba, cp, hx', r1'⟩ := hxx
 have hyy : ∃ bb cp2, ca.eval y = .slice bb m cp2 := by
  unfold xlen at hm
  split at hm <;> simp at hm
  subst hm
  cases hy' : ca.eval y <;> rw [hy'] at r2 <;> cases r2 <;> exact ⟨_, _, rfl⟩
 obtain ⟨bb, cp2, hy'⟩ := hyy
 rw [hy'] at r2
 obtain ⟨vs, hrun, hrel, hll, _⟩ := xcells_sound (P := P) hcs hR r2
 have hbase : (Builtin.copy_ ts o.type #[.slice ba len cp, .slice bb m cp2]).run P w = ((match ba with | some a => (storeCells a vs).run P w | none => .ok () w).andThen fun _ w' => .ok (goInt (Nat.min m len)) w') := by
  simp only [Builtin.copy_, ht, Sem.run_bind, run_underlying hu, Result.andThen_ok, Builtin.lenOf, Sem.run_pure, run_sizeOf' hi, hrun w rfl, List.getElem?_toArray, List.getElem?_cons_zero, List.getElem?_cons_succ]
  cases ba <;> simp
 split at h
 ·simp at h; obtain ⟨rfl, rfl⟩ := h
  cases r1'
  refine yes_value (v := .int .i64 (Nat.min m 0 : Int)) hR (by simp only [execOp, ho]; rfl) ?_ (.int _ _)
  have := hbase
  simpa [hx', hy', goInt] using this
 ·rename_i id of
  cases hz : Nat.beq (Nat.min m len) 0 with
  | true =>
   simp only [hz, cond_true, sI, pmi] at h
   obtain ⟨rfl, rfl⟩ := h
   have hz := nbt hz
   have hv0 : vs = [] := by
    have := hrel.length
    rw [hll, hz] at this
    simp at this
    exact List.length_eq_zero_iff.1 this.symm
   subst hv0
   refine yes_value (v := .int .i64 ((0 : Nat) : Int)) hR (by simp only [execOp, ho]; rfl) ?_ (.int _ _)
   rw [hz] at hbase
   have h2 : (match ba with | some a => (storeCells a []).run P w | none => .ok () w) = .ok () w := by cases ba <;> rfl
   rw [h2] at hbase
   simpa [hx', hy', goInt] using hbase
  | false =>
   simp only [hz, cond_false] at h
   have hz := ne_of_beq hz
   split at h <;> (try (cases h; done))
   rename_i l e' opn hg
   cases hq : (Nat.ble (of + cs.length) l.length && allOne cs) <;> simp only [hq, cond_true, cond_false, reduceCtorEq, sI, pmi] at h
   obtain ⟨rfl, rfl⟩ := h
   simp only [Bool.and_eq_true] at hq
   have hml : Nat.min m len ≤ len := Nat.min_le_right _ _
   have hex : ∃ L, E.loc[id]? = some L ∧ ba = some ⟨L.block, L.base + of, none⟩ := by
    cases r1' with
    | slc hL hd => exact ⟨_, hL, by rw [hd.resolve_left (by omega)]⟩
    | slcUp hL hl hlo hd => exact ⟨_, hL, by rw [(hd.resolve_left (by omega)).1]⟩
   obtain ⟨L, hL, rfl⟩ := hex
   obtain ⟨w', hrun2, hR'⟩ := store_cells (P := P) hR hL hg hrel hq.2 (nbl hq.1)
   refine yes_value' (v := .int .i64 ((Nat.min m len : Nat) : Int)) (.refl E) hR' (by simp only [execOp, ho]; rfl) ?_ (.int _ _)
   simp only [hrun2, Result.andThen_ok] at hbase
   simpa [hx', hy', goInt] using hbase
theorem y_clear {args : Array Operand} {ts : Array TypeId} (ho : o.op = .call { callee := .builtin .clear, args, argTypes := ts }) (hc : cBuiltin P .clear ts args.toList = some c) (h : xop a.tmps aw c = some (r, aw')) (hA : ActRel E a ca) (hR : Rel E aw w) : Yes P o E ca w r aw' := by
 unfold cBuiltin at hc
 split at hc <;> (try (cases hc; done)) <;> rename_i hb ha <;> (try (cases hb; done))
 have := toList_one ha; subst this
 rename_i x
 split at hc <;> (try (cases hc; done))
 rename_i t ht
 split at hc <;> (try (cases hc; done))
 rename_i e i hs
 obtain ⟨hu, hi⟩ := sliceOf_inv hs
 split at hc <;> (try (cases hc; done))
 rename_i z az hz
 split at hc <;> (try (cases hc; done))
 rename_i cs hcs
 obtain ⟨ox, hx, rfl⟩ := c1_inv hc
 simp only [xop] at h
 split at h <;> (try (cases h; done))
 ·rename_i ln cp hsv
  simp at h; obtain ⟨rfl, rfl⟩ := h
  have r1 := opd_sound hA hx hsv
  cases hx' : ca.eval x <;> rw [hx'] at r1 <;> cases r1
  refine yes_value (v := .tuple #[]) hR (by simp only [execOp, ho]; rfl) ?_ (.tuple .nil)
  simp [hx', Builtin.clear_, ht, run_underlying hu]
 ·rename_i id of len cp hsv
  have r1 := opd_sound hA hx hsv
  have hxx : ∃ ad c2, ca.eval x = .slice (some ad) len c2 ∧ (len ≠ 0 → ∃ L, E.loc[id]? = some L ∧ ad = ⟨L.block, L.base + of, none⟩) := by
   cases hx' : ca.eval x <;> rw [hx'] at r1
   all_goals (try (cases r1; done))
   cases r1 with
   | slc hL hd => exact ⟨_, _, rfl, fun hn => ⟨_, hL, hd.resolve_left (by omega)⟩⟩
   | slcUp hL hl hlo hd => exact ⟨_, _, rfl, fun hn => ⟨_, hL, (hd.resolve_left (by omega)).1⟩⟩
  obtain ⟨ad, c2, hx', hL'⟩ := hxx
  cases h0 : Nat.beq len 0 with
  | true =>
   simp only [h0, cond_true, sI, pmi] at h
   obtain ⟨rfl, rfl⟩ := h
   have := nbt h0; subst this
   refine yes_value (v := .tuple #[]) hR (by simp only [execOp, ho]; rfl) ?_ (.tuple .nil)
   simp [hx', Builtin.clear_, ht, run_underlying hu]
  | false =>
   simp only [h0, cond_false] at h
   have h0 := ne_of_beq h0
   obtain ⟨L, hL, rfl⟩ := hL' h0
   split at h <;> (try (cases h; done))
   rename_i l e' opn hg
   cases hq : (Nat.ble (of + (repCells cs len).length) l.length && allOne cs) <;> simp only [hq, cond_true, cond_false, reduceCtorEq, sI, pmi] at h
   obtain ⟨rfl, rfl⟩ := h
   simp only [Bool.and_eq_true] at hq
   have hzl := (zeroP_rel hz E).cells hcs
   have hrel : LRel E (repCells cs len) (Builtin.zeroCells z.cells len).toList := by
    unfold Builtin.zeroCells
    by_cases hzz : z.cells.size = 0
    ·have : z.cells = #[] := Array.size_eq_zero_iff.1 hzz
     have hz2 := repCells_rel hzl len
     rw [this] at hz2 ⊢
     simpa [Array.range_zero'] using hz2
    ·rw [range_mod z.cells hzz]
     exact repCells_rel hzl len
   have hone : ∀ n, allOne (repCells cs n) = true := by
    have happ : ∀ l m, allOne l = true → allOne m = true → allOne (l ++ m) = true := by
     intro l
     induction l with
     | nil => intro m _ hm; exact hm
     | cons a l ih =>
      intro m hl hm
      simp only [allOne] at hl
      cases ha : a.one <;> simp [ha] at hl
      simp only [List.cons_append, allOne, ha, cond_true]
      exact ih m hl hm
    intro n
    induction n with
    | zero => rfl
    | succ n ih => exact happ _ _ hq.2 ih
   obtain ⟨w', hrun2, hR'⟩ := store_cells (P := P) hR hL hg hrel (hone len) (nbl hq.1)
   refine yes_value' (v := .tuple #[]) (.refl E) hR' (by simp only [execOp, ho]; rfl) ?_ (.tuple .nil)
   have : ∃ n, len = n + 1 := ⟨len - 1, by omega⟩
   obtain ⟨n, rfl⟩ := this
   simp [hx', Builtin.clear_, ht, run_underlying hu, run_zeroValue' hz, hrun2]
end
theorem op_sound {P : Program} {o : Oper} {E : Env} {a : AAct} {ca : Act} {aw aw' : AW} {w : World} {r : AV} {c : COp}
  (hc : cOp P o = some c) (h : xop a.tmps aw c = some (r, aw')) (hA : ActRel E a ca) (hR : Rel E aw w) : Yes P o E ca w r aw' := by
 cases ho : o.op with
 | move x => exact y_mv (.inl ho) hc h hA hR
 | assign x => exact y_mv (.inr ho) hc h hA hR
 | pick c a b => exact y_pick ho hc h hA hR
 | alloc t => exact y_alloc ho hc h hA hR
 | box t x => exact y_box ho hc h hA hR
 | build t ps => exact y_build ho hc h hA hR
 | buildSlice t n ps => exact y_buildSlice ho hc h hA hR
 | insert t m k v => exact y_mapset (.inr ho) hc h hA hR
 | load t x => exact y_load ho hc h hA hR
 | store t x y => exact y_store ho hc h hA hR
 | ready g => simp [cOp, ho] at hc
 | waits g => simp [cOp, ho] at hc
 | nilCheck x => exact y_nilCheck ho hc h hA hR
 | binOp op t x y u => exact y_binOp ho hc h hA hR
 | unOp op t x => exact y_bnot ho hc h hA hR
 | convert s d x =>
  by_cases hb : ∃ x, c = .b2s x
  ·obtain ⟨ox, rfl⟩ := hb
   exact y_b2s ho hc h hA hR
  ·by_cases hb2 : ∃ x, c = .s2s x
   ·obtain ⟨ox, rfl⟩ := hb2
    exact y_s2s ho hc h hA hR
   ·exact y_convert ho hc h hA hR fun x => ⟨fun e => hb ⟨x, e⟩, fun e => hb2 ⟨x, e⟩⟩
 | sliceToArrayPointer d x => simp [cOp, ho] at hc
 | makeInterface t x => exact y_makeInterface ho hc h hA hR
 | makeFunc fn x y => exact y_makeFunc ho hc h hA hR
 | makeMap t r => exact y_makeMap ho hc h hA hR
 | makeChan t x => simp [cOp, ho] at hc
 | makeSlice t x y => exact y_makeSlice ho hc h hA hR
 | slice t x lo hi mx => exact y_slice ho hc h hA hR
 | fieldAddr t x f => exact y_fieldAddr ho hc h hA hR
 | field t x f => exact y_field ho hc h hA hR
 | indexAddr t x y => exact y_indexAddr ho hc h hA hR
 | index t x y => exact y_index ho hc h hA hR
 | lookup t m k ok => exact y_lookup ho hc h hA hR
 | mapUpdate t m k v => exact y_mapset (.inl ho) hc h hA hR
 | mapEntry t m k => simp [cOp, ho] at hc
 | entryStore t m k v => simp [cOp, ho] at hc
 | range t m => exact y_range ho hc h hA hR
 | next it b => exact y_next ho hc h hA hR
 | entry it => exact y_entry ho hc h hA hR
 | typeAssert x u t ok => exact y_typeAssert ho hc h hA hR
 | extract x i => exact y_extract ho hc h hA hR
 | go c => simp [cOp, ho] at hc
 | defer c => simp [cOp, ho] at hc
 | panic x => simp [cOp, ho] at hc
 | send x y => simp [cOp, ho] at hc
 | recv t x ok => simp [cOp, ho] at hc
 | select cs b => simp [cOp, ho] at hc
 | call cl =>
  obtain ⟨callee, args, ts⟩ := cl
  cases callee with
  | value f => simp [cOp, ho] at hc
  | invoke r m => simp [cOp, ho] at hc
  | builtin b =>
   have hc' : cBuiltin P b ts args.toList = some c := by simpa only [cOp, ho] using hc
   cases b with
   | len => exact y_len ho hc' h hA hR
   | cap => exact y_cap ho hc' h hA hR
   | append => exact y_append ho hc' h hA hR
   | copy => exact y_copy ho hc' h hA hR
   | clear => exact y_clear ho hc' h hA hR
   | delete => exact y_delete ho hc' h hA hR
   | min => exact y_min ho hc' h hA hR
   | max => exact y_max ho hc' h hA hR
   | _ => (unfold cBuiltin at hc'; split at hc' <;> (try (cases hc'; done)) <;> rename_i hb ha <;> cases hb)
end Go.Proofs.YtbilacojhmohmaaGreat.Ae
end
