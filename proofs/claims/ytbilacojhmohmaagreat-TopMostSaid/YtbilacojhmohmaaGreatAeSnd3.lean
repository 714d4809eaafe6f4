/- The evaluator's operations are sound: comparisons, conversions, lengths. No condition. -/
import Derived.Test.YtbilacojhmohmaaGreatAeSnd2
import Derived.Laws.Strings
namespace Go.Proofs.YtbilacojhmohmaaGreat.Ae
open Go
set_option linter.unusedVariables false
set_option linter.unusedSimpArgs false

section
variable {P : Program} {o : Oper} {E : Env} {a : AAct} {ca : Act} {aw aw' : AW} {w : World} {r : AV} {c : COp}

theorem sameBytes_sound : ∀ {u v : List AV} {x y : List UInt8} {b : Bool}, sameBytes u v = some b → LRel E u (x.map fun b => .int .u8 (b.toNat : Int)) → LRel E v (y.map fun b => .int .u8 (b.toNat : Int)) → (x == y) = b
  | [], [], x, y, b, h, hx, hy => by
    have h1 := hx.length; have h2 := hy.length
    simp at h1 h2
    have e1 := List.length_eq_zero_iff.1 h1.symm
    have e2 := List.length_eq_zero_iff.1 h2.symm
    subst e1; subst e2
    simp [sameBytes] at h; subst h; rfl
  | [], _ :: _, x, y, b, h, hx, hy => by
    have h1 := hx.length; have h2 := hy.length
    simp at h1 h2
    have e1 := List.length_eq_zero_iff.1 h1.symm
    subst e1
    simp [sameBytes] at h; subst h
    cases y with
    | nil => simp at h2
    | cons _ _ => rfl
  | _ :: _, [], x, y, b, h, hx, hy => by
    have h1 := hx.length; have h2 := hy.length
    simp at h1 h2
    have e2 := List.length_eq_zero_iff.1 h2.symm
    subst e2
    simp [sameBytes] at h; subst h
    cases x with
    | nil => simp at h1
    | cons _ _ => rfl
  | p :: u, q :: v, [], y, b, h, hx, hy => by have := hx.length; simp at this
  | p :: u, q :: v, _ :: _, [], b, h, hx, hy => by have := hy.length; simp at this
  | p :: u, q :: v, x0 :: x, y0 :: y, b, h, hx, hy => by
    simp only [List.map_cons] at hx hy
    cases hx with
    | cons hp hu =>
      cases hy with
      | cons hq hv =>
        have inj : ∀ {m n : UInt8}, (m.toNat : Int) = (n.toNat : Int) → m = n := fun e => UInt8.toNat_inj.1 (by omega)
        cases p <;> cases q <;> simp only [sameBytes, reduceCtorEq] at h
        · cases hp; cases hq
          rw [ieq_eq] at h
          split at h
          · rename_i r hr
            have ih := sameBytes_sound hr hu hv
            simp at h; subst h
            simp only [List.cons_beq_cons, ih]
            congr 1
            rw [Bool.eq_iff_iff]
            simp
            constructor
            · rintro rfl; rfl
            · exact fun e => inj (by exact_mod_cast e)
          · cases he : ((x0.toNat : Int) == (y0.toNat : Int)) <;> simp only [he, cond_true, cond_false, reduceCtorEq, Option.some.injEq] at h
            subst h
            simp at he
            simp [List.cons_beq_cons]
            intro e; subst e; exact (he rfl).elim
        · rename_i k i k' j
          cases hij : Nat.beq i j <;> simp only [hij, cond_true, cond_false, reduceCtorEq] at h
          have := Nat.eq_of_beq_eq_true hij; subst this
          have ih := sameBytes_sound h hu hv
          cases hp with
          | sym _ h1 _ =>
            cases hq with
            | sym _ h2 _ =>
              rw [h1] at h2; injection h2 with h2
              have := inj h2; subst this
              simp [List.cons_beq_cons, ih]

theorem y_binOp {op : BinOp} {t u : TypeId} {x y : Operand} (ho : o.op = .binOp op t x y u) (hc : cOp P o = some c) (h : xop a.tmps aw c = some (r, aw')) (hA : ActRel E a ca) (hR : Rel E aw w) : Yes P o E ca w r aw' := by
  simp only [cOp, ho] at hc
  split at hc
  · -- whole numbers
    have hcc : ∃ sh, (sh = true → op = .shl ∨ op = .shr) ∧ c2 (.bin op sh) x y = some c := by
      split at hc
      · exact ⟨true, fun _ => .inl rfl, hc⟩
      · exact ⟨true, fun _ => .inr rfl, hc⟩
      · exact ⟨false, fun e => Bool.noConfusion e, hc⟩
    obtain ⟨sh, hsh, hcc⟩ := hcc
    obtain ⟨ox, oy, hx, hy, rfl⟩ := c2_inv hcc
    simp only [xop] at h
    split at h
    · rename_i p hp
      split at h
      · rename_i q hq
        split at h
        · rename_i v hv
          simp at h; obtain ⟨rfl, rfl⟩ := h
          have h1 := opd_sound hA hx hp
          have h2 := opd_sound hA hy hq
          obtain ⟨res, hrun, hrel⟩ := xbin_sound (P := P) (w := w) hsh hv h1 h2 t
          refine yes_value (v := res) hR (by simp only [execOp, ho]; rfl) ?_ hrel
          have hg : eqGuard op t x y (ca.eval x) (ca.eval y) = pure () := by
            have : ∃ k n, ca.eval x = .int k n := by
              cases p <;> simp only [xbin, reduceCtorEq] at hv
              · cases hx' : ca.eval x <;> rw [hx'] at h1 <;> cases h1; exact ⟨_, _, rfl⟩
              · cases hx' : ca.eval x <;> rw [hx'] at h1 <;> cases h1; exact ⟨_, _, rfl⟩
            obtain ⟨k, n, e⟩ := this
            rw [e]; cases op <;> rfl
          simp only [hg, Sem.run_bind, Sem.run_pure, Result.andThen_ok, hrun]
        · cases h
      · cases h
    · cases h
  · -- truth values
    rename_i hu
    have hcc : ∃ neg, (op = .eql ∧ neg = false ∨ op = .neq ∧ neg = true) ∧ c2 (.beq neg) x y = some c := by
      split at hc
      · exact ⟨false, .inl ⟨rfl, rfl⟩, hc⟩
      · exact ⟨true, .inr ⟨rfl, rfl⟩, hc⟩
      · cases hc
    obtain ⟨neg, hneg, hcc⟩ := hcc
    obtain ⟨ox, oy, hx, hy, rfl⟩ := c2_inv hcc
    simp only [xop] at h
    split at h
    · rename_i p hp
      split at h
      · rename_i q hq
        simp at h; obtain ⟨rfl, rfl⟩ := h
        have h1 := opd_sound hA hx hp
        have h2 := opd_sound hA hy hq
        cases hx' : ca.eval x <;> rw [hx'] at h1 <;> cases h1
        cases hy' : ca.eval y <;> rw [hy'] at h2 <;> cases h2
        refine yes_value (v := .bool (bif neg then !(p == q) else p == q)) hR (by simp only [execOp, ho]; rfl) ?_ (.bool _)
        rcases hneg with ⟨rfl, rfl⟩ | ⟨rfl, rfl⟩
        · simp [hx', hy', eqGuard_at_bool, run_eql_bool w t p q hu]
        · simp [hx', hy', eqGuard_at_bool, run_neq_bool w t p q hu]
      · cases h
    · cases h
  · -- strings
    rename_i hu
    have hcc : ∃ neg, (op = .eql ∧ neg = false ∨ op = .neq ∧ neg = true) ∧ c2 (.seq neg) x y = some c := by
      split at hc
      · exact ⟨false, .inl ⟨rfl, rfl⟩, hc⟩
      · exact ⟨true, .inr ⟨rfl, rfl⟩, hc⟩
      · cases hc
    obtain ⟨neg, hneg, hcc⟩ := hcc
    obtain ⟨ox, oy, hx, hy, rfl⟩ := c2_inv hcc
    simp only [xop] at h
    split at h
    · rename_i p hp
      split at h
      · rename_i q hq
        split at h
        · rename_i b hb
          simp at h; obtain ⟨rfl, rfl⟩ := h
          have h1 := opd_sound hA hx hp
          have h2 := opd_sound hA hy hq
          cases hx' : ca.eval x <;> rw [hx'] at h1 <;> cases h1
          rename_i s1 l1
          cases hy' : ca.eval y <;> rw [hy'] at h2 <;> cases h2
          rename_i s2 l2
          have hs := sameBytes_sound hb l1 l2
          rw [← ByteArray.toList_eq, ← ByteArray.toList_eq] at hs
          refine yes_value (v := .bool (bif neg then !b else b)) hR (by simp only [execOp, ho]; rfl) ?_ (.bool _)
          rcases hneg with ⟨rfl, rfl⟩ | ⟨rfl, rfl⟩
          · simp only [hx', hy', eqGuard_at_string, binOp, Op.stringOp, Sem.run_bind, Sem.run_pure, Result.andThen_ok, cond_false]
            rw [hs]
          · simp only [hx', hy', eqGuard_at_string, binOp, Op.stringOp, Sem.run_bind, Sem.run_pure, Result.andThen_ok, cond_true]
            rw [hs]
        · cases h
      · cases h
    · cases h
  · -- nil
    rename_i d h1 h2 h3 hu
    split at hc
    · rename_i kd hk
      have hcc : ∃ neg, (op = .eql ∧ neg = false ∨ op = .neq ∧ neg = true) ∧ c1 (.nileq kd neg) x = some c := by
        split at hc
        · exact ⟨false, .inl ⟨rfl, rfl⟩, hc⟩
        · exact ⟨true, .inr ⟨rfl, rfl⟩, hc⟩
        · cases hc
      obtain ⟨neg, hneg, hcc⟩ := hcc
      obtain ⟨ox, hx, rfl⟩ := c1_inv hcc
      simp only [xop] at h
      split at h
      · rename_i p hp
        split at h
        · rename_i b hb
          simp at h; obtain ⟨rfl, rfl⟩ := h
          have hv := opd_sound hA hx hp
          have heq := nil_equal (ca := ca) (w := w) hu hk hb hv
          obtain ⟨e1, e2, e3⟩ := nil_not_int (ca := ca) hk hb hv t
          refine yes_value (v := .bool (bif neg then !b else b)) hR (by simp only [execOp, ho]; rfl) ?_ (.bool _)
          rcases hneg with ⟨rfl, rfl⟩ | ⟨rfl, rfl⟩
          · simp [e1, e3, heq]
          · simp [e2, e3, heq]
        · cases h
      · cases h
    · cases hc
  · cases hc

theorem y_makeMap {t : TypeId} {hint : Option Operand} (ho : o.op = .makeMap t hint) (hc : cOp P o = some c) (h : xop a.tmps aw c = some (r, aw')) (hA : ActRel E a ca) (hR : Rel E aw w) : Yes P o E ca w r aw' := by
  cases hint with
  | some x => simp [cOp, ho] at hc
  | none =>
    simp only [cOp, ho, Option.some.injEq] at hc
    subst hc
    simp only [xop, Option.some.injEq, Prod.mk.injEq] at h
    obtain ⟨rfl, rfl⟩ := h
    let L : Loc := ⟨w.heap.size, 0, 0⟩
    have hR' : Rel (E.put L) (aw.add (.map [] 0)) (w.alloc (.map #[] 0)) := hR.add ⟨rfl, rfl⟩ (fun b hb => by
      show (w.heap.push _)[b]? = _
      rw [Array.getElem?_push, if_neg (Nat.ne_of_lt hb)]) (Nat.le_refl _) ⟨rfl, #[], by show (w.heap.push _)[w.heap.size]? = _; simp, .nil⟩
    refine yes_value' (v := .map (some w.heap.size)) (E.put_le L) hR' (by simp only [execOp, ho]; rfl) ?_ (.map (L := L) (hR.nx ▸ E.put_new L) rfl)
    simp [Instr.makeMap]

theorem y_typeAssert {x : Operand} {t u : TypeId} {ok : Bool} (ho : o.op = .typeAssert x u t ok) (hc : cOp P o = some c) (h : xop a.tmps aw c = some (r, aw')) (hA : ActRel E a ca) (hR : Rel E aw w) : Yes P o E ca w r aw' := by
  cases ok with
  | false => simp [cOp, ho] at hc
  | true =>
    simp only [cOp, ho] at hc
    split at hc
    · cases hc
    · rename_i d hni hd
      split at hc
      · rename_i z az hz
        split at hc
        · rename_i ox hx
          simp at hc; subst hc
          simp only [xop] at h
          split at h
          · rename_i t' v hv
            have hr := opd_sound hA hx hv
            cases hx' : ca.eval x <;> rw [hx'] at hr <;> cases hr
            rename_i v' hv'
            cases ht : Nat.beq t t' <;> simp only [ht, cond_true, cond_false, Option.some.injEq, Prod.mk.injEq] at h
            · obtain ⟨rfl, rfl⟩ := h
              have hne : ¬ t' = t := fun e => ne_of_beq ht e.symm
              refine yes_value (v := .tuple #[z, .bool false]) hR (by simp only [execOp, ho]; rfl) ?_ (.tuple (.cons (zeroP_rel hz E) (.cons (.bool _) .nil)))
              simp only [hx', Instr.typeAssert, Sem.run_bind, run_underlying hd, Result.andThen_ok]
              simp [hne, run_zeroValue' hz]
            · obtain ⟨rfl, rfl⟩ := h
              have he := Nat.eq_of_beq_eq_true ht
              refine yes_value (v := .tuple #[v', .bool true]) hR (by simp only [execOp, ho]; rfl) ?_ (.tuple (.cons hv' (.cons (.bool _) .nil)))
              simp only [hx', Instr.typeAssert, Sem.run_bind, run_underlying hd, Result.andThen_ok]
              simp [he]
          · cases h
        · cases hc
      · cases hc
    · cases hc
end
end Go.Proofs.YtbilacojhmohmaaGreat.Ae
