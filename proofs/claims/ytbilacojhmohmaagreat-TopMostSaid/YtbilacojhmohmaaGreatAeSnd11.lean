/- The evaluator's operations are sound: what is built in. No condition. -/
import Derived.Test.YtbilacojhmohmaaGreatAeSnd10
namespace Go.Proofs.YtbilacojhmohmaaGreat.Ae
open Go
set_option linter.unusedVariables false
set_option linter.unusedSimpArgs false

section
variable {P : Program} {o : Oper} {E : Env} {a : AAct} {ca : Act} {aw aw' : AW} {w : World} {r : AV} {c : COp}

theorem run_append_zfit {ts : Array TypeId} {ty t e : TypeId} {i : TypeInfo} {u : TypeId} {kk k : IntKind} {z : Value} {az : AV} {ba : Option Addr} {sLen sCap n : Nat} {new : List Value} (h0 : ts[0]? = some t) (h1 : ts[1]? = some u) (hu : P.underlying t = some (.slice e)) (hi : P.info? e = some i) (hd : P.underlying u = some (.int kk))
    (hz0 : zeroP P e = some (z, az)) (hn : n ≤ 140737488355328) (hb : n * i.bytes ≤ 140737488355328) (hnew : new = if n * i.size = 0 then [] else (Builtin.zeroCells z.cells n).toList) (hfit : sLen + n ≤ sCap) :
    (Builtin.append_ ts ty #[.slice ba sLen sCap, .int k (Int.ofNat n)]).run P w = ((match ba with | some a => (storeCells (a.add (sLen * i.size)) new).run P w | none => .ok () w).andThen fun _ w' => .ok (.slice ba (sLen + n) sCap) w') := by
  have hw : IntKind.i64.wrap (Int.ofNat n) = (n : Int) := i64_wrap (by omega)
  have c1 : ¬ ((n : Int) < 0) := by omega
  have hb' : (n : Int) * (i.bytes : Int) ≤ 140737488355328 := by
    have h1 := Int.ofNat_le.2 hb
    rw [Int.natCast_mul] at h1
    exact h1
  have c2 : ¬ ((n : Int) * (i.bytes : Int) > 2 ^ 48) := by
    have : (2 : Int) ^ 48 = 281474976710656 := by decide
    rw [this]; omega
  simp only [Builtin.append_, h0, h1, Sem.run_bind, run_underlying hu, run_sizeOf' hi, run_underlying hd, Result.andThen_ok, Sem.run_pure, List.getElem?_toArray, List.getElem?_cons_zero, List.getElem?_cons_succ, if_true, asInt, asIntOf, hw, c1, if_false, typeInfo, run_program, hi, c2, Int.toNat_natCast, hfit, Bool.not_true, Bool.false_eq_true]
  by_cases hq : n * i.size = 0
  · simp only [hq, if_true, Sem.run_pure, Result.andThen_ok] at hnew ⊢
    subst hnew
    cases ba <;> simp
  · simp only [hq, if_false, Sem.run_bind, run_zeroValue' hz0, Sem.run_pure, Result.andThen_ok] at hnew ⊢
    subst hnew
    cases ba <;> simp
theorem run_append_zmore {ts : Array TypeId} {ty t e : TypeId} {i : TypeInfo} {u : TypeId} {kk k : IntKind} {z : Value} {az : AV} {ba : Option Addr} {sLen sCap n : Nat} {new old : List Value} (h0 : ts[0]? = some t) (h1 : ts[1]? = some u) (hu : P.underlying t = some (.slice e)) (hi : P.info? e = some i) (hd : P.underlying u = some (.int kk))
    (hz0 : zeroP P e = some (z, az)) (hn : n ≤ 140737488355328) (hnew : new = if n * i.size = 0 then [] else (Builtin.zeroCells z.cells n).toList) (hold : ∀ w', w'.heap = w.heap → (Builtin.firstCells i.size sLen (.slice ba sLen sCap)).run P w' = .ok old.toArray w')
    (hgrow : sCap < sLen + n) (hs1 : sLen + n ≤ 140737488355328) (hs2 : (sLen + n) * i.bytes ≤ 140737488355328) :
    ∃ cap, sLen + n ≤ cap ∧ (Builtin.append_ ts ty #[.slice ba sLen sCap, .int k (Int.ofNat n)]).run P w = .ok (.slice (some ⟨w.heap.size, 0, none⟩) (sLen + n) cap) ((w.drew).alloc (.cells (old.toArray ++ new.toArray ++ Builtin.zeroCells z.cells (cap - (sLen + n))) e (0, 0))) := by
  have hw : IntKind.i64.wrap (Int.ofNat n) = (n : Int) := i64_wrap (by omega)
  have hw' : IntKind.i64.wrap (n : Int) = (n : Int) := hw
  have c1 : ¬ ((n : Int) < 0) := by omega
  have hb : n * i.bytes ≤ 140737488355328 := Nat.le_trans (Nat.mul_le_mul_right _ (by omega)) hs2
  have hb' : (n : Int) * (i.bytes : Int) ≤ 140737488355328 := by
    have h1 := Int.ofNat_le.2 hb
    rw [Int.natCast_mul] at h1
    exact h1
  have c2 : ¬ (281474976710656 < (n : Int) * (i.bytes : Int)) := by omega
  have hc := growslice_fits (bytes := i.bytes) hgrow hs2
  have hn : ¬ (sLen + n ≤ sCap) := by omega
  have h63' : ¬ (9223372036854775807 < ((sLen : Int) + (n : Int))) := by omega
  have h48' : ¬ (281474976710656 < Builtin.nextslicecap (sLen + n) sCap * i.bytes) := by omega
  refine ⟨(Question.appendCap (sLen + n) sCap e).cut (w.tape w.drawn (.appendCap (sLen + n) sCap e)), by simp [Question.cut], ?_⟩
  by_cases hq : n * i.size = 0
  · rw [if_pos hq] at hnew; subst hnew
    simp [Builtin.append_, h0, h1, run_underlying hu, run_underlying hd, run_sizeOf' hi, typeInfo, hi, asInt, asIntOf, hw, hw', c1, c2, hn, h63', h48', Question.forced, hold w.drew rfl, hq, run_zeroValue' hz0, newRow]
    try (congr 2; apply Array.ext'; simp [List.append_assoc])
  · rw [if_neg hq] at hnew; subst hnew
    simp [Builtin.append_, h0, h1, run_underlying hu, run_underlying hd, run_sizeOf' hi, typeInfo, hi, asInt, asIntOf, hw, hw', c1, c2, hn, h63', h48', Question.forced, hold w.drew rfl, hq, run_zeroValue' hz0, newRow]
    try (congr 2; apply Array.ext'; simp [List.append_assoc])
end
end Go.Proofs.YtbilacojhmohmaaGreat.Ae
