/- The evaluator's operations are sound: append, copy, clear, lengths, the least and the greatest, delete. No condition. -/
import Derived.Test.YtbilacojhmohmaaGreatAeSnd8
import Derived.Laws.AppendOwn
namespace Go.Proofs.YtbilacojhmohmaaGreat.Ae
open Go
set_option linter.unusedVariables false
set_option linter.unusedSimpArgs false

section
variable {P : Program} {o : Oper} {E : Env} {a : AAct} {ca : Act} {aw aw' : AW} {w : World} {r : AV} {c : COp}

/-- what append does: no room, or room -/
theorem run_append_fit {ts : Array TypeId} {ty t e : TypeId} {i : TypeInfo} {u : TypeId} {d : TypeDesc} {x : Value} {new : List Value} {ba : Option Addr} {sLen sCap n : Nat} (h0 : ts[0]? = some t) (h1 : ts[1]? = some u) (hu : P.underlying t = some (.slice e)) (hi : P.info? e = some i) (hd : P.underlying u = some d)
    (hni : ∀ k, d ≠ .int k) (hlen : (Builtin.lenOf x).run P w = .ok n w) (hnew : (Builtin.firstCells i.size n x).run P w = .ok new.toArray w) (hfit : sLen + n ≤ sCap) :
    (Builtin.append_ ts ty #[.slice ba sLen sCap, x]).run P w = ((match ba with | some a => (storeCells (a.add (sLen * i.size)) new).run P w | none => .ok () w).andThen fun _ w' => .ok (.slice ba (sLen + n) sCap) w') := by
  have hz : (match d with | .int _ => true | _ => false) = false := by
    cases d <;> first | rfl | exact (hni _ rfl).elim
  simp only [Builtin.append_, h0, h1, Sem.run_bind, run_underlying hu, run_sizeOf' hi, run_underlying hd, Result.andThen_ok, Sem.run_pure, List.getElem?_toArray, List.getElem?_cons_zero, List.getElem?_cons_succ]
  simp only [hz, Bool.false_eq_true, if_false, hlen, Result.andThen_ok, hfit, if_true, Sem.run_bind, Bool.not_false, hnew]
  cases ba with
  | none => rfl
  | some a => simp

theorem run_append_more {ts : Array TypeId} {ty t e : TypeId} {i : TypeInfo} {u : TypeId} {d : TypeDesc} {x z : Value} {az : AV} {new old : List Value} {ba : Option Addr} {sLen sCap n : Nat} (h0 : ts[0]? = some t) (h1 : ts[1]? = some u) (hu : P.underlying t = some (.slice e)) (hi : P.info? e = some i) (hd : P.underlying u = some d)
    (hni : ∀ k, d ≠ .int k) (hz0 : zeroP P e = some (z, az)) (hlen : ∀ w', w'.heap = w.heap → (Builtin.lenOf x).run P w' = .ok n w') (hnew : ∀ w', w'.heap = w.heap → (Builtin.firstCells i.size n x).run P w' = .ok new.toArray w') (hold : ∀ w', w'.heap = w.heap → (Builtin.firstCells i.size sLen (.slice ba sLen sCap)).run P w' = .ok old.toArray w')
    (hgrow : sCap < sLen + n) (hs1 : sLen + n ≤ 140737488355328) (hs2 : (sLen + n) * i.bytes ≤ 140737488355328) :
    ∃ cap, sLen + n ≤ cap ∧ (Builtin.append_ ts ty #[.slice ba sLen sCap, x]).run P w = .ok (.slice (some ⟨w.heap.size, 0, none⟩) (sLen + n) cap) ((w.drew).alloc (.cells (old.toArray ++ new.toArray ++ Builtin.zeroCells z.cells (cap - (sLen + n))) e (0, 0))) := by
  have hz : (match d with | .int _ => true | _ => false) = false := by
    cases d <;> first | rfl | exact (hni _ rfl).elim
  have hc := growslice_fits (bytes := i.bytes) hgrow hs2
  have hn : ¬ (sLen + n ≤ sCap) := by omega
  have h63' : ¬ (9223372036854775807 < ((sLen : Int) + (n : Int))) := by omega
  have h48' : ¬ (281474976710656 < Builtin.nextslicecap (sLen + n) sCap * i.bytes) := by omega
  refine ⟨(Question.appendCap (sLen + n) sCap e).cut (w.tape w.drawn (.appendCap (sLen + n) sCap e)), by simp [Question.cut], ?_⟩
  simp [Builtin.append_, h0, h1, run_underlying hu, run_underlying hd, run_sizeOf' hi, typeInfo, hi, hz, hlen w rfl, hn, h63', h48', Question.forced, hold w.drew rfl, hnew w.drew rfl, run_zeroValue' hz0, newRow]
  congr 2
  apply Array.ext'
  simp [List.append_assoc]

theorem rel_allocOpen {cs : List Value} {rest : Array Value} {l : List AV} {e : TypeId} {w1 : World} (hR : Rel E aw w) (hw : w1.heap = w.heap) (hsm : Same w w1) (hl : LRel E l cs) :
    ∃ L, L.block = w.heap.size ∧ L.base = 0 ∧ L.total = cs.length + rest.size ∧ E.Le (E.put L) ∧ Rel (E.put L) (aw.add (.cells l e true)) (w1.alloc (.cells (cs.toArray ++ rest) e (0, 0))) ∧ (E.put L).loc[aw.nx]? = some L := by
  let L : Loc := ⟨w.heap.size, 0, cs.length + rest.size⟩
  have hR1 : Rel E aw w1 := hR.world hsm hw
  refine ⟨L, rfl, rfl, rfl, E.put_le L, hR1.add ⟨rfl, rfl⟩ (fun b hb => ?_) (by rw [hw]; exact Nat.le_refl _) ⟨cs.toArray ++ rest, (0, 0), ⟨?_, .inl rfl⟩, by simp [L], by simp [L, hl.length], (fun h => Bool.noConfusion h), fun i x hi => ?_⟩, hR.nx ▸ E.put_new L⟩
  · show (w1.heap.push _)[b]? = _
    rw [Array.getElem?_push, if_neg (Nat.ne_of_lt hb)]
  · show (w1.heap.push _)[w.heap.size]? = _
    rw [← hw]; simp
  · obtain ⟨v, hv, hr⟩ := hl.get hi
    refine ⟨v, ?_, hr.mono (E.put_le L)⟩
    have hlt := (List.getElem?_eq_some_iff.1 hv).1
    simp only [L, Nat.zero_add]
    rw [Array.getElem?_append_left (by simpa using hlt)]
    simpa using hv

theorem rel_inplace {id of : Nat} {L : Loc} {l new : List AV} {vs : List Value} {e : TypeId} {opn : Bool} (hR : Rel E aw w) (hg : aw.get id = some (.cells l e opn)) (hL : E.loc[id]? = some L) (hof : of ≤ l.length)
    (hnew : LRel E new vs) (h1 : allOne new = true) (hb : L.base + l.length + new.length ≤ L.total) :
    ∃ w', (storeCells ⟨L.block, L.base + l.length, none⟩ vs).run P w = .ok () w' ∧ Rel (E.put ⟨L.block, L.base + of, L.total⟩) ((aw.set id .dead).add (.cells (l.drop of ++ new) e true)) w' := by
  obtain ⟨L', hL', c, fz, ⟨g1, gf⟩, g2, g3, g4, g5⟩ := hR.obj id _ hg
  rw [hL] at hL'; injection hL' with hL'; subst hL'
  have hlen := hnew.length
  obtain ⟨w', c', hr, ⟨hsm, ho⟩, hsz, hh, hcs, hj⟩ := run_storeCells' (P := P) (b := L.block) (o := L.base + l.length) vs 0 w c g1 gf (by omega) (allOne_spec hnew h1)
  refine ⟨w', hr, ?_⟩
  have hle := E.put_le ⟨L.block, L.base + of, L.total⟩
  have hlive : ∀ j x, (aw.set id .dead).get j = some x → x.live = true → j ≠ id ∧ aw.get j = some x := fun j x hx lx => by
    rcases AW.get_set hx with ⟨_, rfl⟩ | h
    · simp [AO.live] at lx
    · exact h
  have hother : ∀ j x Lj, aw.get j = some x → x.live = true → j ≠ id → E.loc[j]? = some Lj → Lj.block ≠ L.block := fun j x Lj hx lx hne eL e =>
    hne (hR.inj j id x _ Lj L hx hg lx rfl eL hL e)
  refine ⟨by simp [AW.add, AW.set, Env.put, hR.nx], hsm.ns hR.ns, fun j x hx => ?_, fun i j oi oj Li Lj hi hj li lj ei ej e => ?_, fun b ob hb => ?_, fun i oi Li hi li ei => ?_⟩
  rotate_left 2
  · rw [ho b fun e => by have := hR.apart id _ L hg rfl hL; rw [e] at hb; have hb' : E.fr L.block = some ob := hb; rw [this] at hb'; cases hb']
    exact hR.frame b ob hb
  · rcases AW.get_add hi with ⟨e1, e2⟩ | ⟨_, hi⟩
    · have new : (E.put ⟨L.block, L.base + of, L.total⟩).loc[aw.nx]? = some ⟨L.block, L.base + of, L.total⟩ := hR.nx ▸ E.put_new _
      rw [e1] at ei
      have ei' : (E.put ⟨L.block, L.base + of, L.total⟩).loc[aw.nx]? = some Li := ei
      rw [new] at ei'; injection ei' with ei'; subst ei'
      exact hR.apart id _ L hg rfl hL
    · obtain ⟨_, hi2⟩ := hlive i oi hi li
      obtain ⟨L', hL', hr⟩ := hR.obj i oi hi2
      rw [hle.loc hL'] at ei; injection ei with ei; subst ei
      exact hR.apart i oi _ hi2 li hL'
  · rcases AW.get_add hx with ⟨rfl, rfl⟩ | ⟨hne, hx⟩
    · refine ⟨⟨L.block, L.base + of, L.total⟩, (by show (E.put _).loc[aw.nx]? = _; exact hR.nx ▸ E.put_new _), c', fz, ⟨hh, by rw [hcs]; exact gf⟩, by simp only; omega, by simp only [List.length_append, List.length_drop]; omega, (fun h => Bool.noConfusion h), fun i y hy => ?_⟩
      simp only
      by_cases hi : i < (l.drop of).length
      · rw [List.getElem?_append_left hi, List.getElem?_drop] at hy
        obtain ⟨v, hv, hrel⟩ := g5 _ _ hy
        refine ⟨v, ?_, hrel.mono hle⟩
        rw [hj, if_neg (by simp at hi; omega), ← hv]
        congr 1; omega
      · rw [List.getElem?_append_right (by omega)] at hy
        obtain ⟨v, hv, hrel⟩ := hnew.get hy
        have hlt := (List.getElem?_eq_some_iff.1 hv).1
        refine ⟨v, ?_, hrel.mono hle⟩
        simp only [List.length_drop] at hi hlt hv
        rw [hj, if_pos (by omega), ← hv]
        congr 1; omega
    · cases hx' : x.live with
      | false =>
        cases x <;> simp [AO.live] at hx'
        rcases AW.get_set hx with ⟨rfl, _⟩ | ⟨_, hx⟩
        · exact ⟨L, hle.loc hL, trivial⟩
        · obtain ⟨Lj, hLj, _⟩ := hR.obj j _ hx
          exact ⟨Lj, hle.loc hLj, trivial⟩
      | true =>
        obtain ⟨hne2, hx2⟩ := hlive j x hx hx'
        obtain ⟨Lj, hLj, hrel⟩ := hR.obj j x hx2
        exact ⟨Lj, hle.loc hLj, (hrel.heap (ho _ (hother j x Lj hx2 hx' hne2 hLj))).mono hle⟩
  · have new' : (E.put ⟨L.block, L.base + of, L.total⟩).loc[aw.nx]? = some ⟨L.block, L.base + of, L.total⟩ := hR.nx ▸ E.put_new _
    have old : ∀ k ok Lk, k ≠ id → aw.get k = some ok → ok.live = true → (E.put ⟨L.block, L.base + of, L.total⟩).loc[k]? = some Lk → Lk.block ≠ L.block ∧ E.loc[k]? = some Lk := fun k ok Lk hne hk lk ek => by
      obtain ⟨L', hL', hr⟩ := hR.obj k ok hk
      rw [hle.loc hL'] at ek; injection ek with ek; subst ek
      exact ⟨hother k ok _ hk lk hne hL', hL'⟩
    rcases AW.get_add hi with ⟨e1, e2⟩ | ⟨hni, hi2⟩ <;> rcases AW.get_add hj with ⟨e3, e4⟩ | ⟨hnj, hj2⟩
    · rw [e1, e3]
    · rw [e1] at ei
      have ei' : (E.put ⟨L.block, L.base + of, L.total⟩).loc[aw.nx]? = some Li := ei
      rw [new'] at ei'; injection ei' with ei'; subst ei'
      obtain ⟨q1, q2⟩ := hlive j oj hj2 lj
      exact ((old j oj Lj q1 q2 lj ej).1 e.symm).elim
    · rw [e3] at ej
      have ej' : (E.put ⟨L.block, L.base + of, L.total⟩).loc[aw.nx]? = some Lj := ej
      rw [new'] at ej'; injection ej' with ej'; subst ej'
      obtain ⟨q1, q2⟩ := hlive i oi hi2 li
      exact ((old i oi Li q1 q2 li ei).1 e).elim
    · obtain ⟨q1, q2⟩ := hlive j oj hj2 lj
      obtain ⟨q3, q4⟩ := hlive i oi hi2 li
      exact hR.inj i j oi oj Li Lj q4 q2 li lj (old i oi Li q3 q4 li ei).2 (old j oj Lj q1 q2 lj ej).2 e
end
end Go.Proofs.YtbilacojhmohmaaGreat.Ae
