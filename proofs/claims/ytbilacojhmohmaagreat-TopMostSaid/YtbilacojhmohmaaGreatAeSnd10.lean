/- The evaluator's operations are sound: append. No condition. -/
import Derived.Test.YtbilacojhmohmaaGreatAeSnd9
namespace Go.Proofs.YtbilacojhmohmaaGreat.Ae
open Go
set_option linter.unusedVariables false
set_option linter.unusedSimpArgs false

section
variable {P : Program} {o : Oper} {E : Env} {a : AAct} {ca : Act} {aw aw' : AW} {w : World} {r : AV} {c : COp}

theorem small_inv {n b : Nat} (h : small n b = true) : n ≤ 140737488355328 ∧ n * b ≤ 140737488355328 := by
  unfold small at h
  simp only [Bool.and_eq_true] at h
  exact ⟨Nat.le_of_ble_eq_true h.1, Nat.le_of_ble_eq_true h.2⟩

theorem xappend_sound {S : Sem Value} {ba : Option Addr} {sLen sCap n sz bytes : Nat} {e : TypeId} {s : AV} {new : List AV} {vs : List Value} (hR : Rel E aw w) (hs : VRel E s (.slice ba sLen sCap)) (hnew : LRel E new vs) (hnl : new.length = n * sz)
    (hfit : sLen + n ≤ sCap → S.run P w = ((match ba with | some a => (storeCells (a.add (sLen * sz)) vs).run P w | none => .ok () w).andThen fun _ w' => .ok (.slice ba (sLen + n) sCap) w'))
    (hmore : ∀ old : List Value, (∀ w', w'.heap = w.heap → (Builtin.firstCells sz sLen (.slice ba sLen sCap)).run P w' = .ok old.toArray w') → sCap < sLen + n → sLen + n ≤ 140737488355328 → (sLen + n) * bytes ≤ 140737488355328 →
      ∃ (cap : Nat) (rest : Array Value), sLen + n ≤ cap ∧ rest.size = (cap - (sLen + n)) * sz ∧ S.run P w = .ok (.slice (some ⟨w.heap.size, 0, none⟩) (sLen + n) cap) ((w.drew).alloc (.cells (old.toArray ++ vs.toArray ++ rest) e (0, 0))))
    (h : xappend aw e sz bytes s n new = some (r, aw')) : ∃ E' w' v, E.Le E' ∧ Rel E' aw' w' ∧ S.run P w = .ok v w' ∧ VRel E' r v := by
  have hvl := hnew.length
  -- a new block
  have grow : ∀ (old : List Value) (lold : List AV), LRel E lold old → lold.length = sLen * sz → (∀ w', w'.heap = w.heap → (Builtin.firstCells sz sLen (.slice ba sLen sCap)).run P w' = .ok old.toArray w') → sCap < sLen + n → small (sLen + n) bytes = true →
      r = .slc (some (aw.nx, 0)) (sLen + n) (.upto sz (sLen + n)) → aw' = aw.add (.cells (lold ++ new) e true) → ∃ E' w' v, E.Le E' ∧ Rel E' aw' w' ∧ S.run P w = .ok v w' ∧ VRel E' r v := by
    intro old lold hold hlo hrun hlt hsm e1 e2
    obtain ⟨s1, s2⟩ := small_inv hsm
    obtain ⟨cap, rest, h1, h2, h3⟩ := hmore old hrun hlt s1 s2
    obtain ⟨L, hb, h0, ht, hle, hR', hn⟩ := rel_allocOpen (w1 := w.drew) (rest := rest) (e := e) hR rfl ⟨rfl, rfl⟩ (LRel.append hold hnew)
    have hol := hold.length
    refine ⟨E.put L, _, .slice (some ⟨L.block, 0, none⟩) (sLen + n) cap, hle, e2 ▸ hR', ?_, ?_⟩
    · rw [h3, hb]
      simp
    · rw [e1]
      refine .slcUp hn h1 h1 (.inr ⟨by rw [h0], ?_⟩)
      rw [h0, ht, h2]
      simp only [List.length_append]
      rw [← hol, ← hvl, hlo, hnl, ← Nat.add_mul, Nat.zero_add, ← Nat.add_mul]
      exact Nat.mul_le_mul_right _ (by omega)
  unfold xappend at h
  split at h
  · -- nil
    cases hs
    cases hn0 : Nat.beq n 0 with
    | true =>
      simp only [hn0, cond_true, Option.some.injEq, Prod.mk.injEq] at h
      obtain ⟨rfl, rfl⟩ := h
      have := Nat.eq_of_beq_eq_true hn0; subst this
      exact ⟨E, w, .slice none 0 0, .refl E, hR, by rw [hfit (by omega)]; rfl, .nilSlc⟩
    | false =>
      simp only [hn0, cond_false] at h
      have hn0 := ne_of_beq hn0
      cases hsm : small n bytes <;> simp only [hsm, cond_true, cond_false, reduceCtorEq, Option.some.injEq, Prod.mk.injEq] at h
      obtain ⟨rfl, rfl⟩ := h
      exact grow [] [] .nil (by simp) (fun w' _ => rfl) (by omega) (by simpa using hsm) (by simp) (by simp)
  · -- a known capacity
    rename_i id of len cc
    obtain ⟨L, ad, hv, hL, hd⟩ := slcKn_inv hs
    injection hv with hv1 hv2 hv3
    subst hv1; subst hv2; subst hv3
    cases hfc : Nat.ble (sLen + n) sCap with
    | true =>
      simp only [hfc, cond_true] at h
      have hle := Nat.le_of_ble_eq_true hfc
      cases hn0 : Nat.beq n 0 with
      | true =>
        simp only [hn0, cond_true, Option.some.injEq, Prod.mk.injEq] at h
        obtain ⟨rfl, rfl⟩ := h
        have := Nat.eq_of_beq_eq_true hn0; subst this
        have : vs = [] := by rw [hnl] at hvl; simp at hvl; exact List.length_eq_zero_iff.1 hvl.symm
        subst this
        exact ⟨E, w, .slice (some ad) sLen sCap, .refl E, hR, by rw [hfit hle]; rfl, hs⟩
      | false =>
        simp only [hn0, cond_false] at h
        have hn0 := ne_of_beq hn0
        split at h
        · rename_i l e' opn hg
          cases hq : (Nat.ble (of + (sLen + n) * sz) l.length && allOne new) <;> simp only [hq, cond_true, cond_false, reduceCtorEq, Option.some.injEq, Prod.mk.injEq] at h
          obtain ⟨rfl, rfl⟩ := h
          simp only [Bool.and_eq_true] at hq
          have q1 := Nat.le_of_ble_eq_true hq.1
          have hd := hd.resolve_left (by omega)
          subst hd
          have q2 : (sLen + n) * sz = sLen * sz + n * sz := Nat.add_mul _ _ _
          obtain ⟨w', hrun, hR'⟩ := store_cells (P := P) (o := of + sLen * sz) hR hL hg hnew hq.2 (by omega)
          refine ⟨E, w', .slice (some ⟨L.block, L.base + of, none⟩) (sLen + n) sCap, .refl E, hR', ?_, .slc hL (.inr rfl)⟩
          rw [hfit hle]
          simp only [add_eq]
          rw [Nat.add_assoc, hrun]
          rfl
        · cases h
    | false =>
      simp only [hfc, cond_false] at h
      have hgt : sCap < sLen + n := by
        rcases Nat.lt_or_ge sCap (sLen + n) with h' | h'
        · exact h'
        · rw [Nat.ble_eq_true_of_le h'] at hfc; cases hfc
      cases hsm : small (sLen + n) bytes <;> simp only [hsm, cond_true, cond_false, reduceCtorEq] at h
      split at h
      · rename_i lold hold
        simp at h; obtain ⟨rfl, rfl⟩ := h
        obtain ⟨old, hrun, hrel, hll, _⟩ := xcells_sound (P := P) hold hR hs
        exact grow old lold hrel hll hrun hgt hsm rfl rfl
      · cases h
  · -- an unknown capacity
    rename_i id of len sz' lo
    obtain ⟨L, ad, cap, hv, hL, hl, hlo, hd⟩ := slcUp_inv hs
    injection hv with hv1 hv2 hv3
    subst hv1; subst hv2; subst hv3
    cases hss : Nat.beq sz sz' <;> simp only [hss, cond_true, cond_false, reduceCtorEq] at h
    have := Nat.eq_of_beq_eq_true hss; subst this
    cases hfc : Nat.ble (sLen + n) lo with
    | true =>
      simp only [hfc, cond_true] at h
      have hle := Nat.le_of_ble_eq_true hfc
      cases hn0 : Nat.beq n 0 with
      | true =>
        simp only [hn0, cond_true, Option.some.injEq, Prod.mk.injEq] at h
        obtain ⟨rfl, rfl⟩ := h
        have := Nat.eq_of_beq_eq_true hn0; subst this
        have : vs = [] := by rw [hnl] at hvl; simp at hvl; exact List.length_eq_zero_iff.1 hvl.symm
        subst this
        exact ⟨E, w, .slice (some ad) sLen sCap, .refl E, hR, by rw [hfit (by omega)]; rfl, hs⟩
      | false =>
        simp only [hn0, cond_false] at h
        have hn0 := ne_of_beq hn0
        split at h
        · rename_i l e' opn hg
          cases hq : (Nat.ble (of + (sLen + n) * sz) l.length && allOne new) <;> simp only [hq, cond_true, cond_false, reduceCtorEq, Option.some.injEq, Prod.mk.injEq] at h
          obtain ⟨rfl, rfl⟩ := h
          simp only [Bool.and_eq_true] at hq
          have q1 := Nat.le_of_ble_eq_true hq.1
          obtain ⟨hd, hd2⟩ := hd.resolve_left (by omega)
          subst hd
          have q2 : (sLen + n) * sz = sLen * sz + n * sz := Nat.add_mul _ _ _
          obtain ⟨w', hrun, hR'⟩ := store_cells (P := P) (o := of + sLen * sz) hR hL hg hnew hq.2 (by omega)
          refine ⟨E, w', .slice (some ⟨L.block, L.base + of, none⟩) (sLen + n) sCap, .refl E, hR', ?_, .slcUp hL (by omega) hlo (.inr ⟨rfl, hd2⟩)⟩
          rw [hfit (by omega)]
          simp only [add_eq]
          rw [Nat.add_assoc, hrun]
          rfl
        · cases h
    | false =>
      simp only [hfc, cond_false] at h
      have hgt : lo < sLen + n := by
        rcases Nat.lt_or_ge lo (sLen + n) with h' | h'
        · exact h'
        · rw [Nat.ble_eq_true_of_le h'] at hfc; cases hfc
      split at h
      · rename_i l e' opn hg
        cases hq : (Nat.beq (of + sLen * sz) l.length && (Nat.beq e e' && (small (sLen + n) bytes && allOne new))) <;> simp only [hq, cond_true, cond_false, reduceCtorEq, Option.some.injEq, Prod.mk.injEq] at h
        obtain ⟨rfl, rfl⟩ := h
        simp only [Bool.and_eq_true] at hq
        obtain ⟨q1, q2, q3, q4⟩ := hq
        have q1 := Nat.eq_of_beq_eq_true q1
        have q2 := Nat.eq_of_beq_eq_true q2
        subst q2
        have q5 : (sLen + n) * sz = sLen * sz + n * sz := Nat.add_mul _ _ _
        rcases Nat.lt_or_ge sCap (sLen + n) with hc | hc
        · -- a new block
          obtain ⟨s1, s2⟩ := small_inv q3
          have hdl : (l.drop of).length = sLen * sz := by simp; omega
          have hold : ∃ old : List Value, LRel E (l.drop of) old ∧ (∀ w', w'.heap = w.heap → (Builtin.firstCells sz sLen (.slice (some ad) sLen sCap)).run P w' = .ok old.toArray w') := by
            rcases hd with h0 | ⟨rfl, _⟩
            · have : sLen = 0 := by omega
              subst this
              have : l.drop of = [] := List.length_eq_zero_iff.1 (by rw [hdl]; simp)
              exact ⟨[], by rw [this]; exact .nil, fun w' _ => by simp [Builtin.firstCells, loadCells, loadCellsFrom]⟩
            · obtain ⟨L', cs, hL', _, g1, g2, g3, g5⟩ := hR.at (VRel.ptr (o := of) hL) hg
              rw [hL] at hL'; injection hL' with hL'; subst hL'
              have htk : (l.drop of).take (sLen * sz) = l.drop of := List.take_of_length_le (by omega)
              obtain ⟨vs', hrun, hrel⟩ := load_cells (P := P) (o := of) (n := sLen * sz) g1 g5 (by rw [htk]; exact hdl)
              rw [htk] at hrel
              exact ⟨vs', hrel, fun w' hw' => by simp only [Builtin.firstCells]; exact hrun w' hw'⟩
          obtain ⟨old, hrel, hrun⟩ := hold
          obtain ⟨cap', rest, k1, k2, k3⟩ := hmore old hrun hc s1 s2
          -- the old object is dead: forget it first
          have hRd : Rel E (aw.set id .dead) w := by
            refine ⟨hR.nx, hR.ns, fun j x hj => ?_, fun i j oi oj Li Lj hi hj li lj => ?_, hR.frame, fun i oi Li hi li ei => ?_⟩
            rotate_left 2
            · rcases AW.get_set hi with ⟨rfl, rfl⟩ | ⟨_, hi⟩
              · simp [AO.live] at li
              · exact hR.apart i oi Li hi li ei
            · rcases AW.get_set hj with ⟨rfl, rfl⟩ | ⟨_, hj⟩
              · exact ⟨L, hL, trivial⟩
              · exact hR.obj j x hj
            · rcases AW.get_set hi with ⟨rfl, rfl⟩ | ⟨_, hi⟩
              · simp [AO.live] at li
              · rcases AW.get_set hj with ⟨rfl, rfl⟩ | ⟨_, hj⟩
                · simp [AO.live] at lj
                · exact hR.inj i j oi oj Li Lj hi hj li lj
          obtain ⟨L2, hb, h0, ht, hle, hR', hn⟩ := rel_allocOpen (w1 := w.drew) (rest := rest) (e := e) hRd rfl ⟨rfl, rfl⟩ (LRel.append hrel hnew)
          have hol := hrel.length
          refine ⟨E.put L2, _, .slice (some ⟨L2.block, 0, none⟩) (sLen + n) cap', hle, hR', ?_, ?_⟩
          · rw [k3, hb]; simp
          · refine .slcUp hn k1 k1 (.inr ⟨by rw [h0], ?_⟩)
            rw [h0, ht, k2]
            simp only [List.length_append]
            rw [← hol, ← hvl, hdl, hnl, ← Nat.add_mul, Nat.zero_add, ← Nat.add_mul]
            exact Nat.mul_le_mul_right _ (by omega)
        · -- in place
          obtain ⟨rfl, hd2⟩ := hd.resolve_left (by omega)
          have hmul : (sLen + n) * sz ≤ sCap * sz := Nat.mul_le_mul_right _ hc
          obtain ⟨w', hrun, hR'⟩ := rel_inplace (P := P) (of := of) hR hg hL (by omega) hnew q4 (by omega)
          refine ⟨_, w', .slice (some ⟨L.block, L.base + of, none⟩) (sLen + n) sCap, E.put_le _, hR', ?_, ?_⟩
          · rw [hfit hc]
            simp only [add_eq]
            rw [Nat.add_assoc, q1, hrun]
            rfl
          · have hn := E.put_new ⟨L.block, L.base + of, L.total⟩
            rw [← hR.nx] at hn
            exact .slcUp hn hc hc (.inr ⟨rfl, by simp only [Nat.add_zero]; exact hd2⟩)
      · cases h
  · cases h
end
end Go.Proofs.YtbilacojhmohmaaGreat.Ae
