/- Function 19: the rounds. Function 19: rounds till nothing is new. Function 19: what is told at the end; the first part. No condition. -/
import Derived.Test.YtbilacojhmohmaaGreatBeGonAi
namespace Go.Proofs.YtbilacojhmohmaaGreat.Ae
open Go
set_option linter.unusedVariables false
set_option linter.unusedSimpArgs false
theorem seenN_ok {F : Fr} {t : Tr AV} {aw : AW} {X : AV} {b : Bool} {M : List Nat} (h : seenN t aw = wantN F X b (mpO M)) (hX : X.lo 7 = true) : (∀ (j : Nat) (x : AO), (aSt F M)[j]? = some x → aw.get j = some x) ∧ ∀ s v, (s, v) ∈ aTn X b → t.get s s = some v ∧ v.lo 7 = true := by
  simp only [seenN, wantN, Option.some.injEq, Prod.mk.injEq, List.cons.injEq, and_true, trGet_eq, awGet_eq] at h
  obtain ⟨⟨g0, g1, g4, g5, g11⟩, m0, m1, m2, m3, m4, m5, m6⟩ := h
  refine ⟨fun j x hj => ?_, fun s v hm => ?_⟩
  · match j with
    | 0 => injection hj with hj; subst hj; exact m0
    | 1 => injection hj with hj; subst hj; exact m1
    | 2 => injection hj with hj; subst hj; exact m2
    | 3 => injection hj with hj; subst hj; exact m3
    | 4 => injection hj with hj; subst hj; exact m4
    | 5 => injection hj with hj; subst hj; exact m5
    | 6 => injection hj with hj; subst hj; exact m6
    | j + 7 => simp [aSt] at hj
  · simp only [aTn, List.mem_cons, List.not_mem_nil, or_false, Prod.mk.injEq] at hm
    rcases hm with ⟨rfl, rfl⟩ | ⟨rfl, rfl⟩ | ⟨rfl, rfl⟩ | ⟨rfl, rfl⟩ | ⟨rfl, rfl⟩
    · exact ⟨g0, rfl⟩
    · exact ⟨g1, hX⟩
    · exact ⟨g4, rfl⟩
    · exact ⟨g5, rfl⟩
    · exact ⟨g11, rfl⟩
section
variable {K : Env → Prop} {Q : Post'} {kk : Nat → Int} {Rs : Nat → List Nat}
/-- at the loop of rounds -/
def GR (K : Env → Prop) (Q : Post') (kk : Nat → Int) (Rs : Nat → List Nat) (X : AV) (b : Bool) (M : List Nat) : Prop :=
  GLK K abB2 Q ⟨tmOf (aTn X b) .leaf, 113, []⟩ (ofObjs (aSt (FR kk Rs) M) 7)
theorem GR.round (kok : KOK K) {X : AV} (hX : X.lo 7 = true) (hRs : ∀ q, q < 5 → Rs q ∈ subsL (upTo q)) {M : List Nat} (hM : M ∈ tabM) (h : GR K Q kk Rs X (roundF Rs 6 0 M false).2 (roundF Rs 6 0 M false).1) : GR K Q kk Rs X true M := by
  have h1 := round_in (FR kk Rs) X (mpO M)
  have hw : ∃ s, wantW (FR kk Rs) X false 0 (mpO M) = some s := ⟨_, rfl⟩
  obtain ⟨s, hs⟩ := hw
  rw [hs] at h1
  obtain ⟨t1, aw1, e1, h1⟩ := bNn_ok h1
  obtain ⟨t2, aw2, e2, h1⟩ := bNn_ok h1
  obtain ⟨t3, aw3, e3, h1⟩ := bNn_ok h1
  rw [at19_eq] at e1 e2 e3
  obtain ⟨k1, k2⟩ := seenA_ok (M := M) (h1.trans hs.symm) hX
  refine GoodLK.of (GoodK.seq kok.le cTop_ok drA_ok e1 (GoodK.block (GoodK.seq kok.le cTop_ok drA_ok e2 (GoodK.seq kok.le cTop_ok drA_ok e3 (GoodK.block (GoodK.loop ?_))))))
  refine backL kok rfl k1 (aSt_lo kk Rs M) k2 ?_
  refine (round_all kok hX hRs 6 0 M false rfl hM).2 ?_
  have h2 := round_out (FR kk Rs) X (roundF Rs 6 0 M false).2 (mpO (roundF Rs 6 0 M false).1)
  have hw : ∃ s, wantN (FR kk Rs) X (roundF Rs 6 0 M false).2 (mpO (roundF Rs 6 0 M false).1) = some s := ⟨_, rfl⟩
  obtain ⟨s2, hs2⟩ := hw
  rw [hs2] at h2
  obtain ⟨t4, aw4, e4, h2⟩ := bXn_ok h2
  rw [at19_eq] at e4
  obtain ⟨k3, k4⟩ := seenN_ok (h2.trans hs2.symm) hX
  refine GoodLK.exit' kok.le cTop_ok drA_ok e4 fun E ca w hE hA hR => ?_
  show ∀ c, cCode Tryz.prog (cDraw Tryz.prog) c = some abB2 → LoopAt Tryz.prog c Q ca w
  intro c hc
  exact (backL kok rfl k3 (aSt_lo kk Rs _) k4 h : GLK K abB2 Q ⟨t4, 113, []⟩ aw4) c hc E ca w hE hA hR
end
end Go.Proofs.YtbilacojhmohmaaGreat.Ae

namespace Go.Proofs.YtbilacojhmohmaaGreat.Ae
open Go
set_option linter.unusedVariables false
set_option linter.unusedSimpArgs false
theorem addN_eq (M : List Nat) (x : Nat) : addN M x = M ++ [x] := by
  induction M with
  | nil => rfl
  | cons a M ih => show a :: addN M x = _; rw [ih]; rfl
theorem visitN_cons (M : List Nat) (r : Nat) (R : List Nat) : visitN M (r :: R) = visitN (if r ∈ M then M else M ++ [r]) R := by
  have e : visitN M (r :: R) = visitN (bb2 (inN r M) M (addN M r)) R := rfl
  rw [e, bb2_eq, addN_eq]
  by_cases h : r ∈ M
  · rw [if_pos h, inN_iff.2 h]; rfl
  · rw [if_neg h]
    cases hq : inN r M with
    | true => exact (h (inN_iff.1 hq)).elim
    | false => rfl
theorem subN_iff {M : List Nat} : ∀ {R : List Nat}, subN M R = true ↔ ∀ r ∈ R, r ∈ M
  | [] => ⟨fun _ r hr => by simp at hr, fun _ => rfl⟩
  | r :: R => by
    have e : subN M (r :: R) = bb2 (inN r M) (subN M R) false := rfl
    rw [e, bb2_eq]
    cases h : inN r M with
    | true =>
      have := inN_iff.1 h
      simp [this, subN_iff (M := M) (R := R)]
    | false =>
      have : r ∉ M := fun hm => by rw [inN_iff.2 hm] at h; cases h
      simp [this]
theorem visit_mem {x : Nat} : ∀ {R M : List Nat}, x ∈ visitN M R ↔ x ∈ M ∨ x ∈ R
  | [], M => ⟨fun h => .inl h, fun h => by rcases h with h | h; exact h; simp at h⟩
  | r :: R, M => by
    rw [visitN_cons, visit_mem (R := R)]
    by_cases h : r ∈ M
    · rw [if_pos h]
      constructor
      · rintro (h1 | h1)
        · exact .inl h1
        · exact .inr (List.mem_cons_of_mem _ h1)
      · rintro (h1 | h1)
        · exact .inl h1
        · rcases List.mem_cons.1 h1 with rfl | h1
          · exact .inl h
          · exact .inr h1
    · rw [if_neg h]
      simp only [List.mem_append, List.mem_cons, List.not_mem_nil, or_false]
      constructor
      · rintro ((h1 | h1) | h1)
        · exact .inl h1
        · exact .inr (.inl h1)
        · exact .inr (.inr h1)
      · rintro (h1 | h1 | h1)
        · exact .inl (.inl h1)
        · exact .inl (.inr h1)
        · exact .inr h1
theorem visit_len : ∀ {R M : List Nat}, M.length ≤ (visitN M R).length
  | [], M => Nat.le_refl _
  | r :: R, M => by
    rw [visitN_cons]
    refine Nat.le_trans ?_ visit_len
    split <;> simp
theorem visit_same : ∀ {R M : List Nat}, (∀ r ∈ R, r ∈ M) → visitN M R = M
  | [], M, _ => rfl
  | r :: R, M, h => by
    rw [visitN_cons, if_pos (h r (by simp))]
    exact visit_same fun x hx => h x (List.mem_cons_of_mem _ hx)
theorem visit_more : ∀ {R M : List Nat}, subN M R = false → M.length < (visitN M R).length
  | [], M, h => by cases h
  | r :: R, M, h => by
    rw [visitN_cons]
    by_cases hr : r ∈ M
    · rw [if_pos hr]
      refine visit_more ?_
      have e : subN M (r :: R) = bb2 (inN r M) (subN M R) false := rfl
      rw [e, bb2_eq, inN_iff.2 hr] at h
      exact h
    · rw [if_neg hr]
      exact Nat.lt_of_lt_of_le (by simp) visit_len
theorem round_facts {Rs : Nat → List Nat} {P : List Nat → Prop} (hP : ∀ M q, P M → q + 1 ∈ M → P (visitN M (Rs q))) : ∀ (d q : Nat) (M : List Nat) (b : Bool), P M → P (roundF Rs d q M b).1 ∧ M.length ≤ (roundF Rs d q M b).1.length ∧ ((roundF Rs d q M b).2 = true → b = true ∨ M.length < (roundF Rs d q M b).1.length) ∧
    ((roundF Rs d q M b).2 = false → b = false ∧ (roundF Rs d q M b).1 = M ∧ ∀ p, q ≤ p → p < q + d → p + 1 ∈ M → ∀ r ∈ Rs p, r ∈ M)
  | 0, q, M, b, hM => ⟨hM, Nat.le_refl _, fun h => .inl h, fun h => ⟨h, rfl, fun p h1 h2 => by omega⟩⟩
  | d + 1, q, M, b, hM => by
    unfold roundF
    by_cases hin : q + 1 ∈ M
    · rw [if_pos hin]
      obtain ⟨i1, i2, i3, i4⟩ := round_facts hP d (q + 1) (visitN M (Rs q)) (bb2 (subN M (Rs q)) b true) (hP M q hM hin)
      have hl : M.length ≤ (visitN M (Rs q)).length := visit_len
      rw [bb2_eq] at i1 i2 i3 i4 ⊢
      refine ⟨i1, Nat.le_trans hl i2, fun h => ?_, fun h => ?_⟩
      · cases hs : subN M (Rs q) with
        | true =>
          simp only [hs, cond_true] at i3 h i2 ⊢
          rcases i3 h with h1 | h1
          · exact .inl h1
          · exact .inr (Nat.lt_of_le_of_lt hl h1)
        | false =>
          simp only [hs, cond_false] at i3 h i2 ⊢
          exact .inr (Nat.lt_of_lt_of_le (visit_more hs) i2)
      · obtain ⟨j1, j2, j3⟩ := i4 h
        cases hs : subN M (Rs q) with
        | false => rw [hs] at j1; cases j1
        | true =>
          rw [hs] at j1
          have hv := visit_same (subN_iff.1 hs)
          rw [hv] at j3
          refine ⟨j1, ?_, fun p h1 h2 h3 => ?_⟩
          · rw [hs] at j2; rw [j2, hv]
          · by_cases hp : p = q
            · subst hp; exact subN_iff.1 hs
            · exact j3 p (by omega) (by omega) h3
    · rw [if_neg hin]
      obtain ⟨i1, i2, i3, i4⟩ := round_facts hP d (q + 1) M b hM
      refine ⟨i1, i2, i3, fun h => ?_⟩
      obtain ⟨j1, j2, j3⟩ := i4 h
      refine ⟨j1, j2, fun p h1 h2 h3 => ?_⟩
      by_cases hp : p = q
      · subst hp; exact (hin h3).elim
      · exact j3 p (by omega) (by omega) h3
theorem tab_len : (tabM.all fun M => Nat.ble M.length 5) = true := by kernel_rfl
section
variable {K : Env → Prop} {Q : Post'} {kk : Nat → Int} {Rs : Nat → List Nat}
theorem rounds_all (kok : KOK K) {X : AV} (hX : X.lo 7 = true) (hRs : ∀ q, q < 5 → Rs q ∈ subsL (upTo q)) {P : List Nat → Prop} (hP : ∀ M q, P M → q + 1 ∈ M → P (visitN M (Rs q)))
    (hend : ∀ M, M ∈ tabM → P M → (∀ p, p < 6 → p + 1 ∈ M → ∀ r ∈ Rs p, r ∈ M) → GR K Q kk Rs X false M) : ∀ (n : Nat) (M : List Nat), M ∈ tabM → P M → 5 < n + M.length → GR K Q kk Rs X true M := by
  intro n
  induction n with
  | zero =>
    intro M hM _ h
    have := Nat.le_of_ble_eq_true (List.all_eq_true.1 tab_len M hM)
    omega
  | succ n ih =>
    intro M hM hPM h
    refine GR.round kok hX hRs hM ?_
    have hM' := (round_all (K := K) (Q := Q) (kk := kk) kok hX hRs 6 0 M false rfl hM).1
    obtain ⟨i1, i2, i3, i4⟩ := round_facts hP 6 0 M false hPM
    cases hb : (roundF Rs 6 0 M false).2 with
    | true =>
      rcases i3 hb with h1 | h1
      · cases h1
      · exact ih _ hM' i1 (by omega)
    | false =>
      obtain ⟨_, j2, j3⟩ := i4 hb
      rw [j2]
      exact hend M hM hPM fun p hp h3 => j3 p (by omega) (by omega) h3
end
end Go.Proofs.YtbilacojhmohmaaGreat.Ae

namespace Go.Proofs.YtbilacojhmohmaaGreat.Ae
open Go
set_option linter.unusedVariables false
set_option linter.unusedSimpArgs false
section
variable {K : Env → Prop} {Q : Post'} {kk : Nat → Int} {Rs : Nat → List Nat}
theorem tellA (kok : KOK K) {q : Nat} {M : List Nat} (hq : q < 6) (hM : M ∈ tabM) (hlt : ∀ x ∈ M, x ≤ q)
    (hQ : ∀ t aw, t.get 4 4 = some (slcB (sortM M) (kB M)) → aw.get (kB M) = newB (sortM M) → ∀ E ca w, K E → ActRel E ⟨t, 113, []⟩ ca → Rel E aw w → Q .ret ca w) : GK K abA5 Q ⟨tmOf (aTn (wW (q + 1)) false) .leaf, 113, []⟩ (ofObjs (aSt (FR kk Rs) M) 7) := by
  have hmem : M ∈ casesT q := List.mem_filter.2 ⟨hM, List.all_eq_true.2 fun x hx => Nat.ble_eq_true_of_le (hlt x hx)⟩
  have h1 := List.map_inj_left.1 (last_all (FR kk Rs)) q (by simp; omega)
  have h2 := List.map_inj_left.1 h1 M hmem
  unfold lastI at h2
  obtain ⟨t, aw, e, h3⟩ := bRn_ok h2
  simp only [Option.some.injEq, Prod.mk.injEq, trGet_eq, awGet_eq] at h3
  rw [at19_eq] at e
  refine GoodK.run kok.le cTop_ok drA_ok e fun E x ca w hE hR hA hX => ?_
  cases x <;> simp only [XRel] at hX
  exact hQ t aw h3.1 h3.2 E ca w hE hA hR
/-- no round more: what is told -/
theorem endA (kok : KOK K) {X : AV} (hX : X.lo 7 = true) {M : List Nat} (h : GK K abA5 Q ⟨tmOf (aTn X false) .leaf, 113, []⟩ (ofObjs (aSt (FR kk Rs) M) 7)) : GR K (Exit.inBlock 2 (thenC Tryz.prog (cDraw Tryz.prog) abA5 Q)) kk Rs X false M := by
  have h2 := round_no (FR kk Rs) X (mpO M)
  have hw : ∃ s, wantN (FR kk Rs) X false (mpO M) = some s := ⟨_, rfl⟩
  obtain ⟨s2, hs2⟩ := hw
  rw [hs2] at h2
  obtain ⟨t4, aw4, e4, h2⟩ := bXn_ok h2
  rw [at19_eq] at e4
  obtain ⟨k3, k4⟩ := seenN_ok (h2.trans hs2.symm) hX
  refine GoodLK.exit' kok.le cTop_ok drA_ok e4 fun E ca w hE hA hR => ?_
  show ∀ c, cCode Tryz.prog (cDraw Tryz.prog) c = some abA5 → c.wp Tryz.prog Q ca w
  intro c hc
  exact (backG kok rfl k3 (aSt_lo kk Rs _) k4 h : GK K abA5 Q ⟨t4, 113, []⟩ aw4) c hc E ca w hE hA hR
/-- from its start to the first round -/
theorem startA (kok : KOK K) {q : Nat} (hq : q < 6) (hR : Rs q = [] ∨ Rs q ∈ optsN q) (h : GR K (Exit.inBlock 2 (thenC Tryz.prog (cDraw Tryz.prog) abA5 Q)) kk Rs (wW (q + 1)) true (Rs q)) :
    GK K abAll Q ⟨tmOf [(0, .slc (some (0, 0)) 6 (.upto 6 6)), (1, wW (q + 1))] .leaf, 113, []⟩ (ofObjs [.rom (vwF (FR kk Rs)) 31, (FR kk Rs).O 1, (FR kk Rs).O 2, (FR kk Rs).O 3, (FR kk Rs).O 4, (FR kk Rs).O 5] 6) := by
  have h1 := List.map_inj_left.1 (first_all (FR kk Rs)) q (by simp; omega)
  have h2 := List.map_inj_left.1 h1 (Rs q) (by rcases hR with h | h; rw [h]; simp; exact List.mem_cons_of_mem _ h)
  unfold firstI at h2
  rw [FR_at] at h2
  have hw : ∃ s, wantN (FR kk Rs) (wW (q + 1)) true (mpO (Rs q)) = some s := ⟨_, rfl⟩
  obtain ⟨s, hs⟩ := hw
  have h2 := h2.trans hs
  obtain ⟨t1, aw1, e1, h2⟩ := bNn_ok h2
  obtain ⟨t2, aw2, e2, h2⟩ := bNn_ok h2
  obtain ⟨t3, aw3, e3, h2⟩ := bNn_ok h2
  obtain ⟨t4, aw4, e4, h2⟩ := bNn_ok h2
  obtain ⟨t5, aw5, e5, h2⟩ := bNn_ok h2
  rw [at19_eq] at e1 e2 e3 e4 e5
  obtain ⟨k3, k4⟩ := seenN_ok (h2.trans hs.symm) rfl
  refine GoodK.seq kok.le cTop_ok drA_ok e1 (GoodK.seq kok.le cTop_ok drA_ok e2 (GoodK.seq kok.le cTop_ok drA_ok e3 (GoodK.seq kok.le cTop_ok drA_ok e4 (GoodK.into (GoodK.seq kok.le cTop_ok drA_ok e5 (GoodK.block (GoodK.loop ?_)))))))
  exact backL kok rfl k3 (aSt_lo kk Rs _) k4 h
end
end Go.Proofs.YtbilacojhmohmaaGreat.Ae
