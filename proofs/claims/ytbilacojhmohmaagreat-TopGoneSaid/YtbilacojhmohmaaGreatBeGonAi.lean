/- Function 19: all frames looked at, one round. No condition. -/
import Derived.Test.YtbilacojhmohmaaGreatBeGonAh
import Derived.Test.YtbilacojhmohmaaGreatBeGonAs
namespace Go.Proofs.YtbilacojhmohmaaGreat.Ae
open Go
set_option linter.unusedVariables false
set_option linter.unusedSimpArgs false
theorem inN_iff {x : Nat} : ∀ {l : List Nat}, inN x l = true ↔ x ∈ l
  | [] => ⟨fun h => (by cases h), fun h => (by simp at h)⟩
  | y :: l => by
    have e : inN x (y :: l) = bb2 (Nat.beq x y) true (inN x l) := rfl
    rw [e, bb2_eq]
    cases h : Nat.beq x y with
    | true => rw [Nat.eq_of_beq_eq_true h]; simp
    | false =>
      have hne : x ≠ y := fun e => by subst e; rw [Nat.beq_refl] at h; cases h
      simp [hne, inN_iff (l := l)]
theorem chunk_mem {q n : Nat} (hn : 0 < n) {M R : List Nat} (hM : M ∈ tabM) (hq : q + 1 ∈ M) (hR : R ∈ subsL (upTo q)) : ∃ k, k < n ∧ (M, R) ∈ chunkI q n k := by
  have h1 : M ∈ tabM.filter (fun M => M.contains (q + 1)) := List.mem_filter.2 ⟨hM, by simpa using hq⟩
  obtain ⟨i, hi, he⟩ := List.mem_iff_getElem.1 h1
  have h2 : (M, i) ∈ (tabM.filter (fun M => M.contains (q + 1))).zipIdx := by
    rw [List.mem_zipIdx_iff_getElem?]
    rw [List.getElem?_eq_getElem hi, he]
  exact ⟨i % n, Nat.mod_lt _ hn, List.mem_flatMap.2 ⟨(M, i), List.mem_filter.2 ⟨h2, by simp⟩, List.mem_map.2 ⟨R, hR, rfl⟩⟩⟩
theorem stepI_ok {q : Nat} (hq : q < 5) {M R : List Nat} (hM : M ∈ tabM) (hin : q + 1 ∈ M) (hR : R ∈ subsL (upTo q)) (F : Fr) (X : AV) (b : Bool) : stepI F X b q (M, R) = wantI F X b q (M, R) := by
  have one : ∀ {n k : Nat}, (M, R) ∈ chunkI q n k → (chunkI q n k).map (stepI F X b q) = (chunkI q n k).map (wantI F X b q) → stepI F X b q (M, R) = wantI F X b q (M, R) := fun hm h => List.map_inj_left.1 h _ hm
  match q, hq with
  | 0, _ =>
    obtain ⟨k, hk, hm⟩ := chunk_mem (n := 1) (by omega) hM hin hR
    have : k = 0 := by omega
    subst this
    exact one hm (stepI_0_0 F X b)
  | 1, _ =>
    obtain ⟨k, hk, hm⟩ := chunk_mem (n := 1) (by omega) hM hin hR
    have : k = 0 := by omega
    subst this
    exact one hm (stepI_1_0 F X b)
  | 2, _ =>
    obtain ⟨k, hk, hm⟩ := chunk_mem (n := 1) (by omega) hM hin hR
    have : k = 0 := by omega
    subst this
    exact one hm (stepI_2_0 F X b)
  | 3, _ =>
    obtain ⟨k, hk, hm⟩ := chunk_mem (n := 3) (by omega) hM hin hR
    rcases (by omega : k = 0 ∨ k = 1 ∨ k = 2) with rfl | rfl | rfl
    · exact one hm (stepI_3_0 F X b)
    · exact one hm (stepI_3_1 F X b)
    · exact one hm (stepI_3_2 F X b)
  | 4, _ =>
    obtain ⟨k, hk, hm⟩ := chunk_mem (n := 6) (by omega) hM hin hR
    rcases (by omega : k = 0 ∨ k = 1 ∨ k = 2 ∨ k = 3 ∨ k = 4 ∨ k = 5) with rfl | rfl | rfl | rfl | rfl | rfl
    · exact one hm (stepI_4_0 F X b)
    · exact one hm (stepI_4_1 F X b)
    · exact one hm (stepI_4_2 F X b)
    · exact one hm (stepI_4_3 F X b)
    · exact one hm (stepI_4_4 F X b)
    · exact one hm (stepI_4_5 F X b)
theorem stepO_ok {q : Nat} (hq : q < 6) {M : List Nat} (hM : M ∈ tabM) (hin : q + 1 ∉ M) (F : Fr) (X : AV) (b : Bool) : stepA F X b q M = wantA F X b (q + 1) M := by
  have h1 := List.map_inj_left.1 (stepO_all F X b) q (by simp; omega)
  exact List.map_inj_left.1 h1 M (List.mem_filter.2 ⟨hM, by simpa using hin⟩)
/-- the lists that may be marked are closed; frame 6 is never marked -/
theorem tab_closed : ([0, 1, 2, 3, 4].all fun q => (casesI q).all fun x => tabM.contains (visitN x.1 x.2)) = true := by kernel_rfl
theorem tab_six : (tabM.all fun M => M.all fun x => Nat.ble x 5) = true := by kernel_rfl
theorem visit_tab {q : Nat} (hq : q < 5) {M R : List Nat} (hM : M ∈ tabM) (hin : q + 1 ∈ M) (hR : R ∈ subsL (upTo q)) : visitN M R ∈ tabM := by
  have h := List.all_eq_true.1 tab_closed q (by simp; omega)
  have h := List.all_eq_true.1 h (M, R) (List.mem_flatMap.2 ⟨M, List.mem_filter.2 ⟨hM, by simpa using hin⟩, List.mem_map.2 ⟨R, hR, rfl⟩⟩)
  simpa using h
theorem tab_lt {M : List Nat} (hM : M ∈ tabM) {x : Nat} (hx : x ∈ M) : x ≤ 5 := Nat.le_of_ble_eq_true (List.all_eq_true.1 (List.all_eq_true.1 tab_six M hM) x hx)
/-- one round over the frames from q on -/
noncomputable def roundF (Rs : Nat → List Nat) : Nat → Nat → List Nat → Bool → List Nat × Bool
  | 0, _, M, b => (M, b)
  | d + 1, q, M, b => if q + 1 ∈ M then roundF Rs d (q + 1) (visitN M (Rs q)) (bb2 (subN M (Rs q)) b true) else roundF Rs d (q + 1) M b
section
variable {K : Env → Prop} {Q : Post'} {kk : Nat → Int} {Rs : Nat → List Nat}
theorem round_all (kok : KOK K) {X : AV} (hX : X.lo 7 = true) (hRs : ∀ q, q < 5 → Rs q ∈ subsL (upTo q)) : ∀ (d q : Nat) (M : List Nat) (b : Bool), q + d = 6 → M ∈ tabM → (roundF Rs d q M b).1 ∈ tabM ∧ (GA K Q kk Rs X (roundF Rs d q M b).2 6 (roundF Rs d q M b).1 → GA K Q kk Rs X b q M) := by
  intro d
  induction d with
  | zero =>
    intro q M b hq hM
    have : q = 6 := by omega
    subst this
    exact ⟨hM, fun h => h⟩
  | succ d ih =>
    intro q M b hq hM
    unfold roundF
    by_cases hin : q + 1 ∈ M
    · rw [if_pos hin]
      have hq5 : q < 5 := by have := tab_lt hM hin; omega
      obtain ⟨i1, i2⟩ := ih (q + 1) (visitN M (Rs q)) (bb2 (subN M (Rs q)) b true) (by omega) (visit_tab hq5 hM hin (hRs q hq5))
      refine ⟨i1, fun h => ?_⟩
      have hs := stepI_ok hq5 hM hin (hRs q hq5) (FR kk Rs) X b
      unfold stepI wantI at hs
      simp only [FR_at] at hs
      exact step_good kok hX hs (i2 h)
    · rw [if_neg hin]
      obtain ⟨i1, i2⟩ := ih (q + 1) M b (by omega) hM
      exact ⟨i1, fun h => step_good kok hX (stepO_ok (by omega) hM hin _ X b) (i2 h)⟩
end
end Go.Proofs.YtbilacojhmohmaaGreat.Ae
