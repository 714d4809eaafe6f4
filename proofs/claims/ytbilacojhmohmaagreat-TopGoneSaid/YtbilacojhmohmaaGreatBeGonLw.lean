/- TopGone: on whom a frame hangs, in plain words; that the rounds mark just these; of what kind each event is. No condition. -/
import Derived.Test.YtbilacojhmohmaaGreatBeGonAl
import Derived.Test.YtbilacojhmohmaaGreatBeGonGd
namespace Go.Proofs.YtbilacojhmohmaaGreat.Ae
open Go
set_option linter.unusedVariables false
set_option linter.unusedSimpArgs false
/-- frame i hangs on x, by others perhaps -/
inductive Hangs (Rs : Nat → List Nat) : Nat → Nat → Prop
  | one {i x : Nat} (h : x ∈ Rs i) : Hangs Rs i x
  | more {i y x : Nat} (h : y + 1 ∈ Rs i) (t : Hangs Rs y x) : Hangs Rs i x
theorem Hangs.trans {Rs : Nat → List Nat} {i z : Nat} (h : Hangs Rs i z) : ∀ p x, z = p + 1 → x ∈ Rs p → Hangs Rs i x := by
  induction h with
  | one h => intro p x e hx; subst e; exact .more h (.one hx)
  | more h t ih => intro p x e hx; exact .more h (ih p x e hx)
theorem Hangs.le {Rs : Nat → List Nat} (hR : ∀ i, i < 6 → ∀ x ∈ Rs i, 1 ≤ x ∧ x ≤ i) {i x : Nat} (h : Hangs Rs i x) : i < 6 → 1 ≤ x ∧ x ≤ i := by
  induction h with
  | one h => intro hi; exact hR _ hi _ h
  | more h t ih =>
    intro hi
    have h1 := hR _ hi _ h
    have h2 := ih (by omega)
    omega
theorem Hangs.closed {Rs : Nat → List Nat} (hR : ∀ i, i < 6 → ∀ x ∈ Rs i, 1 ≤ x ∧ x ≤ i) {M : List Nat} (hc : ∀ p, p < 6 → p + 1 ∈ M → ∀ r ∈ Rs p, r ∈ M) {i x : Nat} (h : Hangs Rs i x) : i < 6 → (∀ r ∈ Rs i, r ∈ M) → x ∈ M := by
  induction h with
  | one h => intro hi hm; exact hm _ h
  | more h t ih =>
    intro hi hm
    have h1 := hR _ hi _ h
    exact ih (by omega) (hc _ (by omega) (hm _ h))
open Classical in
/-- on whom frame i hangs, ascending -/
noncomputable def ancN (Rs : Nat → List Nat) (i : Nat) : List Nat := [1, 2, 3, 4, 5].filter fun x => decide (Hangs Rs i x)
theorem ancN_mem {Rs : Nat → List Nat} {i x : Nat} (h1 : 1 ≤ x) (h5 : x ≤ 5) : x ∈ ancN Rs i ↔ Hangs Rs i x := by
  unfold ancN
  rw [List.mem_filter]
  have : x ∈ [1, 2, 3, 4, 5] := by simp; omega
  simp [this]
theorem sortM_eq (M : List Nat) : sortM M = [1, 2, 3, 4, 5].filter fun x => inN x M := by
  show bb2 (inN 1 M) (1 :: bb2 (inN 2 M) (2 :: bb2 (inN 3 M) (3 :: bb2 (inN 4 M) (4 :: bb2 (inN 5 M) (5 :: []) []) (bb2 (inN 5 M) (5 :: []) [])) (bb2 (inN 4 M) (4 :: bb2 (inN 5 M) (5 :: []) []) (bb2 (inN 5 M) (5 :: []) [])))
    (bb2 (inN 3 M) (3 :: bb2 (inN 4 M) (4 :: bb2 (inN 5 M) (5 :: []) []) (bb2 (inN 5 M) (5 :: []) [])) (bb2 (inN 4 M) (4 :: bb2 (inN 5 M) (5 :: []) []) (bb2 (inN 5 M) (5 :: []) []))))
    (bb2 (inN 2 M) (2 :: bb2 (inN 3 M) (3 :: bb2 (inN 4 M) (4 :: bb2 (inN 5 M) (5 :: []) []) (bb2 (inN 5 M) (5 :: []) [])) (bb2 (inN 4 M) (4 :: bb2 (inN 5 M) (5 :: []) []) (bb2 (inN 5 M) (5 :: []) [])))
    (bb2 (inN 3 M) (3 :: bb2 (inN 4 M) (4 :: bb2 (inN 5 M) (5 :: []) []) (bb2 (inN 5 M) (5 :: []) [])) (bb2 (inN 4 M) (4 :: bb2 (inN 5 M) (5 :: []) []) (bb2 (inN 5 M) (5 :: []) [])))) = _
  simp only [bb2_eq, List.filter]
  cases inN 1 M <;> cases inN 2 M <;> cases inN 3 M <;> cases inN 4 M <;> cases inN 5 M <;> rfl
theorem sortM_anc {Rs : Nat → List Nat} {i : Nat} {M : List Nat} (h : ∀ x, 1 ≤ x → x ≤ 5 → (x ∈ M ↔ Hangs Rs i x)) : sortM M = ancN Rs i := by
  rw [sortM_eq]
  unfold ancN
  refine List.filter_congr fun x hx => ?_
  have hx : 1 ≤ x ∧ x ≤ 5 := by simp at hx; omega
  rw [Bool.eq_iff_iff, inN_iff, @decide_eq_true_iff _ (Classical.propDecidable _)]
  exact h x hx.1 hx.2
theorem filter_subs (p : Nat → Bool) : ∀ l : List Nat, l.filter p ∈ subsL l
  | [] => by simp [subsL]
  | x :: l => by
    have ih := filter_subs p l
    unfold subsL
    rw [List.filter_cons]
    cases h : p x with
    | true => exact List.mem_append_right _ (List.mem_map.2 ⟨_, ih, rfl⟩)
    | false => exact List.mem_append_left _ ih
theorem subs_mem : ∀ {l R : List Nat}, R ∈ subsL l → ∀ x ∈ R, x ∈ l
  | [], R, h, x, hx => by
    have h : R ∈ [([] : List Nat)] := h
    simp at h; subst h; exact hx
  | y :: l, R, h, x, hx => by
    unfold subsL at h
    rcases List.mem_append.1 h with h | h
    · exact List.mem_cons_of_mem _ (subs_mem h x hx)
    · obtain ⟨S, hS, rfl⟩ := List.mem_map.1 h
      rcases List.mem_cons.1 hx with rfl | hx
      · simp
      · exact List.mem_cons_of_mem _ (subs_mem hS x hx)
theorem upTo_mem : ∀ {n x : Nat}, x ∈ upTo n → 1 ≤ x ∧ x ≤ n
  | 0, x, h => by cases h
  | n + 1, x, h => by
    have h : x ∈ upTo n ++ [n + 1] := h
    rcases List.mem_append.1 h with h | h
    · have := upTo_mem h; omega
    · simp at h; omega
theorem opts_le {i : Nat} {R : List Nat} (h : R = [] ∨ R ∈ optsN i) : ∀ x ∈ R, 1 ≤ x ∧ x ≤ i := fun x hx => by
  rcases h with rfl | h
  · cases hx
  · exact upTo_mem (subs_mem (List.mem_filter.1 h).1 x hx)
theorem nil_subs : ∀ l : List Nat, [] ∈ subsL l
  | [] => by simp [subsL]
  | x :: l => List.mem_append_left _ (nil_subs l)
theorem opts_subs {i : Nat} {R : List Nat} (h : R = [] ∨ R ∈ optsN i) : R ∈ subsL (upTo i) := by
  rcases h with rfl | h
  · exact nil_subs _
  · exact (List.mem_filter.1 h).1
theorem tab_first : ([0, 1, 2, 3, 4, 5].all fun q => ([] :: optsN q).all fun R => tabM.contains R) = true := by kernel_rfl
theorem opts_tab {q : Nat} (hq : q < 6) {R : List Nat} (h : R = [] ∨ R ∈ optsN q) : R ∈ tabM := by
  have h1 := List.all_eq_true.1 tab_first q (by simp; omega)
  have h2 := List.all_eq_true.1 h1 R (by rcases h with h | h; rw [h]; simp; exact List.mem_cons_of_mem _ h)
  simpa using h2
theorem anc_sub {Rs : Nat → List Nat} (hR : ∀ i, i < 6 → Rs i = [] ∨ Rs i ∈ optsN i) {i : Nat} (hi : i < 6) : ancN Rs i ∈ subsL (upTo i) := by
  have key : ∀ l r : List Nat, [1, 2, 3, 4, 5] = l ++ r → (∀ x ∈ r, i < x) → ancN Rs i ∈ subsL l := fun l r e hr => by
    unfold ancN
    rw [e, List.filter_append]
    have : (r.filter fun x => @decide (Hangs Rs i x) (Classical.propDecidable _)) = [] := by
      rw [List.filter_eq_nil_iff]
      intro x hx h
      have h := @of_decide_eq_true _ (Classical.propDecidable _) h
      have := hr x hx
      have := (h.le (fun i hi => opts_le (hR i hi)) hi).2
      omega
    rw [this, List.append_nil]
    exact filter_subs _ _
  match i, hi, key with
  | 0, _, key => exact key (upTo 0) [1, 2, 3, 4, 5] rfl (by simp)
  | 1, _, key => exact key (upTo 1) [2, 3, 4, 5] rfl (by simp)
  | 2, _, key => exact key (upTo 2) [3, 4, 5] rfl (by simp)
  | 3, _, key => exact key (upTo 3) [4, 5] rfl (by simp)
  | 4, _, key => exact key (upTo 4) [5] rfl (by simp)
  | 5, _, key => exact key (upTo 5) [] rfl (by simp)

/-! ### function 19, from its start to its end -/
section
variable {K : Env → Prop} {Q : Post'} {kk : Nat → Int} {Rs : Nat → List Nat}
theorem above_good (kok : KOK K) (hR : ∀ i, i < 6 → Rs i = [] ∨ Rs i ∈ optsN i) {q : Nat} (hq : q < 6)
    (hQ : ∀ t aw k, t.get 4 4 = some (slcB (ancN Rs q) k) → aw.get k = newB (ancN Rs q) → ∀ E ca w, K E → ActRel E ⟨t, 113, []⟩ ca → Rel E aw w → Q .ret ca w) :
    GK K abAll Q ⟨tmOf [(0, .slc (some (0, 0)) 6 (.upto 6 6)), (1, wW (q + 1))] .leaf, 113, []⟩ (ofObjs [.rom (vwF (FR kk Rs)) 31, (FR kk Rs).O 1, (FR kk Rs).O 2, (FR kk Rs).O 3, (FR kk Rs).O 4, (FR kk Rs).O 5] 6) := by
  have hle : ∀ i, i < 6 → ∀ x ∈ Rs i, 1 ≤ x ∧ x ≤ i := fun i hi => opts_le (hR i hi)
  refine startA kok hq (hR q hq) ?_
  refine rounds_all kok rfl (fun q hq => opts_subs (hR q (by omega))) (P := fun M => (∀ x ∈ Rs q, x ∈ M) ∧ ∀ x ∈ M, Hangs Rs q x) (fun M p hP hp => ⟨fun x hx => visit_mem.2 (.inl (hP.1 x hx)), fun x hx => ?_⟩) (fun M hM hP hc => ?_) 6 (Rs q) (opts_tab hq (hR q hq)) ⟨fun x hx => hx, fun x hx => .one hx⟩ (by omega)
  · rcases visit_mem.1 hx with h | h
    · exact hP.2 x h
    · exact (hP.2 _ hp).trans p x rfl h
  · refine endA kok rfl (tellA kok hq hM (fun x hx => ((hP.2 x hx).le hle hq).2) ?_)
    rw [sortM_anc (Rs := Rs) (i := q) fun x h1 h5 => ⟨hP.2 x, fun h => h.closed hle hc hq hP.1⟩]
    exact fun t aw h1 h2 => hQ t aw _ h1 h2
end

/-! ### the events' kinds -/
theorem any_kind {Rs : Nat → List Nat} (hR : ∀ i, i < 6 → ∀ x ∈ Rs i, 1 ≤ x ∧ x ≤ i) {g q mask : Nat} (hq : q < 6) (hm : ∀ x, Nat.testBit mask x = true ↔ ∃ p, p < q ∧ x = p + 1 ∧ (p = g ∨ Hangs Rs p (g + 1))) :
    (Rs q).any (fun x => Nat.testBit mask x) = true ↔ Hangs Rs q (g + 1) := by
  rw [List.any_eq_true]
  constructor
  · rintro ⟨x, hx, h⟩
    obtain ⟨p, hp, rfl, h2⟩ := (hm x).1 h
    rcases h2 with rfl | h2
    · exact .one hx
    · exact .more hx h2
  · intro h
    cases h with
    | one h =>
      have := hR q hq _ h
      exact ⟨_, h, (hm _).2 ⟨g, by omega, rfl, .inl rfl⟩⟩
    | more h t =>
      have := hR q hq _ h
      exact ⟨_, h, (hm _).2 ⟨_, by omega, rfl, .inr t⟩⟩
theorem hasN_iff {x : Nat} : ∀ {l : List Nat}, hasN x l = true ↔ x ∈ l
  | [] => ⟨fun h => (by cases h), fun h => (by simp at h)⟩
  | y :: l => by
    have e : hasN x (y :: l) = bb2 (Nat.beq x y) true (hasN x l) := rfl
    rw [e, bb2_eq]
    cases h : Nat.beq x y with
    | true => rw [Nat.eq_of_beq_eq_true h]; simp
    | false =>
      have hne : x ≠ y := fun e => by subst e; rw [Nat.beq_refl] at h; cases h
      simp [hne, hasN_iff (l := l)]
theorem kapp_two {Rs : Nat → List Nat} {i g : Nat} (hg : g < 6) (h : i = g ∨ Hangs Rs i (g + 1)) (hR : ∀ i, i < 6 → ∀ x ∈ Rs i, 1 ≤ x ∧ x ≤ i) (hi : i < 6) : kapp i g (ancN Rs i) = 2 := by
  unfold kapp
  simp only [bb2_eq]
  rcases h with rfl | h
  · rw [Nat.beq_refl]; rfl
  · have h5 := h.le hR hi
    rw [hasN_iff.2 ((ancN_mem h5.1 (by omega)).2 h)]
    cases Nat.beq i g <;> rfl
theorem kapp_one {Rs : Nat → List Nat} {i g : Nat} (hn : i ≠ g) (h : ¬ Hangs Rs i (g + 1)) : kapp i g (ancN Rs i) = 1 := by
  unfold kapp
  simp only [bb2_eq]
  cases h1 : Nat.beq i g with
  | true => exact (hn (Nat.eq_of_beq_eq_true h1)).elim
  | false =>
    cases h2 : hasN (Nat.succ g) (ancN Rs i) with
    | false => rfl
    | true =>
      have h3 := hasN_iff.1 h2
      have h4 := (List.mem_filter.1 h3).1
      refine (h ?_).elim
      exact (ancN_mem (by omega) (by simp at h4; omega)).1 h3
theorem bit_add {mask q x : Nat} (h : mask < 2 ^ (q + 1)) : Nat.testBit (mask + 2 ^ (q + 1)) x = true ↔ Nat.testBit mask x = true ∨ x = q + 1 := by
  rw [show mask + 2 ^ (q + 1) = 2 ^ (q + 1) * 1 + mask by omega, Nat.two_pow_add_eq_or_of_lt h, Nat.testBit_or, Nat.mul_one, Nat.testBit_two_pow]
  simp only [Bool.or_eq_true, decide_eq_true_eq]
  constructor
  · rintro (h | h)
    · exact .inr h.symm
    · exact .inl h
  · rintro (h | h)
    · exact .inr h
    · exact .inl h.symm
theorem kinds_get {Rs ls : Nat → List Nat} {g : Nat} (hg : g < 6) (hR : ∀ i, i < 6 → ∀ x ∈ Rs i, 1 ≤ x ∧ x ≤ i) (hls : ∀ q, q < 6 → Rs q ≠ [] → ls q = Rs q) :
    ∀ (bs : List Bool) (q mask : Nat) (ks : List Nat), q + bs.length ≤ 6 → (∀ j b, bs[j]? = some b → b = someN (Rs (q + j))) → mask < 2 ^ (q + 1) → (∀ x, Nat.testBit mask x = true ↔ ∃ p, p < q ∧ x = p + 1 ∧ (p = g ∨ Hangs Rs p (g + 1))) →
      ks.length = q → (∀ i, i < q → ks[i]? = some (kapp i g (ancN Rs i))) →
      (kindsF g ls bs q mask ks).length = q + bs.length ∧ ∀ i, i < q + bs.length → (kindsF g ls bs q mask ks)[i]? = some (kapp i g (ancN Rs i)) := by
  intro bs
  induction bs with
  | nil => intro q mask ks hq hb hlt hm hl hk; exact ⟨hl, hk⟩
  | cons b bs ih =>
    intro q mask ks hq hb hlt hm hl hk
    have hq' : q + 1 + bs.length ≤ 6 := by simp at hq; omega
    have hb' : ∀ j b, bs[j]? = some b → b = someN (Rs (q + 1 + j)) := fun j c hj => by
      rw [show q + 1 + j = q + (j + 1) by omega]
      exact hb (j + 1) c (by simpa using hj)
    have hb0 : b = someN (Rs q) := hb 0 b rfl
    have elen : q + (b :: bs).length = q + 1 + bs.length := by simp; omega
    rw [elen]
    have two : (q = g ∨ Hangs Rs q (g + 1)) → (kindsF g ls bs (q + 1) (mask + 2 ^ (q + 1)) (ks ++ [2])).length = q + 1 + bs.length ∧ ∀ i, i < q + 1 + bs.length → (kindsF g ls bs (q + 1) (mask + 2 ^ (q + 1)) (ks ++ [2]))[i]? = some (kapp i g (ancN Rs i)) := fun h => by
      refine ih (q + 1) _ _ hq' hb' (by rw [Nat.pow_succ 2 (q + 1)]; omega) (fun x => ?_) (by simp [hl]) (fun i hi => ?_)
      · rw [bit_add hlt, hm x]
        constructor
        · rintro (⟨p, h1, h2, h3⟩ | rfl)
          · exact ⟨p, by omega, h2, h3⟩
          · exact ⟨q, by omega, rfl, h⟩
        · rintro ⟨p, h1, h2, h3⟩
          by_cases hp : p = q
          · subst hp; exact .inr h2
          · exact .inl ⟨p, by omega, h2, h3⟩
      · by_cases hiq : i = q
        · subst hiq
          rw [kapp_two hg h hR (by omega), List.getElem?_append_right (by omega), hl]; simp
        · rw [List.getElem?_append_left (by omega)]; exact hk i (by omega)
    have one : q ≠ g → ¬ Hangs Rs q (g + 1) → (kindsF g ls bs (q + 1) mask (ks ++ [1])).length = q + 1 + bs.length ∧ ∀ i, i < q + 1 + bs.length → (kindsF g ls bs (q + 1) mask (ks ++ [1]))[i]? = some (kapp i g (ancN Rs i)) := fun hn h => by
      refine ih (q + 1) _ _ hq' hb' (by rw [Nat.pow_succ 2 (q + 1)]; omega) (fun x => ?_) (by simp [hl]) (fun i hi => ?_)
      · rw [hm x]
        constructor
        · rintro ⟨p, h1, h2, h3⟩
          exact ⟨p, by omega, h2, h3⟩
        · rintro ⟨p, h1, h2, h3⟩
          by_cases hp : p = q
          · subst hp; exact (h3.elim hn h).elim
          · exact ⟨p, by omega, h2, h3⟩
      · by_cases hiq : i = q
        · subst hiq
          rw [kapp_one hn h, List.getElem?_append_right (by omega), hl]; simp
        · rw [List.getElem?_append_left (by omega)]; exact hk i (by omega)
    unfold kindsF
    by_cases h1 : q = g
    · rw [if_pos h1]; exact two (.inl h1)
    · rw [if_neg h1]
      by_cases h2 : b = true ∧ g < q
      · rw [if_pos h2]
        have hne : Rs q ≠ [] := someN_iff.1 (hb0 ▸ h2.1)
        rw [hls q (by omega) hne]
        by_cases h3 : (Rs q).any (fun x => Nat.testBit mask x) = true
        · rw [if_pos h3]; exact two (.inr ((any_kind hR (by omega) hm).1 h3))
        · rw [if_neg h3]; exact one h1 fun h => h3 ((any_kind hR (by omega) hm).2 h)
      · rw [if_neg h2]
        refine one h1 fun h => h2 ⟨?_, ?_⟩
        · rw [hb0]
          refine someN_iff.2 fun e => ?_
          cases h with
          | one h => rw [e] at h; cases h
          | more h _ => rw [e] at h; cases h
        · have := (h.le hR (by omega)).2; omega
end Go.Proofs.YtbilacojhmohmaaGreat.Ae
