/- Regions that draw their order are sound. No condition. -/
import Derived.Test.YtbilacojhmohmaaGreatAeDraw7
namespace Go.Proofs.YtbilacojhmohmaaGreat.Ae
open Go
set_option linter.unusedVariables false
set_option linter.unusedSimpArgs false

theorem filter_less {p p' : Nat → Bool} {i : Nat} : ∀ {l : List Nat}, l.Nodup → i ∈ l → p i = true → p' i = false → (∀ j, j ≠ i → p' j = p j) → (l.filter p').length + 1 = (l.filter p).length
  | [], _, h, _, _, _ => by simp at h
  | x :: l, hn, hm, h1, h2, h3 => by
    have hn' := List.nodup_cons.1 hn
    by_cases e : x = i
    · subst e
      have : l.filter p' = l.filter p := List.filter_congr fun j hj => h3 j fun e => hn'.1 (e ▸ hj)
      simp [List.filter_cons, h1, h2, this]
    · have hm' : i ∈ l := by rcases List.mem_cons.1 hm with q | q; exact (e q.symm).elim; exact q
      have ih := filter_less hn'.2 hm' h1 h2 h3
      simp only [List.filter_cons, h3 x e]
      cases p x <;> simp <;> omega

theorem edgesOK_spec {ops : Array Oper} : ∀ {n i : Nat} {o : Oper}, edgesOK ops n = true → i < n → ops[i]? = some o → ∀ e ∈ o.after, Region.binds .any e = true → e.on < i
  | 0, i, o, _, hi, _, _, _, _ => by omega
  | n + 1, i, o, h, hi, ho, e, he, hb => by
    simp only [edgesOK, Bool.and_eq_true] at h
    by_cases q : i = n
    · subst q
      rw [ho] at h
      have h1 := List.all_eq_true.1 h.1 e (by simpa using he)
      rw [hb] at h1
      simp only [Bool.not_true, Bool.false_or] at h1
      exact Nat.le_of_ble_eq_true h1
    · exact edgesOK_spec h.2 (by omega) ho e he hb
theorem allAdj_spec {ops : Array Oper} {i : Nat} : ∀ {n j : Nat}, allAdj ops i n = true → j < n → adjB ops i j = true
  | 0, j, _, h => by omega
  | n + 1, j, h, hj => by
    simp only [allAdj, Bool.and_eq_true] at h
    by_cases q : j = n
    · subst q; exact h.1
    · exact allAdj_spec h.2 (by omega)
theorem adjB_spec {ops : Array Oper} {i j : Nat} (h : adjB ops i j = true) : ∃ o e, ops[i]? = some o ∧ e ∈ o.after ∧ Region.binds .any e = true ∧ e.on = j := by
  unfold adjB at h
  split at h <;> (try (cases h; done))
  rename_i o ho
  obtain ⟨e, he, hb⟩ := List.any_eq_true.1 h
  simp only [Bool.and_eq_true] at hb
  exact ⟨o, e, ho, by simpa using he, hb.1, Nat.eq_of_beq_eq_true hb.2⟩

section
variable {P : Program} {ops : Array Oper} {Q : Exit → Act → World → Prop}

theorem wpAny_seq {s : Nat} (hseq : ∀ i, s ≤ i → i < ops.size → ∀ j, j < i → adjB ops i j = true) (hed : edgesOK ops ops.size = true) : ∀ (r m : Nat) (X : Array Bool) (a : Act) (w : World), m + r = ops.size → s ≤ m → X.size = ops.size → (∀ j, j < ops.size → (X.getD j false = true ↔ j < m)) →
    wpOps P ops Q (List.range' m r) a w → wpAny P .any ops Q r X a w
  | 0, m, X, a, w, hm, hs, hX, hl, h => by
    refine ⟨?_, h⟩
    rw [List.eq_nil_iff_forall_not_mem]
    intro i hi
    obtain ⟨h1, o, ho, _⟩ := mem_ready.1 hi
    have hlt := (Array.getElem?_eq_some_iff.1 ho).1
    have h2 := (hl i hlt).2 (by omega)
    rw [show X.getD i true = X.getD i false by simp [Array.getD, hX, hlt]] at h1
    rw [h1] at h2; cases h2
  | r + 1, m, X, a, w, hm, hs, hX, hl, h => by
    have hmlt : m < ops.size := by omega
    have hready : m ∈ Region.ready .any ops X := by
      refine mem_ready.2 ⟨?_, ops[m], Array.getElem?_eq_getElem hmlt, fun e he hb => ?_⟩
      · rw [show X.getD m true = X.getD m false by simp [Array.getD, hX, hmlt]]
        cases hq : X.getD m false with
        | false => rfl
        | true => have := (hl m hmlt).1 hq; omega
      · have := edgesOK_spec hed hmlt (Array.getElem?_eq_getElem hmlt) e he hb
        exact (hl e.on (by omega)).2 this
    refine ⟨fun q => by rw [q] at hready; simp at hready, fun i hi => ?_⟩
    obtain ⟨h1, o, ho, hal⟩ := mem_ready.1 hi
    have hlt := (Array.getElem?_eq_some_iff.1 ho).1
    have hge : m ≤ i := by
      rcases Nat.lt_or_ge i m with q | q
      · have h2 := (hl i hlt).2 q
        rw [show X.getD i true = X.getD i false by simp [Array.getD, hX, hlt]] at h1
        rw [h1] at h2; cases h2
      · exact q
    have him : i = m := by
      rcases Nat.eq_or_lt_of_le hge with q | q
      · exact q.symm
      · obtain ⟨o', e, ho', he, hb, hon⟩ := adjB_spec (hseq i (by omega) hlt m q)
        rw [ho] at ho'; injection ho' with ho'; subst ho'
        have := hal e he hb
        rw [hon] at this
        have := (hl m hmlt).1 this; omega
    subst him
    rw [List.range'_succ, wpOps_cons] at h
    refine wpOp_mono (fun a' w' h' => wpAny_seq hseq hed r (i + 1) _ a' w' (by omega) (by omega) (by simp [hX]) (fun j hj => ?_) h') h
    by_cases q : i = j
    · subst q; simp [hX, hj]
    · rw [getD_set_ne false q, hl j hj]; omega
end

section
variable {P : Program} {call : Call} {ops : Array Oper} {lt : Option Nat} {T T0 : AAct} {hs : List AW} {dn : List (Nat × CR)} {s : Nat} {E0 E' : Env} {X : Array Bool} {a : Act} {w : World} {pd : Bool} {k : Nat} {h : AW}

/-- caught up -/
theorem Inv.caught (hP : Plan P call ops lt T hs dn s T0) (hI : Inv ops lt T hs dn E0 X a w pd E' k h) :
    ∃ pd2 E2 k2 h2, Inv ops lt T hs dn E0 X a w pd2 E2 k2 h2 ∧ (pd2 = true → ∀ ℓ lit n2 o2, lt = some ℓ → dn = n2 ++ (ℓ, lit) :: o2 → k2 < (effL o2).length) := by
  cases pd with
  | false => exact ⟨false, E', k, h, hI, fun e => Bool.noConfusion e⟩
  | true =>
    by_cases hk : ∃ ℓ lit n2 o2, lt = some ℓ ∧ dn = n2 ++ (ℓ, lit) :: o2 ∧ k = (effL o2).length
    · obtain ⟨E2, h2, hI2⟩ := hI.catch_ hP hk
      exact ⟨false, E2, k + 1, h2, hI2, fun e => Bool.noConfusion e⟩
    · refine ⟨true, E', k, h, hI, fun _ ℓ lit n2 o2 hl he => ?_⟩
      obtain ⟨ℓ', _, _, _, _, _, _, _, _, _, hl', _, _, _, _, _, _, _, hb⟩ := (hI.pend rfl).ex
      rw [hl] at hl'; injection hl' with hl'; subst hl'
      have h1 := hb n2 lit o2 he
      have h2 : k ≠ (effL o2).length := fun e => hk ⟨ℓ, lit, n2, o2, hl, he, e⟩
      omega

theorem draw_any (hcall : CallOK P call) (hP : Plan P call ops lt T hs dn s T0) (hss : s ≤ ops.size) (hseq : ∀ i, s ≤ i → i < ops.size → ∀ j, j < i → adjB ops i j = true) (hed : edgesOK ops ops.size = true) {Q : Exit → Act → World → Prop}
    (hQ : ∀ X a w E' k h, Inv ops lt T hs dn E0 X a w false E' k h → (∀ i, i < s → X.getD i false = true) → wpOps P ops Q (List.range' s (ops.size - s)) a w) :
    ∀ (m : Nat) (X : Array Bool) (a : Act) (w : World), ((List.range s).filter fun i => !X.getD i false).length = m → X.size = ops.size → Down ops X → (∀ i, s ≤ i → X.getD i false = false) →
      (∃ pd E' k h, Inv ops lt T hs dn E0 X a w pd E' k h) → wpAny P .any ops Q (m + (ops.size - s)) X a w
  | 0, X, a, w, hm, hX, hD, hge, ⟨pd, E', k, h, hI⟩ => by
    have hall : ∀ i, i < s → X.getD i false = true := fun i hi => by
      cases hq : X.getD i false with
      | true => rfl
      | false =>
        have : i ∈ (List.range s).filter fun i => !X.getD i false := by
          rw [List.mem_filter]
          exact ⟨by simpa using hi, by rw [hq]; rfl⟩
        rw [List.length_eq_zero_iff.1 hm] at this; simp at this
    have hno : ∃ E2 k2 h2, Inv ops lt T hs dn E0 X a w false E2 k2 h2 := by
      obtain ⟨pd2, E2, k2, h2, hI2, hst⟩ := hI.caught hP
      cases pd2 with
      | false => exact ⟨E2, k2, h2, hI2⟩
      | true =>
        -- the late one waits still: but all that come before it have come up
        obtain ⟨ℓ, _, d, c, _, _, _, _, _, _, hl, hXl, hml, _⟩ := (hI2.pend rfl).ex
        obtain ⟨n1, o1, e1⟩ := split_mem hml
        have hlt := hst rfl ℓ _ n1 o1 hl e1
        have hlt2 : k2 < (effL dn).length := by
          rw [e1, effL_append]; simp only [effL, List.length_append]
          cases Nat.beq (CR.op (some d) none c).kind 2 <;> simp <;> omega
        have he : (effL dn)[k2]? = some ((effL dn)[k2]'hlt2) := List.getElem?_eq_getElem hlt2
        obtain ⟨jt, hm2, _⟩ := effL_sub (List.getElem_mem hlt2)
        rcases hI2.st2 k2 _ he (hall _ (hP.alllt _ hm2)) with q | ⟨_, q⟩
        · omega
        · obtain ⟨n2, lit2, o2, e2, e3⟩ := effL_split he
          have := hst rfl _ lit2 n2 o2 q e2
          omega
    obtain ⟨E2, k2, h2, hI2⟩ := hno
    rw [Nat.zero_add]
    refine wpAny_seq hseq hed _ s X a w (by omega) (Nat.le_refl _) hX (fun j hj => ⟨fun q => ?_, fun q => hall j q⟩) (hQ X a w E2 k2 h2 hI2 hall)
    rcases Nat.lt_or_ge j s with q2 | q2
    · exact q2
    · rw [hge j q2] at q; cases q
  | m + 1, X, a, w, hm, hX, hD, hge, ⟨pd, E', k, h, hI⟩ => by
    obtain ⟨pd2, E2, k2, h2, hI2, hst⟩ := hI.caught hP
    rw [show m + 1 + (ops.size - s) = (m + (ops.size - s)) + 1 by omega]
    refine ⟨fun hnil => ?_, fun i hi => ?_⟩
    · -- the least that has not come up may
      exfalso
      have hex : ∃ i, i < s ∧ X.getD i false = false ∧ ∀ j, j < i → X.getD j false = true := by
        have key : ∀ n, n ≤ s → (∃ i, i < n ∧ X.getD i false = false ∧ ∀ j, j < i → X.getD j false = true) ∨ (∀ j, j < n → X.getD j false = true) := by
          intro n
          induction n with
          | zero => intro _; exact .inr fun j hj => by omega
          | succ n ih =>
            intro hn
            rcases ih (by omega) with ⟨i, h1, h2, h3⟩ | h1
            · exact .inl ⟨i, by omega, h2, h3⟩
            · cases hq : X.getD n false with
              | false => exact .inl ⟨n, by omega, hq, h1⟩
              | true =>
                right
                intro j hj
                rcases Nat.lt_or_ge j n with q | q
                · exact h1 j q
                · have : j = n := by omega
                  subst this; exact hq
        rcases key s (Nat.le_refl _) with q | q
        · exact q
        · have : (List.range s).filter (fun i => !X.getD i false) = [] := by
            rw [List.filter_eq_nil_iff]
            intro i hi
            rw [q i (by simpa using hi)]; simp
          rw [this] at hm; simp at hm
      obtain ⟨i, h1, h2, h3⟩ := hex
      have hlt : i < ops.size := by omega
      have : i ∈ Region.ready .any ops X := by
        refine mem_ready.2 ⟨?_, ops[i], Array.getElem?_eq_getElem hlt, fun e he hb => ?_⟩
        · rw [show X.getD i true = X.getD i false by simp [Array.getD, hX, hlt]]; exact h2
        · exact h3 _ (edgesOK_spec hed hlt (Array.getElem?_eq_getElem hlt) e he hb)
      rw [hnil] at this; simp at this
    · obtain ⟨h1, o, ho, hal⟩ := mem_ready.1 hi
      have hlt := (Array.getElem?_eq_some_iff.1 ho).1
      have hx : X.getD i false = false := by
        rw [show X.getD i false = X.getD i true by simp [Array.getD, hX, hlt]]; exact h1
      have his : i < s := by
        rcases Nat.lt_or_ge i s with q | q
        · exact q
        · exfalso
          have hall : ∀ j, j < s → X.getD j false = true := fun j hj => by
            obtain ⟨o', e, ho', he, hb, hon⟩ := adjB_spec (hseq i q hlt j (by omega))
            rw [ho] at ho'; injection ho' with ho'; subst ho'
            rw [← hon]; exact hal e he hb
          have : (List.range s).filter (fun i => !X.getD i false) = [] := by
            rw [List.filter_eq_nil_iff]
            intro j hj
            rw [hall j (by simpa using hj)]; simp
          rw [this] at hm; simp at hm
      refine wpOp_mono (fun a' w' h' => draw_any hcall hP hss hseq hed hQ m _ a' w' ?_ (by simp [hX]) ?_ (fun j hj => ?_) h') (hI2.step hcall hP hss hst hD hX his hx ⟨o, ho, hal⟩)
      · have := filter_less (p := fun i => !X.getD i false) (p' := fun j => !(X.setIfInBounds i true).getD j false) (i := i) (l := List.range s) List.nodup_range (by simpa using his) (by simp [hx]) (by simp [hX, hlt]) fun j hj => by rw [getD_set_ne false (Ne.symm hj)]
        omega
      · intro j oj hj hoj e he hb
        have old : ∀ j, X.getD j false = true → (X.setIfInBounds i true).getD j false = true := fun j hj => by
          by_cases q : i = j
          · subst q; simp [hX, hlt]
          · rw [getD_set_ne false q]; exact hj
        rcases getD_set hj with rfl | hj
        · rw [ho] at hoj; injection hoj with hoj; subst hoj
          exact old _ (hal e he hb)
        · exact old _ (hD j oj hj hoj e he hb)
      · rw [getD_set_ne false (by omega)]; exact hge j hj
end

theorem draw_ok {P : Program} (hmix : P.follows .mixedOrders = true) (call : Call) (hcall : CallOK P call) : DrawOK P call (cDraw P) := by
  have main : ∀ ops s lt ord l r, cDrawAt P ops s lt ord = some (l, r) → ∀ id E a ca aw w o out, xitems call l a aw = some o → o.x = .norm → xitems call r o.act o.aw = some out → ActRel E a ca → Rel E aw w → (Code.region id ops true).wp P (Post E out) ca w := by
    intro ops s lt ord l r hc id E a ca aw w o out hx hn hx2 hA hR
    unfold cDrawAt at hc
    split at hc <;> (try (cases hc; done))
    rename_i r1 dn hrec
    cases hb : (Nat.ble s ops.size && (allIn s dn && (allLt s dn && (seqOK ops s && (okLate ops lt && edgesOK ops ops.size))))) <;> simp only [hb, cond_true, cond_false, reduceCtorEq] at hc
    simp only [Bool.and_eq_true] at hb
    obtain ⟨b1, b2, b3, b4, b5, b6⟩ := hb
    split at hc <;> (try (cases hc; done))
    rename_i b hb7
    simp at hc; obtain ⟨rfl, rfl⟩ := hc
    have hss := Nat.le_of_ble_eq_true b1
    have hK0 : Known call (masks ops ops.size) lt a a [aw] [] := ⟨rfl, fun newer i it older e => by simp at e, ⟨rfl, rfl, fun _ _ => rfl⟩, fun newer i it older e => by simp at e⟩
    obtain ⟨hs, hK, hlast, hzero, hitems⟩ := drawA_run hn ord [] hrec hx hK0 rfl
    have hP : Plan P call ops lt o.act hs dn s a := by
      refine ⟨hK, fun p hp => ?_, fun i hi => ?_, fun p hp => ?_, b5⟩
      · rcases hitems p hp with q | q
        · simp at q
        · exact q
      · have := List.all_eq_true.1 b2 i (by simpa using hi)
        obtain ⟨p, hp, hpi⟩ := List.any_eq_true.1 this
        obtain ⟨j, it⟩ := p
        have := Nat.eq_of_beq_eq_true hpi
        simp only at this; subst this
        exact ⟨it, hp⟩
      · have := List.all_eq_true.1 b3 p hp
        exact Nat.le_of_ble_eq_true this
    have hseq : ∀ i, s ≤ i → i < ops.size → ∀ j, j < i → adjB ops i j = true := fun i h1 h2 j hj => by
      have := List.all_eq_true.1 b4 i (by rw [List.mem_range'_1]; omega)
      exact allAdj_spec this hj
    have hX0 : ∀ i, (Array.replicate ops.size false).getD i false = false := fun i => by
      simp [Array.getD]
    refine wp_region_any hmix ?_
    have hfil : ((List.range s).filter fun i => !(Array.replicate ops.size false).getD i false).length = s := by
      rw [List.filter_eq_self.2 fun i _ => by rw [hX0 i]; rfl]
      simp
    have hgo := draw_any (E0 := E) (Q := Post E out) hcall hP hss hseq b6 (fun X a' w' E' k h hI hall => ?_) s (Array.replicate ops.size false) ca { w with drawn := w.drawn + 1 } hfil (by simp)
      (fun i o hi => by rw [hX0 i] at hi; cases hi) (fun i _ => hX0 i) ⟨false, E, 0, aw, ⟨⟨[], by simp⟩, rfl, hzero, hR.world ⟨rfl, rfl⟩ rfl, by rw [hK.beside.1]; exact hA.size, by rw [hK.beside.2.1]; exact hA.defs, (fun q e _ h => by omega), (fun q e _ hXe => by rw [hX0 e] at hXe; cases hXe), fun t v hv hj => ?_, fun e => Bool.noConfusion e, fun _ => rfl⟩⟩
    · rw [show s + (ops.size - s) = ops.size by omega] at hgo
      exact hgo
    · -- behind the first part
      have hk : k = (effL dn).length := by
        have h1 := (List.getElem?_eq_some_iff.1 hI.at_).1
        rw [hK.len] at h1
        rcases Nat.lt_or_ge k (effL dn).length with q | q
        · have he : (effL dn)[k]? = some ((effL dn)[k]'q) := List.getElem?_eq_getElem q
          obtain ⟨jt, hm2, _⟩ := effL_sub (List.getElem_mem q)
          rcases hI.st2 k _ he (hall _ (hP.alllt _ hm2)) with q1 | ⟨q1, _⟩
          · omega
          · cases q1
        · omega
      subst hk
      have := hI.at_
      rw [hlast] at this; injection this with this; subst this
      have hle : E.Le E' := ⟨hI.loc, hI.sym, hI.free rfl⟩
      refine items_sound hcall _ hb7 hx2 ⟨hI.size, fun t v hv => hI.tm t v hv fun j jt hm2 hd2 => ⟨hall j (hP.alllt _ hm2), fun q => Bool.noConfusion q.1⟩, hI.defs⟩ hI.rel fun e a w hp => hp.mono hle
    · refine hA.tmps t v ?_
      rw [← hK.beside.2.2 t fun p hp hd => ?_]
      · exact hv
      · obtain ⟨j, jt⟩ := p
        have := (hj j jt hp hd).1
        rw [hX0 j] at this; cases this
  intro ops l r hc
  unfold cDraw at hc
  simp only at hc
  split at hc
  · rename_i q hq
    simp at hc; subst hc
    exact main ops _ _ _ l r hq
  · have late : ∀ is l r, tryLate P ops (tailFrom ops ops.size) is = some (l, r) → ∃ i, cDrawAt P ops (tailFrom ops ops.size) (some i) (greedy P ops (some i) (tailFrom ops ops.size) (tailFrom ops ops.size) []) = some (l, r) := by
      intro is
      induction is with
      | nil => intro l r h; simp [tryLate] at h
      | cons i is ih =>
        intro l r h
        simp only [tryLate] at h
        split at h <;> (try (cases h; done))
        rename_i it _
        cases hl : it.late <;> simp only [hl, cond_true, cond_false] at h
        · exact ih l r h
        · split at h
          · rename_i q hq
            simp at h; subst h
            exact ⟨i, hq⟩
          · exact ih l r h
    obtain ⟨i, hi⟩ := late _ l r hc
    exact main ops _ _ _ l r hi
end Go.Proofs.YtbilacojhmohmaaGreat.Ae
