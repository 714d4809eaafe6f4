/- Regions that draw their order: the run in the planned order, whole. No condition. -/
import Derived.Test.YtbilacojhmohmaaGreatAeDraw3
namespace Go.Proofs.YtbilacojhmohmaaGreat.Ae
open Go
set_option linter.unusedVariables false
set_option linter.unusedSimpArgs false

/-- what is known of a run so far -/
structure Known (call : Call) (M : List Nat) (lt : Option Nat) (T0 T : AAct) (hs : List AW) (dn : List (Nat × CR)) : Prop where
  len : hs.length = (effL dn).length + 1
  facts : Facts call M T hs dn
  beside : Beside T0 T dn
  ok : OKL M lt dn

theorem split_mem {dn : List (Nat × CR)} {p : Nat × CR} (h : p ∈ dn) : ∃ newer older, dn = newer ++ p :: older := List.append_of_mem h
theorem effL_sub {l : List (Nat × CR)} {e : Nat} (h : e ∈ effL l) : ∃ it, (e, it) ∈ l ∧ it.kind = 2 := by
  induction l with
  | nil => simp [effL] at h
  | cons p l ih =>
    obtain ⟨i, it⟩ := p
    simp only [effL] at h
    cases hk : Nat.beq it.kind 2 with
    | true =>
      simp only [hk, cond_true, List.mem_append, List.mem_singleton] at h
      rcases h with h | rfl
      · obtain ⟨jt, h1, h2⟩ := ih h; exact ⟨jt, by simp [h1], h2⟩
      · exact ⟨it, by simp, Nat.eq_of_beq_eq_true hk⟩
    | false =>
      simp only [hk, cond_false] at h
      obtain ⟨jt, h1, h2⟩ := ih h; exact ⟨jt, by simp [h1], h2⟩

theorem effL_append (l m : List (Nat × CR)) : effL (l ++ m) = effL m ++ effL l := by
  induction l with
  | nil => simp [effL]
  | cons p l ih =>
    obtain ⟨i, it⟩ := p
    simp only [List.cons_append, effL, ih]
    cases Nat.beq it.kind 2 <;> simp

theorem drawA_run {P : Program} {call : Call} {ops : Array Oper} {M : List Nat} {lt : Option Nat} {T0 : AAct} {o : Out} (hn : o.x = .norm) : ∀ (ord : List Nat) (done : List (Nat × CR)) {r : List CR} {dn : List (Nat × CR)} {a : AAct} {aw : AW} {hs : List AW}, cDrawA P ops M lt ord done = some (r, dn) → xitems call r a aw = some o →
    Known call M lt T0 a hs done → hs[(effL done).length]? = some aw → ∃ hs', Known call M lt T0 o.act hs' dn ∧ hs'[(effL dn).length]? = some o.aw ∧ hs'[0]? = hs[0]? ∧ ∀ p ∈ dn, p ∈ done ∨ ∃ o, ops[p.1]? = some o ∧ cItem P ops o = some p.2
  | [], done, r, dn, a, aw, hs, hc, hx, hK, hl => by
    simp [cDrawA] at hc
    obtain ⟨rfl, rfl⟩ := hc
    simp [xitems] at hx; subst hx
    exact ⟨hs, hK, hl, rfl, fun p hp => .inl hp⟩
  | i :: ord, done, r, dn, a, aw, hs, hc, hx, hK, hl => by
    simp only [cDrawA] at hc
    split at hc <;> (try (cases hc; done))
    rename_i op hop
    split at hc <;> (try (cases hc; done))
    rename_i it hit
    cases hb : (Nat.ble it.kind 2 && (okNew M i it done && (okSelf it && okStage M lt i it done))) <;> simp only [hb, cond_true, cond_false, reduceCtorEq] at hc
    simp only [Bool.and_eq_true] at hb
    obtain ⟨b1, b2, b3, b4⟩ := hb
    have b1 := Nat.le_of_ble_eq_true b1
    split at hc <;> (try (cases hc; done))
    rename_i r' dn' hrec
    simp at hc; obtain ⟨rfl, rfl⟩ := hc
    have hself : ∀ j jt, (j, jt) ∈ done → okSelf jt = true := fun j jt hm => by
      obtain ⟨n, ol, e⟩ := split_mem hm
      exact (hK.ok n j jt ol e).2.2.1
    have hpair : ∀ j jt, (j, jt) ∈ done → okPair M i it j jt = true := okNew_mem b2
    obtain ⟨a', aw', hI, hx', hn', hd', hot⟩ := item_step hx hn b1 b3
    -- what was known, in the new frame
    have stable : ∀ j jt h h', (j, jt) ∈ done → ItemAt call a jt h h' → ItemAt call a' jt h h' := fun j jt h h' hm hi => by
      obtain ⟨_, _, q3⟩ := okPair_inv (hpair j jt hm)
      refine hi.mono hn' (fun t ht => hot t fun e => (q3 t e).1 ht) fun d hd => hot d fun e => (q3 d e).2 hd
    have hbes : Beside T0 a' ((i, it) :: done) := by
      obtain ⟨c1, c2, c3⟩ := hK.beside
      exact ⟨hn'.trans c1, hd'.trans c2, fun t ht => by rw [hot t (ht (i, it) (by simp))]; exact c3 t fun p hp => ht p (by simp [hp])⟩
    have hokl : OKL M lt ((i, it) :: done) := fun newer j jt older e => by
      cases newer with
      | nil => simp at e; obtain ⟨⟨rfl, rfl⟩, rfl⟩ := e; exact ⟨b1, b2, b3, b4⟩
      | cons p newer => simp at e; exact hK.ok newer j jt older e.2
    have some1 : ∀ j jt, (j, jt) ∈ done → jt.kind = 1 → ∃ h, ItemAt call a' jt h h := fun j jt hm hk => by
      obtain ⟨n, ol, e⟩ := split_mem hm
      obtain ⟨_, _, _, f1⟩ := hK.facts n j jt ol e
      have hlt : (effL ol).length < hs.length := by
        rw [hK.len, e, effL_append]
        simp only [effL, List.length_append]
        cases Nat.beq jt.kind 2 <;> simp <;> omega
      exact ⟨_, stable j jt _ _ hm (f1 hk _ _ (List.getElem?_eq_getElem hlt) (Nat.le_refl _) fun q e h1 h2 => by omega)⟩
    cases hk2 : Nat.beq it.kind 2 with
    | false =>
      rw [hk2] at hx'
      simp only [cond_false, List.nil_append] at hx'
      have hk2' : it.kind ≠ 2 := ne_of_beq hk2
      have haw : aw' = aw := by
        have : it.kind = 0 ∨ it.kind = 1 := by omega
        rcases this with hk | hk
        · exact (hI.kind0 (h2 := aw) hk).1
        · exact hI.kind1 hk
      subst haw
      have heff : effL ((i, it) :: done) = effL done := by simp [effL, hk2]
      have hK' : Known call M lt T0 a' hs ((i, it) :: done) := by
        refine ⟨by rw [heff]; exact hK.len, fun newer j jt older e => ?_, hbes, hokl⟩
        rw [heff]
        cases newer with
        | nil =>
          simp at e; obtain ⟨⟨rfl, rfl⟩, rfl⟩ := e
          refine ⟨b1, fun h => (hk2' h).elim, fun h m x hx => (hI.kind0 h).2, fun h m x hx hm _ => ?_⟩
          have hlt := (List.getElem?_eq_some_iff.1 hx).1
          rw [hK.len] at hlt
          have : m = (effL done).length := by omega
          subst this
          rw [hl] at hx; injection hx with hx; subst hx
          exact hI
        | cons p newer =>
          simp at e
          obtain ⟨_, e⟩ := e
          have hm : (j, jt) ∈ done := by rw [e]; simp
          obtain ⟨f0, f2, f3, f4⟩ := hK.facts newer j jt older e
          refine ⟨f0, fun h => ?_, fun h m x hx => stable j jt _ _ hm (f3 h m x hx), fun h m x hx h1 h2 => stable j jt _ _ hm (f4 h m x hx h1 h2)⟩
          obtain ⟨x, x', g1, g2, g3⟩ := f2 h
          exact ⟨x, x', g1, g2, stable j jt _ _ hm g3⟩
      obtain ⟨hs', k1, k2, k3, k4⟩ := drawA_run hn ord ((i, it) :: done) hrec hx' hK' (by rw [heff]; exact hl)
      refine ⟨hs', k1, k2, k3, fun p hp => ?_⟩
      rcases k4 p hp with h | h
      · rcases List.mem_cons.1 h with rfl | h
        · exact .inr ⟨op, hop, hit⟩
        · exact .inl h
      · exact .inr h
    | true =>
      rw [hk2] at hx'
      simp only [cond_true] at hx'
      have hk2' := Nat.eq_of_beq_eq_true hk2
      obtain ⟨hx2, hchk⟩ := chks_run some1 hself hx'
      have heff : effL ((i, it) :: done) = effL done ++ [i] := by simp [effL, hk2]
      have hlen : (effL ((i, it) :: done)).length = (effL done).length + 1 := by rw [heff]; simp
      have hold : ∀ (m : Nat) x, m < hs.length → (hs ++ [aw'])[m]? = some x → hs[m]? = some x := fun m x hm hx => by
        rw [List.getElem?_append_left hm] at hx; exact hx
      have hnew : ∀ (m : Nat) x, (hs ++ [aw'])[m]? = some x → m < hs.length ∨ (m = hs.length ∧ x = aw') := fun m x hx => by
        rcases Nat.lt_or_ge m hs.length with q | q
        · exact .inl q
        · rw [List.getElem?_append_right q] at hx
          have : m - hs.length = 0 := by
            rcases Nat.eq_zero_or_pos (m - hs.length) with z | z
            · exact z
            · rw [List.getElem?_eq_none (by simp; omega)] at hx; cases hx
          rw [this] at hx; simp at hx
          exact .inr ⟨by omega, hx.symm⟩
      have hK' : Known call M lt T0 a' (hs ++ [aw']) ((i, it) :: done) := by
        refine ⟨by rw [hlen]; simp [hK.len], fun newer j jt older e => ?_, hbes, hokl⟩
        cases newer with
        | nil =>
          simp at e; obtain ⟨⟨rfl, rfl⟩, rfl⟩ := e
          refine ⟨b1, fun _ => ⟨aw, aw', ?_, ?_, hI⟩, fun h => by omega, fun h => by omega⟩
          · rw [List.getElem?_append_left (by rw [hK.len]; omega)]; exact hl
          · rw [List.getElem?_append_right (by rw [hK.len]; omega), hK.len]; simp
        | cons p newer =>
          simp at e
          obtain ⟨_, e⟩ := e
          have hm : (j, jt) ∈ done := by rw [e]; simp
          obtain ⟨f0, f2, f3, f4⟩ := hK.facts newer j jt older e
          have hol : (effL older).length ≤ (effL done).length := by
            rw [e, effL_append]; simp only [effL, List.length_append]
            cases Nat.beq jt.kind 2 <;> simp <;> omega
          refine ⟨f0, fun h => ?_, fun h m x hx => ?_, fun h m x hx h1 h2 => ?_⟩
          · obtain ⟨x, x', g1, g2, g3⟩ := f2 h
            refine ⟨x, x', ?_, ?_, stable j jt _ _ hm g3⟩
            · rw [List.getElem?_append_left (List.getElem?_eq_some_iff.1 g1).1]; exact g1
            · rw [List.getElem?_append_left (List.getElem?_eq_some_iff.1 g2).1]; exact g2
          · have h0 : hs[0]? = some (hs[0]'(by rw [hK.len]; omega)) := List.getElem?_eq_getElem _
            exact ((stable j jt _ _ hm (f3 h 0 _ h0)).kind0 h).2
          · rcases hnew m x hx with q | ⟨rfl, rfl⟩
            · refine stable j jt _ _ hm (f4 h m x (hold m x q hx) h1 fun q e h3 h4 h5 => h2 q e h3 h4 ?_)
              rw [heff, List.getElem?_append_left (List.getElem?_eq_some_iff.1 h5).1]; exact h5
            · refine hchk j jt hm h (h2 (effL done).length i hol ?_ ?_)
              · rw [hK.len]; omega
              · rw [heff, List.getElem?_append_right (Nat.le_refl _)]; simp
      obtain ⟨hs', k1, k2, k3, k4⟩ := drawA_run hn ord ((i, it) :: done) hrec hx2 hK' (by rw [hlen, List.getElem?_append_right (by rw [hK.len]; omega), hK.len]; simp)
      refine ⟨hs', k1, k2, ?_, fun p hp => ?_⟩
      · rw [k3, List.getElem?_append_left (by rw [hK.len]; omega)]
      · rcases k4 p hp with h | h
        · rcases List.mem_cons.1 h with rfl | h
          · exact .inr ⟨op, hop, hit⟩
          · exact .inl h
        · exact .inr h
end Go.Proofs.YtbilacojhmohmaaGreat.Ae
