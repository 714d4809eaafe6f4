/- slices.Sorted of the shelf's keys as a summary. No condition. -/
import Derived.Test.YtbilacojhmohmaaGreatBeThree
import Derived.Test.YtbilacojhmohmaaGreatAeKeys2
namespace Go.Proofs.YtbilacojhmohmaaGreat.Ae
open Go Go.Maps Go.RowKit
set_option linter.unusedVariables false
set_option linter.unusedSimpArgs false

theorem sort_nil : retT (cAny 318 [.slc none 0 (.known 0)] ⟨.leaf, 0, 0⟩) = true := by kernel_rfl
theorem tup0 {E : Env} {cv : Value} (h : VRel E (.tuple []) cv) : cv = .tuple #[] := by
  cases h with
  | tuple hl =>
    rename_i cs
    generalize hq : cs.toList = q at hl
    cases hl
    rw [Array.toList_inj.1 (by rw [hq] : cs.toList = (#[] : Array Value).toList)]
theorem plain_cellsN : ∀ l : List Nat, plainL (cellsN l) = true
  | [] => rfl
  | x :: l => by
    have := plain_cellsN l
    show (plainL (.int .u32 (.ofNat x) :: cellsN l)) = true
    simp [plainL, AV.plain] at this ⊢
    exact this
theorem onlyN_congr {l m : List Nat} (h : ∀ x, x ∈ l ↔ x ∈ m) : ∀ u : List Nat, onlyN l u = onlyN m u
  | [] => rfl
  | y :: u => by
    have e1 : onlyN l (y :: u) = bb2 (memS y l) (y :: onlyN l u) (onlyN l u) := rfl
    have e2 : onlyN m (y :: u) = bb2 (memS y m) (y :: onlyN m u) (onlyN m u) := rfl
    have e3 : memS y l = memS y m := by
      cases h1 : memS y l <;> cases h2 : memS y m <;> first | rfl | skip
      · have := memS_iff.2 ((h y).2 (memS_iff.1 h2)); rw [h1] at this; cases this
      · have := memS_iff.2 ((h y).1 (memS_iff.1 h1)); rw [h2] at this; cases this
    rw [e1, e2, e3, onlyN_congr h u]

/-- what Sort leaves of a row of keys -/
def Sorted (w : World) (v : Value) (ss : List Int) (W' : World) : Prop :=
  W'.os = w.os ∧ W'.output = w.output ∧ (∀ k, k < w.heap.size → W'.heap[k]? = w.heap[k]?) ∧ ∀ l : List Nat, ss = l.map Int.ofNat →
    (l = [] → v = .slice none 0 0) ∧ (l ≠ [] → ∃ gb cap, v = .slice (some ⟨gb, 0, none⟩) l.length cap ∧ w.heap.size ≤ gb ∧ l.length ≤ cap ∧ ∀ E, ORel E ⟨gb, 0, cap⟩ W' (.cells (cellsN (onlyN l tens)) 28 true))
theorem sort318 {H : Type} {D0 : DataW H} (w : World) (l : List Nat) (hn : l.Nodup) (hl : ∀ x ∈ l, x ∈ tens) (W : World) (v : Value) (hrow : W.ownsRow w.heap.size 28 1 v l.length ((l.map Int.ofNat).map encU)) (hnil : v = .slice none 0 0 ↔ l.map Int.ofNat = []) (hB : Below w.heap.size w W) :
    Calls Tryz.prog 318 #[v] W fun e W' => e = .returned (.tuple #[]) ∧ Sorted w v (l.map Int.ofNat) W' := by
  have inj : ∀ l' : List Nat, l.map Int.ofNat = l'.map Int.ofNat → l = l' := fun l' h => (List.map_inj_right (fun a b h => by injection h)).1 h
  rcases hrow.2 with ⟨rfl, h0⟩ | ⟨g, cap, cur, rfl, q1, q2, q3, q4, q5, q6⟩
  · have hw := sort_nil
    unfold retT at hw
    split at hw <;> (try (cases hw; done))
    rename_i aw1 h1
    refine (none_run cAny_ok h1 (cargs := [.slice none 0 0]) (.cons .nilSlc .nil)).mono fun e W' ⟨E1, cv, a1, a2, a3, a4, a5, a6, a7⟩ => ?_
    have hl0 : l = [] := List.length_eq_zero_iff.1 h0
    refine ⟨by rw [a3, tup0 a4], a5.trans hB.os, a6.trans hB.output, fun k hk => (a7 k (Nat.lt_of_lt_of_le hk hB.size)).trans (hB.block k hk), fun l' e => ?_⟩
    have := inj l' e; subst this
    exact ⟨fun _ => rfl, fun h => (h hl0).elim⟩
  · have hne : l ≠ [] := fun e => by subst e; have := hnil.2 rfl; cases this
    have hw := tens_all l hn hl
    unfold sortAt at hw
    split at hw <;> (try (cases hw; done))
    rename_i aw1 h1
    split at hw <;> (try (cases hw; done))
    rename_i l1 e1 h2
    rw [bb2_eq] at hw
    cases he : Nat.beq e1 28 <;> simp only [he, cond_true, cond_false, Bool.false_eq_true] at hw
    have := Nat.eq_of_beq_eq_true he; subst this
    have := sameInts_eq hw; subst this
    have ho : ORel (soloE W ⟨g, 0, cap * 1⟩) ⟨g, 0, cap * 1⟩ W (.cells (cellsN l) 28 true) := row_obj q2 q3 q5 q6 (cellsN_rel _ l)
    refine (solo_run cAny_ok h1 ho (cargs := [.slice (some ⟨g, 0, none⟩) l.length cap]) (.cons (by
      rw [countN_eq]
      exact .slcUp (L := ⟨g, 0, cap * 1⟩) rfl q3 q3 (.inr ⟨rfl, by simp⟩)) .nil)).mono fun e W' ⟨E1, cv, a1, a2, a3, a4, a5, a6, a7⟩ => ?_
    refine ⟨by rw [a3, tup0 a4], a5.trans hB.os, a6.trans hB.output, fun k hk => (a7 k (by show k ≠ g; omega) (Nat.lt_of_lt_of_le hk hB.size)).trans (hB.block k hk), fun l' e => ?_⟩
    have := inj l' e; subst this
    refine ⟨fun h => (hne h).elim, fun _ => ⟨g, cap, rfl, q1, q3, fun E => ?_⟩⟩
    obtain ⟨L', hL', hr⟩ := a2.obj 0 _ h2
    have := a1.loc (i := 0) (L := ⟨g, 0, cap * 1⟩) rfl
    rw [hL'] at this; injection this with this; subst this
    have := hr.plain (E' := E) (plain_cellsN _)
    simpa using this

noncomputable def keyOK (clock : Nat) (e : AEnt) : Bool := match e.key with
  | .int .u32 (.ofNat n) => bb2 (memS n tens) (Nat.ble (Nat.succ e.born) clock) false
  | _ => false
noncomputable def keysOK (clock : Nat) (es : List AEnt) : Bool := List.rec (motive := fun _ => Bool) true (fun e _ ih => bb2 (keyOK clock e) ih false) es
theorem keysOK_ok {clock : Nat} : ∀ {es : List AEnt}, keysOK clock es = true → ∀ e ∈ es, ∃ n, e.key = .int .u32 (.ofNat n) ∧ keyN e.key = n ∧ n ∈ tens ∧ e.born < clock
  | [], _ => by simp
  | e :: es, h => by
    have h : bb2 (keyOK clock e) (keysOK clock es) false = true := h
    rw [bb2_eq] at h
    cases he : keyOK clock e <;> simp only [he, cond_true, cond_false, Bool.false_eq_true] at h
    intro x hx
    rcases List.mem_cons.1 hx with rfl | hx
    · unfold keyOK at he
      split at he <;> (try (cases he; done))
      rename_i n hk
      rw [bb2_eq] at he
      cases h2 : memS n tens <;> simp only [h2, cond_true, cond_false, Bool.false_eq_true] at he
      exact ⟨n, hk, by rw [hk]; rfl, memS_iff.1 h2, Nat.le_of_ble_eq_true he⟩
    · exact keysOK_ok h x hx
/-- one object known: the map; the shelf's values may be anything -/
noncomputable def g251 (args : List AV) (aw : AW) : Option ARes := match args with
  | [.func (.func 319) [] [.ptr (some (q, 0))]] => match awGet aw q with
    | some (.cells [.map (some m)] _ false) => match awGet aw m with
      | some (.map es clock) => bb2 (keysOK clock es) (bb2 (apartN (keysN es)) (bb2 (apartN (bornN es)) (bb2 (Nat.ble (countN (keysN es)) 1000)
          (bb2 (Nat.beq (countN (keysN es)) 0) (some (.ret (.slc none 0 (.known 0)) aw))
            (some (.ret (.slc (some (aw.nx, 0)) (countN (keysN es)) (.upto 1 (countN (keysN es)))) (awAdd aw (.cells (cellsN (onlyN (keysN es) tens)) 28 true))))) none) none) none) none
      | _ => none
    | _ => none
  | _ => none
theorem s251 : ∀ args aw res, g251 args aw = some res → callable Tryz.prog 251 = true ∧ ∀ E w cargs, LRel E args cargs → Rel E aw w →
    Calls Tryz.prog 251 cargs.toArray w fun e w' => ∃ E', E.Le E' ∧ ResRel E' res e w' := by
  intro args aw res h
  unfold g251 at h
  split at h <;> (try (cases h; done))
  rename_i q
  rw [awGet_eq] at h
  split at h <;> (try (cases h; done))
  rename_i m et hq
  rw [awGet_eq] at h
  split at h <;> (try (cases h; done))
  rename_i es clock hm
  simp only [bb2_eq] at h
  cases h1 : keysOK clock es <;> simp only [h1, cond_true, cond_false, reduceCtorEq] at h
  cases h2 : apartN (keysN es) <;> simp only [h2, cond_true, cond_false, reduceCtorEq] at h
  cases h3 : apartN (bornN es) <;> simp only [h3, cond_true, cond_false, reduceCtorEq] at h
  cases h4 : Nat.ble (countN (keysN es)) 1000 <;> simp only [h4, cond_true, cond_false, reduceCtorEq] at h
  have h4 := Nat.le_of_ble_eq_true h4
  rw [countN_eq] at h4 h
  have hlen' : es.length = (keysN es).length := by rw [keysN_eq, List.length_map]
  refine ⟨by kernel_rfl, fun E w cargs hr hR => ?_⟩
  cases hr with
  | cons r2 t2 =>
    cases t2
    cases r2 with
    | func _ hf hc =>
      rename_i f' c'
      have ef : f' = #[] := by
        generalize hq2 : f'.toList = fl at hf
        cases hf
        exact Array.toList_inj.1 (by rw [hq2])
      subst ef
      generalize hq3 : c'.toList = cl at hc
      cases hc with
      | cons p1 t1 =>
        cases t1
        cases p1 with
        | ptr hLq =>
          rename_i Lq
          have ec : c' = #[.pointer (some ⟨Lq.block, Lq.base + 0, none⟩)] := Array.toList_inj.1 (by rw [hq3])
          subst ec
          obtain ⟨L', hL', c, fz, ⟨g1, _⟩, g2, g3, g4, g5⟩ := hR.obj q _ hq
          rw [hLq] at hL'; injection hL' with hL'; subst hL'
          obtain ⟨g4a, g4b⟩ := g4 rfl
          obtain ⟨v, hv, hvr⟩ := g5 0 _ rfl
          cases hvr with
          | map hLm hbm =>
            rename_i Lm
            have hcell : w.cell? ⟨Lq.block, 0, none⟩ = some (.map (some Lm.block)) := by
              rw [g4a] at hv
              simpa [World.cell?, g1] using hv
            have hlt : Lq.block < w.heap.size := (Array.getElem?_eq_some_iff.1 g1).1
            obtain ⟨Lm', hLm', ho⟩ := hR.obj m _ hm
            rw [hLm] at hLm'; injection hLm' with hLm'; subst hLm'
            have hK := keysOK_ok h1
            have tl : ∀ n ∈ tens, n < 4294967296 := by decide
            have hn : (es.map fun e => e.key).Nodup := by
              have := apartN_ok h2
              rw [keysN_eq] at this
              rw [show (es.map fun e => keyN e.key) = (es.map fun e => e.key).map keyN by rw [List.map_map]; rfl] at this
              exact List.Pairwise.of_map keyN (fun a b h e => h (by rw [e])) this
            obtain ⟨D0, d1, d2, d3⟩ := map_own ho (by omega) (fun e he => let ⟨n, k1, k2, k3, k4⟩ := hK e he; ⟨n, k1, tl n k3⟩) hn (by rw [← bornN_eq]; exact apartN_ok h3) (fun e he => let ⟨n, k1, k2, k3, k4⟩ := hK e he; k4)
            have d3' : ∀ x : Int, has D0 (.int .u32 x) = true ↔ ∃ n ∈ keysN es, x = Int.ofNat n := fun x => by
              rw [d3 x]
              constructor
              · rintro ⟨e, he, hk⟩
                obtain ⟨n, k1, k2, k3, k4⟩ := hK e he
                refine ⟨n, by rw [keysN_eq]; exact List.mem_map.2 ⟨e, he, k2⟩, ?_⟩
                rw [k1] at hk; injection hk with _ hk; exact hk.symm
              · rintro ⟨n, hn', rfl⟩
                rw [keysN_eq] at hn'
                obtain ⟨e, he, hk⟩ := List.mem_map.1 hn'
                obtain ⟨n', k1, k2, k3, k4⟩ := hK e he
                exact ⟨e, he, by rw [k1]; rw [← hk, k2]⟩
            rw [g4a]
            refine (sorted251 Lq.block Lm.block es.length D0 w hlt hcell d1 (by omega) (Sorted w) (fun W v ss hC hrow hnil hB => ?_)).mono fun e W' ⟨v, ss, e1, hC, hS⟩ => ?_
            · obtain ⟨l, rfl, k1, k2, k3⟩ := perm_len hC (apartN_ok h2) d3'
              rw [List.length_map] at hrow
              refine sort318 (D0 := D0) w l k1 (fun x hx => ?_) W v hrow hnil hB
              have := (k2 x).1 hx
              rw [keysN_eq] at this
              obtain ⟨e, he, hk⟩ := List.mem_map.1 this
              obtain ⟨n, m1, m2, m3, m4⟩ := hK e he
              rw [← hk, m2]; exact m3
            · obtain ⟨l, rfl, k1, k2, k3⟩ := perm_len hC (apartN_ok h2) d3'
              obtain ⟨o1, o2, o3, o4⟩ := hS
              obtain ⟨p1, p2⟩ := o4 l rfl
              subst e1
              have stay : Rel E aw W' := hR.kept o1 o2 o3
              cases h5 : Nat.beq (keysN es).length 0 <;> simp only [h5, cond_true, cond_false, Option.some.injEq] at h
              · subst h
                have hne : l ≠ [] := fun e => by subst e; rw [← k3] at h5; cases h5
                obtain ⟨gb, cap, rfl, q1, q2, q3⟩ := p2 hne
                rw [awAdd_eq, ← onlyN_congr k2, ← k3]
                refine ⟨E.put ⟨gb, 0, cap⟩, E.put_le _, stay.addAt (fun j x Lj hj hx hLj e => ?_) ?_ ?_ (q3 _), .slcUp (L := ⟨gb, 0, cap⟩) (by rw [hR.nx]; exact E.put_new _) q2 q2 (.inr ⟨rfl, by simp⟩)⟩
                · obtain ⟨L', hL', ho⟩ := hR.obj j x hj
                  rw [hLj] at hL'; injection hL' with hL'; subst hL'
                  have := ho.lt hx
                  rw [e] at this
                  simp only at this
                  omega
                · cases hq7 : E.fr gb with
                  | none => rfl
                  | some ob =>
                    have := (Array.getElem?_eq_some_iff.1 (hR.frame _ _ hq7)).1
                    omega
                · cases hq7 : E.tk gb with
                  | none => rfl
                  | some ob =>
                    have := (hR.tok.1 _ _ hq7).1.lt
                    omega
              · subst h
                have hl0 : l = [] := List.length_eq_zero_iff.1 (by rw [k3]; exact Nat.eq_of_beq_eq_true h5)
                rw [p1 hl0]
                exact ⟨E, .refl E, stay, .nilSlc⟩
end Go.Proofs.YtbilacojhmohmaaGreat.Ae
