/- TopGone: function 19 answers with those on whom the frame hangs, whatever they are. No condition. -/
import Derived.Test.YtbilacojhmohmaaGreatBeGonLw
import Derived.WalkKit
import Derived.ProofKit
namespace Go.Proofs.YtbilacojhmohmaaGreat.Ae
open Go
set_option linter.unusedVariables false
set_option linter.unusedSimpArgs false
section
variable {E E1 : Env} {aw aw1 : AW} {w w' : World} {locs : List Loc}
theorem keepK (hR : Rel E aw w) (ht : ∀ b x, (romE E w locs).tk b = some x → E1.tk b = some x) (h : Rel E1 aw1 w') : ∀ b, E.tk b = none → b < w.heap.size → w'.heap[b]? = w.heap[b]? := fun b hb hlt => by
  have h1 : (romE E w locs).tk b = some (.ob w.heap[b]) := by
    simp only [romE, hb]
    rw [Array.getElem?_eq_getElem hlt]; rfl
  have h2 := (h.tok.1 b _ (ht b _ h1)).1
  have h3 : w'.heap[b]? = some w.heap[b] := h2
  rw [h3, Array.getElem?_eq_getElem hlt]
theorem backK (hR : Rel E aw w) (hs : E1.sym = E.sym) (ht : ∀ b x, (romE E w locs).tk b = some x → E1.tk b = some x) (h : Rel E1 aw1 w') : Rel E aw w' := by
  have keep := keepK hR ht h
  refine hR.move (hs ▸ h.ns) (fun j x L hj hL ho hx => ho.heap (keep _ (hR.tok.2 j x L hj hx hL) (ho.lt hx))) (fun b o hb => ?_) (fun b x hb => ?_)
  · have hb' := hR.frame b o hb
    have htk : E.tk b = none := by
      cases ht : E.tk b with
      | none => rfl
      | some t => rw [(hR.tok.1 b t ht).2] at hb; cases hb
    rw [keep b htk (Array.getElem?_eq_some_iff.1 hb').1]; exact hb'
  · refine (h.tok.1 b x (ht b x ?_)).1
    simp only [romE, hb]
theorem newK {i : Nat} {o1 : AO} {L1 : Loc} (hR : Rel E aw w) (ht : ∀ b x, (romE E w locs).tk b = some x → E1.tk b = some x) (h : Rel E1 aw1 w') (h1 : aw1.get i = some o1) (l1 : o1.live = true) (hL1 : E1.loc[i]? = some L1) :
    (∀ j x Lj, aw.get j = some x → x.live = true → E.loc[j]? = some Lj → Lj.block ≠ L1.block) ∧ E.fr L1.block = none ∧ E.tk L1.block = none := by
  have ht1 := h.tok.2 i o1 L1 h1 l1 hL1
  have ht0 : (romE E w locs).tk L1.block = none := by
    cases hq : (romE E w locs).tk L1.block with
    | none => rfl
    | some t => rw [ht _ _ hq] at ht1; cases ht1
  have htk : E.tk L1.block = none := by
    simp only [romE] at ht0
    cases hq : E.tk L1.block with
    | none => rfl
    | some t => rw [hq] at ht0; cases ht0
  have hno : w.heap[L1.block]? = none := by
    simp only [romE, htk, Option.map_eq_none_iff] at ht0
    exact ht0
  refine ⟨fun j x Lj hj hx hLj e => ?_, ?_, htk⟩
  · obtain ⟨L', hL', hro⟩ := hR.obj j x hj
    rw [hLj] at hL'; injection hL' with hL'; subst hL'
    have := hro.lt hx
    rw [e] at this
    rw [Array.getElem?_eq_getElem this] at hno; cases hno
  · cases hq : E.fr L1.block with
    | none => rfl
    | some ob => have := hR.frame _ _ hq; rw [hno] at this; cases this
end
/-- what stays while function 19 runs -/
def KR (E0 : Env) (E1 : Env) : Prop := E1.sym = E0.sym ∧ ∀ b x, E0.tk b = some x → E1.tk b = some x
theorem KR_ok (E0 : Env) : KOK (KR E0) := ⟨fun E E' h hle => ⟨hle.2.1.trans h.1, fun b x hb => hle.2.2.2 b x (h.2 b x hb)⟩, fun n E h => h⟩
/-- what it leaves -/
def AbQ (E0 : Env) (A : List Nat) : Post' := fun e ca w' => e = .ret ∧ ca.defers = [] ∧ ∃ E1 aw1 v k, KR E0 E1 ∧ Rel E1 aw1 w' ∧ ca.tmps[4]? = some v ∧ VRel E1 (slcB A k) v ∧ aw1.get k = newB A
theorem plain_nums : ∀ l : List Nat, plainL (numsA l) = true
  | [] => rfl
  | x :: l => by
    have := plain_nums l
    show (plainL (.int .u32 (.ofNat x) :: numsA l)) = true
    simp [plainL, AV.plain] at this ⊢
    exact this
theorem fr_at {b0 b1 b2 b3 b4 b5 : Bool} : ∀ q, q < 6 → (frL [b0, b1, b2, b3, b4, b5] 0)[6 * q + 2]? = some (bb2 ([b0, b1, b2, b3, b4, b5].getD q false) (.sl q) vN)
  | 0, _ => rfl
  | 1, _ => rfl
  | 2, _ => rfl
  | 3, _ => rfl
  | 4, _ => rfl
  | 5, _ => rfl
/-- all that is read, as it lies -/
theorem above_env {ρ : Nat → Nat} {os : Os} {out : Array (Nat × ByteArray)} {ls Rs : Nat → List Nat} (hls : ∀ q, q < 6 → Rs q ≠ [] → ls q = Rs q) (hz : Rs 0 = []) {E : Env} {w : World} {aw : AW} (hS : E.sym = sy ρ os out ls)
    (hg : aw.get 0 = some (.cells (frL [someN (Rs 0), someN (Rs 1), someN (Rs 2), someN (Rs 3), someN (Rs 4), someN (Rs 5)] 0) 31 true)) (hR : Rel E aw w) {L0 : Loc} (hL0 : E.loc[0]? = some L0) :
    ∃ (kk : Nat → Int) (locs : List Loc), locs[0]? = some L0 ∧ Rel (romE E w locs) (ofObjs [.rom (vwF (FR kk Rs)) 31, (FR kk Rs).O 1, (FR kk Rs).O 2, (FR kk Rs).O 3, (FR kk Rs).O 4, (FR kk Rs).O 5] 6) w := by
  obtain ⟨L, hL, c, fz, ⟨g1, gz⟩, g2, g3, g4, g5⟩ := hR.obj 0 _ hg
  rw [hL0] at hL; injection hL with hL; subst hL
  have htk0 : E.tk L0.block = none := hR.tok.2 0 _ L0 hg rfl hL0
  have hb : ∀ q, q < 6 → [someN (Rs 0), someN (Rs 1), someN (Rs 2), someN (Rs 3), someN (Rs 4), someN (Rs 5)].getD q false = someN (Rs q)
    | 0, _ => rfl
    | 1, _ => rfl
    | 2, _ => rfl
    | 3, _ => rfl
    | 4, _ => rfl
    | 5, _ => rfl
  have hq : ∀ q, ∃ L : Loc, q < 6 → Rs q ≠ [] → ∃ cap, c[L0.base + (6 * q + 2)]? = some (.slice (some ⟨L.block, L.base, none⟩) (Rs q).length cap) ∧ (Rs q).length ≤ cap ∧ L.base + cap ≤ L.total ∧ E.tk L.block = some (.li L.total L.base (Rs q)) := by
    intro q
    by_cases h : q < 6 ∧ Rs q ≠ []
    · obtain ⟨v, e1, e2⟩ := g5 _ _ (fr_at q h.1)
      rw [hb q h.1, someN_iff.2 h.2] at e2
      have e2 : VRel E (.sl q) v := e2
      cases e2 with
      | sl hk ha =>
        rename_i b o cap
        have e : E.sym.ls q = Rs q := by rw [hS]; exact hls q h.1 h.2
        rw [e] at ha e1
        obtain ⟨h1, s, h2, h3⟩ := ha
        exact ⟨⟨b, o, s⟩, fun _ _ => ⟨cap, e1, h1, h3, h2⟩⟩
    · exact ⟨L0, fun h1 h2 => (h ⟨h1, h2⟩).elim⟩
  obtain ⟨Lf, hLf⟩ := Classical.axiomOfChoice hq
  refine ⟨fun q => Int.ofNat (bb2 (someN (Rs q)) 2 1), [L0, Lf 1, Lf 2, Lf 3, Lf 4, Lf 5], rfl, ?_⟩
  have hloc : ∀ q, q ≠ 0 → q < 6 → (romE E w [L0, Lf 1, Lf 2, Lf 3, Lf 4, Lf 5]).loc[q]? = some (Lf q)
    | 0, h, _ => (h rfl).elim
    | 1, _, _ => rfl
    | 2, _, _ => rfl
    | 3, _, _ => rfl
    | 4, _, _ => rfl
    | 5, _, _ => rfl
  have cell : ∀ q, q < 6 → ∃ v, c[L0.base + (6 * q + 2)]? = some v ∧ VRel (romE E w [L0, Lf 1, Lf 2, Lf 3, Lf 4, Lf 5]) (.slc (pR (Rs q) q) (cntN (Rs q)) (cR (Rs q))) v := by
    intro q h
    by_cases hn : Rs q = []
    · obtain ⟨v, e1, e2⟩ := g5 _ _ (fr_at q h)
      rw [hb q h, hn] at e2
      have e2 : VRel E vN v := e2
      cases e2
      exact ⟨_, e1, by rw [hn]; exact .nilSlc⟩
    · obtain ⟨cap, e1, e2, e3, e4⟩ := hLf q h hn
      refine ⟨_, e1, ?_⟩
      have e5 : AV.slc (pR (Rs q) q) (cntN (Rs q)) (cR (Rs q)) = .slc (some (q, 0)) (Rs q).length (.upto 1 (Rs q).length) := by
        rw [← cntN_eq]
        cases hq : Rs q with
        | nil => exact (hn hq).elim
        | cons x xs => rfl
      rw [e5]
      exact .slcUp (hloc q (fun e => hn (e ▸ hz)) h) e2 e2 (.inr ⟨rfl, by simp; omega⟩)
  have num : ∀ i k n, (frL [someN (Rs 0), someN (Rs 1), someN (Rs 2), someN (Rs 3), someN (Rs 4), someN (Rs 5)] 0)[i]? = some (.int k n) → ∃ v, c[L0.base + i]? = some v ∧ VRel (romE E w [L0, Lf 1, Lf 2, Lf 3, Lf 4, Lf 5]) (.int k n) v := fun i k n h => by
    obtain ⟨v, e1, e2⟩ := g5 _ _ h
    cases e2
    exact ⟨_, e1, .int _ _⟩
  have hview : ORel (romE E w [L0, Lf 1, Lf 2, Lf 3, Lf 4, Lf 5]) L0 w (.rom (vwF (FR (fun q => Int.ofNat (bb2 (someN (Rs q)) 2 1)) Rs)) 31) := by
    refine .inl ⟨c, fz, ?_, g2, g3, fun i a hi => ?_⟩
    · simp only [romE, htk0, g1]; rfl
    · match i, hi with
      | 0, hi => injection hi with hi; subst hi; exact num 0 _ _ rfl
      | 1, hi => injection hi with hi; subst hi; exact num 1 _ _ rfl
      | 2, hi => injection hi with hi; subst hi; exact cell 0 (by omega)
      | 3, hi => injection hi with hi; subst hi; exact num 3 _ _ rfl
      | 4, hi => injection hi with hi; subst hi; exact num 4 _ _ rfl
      | 5, hi => injection hi with hi; subst hi; exact num 5 _ _ rfl
      | 6, hi => injection hi with hi; subst hi; exact num 6 _ _ rfl
      | 7, hi => injection hi with hi; subst hi; exact num 7 _ _ rfl
      | 8, hi => injection hi with hi; subst hi; exact cell 1 (by omega)
      | 9, hi => injection hi with hi; subst hi; exact num 9 _ _ rfl
      | 10, hi => injection hi with hi; subst hi; exact num 10 _ _ rfl
      | 11, hi => injection hi with hi; subst hi; exact num 11 _ _ rfl
      | 12, hi => injection hi with hi; subst hi; exact num 12 _ _ rfl
      | 13, hi => injection hi with hi; subst hi; exact num 13 _ _ rfl
      | 14, hi => injection hi with hi; subst hi; exact cell 2 (by omega)
      | 15, hi => injection hi with hi; subst hi; exact num 15 _ _ rfl
      | 16, hi => injection hi with hi; subst hi; exact num 16 _ _ rfl
      | 17, hi => injection hi with hi; subst hi; exact num 17 _ _ rfl
      | 18, hi => injection hi with hi; subst hi; exact num 18 _ _ rfl
      | 19, hi => injection hi with hi; subst hi; exact num 19 _ _ rfl
      | 20, hi => injection hi with hi; subst hi; exact cell 3 (by omega)
      | 21, hi => injection hi with hi; subst hi; exact num 21 _ _ rfl
      | 22, hi => injection hi with hi; subst hi; exact num 22 _ _ rfl
      | 23, hi => injection hi with hi; subst hi; exact num 23 _ _ rfl
      | 24, hi => injection hi with hi; subst hi; exact num 24 _ _ rfl
      | 25, hi => injection hi with hi; subst hi; exact num 25 _ _ rfl
      | 26, hi => injection hi with hi; subst hi; exact cell 4 (by omega)
      | 27, hi => injection hi with hi; subst hi; exact num 27 _ _ rfl
      | 28, hi => injection hi with hi; subst hi; exact num 28 _ _ rfl
      | 29, hi => injection hi with hi; subst hi; exact num 29 _ _ rfl
      | 30, hi => injection hi with hi; subst hi; exact num 30 _ _ rfl
      | 31, hi => injection hi with hi; subst hi; exact num 31 _ _ rfl
      | 32, hi => injection hi with hi; subst hi; exact cell 5 (by omega)
      | 33, hi => injection hi with hi; subst hi; exact num 33 _ _ rfl
      | 34, hi => injection hi with hi; subst hi; exact num 34 _ _ rfl
      | 35, hi => injection hi with hi; subst hi; exact num 35 _ _ rfl
      | i + 36, hi => cases hi
  have hlist : ∀ q, q ≠ 0 → q < 6 → (∃ L, [L0, Lf 1, Lf 2, Lf 3, Lf 4, Lf 5][q]? = some L ∧ ORel (romE E w [L0, Lf 1, Lf 2, Lf 3, Lf 4, Lf 5]) L w (oR (Rs q))) ∧ (oR (Rs q)).live = false := by
    intro q h0 h
    by_cases hn : Rs q = []
    · rw [hn]; exact ⟨⟨Lf q, hloc q h0 h, trivial⟩, rfl⟩
    · obtain ⟨cap, e1, e2, e3, e4⟩ := hLf q h hn
      have e5 : oR (Rs q) = .rom (numsA (Rs q)) 28 := by
        cases hq : Rs q with
        | nil => exact (hn hq).elim
        | cons x xs => rfl
      rw [e5]
      exact ⟨⟨Lf q, hloc q h0 h, .inr ⟨Rs q, rfl, numsA_eq _, by simp only [romE, e4]⟩⟩, rfl⟩
  refine romE_rel hR (l := [.rom (vwF (FR (fun q => Int.ofNat (bb2 (someN (Rs q)) 2 1)) Rs)) 31, oR (Rs 1), oR (Rs 2), oR (Rs 3), oR (Rs 4), oR (Rs 5)]) (locs := [L0, Lf 1, Lf 2, Lf 3, Lf 4, Lf 5]) rfl (fun k o hk => ?_) (fun k o hk => ?_)
  · match k, hk with
    | 0, hk => injection hk with hk; subst hk; rfl
    | 1, hk => injection hk with hk; subst hk; exact (hlist 1 (by omega) (by omega)).2
    | 2, hk => injection hk with hk; subst hk; exact (hlist 2 (by omega) (by omega)).2
    | 3, hk => injection hk with hk; subst hk; exact (hlist 3 (by omega) (by omega)).2
    | 4, hk => injection hk with hk; subst hk; exact (hlist 4 (by omega) (by omega)).2
    | 5, hk => injection hk with hk; subst hk; exact (hlist 5 (by omega) (by omega)).2
    | k + 6, hk => cases hk
  · match k, hk with
    | 0, hk => injection hk with hk; subst hk; exact ⟨L0, rfl, hview⟩
    | 1, hk => injection hk with hk; subst hk; exact (hlist 1 (by omega) (by omega)).1
    | 2, hk => injection hk with hk; subst hk; exact (hlist 2 (by omega) (by omega)).1
    | 3, hk => injection hk with hk; subst hk; exact (hlist 3 (by omega) (by omega)).1
    | 4, hk => injection hk with hk; subst hk; exact (hlist 4 (by omega) (by omega)).1
    | 5, hk => injection hk with hk; subst hk; exact (hlist 5 (by omega) (by omega)).1
    | k + 6, hk => cases hk
theorem above_ok {ρ : Nat → Nat} {os : Os} {out : Array (Nat × ByteArray)} {ls Rs : Nat → List Nat} (hRs : ∀ i, i < 6 → Rs i = [] ∨ Rs i ∈ optsN i) (hls : ∀ q, q < 6 → Rs q ≠ [] → ls q = Rs q) :
    AboveOK ρ os out ls [someN (Rs 0), someN (Rs 1), someN (Rs 2), someN (Rs 3), someN (Rs 4), someN (Rs 5)] (ancN Rs) := by
  intro i hi E w aw cargs hS hg hl hR
  have hz : Rs 0 = [] := by
    rcases hRs 0 (by omega) with h | h
    · exact h
    · have e : optsN 0 = [] := by kernel_rfl
      rw [e] at h; cases h
  cases hl with
  | cons r1 t1 =>
    cases t1 with
    | cons r2 t2 =>
      cases t2
      cases r2
      cases r1 with
      | slcUp hL0 q1 q2 q3 =>
        rename_i a0 cap0 L0
        obtain ⟨kk, locs, hl0, hR0⟩ := above_env hls hz hS hg hR hL0
        obtain ⟨c, hbody, hc⟩ := ab_code
        refine calls_of_wp Tryz.func19 hbody ?_
        have hs0 : VRel (romE E w locs) (.slc (some (0, 0)) 6 (.upto 6 6)) (.slice (some a0) 6 cap0) := .slcUp (L := L0) hl0 q1 q2 q3
        have hinit := init_rel (E := romE E w locs) (args := [.slc (some (0, 0)) 6 (.upto 6 6), wW (i + 1)]) (cargs := [.slice (some a0) 6 cap0, .int .u32 (.ofNat (i + 1))]) (n := 113) (.cons hs0 (.cons (.int _ _) .nil)) (show 2 ≤ 113 by omega)
        have hA : ActRel (romE E w locs) ⟨tmOf [(0, .slc (some (0, 0)) 6 (.upto 6 6)), (1, wW (i + 1))] .leaf, 113, []⟩ { tmps := #[.slice (some a0) 6 cap0, .int .u32 (.ofNat (i + 1))] ++ Array.replicate (Tryz.f19.ntmps - (#[.slice (some a0) 6 cap0, .int .u32 (.ofNat (i + 1))] : Array Value).size) undef, defers := [] } := by
          refine ⟨?_, fun t v hv => ?_, .nil⟩
          · rw [Tryz.ntmps19]; simp
          · have e : tmOf [(0, .slc (some (0, 0)) 6 (.upto 6 6)), (1, wW (i + 1))] .leaf = slots [.slc (some (0, 0)) 6 (.upto 6 6), wW (i + 1)] 0 .leaf := by kernel_rfl
            rw [e] at hv
            rw [Tryz.ntmps19]
            exact hinit.tmps t v hv
        have hgood := above_good (K := KR (romE E w locs)) (Q := AbQ (romE E w locs) (ancN Rs i)) (kk := kk) (KR_ok _) hRs hi fun t aw1 k h1 h2 E1 ca w1 hK hA1 hR1 => ?_
        · refine wp_mono (hgood c hc (romE E w locs) _ w ⟨rfl, fun b x h => h⟩ hA hR0) fun e a w' ⟨h1, h2, E1, aw1, v, k, hK, hR1, h4, hv, hk⟩ => ?_
          subst h1
          refine ⟨h2, v, ?_, ?_⟩
          · have : a.tmps.getD 4 undef = v := by simp [Array.getD_eq_getD_getElem?, h4]
            rw [← this]
            exact results_tmp (t := 4) rfl _ _ _
          · have hback := backK hR (hK.1.trans rfl) hK.2 hR1
            cases hA : ancN Rs i with
            | nil =>
              rw [hA] at hv
              have hv : VRel E1 vN v := hv
              cases hv
              exact ⟨E, .refl E, hback, .nilSlc⟩
            | cons x xs =>
              rw [hA] at hv hk
              have hv : VRel E1 (.slc (some (k, 0)) (cntN (x :: xs)) (.upto 1 (cntN (x :: xs)))) v := hv
              have hk : aw1.get k = some (.cells (numsA (x :: xs)) 28 true) := hk
              cases hv with
              | slcUp hLk p1 p2 p3 =>
                rename_i ak capk Lk
                obtain ⟨L', hL', ho⟩ := hR1.obj k _ hk
                rw [hLk] at hL'; injection hL' with hL'; subst hL'
                obtain ⟨n1, n2, n3⟩ := newK hR hK.2 hR1 hk rfl hLk
                refine ⟨E.put Lk, E.put_le Lk, ?_⟩
                show Rel (E.put Lk) (awAdd aw (.cells (numsA (x :: xs)) 28 true)) w' ∧ VRel (E.put Lk) (.slc (some (aw.nx, 0)) (cntN (x :: xs)) (.upto 1 (cntN (x :: xs)))) _
                rw [awAdd_eq]
                exact ⟨hback.addAt n1 n2 n3 (ho.plain (plain_nums _)), .slcUp (by rw [hR.nx]; exact E.put_new Lk) p1 p2 p3⟩
        · refine ⟨rfl, ?_, E1, aw1, _, k, hK, hR1, (hA1.tmps 4 _ h1).choose_spec.1, (hA1.tmps 4 _ h1).choose_spec.2, h2⟩
          have := hA1.defs
          generalize ca.defers = df at this
          cases this; rfl
end Go.Proofs.YtbilacojhmohmaaGreat.Ae
