/- Function 19 answers as it should: a state cut to its first blocks; the frames' lists as they are. Function 19: the loop over the frames. No condition. -/
import Derived.Test.YtbilacojhmohmaaGreatBeGonAx
import Derived.Test.YtbilacojhmohmaaGreatBeGonFin
import Derived.Test.YtbilacojhmohmaaGreatBeRen
namespace Go.Proofs.YtbilacojhmohmaaGreat.Ae
open Go
set_option linter.unusedVariables false
set_option linter.unusedSimpArgs false
/-- it leads to blocks below n alone -/
def AV.lo (n : Nat) : AV → Bool
  | .undef | .int _ _ | .bool _ | .sl _ | .slc none _ _ => true
  | .slc (some (i, _)) _ _ | .map (some i) => Nat.blt i n
  | _ => false
def AO.lo (n : Nat) : AO → Bool
  | .cells l _ _ => l.all (AV.lo n)
  | .rom l _ => l.all (AV.lo n)
  | .map es _ => es.all fun e => e.key.lo n && e.val.lo n
  | .dead => true
  | .iter .. => false
def cutN (n : Nat) (E : Env) : Env := { E with loc := E.loc.take n }
theorem cutN_loc {E : Env} {n i : Nat} (h : Nat.blt i n = true) : (cutN n E).loc[i]? = E.loc[i]? := by
  have : i < n := Nat.le_of_ble_eq_true h
  simp [cutN, this]
theorem VRel.lo {E : Env} {n : Nat} {a : AV} {v : Value} (h : VRel E a v) (hb : a.lo n = true) : VRel (cutN n E) a v := by
  cases h with
  | undef v => exact .undef v
  | int k m => exact .int k m
  | bool b => exact .bool b
  | nilSlc => exact .nilSlc
  | slc h ha => exact .slc (by rw [cutN_loc hb]; exact h) ha
  | slcUp h hl hlo ha => exact .slcUp (by rw [cutN_loc hb]; exact h) hl hlo ha
  | map h hm => exact .map (by rw [cutN_loc hb]; exact h) hm
  | sl hk ha => exact VRel.sl (E := cutN n E) hk ha
  | sym => cases hb
  | str => cases hb
  | nilPtr => cases hb
  | ptr => cases hb
  | nilMap => cases hb
  | func => cases hb
  | nilFunc => cases hb
  | iface => cases hb
  | nilIface => cases hb
  | agg => cases hb
  | tuple => cases hb
theorem ERel.lo {E : Env} {n : Nat} : ∀ {l m}, ERel E l m → (l.all fun e => e.key.lo n && e.val.lo n) = true → ERel (cutN n E) l m
  | _, _, .nil, _ => .nil
  | _, _, .cons hk hv hb t, h => by
    simp only [List.all_cons, Bool.and_eq_true] at h
    exact .cons (hk.lo h.1.1) (hv.lo h.1.2) hb (ERel.lo t h.2)
theorem ORel.lo {E : Env} {L : Loc} {w : World} {n : Nat} : ∀ {o : AO}, ORel E L w o → o.lo n = true → ORel (cutN n E) L w o
  | .cells .., ⟨c, fz, h1, h2, h3, h4, h5⟩, hb => ⟨c, fz, h1, h2, h3, h4, fun i a hi => let ⟨v, hv, hr⟩ := h5 i a hi; ⟨v, hv, hr.lo (List.all_eq_true.1 hb a (List.mem_of_getElem? hi))⟩⟩
  | .map .., ⟨h0, c, h1, h2⟩, hb => ⟨h0, c, h1, h2.lo hb⟩
  | .iter .., _, hb => by cases hb
  | .dead, _, _ => trivial
  | .rom .., .inl ⟨c, fz, h1, h2, h3, h5⟩, hb => .inl ⟨c, fz, h1, h2, h3, fun i a hi => let ⟨v, hv, hr⟩ := h5 i a hi; ⟨v, hv, hr.lo (List.all_eq_true.1 hb a (List.mem_of_getElem? hi))⟩⟩
  | .rom .., .inr ⟨R, h1, h2, h3⟩, _ => .inr ⟨R, h1, h2, h3⟩
/-- the first n blocks are known, no others -/
theorem cut_rel {E : Env} {aw : AW} {w : World} {l : List AO} {n : Nat} (hR : Rel E aw w) (hlen : l.length = n + 1) (hg : ∀ (j : Nat) (x : AO), l[j]? = some x → aw.get j = some x) (hlo : ∀ (j : Nat) (x : AO), l[j]? = some x → x.lo (n + 1) = true) : Rel (cutN (n + 1) E) (ofObjs l (n + 1)) w := by
  have old : ∀ {i oi}, (ofObjs l (n + 1)).get i = some oi → aw.get i = some oi ∧ oi.lo (n + 1) = true ∧ (cutN (n + 1) E).loc[i]? = E.loc[i]? := fun {i oi} hi => by
    rw [ofObjs_get] at hi
    have hlt := (List.getElem?_eq_some_iff.1 hi).1
    exact ⟨hg i oi hi, hlo i oi hi, cutN_loc (Nat.ble_eq_true_of_le (by omega))⟩
  refine ⟨?_, hR.ns, fun j x hj => ?_, fun i j oi oj Li Lj hi hj li lj ei ej eb => ?_, hR.frame, fun i oi Li hi li ei => ?_, ⟨hR.tok.1, fun i oi Li hi li ei => ?_⟩⟩
  · have hlast := hg n _ (List.getElem?_eq_getElem (by omega))
    obtain ⟨L, hL, _⟩ := hR.obj n _ hlast
    have := (List.getElem?_eq_some_iff.1 hL).1
    show n + 1 = (E.loc.take (n + 1)).length
    rw [List.length_take]; omega
  · obtain ⟨q1, q2, q3⟩ := old hj
    obtain ⟨L, hL, hr⟩ := hR.obj j x q1
    exact ⟨L, by rw [q3, hL], hr.lo q2⟩
  · obtain ⟨q1, _, q2⟩ := old hi
    obtain ⟨q3, _, q4⟩ := old hj
    exact hR.inj i j oi oj Li Lj q1 q3 li lj (q2 ▸ ei) (q4 ▸ ej) eb
  · obtain ⟨q1, _, q2⟩ := old hi
    exact hR.apart i oi Li q1 li (q2 ▸ ei)
  · obtain ⟨q1, _, q2⟩ := old hi
    exact hR.tok.2 i oi Li q1 li (q2 ▸ ei)

/-- the frames' lists, as they are -/
noncomputable def FR (kk : Nat → Int) (Rs : Nat → List Nat) : Fr := ⟨kk, fun q => pR (Rs q) q, fun q => cntN (Rs q), fun q => cR (Rs q), fun q => oR (Rs q)⟩
theorem FR_at (kk : Nat → Int) (Rs : Nat → List Nat) (q : Nat) : (FR kk Rs).at q (Rs q) = FR kk Rs := by
  have key : ∀ {α : Type} (f : Nat → α), (fun i => bb2 (Nat.beq i q) (f q) (f i)) = f := fun f => by
    funext i
    rw [bb2_eq]
    cases h : Nat.beq i q with
    | true => rw [Nat.eq_of_beq_eq_true h]; rfl
    | false => rfl
  unfold Fr.at FR
  simp only
  congr 1
  · exact key fun q => pR (Rs q) q
  · exact key fun q => cntN (Rs q)
  · exact key fun q => cR (Rs q)
  · exact key fun q => oR (Rs q)
theorem pR_lo (R : List Nat) {q n : Nat} (h : Nat.blt q n = true) (k : Nat) (c : Cap) : (AV.slc (pR R q) k c).lo n = true := by
  cases R with
  | nil => rfl
  | cons x R => exact h
theorem nums_lo (R : List Nat) (n : Nat) : (numsA R).all (AV.lo n) = true := by
  rw [numsA_eq]; simp [AV.lo]
theorem oR_lo (R : List Nat) (n : Nat) : (oR R).lo n = true := by
  cases R with
  | nil => rfl
  | cons x R => exact nums_lo (x :: R) n
theorem mpF_lo (n : Nat) : ∀ (M : List Nat) (j : Nat), ((mpF M j).all fun e => e.key.lo n && e.val.lo n) = true
  | [], _ => rfl
  | x :: M, j => by
    have := mpF_lo n M (j + 1)
    show ((⟨wW x, .bool true, j⟩ :: mpF M (j + 1)).all fun e => AV.lo n e.key && AV.lo n e.val) = true
    simp only [List.all_cons, this, Bool.and_true]
    rfl
theorem vwF_lo (kk : Nat → Int) (Rs : Nat → List Nat) : (vwF (FR kk Rs)).all (AV.lo 7) = true := by
  have h : ∀ q, Nat.blt q 7 = true → ∀ k c, (AV.slc (pR (Rs q) q) k c).lo 7 = true := fun q hq k c => pR_lo _ hq k c
  simp only [vwF, FR, List.all_cons, List.all_nil, Bool.and_true, h 0 rfl, h 1 rfl, h 2 rfl, h 3 rfl, h 4 rfl, h 5 rfl, Bool.and_eq_true, true_and]
  simp [AV.lo]
theorem aSt_lo (kk : Nat → Int) (Rs : Nat → List Nat) (M : List Nat) : ∀ (j : Nat) (x : AO), (aSt (FR kk Rs) M)[j]? = some x → x.lo 7 = true := by
  intro j x hj
  match j with
  | 0 => injection hj with hj; subst hj; exact vwF_lo kk Rs
  | 1 => injection hj with hj; subst hj; exact oR_lo _ _
  | 2 => injection hj with hj; subst hj; exact oR_lo _ _
  | 3 => injection hj with hj; subst hj; exact oR_lo _ _
  | 4 => injection hj with hj; subst hj; exact oR_lo _ _
  | 5 => injection hj with hj; subst hj; exact oR_lo _ _
  | 6 => injection hj with hj; subst hj; exact mpF_lo 7 M 0
  | j + 7 => simp [aSt] at hj
end Go.Proofs.YtbilacojhmohmaaGreat.Ae

namespace Go.Proofs.YtbilacojhmohmaaGreat.Ae
open Go
set_option linter.unusedVariables false
set_option linter.unusedSimpArgs false
structure KOK (K : Env → Prop) : Prop where
  le : ∀ E E', K E → E.Le E' → K E'
  cut : ∀ n E, K E → K (cutN n E)
abbrev GK (K : Env → Prop) := GoodK Tryz.prog (cDraw Tryz.prog) K
abbrev GLK (K : Env → Prop) := GoodLK Tryz.prog (cDraw Tryz.prog) K
theorem at19_eq (c : CC) (t : Tr AV) (aw : AW) : at19 c t aw = xcode cTop 1000 c ⟨t, 113, []⟩ aw := kCode_eq cTop c 1000 t 113 [] aw
section
variable {K : Env → Prop} {Q : Post'} {kk : Nat → Int} {Rs : Nat → List Nat}
theorem back_rel {E : Env} {ca : Act} {w : World} {t : Tr AV} {aw : AW} {l : List AO} {n m : Nat} {tm : List (Nat × AV)} (hA : ActRel E ⟨t, n, []⟩ ca) (hR : Rel E aw w) (hlen : l.length = m + 1) (hg : ∀ (j : Nat) (x : AO), l[j]? = some x → aw.get j = some x) (hlo : ∀ (j : Nat) (x : AO), l[j]? = some x → x.lo (m + 1) = true)
    (ht : ∀ s v, (s, v) ∈ tm → t.get s s = some v ∧ v.lo (m + 1) = true) : ActRel (cutN (m + 1) E) ⟨tmOf tm .leaf, n, []⟩ ca ∧ Rel (cutN (m + 1) E) (ofObjs l (m + 1)) w := by
  refine ⟨⟨hA.size, fun s v hv => ?_, ?_⟩, cut_rel hR hlen hg hlo⟩
  · have hv : (tmOf tm .leaf).get s s = some v := hv
    rcases tmOf_get tm _ s v hv with hm | hm
    · obtain ⟨h1, h2⟩ := ht s v hm
      obtain ⟨x, hx, hr⟩ := hA.tmps _ _ h1
      exact ⟨x, hx, hr.lo h2⟩
    · simp [Tr.get] at hm
  · have := hA.defs
    generalize ca.defers = df at this ⊢
    cases this
    exact .nil
theorem backL (kok : KOK K) {c : CC} {t : Tr AV} {aw : AW} {l : List AO} {n m : Nat} {tm : List (Nat × AV)} (hlen : l.length = m + 1) (hg : ∀ (j : Nat) (x : AO), l[j]? = some x → aw.get j = some x) (hlo : ∀ (j : Nat) (x : AO), l[j]? = some x → x.lo (m + 1) = true)
    (ht : ∀ s v, (s, v) ∈ tm → t.get s s = some v ∧ v.lo (m + 1) = true) (h : GLK K c Q ⟨tmOf tm .leaf, n, []⟩ (ofObjs l (m + 1))) : GLK K c Q ⟨t, n, []⟩ aw := by
  intro cd hc E ca w hE hA hR
  obtain ⟨h1, h2⟩ := back_rel hA hR hlen hg hlo ht
  exact h cd hc (cutN (m + 1) E) ca w (kok.cut _ E hE) h1 h2
theorem backG (kok : KOK K) {c : CC} {t : Tr AV} {aw : AW} {l : List AO} {n m : Nat} {tm : List (Nat × AV)} (hlen : l.length = m + 1) (hg : ∀ (j : Nat) (x : AO), l[j]? = some x → aw.get j = some x) (hlo : ∀ (j : Nat) (x : AO), l[j]? = some x → x.lo (m + 1) = true)
    (ht : ∀ s v, (s, v) ∈ tm → t.get s s = some v ∧ v.lo (m + 1) = true) (h : GK K c Q ⟨tmOf tm .leaf, n, []⟩ (ofObjs l (m + 1))) : GK K c Q ⟨t, n, []⟩ aw := by
  intro cd hc E ca w hE hA hR
  obtain ⟨h1, h2⟩ := back_rel hA hR hlen hg hlo ht
  exact h cd hc (cutN (m + 1) E) ca w (kok.cut _ E hE) h1 h2
/-- what was seen, slot by slot, block by block -/
theorem seenA_ok {F : Fr} {t : Tr AV} {aw : AW} {X : AV} {b : Bool} {i : Nat} {M : List Nat} (h : seenA t aw = wantA F X b i M) (hX : X.lo 7 = true) : (∀ (j : Nat) (x : AO), (aSt F M)[j]? = some x → aw.get j = some x) ∧ ∀ s v, (s, v) ∈ aTm X b i → t.get s s = some v ∧ v.lo 7 = true := by
  simp only [seenA, wantA, Option.some.injEq, Prod.mk.injEq, List.cons.injEq, and_true, trGet_eq, awGet_eq] at h
  obtain ⟨⟨g0, g1, g4, g5, g11, g12⟩, m0, m1, m2, m3, m4, m5, m6⟩ := h
  refine ⟨fun j x hj => ?_, fun s v hm => ?_⟩
  · match j with
    | 0 => injection hj with hj; subst hj; exact m0
    | 1 => injection hj with hj; subst hj; exact m1
    | 2 => injection hj with hj; subst hj; exact m2
    | 3 => injection hj with hj; subst hj; exact m3
    | 4 => injection hj with hj; subst hj; exact m4
    | 5 => injection hj with hj; subst hj; exact m5
    | 6 => injection hj with hj; subst hj; exact m6
    | j + 7 => simp [aSt] at hj
  · simp only [aTm, List.mem_cons, List.not_mem_nil, or_false, Prod.mk.injEq] at hm
    rcases hm with ⟨rfl, rfl⟩ | ⟨rfl, rfl⟩ | ⟨rfl, rfl⟩ | ⟨rfl, rfl⟩ | ⟨rfl, rfl⟩ | ⟨rfl, rfl⟩
    · exact ⟨g0, rfl⟩
    · exact ⟨g1, hX⟩
    · exact ⟨g4, rfl⟩
    · exact ⟨g5, rfl⟩
    · exact ⟨g11, rfl⟩
    · exact ⟨g12, rfl⟩
/-- at the loop over the frames -/
def GA (K : Env → Prop) (Q : Post') (kk : Nat → Int) (Rs : Nat → List Nat) (X : AV) (b : Bool) (i : Nat) (M : List Nat) : Prop :=
  GLK K abB4 Q ⟨tmOf (aTm X b i) .leaf, 113, []⟩ (ofObjs (aSt (FR kk Rs) M) 7)
theorem step_good (kok : KOK K) {X : AV} {b b' : Bool} {q q' : Nat} {M M' : List Nat} (hX : X.lo 7 = true) (h : stepA (FR kk Rs) X b q M = wantA (FR kk Rs) X b' q' M') (hg : GA K Q kk Rs X b' q' M') : GA K Q kk Rs X b q M := by
  unfold stepA at h
  have hw : ∃ s, wantA (FR kk Rs) X b' q' M' = some s := ⟨_, rfl⟩
  obtain ⟨s, hs⟩ := hw
  rw [hs] at h
  obtain ⟨t1, aw1, e1, h1⟩ := bNn_ok h
  rw [at19_eq] at e1
  obtain ⟨k1, k2⟩ := seenA_ok (h1.trans hs.symm) hX
  exact GoodLK.round kok.le cTop_ok drA_ok e1 (backL kok rfl k1 (aSt_lo kk Rs M') k2 hg)
end
end Go.Proofs.YtbilacojhmohmaaGreat.Ae
