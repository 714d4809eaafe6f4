/- Regions that draw their order: whatever order comes up. No condition. -/
import Derived.Test.YtbilacojhmohmaaGreatAeDraw6
namespace Go.Proofs.YtbilacojhmohmaaGreat.Ae
open Go
set_option linter.unusedVariables false
set_option linter.unusedSimpArgs false

theorem okl_key {M : List Nat} {lt : Option Nat} {dn newer older : List (Nat × CR)} {i j : Nat} {it jt : CR} (h : OKL M lt dn) (e : dn = newer ++ (i, it) :: older) (hm : (j, jt) ∈ older) : i ≠ j :=
  (okPair_inv (okNew_mem (h newer i it older e).2.1 j jt hm)).1
theorem okl_uniq {M : List Nat} {lt : Option Nat} {i : Nat} {it it' : CR} : ∀ {n1 n2 o1 o2 dn : List (Nat × CR)}, OKL M lt dn → dn = n1 ++ (i, it) :: o1 → dn = n2 ++ (i, it') :: o2 → o1 = o2 ∧ it = it'
  | [], [], o1, o2, dn, h, e1, e2 => by rw [e1] at e2; simp at e2; exact ⟨e2.2, e2.1⟩
  | [], p :: n2, o1, o2, dn, h, e1, e2 => by
    have e3 := e1.symm.trans e2
    simp at e3
    exact (okl_key h e1 (j := i) (jt := it') (by rw [e3.2]; simp) rfl).elim
  | p :: n1, [], o1, o2, dn, h, e1, e2 => by
    have e3 := e2.symm.trans e1
    simp at e3
    exact (okl_key h e2 (j := i) (jt := it) (by rw [e3.2]; simp) rfl).elim
  | p :: n1, q :: n2, o1, o2, dn, h, e1, e2 => by
    have e3 := e1.symm.trans e2
    simp at e3
    refine okl_uniq (M := M) (lt := lt) (n1 := n1) (n2 := n2) (dn := n1 ++ (i, it) :: o1) ?_ rfl e3.2
    intro newer j jt older e4
    refine h (p :: newer) j jt older ?_
    rw [e1, List.cons_append, e4]
    rfl

section
variable (P : Program) (call : Call) (ops : Array Oper) (lt : Option Nat) (T : AAct) (hs : List AW) (dn : List (Nat × CR)) (s : Nat)

structure Plan (T0 : AAct) : Prop where
  known : Known call (masks ops ops.size) lt T0 T hs dn
  items : ∀ p ∈ dn, ∃ o, ops[p.1]? = some o ∧ cItem P ops o = some p.2
  allin : ∀ i, i < s → ∃ it, (i, it) ∈ dn
  alllt : ∀ p ∈ dn, p.1 < s
  late : okLate ops lt = true

structure Pend (E0 E' : Env) (k : Nat) (X : Array Bool) (a : Act) : Prop where
  ex : ∃ (ℓ : Nat) (o : Oper) (d : Nat) (c : COp) (obj : Obj) (vf : Nat → Value) (n : Nat) (rf : Nat → AV) (ao : AO) (b : Nat), lt = some ℓ ∧ X.getD ℓ false = true ∧ (ℓ, CR.op (some d) none c) ∈ dn ∧
    ((∀ T aw, xop T aw c = some (rf aw.nx, aw.add ao)) ∧ (∀ b E w, w.heap[b]? = some obj → ORel E ⟨b, 0, n⟩ w ao) ∧ (∀ E id b, E.loc[id]? = some ⟨b, 0, n⟩ → VRel E (rf id) (vf b))) ∧
    (E'.fr = fun x => if x = b then some obj else E0.fr x) ∧ E0.fr b = none ∧ a.tmps[d]? = some (vf b) ∧ ops[ℓ]? = some o ∧
    ∀ n2 lit o2, dn = n2 ++ (ℓ, lit) :: o2 → k ≤ (effL o2).length

structure Inv (E0 : Env) (X : Array Bool) (a : Act) (w : World) (pd : Bool) (E' : Env) (k : Nat) (h : AW) : Prop where
  loc : ∃ l, E'.loc = E0.loc ++ l
  sym : E'.sym = E0.sym
  at_ : hs[k]? = some h
  rel : Rel E' h w
  size : a.tmps.size = T.n
  defs : DRel E' T.defs a.defers
  st1 : ∀ q e, (effL dn)[q]? = some e → q < k → X.getD e false = true
  st2 : ∀ q e, (effL dn)[q]? = some e → X.getD e false = true → q < k ∨ (pd = true ∧ lt = some e)
  tm : ∀ t v, T.tmps.get t t = some v → (∀ j jt, (j, jt) ∈ dn → jt.dst = some t → X.getD j false = true ∧ ¬(pd = true ∧ lt = some j)) → ∃ x, a.tmps[t]? = some x ∧ VRel E' v x
  pend : pd = true → Pend ops lt dn E0 E' k X a
  free : pd = false → E'.fr = E0.fr
end

section
variable {P : Program} {call : Call} {ops : Array Oper} {lt : Option Nat} {T T0 : AAct} {hs : List AW} {dn : List (Nat × CR)} {s : Nat} {E0 E' : Env} {X : Array Bool} {a : Act} {w : World} {pd : Bool} {k : Nat} {h : AW}

theorem effL_at {i : Nat} {it : CR} {newer older : List (Nat × CR)} (e : dn = newer ++ (i, it) :: older) (hk : it.kind = 2) : (effL dn)[(effL older).length]? = some i := by
  rw [e, effL_append]
  simp only [effL, hk, Nat.beq_refl, cond_true, List.append_assoc]
  rw [List.getElem?_append_right (Nat.le_refl _)]
  simp

theorem effL_split {q e : Nat} : ∀ {dn : List (Nat × CR)}, (effL dn)[q]? = some e → ∃ n lit o, dn = n ++ (e, lit) :: o ∧ q = (effL o).length
  | [], hq => by simp [effL] at hq
  | (i, it) :: l, hq => by
    simp only [effL] at hq
    cases hk : Nat.beq it.kind 2 with
    | false =>
      simp only [hk, cond_false] at hq
      obtain ⟨n, lit, o, h1, h2⟩ := effL_split hq
      exact ⟨(i, it) :: n, lit, o, by rw [h1]; rfl, h2⟩
    | true =>
      simp only [hk, cond_true] at hq
      rcases Nat.lt_or_ge q (effL l).length with h | h
      · rw [List.getElem?_append_left h] at hq
        obtain ⟨n, lit, o, h1, h2⟩ := effL_split hq
        exact ⟨(i, it) :: n, lit, o, by rw [h1]; rfl, h2⟩
      · rw [List.getElem?_append_right h] at hq
        have hz : q - (effL l).length = 0 := by
          rcases Nat.eq_zero_or_pos (q - (effL l).length) with z | z
          · exact z
          · rw [List.getElem?_eq_none (by simp; omega)] at hq; cases hq
        rw [hz] at hq; simp at hq; subst hq
        exact ⟨[], it, l, rfl, by omega⟩

/-- the late one has come up early, and its time has come -/
theorem Inv.catch_ (hP : Plan P call ops lt T hs dn s T0) (hI : Inv ops lt T hs dn E0 X a w true E' k h) (hk : ∃ ℓ lit n2 o2, lt = some ℓ ∧ dn = n2 ++ (ℓ, lit) :: o2 ∧ k = (effL o2).length) :
    ∃ E2 h2, Inv ops lt T hs dn E0 X a w false E2 (k + 1) h2 := by
  obtain ⟨ℓ, o, d, c, obj, vf, n, rf, ao, b, hlt, hX, hm, ⟨sp1, sp2, sp3⟩, hfr, hb0, htd, hop, hbelow⟩ := (hI.pend rfl).ex
  obtain ⟨ℓ', lit, n2, o2, hlt', hsp, hkk⟩ := hk
  rw [hlt] at hlt'; injection hlt' with hlt'; subst hlt'
  obtain ⟨n3, o3, hsp3⟩ := split_mem hm
  obtain ⟨ho, hl⟩ := okl_uniq hP.known.ok hsp hsp3
  subst hl
  obtain ⟨_, f2, _, _⟩ := hP.known.facts n2 ℓ _ o2 hsp
  have hkind : (CR.op (some d) none c).kind = 2 := by
    have hx := sp1 .leaf ⟨.leaf, 0, 0⟩
    have h1 := (hP.known.facts n2 ℓ _ o2 hsp).1
    have hc : c.kind = 0 ∨ c.kind = 1 ∨ c.kind = 2 := by have : c.kind ≤ 2 := h1; omega
    rcases hc with hc | hc | hc
    · have := (Ae.kind0 hc hx).1; simp [AW.add] at this
    · have := Ae.kind1 hc hx; simp [AW.add] at this
    · exact hc
  obtain ⟨x, x', g1, g2, g3⟩ := f2 hkind
  rw [← hkk] at g1 g2
  have := hI.at_
  rw [this] at g1; injection g1 with g1; subst g1
  have hE : (effL dn)[k]? = some ℓ := by rw [hkk]; exact effL_at hsp hkind
  rcases g3 with ⟨_, v, hx, hgot⟩ | ⟨hg, _, _⟩
  · rw [sp1] at hx
    simp at hx
    obtain ⟨rfl, rfl⟩ := hx
    have hR := hI.rel.unghost hfr hb0 (sp2 b)
    have hle : ∀ {a v}, VRel E' a v → VRel ({ E' with fr := E0.fr }.put ⟨b, 0, n⟩) a v := fun hv => hv.fr.mono (Env.put_le _ _)
    refine ⟨{ E' with fr := E0.fr }.put ⟨b, 0, n⟩, h.add ao, ⟨?_, ?_, g2, hR, hI.size, ?_, fun q e hq hlt2 => ?_, fun q e hq hXe => ?_, fun t v hv hj => ?_, (fun e => Bool.noConfusion e), fun _ => rfl⟩⟩
    · obtain ⟨l, hl⟩ := hI.loc
      exact ⟨l ++ [⟨b, 0, n⟩], by simp [Env.put, hl]⟩
    · exact hI.sym
    · exact (hI.defs.fr (f := E0.fr)).mono (Env.put_le _ _)
    · rcases Nat.lt_or_ge q k with hq2 | hq2
      · exact hI.st1 q e hq hq2
      · have : q = k := by omega
        subst this
        rw [hE] at hq; injection hq with hq; subst hq; exact hX
    · rcases hI.st2 q e hq hXe with hq2 | ⟨_, hl⟩
      · exact .inl (by omega)
      · rw [hlt] at hl; injection hl with hl; subst hl
        left
        -- the late one stands at one place alone
        have hmem : ∃ n4 lit4 o4, dn = n4 ++ (ℓ, lit4) :: o4 ∧ q = (effL o4).length := effL_split hq
        obtain ⟨n4, lit4, o4, hs4, hq4⟩ := hmem
        obtain ⟨e1, _⟩ := okl_uniq hP.known.ok hsp hs4
        rw [hq4, ← e1, ← hkk]; omega
    · by_cases htd2 : t = d
      · subst htd2
        rw [hgot.1] at hv; injection hv with hv; subst hv
        refine ⟨_, htd, sp3 _ _ _ ?_⟩
        rw [hI.rel.nx]; simp [Env.put]
      · obtain ⟨x, hx1, hx2⟩ := hI.tm t v hv fun j jt hm2 hd2 => by
          refine ⟨(hj j jt hm2 hd2).1, fun ⟨_, hl⟩ => ?_⟩
          rw [hlt] at hl; injection hl with hl; subst hl
          obtain ⟨n5, o5, hs5⟩ := split_mem hm2
          obtain ⟨_, hl5⟩ := okl_uniq hP.known.ok hsp hs5
          subst hl5
          simp [CR.dst] at hd2
          exact htd2 hd2.symm
        exact ⟨x, hx1, hle hx2⟩
  · simp [xguard] at hg

theorem afterEff_mem {M : List Nat} {i : Nat} : ∀ {l : List (Nat × CR)}, afterEff M i l = true → ∀ j jt, (j, jt) ∈ l → jt.kind = 2 → bb M i j = true
  | [], _, j, jt, hm, _ => by simp at hm
  | (n, nt) :: l, h, j, jt, hm, hk => by
    simp only [afterEff, Bool.and_eq_true, Bool.or_eq_true, Bool.not_eq_true'] at h
    rcases List.mem_cons.1 hm with e | hm
    · injection e with e1 e2; subst e1; subst e2
      exact h.1.resolve_left fun q => by rw [hk] at q; simp [Nat.beq_refl] at q
    · exact afterEff_mem h.2 j jt hm hk
theorem usesLate_mem {j d : Nat} {it jt : CR} : ∀ {l : List (Nat × CR)}, (j, jt) ∈ l → lt = some j → jt.dst = some d → d ∈ it.uses → usesLate lt it l = true
  | [], hm, _, _, _ => by simp at hm
  | (n, nt) :: l, hm, hl, hd, hu => by
    simp only [usesLate, Bool.or_eq_true]
    rcases List.mem_cons.1 hm with e | hm
    · injection e with e1 e2; subst e1; subst e2
      left; rw [hl, hd]; simp [Nat.beq_refl, memN_iff.2 hu]
    · exact .inr (usesLate_mem hm hl hd hu)
theorem getD_set {X : Array Bool} {i j : Nat} : (X.setIfInBounds i true).getD j false = true → j = i ∨ X.getD j false = true := by
  intro h
  by_cases e : i = j
  · exact .inl e.symm
  · rw [getD_set_ne false e] at h; exact .inr h
theorem getD_self {X : Array Bool} {i : Nat} (h : i < X.size) : (X.setIfInBounds i true).getD i false = true := by
  simp [h]
theorem put_tmps_ne {a : Act} {d : Option Nat} {x : Value} {t : Nat} (h : d ≠ some t) : (a.put d x).tmps[t]? = a.tmps[t]? := by
  cases d with
  | none => rfl
  | some d => simp only [Act.put]; exact Array.getElem?_setIfInBounds_ne fun e => h (by rw [e])
theorem put_size {a : Act} {d : Option Nat} {x : Value} : (a.put d x).tmps.size = a.tmps.size := by cases d <;> simp [Act.put]
theorem put_defers' {a : Act} {d : Option Nat} {x : Value} : (a.put d x).defers = a.defers := by cases d <;> rfl

theorem Inv.step (hcall : CallOK P call) (hP : Plan P call ops lt T hs dn s T0) (hss : s ≤ ops.size) (hI : Inv ops lt T hs dn E0 X a w pd E' k h)
    (hstrict : pd = true → ∀ ℓ lit n2 o2, lt = some ℓ → dn = n2 ++ (ℓ, lit) :: o2 → k < (effL o2).length) (hD : Down ops X) (hXs : X.size = ops.size) {i : Nat} (hi : i < s) (hx : X.getD i false = false) (hr : Ready ops X i) {Q : Exit → Act → World → Prop} :
    wpOp P ops Q i (fun a' w' => ∃ pd' E2 k2 h2, Inv ops lt T hs dn E0 (X.setIfInBounds i true) a' w' pd' E2 k2 h2) a w := by
  obtain ⟨it, hm⟩ := hP.allin i hi
  obtain ⟨newer, older, hsp⟩ := split_mem hm
  obtain ⟨hk, hnew, hself, hstage⟩ := hP.known.ok newer i it older hsp
  obtain ⟨_, f2, f0, f1⟩ := hP.known.facts newer i it older hsp
  obtain ⟨o, ho, hit⟩ := hP.items (i, it) hm
  have hdst := citem_dst hit hk
  have iltX : i < X.size := by omega
  have down : ∀ j, bb (masks ops ops.size) i j = true → X.getD j false = true := fun j hb => bb_sound hD i j hb (.inr hr)
  have hEk : ∀ e, (effL dn)[k]? = some e → X.getD e false ≠ true := fun e he hXe => by
    rcases hI.st2 k e he hXe with q | ⟨q1, q2⟩
    · omega
    · obtain ⟨n, lit, o2, e1, e2⟩ := effL_split he
      have := hstrict q1 e lit n o2 q2 e1
      omega
  have hpre : ∀ q, q < (effL older).length → (effL dn)[q]? = (effL older)[q]? := fun q hq => by
    rw [hsp, effL_append]
    simp only [effL]
    cases Nat.beq it.kind 2
    · simp only [cond_false]; rw [List.getElem?_append_left hq]
    · simp only [cond_true, List.append_assoc]; rw [List.getElem?_append_left hq]
  have reach : afterEff (masks ops ops.size) i older = true → (effL older).length ≤ k := fun haf => by
    rcases Nat.lt_or_ge k (effL older).length with hlt | hge
    · have he : (effL dn)[k]? = some ((effL older)[k]'hlt) := by rw [hpre k hlt]; exact List.getElem?_eq_getElem hlt
      obtain ⟨jt, hm2, hk2⟩ := effL_sub (List.getElem_mem hlt)
      exact (hEk _ he (down _ (afterEff_mem haf _ jt hm2 hk2))).elim
    · exact hge
  have notlate : ∀ j, lt = some j → i ≠ j → isLate lt i = false := fun j hl hne => by
    rw [hl]; simp only [isLate]
    cases hb : Nat.beq j i with
    | false => rfl
    | true => exact (hne (Nat.eq_of_beq_eq_true hb).symm).elim
  have huse : ∀ t ∈ it.uses, ∀ v, T.tmps.get t t = some v → ∃ x, a.tmps[t]? = some x ∧ VRel E' v x := fun t ht v hv => by
    refine hI.tm t v hv fun j jt hm2 hd2 => ?_
    rw [hsp] at hm2
    rcases List.mem_append.1 hm2 with hm3 | hm3
    · obtain ⟨n1, n2, e1⟩ := split_mem hm3
      have hsp2 : dn = n1 ++ (j, jt) :: (n2 ++ (i, it) :: older) := by rw [hsp, e1]; simp
      have := (okPair_inv (okNew_mem (hP.known.ok n1 j jt _ hsp2).2.1 i it (by simp))).2.2 t hd2
      exact (this.1 ht).elim
    · rcases List.mem_cons.1 hm3 with e | hm3
      · injection e with e1 e2; subst e1; subst e2
        exact ((okSelf_inv hself).1 t hd2 ht).elim
      · obtain ⟨hne, q2, _⟩ := okPair_inv (okNew_mem hnew j jt hm3)
        refine ⟨down j (q2 t hd2 ht), fun ⟨hp, hl⟩ => ?_⟩
        have hul := usesLate_mem (it := it) hm3 hl hd2 ht
        have hst := hstage
        unfold okStage at hst
        rw [notlate j hl hne, hul] at hst
        simp only [cond_false, Bool.not_true, Bool.and_false] at hst
        have hge := reach hst
        obtain ⟨n1, o2, e1⟩ := split_mem hm3
        have hlt2 := hstrict hp j jt (newer ++ (i, it) :: n1) o2 hl (by rw [hsp, e1]; simp)
        have : (effL o2).length ≤ (effL older).length := by
          rw [e1, effL_append]; simp only [effL, List.length_append]
          cases Nat.beq jt.kind 2 <;> simp <;> omega
        omega
  have key : ∀ {j jt}, (j, jt) ∈ dn → j = i → jt = it := fun hm2 e => by
    subst e
    obtain ⟨n1, o2, e1⟩ := split_mem hm2
    exact (okl_uniq hP.known.ok e1 hsp).2
  -- the frame behind it
  have tmn : ∀ (pd2 : Bool) (E2 : Env) (x : Value), (∀ {u y}, VRel E' u y → VRel E2 u y) → (∀ d, it.dst = some d → (pd2 = true ∧ lt = some i) ∨ ∃ v, T.tmps.get d d = some v ∧ d < T.n ∧ VRel E2 v x) → (∀ j, j ≠ i → (pd = true ∧ lt = some j) → (pd2 = true ∧ lt = some j)) →
      ∀ t v, T.tmps.get t t = some v → (∀ j jt, (j, jt) ∈ dn → jt.dst = some t → (X.setIfInBounds i true).getD j false = true ∧ ¬(pd2 = true ∧ lt = some j)) → ∃ y, (a.put o.dst x).tmps[t]? = some y ∧ VRel E2 v y := by
    intro pd2 E2 x hmono hd hpd t v hv hj
    by_cases e : it.dst = some t
    · rcases hd t e with h1 | ⟨v', h1, h2, h3⟩
      · exact ((hj i it hm e).2 h1).elim
      · rw [h1] at hv; injection hv with hv; subst hv
        refine ⟨x, ?_, h3⟩
        rw [← hdst, e]
        simp only [Act.put]
        exact Array.getElem?_setIfInBounds_self_of_lt (by rw [hI.size]; exact h2)
    · obtain ⟨y, hy, hv2⟩ := hI.tm t v hv fun j jt hm2 hd2 => by
        obtain ⟨q1, q2⟩ := hj j jt hm2 hd2
        have hne : j ≠ i := fun e2 => e (by rw [← key hm2 e2]; exact hd2)
        refine ⟨(getD_set q1).resolve_left hne, fun hp => q2 (hpd j hne hp)⟩
      refine ⟨y, ?_, hmono hv2⟩
      rw [put_tmps_ne (by rw [← hdst]; exact e)]
      exact hy
  have st1' : ∀ k2, (∀ q e, (effL dn)[q]? = some e → q < k2 → q < k ∨ e = i) → ∀ q e, (effL dn)[q]? = some e → q < k2 → (X.setIfInBounds i true).getD e false = true := fun k2 hq q e he hlt2 => by
    rcases hq q e he hlt2 with h1 | rfl
    · by_cases e2 : i = e
      · subst e2; exact getD_self iltX
      · rw [getD_set_ne false e2]; exact hI.st1 q e he h1
    · exact getD_self iltX
  by_cases hlate : lt = some i
  · -- the late one
    have hpd : pd = false := by
      cases pd with
      | false => rfl
      | true =>
        obtain ⟨ℓ, _, _, _, _, _, _, _, _, _, hl, hXl, _⟩ := (hI.pend rfl).ex
        rw [hlate] at hl; injection hl with hl; subst hl
        rw [hx] at hXl; cases hXl
    subst hpd
    have hol := hP.late
    rw [hlate] at hol
    simp only [okLate, ho, Bool.and_eq_true] at hol
    obtain ⟨l1, l2, l3⟩ := hol
    have hgd : o.guard = none := by simpa using l2
    obtain ⟨d, hd⟩ := Option.isSome_iff_exists.1 l3
    obtain ⟨c, rfl, ⟨obj, vf, n, rf, ao, sp0, sp1, sp2, sp3⟩⟩ := late_spec l1 hgd hit
    have hkind : (CR.op o.dst none c).kind = 2 := by
      have hxx := sp1 .leaf ⟨.leaf, 0, 0⟩
      have hc : c.kind = 0 ∨ c.kind = 1 ∨ c.kind = 2 := by have : c.kind ≤ 2 := hk; omega
      rcases hc with hc | hc | hc
      · have := (Ae.kind0 hc hxx).1; simp [AW.add] at this
      · have := Ae.kind1 hc hxx; simp [AW.add] at this
      · exact hc
    have hEc := effL_at hsp hkind
    have hkc : k ≤ (effL older).length := by
      rcases Nat.lt_or_ge (effL older).length k with hlt2 | hge
      · have := hI.st1 _ _ hEc hlt2; rw [hx] at this; cases this
      · exact hge
    rcases Nat.lt_or_ge k (effL older).length with hlt2 | hge
    · -- too early: only the frame knows it
      unfold wpOp
      simp only [ho]
      have hw : Region.wanted o (yielded ops a.tmps) = true := by simp [Region.wanted, hgd]
      rw [if_pos hw]
      left
      unfold Oper.wp
      rw [sp0 a w]
      simp only [Oper.upon]
      refine ⟨true, { E' with fr := fun x => if x = w.heap.size then some obj else E'.fr x }, k, h, ⟨hI.loc, hI.sym, hI.at_, hI.rel.ghost obj, by rw [put_size]; exact hI.size, by rw [put_defers']; exact hI.defs.fr, st1' k (fun q e _ h1 => .inl h1), fun q e hq hXe => ?_, ?_, fun _ => ?_, fun e => Bool.noConfusion e⟩⟩
      · rcases getD_set hXe with rfl | hXe
        · exact .inr ⟨rfl, hlate⟩
        · rcases hI.st2 q e hq hXe with q1 | ⟨q1, _⟩
          · exact .inl q1
          · cases q1
      · exact tmn true _ _ (fun hv => hv.fr) (fun d hd => .inl ⟨rfl, hlate⟩) fun j hne ⟨q, _⟩ => by cases q
      · refine ⟨i, o, d, c, obj, vf, n, rf, ao, w.heap.size, hlate, getD_self iltX, by rw [← hd]; exact hm, ⟨sp1, sp2, sp3⟩, ?_, ?_, ?_, ho, fun n2 lit o2 e1 => ?_⟩
        · simp only [hI.free rfl]
        · cases hf : E0.fr w.heap.size with
          | none => rfl
          | some ob =>
            rw [← hI.free rfl] at hf
            have := (Array.getElem?_eq_some_iff.1 (hI.rel.frame _ _ hf)).1
            omega
        · rw [hd]; simp only [Act.put]
          have hdn : d < T.n := by
            obtain ⟨_, _, _, _, hI2⟩ := f2 hkind
            rcases hI2 with ⟨_, v, _, hg⟩ | ⟨hg, _, _⟩
            · rw [hd] at hg; exact hg.2
            · simp [xguard] at hg
          exact Array.getElem?_setIfInBounds_self_of_lt (by rw [hI.size]; exact hdn)
        · obtain ⟨e2, _⟩ := okl_uniq hP.known.ok e1 hsp
          rw [e2]; omega
    · have hkeq : k = (effL older).length := by omega
      obtain ⟨x1, x2, g1, g2, g3⟩ := f2 hkind
      rw [← hkeq] at g1 g2
      rw [hI.at_] at g1; injection g1 with g1; subst g1
      refine exec_item hcall ho hit hk g3 hI.rel hI.size hI.defs huse fun E2 w' x hle hR2 hd2 => ?_
      obtain ⟨⟨ls, hls⟩, hss2, hfr2⟩ := hle
      have hle : E'.Le E2 := ⟨⟨ls, hls⟩, hss2, hfr2⟩
      obtain ⟨l0, hl0⟩ := hI.loc
      refine ⟨false, E2, k + 1, x2, ⟨⟨l0 ++ ls, by rw [hls, hl0, List.append_assoc]⟩, hss2.trans hI.sym, g2, hR2, by rw [put_size]; exact hI.size, by rw [put_defers']; exact hI.defs.mono hle, st1' (k + 1) (fun q e hq h1 => ?_), fun q e hq hXe => ?_, ?_, fun e => Bool.noConfusion e, fun _ => by rw [hfr2]; exact hI.free rfl⟩⟩
      · rcases Nat.lt_or_ge q k with h2 | h2
        · exact .inl h2
        · have : q = k := by omega
          subst this
          rw [hkeq, hEc] at hq; injection hq with hq; exact .inr hq.symm
      · left
        rcases getD_set hXe with rfl | hXe
        · obtain ⟨n4, lit4, o4, hs4, hq4⟩ := effL_split hq
          obtain ⟨e1, _⟩ := okl_uniq hP.known.ok hsp hs4
          rw [hq4, ← e1]; omega
        · rcases hI.st2 q e hq hXe with q1 | ⟨q1, _⟩
          · omega
          · cases q1
      · exact tmn false E2 x (fun hv => hv.mono hle) (fun d hd => .inr (hd2 d hd)) fun j hne q => q
  · -- any other one
    have hil : isLate lt i = false := by
      cases lt with
      | none => rfl
      | some n =>
        simp only [isLate]
        cases hb : Nat.beq n i with
        | false => rfl
        | true => exact (hlate (by rw [Nat.eq_of_beq_eq_true hb])).elim
    unfold okStage at hstage
    rw [hil] at hstage
    simp only [cond_false] at hstage
    -- what it does, at this stage
    have hrun : ∃ k2 h2, ItemAt call T it h h2 ∧ hs[k2]? = some h2 ∧ ((it.kind ≠ 2 ∧ k2 = k) ∨ (it.kind = 2 ∧ k = (effL older).length ∧ k2 = k + 1)) := by
      have hc : it.kind = 0 ∨ it.kind = 1 ∨ it.kind = 2 := by omega
      rcases hc with hc | hc | hc
      · exact ⟨k, h, f0 hc k h hI.at_, hI.at_, .inl ⟨by omega, rfl⟩⟩
      · have haf : afterEff (masks ops ops.size) i older = true := by
          rw [hc] at hstage; simpa using hstage
        refine ⟨k, h, f1 hc k h hI.at_ (reach haf) fun q e h1 h2 h3 => ?_, hI.at_, .inl ⟨by omega, rfl⟩⟩
        cases hb : bb (masks ops ops.size) e i with
        | false => rfl
        | true =>
          have := bb_sound hD e i hb (.inl (hI.st1 q e h3 h2))
          rw [hx] at this; cases this
      · have haf : afterEff (masks ops ops.size) i older = true := by
          rw [hc] at hstage; simpa using hstage
        have hge := reach haf
        have hEc := effL_at hsp hc
        have hkeq : k = (effL older).length := by
          rcases Nat.lt_or_ge (effL older).length k with h1 | h1
          · have := hI.st1 _ _ hEc h1; rw [hx] at this; cases this
          · omega
        obtain ⟨x1, x2, g1, g2, g3⟩ := f2 hc
        rw [← hkeq] at g1 g2
        rw [hI.at_] at g1; injection g1 with g1; subst g1
        exact ⟨k + 1, x2, g3, g2, .inr ⟨hc, hkeq, rfl⟩⟩
    obtain ⟨k2, h2, hit2, hk2, hcase⟩ := hrun
    refine exec_item hcall ho hit hk hit2 hI.rel hI.size hI.defs huse fun E2 w' x hle hR2 hd2 => ?_
    obtain ⟨⟨ls, hls⟩, hss2, hfr2⟩ := hle
    have hle : E'.Le E2 := ⟨⟨ls, hls⟩, hss2, hfr2⟩
    obtain ⟨l0, hl0⟩ := hI.loc
    refine ⟨pd, E2, k2, h2, ⟨⟨l0 ++ ls, by rw [hls, hl0, List.append_assoc]⟩, hss2.trans hI.sym, hk2, hR2, by rw [put_size]; exact hI.size, by rw [put_defers']; exact hI.defs.mono hle, st1' k2 (fun q e hq h1 => ?_), fun q e hq hXe => ?_, ?_, fun hp => ?_, fun hp => by rw [hfr2]; exact hI.free hp⟩⟩
    · rcases hcase with ⟨_, rfl⟩ | ⟨hc, hkeq, rfl⟩
      · exact .inl h1
      · rcases Nat.lt_or_ge q k with h2 | h2
        · exact .inl h2
        · have : q = k := by omega
          subst this
          rw [hkeq, effL_at hsp hc] at hq; injection hq with hq; exact .inr hq.symm
    · rcases getD_set hXe with rfl | hXe
      · obtain ⟨n4, lit4, o4, hs4, hq4⟩ := effL_split hq
        obtain ⟨e1, e2⟩ := okl_uniq hP.known.ok hsp hs4
        left
        rcases hcase with ⟨hne, rfl⟩ | ⟨hc, hkeq, rfl⟩
        · obtain ⟨jt, hm4, hk4⟩ := effL_sub (List.mem_of_getElem? hq)
          rw [key hm4 rfl] at hk4
          exact (hne hk4).elim
        · rw [hq4, ← e1]; omega
      · rcases hI.st2 q e hq hXe with q1 | q1
        · left; rcases hcase with ⟨_, rfl⟩ | ⟨_, _, rfl⟩ <;> omega
        · exact .inr q1
    · exact tmn pd E2 x (fun hv => hv.mono hle) (fun d hd => .inr (hd2 d hd)) fun j hne q => q
    · obtain ⟨ℓ, o2, d, c, obj, vf, n, rf, ao, b, hl, hXl, hml, hsp4, hfr4, hb4, htd, hol2, hbel⟩ := (hI.pend hp).ex
      have hne : i ≠ ℓ := fun e => hlate (by rw [hl, e])
      refine ⟨ℓ, o2, d, c, obj, vf, n, rf, ao, b, hl, by rw [getD_set_ne false hne]; exact hXl, hml, hsp4, by rw [hfr2]; exact hfr4, hb4, ?_, hol2, fun n2 lit o3 e1 => ?_⟩
      · rw [put_tmps_ne]
        · exact htd
        · rw [← hdst]
          intro e
          -- two of them would write one slot
          obtain ⟨n1, o5, e5⟩ := split_mem hml
          rw [hsp] at hml
          rcases List.mem_append.1 hml with hm3 | hm3
          · obtain ⟨n1, n2, e1⟩ := split_mem hm3
            have hsp2 : dn = n1 ++ (ℓ, CR.op (some d) none c) :: (n2 ++ (i, it) :: older) := by rw [hsp, e1]; simp
            exact ((okPair_inv (okNew_mem (hP.known.ok n1 ℓ _ _ hsp2).2.1 i it (by simp))).2.2 d rfl).2 e
          · rcases List.mem_cons.1 hm3 with e2 | hm3
            · injection e2 with e2 _; exact hne e2.symm
            · exact ((okPair_inv (okNew_mem hnew ℓ _ hm3)).2.2 d e).2 rfl
      · have := hstrict hp ℓ lit n2 o3 hl e1
        rcases hcase with ⟨_, rfl⟩ | ⟨_, _, rfl⟩ <;> omega
end
end Go.Proofs.YtbilacojhmohmaaGreat.Ae
