/- Solve's rounds, joined; A summary: the lines of a frame, solved. No condition. -/
import Derived.Test.YtbilacojhmohmaaGreatD12
import Derived.Maps.RangeRun
set_option linter.unusedVariables false
set_option linter.unusedSimpArgs false
noncomputable section
namespace Go.Proofs.YtbilacojhmohmaaGreat.Ae
open Go
theorem xfind_lin {k i : Nat} {idf : Nat → Nat} : ∀ {T : List (Nat × Nat × Loc)} {p : Nat}, (∃ x ∈ T, x.1 = i) → ∃ p', xfind .i64 (.ofNat i) (linEs k idf T) p = some (some (p', .slc (some (idf i, 0)) (k + 2) (.upto 1 (k + 2))))
 | [], p, h => by obtain ⟨x, hx, _⟩ := h; cases hx
 | x :: T, p, h => by
  have e : xfind .i64 (.ofNat i) (linEs k idf (x :: T)) p = bif ieq (.ofNat i) (.ofNat x.1) then some (some (p, .slc (some (idf x.1, 0)) (k + 2) (.upto 1 (k + 2)))) else xfind .i64 (.ofNat i) (linEs k idf T) (p + 1) := rfl
  rw [e, ieq_eq]
  by_cases hx : x.1 = i
  ·subst hx; exact ⟨p, by simp⟩
  ·have : ((Int.ofNat i) == (Int.ofNat x.1)) = false := beq_false_of_ne (fun h => hx (by injection h with h; exact h.symm))
   rw [this]
   refine xfind_lin ?_
   obtain ⟨y, hy, e2⟩ := h
   rcases List.mem_cons.1 hy with rfl | hy
   ·exact (hx e2).elim
   ·exact ⟨y, hy, e2⟩
theorem xfind_no {k i : Nat} {idf : Nat → Nat} : ∀ {T : List (Nat × Nat × Loc)} {p : Nat}, (∀ x ∈ T, x.1 ≠ i) → xfind .i64 (.ofNat i) (linEs k idf T) p = some none
 | [], p, h => rfl
 | x :: T, p, h => by
  have e : xfind .i64 (.ofNat i) (linEs k idf (x :: T)) p = bif ieq (.ofNat i) (.ofNat x.1) then some (some (p, .slc (some (idf x.1, 0)) (k + 2) (.upto 1 (k + 2)))) else xfind .i64 (.ofNat i) (linEs k idf T) (p + 1) := rfl
  rw [e, ieq_eq]
  have hx := h x (by simp)
  have : ((Int.ofNat i) == (Int.ofNat x.1)) = false := beq_false_of_ne (fun h => hx (by injection h with h; exact h.symm))
  rw [this]
  exact xfind_no fun y hy => h y (List.mem_cons_of_mem _ hy)
theorem look_lin {t : Tr AV} {aw : AW} {z : AV} {m i p : Nat} {es : List AEnt} {c : Nat} {v : AV} {a b : Nat} (h1 : t.get a a = some (.map (some m))) (h2 : t.get b b = some (.int .i64 (.ofNat i))) (h3 : aw.get m = some (.map es c)) (h4 : xfind .i64 (.ofNat i) es 0 = some (some (p, v))) :
  xop t aw (.look z false (.t a) (.t b)) = some (v, aw) := by
 simp only [xop, Opd.ev, h1, h2, h3, h4, cond_false]
theorem items_op {call : Call} {d n : Nat} {c : COp} {l : List CR} {t : Tr AV} {aw aw1 : AW} {v : AV} (h : xop t aw c = some (v, aw1)) (hd : Nat.blt d n = true) : xitems call (.op (some d) none c :: l) ⟨t, n, []⟩ aw = xitems call l ⟨t.set d d v, n, []⟩ aw1 := by
 simp only [xitems, xguard, h, AAct.put, hd, cond_true]
theorem isTrueV_ok {v : Option AV} (h : isTrueV v = true) : v = some (.bool true) := by
 unfold isTrueV at h
 split at h
 ·rw [h]
 ·cases h
theorem isFalseV_ok {v : Option AV} (h : isFalseV v = true) : v = some (.bool false) := by
 unfold isFalseV at h
 split at h
 ·rename_i u; cases u <;> first | rfl | cases h
 ·cases h
theorem okLook_ok {i : Nat} {t : Tr AV} (h : okLook i t = true) : t.get 28 28 = some (.map (some 0)) ∧ t.get 29 29 = some (.int .i64 (.ofNat i)) := by
 unfold okLook at h
 split at h <;> (try (cases h; done))
 rename_i m h28
 rw [bb2_eq] at h
 cases hm : Nat.beq m 0 <;> simp only [hm, cond_true, cond_false, Bool.false_eq_true] at h
 split at h <;> (try (cases h; done))
 rename_i j h29
 rw [trGet_eq] at h28 h29
 rw [h28, h29, nbt hm, nbt h]
 exact ⟨rfl, rfl⟩
theorem slvP_mem {len i : Nat} (hl : len ∈ lens) (hi : i < kOf len) : (len, i) ∈ slvP := List.mem_flatMap.2 ⟨len, hl, List.mem_map.2 ⟨i, List.mem_range.2 hi, rfl⟩⟩
theorem region_eq {call : Call} {n : Nat} {l : List CR} {a : AAct} {aw : AW} : xcode call (n + 1) (.region l) a aw = xitems call l a aw := rfl
theorem slv_round {len i : Nat} {es : List AEnt} {c p : Nat} (hl : len ∈ lens) (hi : i < kOf len) (hf : xfind .i64 (.ofNat i) es 0 = some (some (p, .slc (some (2 + i, 0)) (kOf len + 2) (.upto 1 (kOf len + 2))))) : ∃ t aw,
  xcode cAny 1000 slvB ⟨tmOf (slvTm len i) .leaf, 41, []⟩ (ofObjs (slvMem len i es c) (2 + kOf len + 4 * i)) = some ⟨.norm, ⟨t, 41, []⟩, aw⟩ ∧ (∀ s v, (s, v) ∈ slvTm len (i + 1) → t.get s s = some v) ∧ aw.nx = (slvMem len (i + 1) es c).length ∧
  ∀ (j : Nat) (x : AO), (slvMem len (i + 1) es c)[j]? = some x → x = .dead ∨ aw.get j = some x := by
 have e := List.map_inj_left.1 (slv_all es c) (len, i) (slvP_mem hl hi)
 unfold slvRound at e
 dsimp only at e
 obtain ⟨b0, hw⟩ : ∃ b0, slvWant len (i + 1) es c = some b0 := ⟨_, rfl⟩
 rw [hw] at e
 obtain ⟨t1, aw1, e1, e⟩ := bNn_ok e
 rw [bb2_eq] at e
 cases hb : isTrueV (trGet t1 (nat_lit 22)) <;> simp only [hb, cond_true, cond_false, reduceCtorEq] at e
 have h22 := isTrueV_ok hb
 rw [trGet_eq] at h22
 obtain ⟨t2, aw2, e2, e⟩ := bNn_ok e
 obtain ⟨t3, aw3, e3, e⟩ := bNn_ok e
 rw [bb2_eq] at e
 cases hk : okLook i t3 <;> simp only [hk, cond_true, cond_false, reduceCtorEq] at e
 obtain ⟨h28, h29⟩ := okLook_ok hk
 obtain ⟨t4, aw4, e4, e⟩ := bNn_ok e
 obtain ⟨t5, aw5, e5, e⟩ := bNn_ok e
 obtain ⟨t6, aw6, e6, e⟩ := bNn_ok e
 obtain ⟨g0, g1, g2, g3⟩ := seenS_ok hl hi (e.trans hw.symm)
 rw [at41_eq] at e1 e2 e3 e4 e5 e6
 rw [awGet_eq] at g0
 rw [trSet_eq] at e4
 refine ⟨t6, aw6, ?_, g1, g2, g3⟩
 have d1 : xitems cAny (slvL ++ .op (some 30) none (.look (.slc none 0 (.known 0)) false (.t 28) (.t 29)) :: slvM) ⟨t2, 41, []⟩ aw2 = some ⟨.norm, ⟨t4, 41, []⟩, aw4⟩ := by
  rw [xitems_pre (show xitems cAny slvL ⟨t2, 41, []⟩ aw2 = some ⟨.norm, ⟨t3, 41, []⟩, aw3⟩ from e3), items_op (look_lin h28 h29 g0 hf) (by decide)]
  exact e4
 have b1 : xcode cAny (996 + 1) (.block 1 (.seq slvA (.draw (slvL ++ .op (some 30) none (.look (.slc none 0 (.known 0)) false (.t 28) (.t 29)) :: slvM) slvR))) ⟨t1, 41, []⟩ aw1 = some ⟨.norm, ⟨t5, 41, []⟩, aw5⟩ := by
  refine block_norm ?_
  rw [show (996 : Nat) = 995 + 1 from rfl, seq_norm (show xcode cAny 995 slvA ⟨t1, 41, []⟩ aw1 = _ from e2)]
  exact draw_eq (n := 994) d1 e5
 show xcode cAny (999 + 1) (.seq slvT (.seq (.cond (.t 22) .skip (.exit 0)) (.seq _ slvN))) _ _ = _
 rw [seq_norm (show xcode cAny 999 slvT _ _ = _ from e1), show (999 : Nat) = 998 + 1 from rfl, seq_norm (show xcode cAny 998 (.cond (.t 22) .skip (.exit 0)) ⟨t1, 41, []⟩ aw1 = some ⟨.norm, ⟨t1, 41, []⟩, aw1⟩ from by
  rw [show (998 : Nat) = 997 + 1 from rfl, cond_b (u := true) (show Opd.ev t1 (.t 22) = _ from h22)]; rfl), show (998 : Nat) = 997 + 1 from rfl, seq_norm b1]
 exact e6
def SlvQ (K : Env → Prop) (len : Nat) (es : List AEnt) (c : Nat) : Post' := fun e ca w' => e = .ret ∧ ca.defers = [] ∧ ∃ v2 v3, ca.tmps[2]? = some v2 ∧ ca.tmps[3]? = some v3 ∧ ∃ E1 aw1, K E1 ∧ Rel E1 aw1 w' ∧ VRel E1 (outS len (kOf len)) v2 ∧ VRel E1 (.bool true) v3 ∧
 ∀ j ∈ slvLive len (kOf len), aw1.get j = (slvMem len (kOf len) es c)[j]?
theorem slv_loop {K : Env → Prop} (hK : ∀ E E', K E → E.Le E' → K E') {len : Nat} {es : List AEnt} {c : Nat} (hl : len ∈ lens) (hf : ∀ i, i < kOf len → ∃ p, xfind .i64 (.ofNat i) es 0 = some (some (p, .slc (some (2 + i, 0)) (kOf len + 2) (.upto 1 (kOf len + 2))))) :
  ∀ d i, i + d = kOf len → GoodLK Tryz.prog (cDraw Tryz.prog) K slvB (Exit.inBlock 0 (thenC Tryz.prog (cDraw Tryz.prog) (.seq slv4 slv5) (SlvQ K len es c))) ⟨tmOf (slvTm len i) .leaf, 41, []⟩ (ofObjs (slvMem len i es c) (slvMem len i es c).length)
 | d + 1, i, hd => by
  obtain ⟨p, hp⟩ := hf i (by omega)
  obtain ⟨t, aw, e, g1, g2, g3⟩ := slv_round (c := c) hl (show i < kOf len by omega) hp
  rw [← (slvMem_ok hl (show i ≤ kOf len by omega) es c).1] at e
  exact GoodLK.round hK cAny_ok drAny e (GoodLK.canonD g1 g2 g3 (slv_loop hK hl hf d (i + 1) (by omega)))
 | 0, i, hd => by
  have hi : i = kOf len := by omega
  subst hi
  have e := List.map_inj_left.1 (slvFin_all es c) len hl
  unfold slvFin at e
  obtain ⟨t1, aw1, e1, e⟩ := bNn_ok e
  obtain ⟨t2, aw2, e2, e⟩ := bRn_ok e
  simp only [sI, pmi, List.cons.injEq, and_true, trGet_eq] at e
  obtain ⟨h22, ⟨h2, h3⟩, hm, _⟩ := e
  have h22 := isFalseV_ok h22
  rw [at41_eq] at e1 e2
  rw [← (slvMem_ok hl (Nat.le_refl _) es c).1] at e1
  refine GoodLK.exit' (n := 1000) (a1 := ⟨t1, 41, []⟩) (aw1 := aw1) hK cAny_ok drAny ?_ fun E ca w hE hA hR cd hcd => ?_
  ·show xcode cAny (999 + 1) (.seq slvT (.seq (.cond (.t 22) .skip (.exit 0)) (.seq _ slvN))) _ _ = _
   rw [seq_norm (show xcode cAny 999 slvT _ _ = _ from e1), show (999 : Nat) = 998 + 1 from rfl]
   refine seq_exit ?_
   rw [show (998 : Nat) = 997 + 1 from rfl, cond_b (u := false) (show Opd.ev t1 (.t 22) = _ from h22)]; rfl
  ·refine (GoodK.run (K := K) hK cAny_ok drAny e2 fun E e ca w hE hR hA hX => ?_ : GoodK Tryz.prog (cDraw Tryz.prog) K (.seq slv4 slv5) _ ⟨t1, 41, []⟩ aw1) cd hcd E ca w hE hA hR
   cases e <;> simp only [XRel] at hX
   obtain ⟨v2, hv2, r2⟩ := hA.tmps 2 _ h2
   obtain ⟨v3, hv3, r3⟩ := hA.tmps 3 _ h3
   refine ⟨rfl, ?_, v2, v3, hv2, hv3, E, aw2, hE, hR, r2, r3, fun j hj => ?_⟩
   ·have := hA.defs
    generalize ca.defers = df at this
    cases this; rfl
   ·have := List.map_inj_left.1 hm j hj
    rw [awGet_eq] at this; exact this
theorem slv_good {K : Env → Prop} (hK : ∀ E E', K E → E.Le E' → K E') {len : Nat} {es : List AEnt} {c : Nat} (hl : len ∈ lens) (hn : es.length = kOf len) (hf : ∀ i, i < kOf len → ∃ p, xfind .i64 (.ofNat i) es 0 = some (some (p, .slc (some (2 + i, 0)) (kOf len + 2) (.upto 1 (kOf len + 2))))) :
  GoodK Tryz.prog (cDraw Tryz.prog) K slvAll (SlvQ K len es c) ⟨tmOf [(0, .ptr (some (1, 0)))] .leaf, 41, []⟩ (ofObjs (slvMem len 0 es c) (2 + kOf len)) := by
 have e := List.map_inj_left.1 (slvGo_all es c) len hl
 unfold slvGo at e
 obtain ⟨r', hr'⟩ : ∃ r', slvWant len 0 es c = some r' := ⟨_, rfl⟩
 rw [hr'] at e
 dsimp only at e
 obtain ⟨t0, aw0, e0, e⟩ := bNn_ok e
 obtain ⟨t1, aw1, e1, e⟩ := bNn_ok e
 obtain ⟨t2, aw2, e2, e⟩ := bNn_ok e
 obtain ⟨t3, aw3, e3, e⟩ := bNn_ok e
 split at e <;> (try (cases e; done))
 rename_i r hr
 simp only [sI, pmi] at e
 obtain ⟨h16, rfl⟩ := e
 obtain ⟨g0, g1, g2, g3⟩ := seenS_ok hl (Nat.zero_le _) (hr.trans hr'.symm)
 rw [trGet_eq, hn] at h16
 have hlt : ilt (.ofNat (kOf len)) (.ofNat (kOf len)) = false := by rw [ilt_eq]; exact decide_eq_false (by omega)
 rw [hlt] at h16
 rw [at41_eq] at e0 e1 e2 e3
 have s1 : xcode cAny 1001 slv1 ⟨t0, 41, []⟩ aw0 = some ⟨.norm, ⟨t1, 41, []⟩, aw1⟩ := by
  show xcode cAny (1000 + 1) (.seq slv1d (.cond (.t 16) slv1t .skip)) _ _ = _
  rw [seq_norm e1, show (1000 : Nat) = 999 + 1 from rfl, cond_b (u := false) (show Opd.ev t1 (.t 16) = _ from h16)]; rfl
 refine GoodK.seq hK cAny_ok drAny e0 (GoodK.seq hK cAny_ok drAny s1 (GoodK.seq hK cAny_ok drAny e2 (GoodK.into (GoodK.seq hK cAny_ok drAny e3 (GoodK.block (GoodK.loop (GoodLK.canonD g1 g2 g3 (slv_loop hK hl hf (kOf len) 0 (by omega)))))))))
def addL (os : List AO) (aw : AW) : AW := List.rec (motive := fun _ => AW → AW) (fun aw => aw) (fun o _ ih aw => ih (aw.add o)) os aw
def putL (Ls : List Loc) (E : Env) : Env := { E with loc := E.loc ++ Ls }
theorem putL_le (Ls : List Loc) (E : Env) : E.Le (putL Ls E) := ⟨⟨Ls, rfl⟩, rfl, rfl, fun _ _ h => h⟩
theorem addL_cons (o : AO) (os : List AO) (aw : AW) : addL (o :: os) aw = addL os (aw.add o) := rfl
theorem addL_get : ∀ {os : List AO} {aw : AW} {j : Nat} {x : AO}, (addL os aw).get j = some x → aw.get j = some x ∨ ∃ i, os[i]? = some x ∧ j = aw.nx + i
 | [], aw, j, x, h => .inl h
 | o :: os, aw, j, x, h => by
  rw [addL_cons] at h
  rcases addL_get h with h | ⟨i, h1, h2⟩
  ·rcases AW.get_add h with ⟨e1, e2⟩ | ⟨_, h⟩
   ·exact .inr ⟨0, by rw [e2]; rfl, by omega⟩
   ·exact .inl h
  ·exact .inr ⟨i + 1, by simpa using h1, by rw [h2]; simp [AW.add]; omega⟩
theorem addL_rel {w : World} : ∀ {os : List AO} {Ls : List Loc} {E : Env} {aw : AW}, Rel E aw w → os.length = Ls.length → (∀ L ∈ Ls, (∀ j x Lj, aw.get j = some x → x.live = true → E.loc[j]? = some Lj → Lj.block ≠ L.block) ∧ E.fr L.block = none ∧ E.tk L.block = none) →
  (Ls.map (·.block)).Nodup → (∀ (i : Nat) o L, os[i]? = some o → Ls[i]? = some L → ∀ E' : Env, E'.sym = E.sym → ORel E' L w o) → Rel (putL Ls E) (addL os aw) w
 | [], [], E, aw, h, _, _, _, _ => by
  have : putL [] E = E := by simp [putL]
  rw [this]; exact h
 | [], L :: Ls, E, aw, h, hl, _, _, _ => by cases hl
 | o :: os, [], E, aw, h, hl, _, _, _ => by cases hl
 | o :: os, L :: Ls, E, aw, h, hl, hn, hd, ho => by
  obtain ⟨n1, n2, n3⟩ := hn L (by simp)
  have h1 : Rel (E.put L) (aw.add o) w := h.addAt n1 n2 n3 (ho 0 o L rfl rfl _ rfl)
  have e : putL (L :: Ls) E = putL Ls (E.put L) := by simp [putL, Env.put]
  rw [e, addL_cons]
  simp only [List.map_cons, List.nodup_cons] at hd
  refine addL_rel h1 (by simpa using hl) (fun L' hL' => ?_) hd.2 fun i o' L' ho' hL' E' hE' => ho (i + 1) o' L' (by simpa using ho') (by simpa using hL') E' hE'
  obtain ⟨m1, m2, m3⟩ := hn L' (List.mem_cons_of_mem _ hL')
  refine ⟨fun j x Lj hj hx hLj => ?_, m2, m3⟩
  rcases AW.get_add hj with ⟨e1, e2⟩ | ⟨hne, hj⟩
  ·subst e1
   rw [h.nx, E.put_new] at hLj; injection hLj with hLj; subst hLj
   exact fun eb => hd.1 (List.mem_map.2 ⟨L', hL', eb.symm⟩)
  ·obtain ⟨L'', hL'', _⟩ := h.obj j x hj
   rw [(E.put_le L).loc hL''] at hLj; injection hLj with hLj; subst hLj
   exact m1 j x _ hj hx hL''
theorem pigeon : ∀ {l r : List Nat}, l.Nodup → (∀ x ∈ l, x ∈ r) → r.length ≤ l.length → ∀ x ∈ r, x ∈ l
 | [], r, _, _, h, x, hx => by
  have : r = [] := List.eq_nil_of_length_eq_zero (Nat.le_zero.1 h)
  rw [this] at hx; cases hx
 | y :: l, r, hn, hs, h, x, hx => by
  obtain ⟨n1, n2⟩ := List.nodup_cons.1 hn
  by_cases hxy : x = y
  ·simp [hxy]
  ·have hy := hs y (by simp)
   refine List.mem_cons_of_mem _ (pigeon (r := r.erase y) n2 (fun z hz => ?_) ?_ x ((List.mem_erase_of_ne hxy).2 hx))
   ·exact (List.mem_erase_of_ne (fun (e : z = y) => n1 (e ▸ hz))).2 (hs z (List.mem_cons_of_mem _ hz))
   ·rw [List.length_erase_of_mem hy]; simp at h; omega
theorem LinT.full {E : Env} {len k : Nat} {β : Nat → Bool} {T : List (Nat × Nat × Loc)} {clock : Nat} (hT : LinT E len k k β T clock) : ∀ j, j < k → ∃ x ∈ T, x.1 = j := fun j hj => by
 have := pigeon (l := T.map (·.1)) (r := List.range k) hT.keys (fun x hx => by
  obtain ⟨y, hy, rfl⟩ := List.mem_map.1 hx
  exact List.mem_range.2 (hT.all y hy).1) (by simp [hT.num]) j (List.mem_range.2 hj)
 obtain ⟨x, hx, e⟩ := List.mem_map.1 this
 exact ⟨x, hx, e⟩
def slvEnds (es : List AEnt) (c len : Nat) : List (Option AO) := (List.range (kOf len)).map (fun j => (slvMem len (kOf len) es c)[2 + kOf len + 4 * j + 1]?) ++ [(slvMem len (kOf len) es c)[2 + kOf len + 4 * kOf len - 1]?]
theorem slvEnds_all : ∀ (es : List AEnt) (c : Nat), lens.map (slvEnds es c) = lens.map fun len => (List.range (kOf len)).map (fun j => some (cloL len j)) ++ [some (lstO len (kOf len))] := by
 intro es c
 kernel_rfl
theorem slv_ends {len : Nat} (hl : len ∈ lens) (es : List AEnt) (c : Nat) : (∀ j, j < kOf len → (slvMem len (kOf len) es c)[2 + kOf len + 4 * j + 1]? = some (cloL len j)) ∧ (slvMem len (kOf len) es c)[2 + kOf len + 4 * kOf len - 1]? = some (lstO len (kOf len)) := by
 have h := List.map_inj_left.1 (slvEnds_all es c) len hl
 unfold slvEnds at h
 obtain ⟨h1, h2⟩ := List.append_inj h (by simp)
 refine ⟨fun j hj => ?_, by simpa using h2⟩
 exact List.map_inj_left.1 h1 j (List.mem_range.2 hj)
def solO (len k : Nat) : List AO := (List.range k).map fun j => .cells [dataB len (2 * j), dataB len (2 * j + 1)] 5 true
def solS (nx k : Nat) : AO := .cells ((List.range k).map fun j => .slc (some (nx + j, 0)) 2 (.upto 1 2)) 37 true
def g254 (args : List AV) (aw : AW) : Option ARes :=
 match args with
 | [.ptr (some (q, o))] => (match awGet aw q with
  | some (.cells [x0, .int .i64 (.ofNat k'), x2, .map (some m)] e b) => (match awGet aw m with
   | some (.gen (.lin len k n β)) => bb2 (Nat.beq o (nat_lit 0)) (bb2 (Nat.beq q m) none (bb2 (Nat.beq e (nat_lit 418)) (bb2 (Nat.beq k' k) (bb2 (Nat.beq n k) (bb2 (Nat.beq k (kOf len)) (bb2 (inL len lens)
     (some (.ret (.tuple [.slc (some (aw.nx + k, 0)) k (.upto 1 k), .bool true]) ((addL (solO len k) aw).add (solS aw.nx k)))) none) none) none) none) none)) none
   | _ => cAny 254 [.ptr (some (q, o))] aw)
  | _ => cAny 254 [.ptr (some (q, o))] aw)
 | args => cAny 254 args aw
theorem kOf_pos {len : Nat} (h : len ∈ lens) : Nat.beq (kOf len) 0 = false := by
 have : lens.all (fun len => !Nat.beq (kOf len) 0) = true := by kernel_rfl
 have := List.all_eq_true.1 this len h
 simpa using this
theorem dataB_conv {E E' : Env} (hs : E'.sym = E.sym) {len q : Nat} {v : Value} (h : VRel E (dataB len q) v) : VRel E' (dataB len q) v := by
 unfold dataB at h ⊢
 cases hb : Nat.blt q len with
 | true =>
  rw [hb] at h
  generalize hx : (bif true then _ else _ : AV) = x at h ⊢
  rw [cond_true] at hx; subst hx
  cases h with
  | sym _ h1 h2 => exact .sym _ (hs ▸ h1) h2
 | false =>
  rw [hb] at h
  generalize hx : (bif false then _ else _ : AV) = x at h ⊢
  rw [cond_false] at hx; subst hx
  cases h; exact .int _ _
theorem s254 : ∀ args aw res, g254 args aw = some res → callable Tryz.prog 254 = true ∧ ∀ E w cargs, LRel E args cargs → Rel E aw w →
  Calls Tryz.prog 254 cargs.toArray w fun e w' => ∃ E', E.Le E' ∧ ResRel E' res e w' := by
 intro args aw res h
 unfold g254 at h
 split at h
 ·rename_i q o
  split at h
  ·rename_i x0 k' x2 m e b hq
   split at h
   ·rename_i len k n β hm
    simp only [bb2_eq] at h
    cases h1 : Nat.beq o 0 <;> simp only [h1, cond_true, cond_false, reduceCtorEq] at h
    cases h2 : Nat.beq q m <;> simp only [h2, cond_true, cond_false, reduceCtorEq] at h
    cases h3 : Nat.beq e 418 <;> simp only [h3, cond_true, cond_false, reduceCtorEq] at h
    cases h4 : Nat.beq k' k <;> simp only [h4, cond_true, cond_false, reduceCtorEq] at h
    cases h5 : Nat.beq n k <;> simp only [h5, cond_true, cond_false, reduceCtorEq] at h
    cases h6 : Nat.beq k (kOf len) <;> simp only [h6, cond_true, cond_false, reduceCtorEq] at h
    cases h7 : inL len lens <;> simp only [h7, cond_true, cond_false, reduceCtorEq, sI] at h
    subst h
    have e1 := nbt h1
    have n2 := ne_of_beq h2
    have e3 := nbt h3
    have e4 := nbt h4
    have e5 := nbt h5
    have e6 := nbt h6
    have hl := inL_ok h7
    subst e1 e3 e4 e5
    rw [awGet_eq] at hq hm
    refine ⟨by kernel_rfl, fun E w cargs hr hR => ?_⟩
    obtain ⟨Lm, hLm, om⟩ := hR.obj m _ hm
    obtain ⟨Lq, hLq, oq⟩ := hR.obj q _ hq
    obtain ⟨T, c, hT, om'⟩ := lin_open om
    have hS := lin_mix hR hm hLm
    obtain ⟨LL, hLL⟩ := hT.locs Lq
    have hap : ∀ L' ∈ [Lm], L'.block ≠ Lq.block := hS.apart hR hq rfl hLq (by simp [n2])
    have lT : ∀ x ∈ T, ([Lm] ++ Lq :: (List.range n).map LL)[2 + x.1]? = some x.2.2 := fun x hx => by
     have hk := (hT.all x hx).1
     rw [show 2 + x.1 = x.1 + 2 by omega]
     simp [hk, hLL x hx]
    have hmemE : [.map (linEs n (2 + ·) T) c] ++ (basR len :: (List.range n).map fun j => AO.rom (lineL len n j) 5) = slvMem len 0 (linEs n (2 + ·) T) c := by
     unfold slvMem; rw [← e6]; simp
    have hR0 : Rel (mixE E w [Lm] (Lq :: (List.range n).map LL)) (ofObjs (slvMem len 0 (linEs n (2 + ·) T) c) (2 + kOf len)) w := by
     have := mix_rel hR hS (os := [.map (linEs n (2 + ·) T) c]) (rest := Lq :: (List.range n).map LL) (os2 := basR len :: (List.range n).map fun j => .rom (lineL len n j) 5) rfl (by simp) (fun i x hi => ?_) (fun i x hi => ?_)
     ·rw [hmemE, (slvMem_ok hl (Nat.zero_le _) _ _).1] at this
      exact this
     ·match i, hi with
      | 0, hi => injection hi with hi; subst hi; rfl
      | i + 1, hi =>
       simp only [List.getElem?_cons_succ, List.getElem?_map, Option.map_eq_some_iff] at hi
       obtain ⟨_, _, rfl⟩ := hi; rfl
     ·match i, hi with
      | 0, hi => injection hi with hi; subst hi; exact ⟨Lm, rfl, om' _ (2 + ·) lT⟩
      | 1, hi =>
       injection hi with hi; subst hi
       refine ⟨Lq, rfl, mix_rom hR hq hLq hap (by simp) fun i a' ha' a v ha hv => ?_⟩
       match i, ha', ha with
       | 0, ha', _ => injection ha' with ha'; subst ha'; exact .undef _
       | 1, ha', ha => injection ha' with ha'; injection ha with ha; subst ha' ha; rw [e6] at hv; cases hv; exact .int _ _
       | 2, ha', _ => injection ha' with ha'; subst ha'; exact .undef _
       | 3, ha', ha => injection ha' with ha'; injection ha with ha; subst ha' ha; exact map_conv hLm (E' := mixE E w [Lm] (Lq :: (List.range n).map LL)) rfl hv
       | i + 4, ha', _ => cases ha'
      | i + 2, hi =>
       have hi : ((List.range n).map fun j => AO.rom (lineL len n j) 5)[i]? = some x := hi
       simp only [List.getElem?_map, Option.map_eq_some_iff] at hi
       obtain ⟨y, hy, rfl⟩ := hi
       have hyn : y < n := List.mem_range.1 (List.mem_of_getElem? hy)
       obtain ⟨z, hz, rfl⟩ := hT.full y hyn
       refine ⟨LL z.1, by simp [hy], ?_⟩
       rw [hLL z hz]
       exact (LineLoc.mono (E := E) (E' := mixE E w [Lm] (Lq :: (List.range n).map LL)) rfl (fun b o hb => by simp only [mixE, hb]) (hT.all z hz).2.2).rom
    cases hr with
    | cons r1 t1 =>
     cases t1
     rename_i v0
     have r1' : VRel (mixE E w [Lm] (Lq :: (List.range n).map LL)) (.ptr (some (1, 0))) v0 := ptr_conv (b := 1) hLq rfl r1
     obtain ⟨cd, hbody, hc⟩ := slv_code
     refine calls_of_wp Tryz.func254 hbody ?_
     have hinit := init_rel (E := mixE E w [Lm] (Lq :: (List.range n).map LL)) (args := [.ptr (some (1, 0))]) (cargs := [v0]) (n := 41) (.cons r1' .nil) (show 1 ≤ 41 by omega)
     have hA : ActRel (mixE E w [Lm] (Lq :: (List.range n).map LL)) ⟨tmOf [(0, .ptr (some (1, 0)))] .leaf, 41, []⟩ { tmps := #[v0] ++ Array.replicate (Tryz.f254.ntmps - (#[v0] : Array Value).size) undef, defers := [] } := by
      refine ⟨?_, fun t v hv => ?_, .nil⟩
      ·rw [Tryz.ntmps254]; simp
      ·have e : tmOf [(0, .ptr (some (1, 0)))] .leaf = slots [.ptr (some (1, 0))] 0 .leaf := by kernel_rfl
       rw [e] at hv
       rw [Tryz.ntmps254]
       exact hinit.tmps t v hv
     have hgood := slv_good (K := MixK E w [Lm] (Lq :: (List.range n).map LL)) (fun _ _ h1 h2 => h1.le h2) (es := linEs n (2 + ·) T) (c := c) hl (by rw [linEs_len, hT.num, e6]) (fun i hi => by
      rw [← e6] at hi ⊢
      exact xfind_lin (hT.full i hi))
     refine wp_mono (hgood cd hc _ _ w (MixK.refl _ _ _ _) hA hR0) fun en a w' ⟨q1, q2, v2, v3, q3, q4, E1, aw1, hK, hR1, rv2, rv3, hlv⟩ => ?_
     subst q1
     refine ⟨q2, .tuple #[v2, v3], ?_, ?_⟩
     ·have i2 : a.tmps.getD 2 undef = v2 := by simp [Array.getD_eq_getD_getElem?, q3]
      have i3 : a.tmps.getD 3 undef = v3 := by simp [Array.getD_eq_getD_getElem?, q4]
      rw [← i2, ← i3]
      exact results_tmp2 (t := 2) (u := 3) rfl _ _ _
     ·rw [← e6] at hlv rv2
      have hends := slv_ends hl (linEs n (2 + ·) T) c
      rw [← e6] at hends
      obtain ⟨hend1, hend2⟩ := hends
      have hpos := kOf_pos hl
      rw [← e6] at hpos
      have hpos' : 0 < n := Nat.pos_of_ne_zero (ne_of_beq hpos)
      have g0 : aw1.get 0 = some (.map (linEs n (2 + ·) T) c) := hlv 0 (by simp [slvLive, ← e6]; left; omega)
      have gc : ∀ j, j < n → aw1.get (2 + n + 4 * j + 1) = some (cloL len j) := fun j hj => by
       rw [hlv _ (List.mem_append_left _ (List.mem_append_right _ (List.mem_map.2 ⟨j, List.mem_range.2 hj, by rw [← e6]⟩))), hend1 j hj]
      have gl : aw1.get (2 + n + 4 * n - 1) = some (lstO len n) := by
       rw [hlv _ (List.mem_append_right _ (by rw [hpos, cond_false, ← e6]; simp)), hend2]
      have hlive : ∀ i, i < [Lm].length → ∃ o, aw1.get i = some o ∧ o.live = true := fun i hi => by
       match i, hi with
       | 0, _ => exact ⟨_, g0, rfl⟩
      have oc : ∀ j, j < n → ∃ L, E1.loc[2 + n + 4 * j + 1]? = some L ∧ ORel E1 L w' (cloL len j) := fun j hj => hR1.obj _ _ (gc j hj)
      obtain ⟨Ls, hLs, os⟩ := hR1.obj _ _ gl
      have ol : ORel E1 Lm w' (.map (linEs n (2 + ·) T) c) := by
       obtain ⟨L, hL, ho⟩ := hR1.obj 0 _ g0
       rw [hK.loc 0 Lm rfl] at hL; injection hL with hL; subst hL; exact ho
      have hback : Rel E aw w' := mix_back hR hS hK hR1 rfl fun j x hj => by
       by_cases jm : j = m
       ·subst jm
        rw [hm] at hj; injection hj with hj; subst hj
        exact .inl ⟨0, Lm, rfl, rfl, lin_shut (idf := (2 + ·)) hT (fun x hx => hK.loc _ _ (lT x hx)) ol⟩
       ·exact .inr ⟨by simp [jm], hj⟩
      have hLC : ∀ j, j < n → E1.loc[2 + n + 4 * j + 1]? = some ((E1.loc[2 + n + 4 * j + 1]?).getD Lq) := fun j hj => by
       obtain ⟨L, hL, _⟩ := oc j hj
       rw [hL]; rfl
      generalize hLCd : (fun j => (E1.loc[2 + n + 4 * j + 1]?).getD Lq) = LC at hLC
      have hLC : ∀ j, j < n → E1.loc[2 + n + 4 * j + 1]? = some (LC j) := fun j hj => by rw [← hLCd]; exact hLC j hj
      have ncl : ∀ j, j < n → w.heap[(LC j).block]? = none ∧ E.fr (LC j).block = none ∧ E.tk (LC j).block = none := fun j hj => mix_new hR hS hK hR1 hlive (gc j hj) rfl (by show 1 ≤ _; omega) (hLC j hj)
      have nls := mix_new hR hS hK hR1 hlive gl rfl (by show 1 ≤ _; omega) hLs
      have far : ∀ {L : Loc}, w.heap[L.block]? = none → ∀ j x Lj, aw.get j = some x → x.live = true → E.loc[j]? = some Lj → Lj.block ≠ L.block := fun {L} hno j x Lj hj hx hLj eb => by
       obtain ⟨L', hL', hro⟩ := hR.obj j x hj
       rw [hLj] at hL'; injection hL' with hL'; subst hL'
       have := hro.lt hx
       rw [eb] at this
       rw [age this] at hno; cases hno
      have hR2 : Rel (putL ((List.range n).map LC) E) (addL (solO len n) aw) w' := by
       refine addL_rel hback (by simp [solO]) (fun L hL => ?_) ?_ fun i o L ho hL E' hE' => ?_
       ·obtain ⟨j, hj, rfl⟩ := List.mem_map.1 hL
        obtain ⟨y1, y2, y3⟩ := ncl j (List.mem_range.1 hj)
        exact ⟨far y1, y2, y3⟩
       ·rw [List.map_map]
        refine List.pairwise_map.2 (List.Pairwise.imp_of_mem (fun {a b} ha hb hab eb => ?_) List.nodup_range)
        have ha := List.mem_range.1 ha
        have hb := List.mem_range.1 hb
        have := hR1.inj _ _ _ _ _ _ (gc a ha) (gc b hb) rfl rfl (hLC a ha) (hLC b hb) eb
        exact hab (by omega)
       ·simp only [solO, List.getElem?_map, Option.map_eq_some_iff] at ho hL
        obtain ⟨y, hy, rfl⟩ := ho
        obtain ⟨y', hy', rfl⟩ := hL
        rw [hy] at hy'; injection hy' with hy'; subst hy'
        obtain ⟨L, hL, ho⟩ := oc y (List.mem_range.1 (List.mem_of_getElem? hy))
        rw [hLC y (List.mem_range.1 (List.mem_of_getElem? hy))] at hL; injection hL with hL; subst hL
        have : [dataB len (2 * y), dataB len (2 * y + 1)] = [2 * y, 2 * y + 1].map (dataB len) := rfl
        rw [this]
        refine cells_map (E := E1) (f := dataB len) (fun j _ v hv => ?_) ho
        exact dataB_conv (hE'.trans hK.sym.symm) hv
      have e2loc : ∀ j, j < n → (putL ((List.range n).map LC) E).loc[aw.nx + j]? = some (LC j) := fun j hj => by
       show (E.loc ++ (List.range n).map LC)[aw.nx + j]? = _
       rw [hR.nx, lar (by omega)]
       simp [hj]
      refine ⟨(putL ((List.range n).map LC) E).put Ls, (putL_le _ E).trans (Env.put_le _ Ls), hR2.addAt (fun j x Lj hj hx hLj => ?_) nls.2.1 nls.2.2 ?_, ?_⟩
      ·rcases addL_get hj with hj | ⟨i, hi, rfl⟩
       ·obtain ⟨L', hL', _⟩ := hR.obj j x hj
        rw [(putL_le _ E).loc hL'] at hLj; injection hLj with hLj; subst hLj
        exact far nls.1 j x _ hj hx hL'
       ·simp only [solO, List.getElem?_map, Option.map_eq_some_iff] at hi
        obtain ⟨y, hy, rfl⟩ := hi
        have hiy : i = y ∧ i < n := by
         have := (lgs.1 hy)
         obtain ⟨h1, h2⟩ := this
         simp at h1 h2; exact ⟨h2, h1⟩
        obtain ⟨rfl, hin⟩ := hiy
        rw [e2loc i hin] at hLj; injection hLj with hLj; subst hLj
        intro eb
        have := hR1.inj _ _ _ _ _ Ls (gc i hin) gl rfl rfl (hLC i hin) hLs eb
        omega
      ·refine cells_map (E := E1) (f := cloS len) (fun j hj v hv => ?_) os
       have hj := List.mem_range.1 hj
       have hv : VRel E1 (.slc (some (2 + n + 4 * j + 1, 0)) 2 (.upto 1 2)) v := by
        have := hv; unfold cloS at this; rw [← e6] at this; exact this
       exact slc_conv (hLC j hj) ((Env.put_le _ Ls).loc (e2loc j hj)) hv
      ·have ho : outS len n = .slc (some (2 + n + 4 * n - 1, 0)) n (.upto 1 n) := by
        unfold outS; rw [hpos, ← e6]; rfl
       rw [ho] at rv2
       refine .tuple (.cons (slc_conv hLs ?_ rv2) (.cons ?_ .nil))
       ·show ((putL ((List.range n).map LC) E).put Ls).loc[aw.nx + n]? = some Ls
        simp [putL, Env.put, hR.nx]
       ·cases rv3; exact .bool _
   ·exact cAny_ok _ _ _ _ h
  ·exact cAny_ok _ _ _ _ h
 ·exact cAny_ok _ _ _ _ h
section
variable {P : Program} {K : Env → Prop} {Q : Exit → Act → World → Prop} {aw : AW}
theorem GoodI.yes (hK : ∀ E E', K E → E.Le E' → K E') {post : List CR} {d n : Nat} {c : COp} {t : Tr AV} {p : AV → AW → Prop} (hd : Nat.blt d n = true)
  (hop : ∀ o E ca w, cOp P o = some c → K E → ActRel E ⟨t, n, []⟩ ca → Rel E aw w → ∃ v aw1, p v aw1 ∧ Yes P o E ca w v aw1)
  (h2 : ∀ v aw1, p v aw1 → GoodI P K post Q ⟨t.set d d v, n, []⟩ aw1) : GoodI P K (.op (some d) none c :: post) Q ⟨t, n, []⟩ aw := by
 intro ops li hi E ca w hE hA hR
 cases li with
 | nil => simp [cItems] at hi
 | cons i l2 =>
  simp only [cItems] at hi
  split at hi <;> (try (cases hi; done))
  rename_i o ho
  split at hi <;> (try (cases hi; done))
  rename_i c' hci
  split at hi <;> (try (cases hi; done))
  rename_i m hm
  simp only [sI, List.cons.injEq] at hi
  obtain ⟨rfl, rfl⟩ := hi
  simp only [wpOps, ho]
  unfold cItem at hci
  split at hci
  ·split at hci <;> (try (cases hci; done))
   split at hci <;> (try (cases hci; done))
   split at hci
   ·simp at hci
   ·split at hci <;> simp at hci
  ·split at hci <;> (try (cases hci; done))
   split at hci <;> (try (cases hci; done))
   split at hci <;> simp at hci
  ·split at hci <;> (try (cases hci; done))
   split at hci <;> simp at hci
  ·rename_i h1 h2' h3
   split at hci <;> (try (cases hci; done))
   rename_i g hg
   split at hci <;> (try (cases hci; done))
   rename_i c2 hc2
   simp only [sI, CR.op.injEq] at hci
   obtain ⟨e1, e2, rfl⟩ := hci
   subst e2
   have hg1 : xguard (⟨t, n, []⟩ : AAct) none = some true := rfl
   rw [guard_sound hg hg1 hA, if_pos rfl]
   refine .inl ?_
   obtain ⟨v, aw1, hp, E1, w', hle, hR1, hres⟩ := hop o E ca w hc2 hE hA hR
   have hput : (⟨t, n, []⟩ : AAct).put (some d) v = some ⟨t.set d d v, n, []⟩ := by simp only [AAct.put, hd, cond_true]
   unfold Oper.wp
   rcases hres with ⟨cv, hex, hv⟩ | ⟨hex, rfl⟩
   ·rw [hex, Oper.upon_value, e1]
    exact h2 v aw1 hp ops l2 hm E1 _ w' (hK E E1 hE hle) (put_sound hput (hA.mono hle) hv) hR1
   ·rw [hex, Oper.upon_skip, e1]
    exact h2 _ aw1 hp ops l2 hm E1 _ w' (hK E E1 hE hle) (put_sound hput (hA.mono hle) (.tuple .nil)) hR1
theorem ERel.mem_r {E : Env} : ∀ {es : List AEnt} {l : List MapEntry}, ERel E es l → ∀ f ∈ l, ∃ e ∈ es, VRel E e.key f.key ∧ VRel E e.val f.val ∧ e.born = f.born
 | _, _, .nil, f, hf => by cases hf
 | _, _, .cons hk hv hb t, f, hf => by
  rcases List.mem_cons.1 hf with rfl | hf
  ·exact ⟨_, by simp, hk, hv, hb⟩
  ·obtain ⟨e, he, h⟩ := t.mem_r f hf
   exact ⟨e, List.mem_cons_of_mem _ he, h⟩
theorem ERel.mem_l {E : Env} : ∀ {es : List AEnt} {l : List MapEntry}, ERel E es l → ∀ e ∈ es, ∃ f ∈ l, VRel E e.key f.key ∧ VRel E e.val f.val ∧ e.born = f.born
 | _, _, .nil, f, hf => by cases hf
 | _, _, .cons hk hv hb t, f, hf => by
  rcases List.mem_cons.1 hf with rfl | hf
  ·exact ⟨_, by simp, hk, hv, hb⟩
  ·obtain ⟨e, he, h⟩ := t.mem_l f hf
   exact ⟨e, List.mem_cons_of_mem _ he, h⟩
theorem ERel.borns {E : Env} : ∀ {es : List AEnt} {l : List MapEntry}, ERel E es l → es.map (·.born) = l.map (·.born)
 | _, _, .nil => rfl
 | _, _, .cons hk hv hb t => by simp [hb, t.borns]
theorem next_inv {o : Oper} {x : Opd} (hc : cOp P o = some (.next x)) : ∃ it, o.op = .next it false ∧ cOpd it = some x := by
 unfold cOp at hc
 split at hc
 all_goals first
  | (rename_i it ho; obtain ⟨oi, hoi, e⟩ := c1_inv hc; injection e with e; subst e; exact ⟨_, ho, hoi⟩)
  | (exfalso; (try simp only [c1, c2, cBuiltin, Bool.cond_eq_ite] at hc); (repeat' split at hc) <;> first | (cases hc; done) | (injection hc with hc; cases hc; done))
theorem entry_inv {o : Oper} {x : Opd} (hc : cOp P o = some (.entry x)) : ∃ it, o.op = .entry it ∧ cOpd it = some x := by
 unfold cOp at hc
 split at hc
 all_goals first
  | (rename_i it ho; obtain ⟨oi, hoi, e⟩ := c1_inv hc; injection e with e; subst e; exact ⟨_, ho, hoi⟩)
  | (exfalso; (try simp only [c1, c2, cBuiltin, Bool.cond_eq_ite] at hc); (repeat' split at hc) <;> first | (cases hc; done) | (injection hc with hc; cases hc; done))
theorem GoodI.next (hK : ∀ E E', K E → E.Le E' → K E') {post : List CR} {d n s id m since st : Nat} {seen : List Nat} {es : List AEnt} {clock : Nat} {t : Tr AV} (hd : Nat.blt d n = true) (ht : t.get s s = some (.ptr (some (id, 0)))) (hi : aw.get id = some (.iter (some m) since seen st))
  (hm : aw.get m = some (.map es clock)) (hold : ∀ e ∈ es, e.born < since) (hsc : since ≤ st)
  (h0 : (∀ e ∈ es, e.born ∈ seen) → GoodI P K post Q ⟨t.set d d (.tuple [.bool false]), n, []⟩ aw)
  (h1 : ∀ e ∈ es, e.born ∉ seen → GoodI P K post Q ⟨t.set d d (.tuple [.bool true, e.key, e.val]), n, []⟩ (aw.set id (.iter (some m) since (seen ++ [e.born]) clock))) : GoodI P K (.op (some d) none (.next (.t s)) :: post) Q ⟨t, n, []⟩ aw := by
 refine GoodI.yes (p := fun v aw1 => (v = .tuple [.bool false] ∧ aw1 = aw ∧ ∀ e ∈ es, e.born ∈ seen) ∨ ∃ e ∈ es, e.born ∉ seen ∧ v = .tuple [.bool true, e.key, e.val] ∧ aw1 = aw.set id (.iter (some m) since (seen ++ [e.born]) clock)) hK hd (fun o E ca w hc hE hA hR => ?_) fun v aw1 hp => ?_
 ·have hop := next_inv hc
  obtain ⟨it, hop, hit⟩ := hop
  have hr := opd_sound hA hit (show Opd.ev t (.t s) = _ from ht)
  obtain ⟨L, cm, hL, hb, e1, g1, g2⟩ := iter_at hR hr hi
  obtain ⟨L2, ces, hL2, rfl, g3, g4⟩ := map_at hR g2 hm
  have hold' : ∀ x ∈ ces.toList, x.born < since := fun x hx => by
   obtain ⟨e, he, _, _, hb⟩ := g4.mem_r x hx
   rw [← hb]; exact hold e he
  have hex : execOp ca.eval o = (do pure (.value (← Instr.next (ca.eval it) false o.type))) := by simp only [execOp, hop]
  rcases run_next_at (P := P) w o.type L.block L2.block since st seen.toArray ces clock g1 g3 hold' hsc with ⟨hz, hrun⟩ | ⟨f, hf, w1, hw1, hrun⟩
  ·refine ⟨_, _, .inl ⟨rfl, rfl, fun e he => ?_⟩, yes_value hR hex (by rw [e1]; exact hrun) (.tuple (.cons (.bool _) .nil))⟩
   obtain ⟨f, hf, _, _, hb⟩ := g4.mem_l e he
   have := all_seen ces seen.toArray hz f hf
   rw [hb]; simpa using this
  ·obtain ⟨hf1, hf2⟩ := mem_left hf
   obtain ⟨e, he, hk, hv, hb'⟩ := g4.mem_r f hf1
   refine ⟨_, _, .inr ⟨e, he, by rw [hb']; simpa using hf2, rfl, rfl⟩, yes_value' (w' := Go.ChangeMaps.setBlock w1 L.block (.mapIter (some L2.block) since (seen.toArray.push f.born) clock)) (.refl E) ?_ hex (by rw [e1]; exact hrun) (.tuple (.cons (.bool _) (.cons hk (.cons hv .nil))))⟩
   ·have hlt := (agz.1 g1).1
    have hh : w1.heap = w.heap := by rcases hw1 with rfl | rfl <;> rfl
    have hs : Same w (Go.ChangeMaps.setBlock w1 L.block (.mapIter (some L2.block) since (seen.toArray.push f.born) clock)) := by
     rcases hw1 with rfl | rfl <;> exact ⟨rfl, rfl⟩
    refine hR.update hs hi rfl hL (fun b hne => ?_) ⟨hb, some L2.block, ?_, g2⟩
    ·show (w1.heap.setIfInBounds L.block _)[b]? = _
     rw [hh, Array.getElem?_setIfInBounds_ne (Ne.symm hne)]
    ·show (w1.heap.setIfInBounds L.block _)[L.block]? = _
     rw [hh, Array.getElem?_setIfInBounds_self_of_lt hlt, hb']
     simp
 ·rcases hp with ⟨rfl, rfl, h⟩ | ⟨e, he, hn, rfl, rfl⟩
  ·exact h0 h
  ·exact h1 e he hn
theorem GoodI.entry (hK : ∀ E E', K E → E.Le E' → K E') {post : List CR} {d n s id m since st : Nat} {seen : List Nat} {es : List AEnt} {t : Tr AV} {e : AEnt} (hd : Nat.blt d n = true) (ht : t.get s s = some (.ptr (some (id, 0)))) (hi : aw.get id = some (.iter (some m) since (seen ++ [e.born]) st))
  (hm : aw.get m = some (.map es st)) (he : e ∈ es) (hn : (es.map (·.born)).Nodup)
  (h2 : GoodI P K post Q ⟨t.set d d (.tuple [e.key, e.val]), n, []⟩ aw) : GoodI P K (.op (some d) none (.entry (.t s)) :: post) Q ⟨t, n, []⟩ aw := by
 refine GoodI.yes (p := fun v aw1 => v = .tuple [e.key, e.val] ∧ aw1 = aw) hK hd (fun o E ca w hc hE hA hR => ?_) fun v aw1 ⟨h3, h4⟩ => by subst h3 h4; exact h2
 obtain ⟨it, hop, hit⟩ := entry_inv hc
 have hr := opd_sound hA hit (show Opd.ev t (.t s) = _ from ht)
 obtain ⟨L, cm, hL, hb, e1, g1, g2⟩ := iter_at hR hr hi
 obtain ⟨L2, ces, hL2, rfl, g3, g4⟩ := map_at hR g2 hm
 obtain ⟨f, hf, hk, hv, hb'⟩ := g4.mem_l e he
 have hn' : (ces.toList.map (·.born)).Nodup := by rw [← g4.borns]; exact hn
 refine ⟨_, _, ⟨rfl, rfl⟩, yes_value (v := .tuple #[f.key, f.val]) hR (by simp only [execOp, hop]; rfl) ?_ (.tuple (.cons hk (.cons hv .nil)))⟩
 rw [e1]
 exact run_entry_at w L.block L2.block since seen.toArray ces st f (by rw [g1, hb']; simp) g3 hf hn'
end
def renE (E : Env) (src : Nat → Nat) (N : Nat) : Env := { E with loc := (List.range N).map fun j => E.loc.getD (src j) ⟨0, 0, 0⟩ }
theorem renE_loc {E : Env} {src : Nat → Nat} {N j : Nat} {L : Loc} (hj : j < N) (h : E.loc[src j]? = some L) : (renE E src N).loc[j]? = some L := by
 simp only [renE, List.getElem?_map, List.getElem?_range hj, Option.map_some, List.getD_eq_getElem?_getD, h, Option.getD_some]
theorem Rel.renum {E : Env} {aw : AW} {w : World} (hR : Rel E aw w) {os : List AO} {src : Nat → Nat} (inj : ∀ a b, a < os.length → b < os.length → src a = src b → a = b)
  (ho : ∀ (k : Nat) (n : AO), os[k]? = some n → n = .dead ∨ ∃ o, aw.get (src k) = some o ∧ (n.live = true → o.live = true) ∧ ∀ L, E.loc[src k]? = some L → ORel E L w o → ORel (renE E src os.length) L w n) : Rel (renE E src os.length) (ofObjs os os.length) w := by
 have one : ∀ k n, os[k]? = some n → n.live = true → ∃ o L, aw.get (src k) = some o ∧ o.live = true ∧ E.loc[src k]? = some L ∧ (renE E src os.length).loc[k]? = some L ∧ k < os.length := fun k n hk hn => by
  have hlt := (lgs.1 hk).1
  rcases ho k n hk with rfl | ⟨o, h1, h2, h3⟩
  ·cases hn
  ·obtain ⟨L, hL, _⟩ := hR.obj _ o h1
   exact ⟨o, L, h1, h2 hn, hL, renE_loc hlt hL, hlt⟩
 refine ⟨by simp [ofObjs, renE], hR.ns, fun k n hk => ?_, fun i j oi oj Li Lj hi hj li lj ei ej e => ?_, hR.frame, fun k n Lk hk lk ek => ?_, hR.tok.1, fun k n Lk hk lk ek => ?_⟩
 ·rw [ofObjs_get] at hk
  have hlt := (lgs.1 hk).1
  rcases ho k n hk with rfl | ⟨o, h1, h2, h3⟩
  ·exact ⟨E.loc.getD (src k) ⟨0, 0, 0⟩, by simp only [renE, List.getElem?_map, List.getElem?_range hlt, Option.map_some], trivial⟩
  ·obtain ⟨L, hL, hr⟩ := hR.obj _ o h1
   exact ⟨L, renE_loc hlt hL, h3 L hL hr⟩
 ·rw [ofObjs_get] at hi hj
  obtain ⟨o, L, h1, h2, h3, h4, h5⟩ := one i oi hi li
  obtain ⟨o', L', h1', h2', h3', h4', h5'⟩ := one j oj hj lj
  rw [h4] at ei; injection ei with ei; subst ei
  rw [h4'] at ej; injection ej with ej; subst ej
  exact inj i j h5 h5' (hR.inj _ _ o o' _ _ h1 h1' h2 h2' h3 h3' e)
 ·rw [ofObjs_get] at hk
  obtain ⟨o, L, h1, h2, h3, h4, h5⟩ := one k n hk lk
  rw [h4] at ek; injection ek with ek; subst ek
  exact hR.apart _ o _ h1 h2 h3
 ·rw [ofObjs_get] at hk
  obtain ⟨o, L, h1, h2, h3, h4, h5⟩ := one k n hk lk
  rw [h4] at ek; injection ek with ek; subst ek
  exact hR.tok.2 _ o _ h1 h2 h3
section
variable {P : Program} {dr : Array Oper → Option (List CR × List CR)} {K : Env → Prop} {cc : CC} {Q : Exit → Act → World → Prop} {aw aw' : AW} {t : Tr AV} {n : Nat} {tm : List (Nat × AV)}
theorem act_turn {E E' : Env} {ca : Act} (ht : ∀ s v, (s, v) ∈ tm → ∃ v0, t.get s s = some v0 ∧ ∀ cv, VRel E v0 cv → VRel E' v cv) (hA : ActRel E ⟨t, n, []⟩ ca) : ActRel E' ⟨tmOf tm .leaf, n, []⟩ ca := by
 refine ⟨hA.size, fun s v hv => ?_, ?_⟩
 ·have hv : (tmOf tm .leaf).get s s = some v := hv
  rcases tmOf_get tm _ s v hv with hm | hm
  ·obtain ⟨v0, h1, h2⟩ := ht s v hm
   obtain ⟨x, hx, hr⟩ := hA.tmps s v0 h1
   exact ⟨x, hx, h2 x hr⟩
  ·simp [Tr.get] at hm
 ·have := hA.defs
  generalize ca.defers = df at this
  cases this; exact .nil
def Turn (K : Env → Prop) (t : Tr AV) (aw : AW) (tm : List (Nat × AV)) (aw' : AW) : Prop := ∀ E w, K E → Rel E aw w → ∃ E', K E' ∧ Rel E' aw' w ∧ ∀ s v, (s, v) ∈ tm → ∃ v0, t.get s s = some v0 ∧ ∀ cv, VRel E v0 cv → VRel E' v cv
theorem GoodLK.turn (ht : Turn K t aw tm aw') (h : GoodLK P dr K cc Q ⟨tmOf tm .leaf, n, []⟩ aw') : GoodLK P dr K cc Q ⟨t, n, []⟩ aw := fun c hc E ca w hE hA hR => by
 obtain ⟨E', h1, h2, h3⟩ := ht E w hE hR
 exact h c hc E' ca w h1 (act_turn h3 hA) h2
theorem GoodK.turn (ht : Turn K t aw tm aw') (h : GoodK P dr K cc Q ⟨tmOf tm .leaf, n, []⟩ aw') : GoodK P dr K cc Q ⟨t, n, []⟩ aw := fun c hc E ca w hE hA hR => by
 obtain ⟨E', h1, h2, h3⟩ := ht E w hE hR
 exact h c hc E' ca w h1 (act_turn h3 hA) h2
theorem GoodI.turn {l : List CR} (ht : Turn K t aw tm aw') (h : GoodI P K l Q ⟨tmOf tm .leaf, n, []⟩ aw') : GoodI P K l Q ⟨t, n, []⟩ aw := fun ops li hc E ca w hE hA hR => by
 obtain ⟨E', h1, h2, h3⟩ := ht E w hE hR
 exact h ops li hc E' ca w h1 (act_turn h3 hA) h2
end
def Scal (a : AV) : Prop := (∃ k n, a = .int k n) ∨ ∃ k q, a = .sym k q
theorem VRel.scal {E E' : Env} (hs : E'.sym = E.sym) {a : AV} (h : Scal a) {v : Value} (hv : VRel E a v) : VRel E' a v := by
 rcases h with ⟨k, n, rfl⟩ | ⟨k, q, rfl⟩
 ·cases hv; exact .int _ _
 ·cases hv with
  | sym _ h1 h2 => exact .sym _ (hs ▸ h1) h2
theorem ORel.cells_conv {E E' : Env} {L : Loc} {w : World} {l l' : List AV} {e : TypeId} {b : Bool} (hl : l'.length = l.length) (hv : ∀ (i : Nat) (a' : AV), l'[i]? = some a' → ∃ a, l[i]? = some a ∧ ∀ v, VRel E a v → VRel E' a' v) (h : ORel E L w (.cells l e b)) : ORel E' L w (.cells l' e b) := by
 obtain ⟨c, fz, h1, h2, h3, h4, h5⟩ := h
 refine ⟨c, fz, h1, h2, by rw [hl]; exact h3, fun hb => by rw [hl]; exact h4 hb, fun i a' ha => ?_⟩
 obtain ⟨a, h6, h7⟩ := hv i a' ha
 obtain ⟨v, hv1, hv2⟩ := h5 i a h6
 exact ⟨v, hv1, h7 v hv2⟩
theorem ORel.cells_scal {E E' : Env} (hs : E'.sym = E.sym) {L : Loc} {w : World} {l : List AV} {e : TypeId} {b : Bool} (hv : ∀ a ∈ l, Scal a) (h : ORel E L w (.cells l e b)) : ORel E' L w (.cells l e b) :=
 h.cells_conv rfl fun i a ha => ⟨a, ha, fun v hr => hr.scal hs (hv a (List.mem_of_getElem? ha))⟩
theorem ORel.rom_conv {E E' : Env} (ht : ∀ b x, E.tk b = some x → E'.tk b = some x) {L : Loc} {w : World} {l l' : List AV} {e : TypeId} (he : e ≠ 28) (hl : l'.length = l.length) (hv : ∀ (i : Nat) (a' : AV), l'[i]? = some a' → ∃ a, l[i]? = some a ∧ ∀ v, VRel E a v → VRel E' a' v) (h : ORel E L w (.rom l e)) : ORel E' L w (.rom l' e) := by
 rcases h with ⟨c, fz, h1, h2, h3, h4⟩ | ⟨R, h1, _⟩
 ·refine .inl ⟨c, fz, h1.imp fun _ h => ht _ _ h, h2, by rw [hl]; exact h3, fun i a' ha => ?_⟩
  obtain ⟨a, h6, h7⟩ := hv i a' ha
  obtain ⟨v, hv1, hv2⟩ := h4 i a h6
  exact ⟨v, hv1, h7 v hv2⟩
 ·exact (he h1).elim
theorem ORel.rom_scal {E E' : Env} (hs : E'.sym = E.sym) (ht : ∀ b x, E.tk b = some x → E'.tk b = some x) {L : Loc} {w : World} {l : List AV} {e : TypeId} (he : e ≠ 28) (hv : ∀ a ∈ l, Scal a) (h : ORel E L w (.rom l e)) : ORel E' L w (.rom l e) :=
 h.rom_conv ht he rfl fun i a ha => ⟨a, ha, fun v hr => hr.scal hs (hv a (List.mem_of_getElem? ha))⟩
theorem lineL_scal {len k i : Nat} : ∀ a ∈ lineL len k i, Scal a := fun a ha => by
 obtain ⟨j, hj⟩ := List.mem_iff_getElem?.1 ha
 rcases line_scal hj with ⟨n, rfl⟩ | ⟨q, rfl⟩
 ·exact .inl ⟨_, _, rfl⟩
 ·exact .inr ⟨_, _, rfl⟩
theorem linEs_conv {E E' : Env} {k : Nat} {idf : Nat → Nat} : ∀ {T : List (Nat × Nat × Loc)} {l : List MapEntry}, (∀ x ∈ T, ∀ L, E.loc[idf x.1]? = some L → E'.loc[idf x.1]? = some L) → ERel E (linEs k idf T) l → ERel E' (linEs k idf T) l
 | [], l, _, h => by
  have h : ERel E [] l := h
  cases h; exact .nil
 | x :: T, l, hE, h => by
  have h : ERel E (⟨.int .i64 (.ofNat x.1), .slc (some (idf x.1, 0)) (k + 2) (.upto 1 (k + 2)), x.2.1⟩ :: linEs k idf T) l := h
  cases h with
  | cons hk hv hb t =>
   rename_i f l
   refine .cons (by generalize f.key = z at hk; cases hk; exact .int _ _) ?_ hb (linEs_conv (fun y hy => hE y (List.mem_cons_of_mem _ hy)) t)
   generalize f.val = v at hv
   cases hv with
   | slcUp hL p1 p2 p3 => exact .slcUp (hE x (by simp) _ hL) p1 p2 p3
def add0 : CC := (.region [.op (some 6) none (.mv (.c (.bool false)))])
def add2 : CC := (.region [.op (some 35) none (.mv (.t 1)), .op (some 36) none (.mv (.t 2)), .op (some 37) none (.mkslc 37 2 [(.slc none 0 (.known 0)), (.slc none 0 (.known 0))] [(0, 1, (.t 35)), (1, 1, (.t 36))]), .call (some 38) none 307 [(.t 37)], .op (some 7) none (.mv (.t 38))])
def add4 : CC := (.region [.op (some 60) none (.mv (.t 7)), .op (some 61) none (.mv (.t 0)), .op (some 62) none (.nilck (.t 61)), .op (some 63) none (.off 1 (.t 62)), .op (some 64) none (.load none (.t 63)), .op (some 65) none (.slice 1 (.t 60) none (some (.t 64)) none), .call (some 66) none 328 [(.t 65), (.c (.func (.func 329) [] []))], .op (some 10) none (.mv (.t 66))])
def add6 : CC := (.draw [.op (some 70) none (.mv (.t 0)), .op (some 71) none (.nilck (.t 70)), .op (some 72) none (.off 0 (.t 71)), .op (some 73) none (.load none (.t 72)), .op (some 74) none (.mv (.t 7)), .op (some 75) none (.mv (.t 10)), .op (some 76) none (.idxS 1 (.t 74) (.t 75)), .op (some 77) none (.load none (.t 76)), .call (some 78) none 330 [(.t 73), (.t 77)], .op (some 69) none (.mv (.t 78)), .op (some 79) none (.ext 0 (.t 69)), .op (some 80) none (.ext 1 (.t 69)), .op (some 11) none (.mv (.t 79))] [.op (some 12) none (.mv (.t 80))])
def add7 : CC := (.draw [.op (some 81) none (.mv (.t 0)), .op (some 82) none (.nilck (.t 81)), .op (some 83) none (.off 0 (.t 82)), .op (some 84) none (.load none (.t 83)), .op (some 85) none (.mv (.t 7)), .op (some 86) none (.lenS (.t 85)), .op (some 88) none (.mv (.t 7)), .op (some 89) none (.mv (.t 11)), .op (some 87) none (.mkslice 5 [(.int .u8 (.ofNat 0))] 1 (.t 86) (.t 86)), .chk 84 none (.load none (.t 83)), .call (some 90) none 305 [(.t 84), (.t 87), (.t 88), (.t 89)]] [.op (some 7) none (.mv (.t 90))])
def add10 : CC := (.region [.op (some 6) none (.mv (.c (.bool true)))])
def add11 : CC := .ret
def add1d : CC := (.region [.op (some 15) none (.mv (.t 0)), .op (some 16) none (.nileq 0 false (.t 15)), .op (some 17) none (.mv (.t 16)), .op (some 18) (some (17, false)) (.mv (.t 1)), .op (some 19) (some (17, false)) (.lenS (.t 18)), .op (some 20) (some (17, false)) (.mv (.t 0)), .op (some 21) (some (17, false)) (.nilck (.t 20)), .op (some 22) (some (17, false)) (.off 1 (.t 21)), .op (some 23) (some (17, false)) (.load none (.t 22)), .op (some 24) (some (17, false)) (.bin .neq false (.t 19) (.t 23)), .op (some 25) none (.pick (.t 17) (.c (.bool true)) (.t 24)), .op (some 26) none (.mv (.t 25)), .op (some 27) (some (26, false)) (.mv (.t 2)), .op (some 28) (some (26, false)) (.lenS (.t 27)), .op (some 29) (some (26, false)) (.mv (.t 0)), .op (some 30) (some (26, false)) (.nilck (.t 29)), .op (some 31) (some (26, false)) (.off 2 (.t 30)), .op (some 32) (some (26, false)) (.load none (.t 31)), .op (some 33) (some (26, false)) (.bin .neq false (.t 28) (.t 32)), .op (some 34) none (.pick (.t 26) (.c (.bool true)) (.t 33))])
def add1t : CC := (.seq (.region [.op (some 6) none (.mv (.c (.bool false)))])  .ret)
def add1 : CC := .seq add1d (.cond (.t 34) add1t .skip)
def add5d : CC := (.region [.op (some 67) none (.mv (.t 10)), .op (some 68) none (.bin .lss false (.t 67) (.c (.int .i64 (.ofNat 0))))])
def add5t : CC := (.seq (.region [.op (some 6) none (.mv (.c (.bool false)))])  .ret)
def add5 : CC := .seq add5d (.cond (.t 68) add5t .skip)
def add3I : CC := (.region [.op (some 39) none (.mv (.t 0)), .op (some 40) none (.nilck (.t 39)), .op (some 41) none (.off 3 (.t 40)), .op (some 42) none (.load none (.t 41)), .op (some 43) none (.range (.t 42))])
def add3E : List CR := [.op (some 47) none (.ext 0 (.t 46)), .op (some 48) none (.ext 1 (.t 46)), .op (some 8) none (.mv (.t 47)), .op (some 9) none (.mv (.t 48))]
def add3D : List CR := [.op (some 49) none (.mv (.t 0)), .op (some 50) none (.nilck (.t 49)), .op (some 51) none (.off 0 (.t 50)), .op (some 52) none (.load none (.t 51)), .op (some 53) none (.mv (.t 7)), .op (some 54) none (.mv (.t 9)), .op (some 55) none (.mv (.t 7)), .op (some 56) none (.mv (.t 8)), .op (some 57) none (.idxS 1 (.t 55) (.t 56)), .op (some 58) none (.load none (.t 57)), .call (some 59) none 305 [(.t 52), (.t 53), (.t 54), (.t 58)]]
def add3R : List CR := [.op (some 7) none (.mv (.t 59))]
def add3N : CC := .region (.op (some 44) none (.next (.t 43)) :: [.op (some 45) none (.ext 0 (.t 44))])
def add3K : CC := .seq (.region (.op (some 46) none (.entry (.t 43)) :: add3E)) (.draw add3D add3R)
def add3B : CC := .seq add3N (.seq (.cond (.t 45) .skip (.exit 0)) (.block 1 add3K))
def add3 : CC := .seq add3I (.block 0 (.loop add3B))
def add8I : CC := (.region [.op (some 91) none (.mv (.t 0)), .op (some 92) none (.nilck (.t 91)), .op (some 93) none (.off 3 (.t 92)), .op (some 94) none (.load none (.t 93)), .op (some 95) none (.range (.t 94))])
def add8E : List CR := [.op (some 99) none (.ext 0 (.t 98)), .op (some 100) none (.ext 1 (.t 98)), .op (some 13) none (.mv (.t 99)), .op (some 14) none (.mv (.t 100))]
def add8D : List CR := [.op (some 101) none (.mv (.t 0)), .op (some 102) none (.nilck (.t 101)), .op (some 103) none (.off 3 (.t 102)), .op (some 104) none (.load none (.t 103)), .op (some 105) none (.mv (.t 13)), .op (some 106) none (.mv (.t 0)), .op (some 107) none (.nilck (.t 106)), .op (some 108) none (.off 0 (.t 107)), .op (some 109) none (.load none (.t 108)), .op (some 110) none (.mv (.t 14)), .op (some 111) none (.mv (.t 7)), .op (some 112) none (.mv (.t 14)), .op (some 113) none (.mv (.t 10)), .op (some 114) none (.idxS 1 (.t 112) (.t 113)), .op (some 115) none (.load none (.t 114)), .call (some 116) none 305 [(.t 109), (.t 110), (.t 111), (.t 115)], .chk 104 none (.load none (.t 103))]
def add8R : List CR := [.op none none (.mapset (.t 104) (.t 105) (.t 116))]
def add8N : CC := .region (.op (some 96) none (.next (.t 95)) :: [.op (some 97) none (.ext 0 (.t 96))])
def add8K : CC := .seq (.region (.op (some 98) none (.entry (.t 95)) :: add8E)) (.draw add8D add8R)
def add8B : CC := .seq add8N (.seq (.cond (.t 97) .skip (.exit 2)) (.block 3 add8K))
def add8 : CC := .seq add8I (.block 2 (.loop add8B))
def add9L : List CR := [.op (some 117) none (.mv (.t 0)), .op (some 118) none (.nilck (.t 117)), .op (some 119) none (.off 3 (.t 118)), .op (some 120) none (.load none (.t 119)), .op (some 121) none (.mv (.t 10)), .op (some 122) none (.mv (.t 7))]
def add9 : CC := .region (add9L ++ [.op none none (.mapset (.t 120) (.t 121) (.t 122))])
def addAll : CC := .seq add0 (.seq add1 (.seq add2 (.seq add3 (.seq add4 (.seq add5 (.seq add6 (.seq add7 (.seq add8 (.seq add9 (.seq add10 add11))))))))))
theorem add_code : ∃ c, Tryz.f262.body = some c ∧ cCode Tryz.prog (cDraw Tryz.prog) c = some addAll := ⟨_, rfl, by kernel_rfl⟩
def smM : Summ := fun f => bb2 (Nat.beq f 350) (some g350) none
theorem smM_ok : SumOK Tryz.prog smM := by
 intro f g hf
 unfold smM at hf
 simp only [bb2_eq] at hf
 cases h1 : Nat.beq f 350 with
 | true => simp only [h1, cond_true, sI] at hf; subst hf; rw [nbt h1]; exact s350
 | false => simp only [h1, cond_false, reduceCtorEq] at hf
def cMul : Call := callK FK smM ds0 (nat_lit 1000) (nat_lit 20)
theorem cMul_ok : CallOK Tryz.prog cMul := callK_ok smM_ok (noDef_ok _) _ _
theorem drMul : DrawOK Tryz.prog cMul (cDraw Tryz.prog) := draw_all _ cMul_ok
def at123 (c : CC) (t : Tr AV) (aw : AW) : Option Out := kCode cMul c (nat_lit 1000) t (nat_lit 123) [] aw
theorem at123_eq (c : CC) (t : Tr AV) (aw : AW) : at123 c t aw = xcode cMul 1000 c ⟨t, 123, []⟩ aw := kCode_eq cMul c 1000 t 123 [] aw
def rowL (k i : Nat) : List AV := (List.range k).map fun j => AV.int .u8 (bif Nat.beq j i then .ofNat 1 else .ofNat 0)
def datL (len i : Nat) : List AV := [dataB len (2 * i), dataB len (2 * i + 1)]
def zerL (k : Nat) : List AV := (List.range (k + 2)).map fun _ => AV.int .u8 (.ofNat 0)
def adBasO (len : Nat) : AO := .rom [.ptr (some (1, 0)), .int .i64 (.ofNat (kOf len)), .int .i64 (.ofNat 2), .map (some 0)] 418
def addM (len : Nat) (o3 o4 : AO) (X : Nat → AO) (es : List AEnt) (c : Nat) (tl : List AO) : List AO := [.map es c, .cells fieldCells 177 false, adBasO len, o3, o4] ++ ((List.range (kOf len)).map X ++ tl)
def putX (X : Nat → AO) (j : Nat) (o : AO) : Nat → AO := fun q => bif Nat.beq q j then o else X q
def adBas : AV := .ptr (some (2, 0))
def adLn (len q : Nat) : AV := .slc (some (q, 0)) (kOf len + 2) (.upto 1 (kOf len + 2))
def adNum (n : Nat) : AV := .int .i64 (.ofNat n)
def adIt (len : Nat) : AV := .ptr (some (6 + kOf len, 0))
def linO (len i : Nat) : AO := .cells (lineL len (kOf len) i) 5 true
def romO (len i : Nat) : AO := .rom (lineL len (kOf len) i) 5
def zerO (len : Nat) : AO := .cells (zerL (kOf len)) 5 true
abbrev SeenA := List (Option AV) × List (Option AO) × Nat
def adSee (ts ids : List Nat) (t : Tr AV) (aw : AW) : Option SeenA := some (ts.map (trGet t), ids.map (awGet aw), aw.nx)
def adT0 (len : Nat) : List (Nat × AV) := [(0, adBas), (1, .slc (some (3, 0)) (kOf len) (.known (kOf len))), (2, .slc (some (4, 0)) 2 (.upto 1 2))]
def adT1 (len : Nat) : List (Nat × AV) := [(0, adBas), (7, adLn len (5 + kOf len))]
def adLI : List (Nat × Nat) := lens.flatMap fun len => (List.range (kOf len)).map fun i => (len, i)
def adGo (X : Nat → AO) (es : List AEnt) (c : Nat) (p : Nat × Nat) : Option SeenA :=
 bNn (nat_lit 123) (at123 add0 (tmOf (adT0 p.1) .leaf) (ofObjs (addM p.1 (.rom (rowL (kOf p.1) p.2) 5) (.rom (datL p.1 p.2) 5) X es c []) (5 + kOf p.1))) fun t aw => bNn (nat_lit 123) (at123 add1d t aw) fun t1 aw => bb2 (isFalseV (trGet t1 (nat_lit 34))) (bNn (nat_lit 123) (at123 add2 t1 aw) (adSee [0, 7] (List.range (5 + kOf p.1) ++ [6 + kOf p.1]))) none
theorem adGo_all : ∀ (X : Nat → AO) (es : List AEnt) (c : Nat), adLI.map (adGo X es c) = adLI.map fun p => some ([some adBas, some (adLn p.1 (6 + kOf p.1))], (addM p.1 (.rom (rowL (kOf p.1) p.2) 5) (.rom (datL p.1 p.2) 5) X es c []).map some ++ [some (linO p.1 p.2)], 7 + kOf p.1) := by
 intro X es c
 kernel_rfl
def adRan (o3 o4 : AO) (X : Nat → AO) (es : List AEnt) (c : Nat) (cu : AO) (len : Nat) : Option SeenA :=
 bNn (nat_lit 123) (at123 add3I (tmOf (adT1 len) .leaf) (ofObjs (addM len o3 o4 X es c [cu]) (6 + kOf len))) (adSee [0, 7, 43] (List.range (7 + kOf len)))
theorem adRan_all : ∀ (o3 o4 : AO) (X : Nat → AO) (es : List AEnt) (c : Nat) (cu : AO), lens.map (adRan o3 o4 X es c cu) = lens.map fun len => some ([some adBas, some (adLn len (5 + kOf len)), some (adIt len)], (addM len o3 o4 X es c [cu, .iter (some 0) c [] c]).map some, 7 + kOf len) := by
 intro o3 o4 X es c cu
 kernel_rfl
def adRan8 (o3 o4 : AO) (X : Nat → AO) (es : List AEnt) (c : Nat) (cu : AO) (i len : Nat) : Option SeenA :=
 bNn (nat_lit 123) (at123 add8I (tmOf [(0, adBas), (7, adLn len (5 + kOf len)), (10, adNum i)] .leaf) (ofObjs (addM len o3 o4 X es c [cu]) (6 + kOf len))) (adSee [0, 7, 10, 95] (List.range (7 + kOf len)))
theorem adRan8_all : ∀ (o3 o4 : AO) (X : Nat → AO) (es : List AEnt) (c : Nat) (cu : AO) (i : Nat), lens.map (adRan8 o3 o4 X es c cu i) = lens.map fun len => some ([some adBas, some (adLn len (5 + kOf len)), some (adNum i), some (adIt len)], (addM len o3 o4 X es c [cu, .iter (some 0) c [] c]).map some, 7 + kOf len) := by
 intro o3 o4 X es c cu i
 kernel_rfl
def adCur (len i x : Nat) : AO := bif Nat.beq x 0 then linO len i else zerO len
def adRowT (len j : Nat) : List (Nat × AV) := [(0, adBas), (7, adLn len (5 + kOf len)), (43, adIt len), (46, .tuple [adNum j, adLn len (5 + j)])]
def adP (ls : List Nat) : List ((Nat × Nat) × (Nat × Nat)) := ls.flatMap fun len => (List.range (kOf len)).flatMap fun j => ((len, j), (0, 1)) :: (List.range (kOf len)).map fun i => ((len, j), (i, 0))
def adRound (o3 o4 it : AO) (X : Nat → AO) (es : List AEnt) (c : Nat) (p : (Nat × Nat) × (Nat × Nat)) : Option SeenA :=
 bNn (nat_lit 123) (at123 (.region add3E) (tmOf (adRowT p.1.1 p.1.2) .leaf) (ofObjs (addM p.1.1 o3 o4 (putX X p.1.2 (romO p.1.1 p.1.2)) es c [adCur p.1.1 p.2.1 p.2.2, it]) (7 + kOf p.1.1))) fun t aw => bNn (nat_lit 123) (at123 (.draw add3D add3R) t aw) (adSee [0, 7, 43] (List.range (5 + kOf p.1.1) ++ [6 + kOf p.1.1, 8 + kOf p.1.1]))
def adRoundW (o3 o4 it : AO) (X : Nat → AO) (es : List AEnt) (c : Nat) (p : (Nat × Nat) × (Nat × Nat)) : Option SeenA :=
 some ([some adBas, some (adLn p.1.1 (8 + kOf p.1.1)), some (adIt p.1.1)], (addM p.1.1 o3 o4 (putX X p.1.2 (romO p.1.1 p.1.2)) es c []).map some ++ [some it, some (bif Nat.beq p.2.2 0 then bif Nat.beq p.1.2 p.2.1 then zerO p.1.1 else linO p.1.1 p.2.1 else zerO p.1.1)], 9 + kOf p.1.1)
def adMid (o3 o4 : AO) (X : Nat → AO) (es : List AEnt) (c : Nat) (p : Nat × Nat) : Option SeenA :=
 bNn (nat_lit 123) (at123 add4 (tmOf (adT1 p.1) .leaf) (ofObjs (addM p.1 o3 o4 X es c [linO p.1 p.2]) (6 + kOf p.1))) fun t aw => bNn (nat_lit 123) (at123 add5d t aw) fun t aw => bb2 (isFalseV (trGet t (nat_lit 68))) (bNn (nat_lit 123) (at123 add6 t aw) fun t aw => bNn (nat_lit 123) (at123 add7 t aw) (adSee [0, 7, 10] (List.range (5 + kOf p.1) ++ [8 + kOf p.1]))) none
theorem adMid_all : ∀ (o3 o4 : AO) (X : Nat → AO) (es : List AEnt) (c : Nat), adLI.map (adMid o3 o4 X es c) = adLI.map fun p => some ([some adBas, some (adLn p.1 (8 + kOf p.1)), some (adNum p.2)], (addM p.1 o3 o4 X es c []).map some ++ [some (linO p.1 p.2)], 9 + kOf p.1) := by
 intro o3 o4 X es c
 kernel_rfl
def adNone (o3 o4 : AO) (X : Nat → AO) (es : List AEnt) (c : Nat) (len : Nat) : Option SeenA :=
 bNn (nat_lit 123) (at123 add4 (tmOf (adT1 len) .leaf) (ofObjs (addM len o3 o4 X es c [zerO len]) (6 + kOf len))) fun t aw => bNn (nat_lit 123) (at123 add5d t aw) fun t aw => bb2 (isTrueV (trGet t (nat_lit 68))) (bRn (nat_lit 123) (at123 add5t t aw) (adSee [6] (List.range (5 + kOf len)))) none
theorem adNone_all : ∀ (o3 o4 : AO) (X : Nat → AO) (es : List AEnt) (c : Nat), lens.map (adNone o3 o4 X es c) = lens.map fun len => some ([some (.bool false)], (addM len o3 o4 X es c []).map some, 6 + kOf len) := by
 intro o3 o4 X es c
 kernel_rfl
def adSwT (len i j : Nat) : List (Nat × AV) := [(0, adBas), (7, adLn len (5 + kOf len)), (10, adNum i), (95, adIt len), (98, .tuple [adNum j, adLn len (5 + j)])]
def adP2 (ls : List Nat) : List (Nat × Nat × Nat) := ls.flatMap fun len => (List.range (kOf len)).flatMap fun j => ((List.range (kOf len)).filter fun i => !Nat.beq i j).map fun i => (len, i, j)
def adSwap (o3 o4 it : AO) (X : Nat → AO) (es : List AEnt) (c : Nat) (p : Nat × Nat × Nat) : Option SeenA :=
 bNn (nat_lit 123) (at123 (.region add8E) (tmOf (adSwT p.1 p.2.1 p.2.2) .leaf) (ofObjs (addM p.1 o3 o4 (putX X p.2.2 (romO p.1 p.2.2)) es c [linO p.1 p.2.1, it]) (7 + kOf p.1))) fun t aw => bNn (nat_lit 123) (at123 (.region add8D) t aw) (adSee [0, 7, 10, 95, 104, 105, 116] (List.range (5 + kOf p.1) ++ [5 + kOf p.1, 6 + kOf p.1, 8 + kOf p.1]))
def adSwapW (o3 o4 it : AO) (X : Nat → AO) (es : List AEnt) (c : Nat) (p : Nat × Nat × Nat) : Option SeenA :=
 some ([some adBas, some (adLn p.1 (5 + kOf p.1)), some (adNum p.2.1), some (adIt p.1), some (.map (some 0)), some (adNum p.2.2), some (adLn p.1 (8 + kOf p.1))], (addM p.1 o3 o4 (putX X p.2.2 (romO p.1 p.2.2)) es c []).map some ++ [some (linO p.1 p.2.1), some it, some (linO p.1 p.2.2)], 9 + kOf p.1)
def adEnd (o3 o4 : AO) (X : Nat → AO) (es : List AEnt) (c i : Nat) (cu : AO) (len : Nat) : Option SeenA :=
 bNn (nat_lit 123) (at123 (.region add9L) (tmOf [(0, adBas), (7, adLn len (5 + kOf len)), (10, adNum i)] .leaf) (ofObjs (addM len o3 o4 X es c [cu]) (6 + kOf len))) (adSee [120, 121, 122] (List.range (6 + kOf len)))
theorem adEnd_all : ∀ (o3 o4 : AO) (X : Nat → AO) (es : List AEnt) (c i : Nat) (cu : AO), lens.map (adEnd o3 o4 X es c i cu) = lens.map fun len => some ([some (.map (some 0)), some (adNum i), some (adLn len (5 + kOf len))], (addM len o3 o4 X es c [cu]).map some, 6 + kOf len) := by
 intro o3 o4 X es c i cu
 kernel_rfl
end Go.Proofs.YtbilacojhmohmaaGreat.Ae
end
