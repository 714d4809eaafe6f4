/- The second loop with which a line more comes: each line is laid anew. No condition. -/
import Derived.Test.YtbilacojhmohmaaGreatD17
import Derived.Test.YtbilacojhmohmaaGreatD18
set_option linter.unusedVariables false
set_option linter.unusedSimpArgs false
noncomputable section
namespace Go.Proofs.YtbilacojhmohmaaGreat.Ae
open Go
def adT10 (len i : Nat) : List (Nat × AV) := [(0, adBas), (7, adLn len (5 + kOf len)), (10, adNum i)]
def adT95 (len i : Nat) : List (Nat × AV) := [(0, adBas), (7, adLn len (5 + kOf len)), (10, adNum i), (95, adIt len)]
theorem entPut_conv {E E' : Env} {len j q : Nat} (hq : ∀ L, E.loc[q]? = some L → E'.loc[5 + j]? = some L) : ∀ {T : List (Nat × Nat × Loc)} {p0 p : Nat} {v : AV}, (∀ x ∈ T, x.1 ≠ j → ∀ L, E.loc[5 + x.1]? = some L → E'.loc[5 + x.1]? = some L) → (T.map (·.1)).Nodup →
  xfind .i64 (.ofNat j) (adEs len T) p0 = some (some (p, v)) → p0 ≤ p ∧ ∀ l, ERel E (entPut (adNum j) (adLn len q) (adEs len T) (p - p0)) l → ERel E' (adEs len T) l
 | [], p0, p, v, _, _, hf => by
  have hf : some none = some (some (p, v)) := hf
  cases hf
 | x :: T, p0, p, v, hk, hn, hf => by
  have e : xfind .i64 (.ofNat j) (adEs len (x :: T)) p0 = bif ieq (.ofNat j) (.ofNat x.1) then some (some (p0, adLn len (5 + x.1))) else xfind .i64 (.ofNat j) (adEs len T) (p0 + 1) := rfl
  have e2 : adEs len (x :: T) = ⟨adNum x.1, adLn len (5 + x.1), x.2.1⟩ :: adEs len T := rfl
  rw [e, ieq_eq] at hf
  simp only [List.map_cons, List.nodup_cons] at hn
  by_cases hx : x.1 = j
  ·subst hx
   simp only [beq_self_eq_true, cond_true, sI, pmi] at hf
   obtain ⟨rfl, _⟩ := hf
   refine ⟨Nat.le_refl _, fun l hl => ?_⟩
   rw [e2] at hl ⊢
   rw [Nat.sub_self] at hl
   have hl : ERel E (⟨adNum x.1, adLn len q, x.2.1⟩ :: adEs len T) l := hl
   cases hl with
   | cons h1 h2 h3 h4 =>
    rename_i f l
    refine .cons ?_ ?_ h3 (linEs_conv (fun y hy => hk y (List.mem_cons_of_mem _ hy) fun e => hn.1 (List.mem_map.2 ⟨y, hy, e⟩)) h4)
    ·have h1 : VRel E (.int .i64 (.ofNat x.1)) f.key := h1
     generalize f.key = z at h1
     cases h1; exact .int _ _
    ·have h2 : VRel E (.slc (some (q, 0)) (kOf len + 2) (.upto 1 (kOf len + 2))) f.val := h2
     generalize f.val = z at h2
     cases h2 with
     | slcUp hL a b c => exact .slcUp (hq _ hL) a b c
  ·have hb : ((Int.ofNat j) == (Int.ofNat x.1)) = false := beq_false_of_ne (fun h => hx (by injection h with h; exact h.symm))
   rw [hb] at hf
   simp only [cond_false] at hf
   obtain ⟨h1, h2⟩ := entPut_conv hq (fun y hy => hk y (List.mem_cons_of_mem _ hy)) hn.2 hf
   refine ⟨by omega, fun l hl => ?_⟩
   rw [e2] at hl ⊢
   rw [show p - p0 = (p - (p0 + 1)) + 1 by omega] at hl
   have hl : ERel E (⟨adNum x.1, adLn len (5 + x.1), x.2.1⟩ :: entPut (adNum j) (adLn len q) (adEs len T) (p - (p0 + 1))) l := hl
   cases hl with
   | cons g1 g2 g3 g4 =>
    rename_i f l
    refine .cons ?_ ?_ g3 (h2 l g4)
    ·have g1 : VRel E (.int .i64 (.ofNat x.1)) f.key := g1
     generalize f.key = z at g1
     cases g1; exact .int _ _
    ·have g2 : VRel E (.slc (some (5 + x.1, 0)) (kOf len + 2) (.upto 1 (kOf len + 2))) f.val := g2
     generalize f.val = z at g2
     cases g2 with
     | slcUp hL a b c => exact .slcUp (hk x (by simp) hx _ hL) a b c
section
variable {E0 : Env} {w0 : World} {aw0 : AW} {ids : List Nat} {live rest : List Loc} {len i c n : Nat} {β : Nat → Bool} {T : List (Nat × Nat × Loc)}
theorem ad_swap (hR0 : Rel E0 aw0 w0) (hS0 : SubM E0 aw0 ids live) (hlv : live.length = 2) (hlr : (live ++ rest).length = 5) (hTk : ∀ x ∈ T, x.1 < kOf len) (hkn : (T.map (·.1)).Nodup) {x : Nat × Nat × Loc} (hx : x ∈ T) {E : Env} {w : World} {S : List Nat} {aw2 : AW} {p : Nat} {v : AV} {it : AO} (hit : AdO it)
  (hf : xfind .i64 (.ofNat x.1) (adEs len T) 0 = some (some (p, v))) (hK : AddK E0 w0 live rest len T S E) (hR : Rel E (aw2.set 0 (.map (entPut (adNum x.1) (adLn len (8 + kOf len)) (adEs len T) p) c)) w)
  (m1 : ∀ (q : Nat) (y : AO), (adMem len i T (adEs len T) c [])[q]? = some y → aw2.get q = some y) (m5 : aw2.get (5 + kOf len) = some (linO len i)) (m6 : aw2.get (6 + kOf len) = some it) (m8 : aw2.get (8 + kOf len) = some (linO len x.1)) (hnx : aw2.nx = 9 + kOf len) :
  ∃ E', AddK E0 w0 live rest len T (x.1 :: S) E' ∧ Rel E' (ofObjs (adMem len i T (adEs len T) c [linO len i, it]) (7 + kOf len)) w ∧ ∀ q, q < 7 + kOf len → q ≠ 5 + x.1 → ∀ L, E.loc[q]? = some L → E'.loc[q]? = some L := by
 have hxk := hTk x hx
 obtain ⟨aw3, h3⟩ : ∃ aw3, aw3 = aw2.set 0 (.map (entPut (adNum x.1) (adLn len (8 + kOf len)) (adEs len T) p) c) := ⟨_, rfl⟩
 rw [← h3] at hR
 have g0 : aw3.get 0 = some (.map (entPut (adNum x.1) (adLn len (8 + kOf len)) (adEs len T) p) c) := by rw [h3]; exact Tr.get_set_same ..
 have gq : ∀ q, q ≠ 0 → aw3.get q = aw2.get q := fun q hq => by rw [h3]; exact tgo hq
 have g8 : aw3.get (8 + kOf len) = some (linO len x.1) := (gq _ (by omega)).trans m8
 have gn : aw3.nx = 9 + kOf len := by rw [h3]; exact hnx
 obtain ⟨L8, hL8, o8⟩ := hR.obj _ _ g8
 have hlive : ∀ q, q < live.length → ∃ o, aw3.get q = some o ∧ o.live = true := fun q hq => by
  rw [hlv] at hq
  match q, hq with
  | 0, _ => exact ⟨_, g0, rfl⟩
  | 1, _ => exact ⟨.cells fieldCells 177 false, (gq 1 (by decide)).trans (m1 1 _ rfl), rfl⟩
 have hnew := mix_new hR0 hS0 hK.mix hR hlive g8 rfl (by omega) hL8
 have htk := hR.tok.2 _ _ L8 g8 rfl hL8
 have hfr := hR.apart _ _ L8 g8 rfl hL8
 obtain ⟨c8, fz, ⟨hb, hfz⟩, h2, h4, _, h5⟩ := o8
 have hR3 : Rel E (aw3.set (8 + kOf len) .dead) w := hR.lessD rfl fun j y hj => by
  rcases AW.get_set hj with ⟨rfl, rfl⟩ | ⟨_, hj⟩
  ·exact .inl ⟨rfl, by omega⟩
  ·exact .inr hj
 obtain ⟨hle2, hR4⟩ := hR3.tokAdd (b := L8.block) (t := .ob (.cells c8 5 fz)) hb hfr htk fun j y Lj hj hy hLj e => by
  rcases AW.get_set hj with ⟨rfl, rfl⟩ | ⟨hne, hj⟩
  ·cases hy
  ·exact hne (hR.inj j _ y _ Lj L8 hj g8 hy rfl hLj hL8 e)
 obtain ⟨E2, hE2⟩ : ∃ E2, E2 = { E with tk := fun y => if y = L8.block then some (.ob (.cells c8 5 fz)) else E.tk y } := ⟨_, rfl⟩
 rw [← hE2] at hle2 hR4
 have e2loc : E2.loc = E.loc := by rw [hE2]
 have e2sym : E2.sym = E.sym := by rw [hE2]
 have e2tk : E2.tk L8.block = some (.ob (.cells c8 5 fz)) := by rw [hE2]; exact if_pos rfl
 obtain ⟨src, hsrc⟩ : ∃ src : Nat → Nat, src = fun q => if q = 5 + x.1 then 8 + kOf len else q := ⟨_, rfl⟩
 have s1 : ∀ q, q ≠ 5 + x.1 → src q = q := fun q hq => by rw [hsrc]; exact if_neg hq
 have s2 : src (5 + x.1) = 8 + kOf len := by rw [hsrc]; exact if_pos rfl
 have hos : (adMem len i T (adEs len T) c [linO len i, it]).length = 7 + kOf len := by rw [adMem_len]; simp; omega
 have hkeep : ∀ q, q < 7 + kOf len → q ≠ 5 + x.1 → ∀ L, E.loc[q]? = some L → (renE E2 src (7 + kOf len)).loc[q]? = some L := fun q h1 h2 L hL => renE_loc h1 (by rw [s1 q h2, e2loc]; exact hL)
 have hj8 : (renE E2 src (7 + kOf len)).loc[5 + x.1]? = some L8 := renE_loc (by omega) (by rw [s2, e2loc]; exact hL8)
 have hline : LineLoc (renE E2 src (7 + kOf len)) len (kOf len) x.1 L8 := ⟨c8, fz, e2tk, h2, by rw [lineL_len] at h4; omega, fun q a ha => by
  obtain ⟨u, hu, hr⟩ := h5 q a ha
  exact ⟨u, hu, hr.scal (by show E2.sym = E.sym; exact e2sym) (lineL_scal a (List.mem_of_getElem? ha))⟩⟩
 refine ⟨renE E2 src (7 + kOf len), ⟨⟨by show E2.sym = _; rw [e2sym]; exact hK.mix.sym, fun b o ho => hle2.2.2.2 _ _ (hK.mix.tk b o ho), fun j L hj => ?_⟩, fun s hs => ?_, fun y hy hn => hkeep _ (by have := hTk y hy; omega) (fun e => hn (by rw [show y.1 = x.1 by omega]; exact List.mem_cons_self ..)) _ (hK.old y hy fun h => hn (List.mem_cons_of_mem _ h))⟩, ?_, hkeep⟩
 ·have := (lgs.1 hj).1
  exact hkeep j (by omega) (by omega) L (hK.mix.loc j L hj)
 ·by_cases e : s = x.1
  ·subst e; exact ⟨hxk, L8, hj8, hline, hnew.1⟩
  ·rcases List.mem_cons.1 hs with hs | hs
   ·exact (e hs).elim
   ·obtain ⟨a1, L, a2, a3, a4⟩ := hK.new s hs
    exact ⟨a1, L, hkeep _ (by omega) (by omega) L a2, a3.mono (E := E) (E' := renE E2 src (7 + kOf len)) e2sym hle2.2.2.2, a4⟩
 ·have := Rel.renum hR4 (os := adMem len i T (adEs len T) c [linO len i, it]) (src := src) (fun a b ha hb hab => ?_) (fun j y hj => ?_)
  ·rw [hos] at this; exact this
  ·rw [hos] at ha hb
   by_cases h6 : a = 5 + x.1 <;> by_cases h7 : b = 5 + x.1
   ·omega
   ·rw [h6, s2, s1 b h7] at hab; omega
   ·rw [h7, s2, s1 a h6] at hab; omega
   ·rwa [s1 a h6, s1 b h7] at hab
  ·rw [hos]
   have hlt := (lgs.1 hj).1
   rw [hos] at hlt
   have g4 : ∀ q, q ≠ 8 + kOf len → (aw3.set (8 + kOf len) .dead).get q = aw3.get q := fun q hq => tgo hq
   by_cases h8 : j < 5 + kOf len
   ·have hj' : (adMem len i T (adEs len T) c [])[j]? = some y := by rw [← hj]; exact (adMem_head h8).symm
    by_cases hz : j = 0
    ·subst hz
     injection hj' with hj'; subst hj'
     refine .inr ⟨.map (entPut (adNum x.1) (adLn len (8 + kOf len)) (adEs len T) p) c, by rw [s1 0 (by omega)]; exact (g4 0 (by omega)).trans g0, id, fun L hL ho => ?_⟩
     obtain ⟨h0, ces, q1, q2⟩ := ho
     refine ⟨h0, ces, q1, (entPut_conv (E := E2) (E' := renE E2 src (7 + kOf len)) (q := 8 + kOf len) (j := x.1) (fun L hL => ?_) (fun y hy hne L hL => ?_) hkn hf).2 _ q2⟩
     ·rw [e2loc, hL8] at hL; injection hL with hL; subst hL; exact hj8
     ·rw [e2loc] at hL
      exact hkeep _ (by have := hTk y hy; omega) (by omega) L hL
    ·by_cases h9 : j = 5 + x.1
     ·subst h9
      refine .inr ⟨.dead, by rw [s2]; exact Tr.get_set_same .., fun hy => ?_, fun L hL _ => ?_⟩
      all_goals
       have hy2 := hj'
       rw [adMem_line hxk, sI] at hy2
       have hX : adX len T x.1 = romO len x.1 := by
        have : T.any (fun y => Nat.beq y.1 x.1) = true := List.any_eq_true.2 ⟨x, hx, by simp⟩
        simp [adX, this]
       rw [hX] at hy2
       subst hy2
      ·cases hy
      ·rw [s2, e2loc, hL8] at hL; injection hL with hL; subst hL
       exact hline.rom
     ·refine .inr ⟨y, by rw [s1 j h9]; exact (g4 j (by omega)).trans ((gq j hz).trans (m1 j y hj')), id, fun L hL ho => ?_⟩
      exact adMem_keep (E := E2) (E' := renE E2 src (7 + kOf len)) (es := adEs len T) (c := c) rfl (fun _ _ h => h) (fun q hq L hL => by rw [e2loc] at hL; exact hkeep q (by omega) (by omega) L hL) hz hj' ho
   ·have s3 : src j = j := s1 j (by omega)
    obtain ⟨u, rfl⟩ : ∃ u, j = 5 + kOf len + u := ⟨j - (5 + kOf len), by omega⟩
    have hj' : [linO len i, it][u]? = some y := by rw [← hj]; exact (adMem_tail rfl).symm
    match u, hj' with
    | 0, hj' =>
     injection hj' with hj'; subst hj'
     exact .inr ⟨linO len i, by rw [s3]; exact (g4 _ (by omega)).trans ((gq _ (by omega)).trans m5), id, fun L hL ho => ORel.cells_scal (E := E2) (E' := renE E2 src (7 + kOf len)) rfl lineL_scal ho⟩
    | 1, hj' =>
     injection hj' with hj'; subst hj'
     exact .inr ⟨it, by rw [s3, show 5 + kOf len + 1 = 6 + kOf len by omega]; exact (g4 _ (by omega)).trans ((gq _ (by omega)).trans m6), id, fun L hL ho => hit E2 _ L w rfl (fun L hL => by rw [e2loc] at hL; exact hkeep 0 (by omega) (by omega) L hL) ho⟩
    | u + 2, hj' => cases hj'
theorem ad_round2 {i j : Nat} {it : AO} {es : List AEnt} (hl : len ∈ lens) (hi : i < kOf len) (hj : j < kOf len) (hne : i ≠ j) {x : Nat × Nat × Loc} (hx : x ∈ T) (hxj : x.1 = j) : ∃ t1 aw1 t2 aw2,
  xcode cMul 1000 (.region add8E) ⟨tmOf (adSwT len i j) .leaf, 123, []⟩ (ofObjs (adMem len i T es c [linO len i, it]) (7 + kOf len)) = some ⟨.norm, ⟨t1, 123, []⟩, aw1⟩ ∧
  xcode cMul 1000 (.region add8D) ⟨t1, 123, []⟩ aw1 = some ⟨.norm, ⟨t2, 123, []⟩, aw2⟩ ∧ (t2.get 0 0 = some adBas ∧ t2.get 7 7 = some (adLn len (5 + kOf len)) ∧ t2.get 10 10 = some (adNum i) ∧ t2.get 95 95 = some (adIt len) ∧ t2.get 104 104 = some (.map (some 0)) ∧ t2.get 105 105 = some (adNum j) ∧ t2.get 116 116 = some (adLn len (8 + kOf len))) ∧
  (∀ (q : Nat) (n : AO), (adMem len i T es c [])[q]? = some n → aw2.get q = some n) ∧ aw2.get (5 + kOf len) = some (linO len i) ∧ aw2.get (6 + kOf len) = some it ∧ aw2.get (8 + kOf len) = some (linO len j) ∧ aw2.nx = 9 + kOf len := by
 subst hxj
 have er := ad_swap1 hl hi hj hne (ad3 len i) (ad4 len i) it (adX len T) es c
 unfold adSwap adSwapW at er
 dsimp only at er
 rw [putX_id hx] at er
 obtain ⟨t1, aw1, e1, er⟩ := bNn_ok er
 obtain ⟨t2, aw2, e2, er⟩ := bNn_ok er
 simp only [adSee, sI, pmi] at er
 obtain ⟨ht, hm, hn⟩ := er
 rw [at123_eq] at e1 e2
 simp only [List.map_cons, List.map_nil, List.cons.injEq, and_true, trGet_eq] at ht
 obtain ⟨g1, g2⟩ := see_split (by rw [addM_len]; simp) hm
 simp only [List.map_cons, List.map_nil, List.cons.injEq, and_true, awGet_eq] at g2
 exact ⟨t1, aw1, t2, aw2, e1, e2, ht, g1, g2.1, g2.2.1, g2.2.2, hn⟩
theorem ad_step2 (hR0 : Rel E0 aw0 w0) (hS0 : SubM E0 aw0 ids live) (hlv : live.length = 2) (hlr : (live ++ rest).length = 5) (hl : len ∈ lens) (hi : i < kOf len) (hT : LinT E0 len (kOf len) n β T c) (hβ : β i = false) {Q0 : Post'}
  (hQ : ∀ S, (∀ x ∈ T, x.1 ∈ S) → ∀ E ca w, AddK E0 w0 live rest len T S E → ActRel E ⟨tmOf (adT10 len i) .leaf, 123, []⟩ ca → Rel E (ofObjs (adMem len i T (adEs len T) c [linO len i]) (6 + kOf len)) w → Q0 .normal ca w) (seen S : List Nat) (hS : ∀ x ∈ T, x.2.1 ∈ seen → x.1 ∈ S)
  (ih : ∀ x ∈ T, x.2.1 ∉ seen → GoodLK Tryz.prog (cDraw Tryz.prog) (AddK E0 w0 live rest len T (x.1 :: S)) add8B (Exit.inBlock 2 Q0) ⟨tmOf (adT95 len i) .leaf, 123, []⟩ (ofObjs (adMem len i T (adEs len T) c [linO len i, .iter (some 0) c (seen ++ [x.2.1]) c]) (7 + kOf len))) :
  GoodLK Tryz.prog (cDraw Tryz.prog) (AddK E0 w0 live rest len T S) add8B (Exit.inBlock 2 Q0) ⟨tmOf (adT95 len i) .leaf, 123, []⟩ (ofObjs (adMem len i T (adEs len T) c [linO len i, .iter (some 0) c seen c]) (7 + kOf len)) := by
 have hTk : ∀ x ∈ T, x.1 < kOf len := fun x hx => (hT.all x hx).1
 refine GoodLK.of ?_
 show GoodK Tryz.prog (cDraw Tryz.prog) _ (.seq add8N (.seq (.cond (.t 97) .skip (.exit 2)) (.block 3 add8K))) _ _ _
 refine GoodK.into (GoodK.region (GoodI.next (m := 0) (id := 6 + kOf len) (since := c) (st := c) (seen := seen) (es := adEs len T) (clock := c) AddK.le rfl rfl ?_ ?_ (fun e he => ?_) (Nat.le_refl _) (fun hall => ?_) fun e he hn => ?_))
 ·rw [ofObjs_get]
  exact adMem_tail (u := 1) (by omega)
 ·rw [ofObjs_get]; rfl
 ·obtain ⟨x, hx, rfl⟩ := adEs_mem he
  exact hT.old x hx
 ·have hall' : ∀ x ∈ T, x.1 ∈ S := fun x hx => hS x hx (hall _ (List.mem_map.2 ⟨x, hx, rfl⟩))
  refine GoodI.op (v := .bool false) (aw1 := ofObjs (adMem len i T (adEs len T) c [linO len i, .iter (some 0) c seen c]) (7 + kOf len)) AddK.le cMul_ok (by simp only [xop, Opd.ev, Tr.get_set_same]; rfl) rfl (GoodI.last ?_)
  have h45 : Opd.ev (((tmOf (adT95 len i) .leaf).set 96 96 (.tuple [.bool false])).set 97 97 (.bool false)) (.t 97) = some (.bool false) := Tr.get_set_same ..
  have hg : ∀ q, q ≠ 96 → q ≠ 97 → (((tmOf (adT95 len i) .leaf).set 96 96 (.tuple [.bool false])).set 97 97 (.bool false)).get q q = (tmOf (adT95 len i) .leaf).get q q := fun q h1 h2 => by rw [Tr.get_set_other h2, Tr.get_set_other h1]
  refine GoodK.run (n := 3) AddK.le cMul_ok drMul (seq_exit (n := 2) (k := 2) (by rw [show (2 : Nat) = 1 + 1 from rfl, cond_b (u := false) h45]; rfl)) fun E e ca w hE hR hA hX => ?_
  cases e <;> simp only [XRel] at hX
  subst hX
  simp only [loopQ, Exit.inBlock, if_true]
  obtain ⟨E', h1, h2, h3⟩ := ad_turn (tm := adT10 len i) (tl := [linO len i]) (ss := [5 + kOf len]) (t := _) hlr hTk (fun j m hj => by rw [ofObjs_get]; exact (adMem_head (adMem_lt hj)).trans hj) rfl
   (fun u m hu => by
    match u, hu with
    | 0, hu => exact ⟨_, rfl, by rw [ofObjs_get]; exact (adMem_tail (u := 0) (by omega)).trans hu⟩
    | u + 1, hu => cases hu) (by simp) (by simp) (fun m hm => by simp only [List.mem_cons, List.not_mem_nil, or_false] at hm; subst hm; exact .scal lineL_scal) (fun s v hsv => by
    simp only [adT10, List.mem_cons, List.not_mem_nil, or_false, pmi] at hsv
    rcases hsv with ⟨rfl, rfl⟩ | ⟨rfl, rfl⟩ | ⟨rfl, rfl⟩
    ·exact ⟨adBas, (hg 0 (by decide) (by decide)).trans rfl, .bas⟩
    ·exact ⟨adLn len (5 + kOf len), (hg 7 (by decide) (by decide)).trans rfl, .ln (u := 0) rfl rfl (by omega)⟩
    ·exact ⟨adNum i, (hg 10 (by decide) (by decide)).trans rfl, .num _⟩) E w hE hR
  exact hQ S hall' E' ca w h1 (act_turn h3 hA) (by rw [show 6 + kOf len = 5 + kOf len + [linO len i].length by simp; omega]; exact h2)
 ·obtain ⟨x, hx, rfl⟩ := adEs_mem he
  have hn : x.2.1 ∉ seen := hn
  have hne : i ≠ x.1 := fun e => by
   have := (hT.all x hx).2.1
   rw [← e, hβ] at this; cases this
  refine GoodI.op (v := .bool true) (aw1 := (ofObjs (adMem len i T (adEs len T) c [linO len i, .iter (some 0) c seen c]) (7 + kOf len)).set (6 + kOf len) (.iter (some 0) c (seen ++ [x.2.1]) c)) AddK.le cMul_ok (by simp only [xop, Opd.ev, Tr.get_set_same]; rfl) rfl (GoodI.last ?_)
  obtain ⟨t, ht⟩ : ∃ t, t = (((tmOf (adT95 len i) .leaf).set 96 96 (.tuple [.bool true, adNum x.1, adLn len (5 + x.1)])).set 97 97 (.bool true)) := ⟨_, rfl⟩
  have h45 : Opd.ev t (.t 97) = some (.bool true) := by rw [ht]; exact Tr.get_set_same ..
  have hg : ∀ q, q ≠ 96 → q ≠ 97 → t.get q q = (tmOf (adT95 len i) .leaf).get q q := fun q h1 h2 => by rw [ht, Tr.get_set_other h2, Tr.get_set_other h1]
  obtain ⟨aw, haw⟩ : ∃ aw, aw = (ofObjs (adMem len i T (adEs len T) c [linO len i, .iter (some 0) c seen c]) (7 + kOf len)).set (6 + kOf len) (.iter (some 0) c (seen ++ [x.2.1]) c) := ⟨_, rfl⟩
  have g6 : aw.get (6 + kOf len) = some (.iter (some 0) c (seen ++ [x.2.1]) c) := by rw [haw]; exact Tr.get_set_same ..
  have g7 : ∀ q, q ≠ 6 + kOf len → aw.get q = (adMem len i T (adEs len T) c [linO len i, .iter (some 0) c seen c])[q]? := fun q hq => by
   rw [haw]
   exact (tgo hq).trans (ofObjs_get _ _ q)
  have gnx : aw.nx = 7 + kOf len := by rw [haw]; rfl
  show GoodK Tryz.prog (cDraw Tryz.prog) _ _ _ ⟨((tmOf (adT95 len i) .leaf).set 96 96 (.tuple [.bool true, adNum x.1, adLn len (5 + x.1)])).set 97 97 (.bool true), 123, []⟩ ((ofObjs (adMem len i T (adEs len T) c [linO len i, .iter (some 0) c seen c]) (7 + kOf len)).set (6 + kOf len) (.iter (some 0) c (seen ++ [x.2.1]) c))
  rw [← ht, ← haw]
  refine GoodK.seq (n := 2) (a1 := ⟨t, 123, []⟩) (aw1 := aw) AddK.le cMul_ok drMul (by rw [show (2 : Nat) = 1 + 1 from rfl, cond_b (u := true) h45]; rfl) (GoodK.block ?_)
  show GoodK Tryz.prog (cDraw Tryz.prog) _ (.seq (.region (.op (some 98) none (.entry (.t 95)) :: add8E)) (.draw add8D add8R)) _ _ _
  refine GoodK.items (GoodI.entry (seen := seen) (es := adEs len T) (e := ⟨adNum x.1, adLn len (5 + x.1), x.2.1⟩) (id := 6 + kOf len) (m := 0) (since := c) (st := c) AddK.le rfl ((hg 95 (by decide) (by decide)).trans rfl) g6 ((g7 0 (by omega)).trans rfl) he (by rw [adEs_borns]; exact hT.borns) ?_)
  obtain ⟨t1, aw1, t2, aw2, e1, e2, ⟨k0, k7, k10, k95, k104, k105, k116⟩, m1, m5, m6, m8, mnx⟩ := ad_round2 (es := adEs len T) (c := c) (it := .iter (some 0) c (seen ++ [x.2.1]) c) hl hi (hTk x hx) hne hx rfl
  have hlen : (adMem len i T (adEs len T) c [linO len i, .iter (some 0) c (seen ++ [x.2.1]) c]).length = 7 + kOf len := by
   rw [adMem_len]; simp; omega
  refine GoodI.canon (tm := adSwT len i x.1) (os := adMem len i T (adEs len T) c [linO len i, .iter (some 0) c (seen ++ [x.2.1]) c]) (fun s v hsv => ?_) (gnx.trans hlen.symm) (fun q y hq => ?_) ?_
  ·simp only [adSwT, List.mem_cons, List.not_mem_nil, or_false, pmi] at hsv
   rcases hsv with ⟨rfl, rfl⟩ | ⟨rfl, rfl⟩ | ⟨rfl, rfl⟩ | ⟨rfl, rfl⟩ | ⟨rfl, rfl⟩
   ·exact (tgo (by decide)).trans ((hg 0 (by decide) (by decide)).trans rfl)
   ·exact (tgo (by decide)).trans ((hg 7 (by decide) (by decide)).trans rfl)
   ·exact (tgo (by decide)).trans ((hg 10 (by decide) (by decide)).trans rfl)
   ·exact (tgo (by decide)).trans ((hg 95 (by decide) (by decide)).trans rfl)
   ·exact Tr.get_set_same ..
  ·by_cases h6 : q = 6 + kOf len
   ·subst h6
    rw [g6, ← hq, adMem_tail (len := len) (q := 6 + kOf len) (u := 1) (by omega)]; rfl
   ·rw [g7 q h6, ← hq]
    by_cases h5 : q < 5 + kOf len
    ·exact (adMem_head h5).trans (adMem_head h5).symm
    ·have hlt := (lgs.1 hq).1
     rw [hlen] at hlt
     have hq5 : q = 5 + kOf len + 0 := by omega
     rw [adMem_tail hq5, adMem_tail hq5]; rfl
  ·rw [hlen]
   refine GoodI.all AddK.le cMul_ok (show xitems cMul add8E _ _ = _ from e1) fun E ca w hE hA hR c' hc' => ?_
   obtain ⟨p, hp⟩ := xfind_lin (k := kOf len) (idf := (5 + ·)) (T := T) (i := x.1) (p := 0) ⟨x, hx, rfl⟩
   have hop : xop t2 aw2 (.mapset (.t 104) (.t 105) (.t 116)) = some (.tuple [], aw2.set 0 (.map (entPut (adNum x.1) (adLn len (8 + kOf len)) (adEs len T) p) c)) := by
    have a1 : Opd.ev t2 (.t 104) = some (.map (some 0)) := k104
    have a2 : Opd.ev t2 (.t 105) = some (.int .i64 (.ofNat x.1)) := k105
    have a3 : Opd.ev t2 (.t 116) = some (adLn len (8 + kOf len)) := k116
    have a4 : aw2.get 0 = some (.map (adEs len T) c) := m1 0 _ rfl
    have a5 : xfind .i64 (.ofNat x.1) (adEs len T) 0 = some (some (p, .slc (some (5 + x.1, 0)) (kOf len + 2) (.upto 1 (kOf len + 2)))) := hp
    simp only [xop, a1, a2, a3, xmap, a4, a5]
    rfl
   have hdr : xcode cMul 1000 (.draw add8D add8R) ⟨t1, 123, []⟩ aw1 = some ⟨.norm, ⟨t2, 123, []⟩, aw2.set 0 (.map (entPut (adNum x.1) (adLn len (8 + kOf len)) (adEs len T) p) c)⟩ := draw_eq (n := 999) (show xitems cMul add8D _ _ = _ from e2) (by simp only [add8R, xitems, xguard, hop, AAct.put])
   refine (GoodK.run AddK.le cMul_ok drMul hdr fun E e ca w hE hR hA hX => ?_ : GoodK Tryz.prog (cDraw Tryz.prog) (AddK E0 w0 live rest len T S) (.draw add8D add8R) _ ⟨t1, 123, []⟩ aw1) c' hc' E ca w hE hA hR
   cases e <;> simp only [XRel] at hX
   show ∀ c, cCode Tryz.prog (cDraw Tryz.prog) c = some add8B → LoopAt Tryz.prog c _ ca w
   intro c'' hc''
   obtain ⟨E', h1, h2, h3⟩ := ad_swap hR0 hS0 hlv hlr hTk hT.keys hx (it := .iter (some 0) c (seen ++ [x.2.1]) c) .iter hp hE hR m1 m5 m6 m8 mnx
   refine ih x hx hn c'' hc'' E' ca w h1 (act_turn (t := t2) (fun s v hsv => ?_) hA) h2
   have hk := hTk x hx
   simp only [adT95, List.mem_cons, List.not_mem_nil, or_false, pmi] at hsv
   rcases hsv with ⟨rfl, rfl⟩ | ⟨rfl, rfl⟩ | ⟨rfl, rfl⟩ | ⟨rfl, rfl⟩
   ·refine ⟨_, k0, fun cv hcv => ?_⟩
    have hcv : VRel E (.ptr (some (2, 0))) cv := hcv
    cases hcv with
    | ptr hL => exact .ptr (h3 2 (by omega) (by omega) _ hL)
   ·refine ⟨_, k7, fun cv hcv => ?_⟩
    have hcv : VRel E (.slc (some (5 + kOf len, 0)) (kOf len + 2) (.upto 1 (kOf len + 2))) cv := hcv
    cases hcv with
    | slcUp hL a b c => exact .slcUp (h3 _ (by omega) (by omega) _ hL) a b c
   ·refine ⟨_, k10, fun cv hcv => ?_⟩
    have hcv : VRel E (.int .i64 (.ofNat i)) cv := hcv
    cases hcv; exact .int _ _
   ·refine ⟨_, k95, fun cv hcv => ?_⟩
    have hcv : VRel E (.ptr (some (6 + kOf len, 0))) cv := hcv
    cases hcv with
    | ptr hL => exact .ptr (h3 _ (by omega) (by omega) _ hL)
theorem ad_loop2 (hR0 : Rel E0 aw0 w0) (hS0 : SubM E0 aw0 ids live) (hlv : live.length = 2) (hlr : (live ++ rest).length = 5) (hl : len ∈ lens) (hi : i < kOf len) (hT : LinT E0 len (kOf len) n β T c) (hβ : β i = false) {Q0 : Post'}
  (hQ : ∀ S, (∀ x ∈ T, x.1 ∈ S) → ∀ E ca w, AddK E0 w0 live rest len T S E → ActRel E ⟨tmOf (adT10 len i) .leaf, 123, []⟩ ca → Rel E (ofObjs (adMem len i T (adEs len T) c [linO len i]) (6 + kOf len)) w → Q0 .normal ca w) :
  ∀ (d : Nat) (seen S : List Nat), (∀ x ∈ T, x.2.1 ∈ seen → x.1 ∈ S) → (T.filter fun x => !(seen.contains x.2.1)).length ≤ d →
  GoodLK Tryz.prog (cDraw Tryz.prog) (AddK E0 w0 live rest len T S) add8B (Exit.inBlock 2 Q0) ⟨tmOf (adT95 len i) .leaf, 123, []⟩ (ofObjs (adMem len i T (adEs len T) c [linO len i, .iter (some 0) c seen c]) (7 + kOf len)) := by
 intro d
 induction d with
 | zero =>
  intro seen S hS hd
  refine ad_step2 hR0 hS0 hlv hlr hl hi hT hβ hQ seen S hS fun x hx hn => ?_
  have : x ∈ T.filter fun y => !(seen.contains y.2.1) := List.mem_filter.2 ⟨hx, by simp [hn]⟩
  rw [List.eq_nil_of_length_eq_zero (Nat.le_zero.1 hd)] at this
  cases this
 | succ d ih =>
  intro seen S hS hd
  refine ad_step2 hR0 hS0 hlv hlr hl hi hT hβ hQ seen S hS fun x hx hn => ih _ _ (fun y hy hyb => ?_) (filt_lt hx hn hd)
  rcases List.mem_append.1 hyb with h | h
  ·exact List.mem_cons_of_mem _ (hS y hy h)
  ·simp only [List.mem_cons, List.not_mem_nil, or_false] at h
   have := map_inj hT.borns hy hx h
   subst this
   exact List.mem_cons_self ..
end
def AdQ (E0 : Env) (w0 : World) (live rest : List Loc) (len i : Nat) (T : List (Nat × Nat × Loc)) (c : Nat) (b : Bool) : Post' := fun e ca w' => e = .ret ∧ ca.defers = [] ∧ ∃ v6, ca.tmps[6]? = some v6 ∧
 ((b = true ∧ ∃ E1 aw1, AddK E0 w0 live rest len T [] E1 ∧ Rel E1 aw1 w' ∧ VRel E1 (.bool false) v6 ∧ ∀ (q : Nat) (y : AO), (adMem len i T (adEs len T) c [])[q]? = some y → aw1.get q = some y) ∨
  (b = false ∧ ∃ S E1 aw1, (∀ x ∈ T, x.1 ∈ S) ∧ AddK E0 w0 live rest len T S E1 ∧ Rel E1 aw1 w' ∧ VRel E1 (.bool true) v6 ∧ aw1.get 0 = some (.map (adEs len T ++ [⟨adNum i, adLn len (5 + kOf len), c⟩]) (c + 1)) ∧ aw1.get 1 = some (.cells fieldCells 177 false) ∧ aw1.get (5 + kOf len) = some (linO len i)))
def adRet2 (t : Tr AV) (aw : AW) : Option (Option AV × AW) := bRn (nat_lit 123) (at123 (.seq add10 add11) t aw) fun t aw => some (trGet t (nat_lit 6), aw)
theorem adRet2_all : ∀ (h : Tr AO) (n s : Nat), adRet2 .leaf ⟨h, n, s⟩ = some (some (.bool true), ⟨h, n, s⟩) := by
 intro h n s
 kernel_rfl
section
variable {E0 : Env} {w0 : World} {aw0 : AW} {ids : List Nat} {live rest : List Loc} {len i c n : Nat} {β : Nat → Bool} {T : List (Nat × Nat × Loc)}
theorem defs_nil {E : Env} {t : Tr AV} {n : Nat} {ca : Act} (hA : ActRel E ⟨t, n, []⟩ ca) : ca.defers = [] := by
 have := hA.defs
 generalize ca.defers = df at this
 cases this; rfl
theorem ad_turn' {S : List Nat} (hlr : (live ++ rest).length = 5) (hTk : ∀ x ∈ T, x.1 < kOf len) {t : Tr AV} {aw : AW} {tm : List (Nat × AV)} {tl : List AO} {ss : List Nat} {N : Nat} (hN : N = 5 + kOf len + tl.length)
  (h0 : ∀ (j : Nat) (n : AO), (adMem len i T (adEs len T) c [])[j]? = some n → aw.get j = some n) (hl : ss.length = tl.length) (h1 : ∀ (u : Nat) (n : AO), tl[u]? = some n → ∃ s, ss[u]? = some s ∧ aw.get s = some n)
  (hss : ∀ s ∈ ss, 5 + kOf len ≤ s) (nd : ss.Nodup) (htl : ∀ n ∈ tl, AdO n) (htm : ∀ s v, (s, v) ∈ tm → ∃ v0, t.get s s = some v0 ∧ AdV len ss v0 v) :
  Turn (AddK E0 w0 live rest len T S) t aw tm (ofObjs (adMem len i T (adEs len T) c tl) N) := by
 subst hN
 exact ad_turn hlr hTk h0 hl h1 hss nd htl htm
theorem one_get {o : AO} {aw : AW} {s : Nat} (h : aw.get s = some o) : ∀ (u : Nat) (n : AO), [o][u]? = some n → ∃ s', [s][u]? = some s' ∧ aw.get s' = some n := fun u n hu => by
 match u, hu with
 | 0, hu => injection hu with hu; subst hu; exact ⟨s, rfl, h⟩
 | u + 1, hu => cases hu
theorem two_get {o o' : AO} {aw : AW} {s s' : Nat} (h : aw.get s = some o) (h' : aw.get s' = some o') : ∀ (u : Nat) (n : AO), [o, o'][u]? = some n → ∃ q, [s, s'][u]? = some q ∧ aw.get q = some n := fun u n hu => by
 match u, hu with
 | 0, hu => injection hu with hu; subst hu; exact ⟨s, rfl, h⟩
 | 1, hu => injection hu with hu; subst hu; exact ⟨s', rfl, h'⟩
 | u + 2, hu => cases hu
theorem adLI_mem (hl : len ∈ lens) (hi : i < kOf len) : (len, i) ∈ adLI := List.mem_flatMap.2 ⟨len, hl, List.mem_map.2 ⟨i, List.mem_range.2 hi, rfl⟩⟩
theorem ad_end (hl : len ∈ lens) (hi : i < kOf len) (hT : LinT E0 len (kOf len) n β T c) (hβ : β i = false) {S : List Nat} (hS : ∀ x ∈ T, x.1 ∈ S) :
  GoodK Tryz.prog (cDraw Tryz.prog) (AddK E0 w0 live rest len T S) (.seq add9 (.seq add10 add11)) (AdQ E0 w0 live rest len i T c false) ⟨tmOf (adT10 len i) .leaf, 123, []⟩ (ofObjs (adMem len i T (adEs len T) c [linO len i]) (6 + kOf len)) := by
 have er := List.map_inj_left.1 (adEnd_all (ad3 len i) (ad4 len i) (adX len T) (adEs len T) c i (linO len i)) len hl
 unfold adEnd at er
 obtain ⟨t1, aw1, e1, er⟩ := bNn_ok er
 simp only [adSee, sI, pmi] at er
 obtain ⟨ht, hm, hn⟩ := er
 rw [at123_eq] at e1
 simp only [List.map_cons, List.map_nil, List.cons.injEq, and_true, trGet_eq] at ht
 obtain ⟨k0, k1, k2⟩ := ht
 obtain ⟨g1, _⟩ := see_split (ids2 := []) (os2 := []) (m := 6 + kOf len) (l := addM len (ad3 len i) (ad4 len i) (adX len T) (adEs len T) c [linO len i]) (by rw [addM_len]; simp; omega) (by rw [List.append_nil, List.append_nil]; exact hm)
 have hno : ∀ x ∈ T, x.1 ≠ i := fun x hx e => by
  have := (hT.all x hx).2.1
  rw [e, hβ] at this; cases this
 have hop : xop t1 aw1 (.mapset (.t 120) (.t 121) (.t 122)) = some (.tuple [], aw1.set 0 (.map (adEs len T ++ [⟨adNum i, adLn len (5 + kOf len), c⟩]) (c + 1))) := by
  have a1 : Opd.ev t1 (.t 120) = some (.map (some 0)) := k0
  have a2 : Opd.ev t1 (.t 121) = some (.int .i64 (.ofNat i)) := k1
  have a3 : Opd.ev t1 (.t 122) = some (adLn len (5 + kOf len)) := k2
  have a4 : aw1.get 0 = some (.map (adEs len T) c) := g1 0 _ rfl
  have a5 : xfind .i64 (.ofNat i) (adEs len T) 0 = some none := xfind_no hno
  simp only [xop, a1, a2, a3, xmap, a4, a5]
  rfl
 obtain ⟨awF, hF⟩ : ∃ awF, awF = aw1.set 0 (.map (adEs len T ++ [⟨adNum i, adLn len (5 + kOf len), c⟩]) (c + 1)) := ⟨_, rfl⟩
 rw [← hF] at hop
 have h9 : xcode cMul (999 + 1) (.region (add9L ++ [.op none none (.mapset (.t 120) (.t 121) (.t 122))])) ⟨tmOf (adT10 len i) .leaf, 123, []⟩ (ofObjs (adMem len i T (adEs len T) c [linO len i]) (6 + kOf len)) = some ⟨.norm, ⟨t1, 123, []⟩, awF⟩ := by
  rw [region_eq, xitems_pre (show xitems cMul add9L ⟨tmOf (adT10 len i) .leaf, 123, []⟩ (ofObjs (adMem len i T (adEs len T) c [linO len i]) (6 + kOf len)) = some ⟨.norm, ⟨t1, 123, []⟩, aw1⟩ from e1)]
  simp only [xitems, xguard, hop, AAct.put]
 have er := adRet2_all awF.heap awF.nx awF.ns
 unfold adRet2 at er
 obtain ⟨t2, aw2, e2, er⟩ := bRn_ok er
 simp only [sI, pmi, trGet_eq] at er
 obtain ⟨k6, rfl⟩ := er
 rw [at123_eq] at e2
 have e2' : xcode cMul 1000 (.seq add10 add11) ⟨tmOf [] .leaf, 123, []⟩ awF = some ⟨.ret, ⟨t2, 123, []⟩, awF⟩ := e2
 refine GoodK.seq AddK.le cMul_ok drMul h9 (GoodK.turn (tm := []) (aw' := awF) (fun E w hE hR => ⟨E, hE, hR, fun s v h => (by cases h)⟩) (GoodK.run AddK.le cMul_ok drMul e2' fun E e ca w hE hR hA hX => ?_))
 cases e <;> simp only [XRel] at hX
 obtain ⟨v6, hv6, r6⟩ := hA.tmps 6 _ k6
 refine ⟨rfl, defs_nil hA, v6, hv6, .inr ⟨rfl, S, E, awF, hS, hE, hR, r6, ?_, ?_, ?_⟩⟩
 ·rw [hF]; exact Tr.get_set_same ..
 ·rw [hF]; exact (tgo (by decide)).trans (g1 1 _ rfl)
 ·rw [hF]; exact (tgo (by omega)).trans (g1 _ _ (addM_tail (u := 0) rfl))
theorem ad_none (hl : len ∈ lens) (hi : i < kOf len) :
  GoodK Tryz.prog (cDraw Tryz.prog) (AddK E0 w0 live rest len T []) (.seq add4 (.seq add5 (.seq add6 (.seq add7 (.seq add8 (.seq add9 (.seq add10 add11))))))) (AdQ E0 w0 live rest len i T c true) ⟨tmOf (adT1 len) .leaf, 123, []⟩ (ofObjs (adMem len i T (adEs len T) c [zerO len]) (6 + kOf len)) := by
 have er := List.map_inj_left.1 (adNone_all (ad3 len i) (ad4 len i) (adX len T) (adEs len T) c) len hl
 unfold adNone at er
 obtain ⟨t1, aw1, e1, er⟩ := bNn_ok er
 obtain ⟨t2, aw2, e2, er⟩ := bNn_ok er
 rw [bb2_eq] at er
 cases hb : isTrueV (trGet t2 (nat_lit 68)) <;> simp only [hb, cond_true, cond_false, reduceCtorEq] at er
 have h68 := isTrueV_ok hb
 rw [trGet_eq] at h68
 obtain ⟨t3, aw3, e3, er⟩ := bRn_ok er
 simp only [adSee, sI, pmi] at er
 obtain ⟨ht, hm, hn⟩ := er
 rw [at123_eq] at e1 e2 e3
 simp only [List.map_cons, List.map_nil, List.cons.injEq, and_true, trGet_eq] at ht
 obtain ⟨g1, _⟩ := see_split (ids2 := []) (os2 := []) (m := 5 + kOf len) (l := addM len (ad3 len i) (ad4 len i) (adX len T) (adEs len T) c []) (by rw [addM_len]; simp) (by rw [List.append_nil, List.append_nil]; exact hm)
 refine GoodK.seq AddK.le cMul_ok drMul e1 (GoodK.into ?_)
 show GoodK _ _ _ (.seq add5d (.cond (.t 68) add5t .skip)) _ _ _
 refine GoodK.seq AddK.le cMul_ok drMul e2 (GoodK.cond (u := true) (show Opd.ev t2 (.t 68) = _ from h68) (fun _ => ?_) fun h => (by cases h))
 refine GoodK.run AddK.le cMul_ok drMul e3 fun E e ca w hE hR hA hX => ?_
 cases e <;> simp only [XRel] at hX
 obtain ⟨v6, hv6, r6⟩ := hA.tmps 6 _ ht
 exact ⟨rfl, defs_nil hA, v6, hv6, .inl ⟨rfl, E, aw3, hE, hR, r6, g1⟩⟩
theorem ad_more (hR0 : Rel E0 aw0 w0) (hS0 : SubM E0 aw0 ids live) (hlv : live.length = 2) (hlr : (live ++ rest).length = 5) (hl : len ∈ lens) (hi : i < kOf len) (hT : LinT E0 len (kOf len) n β T c) (hβ : β i = false) :
  GoodK Tryz.prog (cDraw Tryz.prog) (AddK E0 w0 live rest len T []) (.seq add4 (.seq add5 (.seq add6 (.seq add7 (.seq add8 (.seq add9 (.seq add10 add11))))))) (AdQ E0 w0 live rest len i T c false) ⟨tmOf (adT1 len) .leaf, 123, []⟩ (ofObjs (adMem len i T (adEs len T) c [linO len i]) (6 + kOf len)) := by
 have hTk : ∀ x ∈ T, x.1 < kOf len := fun x hx => (hT.all x hx).1
 have er := List.map_inj_left.1 (adMid_all (ad3 len i) (ad4 len i) (adX len T) (adEs len T) c) (len, i) (adLI_mem hl hi)
 unfold adMid at er
 dsimp only at er
 obtain ⟨t1, aw1, e1, er⟩ := bNn_ok er
 obtain ⟨t2, aw2, e2, er⟩ := bNn_ok er
 rw [bb2_eq] at er
 cases hb : isFalseV (trGet t2 (nat_lit 68)) <;> simp only [hb, cond_true, cond_false, reduceCtorEq] at er
 have h68 := isFalseV_ok hb
 rw [trGet_eq] at h68
 obtain ⟨t3, aw3, e3, er⟩ := bNn_ok er
 obtain ⟨t4, aw4, e4, er⟩ := bNn_ok er
 simp only [adSee, sI, pmi] at er
 obtain ⟨ht, hm, hn⟩ := er
 rw [at123_eq] at e1 e2 e3 e4
 simp only [List.map_cons, List.map_nil, List.cons.injEq, and_true, trGet_eq] at ht
 obtain ⟨g1, g2⟩ := see_split (by rw [addM_len]; simp) hm
 simp only [List.map_cons, List.map_nil, List.cons.injEq, and_true, awGet_eq] at g2
 have s5 : xcode cMul 1001 add5 ⟨t1, 123, []⟩ aw1 = some ⟨.norm, ⟨t2, 123, []⟩, aw2⟩ := by
  show xcode cMul (1000 + 1) (.seq add5d (.cond (.t 68) add5t .skip)) _ _ = _
  rw [seq_norm e2, show (1000 : Nat) = 999 + 1 from rfl, cond_b (u := false) (show Opd.ev t2 (.t 68) = _ from h68)]; rfl
 refine GoodK.seq AddK.le cMul_ok drMul e1 (GoodK.seq AddK.le cMul_ok drMul s5 (GoodK.seq AddK.le cMul_ok drMul e3 (GoodK.seq AddK.le cMul_ok drMul e4 (GoodK.turn (ad_turn' (tm := adT10 len i) (tl := [linO len i]) (ss := [8 + kOf len]) (N := 6 + kOf len) hlr hTk (by simp; omega) g1 rfl (one_get g2) (by simp <;> omega) (by simp) (fun m hm => by simp only [List.mem_cons, List.not_mem_nil, or_false] at hm; subst hm; exact .scal lineL_scal) (fun s v hsv => by
   simp only [adT10, List.mem_cons, List.not_mem_nil, or_false, pmi] at hsv
   rcases hsv with ⟨rfl, rfl⟩ | ⟨rfl, rfl⟩ | ⟨rfl, rfl⟩
   ·exact ⟨_, ht.1, .bas⟩
   ·exact ⟨_, ht.2.1, .ln (u := 0) rfl rfl (by omega)⟩
   ·exact ⟨_, ht.2.2, .num _⟩)) ?_))))
 have er := List.map_inj_left.1 (adRan8_all (ad3 len i) (ad4 len i) (adX len T) (adEs len T) c (linO len i) i) len hl
 unfold adRan8 at er
 obtain ⟨t5, aw5, e5, er⟩ := bNn_ok er
 simp only [adSee, sI, pmi] at er
 obtain ⟨ht5, hm5, hn5⟩ := er
 rw [at123_eq] at e5
 simp only [List.map_cons, List.map_nil, List.cons.injEq, and_true, trGet_eq] at ht5
 obtain ⟨m1, _⟩ := see_split (ids2 := []) (os2 := []) (m := 7 + kOf len) (l := adMem len i T (adEs len T) c [linO len i, .iter (some 0) c [] c]) (by rw [adMem_len]; simp; omega) (by rw [List.append_nil, List.append_nil]; exact hm5)
 refine GoodK.into ?_
 show GoodK _ _ _ (.seq add8I (.block 2 (.loop add8B))) _ _ _
 refine GoodK.seq AddK.le cMul_ok drMul e5 (GoodK.block (GoodK.loop (GoodLK.turn (ad_turn' (tm := adT95 len i) (tl := [linO len i, .iter (some 0) c [] c]) (ss := [5 + kOf len, 6 + kOf len]) (N := 7 + kOf len) hlr hTk (by simp; omega) (fun j y hj => m1 j y ((adMem_head (adMem_lt hj)).trans hj)) rfl (two_get (m1 _ _ (adMem_tail (u := 0) rfl)) (m1 _ _ (adMem_tail (len := len) (q := 6 + kOf len) (u := 1) (by omega)))) (by simp <;> omega) (by simp) (fun m hm => by
   simp only [List.mem_cons, List.not_mem_nil, or_false] at hm
   rcases hm with rfl | rfl
   ·exact .scal lineL_scal
   ·exact .iter) (fun s v hsv => by
   simp only [adT95, List.mem_cons, List.not_mem_nil, or_false, pmi] at hsv
   rcases hsv with ⟨rfl, rfl⟩ | ⟨rfl, rfl⟩ | ⟨rfl, rfl⟩ | ⟨rfl, rfl⟩
   ·exact ⟨_, ht5.1, .bas⟩
   ·exact ⟨_, ht5.2.1, .ln (u := 0) rfl rfl (by omega)⟩
   ·exact ⟨_, ht5.2.2.1, .num _⟩
   ·exact ⟨_, ht5.2.2.2, .it (u := 1) rfl rfl (by omega)⟩))
  (ad_loop2 hR0 hS0 hlv hlr hl hi hT hβ (fun S hS E ca w hE hA hR c' hc' => ad_end hl hi hT hβ hS c' hc' E ca w hE hA hR) T.length [] [] (fun x _ h => (by cases h)) (List.length_filter_le ..)))))
theorem ad_all (hR0 : Rel E0 aw0 w0) (hS0 : SubM E0 aw0 ids live) (hlv : live.length = 2) (hlr : (live ++ rest).length = 5) (hl : len ∈ lens) (hi : i < kOf len) (hT : LinT E0 len (kOf len) n β T c) :
  GoodK Tryz.prog (cDraw Tryz.prog) (AddK E0 w0 live rest len T []) addAll (AdQ E0 w0 live rest len i T c (β i)) ⟨tmOf (adT0 len) .leaf, 123, []⟩ (ofObjs (adMem len i T (adEs len T) c []) (5 + kOf len)) := by
 have hTk : ∀ x ∈ T, x.1 < kOf len := fun x hx => (hT.all x hx).1
 have er := List.map_inj_left.1 (adGo_all (adX len T) (adEs len T) c) (len, i) (adLI_mem hl hi)
 unfold adGo at er
 dsimp only at er
 obtain ⟨t0, aw1, e0, er⟩ := bNn_ok er
 obtain ⟨t1, aw2, e1, er⟩ := bNn_ok er
 rw [bb2_eq] at er
 cases hb : isFalseV (trGet t1 (nat_lit 34)) <;> simp only [hb, cond_true, cond_false, reduceCtorEq] at er
 have h34 := isFalseV_ok hb
 rw [trGet_eq] at h34
 obtain ⟨t2, aw3, e2, er⟩ := bNn_ok er
 simp only [adSee, sI, pmi] at er
 obtain ⟨ht, hm, hn⟩ := er
 rw [at123_eq] at e0 e1 e2
 simp only [List.map_cons, List.map_nil, List.cons.injEq, and_true, trGet_eq] at ht
 obtain ⟨g1, g2⟩ := see_split (by rw [addM_len]; simp) hm
 simp only [List.map_cons, List.map_nil, List.cons.injEq, and_true, awGet_eq] at g2
 have s1 : xcode cMul 1001 add1 ⟨t0, 123, []⟩ aw1 = some ⟨.norm, ⟨t1, 123, []⟩, aw2⟩ := by
  show xcode cMul (1000 + 1) (.seq add1d (.cond (.t 34) add1t .skip)) _ _ = _
  rw [seq_norm e1, show (1000 : Nat) = 999 + 1 from rfl, cond_b (u := false) (show Opd.ev t1 (.t 34) = _ from h34)]; rfl
 refine GoodK.seq AddK.le cMul_ok drMul e0 (GoodK.seq AddK.le cMul_ok drMul s1 (GoodK.seq AddK.le cMul_ok drMul e2 (GoodK.turn (ad_turn' (tm := adT1 len) (tl := [linO len i]) (ss := [6 + kOf len]) (N := 6 + kOf len) hlr hTk (by simp; omega) g1 rfl (one_get g2) (by simp <;> omega) (by simp) (fun m hm => by simp only [List.mem_cons, List.not_mem_nil, or_false] at hm; subst hm; exact .scal lineL_scal) (fun s v hsv => by
   simp only [adT1, List.mem_cons, List.not_mem_nil, or_false, pmi] at hsv
   rcases hsv with ⟨rfl, rfl⟩ | ⟨rfl, rfl⟩
   ·exact ⟨_, ht.1, .bas⟩
   ·exact ⟨_, ht.2, .ln (u := 0) rfl rfl (by omega)⟩)) ?_)))
 have er := List.map_inj_left.1 (adRan_all (ad3 len i) (ad4 len i) (adX len T) (adEs len T) c (linO len i)) len hl
 unfold adRan at er
 obtain ⟨t5, aw5, e5, er⟩ := bNn_ok er
 simp only [adSee, sI, pmi] at er
 obtain ⟨ht5, hm5, hn5⟩ := er
 rw [at123_eq] at e5
 simp only [List.map_cons, List.map_nil, List.cons.injEq, and_true, trGet_eq] at ht5
 obtain ⟨m1, _⟩ := see_split (ids2 := []) (os2 := []) (m := 7 + kOf len) (l := adMem len i T (adEs len T) c [linO len i, .iter (some 0) c [] c]) (by rw [adMem_len]; simp; omega) (by rw [List.append_nil, List.append_nil]; exact hm5)
 have hv0 : adVis i [] T = 0 := by
  unfold adVis
  rw [if_neg fun ⟨y, _, _, h⟩ => by cases h]
 have hlp := ad_loop1 (Q0 := thenC Tryz.prog (cDraw Tryz.prog) (.seq add4 (.seq add5 (.seq add6 (.seq add7 (.seq add8 (.seq add9 (.seq add10 add11))))))) (AdQ E0 w0 live rest len i T c (β i))) hlr hl hi hT (fun E ca w hE hA hR c' hc' => by
  cases hβ : β i with
  | true =>
   rw [hβ] at hR
   exact ad_none hl hi c' hc' E ca w hE hA hR
  | false =>
   rw [hβ] at hR
   exact ad_more hR0 hS0 hlv hlr hl hi hT hβ c' hc' E ca w hE hA hR) T.length [] (List.length_filter_le ..)
 rw [hv0] at hlp
 refine GoodK.into ?_
 show GoodK _ _ _ (.seq add3I (.block 0 (.loop add3B))) _ _ _
 exact GoodK.seq AddK.le cMul_ok drMul e5 (GoodK.block (GoodK.loop (GoodLK.turn (ad_turn' (tm := adT3 len) (tl := [linO len i, .iter (some 0) c [] c]) (ss := [5 + kOf len, 6 + kOf len]) (N := 7 + kOf len) hlr hTk (by simp; omega) (fun j y hj => m1 j y ((adMem_head (adMem_lt hj)).trans hj)) rfl (two_get (m1 _ _ (adMem_tail (u := 0) rfl)) (m1 _ _ (adMem_tail (len := len) (q := 6 + kOf len) (u := 1) (by omega)))) (by simp <;> omega) (by simp) (fun m hm => by
   simp only [List.mem_cons, List.not_mem_nil, or_false] at hm
   rcases hm with rfl | rfl
   ·exact .scal lineL_scal
   ·exact .iter) (fun s v hsv => by
   simp only [adT3, List.mem_cons, List.not_mem_nil, or_false, pmi] at hsv
   rcases hsv with ⟨rfl, rfl⟩ | ⟨rfl, rfl⟩ | ⟨rfl, rfl⟩
   ·exact ⟨_, ht5.1, .bas⟩
   ·exact ⟨_, ht5.2.1, .ln (u := 0) rfl rfl (by omega)⟩
   ·exact ⟨_, ht5.2.2, .it (u := 1) rfl rfl (by omega)⟩)) hlp)))
end
def growE (E : Env) (w : World) (E1 : Env) : Env := { E with tk := fun b => match E.tk b with | some t => some t | none => if b < w.heap.size then none else E1.tk b }
section
variable {E E1 : Env} {aw aw1 : AW} {w w' : World} {ids : List Nat} {live rest : List Loc}
theorem growE_le : E.Le (growE E w E1) := ⟨⟨[], by simp [growE]⟩, rfl, rfl, fun b t h => by simp only [growE, h]⟩
theorem growE_old {b : Nat} (h1 : E.tk b = none) (h2 : b < w.heap.size) : (growE E w E1).tk b = none := by simp only [growE, h1, if_pos h2]
theorem growE_new {b : Nat} (hR : Rel E aw w) (h2 : w.heap[b]? = none) : (growE E w E1).tk b = E1.tk b := by
 have h3 : ¬ b < w.heap.size := fun h => by rw [age h] at h2; cases h2
 cases ht : E.tk b with
 | some t => exact (h3 (hR.tok.1 b t ht).1.lt).elim
 | none => simp only [growE, ht, if_neg h3]
theorem mix_grow (hR : Rel E aw w) (hS : SubM E aw ids live) (hle : MixK E w live rest E1) (h : Rel E1 aw1 w') {aw' : AW} (hnx : aw'.nx = aw.nx)
  (hget : ∀ (j : Nat) (x : AO), aw'.get j = some x → (∃ (i : Nat) (L : Loc), ids[i]? = some j ∧ live[i]? = some L ∧ ORel (growE E w E1) L w' x) ∨ (j ∉ ids ∧ aw.get j = some x)) : Rel (growE E w E1) aw' w' := by
 have old : ∀ {j x}, aw'.get j = some x → x.live = true → ∃ o, aw.get j = some o ∧ o.live = true := fun {j x} hj hx => by
  rcases hget j x hj with ⟨i, L, h1, h2, _⟩ | ⟨_, h2⟩
  ·obtain ⟨o, _, g1, g2, _⟩ := hS.here i j h1
   exact ⟨o, g1, g2⟩
  ·exact ⟨x, h2, hx⟩
 have lt : ∀ {j o L}, aw.get j = some o → o.live = true → E.loc[j]? = some L → L.block < w.heap.size := fun {j o L} hj hx hL => by
  obtain ⟨L', hL', hr⟩ := hR.obj j o hj
  rw [hL] at hL'; injection hL' with hL'; subst hL'
  exact hr.lt hx
 refine ⟨hnx.trans hR.nx, hle.sym ▸ h.ns, fun j x hj => ?_, fun i j oi oj Li Lj hi hj li lj ei ej e => ?_, fun b ob hb => ?_, fun i oi Li hi li ei => ?_, ⟨fun b x hb => ?_, fun i oi Li hi li ei => ?_⟩⟩
 ·rcases hget j x hj with ⟨i, L, h1, h2, h3⟩ | ⟨hn, h2⟩
  ·obtain ⟨o, L', _, _, g3, g4⟩ := hS.here i j h1
   rw [h2] at g4; injection g4 with g4; subst g4
   exact ⟨L, g3, h3⟩
  ·obtain ⟨L, hL, hr⟩ := hR.obj j x h2
   refine ⟨L, hL, ?_⟩
   cases hx : x.live with
   | false => cases x <;> first | trivial | exact ORel.mono growE_le hr | simp [AO.live] at hx
   | true => exact ORel.mono growE_le (hr.heap (mix_keep hR hle h (hS.apart hR h2 hx hL hn) (hR.tok.2 j x L h2 hx hL) (hr.lt hx)))
 ·obtain ⟨o, g1, g2⟩ := old hi li
  obtain ⟨o', g1', g2'⟩ := old hj lj
  exact hR.inj i j o o' Li Lj g1 g1' g2 g2' ei ej e
 ·have hb' := hR.frame b ob hb
  have htk : E.tk b = none := by
   cases ht : E.tk b with
   | none => rfl
   | some t =>
    have hb : E.fr b = some ob := hb
    rw [(hR.tok.1 b t ht).2] at hb; cases hb
  rw [mix_keep hR hle h (fun L hL e => ?_) htk (agz.1 hb').1]
  ·exact hb'
  ·obtain ⟨i, hi, rfl⟩ := List.mem_iff_getElem.1 hL
   obtain ⟨id, o, h1, h2, h3, h4⟩ := hS.of_loc (i := i) (lge hi)
   have := hR.apart id o _ h2 h3 h4
   have hb : E.fr b = some ob := hb
   rw [e, hb] at this; cases this
 ·obtain ⟨o, g1, g2⟩ := old hi li
  exact hR.apart i o Li g1 g2 ei
 ·simp only [growE] at hb
  cases ht : E.tk b with
  | some t =>
   rw [ht] at hb; simp only [sI] at hb; subst hb
   exact ⟨(h.tok.1 b t (hle.tk b t (by simp only [mixE, ht]))).1, (hR.tok.1 b t ht).2⟩
  | none =>
   rw [ht] at hb
   simp only at hb
   split at hb
   ·cases hb
   ·rename_i hlt
    refine ⟨(h.tok.1 b x hb).1, ?_⟩
    show E.fr b = none
    cases hf : E.fr b with
    | none => rfl
    | some ob => exact (hlt (agz.1 (hR.frame b ob hf)).1).elim
 ·obtain ⟨o, g1, g2⟩ := old hi li
  have ei : E.loc[i]? = some Li := ei
  exact growE_old (hR.tok.2 i o Li g1 g2 ei) (lt g1 g2 ei)
end
def sameB1 (a b : AV) : Bool := match a, b with
 | .int .u8 (.ofNat n), .int .u8 (.ofNat m) => Nat.beq n m
 | .sym .u8 n, .sym .u8 m => Nat.beq n m
 | _, _ => false
theorem sameB1_eq {a b : AV} (h : sameB1 a b = true) : a = b := by
 unfold sameB1 at h
 split at h
 ·rw [nbt h]
 ·rw [nbt h]
 ·cases h
def sameBs (l : List AV) : List AV → Bool := List.rec (motive := fun _ => List AV → Bool) (fun m => List.rec (motive := fun _ => Bool) true (fun _ _ _ => false) m) (fun a _ ih m => List.rec (motive := fun _ => Bool) false (fun b m _ => bb2 (sameB1 a b) (ih m) false) m) l
theorem sameBs_eq : ∀ {l m : List AV}, sameBs l m = true → l = m
 | [], [], _ => rfl
 | [], _ :: _, h => by cases h
 | _ :: _, [], h => by cases h
 | a :: l, b :: m, h => by
  have h : bb2 (sameB1 a b) (sameBs l m) false = true := h
  rw [bb2_eq] at h
  cases hk : sameB1 a b <;> simp only [hk, cond_true, cond_false, Bool.false_eq_true] at h
  rw [sameB1_eq hk, sameBs_eq h]
def rowIx (l : List AV) : Nat := List.rec (motive := fun _ => Nat) (nat_lit 0) (fun a _ ih => bb2 (sameB1 a (.int .u8 (.ofNat 1))) (nat_lit 0) (Nat.succ ih)) l
def addR (len k n i m : Nat) (β : Nat → Bool) (aw : AW) : Option ARes := bb2 (β i) (some (.ret (.bool false) aw)) (some (.ret (.bool true) (awSet aw m (.gen (.lin len k (Nat.succ n) fun j => bb2 (Nat.beq j i) true (β j))))))
section
variable {E : Env} {aw : AW} {w : World} {len i n q r d f m : Nat} {β : Nat → Bool}
theorem add_calls (hR : Rel E aw w) (hl : len ∈ lens) (hi : i < kOf len) {b b1 b2 : Bool} {om : AO} (gq : aw.get q = some (.cells [.ptr (some (f, 0)), .int .i64 (.ofNat (kOf len)), .int .i64 (.ofNat 2), .map (some m)] 418 b))
  (gr : aw.get r = some (.cells (rowL (kOf len) i) 5 b1)) (gd : aw.get d = some (.cells (datL len i) 5 b2)) (gf : aw.get f = some (.cells fieldCells 177 false)) (gm : aw.get m = some om) (lm : om.live = true)
  (nmf : m ≠ f) (nqm : q ≠ m) (nqf : q ≠ f) (nrm : r ≠ m) (nrf : r ≠ f) (ndm : d ≠ m) (ndf : d ≠ f)
  (hom : ∀ Lm, ORel E Lm w om → ∃ T c, LinT E len (kOf len) n β T c ∧ ∀ E' : Env, (∀ x ∈ T, E'.loc[5 + x.1]? = some x.2.2) → ORel E' Lm w (.map (adEs len T) c))
  (hback : β i = true → ∀ Lm w' E1 T c, LinT E len (kOf len) n β T c → (∀ x ∈ T, E1.loc[5 + x.1]? = some x.2.2) → ORel E1 Lm w' (.map (adEs len T) c) → ORel E Lm w' om)
  {cargs : List Value} (hr : LRel E [.ptr (some (q, 0)), .slc (some (r, 0)) (kOf len) (.known (kOf len)), .slc (some (d, 0)) 2 (.upto 1 2)] cargs) {res : ARes} (hres : addR len (kOf len) n i m β aw = some res) :
  Calls Tryz.prog 262 cargs.toArray w fun e w' => ∃ E', E.Le E' ∧ ResRel E' res e w' := by
 obtain ⟨Lm, hLm, om'⟩ := hR.obj m _ gm
 obtain ⟨Lf, hLf, of'⟩ := hR.obj f _ gf
 obtain ⟨Lq, hLq, oq'⟩ := hR.obj q _ gq
 obtain ⟨Lr, hLr, or'⟩ := hR.obj r _ gr
 obtain ⟨Ld, hLd, od'⟩ := hR.obj d _ gd
 have hS : SubM E aw [m, f] [Lm, Lf] := by
  refine ⟨rfl, by simp [nmf], fun j id hj => ?_⟩
  match j, hj with
  | 0, hj => injection hj with hj; subst hj; exact ⟨_, Lm, gm, lm, hLm, rfl⟩
  | 1, hj => injection hj with hj; subst hj; exact ⟨_, Lf, gf, rfl, hLf, rfl⟩
  | j + 2, hj => cases hj
 obtain ⟨T, c, hT, hmap⟩ := hom Lm om'
 have hTk : ∀ x ∈ T, x.1 < kOf len := fun x hx => (hT.all x hx).1
 obtain ⟨LL, hLL⟩ := hT.locs Lq
 have apq : ∀ L' ∈ [Lm, Lf], L'.block ≠ Lq.block := hS.apart hR gq rfl hLq (by simp [nqm, nqf])
 have apr : ∀ L' ∈ [Lm, Lf], L'.block ≠ Lr.block := hS.apart hR gr rfl hLr (by simp [nrm, nrf])
 have apd : ∀ L' ∈ [Lm, Lf], L'.block ≠ Ld.block := hS.apart hR gd rfl hLd (by simp [ndm, ndf])
 obtain ⟨rest, hrest⟩ : ∃ rest, rest = [Lq, Lr, Ld] ++ (List.range (kOf len)).map LL := ⟨_, rfl⟩
 obtain ⟨EM, hEM⟩ : ∃ EM, EM = mixE E w [Lm, Lf] rest := ⟨_, rfl⟩
 have eloc : EM.loc = [Lm, Lf] ++ rest := by rw [hEM]; rfl
 have esym : EM.sym = E.sym := by rw [hEM]; rfl
 have etk : ∀ b o, E.tk b = some o → EM.tk b = some o := fun b o hb => by rw [hEM]; simp only [mixE, hb]
 have l0 : EM.loc[0]? = some Lm := by rw [eloc]; rfl
 have l1 : EM.loc[1]? = some Lf := by rw [eloc]; rfl
 have l2 : EM.loc[2]? = some Lq := by rw [eloc, hrest]; rfl
 have l3 : EM.loc[3]? = some Lr := by rw [eloc, hrest]; rfl
 have l4 : EM.loc[4]? = some Ld := by rw [eloc, hrest]; rfl
 have lT : ∀ x ∈ T, EM.loc[5 + x.1]? = some x.2.2 := fun x hx => by
  have hk := hTk x hx
  rw [eloc, hrest, show 5 + x.1 = x.1 + 5 by omega]
  simp [hk, hLL x hx]
 have K0 : AddK E w [Lm, Lf] [Lq, Lr, Ld] len T [] EM := by
  refine ⟨⟨esym, fun b o hb => by rw [hEM]; exact hb, fun j L hj => ?_⟩, fun j hj => (by cases hj), fun x hx _ => lT x hx⟩
  match j, hj with
  | 0, hj => injection hj with hj; subst hj; exact l0
  | 1, hj => injection hj with hj; subst hj; exact l1
  | 2, hj => injection hj with hj; subst hj; exact l2
  | 3, hj => injection hj with hj; subst hj; exact l3
  | 4, hj => injection hj with hj; subst hj; exact l4
  | j + 5, hj => cases hj
 have hlen : (adMem len i T (adEs len T) c []).length = 5 + kOf len := by rw [adMem_len]; rfl
 have hR0 : Rel EM (ofObjs (adMem len i T (adEs len T) c []) (5 + kOf len)) w := by
  have := mix_rel hR hS (os := [.map (adEs len T) c, .cells fieldCells 177 false]) (rest := rest) (os2 := [adBasO len, ad3 len i, ad4 len i] ++ ((List.range (kOf len)).map (adX len T) ++ [])) rfl (by rw [hrest]; simp) (fun j x hj => ?_) (fun j x hj => ?_)
  ·rw [← hEM] at this
   have hm : ([.map (adEs len T) c, .cells fieldCells 177 false] ++ ([adBasO len, ad3 len i, ad4 len i] ++ ((List.range (kOf len)).map (adX len T) ++ [])) : List AO) = adMem len i T (adEs len T) c [] := rfl
   rw [hm, hlen] at this
   exact this
  ·match j, hj with
   | 0, hj => injection hj with hj; subst hj; rfl
   | 1, hj => injection hj with hj; subst hj; rfl
   | 2, hj => injection hj with hj; subst hj; rfl
   | j + 3, hj =>
    have hj : ((List.range (kOf len)).map (adX len T) ++ [])[j]? = some x := hj
    rw [List.append_nil, List.getElem?_map, Option.map_eq_some_iff] at hj
    obtain ⟨y, _, rfl⟩ := hj
    unfold adX
    cases T.any (fun x => Nat.beq x.1 y) <;> rfl
  ·rw [← hEM]
   match j, hj with
   | 0, hj => injection hj with hj; subst hj; exact ⟨Lm, rfl, hmap EM lT⟩
   | 1, hj => injection hj with hj; subst hj; exact ⟨Lf, rfl, of'.cells_scal esym fieldCells_scal⟩
   | 2, hj =>
    injection hj with hj; subst hj
    refine ⟨Lq, by rw [hrest]; rfl, ?_⟩
    rw [hEM]
    refine mix_rom hR gq hLq apq (by simp) fun u a' ha' a v ha hv => ?_
    rw [← hEM]
    match u, ha', ha with
    | 0, ha', ha => injection ha' with ha'; injection ha with ha; subst ha' ha; exact ptr_conv hLf l1 hv
    | 1, ha', ha => injection ha' with ha'; injection ha with ha; subst ha' ha; cases hv; exact .int _ _
    | 2, ha', ha => injection ha' with ha'; injection ha with ha; subst ha' ha; cases hv; exact .int _ _
    | 3, ha', ha => injection ha' with ha'; injection ha with ha; subst ha' ha; exact map_conv hLm l0 hv
    | u + 4, ha', _ => cases ha'
   | 3, hj =>
    injection hj with hj; subst hj
    refine ⟨Lr, by rw [hrest]; rfl, ?_⟩
    rw [hEM]
    refine mix_rom hR gr hLr apr (Nat.le_refl _) fun u a' ha' a v ha hv => ?_
    rw [ha'] at ha; injection ha with ha; subst ha
    exact VRel.scal (E := E) (E' := mixE E w [Lm, Lf] rest) rfl (rowL_scal _ (List.mem_of_getElem? ha')) hv
   | 4, hj =>
    injection hj with hj; subst hj
    refine ⟨Ld, by rw [hrest]; rfl, ?_⟩
    rw [hEM]
    refine mix_rom hR gd hLd apd (Nat.le_refl _) fun u a' ha' a v ha hv => ?_
    rw [ha'] at ha; injection ha with ha; subst ha
    exact VRel.scal (E := E) (E' := mixE E w [Lm, Lf] rest) rfl (datL_scal _ (List.mem_of_getElem? ha')) hv
   | j + 5, hj =>
    have hj : ((List.range (kOf len)).map (adX len T) ++ [])[j]? = some x := hj
    rw [List.append_nil, List.getElem?_map, Option.map_eq_some_iff] at hj
    obtain ⟨y, hy, rfl⟩ := hj
    have hyk : y < kOf len := List.mem_range.1 (List.mem_of_getElem? hy)
    have hjy : j = y := by
     have := (lgs.1 hy).2
     simpa using this
    subst hjy
    refine ⟨LL j, by rw [hrest]; simp [hyk], ?_⟩
    unfold adX
    cases hb : T.any (fun x => Nat.beq x.1 j) with
    | false => trivial
    | true =>
     obtain ⟨x, hx, e⟩ := List.any_eq_true.1 hb
     have := nbt e
     subst this
     rw [hLL x hx]
     exact (LineLoc.mono (E := E) (E' := EM) esym etk (hT.all x hx).2.2).rom
 cases hr with
 | cons r1 t1 => cases t1 with
  | cons r2 t2 => cases t2 with
   | cons r3 t3 =>
    cases t3
    rename_i v0 v1 v2
    have r1' : VRel EM adBas v0 := ptr_conv hLq l2 r1
    have r2' : VRel EM (.slc (some (3, 0)) (kOf len) (.known (kOf len))) v1 := slc_conv hLr l3 r2
    have r3' : VRel EM (.slc (some (4, 0)) 2 (.upto 1 2)) v2 := slc_conv hLd l4 r3
    obtain ⟨cd, hbody, hc⟩ := add_code
    refine calls_of_wp Tryz.func262 hbody ?_
    have hinit := init_rel (E := EM) (args := [adBas, .slc (some (3, 0)) (kOf len) (.known (kOf len)), .slc (some (4, 0)) 2 (.upto 1 2)]) (cargs := [v0, v1, v2]) (n := 123) (.cons r1' (.cons r2' (.cons r3' .nil))) (show 3 ≤ 123 by omega)
    have hA : ActRel EM ⟨tmOf (adT0 len) .leaf, 123, []⟩ { tmps := #[v0, v1, v2] ++ Array.replicate (Tryz.f262.ntmps - (#[v0, v1, v2] : Array Value).size) undef, defers := [] } := by
     refine ⟨?_, fun t v hv => ?_, .nil⟩
     ·rw [Tryz.ntmps262]; simp
     ·have e : tmOf (adT0 len) .leaf = slots [adBas, .slc (some (3, 0)) (kOf len) (.known (kOf len)), .slc (some (4, 0)) 2 (.upto 1 2)] 0 .leaf := by kernel_rfl
      rw [e] at hv
      rw [Tryz.ntmps262]
      exact hinit.tmps t v hv
    have hgood := ad_all (E0 := E) (w0 := w) (aw0 := aw) (ids := [m, f]) (live := [Lm, Lf]) (rest := [Lq, Lr, Ld]) hR hS rfl rfl hl hi hT
    refine wp_mono (hgood cd hc _ _ w K0 hA hR0) fun en a w' ⟨q1, q2, v6, q3, hcase⟩ => ?_
    subst q1
    refine ⟨q2, v6, ?_, ?_⟩
    ·have i6 : a.tmps.getD 6 undef = v6 := by simp [Array.getD_eq_getD_getElem?, q3]
     rw [← i6]
     exact results_tmp (t := 6) rfl _ _ _
    ·unfold addR at hres
     rw [bb2_eq] at hres
     rcases hcase with ⟨hβ, E1, aw1, hK, hR1, rv, m1⟩ | ⟨hβ, S, E1, aw1, hSk, hK, hR1, rv, g0, g1, g5⟩
     ·rw [hβ, cond_true, sI] at hres
      subst hres
      refine ⟨E, .refl E, mix_back hR hS hK.mix hR1 rfl fun j x hj => ?_, ?_⟩
      ·by_cases jm : j = m
       ·subst jm
        rw [gm] at hj; injection hj with hj; subst hj
        obtain ⟨L, hL, ho⟩ := hR1.obj 0 _ (m1 0 _ rfl)
        rw [hK.mix.loc 0 Lm rfl] at hL; injection hL with hL; subst hL
        exact .inl ⟨0, Lm, rfl, rfl, hback hβ Lm w' E1 T c hT (fun x hx => hK.old x hx (by simp)) ho⟩
       ·by_cases jf : j = f
        ·subst jf
         rw [gf] at hj; injection hj with hj; subst hj
         obtain ⟨L, hL, ho⟩ := hR1.obj 1 _ (m1 1 _ rfl)
         rw [hK.mix.loc 1 Lf rfl] at hL; injection hL with hL; subst hL
         exact .inl ⟨1, Lf, rfl, rfl, ho.cells_scal hK.mix.sym.symm fieldCells_scal⟩
        ·exact .inr ⟨by simp [jm, jf], hj⟩
      ·cases rv; exact .bool _
     ·rw [hβ, cond_false, sI, awSet_eq] at hres
      subst hres
      obtain ⟨L5, hL5, o5⟩ := hR1.obj _ _ g5
      have hlive : ∀ j, j < [Lm, Lf].length → ∃ o, aw1.get j = some o ∧ o.live = true := fun j hj => by
       match j, hj with
       | 0, _ => exact ⟨_, g0, rfl⟩
       | 1, _ => exact ⟨_, g1, rfl⟩
      have hnew := mix_new hR hS hK.mix hR1 hlive g5 rfl (by show 2 ≤ _; omega) hL5
      have htk := hR1.tok.2 _ _ L5 g5 rfl hL5
      have hfr := hR1.apart _ _ L5 g5 rfl hL5
      obtain ⟨c8, fz, ⟨hb, hfz⟩, h2, h4, _, h5⟩ := o5
      have hR3 : Rel E1 (aw1.set (5 + kOf len) .dead) w' := hR1.lessD rfl fun j y hj => by
       rcases AW.get_set hj with ⟨rfl, rfl⟩ | ⟨_, hj⟩
       ·refine .inl ⟨rfl, ?_⟩
        rw [hR1.nx]; exact (lgs.1 hL5).1
       ·exact .inr hj
      obtain ⟨hle2, hR4⟩ := hR3.tokAdd (b := L5.block) (t := .ob (.cells c8 5 fz)) hb hfr htk fun j y Lj hj hy hLj e => by
       rcases AW.get_set hj with ⟨rfl, rfl⟩ | ⟨hne, hj⟩
       ·cases hy
       ·exact hne (hR1.inj j _ y _ Lj L5 hj g5 hy rfl hLj hL5 e)
      obtain ⟨E2, hE2⟩ : ∃ E2, E2 = { E1 with tk := fun y => if y = L5.block then some (.ob (.cells c8 5 fz)) else E1.tk y } := ⟨_, rfl⟩
      rw [← hE2] at hle2 hR4
      have hK2 := hK.le _ _ hle2
      have e2loc : E2.loc = E1.loc := by rw [hE2]
      have e2sym : E2.sym = E.sym := hle2.2.1.trans hK.mix.sym
      have e2tk : E2.tk L5.block = some (.ob (.cells c8 5 fz)) := by rw [hE2]; exact if_pos rfl
      obtain ⟨T', hT'⟩ : ∃ T' : List (Nat × Nat × Loc), T' = (T.map fun x => (x.1, x.2.1, (E2.loc[5 + x.1]?).getD Lq)) ++ [(i, c, L5)] := ⟨_, rfl⟩
      have hlin : LinT (growE E w E2) len (kOf len) (Nat.succ n) (fun j => bb2 (Nat.beq j i) true (β j)) T' (c + 1) := by
       refine ⟨by rw [hT']; simp [hT.num], fun x hx => ?_, fun j hj hbj => ?_, fun x hx => ?_, ?_, ?_⟩
       ·rw [hT', List.mem_append] at hx
        rcases hx with hx | hx
        ·obtain ⟨y, hy, rfl⟩ := List.mem_map.1 hx
         obtain ⟨y1, y2, y3⟩ := hT.all y hy
         obtain ⟨_, L, z1, z2, z3⟩ := hK2.new y.1 (hSk y hy)
         refine ⟨y1, ?_, ?_⟩
         ·show bb2 (Nat.beq y.1 i) true (β y.1) = true
          rw [bb2_eq, y2]; cases Nat.beq y.1 i <;> rfl
         ·show LineLoc _ len _ y.1 ((E2.loc[5 + y.1]?).getD Lq)
          rw [z1]
          obtain ⟨cc, ff, k1, k2, k3, k4⟩ := z2
          exact ⟨cc, ff, (growE_new hR z3).trans k1, k2, k3, fun u a ha => let ⟨v, hv, hr⟩ := k4 u a ha; ⟨v, hv, hr.line (E' := growE E w E2) e2sym.symm ha⟩⟩
        ·simp only [List.mem_cons, List.not_mem_nil, or_false] at hx
         subst hx
         refine ⟨hi, ?_, c8, fz, (growE_new hR hnew.1).trans e2tk, h2, ?_, fun u a ha => ?_⟩
         ·show bb2 (Nat.beq i i) true (β i) = true
          rw [bb2_eq]; simp
         ·show L5.base + (kOf len + 2) ≤ L5.total
          have h4 : L5.base + (lineL len (kOf len) i).length ≤ c8.size := h4
          rw [lineL_len] at h4; omega
         ·obtain ⟨v, hv, hr⟩ := h5 u a ha
          exact ⟨v, hv, hr.line (E' := growE E w E2) hK.mix.sym.symm ha⟩
       ·have hbj : bb2 (Nat.beq j i) true (β j) = true := hbj
        rw [bb2_eq] at hbj
        cases hji : Nat.beq j i with
        | true =>
         have := nbt hji
         subst this
         exact ⟨(j, c, L5), by rw [hT']; simp, rfl⟩
        | false =>
         rw [hji, cond_false] at hbj
         obtain ⟨x, hx, e⟩ := hT.has j hj hbj
         exact ⟨(x.1, x.2.1, (E2.loc[5 + x.1]?).getD Lq), by rw [hT']; exact List.mem_append_left _ (List.mem_map.2 ⟨x, hx, rfl⟩), e⟩
       ·rw [hT', List.mem_append] at hx
        rcases hx with hx | hx
        ·obtain ⟨y, hy, rfl⟩ := List.mem_map.1 hx
         have := hT.old y hy
         show y.2.1 < c + 1
         omega
        ·simp only [List.mem_cons, List.not_mem_nil, or_false] at hx
         subst hx
         show c < c + 1
         omega
       ·rw [hT', List.map_append, List.map_map]
        show (T.map (fun x => x.2.1) ++ [c]).Nodup
        rw [List.nodup_append]
        refine ⟨hT.borns, by simp, fun a ha b' hb' => ?_⟩
        simp only [List.mem_cons, List.not_mem_nil, or_false] at hb'
        obtain ⟨y, hy, rfl⟩ := List.mem_map.1 ha
        have := hT.old y hy
        omega
       ·rw [hT', List.map_append, List.map_map]
        show (T.map (fun x => x.1) ++ [i]).Nodup
        rw [List.nodup_append]
        refine ⟨hT.keys, by simp, fun a ha b' hb' => ?_⟩
        simp only [List.mem_cons, List.not_mem_nil, or_false] at hb'
        obtain ⟨y, hy, rfl⟩ := List.mem_map.1 ha
        intro e
        have := (hT.all y hy).2.1
        rw [e, hb', hβ] at this; cases this
      have hno : ∀ x ∈ T, x.1 ≠ i := fun x hx e => by
       have := (hT.all x hx).2.1
       rw [e, hβ] at this; cases this
      obtain ⟨idf, hidf⟩ : ∃ idf : Nat → Nat, idf = fun j => if j = i then 5 + kOf len else 5 + j := ⟨_, rfl⟩
      have i1 : ∀ x ∈ T, idf x.1 = 5 + x.1 := fun x hx => by rw [hidf]; exact if_neg (hno x hx)
      have i2 : idf i = 5 + kOf len := by rw [hidf]; exact if_pos rfl
      have hes : adEs len T ++ [⟨adNum i, adLn len (5 + kOf len), c⟩] = linEs (kOf len) idf T' := by
       rw [hT']
       unfold linEs
       rw [List.map_append, List.map_map]
       congr 1
       ·unfold adEs linEs
        refine List.map_congr_left fun x hx => ?_
        show _ = (⟨.int .i64 (.ofNat x.1), .slc (some (idf x.1, 0)) _ _, _⟩ : AEnt)
        rw [i1 x hx]
       ·show _ = [(⟨.int .i64 (.ofNat i), .slc (some (idf i, 0)) _ _, _⟩ : AEnt)]
        rw [i2]; rfl
      have hloc : ∀ x ∈ T', E2.loc[idf x.1]? = some x.2.2 := fun x hx => by
       rw [hT', List.mem_append] at hx
       rcases hx with hx | hx
       ·obtain ⟨y, hy, rfl⟩ := List.mem_map.1 hx
        obtain ⟨_, L, z1, _⟩ := hK2.new y.1 (hSk y hy)
        show E2.loc[idf y.1]? = some ((E2.loc[5 + y.1]?).getD Lq)
        rw [i1 y hy, z1]; rfl
       ·simp only [List.mem_cons, List.not_mem_nil, or_false] at hx
        subst hx
        show E2.loc[idf i]? = some L5
        rw [i2, e2loc]; exact hL5
      have g4 : ∀ u, u ≠ 5 + kOf len → (aw1.set (5 + kOf len) .dead).get u = aw1.get u := fun u hu => tgo hu
      obtain ⟨L0, hL0, o0⟩ := hR4.obj 0 _ ((g4 0 (by omega)).trans g0)
      rw [hK2.mix.loc 0 Lm rfl] at hL0; injection hL0 with hL0; subst hL0
      obtain ⟨L1, hL1, o1⟩ := hR4.obj 1 _ ((g4 1 (by omega)).trans g1)
      rw [hK2.mix.loc 1 Lf rfl] at hL1; injection hL1 with hL1; subst hL1
      rw [hes] at o0
      refine ⟨growE E w E2, growE_le, mix_grow hR hS hK2.mix hR4 rfl fun j x hj => ?_, ?_⟩
      ·rcases AW.get_set hj with ⟨rfl, rfl⟩ | ⟨jm, hj⟩
       ·exact .inl ⟨0, Lm, rfl, rfl, lin_shut (idf := idf) hlin hloc o0⟩
       ·by_cases jf : j = f
        ·subst jf
         rw [gf] at hj; injection hj with hj; subst hj
         exact .inl ⟨1, Lf, rfl, rfl, o1.cells_scal (E' := growE E w E2) e2sym.symm fieldCells_scal⟩
        ·exact .inr ⟨by simp [jm, jf], hj⟩
      ·cases rv; exact .bool _
end
end Go.Proofs.YtbilacojhmohmaaGreat.Ae
end
