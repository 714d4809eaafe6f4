/- All packets' rounds of one tick of the law: the loop. No condition. -/
import Derived.Test.YtbilacojhmohmaaGreatD27
set_option linter.unusedVariables false
set_option linter.unusedSimpArgs false
noncomputable section
namespace Go.Proofs.YtbilacojhmohmaaGreat.Ae
open Go
theorem GoodK.fewer {K : Env → Prop} {Q : Post'} {tm tm' : List (Nat × AV)} {M : List AO} {y : CC} (h : ∀ s v, (s, v) ∈ tm → (tmOf tm' .leaf).get s s = some v) (hy : GoodK Tryz.prog (cDraw Tryz.prog) K y Q ⟨tmOf tm .leaf, 170, []⟩ (ofObjs M 46)) : GoodK Tryz.prog (cDraw Tryz.prog) K y Q ⟨tmOf tm' .leaf, 170, []⟩ (ofObjs M 46) :=
 GoodK.turn (tm := tm) (aw' := ofObjs M 46) (fun E w hE hR => ⟨E, hE, hR, fun s v hsv => ⟨v, h s v hsv, fun _ hc => hc⟩⟩) hy
theorem pl_le {d : Nat → Bool} {i : Nat} : pl d i ≤ i := by
 have := List.length_filter_le (fun j => !(d j)) (List.range i)
 simpa [pl] using this
section
variable {fr : Nat → Option Obj} {sy : SymW} {tk : Nat → Option Tok} {len now m t : Nat} {last : Int} {ev : AV} {bd nb e31 e32 : AO} {u w : Nat → Nat} {Rf : (Nat → Bool) → List AO}
theorem tmI_in {p i n : Nat} {a : AV} (hx : 14 < n) : ∀ s v, (s, v) ∈ tmI len m last t p i → (tmOf (tmI len m last t p i ++ [(n, a)]) .leaf).get s s = some v := by
 intro s v hsv
 have hap : ∀ (l : List (Nat × AV)) (t0 : Tr AV), tmOf (l ++ [(n, a)]) t0 = (tmOf l t0).set n n a := by
  intro l
  induction l with
  | nil => intro t0; show trSet t0 n a = _; exact trSet_eq _ _ _
  | cons y l ih => intro t0; exact ih _
 have hs : s ≤ 14 := by
  simp only [tmI, List.mem_cons, List.not_mem_nil, or_false, pmi] at hsv
  rcases hsv with ⟨rfl, rfl⟩ | ⟨rfl, rfl⟩ | ⟨rfl, rfl⟩ | ⟨rfl, rfl⟩ | ⟨rfl, rfl⟩ | ⟨rfl, rfl⟩ | ⟨rfl, rfl⟩ | ⟨rfl, rfl⟩ | ⟨rfl, rfl⟩ <;> omega
 rw [hap, tgo (by omega)]
 exact (tmI_ok (a := 15) (b := 15) (c := 15) (d := 15) ⟨by decide, by decide, by decide, by decide⟩ s v hsv).1
theorem tm_last {l : List (Nat × AV)} {n : Nat} {a : AV} : (tmOf (l ++ [(n, a)]) .leaf).get n n = some a := by
 have hap : ∀ (l : List (Nat × AV)) (t0 : Tr AV), tmOf (l ++ [(n, a)]) t0 = (tmOf l t0).set n n a := by
  intro l
  induction l with
  | nil => intro t0; show trSet t0 n a = _; exact trSet_eq _ _ _
  | cons y l ih => intro t0; exact ih _
 rw [hap]; exact Tr.get_set_same ..
theorem tm_ev {l : List (Nat × AV)} {n : Nat} {a : AV} : Opd.ev (tmOf (l ++ [(n, a)]) .leaf) (.t n) = some a := tm_last
theorem inner_step (hl : len ∈ lens) (hRf : ∀ d, (Rf d).length = 14) (hRs : ∀ d p, ∀ x ∈ Rf d, Still (fB p) 46 x) (hZ : ∀ d, StillZ (zW len now bd nb u d e31 e32) ev) (hP : Phase len now Rf) (hu : ∀ j, j < 10 → u j < 256) (hw : ∀ j, j < kOf len → w j = u j % 12) (hw2 : ∀ j, kOf len ≤ j → t < w j)
  {i : Nat} (hi : i < kOf len) {QL : Post'}
  (ih : GoodLK Tryz.prog (cDraw Tryz.prog) (LawK fr sy tk) liA QL ⟨tmOf (tmI len m last t (pl (dn w t (i + 1)) (i + 1)) (i + 1)) .leaf, 170, []⟩ (ofObjs (lawM len now ev (qS (kOf len) (dn w t (i + 1))) (Rf (dn w t (i + 1))) (zW len now bd nb u (dn w t (i + 1)) e31 e32)) 46)) :
  GoodLK Tryz.prog (cDraw Tryz.prog) (LawK fr sy tk) liA QL ⟨tmOf (tmI len m last t (pl (dn w t i) i) i) .leaf, 170, []⟩ (ofObjs (lawM len now ev (qS (kOf len) (dn w t i)) (Rf (dn w t i)) (zW len now bd nb u (dn w t i) e31 e32)) 46) := by
 have hk := kOf_le hl
 obtain ⟨d, hd⟩ : ∃ d, d = dn w t i := ⟨_, rfl⟩
 rw [← hd]
 have hlen : ∀ d', (lawM len now ev (qS (kOf len) d') (Rf d') (zW len now bd nb u d' e31 e32)).length = 46 := fun d' => lawM_len (hRf d') rfl
 obtain ⟨O, hO⟩ := lawM_mW (len := len) (now := now) (ev := ev) (bd := bd) (nb := nb) (e31 := e31) (e32 := e32) (u := u) (S := qS (kOf len) d) (d := d) (hRf d)
 have fin : ∀ (d' : Nat → Bool) (p' : Nat), d' = dn w t (i + 1) → p' = pl d' (i + 1) → ∀ E ca w', LawK fr sy tk E → ActRel E ⟨tmOf (tmI len m last t p' i) .leaf, 170, []⟩ ca → Rel E (ofObjs (lawM len now ev (qS (kOf len) d') (Rf d') (zW len now bd nb u d' e31 e32)) 46) w' →
   thenC Tryz.prog (cDraw Tryz.prog) liN (loopQ Tryz.prog (cDraw Tryz.prog) liA QL) .normal ca w' := by
  intro d' p' e1 e2 E ca w' hE hA hR c hc
  obtain ⟨O', hO'⟩ := lawM_mW (len := len) (now := now) (ev := ev) (bd := bd) (nb := nb) (e31 := e31) (e32 := e32) (u := u) (S := qS (kOf len) d') (d := d') (hRf d')
  have en := List.map_inj_left.1 (liN_all O' (wO u) (dO len d') len m last t p') i (List.mem_range.2 (by omega))
  rw [← hO' d'] at en
  refine (GoodK.pieceEnd LawK.le (hlen d') en fun E ca w hE hA hR => ?_ : GoodK Tryz.prog (cDraw Tryz.prog) (LawK fr sy tk) liN (loopQ Tryz.prog (cDraw Tryz.prog) liA QL) _ _) c hc E ca w' hE hA hR
  intro c' hc'
  rw [e2, e1] at hA
  rw [e1] at hR
  exact ih c' hc' E ca w hE hA hR
 refine GoodLK.of ?_
 show GoodK _ _ _ (.seq (.seq liT (.cond (.t 83) .skip (.exit 4))) (.seq (.block 5 liB) liN)) _ _ _
 have eT := List.map_inj_left.1 (liT_all O (wO u) (dO len d) m last t (pl d i)) (len, i) (liX_mem hl (by omega))
 dsimp only at eT
 rw [← hO d] at eT
 refine GoodK.into (GoodK.piece LawK.le (hlen d) eT (GoodK.cond (u := true) ((tm_ev (l := tmI len m last t (pl d i) i) (n := 83)).trans (congrArg (fun b => some (AV.bool b)) (blt_iff.trans (decide_eq_true hi)))) (fun _ => GoodK.skipTo LawK.le (GoodK.fewer (tmI_in (by decide)) (GoodK.into (GoodK.block ?_)))) fun h => by cases h))
 show GoodK _ _ _ (.seq (.seq liD (.cond (.t 89) (.exit 5) .skip)) (.seq (.seq liW (.cond (.t 97) liS .skip)) liP)) _ _ _
 have eD := List.map_inj_left.1 (liD_all O (wO u) d m last t (pl d i)) (len, i) (adLI_mem hl hi)
 dsimp only at eD
 rw [← hO d] at eD
 refine GoodK.into (GoodK.piece LawK.le (hlen d) eD (GoodK.cond (u := d i) (tm_ev (l := tmI len m last t (pl d i) i) (n := 89)) (fun hdi => GoodK.fewer (tmI_in (by decide)) (GoodK.exitTo LawK.le fun E ca w' hE hA hR => ?_)) fun hdi => GoodK.skipTo LawK.le (GoodK.fewer (tmI_in (by decide)) ?_)))
 ·
  have hb : Nat.blt (w i) t = true := by rw [hd, dn_at] at hdi; exact hdi
  have hb2 : Nat.ble (w i) t = true := Nat.ble_eq_true_of_le (Nat.le_of_lt (nbl hb))
  have hs : d = dn w t (i + 1) := by rw [hd]; exact (dn_same (hb2.trans hb.symm)).symm
  refine fin d (pl d i) hs ?_ E ca w' hE hA hR
  rw [pl_next, hdi]; rfl
 ·have hge : Nat.blt (w i) t = false := by rw [hd, dn_at] at hdi; exact hdi
  have eW := List.map_inj_left.1 (liW_all O (dO len d) (fun j => .int .u8 (.ofNat (u j))) len m last t (pl d i)) (i, u i) (iuL_mem (by omega) (hu i (by omega)))
  dsimp only at eW
  rw [← wO_at, ← hO d] at eW
  have hle : leW (u i) t = Nat.ble (w i) t := by rw [leW_eq, hw i hi]
  refine GoodK.into (GoodK.piece LawK.le (hlen d) eW (GoodK.cond (u := leW (u i) t) (tm_ev (l := tmI len m last t (pl d i) i) (n := 97)) (fun hle2 => GoodK.fewer (tmI_in (by decide)) ?_) fun hle2 => GoodK.skipTo LawK.le (GoodK.fewer (tmI_in (by decide)) ?_)))
  ·
   rw [hle] at hle2
   obtain ⟨q1, q2⟩ := qS_put (k := kOf len) hi hdi
   have hput : put1 d i = dn w t (i + 1) := by rw [hd]; exact (dn_put hle2).symm
   have hend : ∀ j, kOf len ≤ j → d j = false := fun j hj => by
    rw [hd]
    unfold dn
    have := hw2 j hj
    rw [blt_iff (a := j), decide_eq_false (by omega : ¬ j < i), cond_false, blt_iff, decide_eq_false (by omega)]
   obtain ⟨h1, h2⟩ := hP d i hend hi hdi
   have hpl : pl d i ≤ (qS (kOf len) d).length := Nat.le_of_lt (lgs.1 q1).1
   have hS10 : (qS (kOf len) d).length ≤ 10 := Nat.le_trans qS_len hk
   have hins : ((qS (kOf len) d).insertIdx (pl d i) i)[pl d i]? = some i := by
    rw [List.getElem?_insertIdx, if_neg (Nat.lt_irrefl _), if_pos rfl, if_pos hpl]
   have hinl : ((qS (kOf len) d).insertIdx (pl d i) i).length ≤ 11 := by
    rw [List.length_insertIdx_of_le_length hpl i]; omega
   show GoodK _ _ _ (.seq liS0 (.seq liS1 (.seq liS2 (.seq liS3 (.exit 5))))) _ _ _
   refine doubl_step (hRf d) (hRs d) (hZ d) hS10 q1 (deliv1_step h1 (hZ d) hinl hins ?_)
   rw [List.eraseIdx_insertIdx_self]
   refine deliv2_step h2 (hZ d) (by omega) q1 ?_
   rw [q2]
   obtain ⟨O2, hO2⟩ := lawM_mW (len := len) (now := now) (ev := ev) (bd := bd) (nb := nb) (e31 := e31) (e32 := e32) (u := u) (S := qS (kOf len) (put1 d i)) (d := d) (hRf (put1 d i))
   have eS := List.map_inj_left.1 (liS3_all O2 (wO u) d m last t (pl d i)) (len, i) (adLI_mem hl hi)
   dsimp only at eS
   have hO2p : mW O2 (wO u) (dO len fun j => bb2 (Nat.beq j i) true (d j)) = lawM len now ev (qS (kOf len) (put1 d i)) (Rf (put1 d i)) (zW len now bd nb u (put1 d i) e31 e32) := (hO2 (put1 d i)).symm
   rw [hO2p, ← hO2 d] at eS
   refine GoodK.piece LawK.le (hlen (put1 d i)) eS (GoodK.exitTo LawK.le fun E ca w' hE hA hR => ?_)
   show thenC Tryz.prog (cDraw Tryz.prog) liN (loopQ Tryz.prog (cDraw Tryz.prog) liA QL) .normal ca w'
   refine fin (put1 d i) (pl d i) hput ?_ E ca w' hE hA hR
   rw [pl_next, put1_at, pl_put]; rfl
  ·
   rw [hle] at hle2
   have hs : d = dn w t (i + 1) := by rw [hd]; exact (dn_same (hle2.trans hge.symm)).symm
   have eP := List.map_inj_left.1 (liP_all O (wO u) (dO len d) len m last t i) (pl d i) (List.mem_range.2 (by have := pl_le (d := d) (i := i); omega))
   rw [← hO d] at eP
   refine GoodK.pieceEnd LawK.le (hlen d) eP fun E ca w' hE hA hR => ?_
   refine fin d (pl d i + 1) hs ?_ E ca w' hE hA hR
   rw [pl_next, hdi]; rfl
theorem inner_loop (hl : len ∈ lens) (hRf : ∀ d, (Rf d).length = 14) (hRs : ∀ d p, ∀ x ∈ Rf d, Still (fB p) 46 x) (hZ : ∀ d, StillZ (zW len now bd nb u d e31 e32) ev) (hP : Phase len now Rf) (hu : ∀ j, j < 10 → u j < 256) (hw : ∀ j, j < kOf len → w j = u j % 12) (hw2 : ∀ j, kOf len ≤ j → t < w j) {Q0 : Post'}
  (hQ : ∀ p E ca w', LawK fr sy tk E → ActRel E ⟨tmOf (tmI len m last t p (kOf len)) .leaf, 170, []⟩ ca → Rel E (ofObjs (lawM len now ev (qS (kOf len) (dn w t (kOf len))) (Rf (dn w t (kOf len))) (zW len now bd nb u (dn w t (kOf len)) e31 e32)) 46) w' → Q0 .normal ca w') :
  ∀ e i, i + e = kOf len → GoodLK Tryz.prog (cDraw Tryz.prog) (LawK fr sy tk) liA (Exit.inBlock 4 Q0) ⟨tmOf (tmI len m last t (pl (dn w t i) i) i) .leaf, 170, []⟩ (ofObjs (lawM len now ev (qS (kOf len) (dn w t i)) (Rf (dn w t i)) (zW len now bd nb u (dn w t i) e31 e32)) 46)
 | e + 1, i, he => inner_step hl hRf hRs hZ hP hu hw hw2 (by omega) (inner_loop hl hRf hRs hZ hP hu hw hw2 hQ e (i + 1) (by omega))
 | 0, i, he => by
  have : i = kOf len := by omega
  subst this
  obtain ⟨O, hO⟩ := lawM_mW (len := len) (now := now) (ev := ev) (bd := bd) (nb := nb) (e31 := e31) (e32 := e32) (u := u) (S := qS (kOf len) (dn w t (kOf len))) (d := dn w t (kOf len)) (hRf (dn w t (kOf len)))
  have eT := List.map_inj_left.1 (liT_all O (wO u) (dO len (dn w t (kOf len))) m last t (pl (dn w t (kOf len)) (kOf len))) (len, kOf len) (liX_mem hl (Nat.le_refl _))
  dsimp only at eT
  rw [← hO] at eT
  refine GoodLK.of ?_
  show GoodK _ _ _ (.seq (.seq liT (.cond (.t 83) .skip (.exit 4))) (.seq (.block 5 liB) liN)) _ _ _
  refine GoodK.into (GoodK.piece LawK.le (lawM_len (hRf _) rfl) eT (GoodK.cond (u := false) ((tm_ev (l := tmI len m last t (pl (dn w t (kOf len)) (kOf len)) (kOf len)) (n := 83)).trans (congrArg (fun b => some (AV.bool b)) (blt_iff.trans (decide_eq_false (Nat.lt_irrefl _))))) (fun h => by cases h) fun _ => GoodK.fewer (tmI_in (by decide)) (GoodK.exitTo LawK.le fun E ca w' hE hA hR => ?_)))
  show Q0 .normal ca w'
  exact hQ _ E ca w' hE hA hR
end
end Go.Proofs.YtbilacojhmohmaaGreat.Ae
end
