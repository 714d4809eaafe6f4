/- TopGone: where the submits were run, the law's code goes on at the next state. TopGone: from its start to the first frame. TopGone, plainly: whom a frame hangs on. TopGone: where the ticks were run, the law's code goes on at its last loop. A region with one call that is told by hand. No condition. -/
import Derived.Test.YtbilacojhmohmaaGreatBeGonTk
import Derived.KernelRfl
namespace Go.Proofs.YtbilacojhmohmaaGreat.Ae
open Go
set_option linter.unusedVariables false
set_option linter.unusedSimpArgs false
section
variable {fr : Nat → Option Obj} {ρ : Nat → Nat} {os : Os} {out : Array (Nat × ByteArray)} {ls : Nat → List Nat} {Q : Post'}
abbrev sy (ρ : Nat → Nat) (os : Os) (out : Array (Nat × ByteArray)) (ls : Nat → List Nat) : SymW := ⟨symVal ρ, os, out, ls⟩
abbrev G (fr : Nat → Option Obj) (ρ : Nat → Nat) (os : Os) (out : Array (Nat × ByteArray)) (ls : Nat → List Nat) := Good Tryz.prog (cDraw Tryz.prog) fr (sy ρ os out ls)
abbrev GL (fr : Nat → Option Obj) (ρ : Nat → Nat) (os : Os) (out : Array (Nat × ByteArray)) (ls : Nat → List Nat) := GoodL Tryz.prog (cDraw Tryz.prog) fr (sy ρ os out ls)
theorem at7_eq (c : CC) (t : Tr AV) (aw : AW) : at7 c t aw = xcode cOrd 1000 c ⟨t, 187, []⟩ aw := kCode_eq cOrd c 1000 t 187 [] aw
theorem at7A_eq (c : CC) (t : Tr AV) (aw : AW) : at7A c t aw = xcode cTop 1000 c ⟨t, 187, []⟩ aw := kCode_eq cTop c 1000 t 187 [] aw
theorem dr_ok : DrawOK Tryz.prog cOrd (cDraw Tryz.prog) := draw_all _ cOrd_ok
theorem drA_ok : DrawOK Tryz.prog cTop (cDraw Tryz.prog) := draw_all _ cTop_ok

theorem ob1_ok {α : Type} {x : Option α} {f : α → Bool} (h : ob1 x f = true) : ∃ a, x = some a ∧ f a = true := by
  cases x with
  | none => cases h
  | some a => exact ⟨a, rfl, h⟩
theorem snocN_eq (l : List Nat) (b : Nat) : snocN l b = l ++ [b] := by
  induction l with
  | nil => rfl
  | cons a l ih => show a :: snocN l b = _; rw [ih]; rfl
theorem appB_eq (l : List Bool) (b : Bool) : appB l b = l ++ [b] := by
  induction l with
  | nil => rfl
  | cons a l ih => show a :: appB l b = _; rw [ih]; rfl
theorem someN_iff {R : List Nat} : someN R = true ↔ R ≠ [] := by
  cases R with
  | nil => exact ⟨fun h => (by cases h), fun h => (h rfl).elim⟩
  | cons a R => exact ⟨fun _ h => (by cases h), fun _ => rfl⟩

theorem good_forg {c : CC} {q o j : Nat} {R : List Nat} {t : Tr AV} {aw aw' : AW} (h : forg q o j R aw = some aw') (hls : ls j = R) (hg : G fr ρ os out ls c Q ⟨t, 187, []⟩ aw') : G fr ρ os out ls c Q ⟨t, 187, []⟩ aw := by
  intro cd hc E ca w hE hS hA hR
  obtain ⟨E', hle, hloc, hR'⟩ := forg_ok h hR (by rw [hS]; exact hls)
  exact hg cd hc E' ca w (hle.2.2.1.trans hE) (hle.2.1.trans hS) (hA.mono hle) hR'
theorem good_forg3 {c : CC} {k : Nat} {R : List Nat} {t : Tr AV} {aw : AW} {f : AW → Bool} (h : forg3 k R t aw f = true) (hls : ls k = R) (hg : ∀ aw', f aw' = true → G fr ρ os out ls c Q ⟨t, 187, []⟩ aw') : G fr ρ os out ls c Q ⟨t, 187, []⟩ aw := by
  unfold forg3 at h
  obtain ⟨a1, e1, h⟩ := ob1_ok h
  obtain ⟨a2, e2, h⟩ := ob1_ok h
  obtain ⟨a3, e3, h⟩ := ob1_ok h
  exact good_forg e1 hls (good_forg e2 hls (good_forg e3 hls (hg a3 h)))
theorem good_retok {c : CC} {q o j j' : Nat} {t : Tr AV} {aw aw' : AW} (h : retok q o j j' aw = some aw') (hls : ls j' = ls j) (hk : okL j' (ls j)) (hg : G fr ρ os out ls c Q ⟨t, 187, []⟩ aw') : G fr ρ os out ls c Q ⟨t, 187, []⟩ aw := by
  intro cd hc E ca w hE hS hA hR
  exact hg cd hc E ca w hE hS hA (retok_ok h hR (by rw [hS]; exact hls) (by rw [hS]; exact hk))

/-- the state with these frames -/
def GS (fr : Nat → Option Obj) (ρ : Nat → Nat) (os : Os) (out : Array (Nat × ByteArray)) (ls : Nat → List Nat) (Q : Post') (bs : List Bool) : Prop := GL fr ρ os out ls gonBody Q ⟨tmOf (gTm bs) .leaf, 187, []⟩ (ofObjs (gSt bs) (lenA (gSt bs)))
theorem fin_good {k : Nat} {bs : List Bool} {R : List Nat} {t : Tr AV} {aw : AW} (h : fin7 k bs R t aw = true) (hls : R ≠ [] → ls k = R) (hg : GS fr ρ os out ls Q (appB bs (someN R))) :
    G fr ρ os out ls (.seq gonS gonA) (Exit.inBlock 1 (thenC Tryz.prog (cDraw Tryz.prog) gonI (loopQ Tryz.prog (cDraw Tryz.prog) gonBody Q))) ⟨t, 187, []⟩ aw := by
  unfold fin7 at h
  obtain ⟨t1, aw1, e1, h⟩ := atNorm_ok h
  obtain ⟨t2, aw2, e2, h⟩ := atNorm_ok h
  rw [at7_eq] at e1 e2
  refine Good.seq cOrd_ok dr_ok e1 (Good.run cOrd_ok dr_ok e2 fun E e ca w hE hS hR hA hX => ?_)
  cases e <;> simp only [XRel] at hX
  have fin : ∀ aw', (atNorm (nat_lit 187) (at7 gonI t2 aw') fun t aw => (fun bs => told (lenA (gSt bs)) (gSt bs) (gTm bs) t aw) (appB bs (someN R))) = true → G fr ρ os out ls gonI (loopQ Tryz.prog (cDraw Tryz.prog) gonBody Q) ⟨t2, 187, []⟩ aw' := fun aw' h => by
    obtain ⟨t3, aw3, e3, h⟩ := atNorm_ok h
    rw [at7_eq] at e3
    exact Good.again cOrd_ok dr_ok e3 h rfl hg
  have hI : G fr ρ os out ls gonI (loopQ Tryz.prog (cDraw Tryz.prog) gonBody Q) ⟨t2, 187, []⟩ aw2 := by
    simp only [bb2_eq] at h
    cases hs : someN R <;> simp only [hs, cond_true, cond_false] at h
    · exact fin aw2 (by rw [hs]; exact h)
    · refine good_forg3 h (hls (someN_iff.1 hs)) fun aw' h' => fin aw' (by rw [hs]; exact h')
  exact fun c hc => hI c hc E ca w hE hS hA hR

/-! ### a bit is read -/
noncomputable def allBel (f : Nat → Bool) (n : Nat) : Bool := Nat.rec (motive := fun _ => Bool) true (fun a r => bb2 (f a) r false) n
theorem allBel_ok {f : Nat → Bool} : ∀ {n : Nat}, allBel f n = true → ∀ a, a < n → f a = true
  | 0, _, a, h => by omega
  | n + 1, h, a, ha => by
    have h : bb2 (f n) (allBel f n) false = true := h
    rw [bb2_eq] at h
    cases hf : f n <;> simp only [hf, cond_true, cond_false, Bool.false_eq_true] at h
    by_cases e : a = n
    · rw [e]; exact hf
    · exact allBel_ok h a (by omega)
def bitB (o kk : Nat) : Bool := Nat.beq (Nat.mod (Nat.div o (Nat.pow 2 kk)) 2) 1
def chkB (o kk : Nat) : Bool := match xbin .shr true (.int .u8 (.ofNat o)) (.int .i64 (.ofNat kk)) with
  | some a => match xbin .and false a (.int .u8 (.ofNat 1)) with
    | some b => match xbin .eql false b (.int .u8 (.ofNat 1)) with
      | some (.bool c) => c == bitB o kk
      | _ => false
    | none => false
  | none => false
theorem chk_all : allBel (fun o => allBel (chkB o) 6) 256 = true := by kernel_rfl
theorem chk_ok {o kk : Nat} (ho : o < 256) (hk : kk < 6) : ∃ a b, xbin .shr true (.int .u8 (.ofNat o)) (.int .i64 (.ofNat kk)) = some a ∧ xbin .and false a (.int .u8 (.ofNat 1)) = some b ∧ xbin .eql false b (.int .u8 (.ofNat 1)) = some (.bool (bitB o kk)) := by
  have h := allBel_ok (allBel_ok chk_all o ho) kk hk
  unfold chkB at h
  split at h <;> (try (cases h; done))
  rename_i a h1
  split at h <;> (try (cases h; done))
  rename_i b h2
  split at h <;> (try (cases h; done))
  rename_i c h3
  exact ⟨a, b, h1, h2, by rw [h3, eq_of_beq h]⟩
theorem isI64_ok {v : Option AV} {n : Nat} (h : isI64 v n = true) : v = some (.int .i64 (.ofNat n)) := by
  unfold isI64 at h
  split at h
  · rw [Nat.eq_of_beq_eq_true h]
  · cases h
theorem isBoxP_ok {v : Option AV} (h : isBoxP v = true) : v = some (.ptr (some (0, 0))) := by
  unfold isBoxP at h
  split at h
  · rfl
  · cases h
theorem isBox_ok {o : Option AO} (h : isBox o = true) : ∃ e b, o = some (.cells box6 e b) := by
  unfold isBox at h
  split at h
  · rename_i a b c d e f q r
    simp only [bb2_eq] at h
    cases h1 : Nat.beq a 0 <;> simp only [h1, cond_true, cond_false, Bool.false_eq_true] at h
    cases h2 : Nat.beq b 2 <;> simp only [h2, cond_true, cond_false, Bool.false_eq_true] at h
    cases h3 : Nat.beq c 4 <;> simp only [h3, cond_true, cond_false, Bool.false_eq_true] at h
    cases h4 : Nat.beq d 6 <;> simp only [h4, cond_true, cond_false, Bool.false_eq_true] at h
    cases h5 : Nat.beq e 8 <;> simp only [h5, cond_true, cond_false, Bool.false_eq_true] at h
    rw [Nat.eq_of_beq_eq_true h1, Nat.eq_of_beq_eq_true h2, Nat.eq_of_beq_eq_true h3, Nat.eq_of_beq_eq_true h4, Nat.eq_of_beq_eq_true h5, Nat.eq_of_beq_eq_true h]
    exact ⟨_, _, rfl⟩
  · cases h
theorem xitems_op {call : Call} {d n : Nat} {c : COp} {l : List CR} {t : Tr AV} {ds : List ADef} {aw aw' : AW} {v : AV} (h : xop t aw c = some (v, aw')) (hd : Nat.blt d n = true) : xitems call (.op (some d) none c :: l) ⟨t, n, ds⟩ aw = xitems call l ⟨t.set d d v, n, ds⟩ aw' := by
  simp only [xitems, xguard, h, AAct.put, hd, cond_true]
def rbT (t : Tr AV) (i kk o : Nat) (a b : AV) : Tr AV := ((((((t.set 60 60 (.int .i64 (.ofNat i))).set 61 61 (.ptr (some (0, 0 + i * 1)))).set 62 62 (.int .u8 (.ofNat o))).set 63 63 (.int .i64 (.ofNat kk))).set 64 64 a).set 65 65 b).set 66 66 (.bool (bitB o kk))
theorem rb_run {t : Tr AV} {aw : AW} {i kk o : Nat} {l : List AV} {e : TypeId} {b : Bool} {x y : AV} (h9 : t.get 9 9 = some (.int .i64 (.ofNat i))) (h3 : t.get 3 3 = some (.ptr (some (0, 0)))) (h11 : t.get 11 11 = some (.int .i64 (.ofNat kk))) (hg : aw.get 0 = some (.cells l e b)) (hl : l[i]? = some (.int .u8 (.ofNat o))) (hi : i < 6)
    (hx : xbin .shr true (.int .u8 (.ofNat o)) (.int .i64 (.ofNat kk)) = some x) (hy : xbin .and false x (.int .u8 (.ofNat 1)) = some y) (hz : xbin .eql false y (.int .u8 (.ofNat 1)) = some (.bool (bitB o kk))) :
    xcode cOrd 1000 gonRB ⟨t, 187, []⟩ aw = some ⟨.norm, ⟨rbT t i kk o x y, 187, []⟩, aw⟩ := by
  show xitems cOrd _ ⟨t, 187, []⟩ aw = _
  rw [xitems_op (v := .int .i64 (.ofNat i)) (aw' := aw) (by simp only [xop, Opd.ev, h9]) rfl]
  have hib : Nat.blt i 6 = true := Nat.ble_eq_true_of_le hi
  rw [xitems_op (v := .ptr (some (0, 0 + i * 1))) (aw' := aw) (by simp only [xop, Opd.ev, Tr.get_set_same, Tr.get_set_other (show (3 : Nat) ≠ 60 by decide), h3, xnat, hib, cond_true]) rfl]
  rw [xitems_op (v := .int .u8 (.ofNat o)) (aw' := aw) (by simp only [xop, Opd.ev, Tr.get_set_same, xload, AO.read, hg, Nat.zero_add, Nat.mul_one, hl]) rfl]
  rw [xitems_op (v := .int .i64 (.ofNat kk)) (aw' := aw) (by simp only [xop, Opd.ev, Tr.get_set_other (show (11 : Nat) ≠ 62 by decide), Tr.get_set_other (show (11 : Nat) ≠ 61 by decide), Tr.get_set_other (show (11 : Nat) ≠ 60 by decide), h11]) rfl]
  rw [xitems_op (v := x) (aw' := aw) (by simp only [xop, Opd.ev, Tr.get_set_same, Tr.get_set_other (show (62 : Nat) ≠ 63 by decide), hx]) rfl]
  rw [xitems_op (v := y) (aw' := aw) (by simp only [xop, Opd.ev, Tr.get_set_same, hy]) rfl]
  rw [xitems_op (v := .bool (bitB o kk)) (aw' := aw) (by simp only [xop, Opd.ev, Tr.get_set_same, hz]) rfl]
  rfl

/-- the box's bytes, known -/
def boxK (ρ : Nat → Nat) : List AV := (List.range 6).map fun j => .int .u8 (.ofNat (ρ j % 256))
theorem sym_iff {E : Env} (hE : E.sym = sy ρ os out ls) (j : Nat) (v : Value) : VRel E (.sym .u8 (2 * j)) v ↔ VRel E (.int .u8 (.ofNat (ρ j % 256))) v := by
  have hs : symVal ρ (2 * j) = some (Int.ofNat (ρ j % 256)) := by
    unfold symVal
    have h1 : Nat.mod (2 * j) 2 = 0 := by show 2 * j % 2 = 0; omega
    have h2 : Nat.div (2 * j) 2 = j := by show 2 * j / 2 = j; omega
    rw [h1]
    simp only [h2]
  constructor
  · intro h
    cases h with
    | sym _ h1 hw =>
      rw [hE] at h1
      have h1 : symVal ρ (2 * j) = some _ := h1
      rw [hs] at h1; injection h1 with h1; rw [← h1]; exact .int _ _
  · intro h
    cases h
    refine .sym _ (by rw [hE]; exact hs) ?_
    have : ρ j % 256 < 256 := Nat.mod_lt _ (by decide)
    have e : (Int.ofNat (ρ j % 256) : Int) = ((ρ j % 256 : Nat) : Int) := rfl
    rw [e]
    simp only [IntKind.wrap, IntKind.bits, IntKind.signed]
    simp
theorem box_get (i : Nat) (a : AV) (h : box6[i]? = some a) : i < 6 ∧ a = .sym .u8 (2 * i) := by
  rcases i with _ | _ | _ | _ | _ | _ | i
  · injection h with h; exact ⟨by omega, h.symm⟩
  · injection h with h; exact ⟨by omega, h.symm⟩
  · injection h with h; exact ⟨by omega, h.symm⟩
  · injection h with h; exact ⟨by omega, h.symm⟩
  · injection h with h; exact ⟨by omega, h.symm⟩
  · injection h with h; exact ⟨by omega, h.symm⟩
  · cases h
theorem boxK_get (i : Nat) (h : i < 6) : (boxK ρ)[i]? = some (.int .u8 (.ofNat (ρ i % 256))) := by
  simp [boxK, h]
theorem box6_get (i : Nat) (h : i < 6) : box6[i]? = some (.sym .u8 (2 * i)) := by
  match i, h with
  | 0, _ => rfl
  | 1, _ => rfl
  | 2, _ => rfl
  | 3, _ => rfl
  | 4, _ => rfl
  | 5, _ => rfl
theorem box_iff {E : Env} (hE : E.sym = sy ρ os out ls) {L : Loc} {w : World} {e : TypeId} {b : Bool} : ORel E L w (.cells box6 e b) ↔ ORel E L w (.cells (boxK ρ) e b) := by
  have hlen : box6.length = (boxK ρ).length := by simp [boxK, box6]
  constructor
  · rintro ⟨c, fz, h1, h2, h3, h4, h5⟩
    refine ⟨c, fz, h1, h2, by rw [← hlen]; exact h3, fun q => by rw [← hlen]; exact h4 q, fun i a hi => ?_⟩
    have hi6 : i < 6 := by have := (List.getElem?_eq_some_iff.1 hi).1; simpa [boxK] using this
    rw [boxK_get i hi6] at hi; injection hi with hi; subst hi
    obtain ⟨v, hv, hr⟩ := h5 i _ (box6_get i hi6)
    exact ⟨v, hv, (sym_iff hE i v).1 hr⟩
  · rintro ⟨c, fz, h1, h2, h3, h4, h5⟩
    refine ⟨c, fz, h1, h2, by rw [hlen]; exact h3, fun q => by rw [hlen]; exact h4 q, fun i a hi => ?_⟩
    obtain ⟨hi6, rfl⟩ := box_get i a hi
    obtain ⟨v, hv, hr⟩ := h5 i _ (boxK_get i hi6)
    exact ⟨v, hv, (sym_iff hE i v).2 hr⟩
theorem Rel.congr {E : Env} {aw aw' : AW} {w : World} (h : Rel E aw w) (hn : aw'.nx = aw.nx) (hg : ∀ j, aw'.get j = aw.get j) : Rel E aw' w :=
  ⟨hn.trans h.nx, h.ns, fun j x hj => h.obj j x (by rw [← hg]; exact hj), fun i j oi oj Li Lj hi hj => h.inj i j oi oj Li Lj (by rw [← hg]; exact hi) (by rw [← hg]; exact hj), h.frame, fun i oi Li hi => h.apart i oi Li (by rw [← hg]; exact hi), ⟨h.tok.1, fun i oi Li hi => h.tok.2 i oi Li (by rw [← hg]; exact hi)⟩⟩
theorem Same.rfl' {w : World} : Same w w := ⟨rfl, rfl⟩
/-- the box known, not known -/
theorem rel_known {E : Env} (hE : E.sym = sy ρ os out ls) {aw : AW} {w : World} {e : TypeId} {b : Bool} (hg : aw.get 0 = some (.cells box6 e b)) (h : Rel E aw w) : Rel E (aw.set 0 (.cells (boxK ρ) e b)) w := by
  obtain ⟨L, hL, ho⟩ := h.obj 0 _ hg
  exact h.update Same.rfl' hg rfl hL (fun _ _ => rfl) ((box_iff hE).1 ho)
theorem rel_unknown {E : Env} (hE : E.sym = sy ρ os out ls) {aw : AW} {w : World} {e : TypeId} {b : Bool} (hg : aw.get 0 = some (.cells box6 e b)) (h : Rel E (aw.set 0 (.cells (boxK ρ) e b)) w) : Rel E aw w := by
  have hg0 : (aw.set 0 (.cells (boxK ρ) e b)).get 0 = some (.cells (boxK ρ) e b) := Tr.get_set_same _ _
  obtain ⟨L, hL, ho⟩ := h.obj 0 _ hg0
  refine (h.update Same.rfl' hg0 rfl hL (fun _ _ => rfl) ((box_iff hE).2 ho)).congr rfl fun j => ?_
  by_cases hj : j = 0
  · subst hj
    rw [hg]
    exact (Tr.get_set_same _ _).symm
  · exact ((Tr.get_set_other hj _ _ _).trans (Tr.get_set_other hj _ _ _)).symm
theorem rb_good {t : Tr AV} {aw : AW} {i kk : Nat} (hi : i < 6) (hkk : kk < 6) (h : rbOK i kk t aw = true) (hg : G fr ρ os out ls gonC Q ⟨rbPut (bitB (ρ i % 256) kk) t, 187, []⟩ aw) : G fr ρ os out ls (.seq gonRB gonC) Q ⟨t, 187, []⟩ aw := by
  unfold rbOK at h
  simp only [bb2_eq] at h
  cases q1 : isI64 (trGet t 9) i <;> simp only [q1, cond_true, cond_false, Bool.false_eq_true] at h
  cases q2 : isI64 (trGet t 11) kk <;> simp only [q2, cond_true, cond_false, Bool.false_eq_true] at h
  cases q3 : isBoxP (trGet t 3) <;> simp only [q3, cond_true, cond_false, Bool.false_eq_true] at h
  have q1 := isI64_ok q1
  have q2 := isI64_ok q2
  have q3 := isBoxP_ok q3
  rw [trGet_eq] at q1 q2 q3
  obtain ⟨e, b, q4⟩ := isBox_ok h
  rw [awGet_eq] at q4
  intro c hc E ca w hE hS hA hR
  obtain ⟨c1, c2, rfl, h1, h2⟩ := inv_seq hc
  have hR0 := rel_known hS q4 hR
  obtain ⟨x, y, hx, hy, hz⟩ := chk_ok (o := ρ i % 256) (Nat.mod_lt _ (by decide)) hkk
  have hrun := rb_run (aw := aw.set 0 (.cells (boxK ρ) e b)) q1 q3 q2 (Tr.get_set_same _ _) (boxK_get i hi) hi hx hy hz
  refine wp_seq (wp_mono (code_sound cOrd_ok dr_ok _ h1 hrun hA hR0).1 fun e' a' w' ⟨E', hle, g1, g2, g3⟩ => ?_)
  cases e' <;> simp only [XRel] at g3
  have hS' : E'.sym = sy ρ os out ls := hle.2.1.trans hS
  refine hg c2 h2 E' a' w' (hle.2.2.1.trans hE) hS' ⟨g2.size, fun s v hv => ?_, g2.defs⟩ (rel_unknown hS' q4 g1)
  have key : ∃ v', (rbT t i kk (ρ i % 256) x y).get s s = some v' ∧ (v = v' ∨ v = .undef) := by
    simp only [rbPut, trSet_eq] at hv
    simp only [rbT]
    rcases Tr.get_set hv with ⟨rfl, rfl⟩ | ⟨n1, hv⟩
    · exact ⟨_, Tr.get_set_same _ _, .inl rfl⟩
    simp only [Tr.get_set_other n1]
    rcases Tr.get_set hv with ⟨rfl, rfl⟩ | ⟨n2, hv⟩
    · exact ⟨_, Tr.get_set_same _ _, .inr rfl⟩
    simp only [Tr.get_set_other n2]
    rcases Tr.get_set hv with ⟨rfl, rfl⟩ | ⟨n3, hv⟩
    · exact ⟨_, Tr.get_set_same _ _, .inr rfl⟩
    simp only [Tr.get_set_other n3]
    rcases Tr.get_set hv with ⟨rfl, rfl⟩ | ⟨n4, hv⟩
    · exact ⟨_, Tr.get_set_same _ _, .inr rfl⟩
    simp only [Tr.get_set_other n4]
    rcases Tr.get_set hv with ⟨rfl, rfl⟩ | ⟨n5, hv⟩
    · exact ⟨_, Tr.get_set_same _ _, .inr rfl⟩
    simp only [Tr.get_set_other n5]
    rcases Tr.get_set hv with ⟨rfl, rfl⟩ | ⟨n6, hv⟩
    · exact ⟨_, Tr.get_set_same _ _, .inr rfl⟩
    simp only [Tr.get_set_other n6]
    rcases Tr.get_set hv with ⟨rfl, rfl⟩ | ⟨n7, hv⟩
    · exact ⟨_, Tr.get_set_same _ _, .inr rfl⟩
    simp only [Tr.get_set_other n7]
    exact ⟨v, hv, .inl rfl⟩
  obtain ⟨v', k1, k2⟩ := key
  obtain ⟨z, hz, hr⟩ := g2.tmps s v' k1
  rcases k2 with rfl | rfl
  · exact ⟨z, hz, hr⟩
  · exact ⟨z, hz, .undef _⟩

/-! ### all bits of a number -/
/-- the frames on which it hangs, out of a number's bits -/
noncomputable def refsF (o k : Nat) (d : Nat) : Nat → List Nat → List Nat := Nat.rec (motive := fun _ => Nat → List Nat → List Nat) (fun _ R => R) (fun _ ih kk R => bb2 (fullB k kk R) R (ih (Nat.succ kk) (bb2 (bitB o kk) (snocN R (Nat.succ kk)) R))) d
theorem bit_good {k : Nat} (hk : k < 6) {bs : List Bool} : ∀ (d kk : Nat) (R : List Nat) (pre : List Bool) (t : Tr AV) (aw : AW), kk + d = k → bitT k bs d kk R pre t aw = true → (∀ j b, pre[j]? = some b → b = bitB (ρ k % 256) (kk + j)) →
    (refsF (ρ k % 256) k d kk R ≠ [] → ls k = refsF (ρ k % 256) k d kk R) → GS fr ρ os out ls Q (appB bs (someN (refsF (ρ k % 256) k d kk R))) →
    GL fr ρ os out ls gonB2 (Exit.inBlock 2 (thenC Tryz.prog (cDraw Tryz.prog) (.seq gonS gonA) (Exit.inBlock 1 (thenC Tryz.prog (cDraw Tryz.prog) gonI (loopQ Tryz.prog (cDraw Tryz.prog) gonBody Q))))) ⟨t, 187, []⟩ aw := by
  have leave : ∀ {R : List Nat} {t t1 : Tr AV} {aw aw1 : AW}, xcode cOrd 1000 gonT2 ⟨t, 187, []⟩ aw = some ⟨.exit 2, ⟨t1, 187, []⟩, aw1⟩ → fin7 k bs R t1 aw1 = true → (R ≠ [] → ls k = R) → GS fr ρ os out ls Q (appB bs (someN R)) →
      GL fr ρ os out ls gonB2 (Exit.inBlock 2 (thenC Tryz.prog (cDraw Tryz.prog) (.seq gonS gonA) (Exit.inBlock 1 (thenC Tryz.prog (cDraw Tryz.prog) gonI (loopQ Tryz.prog (cDraw Tryz.prog) gonBody Q))))) ⟨t, 187, []⟩ aw := fun {R t t1 aw aw1} h1 h2 h3 h4 => by
    have hx : xcode cOrd 1001 gonB2 ⟨t, 187, []⟩ aw = some ⟨.exit 2, ⟨t1, 187, []⟩, aw1⟩ := by
      show (match xcode cOrd 1000 gonT2 ⟨t, 187, []⟩ aw with
        | some o => (match o.x with
          | .norm => xcode cOrd 1000 (.seq (.block 3 (.seq gonRB gonC)) gonI2) o.act o.aw
          | _ => some o)
        | none => none) = _
      rw [h1]
    exact GoodL.leave cOrd_ok dr_ok hx (fin_good h2 h3 h4)
  intro d
  induction d with
  | zero =>
    intro kk R pre t aw hkd h hpre hls hg
    have h : atExit 2 187 (at7 gonT2 t aw) (fin7 k bs R) = true := h
    obtain ⟨t1, aw1, h1, h2⟩ := atExit_ok h
    rw [at7_eq] at h1
    exact leave h1 h2 hls hg
  | succ d ih =>
    intro kk R pre t aw hkd h hpre hls hg
    have h : atEither 2 187 (at7 gonT2 t aw) (fun t aw => bb2 (fullB k kk R) false (bb2 (rbOK k kk t aw)
      ((fun go : List Bool → Bool → Bool => List.rec (motive := fun _ => Bool) (bb2 (go [] true) (go [] false) false) (fun b l _ => go l b) pre)
        (fun l b => atNorm 187 (at7 gonC (rbPut b t) aw) fun t aw => atNorm 187 (at7 gonI2 t aw) fun t aw => bitT k bs d (kk + 1) (bb2 b (snocN R (kk + 1)) R) l t aw)) false))
      (fun t aw => bb2 (fullB k kk R) (fin7 k bs R t aw) false) = true := h
    have hrf : refsF (ρ k % 256) k (d + 1) kk R = bb2 (fullB k kk R) R (refsF (ρ k % 256) k d (kk + 1) (bb2 (bitB (ρ k % 256) kk) (snocN R (kk + 1)) R)) := rfl
    rw [hrf, bb2_eq] at hls hg
    rcases atEither_ok h with ⟨t1, aw1, h1, h⟩ | ⟨t1, aw1, h1, h⟩
    · simp only [bb2_eq] at h
      cases hf : fullB k kk R <;> simp only [hf, cond_true, cond_false, Bool.false_eq_true] at h hls hg
      cases hrb : rbOK k kk t1 aw1 <;> simp only [hrb, cond_true, cond_false, Bool.false_eq_true] at h
      rw [at7_eq] at h1
      have hgo : ∃ l, (∀ j b, l[j]? = some b → b = bitB (ρ k % 256) (kk + 1 + j)) ∧ (atNorm 187 (at7 gonC (rbPut (bitB (ρ k % 256) kk) t1) aw1) fun t aw => atNorm 187 (at7 gonI2 t aw) fun t aw => bitT k bs d (kk + 1) (bb2 (bitB (ρ k % 256) kk) (snocN R (kk + 1)) R) l t aw) = true := by
        cases pre with
        | nil =>
          refine ⟨[], fun j a hj => by simp at hj, ?_⟩
          have h : (cond (atNorm 187 (at7 gonC (rbPut true t1) aw1) fun t aw => atNorm 187 (at7 gonI2 t aw) fun t aw => bitT k bs d (kk + 1) (cond true (snocN R (kk + 1)) R) [] t aw)
            (atNorm 187 (at7 gonC (rbPut false t1) aw1) fun t aw => atNorm 187 (at7 gonI2 t aw) fun t aw => bitT k bs d (kk + 1) (cond false (snocN R (kk + 1)) R) [] t aw) false) = true := h
          rw [bb2_eq]
          cases hb : bitB (ρ k % 256) kk
          · cases hq : (atNorm 187 (at7 gonC (rbPut true t1) aw1) fun t aw => atNorm 187 (at7 gonI2 t aw) fun t aw => bitT k bs d (kk + 1) (cond true (snocN R (kk + 1)) R) [] t aw) with
            | false => rw [hq] at h; cases h
            | true => rw [hq] at h; exact h
          · cases hq : (atNorm 187 (at7 gonC (rbPut true t1) aw1) fun t aw => atNorm 187 (at7 gonI2 t aw) fun t aw => bitT k bs d (kk + 1) (cond true (snocN R (kk + 1)) R) [] t aw) with
            | false => rw [hq] at h; cases h
            | true => rfl
        | cons a l =>
          have ha : a = bitB (ρ k % 256) kk := hpre 0 a rfl
          subst ha
          rw [bb2_eq]
          exact ⟨l, fun j a hj => by rw [hpre (j + 1) a (by simpa using hj)]; congr 1; omega, h⟩
      obtain ⟨l, hl, h⟩ := hgo
      obtain ⟨t2, aw2, e2, h⟩ := atNorm_ok h
      obtain ⟨t3, aw3, e3, h⟩ := atNorm_ok h
      rw [at7_eq] at e2 e3
      have hnext := ih (kk + 1) _ l t3 aw3 (by omega) h hl hls hg
      refine GoodL.of (Good.seq cOrd_ok dr_ok h1 (Good.into (Good.block (rb_good hk (by omega) hrb ?_))))
      refine Good.run cOrd_ok dr_ok e2 fun E e ca w hE hS hR hA hX => ?_
      cases e <;> simp only [XRel] at hX
      have hI : Good Tryz.prog (cDraw Tryz.prog) fr (sy ρ os out ls) gonI2 (loopQ Tryz.prog (cDraw Tryz.prog) gonB2 (Exit.inBlock 2 (thenC Tryz.prog (cDraw Tryz.prog) (.seq gonS gonA) (Exit.inBlock 1 (thenC Tryz.prog (cDraw Tryz.prog) gonI (loopQ Tryz.prog (cDraw Tryz.prog) gonBody Q)))))) ⟨t2, 187, []⟩ aw2 := by
        refine Good.run cOrd_ok dr_ok e3 fun E e ca w hE hS hR hA hX => ?_
        cases e <;> simp only [XRel] at hX
        exact fun c hc => hnext c hc E ca w hE hS hA hR
      exact fun c hc => hI c hc E ca w hE hS hA hR
    · rw [bb2_eq] at h
      cases hf : fullB k kk R <;> simp only [hf, cond_true, cond_false, Bool.false_eq_true] at h hls hg
      rw [at7_eq] at h1
      exact leave h1 h hls hg
theorem cntB_eq (bs : List Bool) : cntB bs = bs.length := by induction bs with | nil => rfl | cons a l ih => exact congrArg Nat.succ ih
/-- the frames on which frame k hangs -/
noncomputable def refsAt (ρ : Nat → Nat) (k : Nat) : List Nat := refsF (ρ k % 256) k k 0 []
theorem sub_good {bs : List Bool} {pre : List Bool} (hk : cntB bs < 6) (h : subT bs pre = true) (hpre : ∀ j b, pre[j]? = some b → b = bitB (ρ (cntB bs) % 256) j) (hls : refsAt ρ (cntB bs) ≠ [] → ls (cntB bs) = refsAt ρ (cntB bs)) (hg : GS fr ρ os out ls Q (appB bs (someN (refsAt ρ (cntB bs))))) : GS fr ρ os out ls Q bs := by
  unfold subT at h
  obtain ⟨t1, aw1, e1, h⟩ := atNorm_ok h
  obtain ⟨t2, aw2, e2, h⟩ := atNorm_ok h
  obtain ⟨t3, aw3, e3, h⟩ := atNorm_ok h
  rw [at7_eq] at e1 e2 e3
  refine GoodL.of (Good.seq cOrd_ok dr_ok e1 (Good.into (Good.block (Good.seq cOrd_ok dr_ok e2 (Good.into (Good.seq cOrd_ok dr_ok e3 (Good.block (Good.loop ?_))))))))
  exact bit_good hk (cntB bs) 0 [] pre t3 aw3 (by omega) h (fun j b hj => by rw [Nat.zero_add]; exact hpre j b hj) hls hg
end
end Go.Proofs.YtbilacojhmohmaaGreat.Ae

namespace Go.Proofs.YtbilacojhmohmaaGreat.Ae
open Go
set_option linter.unusedVariables false
set_option linter.unusedSimpArgs false
noncomputable def gaOK : Option AV → Bool
  | some (.sym .u8 j) => Nat.beq j 14
  | _ => false
noncomputable def gaPut (t : Tr AV) : Tr AV := trSet (trSet (trSet (trSet t (nat_lit 38) .undef) (nat_lit 39) .undef) (nat_lit 40) .undef) (nat_lit 7) (.sym .i64 (nat_lit 12))
noncomputable def gonPre : Bool :=
  atNorm (nat_lit 187) (at7 gonP0 (tmOf [(0, .sym .u8 14), (1, .agg box6)] .leaf) (ofObjs [] 0)) fun t aw => atNorm (nat_lit 187) (at7A gonP1 t aw) fun t aw => atNorm (nat_lit 187) (at7 gonP2 t aw) fun t aw => atNorm (nat_lit 187) (at7 gonP3 t aw) fun t aw =>
    bb2 (gaOK (trGet t (nat_lit 0))) ((fun t => atNorm (nat_lit 187) (at7 gonP5 t aw) fun t aw => atNorm (nat_lit 187) (at7 gonI9 t aw) fun t aw => told (lenA gSt0) gSt0 gTm0 t aw) (gaPut t)) false
theorem gon_pre : gonPre = true := by kernel_rfl
section
variable {fr : Nat → Option Obj} {ρ : Nat → Nat} {os : Os} {out : Array (Nat × ByteArray)} {ls : Nat → List Nat} {Q : Post'}
theorem gaOK_ok {v : Option AV} (h : gaOK v = true) : v = some (.sym .u8 14) := by
  unfold gaOK at h
  split at h
  · rw [Nat.eq_of_beq_eq_true h]
  · cases h
def chkR (o : Nat) : Bool := match xbin .rem false (.int .u8 (.ofNat o)) (.int .u8 (.ofNat 6)) with
  | some (.int .u8 (.ofNat m)) => Nat.beq m (Nat.mod o 6)
  | _ => false
theorem chkR_all : allBel chkR 256 = true := by kernel_rfl
theorem chkR_ok {o : Nat} (h : o < 256) : xbin .rem false (.int .u8 (.ofNat o)) (.int .u8 (.ofNat 6)) = some (.int .u8 (.ofNat (o % 6))) := by
  have h := allBel_ok chkR_all o h
  unfold chkR at h
  split at h
  · rename_i m hm; rw [hm, Nat.eq_of_beq_eq_true h]; rfl
  · cases h
theorem wrapF64 {m : Nat} (h : m < 1000) : wrapF .i64 (.ofNat m) = .ofNat m := by
  rw [wrapF_eq]
  show IntKind.i64.wrap (m : Int) = (m : Int)
  simp [IntKind.wrap, IntKind.bits, IntKind.signed]
  omega
def gaT (t : Tr AV) (o : Nat) : Tr AV := (((t.set 38 38 (.int .u8 (.ofNat o))).set 39 39 (.int .u8 (.ofNat (o % 6)))).set 40 40 (.int .i64 (.ofNat (o % 6)))).set 7 7 (.int .i64 (.ofNat (o % 6)))
theorem ga_run {t : Tr AV} {aw : AW} {o : Nat} (ho : o < 256) (h0 : t.get 0 0 = some (.int .u8 (.ofNat o))) : xcode cOrd 1000 gonGA ⟨t, 187, []⟩ aw = some ⟨.norm, ⟨gaT t o, 187, []⟩, aw⟩ := by
  show xitems cOrd _ ⟨t, 187, []⟩ aw = _
  rw [xitems_op (v := .int .u8 (.ofNat o)) (aw' := aw) (by simp only [xop, Opd.ev, h0]) rfl]
  rw [xitems_op (v := .int .u8 (.ofNat (o % 6))) (aw' := aw) (by simp only [xop, Opd.ev, Tr.get_set_same, chkR_ok ho]) rfl]
  rw [xitems_op (v := .int .i64 (.ofNat (o % 6))) (aw' := aw) (by simp only [xop, Opd.ev, Tr.get_set_same, wrapF64 (show o % 6 < 1000 by omega)]) rfl]
  rw [xitems_op (v := .int .i64 (.ofNat (o % 6))) (aw' := aw) (by simp only [xop, Opd.ev, Tr.get_set_same]) rfl]
  rfl
theorem sym64 {E : Env} (hE : E.sym = sy ρ os out ls) {v : Value} (h : VRel E (.int .i64 (.ofNat (ρ 6 % 256))) v) : VRel E (.sym .i64 12) v := by
  cases h
  refine .sym _ (by rw [hE]; exact (rfl : symVal ρ 12 = some (Int.ofNat (ρ 6 % 256)))) ?_
  have : ρ 6 % 256 < 256 := Nat.mod_lt _ (by decide)
  show IntKind.i64.wrap ((ρ 6 % 256 : Nat) : Int) = ((ρ 6 % 256 : Nat) : Int)
  simp only [IntKind.wrap, IntKind.bits, IntKind.signed]
  simp
  omega
theorem ga_good {t : Tr AV} {aw : AW} {y : CC} (h : gaOK (trGet t 0) = true) (h67 : ρ 6 % 256 = ρ 7 % 256 % 6) (hg : G fr ρ os out ls y Q ⟨gaPut t, 187, []⟩ aw) : G fr ρ os out ls (.seq gonGA y) Q ⟨t, 187, []⟩ aw := by
  have h := gaOK_ok h
  rw [trGet_eq] at h
  intro c hc E ca w hE hS hA hR
  obtain ⟨c1, c2, rfl, h1, h2⟩ := inv_seq hc
  have hA0 : ActRel E ⟨t.set 0 0 (.int .u8 (.ofNat (ρ 7 % 256))), 187, []⟩ ca := ⟨hA.size, fun s v hv => by
    rcases Tr.get_set hv with ⟨rfl, rfl⟩ | ⟨n1, hv⟩
    · obtain ⟨x, hx, hr⟩ := hA.tmps _ _ h
      exact ⟨x, hx, (sym_iff hS 7 x).1 hr⟩
    · exact hA.tmps s v hv, hA.defs⟩
  have hrun := ga_run (aw := aw) (o := ρ 7 % 256) (Nat.mod_lt _ (by decide)) (t := t.set 0 0 (.int .u8 (.ofNat (ρ 7 % 256)))) (Tr.get_set_same _ _)
  refine wp_seq (wp_mono (code_sound cOrd_ok dr_ok _ h1 hrun hA0 hR).1 fun e' a' w' ⟨E', hle, g1, g2, g3⟩ => ?_)
  cases e' <;> simp only [XRel] at g3
  have hS' : E'.sym = sy ρ os out ls := hle.2.1.trans hS
  refine hg c2 h2 E' a' w' (hle.2.2.1.trans hE) hS' ⟨g2.size, fun s v hv => ?_, g2.defs⟩ g1
  simp only [gaPut, trSet_eq] at hv
  have key : ∃ v', (gaT (t.set 0 0 (.int .u8 (.ofNat (ρ 7 % 256)))) (ρ 7 % 256)).get s s = some v' ∧ ∀ x, VRel E' v' x → VRel E' v x := by
    simp only [gaT]
    rcases Tr.get_set hv with ⟨rfl, rfl⟩ | ⟨n1, hv⟩
    · exact ⟨_, Tr.get_set_same _ _, fun x hx => sym64 hS' (by rw [h67]; exact hx)⟩
    simp only [Tr.get_set_other n1]
    rcases Tr.get_set hv with ⟨rfl, rfl⟩ | ⟨n2, hv⟩
    · exact ⟨_, Tr.get_set_same _ _, fun x hx => .undef _⟩
    simp only [Tr.get_set_other n2]
    rcases Tr.get_set hv with ⟨rfl, rfl⟩ | ⟨n3, hv⟩
    · exact ⟨_, Tr.get_set_same _ _, fun x hx => .undef _⟩
    simp only [Tr.get_set_other n3]
    rcases Tr.get_set hv with ⟨rfl, rfl⟩ | ⟨n4, hv⟩
    · exact ⟨_, Tr.get_set_same _ _, fun x hx => .undef _⟩
    simp only [Tr.get_set_other n4]
    by_cases h0 : s = 0
    · subst h0
      rw [h] at hv; injection hv with hv; subst hv
      exact ⟨_, Tr.get_set_same _ _, fun x hx => (sym_iff hS' 7 x).2 hx⟩
    · exact ⟨v, (Tr.get_set_other h0 _ _ _).trans hv, fun x hx => hx⟩
  obtain ⟨v', k1, k2⟩ := key
  obtain ⟨z, hz, hr⟩ := g2.tmps s v' k1
  exact ⟨z, hz, k2 z hr⟩
theorem pre_good (h67 : ρ 6 % 256 = ρ 7 % 256 % 6) (hg : GS fr ρ os out ls (Exit.inBlock 0 (thenC Tryz.prog (cDraw Tryz.prog) gonAll2 Q)) []) : G fr ρ os out ls gonAll Q ⟨tmOf [(0, .sym .u8 14), (1, .agg box6)] .leaf, 187, []⟩ (ofObjs [] 0) := by
  have hp := gon_pre
  unfold gonPre at hp
  obtain ⟨t0, aw0, e0, hp⟩ := atNorm_ok hp
  obtain ⟨t1, aw1, e1, hp⟩ := atNorm_ok hp
  obtain ⟨t2, aw2, e2, hp⟩ := atNorm_ok hp
  obtain ⟨t3, aw3, e3, hp⟩ := atNorm_ok hp
  rw [bb2_eq] at hp
  cases hga : gaOK (trGet t3 (nat_lit 0)) <;> simp only [hga, cond_true, cond_false, Bool.false_eq_true] at hp
  obtain ⟨t4, aw4, e4, hp⟩ := atNorm_ok hp
  obtain ⟨t5, aw5, e5, hp⟩ := atNorm_ok hp
  rw [at7_eq] at e0 e2 e3 e4 e5
  rw [at7A_eq] at e1
  refine Good.seq cOrd_ok dr_ok e0 (Good.seq cTop_ok drA_ok e1 (Good.seq cOrd_ok dr_ok e2 (Good.seq cOrd_ok dr_ok e3 (ga_good hga h67 (Good.seq cOrd_ok dr_ok e4 (Good.into (Good.seq cOrd_ok dr_ok e5 (Good.block (Good.loop ?_)))))))))
  exact GoodL.told (a := ⟨t5, 187, []⟩) hp rfl hg
end
end Go.Proofs.YtbilacojhmohmaaGreat.Ae

namespace Go.Proofs.YtbilacojhmohmaaGreat.Ae
open Go
set_option linter.unusedVariables false
set_option linter.unusedSimpArgs false
noncomputable def refsB (k o : Nat) : Bool := (fun R => bb2 (someN R) (memLL R (optsN k)) true) (refsF o k k (nat_lit 0) [])
theorem refs_all : allBel (fun k => allBel (refsB k) (nat_lit 256)) (nat_lit 6) = true := by kernel_rfl
theorem refs_ok (ρ : Nat → Nat) {k : Nat} (hk : k < 6) : refsAt ρ k = [] ∨ refsAt ρ k ∈ optsN k := by
  have h := allBel_ok (allBel_ok refs_all k hk) (ρ k % 256) (Nat.mod_lt _ (by decide))
  have h : bb2 (someN (refsAt ρ k)) (memLL (refsAt ρ k) (optsN k)) true = true := h
  rw [bb2_eq] at h
  cases hs : someN (refsAt ρ k) with
  | true => rw [hs] at h; exact .inr (memLL_ok h)
  | false =>
    cases hr : refsAt ρ k with
    | nil => exact .inl rfl
    | cons x R => rw [hr] at hs; cases hs
end Go.Proofs.YtbilacojhmohmaaGreat.Ae

namespace Go.Proofs.YtbilacojhmohmaaGreat.Ae
open Go
set_option linter.unusedVariables false
set_option linter.unusedSimpArgs false
section
variable {fr : Nat → Option Obj} {ρ : Nat → Nat} {os : Os} {out : Array (Nat × ByteArray)} {ls : Nat → List Nat} {Q : Post'}
theorem GoodL.as' {P : Program} {dr : Array Oper → Option (List CR × List CR)} {sy : SymW} {b : CC} {a a' : AAct} {aw : AW} (hw : ∀ E ca, E.sym = sy → ActRel E a ca → ActRel E a' ca) (hg : GoodL P dr fr sy b Q a' aw) : GoodL P dr fr sy b Q a aw := by
  intro c hc E ca w hE hS hA hR
  exact hg c hc E ca w hE hS (hw E ca hS hA) hR
theorem goodL_retok {c : CC} {q o j j' : Nat} {t : Tr AV} {aw aw' : AW} (h : retok q o j j' aw = some aw') (hls : ls j' = ls j) (hk : okL j' (ls j)) (hg : GL fr ρ os out ls c Q ⟨t, 187, []⟩ aw') : GL fr ρ os out ls c Q ⟨t, 187, []⟩ aw := by
  intro cd hc E ca w hE hS hA hR
  exact hg cd hc E ca w hE hS hA (retok_ok h hR (by rw [hS]; exact hls) (by rw [hS]; exact hk))

/-- of what kind is each event: who is lost, who hangs on one that is concealed -/
def kindsF (g : Nat) (ls : Nat → List Nat) : List Bool → Nat → Nat → List Nat → List Nat
  | [], _, _, ks => ks
  | b :: bs, q, mask, ks => if q = g then kindsF g ls bs (q + 1) (mask + 2 ^ (q + 1)) (ks ++ [2])
    else if b = true ∧ g < q then
      (if (ls q).any (fun x => Nat.testBit mask x) = true then kindsF g ls bs (q + 1) (mask + 2 ^ (q + 1)) (ks ++ [2]) else kindsF g ls bs (q + 1) mask (ks ++ [1]))
    else kindsF g ls bs (q + 1) mask (ks ++ [1])
theorem retA_good {lq g : Nat} {f : List Nat → AW → Bool} {t : Tr AV} {c : CC} (hm : ∀ j, ls j = ls (j % 8)) {ks' : List Nat} :
    ∀ (bs : List Bool) (q mask : Nat) (ks : List Nat) (aw : AW), q + bs.length ≤ 6 → retA lq g f bs q mask ks [] aw = true → (∀ j, bs[j]? = some true → ls (q + j) ∈ optsN (q + j)) → kindsF g ls bs q mask ks = ks' →
      (∀ aw', f ks' aw' = true → GL fr ρ os out ls c Q ⟨t, 187, []⟩ aw') → GL fr ρ os out ls c Q ⟨t, 187, []⟩ aw := by
  intro bs
  induction bs with
  | nil =>
    intro q mask ks aw hq h ho hk hg
    have h : f ks aw = true := h
    have hk : ks = ks' := hk
    subst hk
    exact hg aw h
  | cons b bs ih =>
    intro q mask ks aw hq h ho hk hg
    have hq' : q + 1 + bs.length ≤ 6 := by simp at hq; omega
    have ho' : ∀ j, bs[j]? = some true → ls (q + 1 + j) ∈ optsN (q + 1 + j) := fun j hj => by
      have := ho (j + 1) (by simpa using hj)
      rw [show q + 1 + j = q + (j + 1) by omega]; exact this
    have h : bb2 (Nat.beq q g) (retA lq g f bs (q + 1) (mask + 2 ^ (q + 1)) (snocN ks 2) [] aw)
      (bb2 (bb2 b (Nat.ble (g + 1) q) false)
        (bb2 (ob1 (retok lq (6 * q + 2) q (q + 16 + 32 * mask) aw) fun aw => retA lq g f bs (q + 1) (mask + 2 ^ (q + 1)) (snocN ks 2) [] aw)
          (ob1 (retok lq (6 * q + 2) q (q + 8 + 32 * mask) aw) fun aw => retA lq g f bs (q + 1) mask (snocN ks 1) [] aw) false)
        (retA lq g f bs (q + 1) mask (snocN ks 1) [] aw)) = true := h
    simp only [bb2_eq, snocN_eq] at h
    unfold kindsF at hk
    cases h1 : Nat.beq q g with
    | true =>
      have := Nat.eq_of_beq_eq_true h1; subst this
      simp only [h1, cond_true] at h
      rw [if_pos rfl] at hk
      exact ih _ _ _ _ hq' h ho' hk hg
    | false =>
      have hne : q ≠ g := fun e => by subst e; rw [Nat.beq_refl] at h1; cases h1
      simp only [h1, cond_false] at h
      rw [if_neg hne] at hk
      cases b with
      | false =>
        simp only [cond_false] at h
        rw [if_neg (by simp)] at hk
        exact ih _ _ _ _ hq' h ho' hk hg
      | true =>
        simp only [cond_true] at h
        cases h2 : Nat.ble (g + 1) q with
        | false =>
          simp only [h2, cond_false] at h
          rw [if_neg (fun e => by rw [Nat.ble_eq_true_of_le e.2] at h2; cases h2)] at hk
          exact ih _ _ _ _ hq' h ho' hk hg
        | true =>
          have h2' := Nat.le_of_ble_eq_true h2
          simp only [h2, cond_true] at h
          rw [if_pos ⟨rfl, h2'⟩] at hk
          have hmem : ls q ∈ optsN q := by simpa using ho 0 rfl
          have hq6 : q < 8 := by simp at hq; omega
          have tok : ∀ x : Nat, x < 4 → ls (q + 8 * x + 32 * mask) = ls q ∧ (q + 8 * x + 32 * mask) % 8 = q ∧ (q + 8 * x + 32 * mask) / 8 % 4 = x ∧ (q + 8 * x + 32 * mask) / 32 = mask := fun x hx => by
            have e : (q + 8 * x + 32 * mask) % 8 = q := by omega
            exact ⟨by rw [hm (q + 8 * x + 32 * mask), e], e, by omega, by omega⟩
          cases h3 : (ob1 (retok lq (6 * q + 2) q (q + 16 + 32 * mask) aw) fun aw => retA lq g f bs (q + 1) (mask + 2 ^ (q + 1)) (ks ++ [2]) [] aw) with
          | false => rw [h3] at h; cases h
          | true =>
            rw [h3] at h
            simp only [cond_true] at h
            cases hit : (ls q).any (fun x => Nat.testBit mask x) with
            | true =>
              rw [if_pos hit] at hk
              obtain ⟨aw1, e1, h4⟩ := ob1_ok h3
              obtain ⟨t1, t2, t3, t4⟩ := tok 2 (by omega)
              refine goodL_retok e1 t1 ?_ (ih _ _ _ _ hq' h4 ho' hk hg)
              refine List.mem_filter.2 ⟨by rw [t2]; exact hmem, ?_⟩
              unfold metB
              rw [show Nat.beq ((q + 8 * 2 + 32 * mask) / 8 % 4) 1 = false by rw [t3]; rfl, show Nat.beq ((q + 8 * 2 + 32 * mask) / 8 % 4) 2 = true by rw [t3]; rfl, t4]
              exact hit
            | false =>
              rw [if_neg (by rw [hit]; simp)] at hk
              obtain ⟨aw1, e1, h4⟩ := ob1_ok h
              obtain ⟨t1, t2, t3, t4⟩ := tok 1 (by omega)
              refine goodL_retok e1 t1 ?_ (ih _ _ _ _ hq' h4 ho' hk hg)
              refine List.mem_filter.2 ⟨by rw [t2]; exact hmem, ?_⟩
              unfold metB
              rw [show Nat.beq ((q + 8 * 1 + 32 * mask) / 8 % 4) 1 = true by rw [t3]; rfl, t4]
              simp only [cond_true, List.all_eq_true]
              intro x hx
              have := List.any_eq_false.1 hit x hx
              simpa using this

theorem rounds_good {n : Nat} {f : Tr AV → AW → Bool} {t : Tr AV} {aw : AW} (h : rounds n f t aw = true) (hg : ∀ t' aw', f t' aw' = true → GL fr ρ os out ls gonB4 Q ⟨t', 187, []⟩ aw') : GL fr ρ os out ls gonB4 Q ⟨t, 187, []⟩ aw := by
  induction n generalizing t aw with
  | zero => exact hg t aw h
  | succ n ih =>
    have h : atNorm 187 (at7 gonB4 t aw) (rounds n f) = true := h
    obtain ⟨t1, aw1, e1, h⟩ := atNorm_ok h
    rw [at7_eq] at e1
    exact GoodL.round cOrd_ok dr_ok e1 (ih h)
/-- at the last loop -/
def GF (fr : Nat → Option Obj) (ρ : Nat → Nat) (os : Os) (out : Array (Nat × ByteArray)) (ls : Nat → List Nat) (Q : Post') (bs : List Bool) (ks : List Nat) (g : Nat) : Prop :=
  GL fr ρ os out ls gonB8 (Exit.inBlock 8 (thenC Tryz.prog (cDraw Tryz.prog) gonTail Q)) ⟨tmOf (fTm g) .leaf, 187, []⟩ (ofObjs (fSt bs ks g) (lenA (fSt bs ks g)))
theorem fin10_good {bs : List Bool} {g : Nat} {ks : List Nat} {t : Tr AV} {aw : AW} (h : fin10 bs g t ks aw = true) (hg : GF fr ρ os out ls Q bs ks g) :
    GL fr ρ os out ls gonB4 (Exit.inBlock 4 (thenC Tryz.prog (cDraw Tryz.prog) (.seq gonP9 (.seq (.seq gonI20 (.block 8 (.loop gonB8))) gonTail)) Q)) ⟨t, 187, []⟩ aw := by
  unfold fin10 at h
  obtain ⟨t1, aw1, e1, h⟩ := atNorm_ok h
  obtain ⟨t2, aw2, e2, h⟩ := atExit_ok h
  obtain ⟨t3, aw3, e3, h⟩ := atNorm_ok h
  obtain ⟨t4, aw4, e4, h⟩ := atNorm_ok h
  rw [at7_eq] at e1 e2 e3 e4
  refine GoodL.round cOrd_ok dr_ok e1 ?_
  have hx : xcode cOrd 1001 gonB4 ⟨t1, 187, []⟩ aw1 = some ⟨.exit 4, ⟨t2, 187, []⟩, aw2⟩ := by
    show (match xcode cOrd 1000 gonT4 ⟨t1, 187, []⟩ aw1 with
      | some o => (match o.x with
        | .norm => xcode cOrd 1000 (.seq (.block 5 (.seq gonTK (.seq gonQL (.block 6 (.loop gonB6))))) gonI4) o.act o.aw
        | _ => some o)
      | none => none) = _
    rw [e2]
  refine GoodL.leave cOrd_ok dr_ok hx (Good.seq cOrd_ok dr_ok e3 (Good.into (Good.seq cOrd_ok dr_ok e4 (Good.block (Good.loop ?_)))))
  have h : told (lenA (fSt bs ks g)) (fSt bs ks g) (fTm g) t4 aw4 = true := h
  exact GoodL.told (a := ⟨t4, 187, []⟩) h rfl hg
theorem tick_good {bs : List Bool} {g : Nat} (hlen : bs.length = 6) (h : tickA bs g [] = true) (hg6 : ρ 6 % 256 = g) (hm : ∀ j, ls j = ls (j % 8)) (ho : ∀ j, bs[j]? = some true → ls j ∈ optsN j) (hg : GF fr ρ os out ls Q bs (kindsF g ls bs 0 0 []) g) :
    GS fr ρ os out ls (Exit.inBlock 0 (thenC Tryz.prog (cDraw Tryz.prog) gonAll2 Q)) bs := by
  unfold tickA tickB at h
  obtain ⟨t1, aw1, e1, h⟩ := atExit_ok h
  obtain ⟨t2, aw2, e2, h⟩ := atNorm_ok h
  obtain ⟨t3, aw3, e3, h⟩ := atNorm_ok h
  rw [at7_eq] at e1 e2 e3
  have hc : cntB bs = 6 := by rw [cntB_eq, hlen]
  have hst : gSt bs = gSt1 bs 6 := by
    cases bs with
    | nil => cases hlen
    | cons b bs => show gSt1 (b :: bs) (cntB (b :: bs)) = _; rw [hc]
  have htm : gTm bs = gTm1 6 := by
    cases bs with
    | nil => cases hlen
    | cons b bs => show gTm1 (cntB (b :: bs)) = _; rw [hc]
  unfold GS
  rw [hst, htm]
  refine GoodL.as' (a' := ⟨tmOf (gTmG g) .leaf, 187, []⟩) (fun E ca hS hA => retm (fun s v' hm' => ?_) hA) ?_
  · simp only [gTmG, List.mem_cons, List.not_mem_nil, or_false, Prod.mk.injEq] at hm'
    rcases hm' with ⟨rfl, rfl⟩ | ⟨rfl, rfl⟩ | ⟨rfl, rfl⟩ | ⟨rfl, rfl⟩ | ⟨rfl, rfl⟩
    · exact ⟨vP 0, by kernel_rfl, fun x hx => hx⟩
    · exact ⟨vP 1, by kernel_rfl, fun x hx => hx⟩
    · refine ⟨.sym .i64 12, by kernel_rfl, fun x hx => ?_⟩
      cases hx with
      | sym _ h1 hw =>
        rw [hS] at h1
        have h1 : symVal ρ 12 = some _ := h1
        have hs : symVal ρ 12 = some (Int.ofNat (ρ 6 % 256)) := rfl
        rw [hs, hg6] at h1
        injection h1 with h1
        rw [← h1]; exact .int _ _
    · exact ⟨.slc (some (2, 0)) 6 (.upto 6 6), by kernel_rfl, fun x hx => hx⟩
    · exact ⟨vI 6, by kernel_rfl, fun x hx => hx⟩
  · have hx : xcode cOrd 1001 gonBody ⟨tmOf (gTmG g) .leaf, 187, []⟩ (ofObjs (gSt1 bs 6) (lenA (gSt1 bs 6))) = some ⟨.exit 0, ⟨t1, 187, []⟩, aw1⟩ := by
      show (match xcode cOrd 1000 gonT ⟨tmOf (gTmG g) .leaf, 187, []⟩ (ofObjs (gSt1 bs 6) (lenA (gSt1 bs 6))) with
        | some o => (match o.x with
          | .norm => xcode cOrd 1000 (.seq (.block 1 gonIn) gonI) o.act o.aw
          | _ => some o)
        | none => none) = _
      rw [e1]
    refine GoodL.leave cOrd_ok dr_ok hx (Good.seq cOrd_ok dr_ok e2 (Good.into (Good.seq cOrd_ok dr_ok e3 (Good.block (Good.loop ?_)))))
    refine rounds_good h fun t' aw' h' => ?_
    exact retA_good hm bs 0 0 [] aw' (by omega) h' (fun j hj => by rw [Nat.zero_add]; exact ho j hj) rfl fun aw2 h2 => fin10_good h2 hg
end
end Go.Proofs.YtbilacojhmohmaaGreat.Ae

namespace Go.Proofs.YtbilacojhmohmaaGreat.Ae
open Go
set_option linter.unusedVariables false
set_option linter.unusedSimpArgs false
theorem upon_mono2 {P : Program} {o : Oper} {a : Act} {N N' : Act → World → Prop} {Q Q' : Exit → Act → World → Prop} {r : Result Next} (hN : ∀ a w, N a w → N' a w) (hQ : ∀ e a w, e ≠ .normal → Q e a w → Q' e a w) (h : o.upon P a N Q r) : o.upon P a N' Q' r := by
  unfold Oper.upon at h ⊢
  split at h
  · exact hN _ _ h
  · exact hN _ _ h
  · exact hN _ _ h
  · refine Calls.mono h fun e w he => ?_
    cases e with
    | returned v => exact hN _ _ he
    | panicked ch => exact hQ _ _ _ (by simp) he
    | outgrown => obtain ⟨a, w, he⟩ := he; exact ⟨a, w, hQ _ _ _ (by simp) he⟩
  · exact Rows.mono h fun v w he => hN _ _ he
  · exact hQ _ _ _ (by simp) h
  · exact h.elim
theorem wpOps_append {P : Program} {ops : Array Oper} {Q : Exit → Act → World → Prop} {l2 : List Nat} : ∀ {l1 : List Nat} {ca : Act} {w : World}, wpOps P ops (fun e a w => match e with | .normal => wpOps P ops Q l2 a w | e => Q e a w) l1 ca w → wpOps P ops Q (l1 ++ l2) ca w
  | [], ca, w, h => h
  | i :: l1, ca, w, h => by
    show wpOps P ops Q (i :: (l1 ++ l2)) ca w
    simp only [wpOps] at h ⊢
    cases ho : ops[i]? with
    | none => simp only [ho] at h ⊢; exact wpOps_append h
    | some o =>
      simp only [ho] at h ⊢
      split at h
      · rename_i hw
        rw [if_pos hw]
        rcases h with h | ⟨h1, h2⟩
        · refine .inl (upon_mono2 (fun a w h => wpOps_append h) (fun e a w hne h => ?_) h)
          cases e <;> first | exact (hne rfl).elim | exact h
        · refine .inr ⟨h1, ?_⟩
          obtain ⟨a, w, h2⟩ := h2
          exact ⟨a, w, h2⟩
      · rename_i hw
        rw [if_neg hw]
        exact wpOps_append h
theorem items_split {P : Program} {ops : Array Oper} : ∀ {l : List Nat} {m1 m2 : List CR}, cItems P ops l = some (m1 ++ m2) → ∃ l1 l2, l = l1 ++ l2 ∧ cItems P ops l1 = some m1 ∧ cItems P ops l2 = some m2
  | l, [], m2, h => ⟨[], l, rfl, rfl, h⟩
  | [], c :: m1, m2, h => by simp [cItems] at h
  | i :: l, c :: m1, m2, h => by
    simp only [cItems] at h
    split at h <;> (try (cases h; done))
    rename_i o ho
    split at h <;> (try (cases h; done))
    rename_i c' hc
    split at h <;> (try (cases h; done))
    rename_i m hm
    simp only [List.cons_append, Option.some.injEq, List.cons.injEq] at h
    obtain ⟨rfl, rfl⟩ := h
    obtain ⟨l1, l2, rfl, h1, h2⟩ := items_split hm
    exact ⟨i :: l1, l2, rfl, by simp only [cItems, ho, hc, h1], h2⟩
theorem inv_region {P : Program} {dr : Array Oper → Option (List CR × List CR)} {c : Code} {l : List CR} (h : cCode P dr c = some (.region l)) : ∃ id ops, c = .region id ops false ∧ cItems P ops (List.range ops.size) = some l := by
  cases c <;> simp only [cCode] at h <;> (try (cases h; done))
  · split at h <;> split at h <;> simp at h
    subst h
    exact ⟨_, _, rfl, by assumption⟩
  · split at h <;> (try (cases h; done))
    split at h <;> (try (cases h; done))
  · split at h <;> (try (cases h; done))
    split at h <;> (try (cases h; done))
    split at h <;> (try (cases h; done))
  · split at h <;> (try (cases h; done))
  · split at h <;> (try (cases h; done))
section
variable {fr : Nat → Option Obj} {ρ : Nat → Nat} {os : Os} {out : Array (Nat × ByteArray)} {ls : Nat → List Nat} {Q : Post'}
theorem good_call {pre post : List CR} {d f : Nat} {ags : List Opd} {y : CC} {t t1 t3 : Tr AV} {aw aw1 aw2 aw3 : AW} {vs : List AV} {v : AV} (h1 : xitems cOrd pre ⟨t, 187, []⟩ aw = some ⟨.norm, ⟨t1, 187, []⟩, aw1⟩) (hv : evs t1 ags = some vs)
    (hf : callable Tryz.prog f = true) (hcall : ∀ E w cargs, E.sym = sy ρ os out ls → LRel E vs cargs → Rel E aw1 w → Calls Tryz.prog f cargs.toArray w fun e w' => ∃ E', E.Le E' ∧ ResRel E' (.ret v aw2) e w')
    (hd : Nat.blt d 187 = true) (h2 : xitems cOrd post ⟨t1.set d d v, 187, []⟩ aw2 = some ⟨.norm, ⟨t3, 187, []⟩, aw3⟩) (hy : G fr ρ os out ls y Q ⟨t3, 187, []⟩ aw3) :
    G fr ρ os out ls (.seq (.region (pre ++ (.call (some d) none f ags :: post))) y) Q ⟨t, 187, []⟩ aw := by
  intro c hc E ca w hE hS hA hR
  obtain ⟨c1, c2, rfl, hc1, hc2⟩ := inv_seq hc
  obtain ⟨id, ops, rfl, hi⟩ := inv_region hc1
  obtain ⟨l1, l2, hl, hi1, hi2⟩ := items_split hi
  refine wp_seq (wp_region ?_)
  rw [hl]
  refine wpOps_append (items_sound cOrd_ok l1 hi1 h1 hA hR fun e a1 w1 ⟨E1, hle1, hR1, hA1, hX1⟩ => ?_)
  cases e <;> simp only [XRel] at hX1
  show wpOps Tryz.prog ops _ l2 a1 w1
  cases l2 with
  | nil => simp [cItems] at hi2
  | cons i l2 =>
    simp only [cItems] at hi2
    split at hi2 <;> (try (cases hi2; done))
    rename_i o ho
    split at hi2 <;> (try (cases hi2; done))
    rename_i c' hci
    split at hi2 <;> (try (cases hi2; done))
    rename_i m hm
    simp only [Option.some.injEq, List.cons.injEq] at hi2
    obtain ⟨rfl, rfl⟩ := hi2
    simp only [wpOps, ho]
    unfold cItem at hci
    split at hci
    · rename_i f' args ts hop
      split at hci <;> (try (cases hci; done))
      rename_i g hg
      split at hci <;> (try (cases hci; done))
      rename_i as' has
      split at hci
      · rename_i f'' 
        simp only [Option.some.injEq, CR.call.injEq] at hci
        obtain ⟨e1, e2, rfl, rfl⟩ := hci
        subst e2
        have hg1 : xguard (⟨t1, 187, []⟩ : AAct) none = some true := rfl
        rw [guard_sound hg hg1 hA1, if_pos rfl]
        refine .inl ?_
        unfold Oper.wp
        rw [exec_call hop rfl (rfl : a1.eval (.func f'') = .func (.func f'') #[] #[]) hf]
        rw [Oper.upon_enter]
        have harr : (#[] ++ args.map a1.eval ++ #[] : Array Value) = (args.toList.map a1.eval).toArray := by apply Array.ext'; simp
        have hcl := hcall E1 w1 _ ((hle1.2.1).trans hS) (opds_sound hA1 has hv) hR1
        rw [harr]
        refine hcl.mono fun e w2 ⟨E2, hle2, hres⟩ => ?_
        cases e with
        | panicked ch => exact hres.elim
        | outgrown => exact hres.elim
        | returned cv =>
          obtain ⟨hR2, hv2⟩ := hres
          have hput : (⟨t1, 187, []⟩ : AAct).put (some d) v = some ⟨t1.set d d v, 187, []⟩ := by simp only [AAct.put, hd, cond_true]
          have hA2 := put_sound hput (hA1.mono hle2) hv2
          show wpOps Tryz.prog ops _ l2 (a1.put o.dst cv) w2
          rw [e1]
          refine items_sound cOrd_ok l2 hm h2 hA2 hR2 fun e a3 w3 ⟨E3, hle3, hR3, hA3, hX3⟩ => ?_
          cases e <;> simp only [XRel] at hX3
          have hle := (hle1.trans hle2).trans hle3
          exact hy c2 hc2 E3 a3 w3 (hle.2.2.1.trans hE) (hle.2.1.trans hS) hA3 hR3
      · split at hci <;> simp at hci
    · split at hci <;> (try (cases hci; done))
      split at hci <;> (try (cases hci; done))
      split at hci <;> simp at hci
    · split at hci <;> (try (cases hci; done))
      split at hci <;> simp at hci
    · split at hci <;> (try (cases hci; done))
      split at hci <;> simp at hci
end
end Go.Proofs.YtbilacojhmohmaaGreat.Ae
