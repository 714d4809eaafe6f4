/- TopOrder: where every order was run, the law's code answers true. No condition. -/
import Derived.Test.YtbilacojhmohmaaGreatOrdEx
namespace Go.Proofs.YtbilacojhmohmaaGreat.Ae
open Go
set_option linter.unusedVariables false
set_option linter.unusedSimpArgs false
section
variable {fr : Nat → Option Obj} {ρ : Nat → Nat} {os : Os} {out : Array (Nat × ByteArray)} {Q : Post'}
abbrev sy (ρ : Nat → Nat) (os : Os) (out : Array (Nat × ByteArray)) : SymW := ⟨symVal ρ, os, out⟩
abbrev G (fr : Nat → Option Obj) (ρ : Nat → Nat) (os : Os) (out : Array (Nat × ByteArray)) := Good Tryz.prog (cDraw Tryz.prog) fr (sy ρ os out)
abbrev GL (fr : Nat → Option Obj) (ρ : Nat → Nat) (os : Os) (out : Array (Nat × ByteArray)) := GoodL Tryz.prog (cDraw Tryz.prog) fr (sy ρ os out)
theorem at6_eq (c : CC) (t : Tr AV) (aw : AW) : at6 c t aw = xcode cOrd 1000 c ⟨t, 165, []⟩ aw := kCode_eq cOrd c 1000 t 165 [] aw
theorem at6A_eq (c : CC) (t : Tr AV) (aw : AW) : at6A c t aw = xcode cTop 1000 c ⟨t, 165, []⟩ aw := kCode_eq cTop c 1000 t 165 [] aw
theorem dr_ok : DrawOK Tryz.prog cOrd (cDraw Tryz.prog) := draw_all _ cOrd_ok
theorem drA_ok : DrawOK Tryz.prog cTop (cDraw Tryz.prog) := draw_all _ cTop_ok

/-- it is left with true -/
def TrueQ (fr : Nat → Option Obj) (os : Os) (out : Array (Nat × ByteArray)) (s : Nat) : Post' := fun e ca w => e = .ret ∧ ca.defers = [] ∧ ca.tmps[s]? = some (.bool true) ∧ w.os = os ∧ w.output = out ∧ ∀ b o, fr b = some o → w.heap[b]? = some o
theorem tail_good {t : Tr AV} {aw : AW} (ht : atRet6 (at6 ordTail t aw) = true) : G fr ρ os out ordTail (TrueQ fr os out 2) ⟨t, 165, []⟩ aw := by
  rw [at6_eq] at ht
  cases hx : xcode cOrd 1000 ordTail ⟨t, 165, []⟩ aw with
  | none => rw [hx] at ht; cases ht
  | some o =>
    rw [hx] at ht
    obtain ⟨x, ⟨t, n, ds⟩, aw⟩ := o
    cases x with
    | norm => cases ht
    | exit _ => cases ht
    | panic _ => cases ht
    | ret =>
      cases ds with
      | cons d l => cases ht
      | nil =>
        have ht : isTrue6 (trGet t 2) = true := ht
        rw [trGet_eq] at ht
        refine Good.run cOrd_ok dr_ok hx fun E e ca w hE hS hR hA hX => ?_
        cases e <;> simp only [XRel] at hX
        refine ⟨rfl, ?_, ?_, ?_, ?_, fun b ob hb => hR.frame b ob (by rw [hE]; exact hb)⟩
        · have := hA.defs
          generalize ca.defers = df at this
          cases this; rfl
        · cases hv : t.get 2 2 with
          | none => rw [hv] at ht; cases ht
          | some v =>
            rw [hv] at ht
            cases v <;> first | cases ht | skip
            obtain ⟨x, hx, hr⟩ := hA.tmps 2 _ hv
            cases hr
            exact hx
        · rw [hR.ns.2.1, hS]
        · rw [hR.ns.2.2, hS]

theorem isI64_ok {v : Option AV} {n : Nat} (h : isI64 v n = true) : v = some (.int .i64 (.ofNat n)) := by
  unfold isI64 at h
  split at h
  · rw [Nat.eq_of_beq_eq_true h]
  · cases h
theorem isBoxP_ok {v : Option AV} (h : isBoxP v = true) : v = some (.ptr (some (0, 0))) := by
  unfold isBoxP at h
  split at h
  · rfl
  · cases h
theorem isBox_ok {o : Option AO} (h : isBox o = true) : ∃ e b, o = some (.cells box6 e b) := by
  unfold isBox at h
  split at h
  · rename_i a b c d e f q r
    simp only [bb2_eq] at h
    cases h1 : Nat.beq a 0 <;> simp only [h1, cond_true, cond_false, Bool.false_eq_true] at h
    cases h2 : Nat.beq b 2 <;> simp only [h2, cond_true, cond_false, Bool.false_eq_true] at h
    cases h3 : Nat.beq c 4 <;> simp only [h3, cond_true, cond_false, Bool.false_eq_true] at h
    cases h4 : Nat.beq d 6 <;> simp only [h4, cond_true, cond_false, Bool.false_eq_true] at h
    cases h5 : Nat.beq e 8 <;> simp only [h5, cond_true, cond_false, Bool.false_eq_true] at h
    rw [Nat.eq_of_beq_eq_true h1, Nat.eq_of_beq_eq_true h2, Nat.eq_of_beq_eq_true h3, Nat.eq_of_beq_eq_true h4, Nat.eq_of_beq_eq_true h5, Nat.eq_of_beq_eq_true h]
    exact ⟨_, _, rfl⟩
  · cases h
/-- order i is read, and what is left of it by n -/
def raT (t : Tr AV) (i n o : Nat) : Tr AV := ((((((t.set 63 63 (.int .i64 (.ofNat i))).set 64 64 (.ptr (some (0, 0 + i * 1)))).set 65 65 (.int .u8 (.ofNat o))).set 66 66 (.int .i64 (.ofNat o))).set 67 67 (.int .i64 (.ofNat n))).set 68 68 (.int .i64 (.ofNat (o % n)))).set 11 11 (.int .i64 (.ofNat (o % n)))
theorem wrapF64 {m : Nat} (h : m < 1000) : wrapF .i64 (.ofNat m) = .ofNat m := by
  rw [wrapF_eq]
  show IntKind.i64.wrap (m : Int) = (m : Int)
  simp [IntKind.wrap, IntKind.bits, IntKind.signed]
  omega
theorem xitems_op {call : Call} {d n : Nat} {c : COp} {l : List CR} {t : Tr AV} {ds : List ADef} {aw aw' : AW} {v : AV} (h : xop t aw c = some (v, aw')) (hd : Nat.blt d n = true) : xitems call (.op (some d) none c :: l) ⟨t, n, ds⟩ aw = xitems call l ⟨t.set d d v, n, ds⟩ aw' := by
  simp only [xitems, xguard, h, AAct.put, hd, cond_true]
theorem ra_run {t : Tr AV} {aw : AW} {i n o : Nat} {l : List AV} {e : TypeId} {b : Bool} (h9 : t.get 9 9 = some (.int .i64 (.ofNat i))) (h1 : t.get 1 1 = some (.ptr (some (0, 0)))) (h10 : t.get 10 10 = some (.int .i64 (.ofNat n))) (hg : aw.get 0 = some (.cells l e b)) (hl : l[i]? = some (.int .u8 (.ofNat o))) (hi : i < 6) (hn : 0 < n) (hn2 : n < 1000) (ho : o < 256) :
    xcode cOrd 1000 ordRA ⟨t, 165, []⟩ aw = some ⟨.norm, ⟨raT t i n o, 165, []⟩, aw⟩ := by
  show xitems cOrd _ ⟨t, 165, []⟩ aw = _
  rw [xitems_op (v := .int .i64 (.ofNat i)) (aw' := aw) (by simp only [xop, Opd.ev, h9]) rfl]
  have hib : Nat.blt i 6 = true := Nat.ble_eq_true_of_le hi
  have hbn : ieq (.ofNat n) 0 = false := by
    rw [ieq_eq]
    cases hq : ((Int.ofNat n) == (0 : Int)) with
    | false => rfl
    | true => have := eq_of_beq hq; have h2 : (n : Int) = 0 := this; omega
  rw [xitems_op (v := .ptr (some (0, 0 + i * 1))) (aw' := aw) (by simp only [xop, Opd.ev, Tr.get_set_same, Tr.get_set_other (show (1 : Nat) ≠ 63 by decide), h1, xnat, hib, cond_true]) rfl]
  rw [xitems_op (v := .int .u8 (.ofNat o)) (aw' := aw) (by simp only [xop, Opd.ev, Tr.get_set_same, xload, hg, Nat.zero_add, Nat.mul_one, hl]) rfl]
  rw [xitems_op (v := .int .i64 (.ofNat o)) (aw' := aw) (by simp only [xop, Opd.ev, Tr.get_set_same, wrapF64 (show o < 1000 by omega)]) rfl]
  rw [xitems_op (v := .int .i64 (.ofNat n)) (aw' := aw) (by simp only [xop, Opd.ev, Tr.get_set_other (show (10 : Nat) ≠ 66 by decide), Tr.get_set_other (show (10 : Nat) ≠ 65 by decide), Tr.get_set_other (show (10 : Nat) ≠ 64 by decide), Tr.get_set_other (show (10 : Nat) ≠ 63 by decide), h10]) rfl]
  rw [xitems_op (v := .int .i64 (.ofNat (o % n))) (aw' := aw) (by
    simp only [xop, Opd.ev, Tr.get_set_same, Tr.get_set_other (show (66 : Nat) ≠ 67 by decide), xbin, iop, hbn, cond_false]
    rfl) rfl]
  rw [xitems_op (v := .int .i64 (.ofNat (o % n))) (aw' := aw) (by simp only [xop, Opd.ev, Tr.get_set_same]) rfl]
  rfl

/-- the box's bytes, known -/
def boxK (ρ : Nat → Nat) : List AV := (List.range 6).map fun j => .int .u8 (.ofNat (ρ j % 256))
theorem sym_iff {E : Env} (hE : E.sym = sy ρ os out) (j : Nat) (v : Value) : VRel E (.sym .u8 (2 * j)) v ↔ VRel E (.int .u8 (.ofNat (ρ j % 256))) v := by
  have hs : symVal ρ (2 * j) = some (Int.ofNat (ρ j % 256)) := by
    unfold symVal
    have h1 : Nat.mod (2 * j) 2 = 0 := by show 2 * j % 2 = 0; omega
    have h2 : Nat.div (2 * j) 2 = j := by show 2 * j / 2 = j; omega
    rw [h1]
    simp only [h2]
  constructor
  · intro h
    cases h with
    | sym _ h1 hw =>
      rw [hE] at h1
      have h1 : symVal ρ (2 * j) = some _ := h1
      rw [hs] at h1; injection h1 with h1; rw [← h1]; exact .int _ _
  · intro h
    cases h
    refine .sym _ (by rw [hE]; exact hs) ?_
    have : ρ j % 256 < 256 := Nat.mod_lt _ (by decide)
    have e : (Int.ofNat (ρ j % 256) : Int) = ((ρ j % 256 : Nat) : Int) := rfl
    rw [e]
    simp only [IntKind.wrap, IntKind.bits, IntKind.signed]
    simp
theorem box_get (i : Nat) (a : AV) (h : box6[i]? = some a) : i < 6 ∧ a = .sym .u8 (2 * i) := by
  rcases i with _ | _ | _ | _ | _ | _ | i
  · injection h with h; exact ⟨by omega, h.symm⟩
  · injection h with h; exact ⟨by omega, h.symm⟩
  · injection h with h; exact ⟨by omega, h.symm⟩
  · injection h with h; exact ⟨by omega, h.symm⟩
  · injection h with h; exact ⟨by omega, h.symm⟩
  · injection h with h; exact ⟨by omega, h.symm⟩
  · cases h
theorem boxK_get (i : Nat) (h : i < 6) : (boxK ρ)[i]? = some (.int .u8 (.ofNat (ρ i % 256))) := by
  simp [boxK, h]
theorem box6_get (i : Nat) (h : i < 6) : box6[i]? = some (.sym .u8 (2 * i)) := by
  match i, h with
  | 0, _ => rfl
  | 1, _ => rfl
  | 2, _ => rfl
  | 3, _ => rfl
  | 4, _ => rfl
  | 5, _ => rfl
theorem box_iff {E : Env} (hE : E.sym = sy ρ os out) {L : Loc} {w : World} {e : TypeId} {b : Bool} : ORel E L w (.cells box6 e b) ↔ ORel E L w (.cells (boxK ρ) e b) := by
  have hlen : box6.length = (boxK ρ).length := by simp [boxK, box6]
  constructor
  · rintro ⟨c, fz, h1, h2, h3, h4, h5⟩
    refine ⟨c, fz, h1, h2, by rw [← hlen]; exact h3, fun q => by rw [← hlen]; exact h4 q, fun i a hi => ?_⟩
    have hi6 : i < 6 := by have := (List.getElem?_eq_some_iff.1 hi).1; simpa [boxK] using this
    rw [boxK_get i hi6] at hi; injection hi with hi; subst hi
    obtain ⟨v, hv, hr⟩ := h5 i _ (box6_get i hi6)
    exact ⟨v, hv, (sym_iff hE i v).1 hr⟩
  · rintro ⟨c, fz, h1, h2, h3, h4, h5⟩
    refine ⟨c, fz, h1, h2, by rw [hlen]; exact h3, fun q => by rw [hlen]; exact h4 q, fun i a hi => ?_⟩
    obtain ⟨hi6, rfl⟩ := box_get i a hi
    obtain ⟨v, hv, hr⟩ := h5 i _ (boxK_get i hi6)
    exact ⟨v, hv, (sym_iff hE i v).2 hr⟩
theorem Rel.congr {E : Env} {aw aw' : AW} {w : World} (h : Rel E aw w) (hn : aw'.nx = aw.nx) (hg : ∀ j, aw'.get j = aw.get j) : Rel E aw' w :=
  ⟨hn.trans h.nx, h.ns, fun j x hj => h.obj j x (by rw [← hg]; exact hj), fun i j oi oj Li Lj hi hj => h.inj i j oi oj Li Lj (by rw [← hg]; exact hi) (by rw [← hg]; exact hj), h.frame, fun i oi Li hi => h.apart i oi Li (by rw [← hg]; exact hi)⟩
theorem Same.rfl' {w : World} : Same w w := ⟨rfl, rfl⟩
/-- the box known, not known -/
theorem rel_known {E : Env} (hE : E.sym = sy ρ os out) {aw : AW} {w : World} {e : TypeId} {b : Bool} (hg : aw.get 0 = some (.cells box6 e b)) (h : Rel E aw w) : Rel E (aw.set 0 (.cells (boxK ρ) e b)) w := by
  obtain ⟨L, hL, ho⟩ := h.obj 0 _ hg
  exact h.update Same.rfl' hg rfl hL (fun _ _ => rfl) ((box_iff hE).1 ho)
theorem rel_unknown {E : Env} (hE : E.sym = sy ρ os out) {aw : AW} {w : World} {e : TypeId} {b : Bool} (hg : aw.get 0 = some (.cells box6 e b)) (h : Rel E (aw.set 0 (.cells (boxK ρ) e b)) w) : Rel E aw w := by
  have hg0 : (aw.set 0 (.cells (boxK ρ) e b)).get 0 = some (.cells (boxK ρ) e b) := Tr.get_set_same _ _
  obtain ⟨L, hL, ho⟩ := h.obj 0 _ hg0
  refine (h.update Same.rfl' hg0 rfl hL (fun _ _ => rfl) ((box_iff hE).2 ho)).congr rfl fun j => ?_
  by_cases hj : j = 0
  · subst hj
    rw [hg]
    exact (Tr.get_set_same _ _).symm
  · exact ((Tr.get_set_other hj _ _ _).trans (Tr.get_set_other hj _ _ _)).symm
theorem ra_good {t : Tr AV} {aw : AW} {i n : Nat} (hi : i < 6) (hn : 0 < n) (hn2 : n < 1000) (h : raOK i n t aw = true) {a : Nat} (ha : ρ i % 256 % n = a) (hg : G fr ρ os out ordR Q ⟨raPut a t, 165, []⟩ aw) : G fr ρ os out (.seq ordRA ordR) Q ⟨t, 165, []⟩ aw := by
  unfold raOK at h
  simp only [bb2_eq] at h
  cases q1 : isI64 (trGet t 9) i <;> simp only [q1, cond_true, cond_false, Bool.false_eq_true] at h
  cases q2 : isI64 (trGet t 10) n <;> simp only [q2, cond_true, cond_false, Bool.false_eq_true] at h
  cases q3 : isBoxP (trGet t 1) <;> simp only [q3, cond_true, cond_false, Bool.false_eq_true] at h
  have q1 := isI64_ok q1
  have q2 := isI64_ok q2
  have q3 := isBoxP_ok q3
  rw [trGet_eq] at q1 q2 q3
  obtain ⟨e, b, q4⟩ := isBox_ok h
  rw [awGet_eq] at q4
  intro c hc E ca w hE hS hA hR
  obtain ⟨c1, c2, rfl, h1, h2⟩ := inv_seq hc
  have hR0 := rel_known hS q4 hR
  have hrun := ra_run (aw := aw.set 0 (.cells (boxK ρ) e b)) q1 q3 q2 (Tr.get_set_same _ _) (boxK_get i hi) hi hn hn2 (Nat.mod_lt _ (by decide))
  refine wp_seq (wp_mono (code_sound cOrd_ok dr_ok _ h1 hrun hA hR0).1 fun e' a' w' ⟨E', hle, g1, g2, g3⟩ => ?_)
  cases e' <;> simp only [XRel] at g3
  have hS' : E'.sym = sy ρ os out := hle.2.1.trans hS
  refine hg c2 h2 E' a' w' (hle.2.2.trans hE) hS' ⟨g2.size, fun s v hv => ?_, g2.defs⟩ (rel_unknown hS' q4 g1)
  have key : ∃ v', (raT t i n (ρ i % 256)).get s s = some v' ∧ (v = v' ∨ v = .undef) := by
    simp only [raPut, trSet_eq] at hv
    rcases Tr.get_set hv with ⟨rfl, rfl⟩ | ⟨n1, hv⟩
    · exact ⟨_, Tr.get_set_same _ _, .inl (by rw [ha])⟩
    have o1 : ∀ x, (raT t i n (ρ i % 256)).get s s = x ↔ ((((((t.set 63 63 (.int .i64 (.ofNat i))).set 64 64 (.ptr (some (0, 0 + i * 1)))).set 65 65 (.int .u8 (.ofNat (ρ i % 256)))).set 66 66 (.int .i64 (.ofNat (ρ i % 256)))).set 67 67 (.int .i64 (.ofNat n))).set 68 68 (.int .i64 (.ofNat (ρ i % 256 % n)))).get s s = x := fun x => by unfold raT; rw [Tr.get_set_other n1]
    simp only [o1]
    rcases Tr.get_set hv with ⟨rfl, rfl⟩ | ⟨n2, hv⟩
    · exact ⟨_, Tr.get_set_same _ _, .inr rfl⟩
    simp only [Tr.get_set_other n2]
    rcases Tr.get_set hv with ⟨rfl, rfl⟩ | ⟨n3, hv⟩
    · exact ⟨_, Tr.get_set_same _ _, .inr rfl⟩
    simp only [Tr.get_set_other n3]
    rcases Tr.get_set hv with ⟨rfl, rfl⟩ | ⟨n4, hv⟩
    · exact ⟨_, Tr.get_set_same _ _, .inr rfl⟩
    simp only [Tr.get_set_other n4]
    rcases Tr.get_set hv with ⟨rfl, rfl⟩ | ⟨n5, hv⟩
    · exact ⟨_, Tr.get_set_same _ _, .inr rfl⟩
    simp only [Tr.get_set_other n5]
    rcases Tr.get_set hv with ⟨rfl, rfl⟩ | ⟨n6, hv⟩
    · exact ⟨_, Tr.get_set_same _ _, .inr rfl⟩
    simp only [Tr.get_set_other n6]
    rcases Tr.get_set hv with ⟨rfl, rfl⟩ | ⟨n7, hv⟩
    · exact ⟨_, Tr.get_set_same _ _, .inr rfl⟩
    simp only [Tr.get_set_other n7]
    exact ⟨v, hv, .inl rfl⟩
  obtain ⟨v', k1, k2⟩ := key
  obtain ⟨x, hx, hr⟩ := g2.tmps s v' k1
  rcases k2 with rfl | rfl
  · exact ⟨x, hx, hr⟩
  · exact ⟨x, hx, .undef _⟩

/-- what place is chosen in round i -/
def atR (ρ : Nat → Nat) (i : Nat) : Nat := ρ i % 256 % (6 - i)
theorem ex_good : ∀ (d i : Nat) (pre : List Nat) (t : Tr AV) (aw : AW), i + d = 6 → ex d pre i t aw = true → (∀ j a, pre[j]? = some a → a = atR ρ (i + j)) → GL fr ρ os out ordBody (Exit.inBlock 2 (thenC Tryz.prog (cDraw Tryz.prog) ordTail (TrueQ fr os out 2))) ⟨t, 165, []⟩ aw := by
  intro d
  induction d with
  | zero =>
    intro i pre t aw hi h hpre
    have h : atExit 2 165 (at6 ordT t aw) (fun t aw => atRet6 (at6 ordTail t aw)) = true := h
    obtain ⟨t1, aw1, h1, h2⟩ := atExit_ok h
    rw [at6_eq] at h1
    have hx : xcode cOrd 1001 ordBody ⟨t, 165, []⟩ aw = some ⟨.exit 2, ⟨t1, 165, []⟩, aw1⟩ := by
      show (match xcode cOrd 1000 ordT ⟨t, 165, []⟩ aw with
        | some o => (match o.x with
          | .norm => xcode cOrd 1000 (.seq (.block 3 ordIn) ordI) o.act o.aw
          | _ => some o)
        | none => none) = _
      rw [h1]
    exact GoodL.leave cOrd_ok dr_ok hx (tail_good h2)
  | succ d ih =>
    intro i pre t aw hi h hpre
    have h : atNorm 165 (at6 ordT t aw) (fun t aw => atNorm 165 (at6 ordA t aw) (fun t aw => atNorm 165 (at6 ordB t aw) (fun t aw =>
      bb2 (raOK i (d + 1) t aw) ((fun go : List Nat → Nat → Bool => List.rec (motive := fun _ => Bool) (allBel (go []) (d + 1)) (fun a l _ => go l a) pre) (fun l a => atNorm 165 (at6 ordR (raPut a t) aw) (fun t aw => atNorm 165 (at6 ordI t aw) (fun t aw => ex d l (i + 1) t aw)))) false))) = true := h
    obtain ⟨t1, aw1, e1, h⟩ := atNorm_ok h
    obtain ⟨t2, aw2, e2, h⟩ := atNorm_ok h
    obtain ⟨t3, aw3, e3, h⟩ := atNorm_ok h
    rw [at6_eq] at e1 e2 e3
    rw [bb2_eq] at h
    cases hra : raOK i (d + 1) t3 aw3 <;> simp only [hra, cond_true, cond_false, Bool.false_eq_true] at h
    have hn : 6 - i = d + 1 := by omega
    have hlt : atR ρ i < d + 1 := by unfold atR; rw [hn]; exact Nat.mod_lt _ (by omega)
    have hgo : ∃ l, (∀ j a, l[j]? = some a → a = atR ρ (i + 1 + j)) ∧ atNorm 165 (at6 ordR (raPut (atR ρ i) t3) aw3) (fun t aw => atNorm 165 (at6 ordI t aw) (fun t aw => ex d l (i + 1) t aw)) = true := by
      cases pre with
      | nil => exact ⟨[], fun j a hj => by simp at hj, allBel_ok h _ hlt⟩
      | cons a l =>
        have ha : a = atR ρ i := hpre 0 a rfl
        subst ha
        exact ⟨l, fun j a hj => by rw [hpre (j + 1) a (by simpa using hj)]; congr 1; omega, h⟩
    obtain ⟨l, hl, h⟩ := hgo
    obtain ⟨t4, aw4, e4, h⟩ := atNorm_ok h
    obtain ⟨t5, aw5, e5, h⟩ := atNorm_ok h
    rw [at6_eq] at e4 e5
    have hnext := ih (i + 1) l t5 aw5 (by omega) h hl
    refine GoodL.of (Good.seq cOrd_ok dr_ok e1 (Good.into (Good.block (Good.seq cOrd_ok dr_ok e2 (Good.seq cOrd_ok dr_ok e3 (ra_good (a := atR ρ i) (by omega) (by omega) (by omega) hra (by rw [← hn]; rfl) ?_))))))
    refine Good.run cOrd_ok dr_ok e4 fun E e ca w hE hS hR hA hX => ?_
    cases e <;> simp only [XRel] at hX
    have hI : Good Tryz.prog (cDraw Tryz.prog) fr (sy ρ os out) ordI (loopQ Tryz.prog (cDraw Tryz.prog) ordBody (Exit.inBlock 2 (thenC Tryz.prog (cDraw Tryz.prog) ordTail (TrueQ fr os out 2)))) ⟨t4, 165, []⟩ aw4 := by
      refine Good.run cOrd_ok dr_ok e5 fun E e ca w hE hS hR hA hX => ?_
      cases e <;> simp only [XRel] at hX
      exact fun c hc => hnext c hc E ca w hE hS hA hR
    exact fun c hc => hI c hc E ca w hE hS hA hR
theorem all_good (hp : ordPre = true) {pre : List Nat} (hx : exAt pre = true) (hpre : ∀ j a, pre[j]? = some a → a = atR ρ j) : G fr ρ os out ordAll (TrueQ fr os out 2) ⟨tmOf [(0, .agg box6)] .leaf, 165, []⟩ (ofObjs [] 0) := by
  unfold ordPre at hp
  obtain ⟨t0, aw0, e0, hp⟩ := atNorm_ok hp
  obtain ⟨t1, aw1, e1, hp⟩ := atNorm_ok hp
  obtain ⟨t2, aw2, e2, hp⟩ := atNorm_ok hp
  obtain ⟨t3, aw3, e3, hp⟩ := atNorm_ok hp
  obtain ⟨t4, aw4, e4, hp⟩ := atNorm_ok hp
  obtain ⟨t5, aw5, e5, hp⟩ := atNorm_ok hp
  obtain ⟨t6, aw6, e6, hp⟩ := atNorm_ok hp
  obtain ⟨t7, aw7, e7, hp⟩ := atNorm_ok hp
  obtain ⟨t8, aw8, e8, hp⟩ := atNorm_ok hp
  rw [at6_eq] at e0 e2 e3 e4 e5 e6 e7 e8
  rw [at6A_eq] at e1
  refine Good.seq cOrd_ok dr_ok e0 (Good.seq cTop_ok drA_ok e1 (Good.seq cOrd_ok dr_ok e2 (Good.seq cOrd_ok dr_ok e3 (Good.seq cOrd_ok dr_ok e4 (Good.seq cOrd_ok dr_ok e5 (Good.seq cOrd_ok dr_ok e6 (Good.seq cOrd_ok dr_ok e7 (Good.into (Good.seq cOrd_ok dr_ok e8 (Good.block (Good.loop ?_)))))))))))
  refine GoodL.told (a := ⟨t8, 165, []⟩) hp rfl ?_
  exact ex_good 6 0 pre _ _ rfl hx (fun j a hj => by rw [hpre j a hj, Nat.zero_add])
end
end Go.Proofs.YtbilacojhmohmaaGreat.Ae
