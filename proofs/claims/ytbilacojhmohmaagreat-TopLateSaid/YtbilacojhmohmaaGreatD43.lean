/- The law from its very start; The law, whole: from its arguments to its answer. No condition. -/
import Derived.Test.YtbilacojhmohmaaGreatD39
import Derived.Test.YtbilacojhmohmaaGreatD40
import Derived.Test.YtbilacojhmohmaaGreatD41
import Derived.Test.YtbilacojhmohmaaGreatD42
set_option linter.unusedVariables false
set_option linter.unusedSimpArgs false
noncomputable section
namespace Go.Proofs.YtbilacojhmohmaaGreat.Ae
open Go
theorem start_all {len : Nat} (hl : len ∈ lens) (u : Nat → Nat) (m : Nat) : startAt u m len = startW u m len := by
 simp only [lens, List.mem_cons, List.not_mem_nil, or_false] at hl
 rcases hl with rfl | rfl | rfl | rfl | rfl | rfl | rfl | rfl | rfl | rfl | rfl | rfl | rfl | rfl | rfl | rfl | rfl | rfl | rfl | rfl
 ·exact st_1 u m
 ·exact st_2 u m
 ·exact st_3 u m
 ·exact st_4 u m
 ·exact st_5 u m
 ·exact st_6 u m
 ·exact st_7 u m
 ·exact st_8 u m
 ·exact st_9 u m
 ·exact st_10 u m
 ·exact st_11 u m
 ·exact st_12 u m
 ·exact st_13 u m
 ·exact st_14 u m
 ·exact st_15 u m
 ·exact st_16 u m
 ·exact st_17 u m
 ·exact st_18 u m
 ·exact st_19 u m
 ·exact st_20 u m
def allDiff (l : List Nat) : Bool := List.rec (motive := fun _ => Bool) true (fun a l ih => bb2 (inL a l) false ih) l
theorem inL_of {x : Nat} : ∀ {l : List Nat}, x ∈ l → inL x l = true
 | y :: l, h => by
  show bb2 (Nat.beq x y) true (inL x l) = true
  rw [bb2_eq]
  rcases List.mem_cons.1 h with rfl | h
  ·simp
  ·rw [inL_of h]; cases Nat.beq x y <;> rfl
theorem allDiff_ok : ∀ {l : List Nat}, allDiff l = true → l.Nodup
 | [], _ => List.nodup_nil
 | a :: l, h => by
  have h : bb2 (inL a l) false (allDiff l) = true := h
  rw [bb2_eq] at h
  cases hi : inL a l with
  | true => rw [hi] at h; cases h
  | false =>
   rw [hi, cond_false] at h
   exact List.nodup_cons.2 ⟨fun hm => (by rw [inL_of hm] at hi; cases hi), allDiff_ok h⟩
def idsLv (k : Nat) : List Nat := [0, 1, 2, 3, 4, 5, 6, 7, 8, 9, 10, 11, 12, 17, 18, 19, 20, 21, 22, 23, 24, 25, 26, 27] ++ (List.range k).map (35 + ·)
theorem diff_all : (lens.all fun len => allDiff ((idsLv (kOf len)).map (fS (kOf len)))) = true := by kernel_rfl
theorem cls_all : ∀ u : Nat → Nat, (lens.all fun len => clsB (idsS (kOf len)) [] (law0 len u)) = true := by
 intro u
 kernel_rfl
theorem ok_all : ∀ u : Nat → Nat, (lens.all fun len => (law0 len u).all (okO 46)) = true := by
 intro u
 kernel_rfl
theorem law0_len {len : Nat} {u : Nat → Nat} : (law0 len u).length = 46 := lawM_len rfl rfl
theorem idsS_lv {k j : Nat} (h : j ∈ idsS k) : j ∈ idsLv k ∨ j = 28 ∨ j = 29 := by
 rcases List.mem_append.1 h with h | h
 ·simp only [List.mem_cons, List.not_mem_nil, or_false] at h
  by_cases h28 : j = 28
  ·exact .inr (.inl h28)
  ·by_cases h29 : j = 29
   ·exact .inr (.inr h29)
   ·left
    refine List.mem_append_left _ ?_
    simp only [List.mem_cons, List.not_mem_nil, or_false]
    omega
 ·exact .inl (List.mem_append_right _ h)
theorem law0_tell {E : Env} {w : World} {len : Nat} {u : Nat → Nat} (h : Rel E (ofObjs (law0 len u) 46) w) : Rel E (ofObjs (lawS len u .dead) 46) w := by
 have hr0 : ∀ v, v < 14 → (law0 len u)[3 + v]? = (rcv0 len)[v]? := fun v hv => lawM_R rfl hv
 have hr1 : ∀ v, v < 14 → (lawS len u .dead)[3 + v]? = (rcvA len)[v]? := fun v hv => lawM_R rfl hv
 have g6 : (ofObjs (law0 len u) 46).get 6 = some (.cells [vP 11, .map (some 12), vQ 0, .bool false, vQ 0, vQ 0] 199 false) := by rw [ofObjs_get]; exact hr0 3 (by decide)
 have g7 : (ofObjs (law0 len u) 46).get 7 = some (.cells [.int .u16 (.ofNat 0), .bool false, vI 0] 201 false) := by rw [ofObjs_get]; exact hr0 4 (by decide)
 have g11 : (ofObjs (law0 len u) 46).get 11 = some (.cells [vQ 0, .bool false] 267 false) := by rw [ofObjs_get]; exact hr0 8 (by decide)
 have g12 : (ofObjs (law0 len u) 46).get 12 = some (.map [] 0) := by rw [ofObjs_get]; exact hr0 9 (by decide)
 have h1 := h.retell (o' := .gen (.ty [.av (vP 11), .av (.map (some 12)), .anyI .u64, .anyB, .anyI .u64, .anyI .u64] 199)) g6 rfl fun L _ ho => ty_shut ⟨rfl, fun i t hi => by
  match i, hi with
  | 0, hi => injection hi with hi; subst hi; exact ⟨_, rfl, rfl⟩
  | 1, hi => injection hi with hi; subst hi; exact ⟨_, rfl, rfl⟩
  | 2, hi => injection hi with hi; subst hi; exact ⟨_, rfl, _, rfl⟩
  | 3, hi => injection hi with hi; subst hi; exact ⟨_, rfl, _, rfl⟩
  | 4, hi => injection hi with hi; subst hi; exact ⟨_, rfl, _, rfl⟩
  | 5, hi => injection hi with hi; subst hi; exact ⟨_, rfl, _, rfl⟩
  | i + 6, hi => cases hi⟩ ho
 have h2 := h1.retell (q := 7) (o' := .gen (.ty [.anyI .u16, .anyB, .anyI .i64] 201)) ((tgo (by decide)).trans g7) rfl fun L _ ho => ty_shut ⟨rfl, fun i t hi => by
  match i, hi with
  | 0, hi => injection hi with hi; subst hi; exact ⟨_, rfl, _, rfl⟩
  | 1, hi => injection hi with hi; subst hi; exact ⟨_, rfl, _, rfl⟩
  | 2, hi => injection hi with hi; subst hi; exact ⟨_, rfl, _, rfl⟩
  | i + 3, hi => cases hi⟩ ho
 have h3 := h2.retell (q := 11) (o' := extG) ((tgo (by decide)).trans ((tgo (by decide)).trans g11)) rfl fun L _ ho => ty_shut ⟨rfl, fun i t hi => by
  match i, hi with
  | 0, hi => injection hi with hi; subst hi; exact ⟨_, rfl, List.mem_map.2 ⟨0, by decide, rfl⟩⟩
  | 1, hi => injection hi with hi; subst hi; exact ⟨_, rfl, _, rfl⟩
  | i + 2, hi => cases hi⟩ ho
 have h4 := h3.retell (q := 12) (o' := .gen (.tym .u64)) ((tgo (by decide)).trans ((tgo (by decide)).trans ((tgo (by decide)).trans g12))) rfl fun L _ ho => tym_shut (fun e he => by cases he) ho
 refine h4.less rfl fun j x hj => ?_
 rw [ofObjs_get] at hj
 by_cases e12 : j = 12
 ·subst e12
  rw [hr1 9 (by decide)] at hj
  exact (Tr.get_set_same ..).trans hj
 ·refine (tgo e12).trans ?_
  by_cases e11 : j = 11
  ·subst e11
   rw [hr1 8 (by decide)] at hj
   exact (Tr.get_set_same ..).trans hj
  ·refine (tgo e11).trans ?_
   by_cases e7 : j = 7
   ·subst e7
    rw [hr1 4 (by decide)] at hj
    exact (Tr.get_set_same ..).trans hj
   ·refine (tgo e7).trans ?_
    by_cases e6 : j = 6
    ·subst e6
     rw [hr1 3 (by decide)] at hj
     exact (Tr.get_set_same ..).trans hj
    ·refine (tgo e6).trans ?_
     show (ofObjs (law0 len u) 46).get j = some x
     rw [ofObjs_get, ← hj]
     by_cases j3 : j < 3
     ·match j, j3 with
      | 0, _ => rfl
      | 1, _ => rfl
      | 2, _ => rfl
     ·by_cases j17 : j < 17
      ·obtain ⟨v, rfl⟩ : ∃ v, j = 3 + v := ⟨j - 3, by omega⟩
       rw [hr0 v (by omega), hr1 v (by omega)]
       match v, e6, e7, e11, e12 with
       | 0, _, _, _, _ => rfl
       | 1, _, _, _, _ => rfl
       | 2, _, _, _, _ => rfl
       | 3, h, _, _, _ => exact (h rfl).elim
       | 4, _, h, _, _ => exact (h rfl).elim
       | 5, _, _, _, _ => rfl
       | 6, _, _, _, _ => rfl
       | 7, _, _, _, _ => rfl
       | 8, _, _, h, _ => exact (h rfl).elim
       | 9, _, _, _, h => exact (h rfl).elim
       | v + 10, _, _, _, _ => rfl
      ·by_cases j35 : j < 35
       ·obtain ⟨v, rfl⟩ : ∃ v, j = 17 + v := ⟨j - 17, by omega⟩
        exact (lawM_Z (R := rcv0 len) (Z := z0 len u .dead) rfl rfl (by omega)).trans (lawM_Z (R := rcvA len) (Z := z0 len u .dead) rfl rfl (by omega)).symm
       ·by_cases j46 : j < 46
        ·obtain ⟨v, rfl⟩ : ∃ v, j = 35 + v := ⟨j - 35, by omega⟩
         exact (lawM_Q (R := rcv0 len) (Z := z0 len u .dead) rfl rfl (by omega)).trans (lawM_Q (R := rcvA len) (Z := z0 len u .dead) rfl rfl (by omega)).symm
        ·rw [List.getElem?_eq_none (by rw [law0_len]; omega), List.getElem?_eq_none (by rw [lawS_len]; omega)]
theorem drTop : DrawOK Tryz.prog cTop (cDraw Tryz.prog) := draw_all _ cTop_ok
def tm0 (len m : Nat) : List (Nat × AV) := [(0, .slc (some (0, 0)) len (.upto 1 len)), (1, .slc (some (1, 0)) (m + 10) (.upto 1 (m + 10)))]
section
variable {fr : Nat → Option Obj} {sy : SymW} {tk : Nat → Option Tok} {len m : Nat} {u : Nat → Nat}
theorem start_turn (hl : len ∈ lens) {t : Tr AV} {aw : AW} (ht : [trGet t 0, trGet t 1, trGet t 5, trGet t 8, trGet t 9] = [some (.slc (some (0, 0)) len (.upto 1 len)), some (.slc (some (1, 0)) (m + 10) (.upto 1 (m + 10))), some (vP 290), some (vI (kOf len)), some (vI 0)])
  (hm : ((idsS (kOf len)).map (fS (kOf len))).map (awGet aw) = (idsS (kOf len)).map (fun j => ((law0 len u)[j]?).map (renO (fS (kOf len))))) : Turn (LawK fr sy tk) t aw (tmF len m (.ofNat 0)) (ofObjs (lawS len u .dead) 46) := by
 intro E w hE hR
 have key : ∀ (j : Nat) (n : AO), (law0 len u)[j]? = some n → n = .dead ∨ (j ∈ idsS (kOf len) ∧ aw.get (fS (kOf len) j) = some (renO (fS (kOf len)) n)) := fun j n hj => by
  have hlt := (lgs.1 hj).1
  rw [law0_len] at hlt
  rcases clsB_ok (List.all_eq_true.1 (cls_all u) len hl) hlt hj with h | h | h
  ·right
   rw [List.map_map] at hm
   have := List.map_inj_left.1 hm j h
   rw [hj] at this
   exact ⟨h, by rw [← awGet_eq]; exact this⟩
  ·cases h
  ·exact .inl h
 have hdiff := allDiff_ok (List.all_eq_true.1 diff_all len hl)
 have hren := hR.renO (os := law0 len u) (f := fS (kOf len)) (fun a b x y ha hb lx ly hab => by
  have live : ∀ {j : Nat} {n : AO}, (law0 len u)[j]? = some n → n.live = true → j ∈ idsLv (kOf len) := fun {j n} hj hn => by
   rcases key j n hj with rfl | ⟨h, _⟩
   ·cases hn
   ·rcases idsS_lv h with h | rfl | rfl
    ·exact h
    ·have : (law0 len u)[28]? = some (bO len) := lawM_Z (R := rcv0 len) (Z := z0 len u .dead) (u := 11) rfl rfl (by omega)
     rw [this] at hj; injection hj with hj; subst hj; cases hn
    ·have : (law0 len u)[29]? = some (wO u) := lawM_Z (R := rcv0 len) (Z := z0 len u .dead) (u := 12) rfl rfl (by omega)
     rw [this] at hj; injection hj with hj; subst hj; cases hn
  exact map_inj hdiff (live ha lx) (live hb ly) hab) (fun o ho => by
   rw [law0_len]
   exact List.all_eq_true.1 (List.all_eq_true.1 (ok_all u) len hl) o ho) fun j n hj => (key j n hj).imp id fun h => h.2
 rw [law0_len] at hren
 refine ⟨renE E (fS (kOf len)) 46, hE.ren _ _, law0_tell hren, fun s v hsv => ?_⟩
 simp only [List.cons.injEq, and_true, trGet_eq] at ht
 obtain ⟨k0, k1, k5, k8, k9⟩ := ht
 have hloc : ∀ q, q < 46 → ∀ L, E.loc[fS (kOf len) q]? = some L → (renE E (fS (kOf len)) 46).loc[q]? = some L := fun q hq L hL => renE_loc hq hL
 simp only [tmF, List.mem_cons, List.not_mem_nil, or_false, pmi] at hsv
 rcases hsv with ⟨rfl, rfl⟩ | ⟨rfl, rfl⟩ | ⟨rfl, rfl⟩ | ⟨rfl, rfl⟩ | ⟨rfl, rfl⟩
 ·refine ⟨_, k0, fun cv hcv => ?_⟩
  cases hcv with
  | slcUp hL a b c => exact .slcUp (hloc 28 (by decide) _ hL) a b c
 ·refine ⟨_, k1, fun cv hcv => ?_⟩
  cases hcv with
  | slcUp hL a b c => exact .slcUp (hloc 29 (by decide) _ hL) a b c
 ·refine ⟨_, k5, fun cv hcv => ?_⟩
  have hcv : VRel E (.ptr (some (290, 0))) cv := hcv
  cases hcv with
  | ptr hL => exact .ptr (hloc 0 (by decide) _ hL)
 ·refine ⟨_, k8, fun cv hcv => ?_⟩
  have hcv : VRel E (.int .i64 (.ofNat (kOf len))) cv := hcv
  cases hcv; exact .int _ _
 ·refine ⟨_, k9, fun cv hcv => ?_⟩
  have hcv : VRel E (.int .i64 (.ofNat 0)) cv := hcv
  cases hcv; exact .int _ _
theorem cond_seq {call : Call} {x y : CC} {o : Opd} {a a1 : AAct} {aw aw1 : AW} (h : xcode call 1000 x a aw = some ⟨.norm, a1, aw1⟩) (ho : o.ev a1.tmps = some (.bool false)) : xcode call 1001 (.seq x (.cond o y .skip)) a aw = some ⟨.norm, a1, aw1⟩ := by
 rw [show (1001 : Nat) = 1000 + 1 from rfl, seq_norm h, show (1000 : Nat) = 999 + 1 from rfl, cond_b (u := false) ho]; rfl
theorem late_good (hl : len ∈ lens) (hu : ∀ j, j < 10 → u j < 256) : GoodK Tryz.prog (cDraw Tryz.prog) (LawK fr sy tk) lwAll (LateQ fr sy tk) ⟨tmOf (tm0 len m) .leaf, 170, []⟩ (ofObjs [bO len, wO u] 2) := by
 have e := start_all hl u m
 unfold startAt startW at e
 obtain ⟨t0, aw0, e0, e⟩ := bNn_ok e
 obtain ⟨t1, aw1, e1, e⟩ := bNn_ok e
 rw [bb2_eq] at e
 cases h18 : isFalseV (trGet t1 (nat_lit 18)) <;> simp only [h18, cond_true, cond_false, reduceCtorEq] at e
 obtain ⟨t2, aw2, e2, e⟩ := bNn_ok e
 rw [bb2_eq] at e
 cases h31 : isFalseV (trGet t2 (nat_lit 31)) <;> simp only [h31, cond_true, cond_false, reduceCtorEq] at e
 obtain ⟨t3, aw3, e3, e⟩ := bNn_ok e
 obtain ⟨t4, aw4, e4, e⟩ := bNn_ok e
 rw [bb2_eq] at e
 cases h42 : isFalseV (trGet t4 (nat_lit 42)) <;> simp only [h42, cond_true, cond_false, reduceCtorEq] at e
 obtain ⟨t5, aw5, e5, e⟩ := bNn_ok e
 obtain ⟨t6, aw6, e6, e⟩ := bNn_ok e
 obtain ⟨t7, aw7, e7, e⟩ := bNn_ok e
 obtain ⟨t8, aw8, e8, e⟩ := bNn_ok e
 obtain ⟨t9, aw9, e9, e⟩ := bNn_ok e
 rw [bb2_eq] at e
 cases h61 : isFalseV (trGet t9 (nat_lit 61)) <;> simp only [h61, cond_true, cond_false, reduceCtorEq] at e
 obtain ⟨t10, aw10, e10, e⟩ := bNn_ok e
 simp only [seeD, sI, pmi] at e
 obtain ⟨ht, hm, _⟩ := e
 have h18 := isFalseV_ok h18; have h31 := isFalseV_ok h31; have h42 := isFalseV_ok h42; have h61 := isFalseV_ok h61
 rw [trGet_eq] at h18 h31 h42 h61
 rw [atS_eq] at e0 e1 e2 e3 e4 e5 e6 e7 e8 e9 e10
 have s1 : xcode cTop 1001 lw1 ⟨t0, 170, []⟩ aw0 = some ⟨.norm, ⟨t1, 170, []⟩, aw1⟩ := cond_seq e1 h18
 have s2 : xcode cTop 1001 lw2 ⟨t1, 170, []⟩ aw1 = some ⟨.norm, ⟨t2, 170, []⟩, aw2⟩ := cond_seq e2 h31
 have s4 : xcode cTop 1001 lw4 ⟨t3, 170, []⟩ aw3 = some ⟨.norm, ⟨t4, 170, []⟩, aw4⟩ := cond_seq e4 h42
 have s9 : xcode cTop 1001 lw9 ⟨t8, 170, []⟩ aw8 = some ⟨.norm, ⟨t9, 170, []⟩, aw9⟩ := cond_seq e9 h61
 refine GoodK.seq LawK.le cTop_ok drTop e0 (GoodK.seq LawK.le cTop_ok drTop s1 (GoodK.seq LawK.le cTop_ok drTop s2 (GoodK.seq LawK.le cTop_ok drTop e3 (GoodK.seq LawK.le cTop_ok drTop s4 (GoodK.seq LawK.le cTop_ok drTop e5 (GoodK.seq LawK.le cTop_ok drTop e6 (GoodK.seq LawK.le cTop_ok drTop e7
  (GoodK.seq LawK.le cTop_ok drTop e8 (GoodK.seq LawK.le cTop_ok drTop s9 (GoodK.seq LawK.le cTop_ok drTop e10 (GoodK.turn (start_turn (m := m) (u := u) hl ht hm) ?_)))))))))))
 refine GoodK.into ?_
 show GoodK _ _ _ (.seq lf0 (.block 0 (.loop lfA))) _ _ _
 have ef := lf0_all (fun q => (lawS len u .dead).getD q .dead) (wO u) .dead len m (.ofNat 0)
 rw [← lawS_mW] at ef
 refine GoodK.piece LawK.le lawS_len ef (GoodK.block (GoodK.loop ?_))
 exact first_loop hl hu (fun E ca w' hE hA hR c hc => law_tail hl hu c hc E ca w' hE hA hR) (kOf len) 0 (by omega)
end
def exA (a b : AV) (o0 o1 : AO) : Option (List (Option AV)) :=
 bNn (nat_lit 170) (atS lw0 (tmOf [(0, a), (1, b)] .leaf) (ofObjs [o0, o1] (nat_lit 2))) fun t aw => bNn (nat_lit 170) (atS lw1d t aw) fun t aw => bb2 (isFalseV (trGet t (nat_lit 18))) (some [trGet t 0, trGet t 1]) none
theorem exA_eq : ∀ (a b : AV) (o0 o1 : AO), exA a b o0 o1 = some [some a, some b] := by
 intro a b o0 o1
 kernel_rfl
def exB (p q : Option (Nat × Nat)) (c d : Cap) (rest : CC) (aw : AW) (x : Nat × Nat) : Option (Option AV) :=
 bRn (nat_lit 170) (atS (.seq lw2 rest) (tmOf [(0, .slc p x.1 c), (1, .slc q x.2 d)] .leaf) aw) fun t _ => some (trGet t 4)
theorem exB_0 : ∀ (p q : Option (Nat × Nat)) (c d : Cap) (rest : CC) (aw : AW) (n : Nat), exB p q c d rest aw (0, n) = some (some (.bool true)) := by
 intro p q c d rest aw n
 kernel_rfl
theorem exB_21 : ∀ (p q : Option (Nat × Nat)) (c d : Cap) (rest : CC) (aw : AW) (r n : Nat), exB p q c d rest aw (r + 21, n) = some (some (.bool true)) := by
 intro p q c d rest aw r n
 kernel_rfl
def exL : List (Nat × Nat) := (List.range 20).flatMap fun n => (List.range 10).map fun k => (n + 1, k)
theorem exB_all : ∀ (p q : Option (Nat × Nat)) (c d : Cap) (rest : CC) (aw : AW), exL.map (exB p q c d rest aw) = exL.map fun _ => some (some (.bool true)) := by
 intro p q c d rest aw
 kernel_rfl
theorem exB_of {p q : Option (Nat × Nat)} {c d : Cap} {rest : CC} {aw : AW} {n k : Nat} (h : n = 0 ∨ 21 ≤ n ∨ k ≤ 9) : exB p q c d rest aw (n, k) = some (some (.bool true)) := by
 by_cases h0 : n = 0
 ·subst h0; exact exB_0 p q c d rest aw k
 by_cases h1 : 21 ≤ n
 ·obtain ⟨r, rfl⟩ : ∃ r, n = r + 21 := ⟨n - 21, by omega⟩
  exact exB_21 p q c d rest aw r k
 have hk : k ≤ 9 := by omega
 refine List.map_inj_left.1 (exB_all p q c d rest aw) (n, k) (List.mem_flatMap.2 ⟨n - 1, List.mem_range.2 (by omega), List.mem_map.2 ⟨k, List.mem_range.2 (by omega), ?_⟩⟩)
 rw [show n - 1 + 1 = n by omega]
section
variable {fr : Nat → Option Obj} {sy : SymW} {tk : Nat → Option Tok}
theorem late_early {p q : Option (Nat × Nat)} {c d : Cap} {n k : Nat} (h : n = 0 ∨ 21 ≤ n ∨ k ≤ 9) (o0 o1 : AO) : GoodK Tryz.prog (cDraw Tryz.prog) (LawK fr sy tk) lwAll (LateQ fr sy tk) ⟨tmOf [(0, .slc p n c), (1, .slc q k d)] .leaf, 170, []⟩ (ofObjs [o0, o1] 2) := by
 have e := exA_eq (.slc p n c) (.slc q k d) o0 o1
 unfold exA at e
 obtain ⟨t0, aw0, e0, e⟩ := bNn_ok e
 obtain ⟨t1, aw1, e1, e⟩ := bNn_ok e
 rw [bb2_eq] at e
 cases h18 : isFalseV (trGet t1 (nat_lit 18)) <;> simp only [h18, cond_true, cond_false, reduceCtorEq] at e
 have h18 := isFalseV_ok h18
 rw [trGet_eq] at h18
 rw [atS_eq] at e0 e1
 have s1 : xcode cTop 1001 lw1 ⟨t0, 170, []⟩ aw0 = some ⟨.norm, ⟨t1, 170, []⟩, aw1⟩ := cond_seq e1 h18
 simp only [sI, List.cons.injEq, and_true, trGet_eq] at e
 obtain ⟨k0, k1⟩ := e
 refine GoodK.seq LawK.le cTop_ok drTop e0 (GoodK.seq LawK.le cTop_ok drTop s1 (GoodK.turn (tm := [(0, .slc p n c), (1, .slc q k d)]) (aw' := aw1) (fun E w hE hR => ⟨E, hE, hR, fun s v hsv => ?_⟩) ?_))
 ·simp only [List.mem_cons, List.not_mem_nil, or_false, pmi] at hsv
  rcases hsv with ⟨rfl, rfl⟩ | ⟨rfl, rfl⟩
  ·exact ⟨_, k0, fun _ hc => hc⟩
  ·exact ⟨_, k1, fun _ hc => hc⟩
 ·have e := exB_of (p := p) (q := q) (c := c) (d := d) (rest := .seq lw3 (.seq lw4 (.seq lw5 (.seq lw6 (.seq lw7 (.seq lw8 (.seq lw9 (.seq lw10 (.seq lw11 (.seq lw12 (.seq lw13 (.seq lw14 (.seq lw15 (.seq lw16 (.seq lw17 (.seq lw18 .ret)))))))))))))))) (aw := aw1) h
  unfold exB at e
  obtain ⟨t, aw, e, h⟩ := bRn_ok e
  rw [atS_eq] at e
  simp only [sI, trGet_eq] at h
  refine GoodK.run LawK.le cTop_ok drTop e fun E x ca w hE hR hA hX => ?_
  cases x <;> simp only [XRel] at hX
  obtain ⟨v, hv, hr⟩ := hA.tmps 4 _ h
  cases hr
  exact ⟨rfl, defs_nil hA, hv, E, aw, hE, hR⟩
end
def IsRow8 (w : World) (v : Value) (len : Nat) (zs : List Int) : Prop :=
 (v = .slice none 0 0 ∧ len = 0 ∧ zs = []) ∨
 ∃ (a : Addr) (cap : Nat), v = .slice (some a) len cap ∧ len ≤ cap ∧ zs.length = cap ∧ (∀ i, i < zs.length → w.cell? (a.add i) = some (.int .u8 (zs.getD i 0))) ∧ ∀ n ∈ zs, (Lit.int .u8 n).wf = true
theorem byte_of8 {a : Int} (w : (Lit.int .u8 a).wf = true) : ∃ n : Nat, a = .ofNat n ∧ n < 256 := by
 have h1 : IntKind.min .u8 = 0 := rfl
 have h2 : IntKind.max .u8 = 255 := rfl
 simp only [Lit.wf, h1, h2, Bool.and_eq_true, decide_eq_true_eq] at w
 exact ⟨a.toNat, by show a = ((a.toNat : Nat) : Int); omega, by omega⟩
theorem cell_in {w : World} {a : Addr} {v : Value} (h : w.cell? a = some v) : a.spot = none ∧ ∃ c e fz, w.heap[a.block]? = some (.cells c e fz) ∧ c[a.off]? = some v := by
 unfold World.cell? at h
 split at h
 ·rename_i c e fz hb
  cases hs : a.spot with
  | none => rw [hs] at h; exact ⟨rfl, c, e, fz, hb, h⟩
  | some s => rw [hs] at h; cases h
 ·cases h
theorem row_at {w : World} {a : Addr} {zs : List Int} (hpos : 0 < zs.length) (hc : ∀ i, i < zs.length → w.cell? (a.add i) = some (.int .u8 (zs.getD i 0))) :
  ∃ b o c e fz, a = ⟨b, o, none⟩ ∧ w.heap[b]? = some (.cells c e fz) ∧ o + zs.length ≤ c.size ∧ ∀ i, i < zs.length → c[o + i]? = some (.int .u8 (zs.getD i 0)) := by
 obtain ⟨b, o, s⟩ := a
 obtain ⟨hs, c, e, fz, hb, _⟩ := cell_in (hc 0 hpos)
 have hs : s = none := hs
 subst hs
 have hb : w.heap[b]? = some (.cells c e fz) := hb
 have each : ∀ i, i < zs.length → c[o + i]? = some (.int .u8 (zs.getD i 0)) := fun i hi => by
  obtain ⟨_, c', e', fz', hb', hv⟩ := cell_in (hc i hi)
  have q : (Addr.add ⟨b, o, none⟩ i) = ⟨b, o + i, none⟩ := by
   unfold Addr.add
   split
   ·rename_i h; subst h; rfl
   ·rfl
  rw [q] at hb' hv
  rw [hb] at hb'
  injection hb' with hb'; injection hb' with h1 h2 h3
  subst h1; exact hv
 refine ⟨b, o, c, e, fz, rfl, hb, ?_, each⟩
 have := (agz.1 (each (zs.length - 1) (by omega))).1
 omega
theorem row_any {w : World} {v : Value} {len : Nat} {zs : List Int} (h : IsRow8 w v len zs) : ∃ (L : Loc) (c : Cap) (f : Nat → Option (Nat × Nat)), ∀ (E : Env) (i : Nat), E.loc[i]? = some L → VRel E (.slc (f i) len c) v := by
 rcases h with ⟨rfl, rfl, _⟩ | ⟨a, cap, rfl, hl, hz, hc, _⟩
 ·exact ⟨⟨0, 0, 0⟩, .known 0, fun _ => none, fun E i _ => .nilSlc⟩
 ·refine ⟨⟨a.block, a.off, a.off⟩, .upto 0 0, fun i => some (i, 0), fun E i hi => .slcUp hi hl (Nat.zero_le _) ?_⟩
  by_cases h0 : cap = 0
  ·exact .inl h0
  ·obtain ⟨b, o, c, e, fz, rfl, _⟩ := row_at (by omega) hc
   exact .inr ⟨rfl, by show o + 0 + cap * 0 ≤ o; omega⟩
theorem tm_slots : ∀ a0 a1 : AV, tmOf [(0, a0), (1, a1)] .leaf = slots [a0, a1] 0 .leaf := by
 intro a0 a1
 kernel_rfl
theorem tok_out {W w' : World} {i : Nat} {o : Obj} (h : TokAt w' i (.ob o)) (h' : W.heap[i]? = some o) : w'.heap[i]? = W.heap[i]? := by
 have h : w'.heap[i]? = some o := h
 rw [h, h']
section
variable {fr : Nat → Option Obj} {sy : SymW} {tk : Nat → Option Tok}
theorem late_out {W : World} {E : Env} {a0 a1 : AV} {v0 v1 : Value} {aw : AW} (hg : GoodK Tryz.prog (cDraw Tryz.prog) (LawK fr sy tk) lwAll (LateQ fr sy tk) ⟨tmOf [(0, a0), (1, a1)] .leaf, 170, []⟩ aw) (hK : LawK fr sy tk E) (hR : Rel E aw W) (h0 : VRel E a0 v0) (h1 : VRel E a1 v1)
  (hcov : ∀ b o, W.heap[b]? = some o → fr b = some o ∨ tk b = some (.ob o)) :
  Calls Tryz.prog 5 #[v0, v1] W fun e w' => e = .returned (.bool true) ∧ w'.os = W.os ∧ w'.output = W.output ∧ ∀ i, i < W.heap.size → w'.heap[i]? = W.heap[i]? := by
 obtain ⟨c, hbody, hc⟩ := lw_code
 refine calls_of_wp Tryz.func5 hbody ?_
 have hinit := init_rel (E := E) (args := [a0, a1]) (cargs := [v0, v1]) (n := 170) (.cons h0 (.cons h1 .nil)) (by simp)
 have hA : ActRel E ⟨tmOf [(0, a0), (1, a1)] .leaf, 170, []⟩ { tmps := #[v0, v1] ++ Array.replicate (Tryz.f5.ntmps - (#[v0, v1] : Array Value).size) undef, defers := [] } := by
  refine ⟨?_, fun t v hv => ?_, .nil⟩
  ·rw [Tryz.ntmps5]; simp
  ·have e : tmOf [(0, a0), (1, a1)] .leaf = slots [a0, a1] 0 .leaf := tm_slots a0 a1
   rw [e] at hv
   rw [Tryz.ntmps5]
   exact hinit.tmps t v hv
 refine wp_mono (hg c hc E _ W hK hA hR) fun e a w' ⟨q1, q2, q3, E', aw', hK', hR'⟩ => ?_
 subst q1
 have hs : E'.sym = E.sym := hK'.sym.trans hK.sym.symm
 refine ⟨q2, .bool true, ?_, rfl, ?_, ?_, fun i hi => ?_⟩
 ·have : a.tmps.getD 4 undef = .bool true := by simp [Array.getD_eq_getD_getElem?, q3]
  rw [← this]
  exact results_tmp (t := 4) rfl _ _ _
 ·rw [hR'.ns.2.1, hs, ← hR.ns.2.1]
 ·rw [hR'.ns.2.2, hs, ← hR.ns.2.2]
 ·rcases hcov i _ (age hi) with h | h
  ·rw [hR'.frame i _ (by rw [hK'.fr]; exact h), age hi]
  ·exact tok_out (hR'.tok.1 i _ (hK'.tok i _ h)).1 (age hi)
end
theorem getD_wf {zs : List Int} (hw : ∀ n ∈ zs, (Lit.int .u8 n).wf = true) {i : Nat} (hi : i < zs.length) : ∃ n : Nat, zs.getD i 0 = .ofNat n ∧ n < 256 := by
 refine byte_of8 (hw _ ?_)
 rw [List.getD_eq_getElem?_getD, lge hi]
 exact List.getElem_mem hi
theorem lens_mem {len : Nat} (h1 : 0 < len) (h2 : len ≤ 20) : len ∈ lens := by
 have : ∀ k, k < 20 → k + 1 ∈ lens := by decide
 have := this (len - 1) (by omega)
 rwa [show len - 1 + 1 = len by omega] at this
theorem late_call {W : World} {v0 v1 : Value} {len0 len1 : Nat} {z0 z1 : List Int} (hr0 : IsRow8 W v0 len0 z0) (hr1 : IsRow8 W v1 len1 z1) :
  Calls Tryz.prog 5 #[v0, v1] W fun e w' => e = .returned (.bool true) ∧ w'.os = W.os ∧ w'.output = W.output ∧ ∀ i, i < W.heap.size → w'.heap[i]? = W.heap[i]? := by
 by_cases h : len0 = 0 ∨ 21 ≤ len0 ∨ len1 ≤ 9
 ·obtain ⟨L0, c0, f0, g0⟩ := row_any hr0
  obtain ⟨L1, c1, f1, g1⟩ := row_any hr1
  let E : Env := ⟨[L0, L1], ⟨symVal fun _ => 0, W.os, W.output, fun _ => []⟩, fun i => W.heap[i]?, fun _ => none⟩
  refine late_out (fr := E.fr) (sy := E.sym) (tk := E.tk) (E := E) (late_early (p := f0 0) (q := f1 1) (c := c0) (d := c1) h .dead .dead) ⟨rfl, rfl, fun _ _ h => h⟩ ?_ (g0 E 0 rfl) (g1 E 1 rfl) fun b o hb => .inl hb
  have dead : ∀ {j x}, (ofObjs [AO.dead, .dead] 2).get j = some x → x = .dead ∧ ∃ L, E.loc[j]? = some L := fun {j x} hj => by
   rw [ofObjs_get] at hj
   match j, hj with
   | 0, hj => injection hj with hj; exact ⟨hj.symm, L0, rfl⟩
   | 1, hj => injection hj with hj; exact ⟨hj.symm, L1, rfl⟩
   | j + 2, hj => cases hj
  refine ⟨rfl, ⟨⟨fun _ => 0, rfl⟩, rfl, rfl⟩, fun j x hj => ?_, fun i j oi oj Li Lj hi hj li => ?_, fun _ _ h => h, fun i oi Li hi li => ?_, fun b x hb => (by cases hb), fun i oi Li hi li => ?_⟩
  ·obtain ⟨rfl, L, hL⟩ := dead hj; exact ⟨L, hL, trivial⟩
  ·obtain ⟨rfl, _⟩ := dead hi; cases li
  ·obtain ⟨rfl, _⟩ := dead hi; cases li
  ·obtain ⟨rfl, _⟩ := dead hi; cases li
 ·have h1 : 0 < len0 := by omega
  have h2 : len0 ≤ 20 := by omega
  have h3 : 10 ≤ len1 := by omega
  rcases hr0 with ⟨_, rfl, _⟩ | ⟨a0, cap0, rfl, hl0, hz0, hc0, hw0⟩
  ·omega
  rcases hr1 with ⟨_, rfl, _⟩ | ⟨a1, cap1, rfl, hl1, hz1, hc1, hw1⟩
  ·omega
  obtain ⟨b0, o0, s0, e0, fz0, rfl, hb0, hs0, hv0⟩ := row_at (by omega) hc0
  obtain ⟨b1, o1, s1, e1, fz1, rfl, hb1, hs1, hv1⟩ := row_at (by omega) hc1
  obtain ⟨m, rfl⟩ : ∃ m, len1 = m + 10 := ⟨len1 - 10, by omega⟩
  let ρ : Nat → Nat := fun q => (z0.getD q 0).toNat
  let u : Nat → Nat := fun j => if j < 10 then (z1.getD j 0).toNat else 0
  have hu : ∀ j, j < 10 → u j < 256 ∧ z1.getD j 0 = .ofNat (u j) := fun j hj => by
   obtain ⟨n, e, hn⟩ := getD_wf hw1 (i := j) (by omega)
   have : u j = n := by show (if j < 10 then (z1.getD j 0).toNat else 0) = n; rw [if_pos hj, e]; rfl
   rw [this]; exact ⟨hn, e⟩
  let E : Env := ⟨[⟨b0, o0, s0.size⟩, ⟨b1, o1, s1.size⟩], ⟨symVal ρ, W.os, W.output, fun _ => []⟩, fun i => if i = b0 ∨ i = b1 then none else W.heap[i]?, fun i => if i = b0 ∨ i = b1 then (W.heap[i]?).map .ob else none⟩
  have hsym : ∀ q, q < len0 → VRel E (.sym .u8 (2 * q)) (.int .u8 (z0.getD q 0)) := fun q hq => by
   obtain ⟨n, e, hn⟩ := getD_wf hw0 (i := q) (by omega)
   have hρ : ρ q = n := by show (z0.getD q 0).toNat = n; rw [e]; rfl
   rw [e]
   have hs : symVal ρ (2 * q) = some (Int.ofNat (ρ q % 256)) := by
    unfold symVal
    have h1 : Nat.mod (2 * q) 2 = 0 := by show 2 * q % 2 = 0; omega
    have h2 : Nat.div (2 * q) 2 = q := by show 2 * q / 2 = q; omega
    rw [h1]
    simp only [h2]
   rw [hρ, Nat.mod_eq_of_lt hn] at hs
   refine .sym _ hs ?_
   simp only [IntKind.wrap, IntKind.bits, IntKind.signed]
   have : ((n : Nat) : Int) % 256 = n := by omega
   simpa using this
  have t0 : E.tk b0 = some (.ob (.cells s0 e0 fz0)) := by
   show (if b0 = b0 ∨ b0 = b1 then (W.heap[b0]?).map Tok.ob else none) = _
   rw [if_pos (.inl rfl), hb0]; rfl
  have t1 : E.tk b1 = some (.ob (.cells s1 e1 fz1)) := by
   show (if b1 = b0 ∨ b1 = b1 then (W.heap[b1]?).map Tok.ob else none) = _
   rw [if_pos (.inr rfl), hb1]; rfl
  have objs : ∀ {j x}, (ofObjs [bO len0, wO u] 2).get j = some x → (j = 0 ∧ x = bO len0) ∨ (j = 1 ∧ x = wO u) := fun {j x} hj => by
   rw [ofObjs_get] at hj
   match j, hj with
   | 0, hj => injection hj with hj; exact .inl ⟨rfl, hj.symm⟩
   | 1, hj => injection hj with hj; exact .inr ⟨rfl, hj.symm⟩
   | j + 2, hj => cases hj
  have nolive : ∀ {j x}, (ofObjs [bO len0, wO u] 2).get j = some x → x.live = true → False := fun {j x} hj hx => by
   rcases objs hj with ⟨_, rfl⟩ | ⟨_, rfl⟩ <;> cases hx
  refine late_out (fr := E.fr) (sy := E.sym) (tk := E.tk) (E := E) (late_good (m := m) (lens_mem h1 h2) fun j hj => (hu j hj).1) ⟨rfl, rfl, fun _ _ h => h⟩ ?_ (.slcUp (L := ⟨b0, o0, s0.size⟩) rfl hl0 hl0 (.inr ⟨rfl, by show o0 + 0 + cap0 * 1 ≤ s0.size; omega⟩)) (.slcUp (L := ⟨b1, o1, s1.size⟩) rfl hl1 hl1 (.inr ⟨rfl, by show o1 + 0 + cap1 * 1 ≤ s1.size; omega⟩)) fun b o hb => ?_
  ·refine ⟨rfl, ⟨⟨ρ, rfl⟩, rfl, rfl⟩, fun j x hj => ?_, fun i j oi oj Li Lj hi hj li => (nolive hi li).elim, fun b o hb => ?_, fun i oi Li hi li => (nolive hi li).elim, fun b x hb => ?_, fun i oi Li hi li => (nolive hi li).elim⟩
   ·rcases objs hj with ⟨rfl, rfl⟩ | ⟨rfl, rfl⟩
    ·refine ⟨_, rfl, .inl ⟨s0, fz0, ⟨e0, t0⟩, rfl, by show o0 + _ ≤ _; simp; omega, fun q a hq => ?_⟩⟩
     have hlt : q < len0 := by simpa using (lgs.1 hq).1
     rw [List.getElem?_map, List.getElem?_range hlt, Option.map_some, sI] at hq
     subst hq
     exact ⟨_, hv0 q (by omega), hsym q hlt⟩
    ·refine ⟨_, rfl, .inl ⟨s1, fz1, ⟨e1, t1⟩, rfl, by show o1 + _ ≤ _; simp; omega, fun q a hq => ?_⟩⟩
     have hlt : q < 10 := by simpa using (lgs.1 hq).1
     rw [List.getElem?_map, List.getElem?_range hlt, Option.map_some, sI] at hq
     subst hq
     refine ⟨_, hv1 q (by omega), ?_⟩
     rw [(hu q hlt).2]; exact .int _ _
   ·have hb : (if b = b0 ∨ b = b1 then none else W.heap[b]?) = some o := hb
    split at hb
    ·cases hb
    ·exact hb
   ·have hb : (if b = b0 ∨ b = b1 then (W.heap[b]?).map Tok.ob else none) = some x := hb
    split at hb
    ·rename_i hbb
     rw [Option.map_eq_some_iff] at hb
     obtain ⟨o, ho, rfl⟩ := hb
     exact ⟨ho, if_pos hbb⟩
    ·cases hb
  ·by_cases hbb : b = b0 ∨ b = b1
   ·right
    show (if b = b0 ∨ b = b1 then (W.heap[b]?).map Tok.ob else none) = _
    rw [if_pos hbb, hb]; rfl
   ·left
    show (if b = b0 ∨ b = b1 then none else W.heap[b]?) = _
    rw [if_neg hbb]; exact hb
end Go.Proofs.YtbilacojhmohmaaGreat.Ae
end
