-- PRINTED BY print.sh 35421559b90ae4d0a3588c463048766b98c2df88dd9212a6774a882060cdf62d: not written by this session
import Derived.Test.YtffjgmhobilfmaaPNeedMorex0
namespace Go.Proofs.Ytffjgmhobilfmaa.PNeedMore
open Go.RowKit Go.Proofs.YtffjgmhobilfmaaW.PrintWords Go.Proofs.YtffjgmhobilfmaaW.PrintLast Go.Proofs.YtffjgmhobilfmaaW.PrintMore
attribute [local go_sem] max2_int min2_int max_two min_two max_three min_three max_four min_four   -- for this text's walks alone
set_option linter.unusedVariables false
set_option linter.unusedSimpArgs false

/-! ### need_up: function 26 -/
def need_up.f (a0 : Int) (a1 : Int) : Option (Int) := if a1 = 0 then (none) else (if (Int.tmod a0 a1) > 0 then (some (wrap64 ((wrap64 (Int.tdiv a0 a1)) + 1))) else (some (wrap64 (Int.tdiv a0 a1))))
set_option maxHeartbeats 8000000 in
set_option maxRecDepth 100000 in
theorem need_up.calls (a0 : Int) (a1 : Int) (r : Int) (w : World) (h : need_up.f a0 a1 = some r) :
    Calls Try.prog 26 #[.int .i64 a0, .int .i64 a1] w fun e w' => e = .returned (.int .i64 r) ∧ Drawn0 w w' := by
  have H : (if a1 = 0 then (none) else (if (Int.tmod a0 a1) > 0 then (some (wrap64 ((wrap64 (Int.tdiv a0 a1)) + 1))) else (some (wrap64 (Int.tdiv a0 a1))))) = some r := h
  clear h
  by_cases c3 : a1 = 0
  · rw [if_pos c3] at H
    exact absurd H (by simp)
  · rw [if_neg c3] at H
    have c3b0 : (a1 == 0) = false := beq_eq_false_iff_ne.mpr c3
    have c3b1 : (a1 != 0) = true := bne_iff_ne.mpr c3
    by_cases c4 : (Int.tmod a0 a1) > 0
    · rw [if_pos c4] at H
      have c4b0 : decide (0 < (Int.tmod a0 a1)) = true := decide_eq_true c4
      clear c4
      obtain rfl := Option.some.inj H
      go_enter Try.func26, Try.ntmps26
      go_wp2
      go_ret
      exact ⟨by first | rfl | (simp; done) | (simp [*]; done), by repeat (first | exact Drawn0.refl _ | apply Drawn0.step)⟩
    · rw [if_neg c4] at H
      have c4b0 : decide (0 < (Int.tmod a0 a1)) = false := decide_eq_false c4
      clear c4
      obtain rfl := Option.some.inj H
      go_enter Try.func26, Try.ntmps26
      go_wp2
      go_ret
      exact ⟨by first | rfl | (simp; done) | (simp [*]; done), by repeat (first | exact Drawn0.refl _ | apply Drawn0.step)⟩

/-! ### need_Count: function 24 -/
def need_Count.j0 : Nat → Int → Int → Int → Bool → Option (Int)
  | 0, _, _, _, _ => none
  | k + 1, x0, x1, x2, x9 => if x9 = true then (some 0) else (if x1 ≥ 65536 then (some 64) else ((need_up.f (wrap64 ((mn x0 32) * x1)) (wrap64 (65536 - x1))).bind fun t101 => ((need_up.f (mx x2 0) 16).bind fun t102 => (some (mn (wrap64 (t101 + (mn t102 64))) 64)))))
def need_Count.f (k : Nat) (a0 : Int) (a1 : Int) (a2 : Int) : Option (Int) := if a0 ≤ 0 then (need_Count.j0 k a0 a1 a2 true) else (need_Count.j0 k a0 a1 a2 (decide (a1 ≤ 0)))
theorem need_Count.mono_l : ∀ k, (∀ y0 y1 y2 y3, LeO (need_Count.j0 k y0 y1 y2 y3) (need_Count.j0 (k + 1) y0 y1 y2 y3))
  | 0 => fun _ _ _ _ r h => by simp [need_Count.j0] at h
  | k + 1 => by
    have ih0 := need_Count.mono_l k
    · intro y0 y1 y2 y3
      unfold need_Count.j0
      repeat' first
      | (with_reducible exact ih0 _ _ _ _)
      | (with_reducible exact LeO.refl _)
      | (with_reducible exact LeO.none _)
      | (with_reducible refine LeO.ite ?_ ?_)
      | (with_reducible refine LeO.bind ?_ (fun _ => ?_))
      | exact ih0 _ _ _ _
      | exact LeO.none _
      | refine LeO.ite ?_ ?_
      | refine LeO.bind ?_ (fun _ => ?_)
theorem need_Count.mono : ∀ a0 a1 a2 k, LeO (need_Count.f k a0 a1 a2) (need_Count.f (k + 1) a0 a1 a2) := by
  intro a0 a1 a2 k
  have ih0 := need_Count.mono_l k
  unfold need_Count.f
  repeat' first
      | (with_reducible exact ih0 _ _ _ _)
      | (with_reducible exact LeO.refl _)
      | (with_reducible exact LeO.none _)
      | (with_reducible refine LeO.ite ?_ ?_)
      | (with_reducible refine LeO.bind ?_ (fun _ => ?_))
      | exact ih0 _ _ _ _
      | exact LeO.none _
      | refine LeO.ite ?_ ?_
      | refine LeO.bind ?_ (fun _ => ?_)
set_option maxHeartbeats 8000000 in
set_option maxRecDepth 100000 in
theorem need_Count.calls (k : Nat) (a0 : Int) (a1 : Int) (a2 : Int) (r : Int) (w : World) (h : need_Count.f k a0 a1 a2 = some r) :
    Calls Try.prog 24 #[.int .i64 a0, .int .i64 a1, .int .i64 a2] w fun e w' => e = .returned (.int .i64 r) ∧ Below w.heap.size w w' := by
  have HB := Aside0.mk (Below.refl w.heap.size w)
  have H : (if a0 ≤ 0 then (need_Count.j0 k a0 a1 a2 true) else (need_Count.j0 k a0 a1 a2 (decide (a1 ≤ 0)))) = some r := h
  clear h
  have HC4 := Aside0.mk H
  clear H
  go_enter Try.func24, Try.ntmps24
  go_upto_region 1 with (fail)
  go_cut [9] (fun v9 wc => ∃ (kq : Nat) (x9_3 : Bool), v9 = .bool x9_3 ∧ Aside0 (need_Count.j0 kq a0 a1 a2 x9_3 = some r) ∧ Aside0 (kq ≤ k) ∧ Aside0 (Below w.heap.size w wc))
  case first =>
    have H := HC4.out
    clear HC4
    by_cases c5 : a0 ≤ 0
    · rw [if_pos c5] at H
      have c5b0 : decide (a0 ≤ 0) = true := decide_eq_true c5
      clear c5
      (first | rw [c5b0] | (simp only [i64_w, i32_w]; rw [c5b0]) | skip)
      have H' := Aside0.mk H
      clear H
      go_wp2
      go_meet
      case rel => exact ⟨_, (true), (by first | rfl | (simp; done) | (simp [*]; done)), H', ⟨by first | omega | exact Nat.le_refl _⟩, ⟨by repeat (first | (with_reducible first | exact HB.out | apply below_alloc | apply pw_below_drewN | apply below_drew1) | exact HB.out)⟩⟩
    · rw [if_neg c5] at H
      have c5b0 : decide (a0 ≤ 0) = false := decide_eq_false c5
      clear c5
      (first | rw [c5b0] | (simp only [i64_w, i32_w]; rw [c5b0]) | skip)
      have H' := Aside0.mk H
      clear H
      go_wp2
      go_meet
      case rel => exact ⟨_, (decide (a1 ≤ 0)), (by first | rfl | (simp; done) | (simp [*]; done)), H', ⟨by first | omega | exact Nat.le_refl _⟩, ⟨by repeat (first | (with_reducible first | exact HB.out | apply below_alloc | apply pw_below_drewN | apply below_drew1) | exact HB.out)⟩⟩
  case rest =>
    clear HC4
    try clear c2
    try clear p2
    try clear c5
    try clear c5b0
    obtain ⟨kq, x9_3, rfl, HA, HJ3, HB⟩ := hcut
    cases kq with
    | zero => exact absurd HA.out (by simp [need_Count.j0])
    | succ kj3 =>
      have H := HA.out
      clear HA
      simp only [need_Count.j0] at H
      by_cases c6 : x9_3 = true
      · subst c6
        have H1 : (some 0) = some r := by rw [if_pos rfl] at H; exact H
        clear H
        have H := H1
        clear H1
        obtain rfl := Option.some.inj H
        go_wp2
        go_ret
        exact ⟨by first | rfl | (simp [errW_none, errW_some] <;> rfl) | (simp [*, errW_none, errW_some] <;> rfl), by repeat (first | (with_reducible first | exact HB.out | apply below_alloc | apply pw_below_drewN | apply below_drew1) | exact HB.out)⟩
      · replace c6 := Bool.eq_false_iff.mpr c6
        subst c6
        have H1 : (if a1 ≥ 65536 then (some 64) else ((need_up.f (wrap64 ((mn a0 32) * a1)) (wrap64 (65536 - a1))).bind fun t101 => ((need_up.f (mx a2 0) 16).bind fun t102 => (some (mn (wrap64 (t101 + (mn t102 64))) 64))))) = some r := by rw [if_neg (show ¬ (false = true) by decide)] at H; exact H
        clear H
        have H := H1
        clear H1
        by_cases c7 : a1 ≥ 65536
        · rw [if_pos c7] at H
          have c7b0 : decide (65536 ≤ a1) = true := decide_eq_true c7
          clear c7
          obtain rfl := Option.some.inj H
          go_wp2
          go_ret
          exact ⟨by first | rfl | (simp [errW_none, errW_some] <;> rfl) | (simp [*, errW_none, errW_some] <;> rfl), by repeat (first | (with_reducible first | exact HB.out | apply below_alloc | apply pw_below_drewN | apply below_drew1) | exact HB.out)⟩
        · rw [if_neg c7] at H
          have c7b0 : decide (65536 ≤ a1) = false := decide_eq_false c7
          clear c7
          obtain ⟨ji8, hji8⟩ : ∃ j_ : Int, (mn a0 32) = j_ := ⟨_, rfl⟩
          replace H : ((need_up.f (wrap64 ((ji8) * a1)) (wrap64 (65536 - a1))).bind fun t101 => ((need_up.f (mx a2 0) 16).bind fun t102 => (some (mn (wrap64 (t101 + (mn t102 64))) 64)))) = some r := by first | (rw [hji8] at H; exact H) | (simp only [hji8] at H ⊢; exact H)
          have hji8_ : (if 32 < a0 then 32 else a0) = ji8 := hji8
          replace H := Option.bind_eq_some_iff.mp H
          obtain ⟨t101, A90, H⟩ := H
          replace H : ((need_up.f (mx a2 0) 16).bind fun t102 => (some (mn (wrap64 (t101 + (mn t102 64))) 64))) = some r := H
          have A9 := Aside0.mk A90
          clear A90
          obtain ⟨ji10, hji10⟩ : ∃ j_ : Int, (mx a2 0) = j_ := ⟨_, rfl⟩
          replace H : ((need_up.f (ji10) 16).bind fun t102 => (some (mn (wrap64 (t101 + (mn t102 64))) 64))) = some r := by first | (rw [hji10] at H; exact H) | (simp only [hji10] at H ⊢; exact H)
          (try rw [hji10] at A9)
          have hji10_ : (if a2 < 0 then 0 else a2) = ji10 := hji10
          replace H := Option.bind_eq_some_iff.mp H
          obtain ⟨t102, A110, H⟩ := H
          replace H : (some (mn (wrap64 (t101 + (mn t102 64))) 64)) = some r := H
          have A11 := Aside0.mk A110
          clear A110
          obtain ⟨ji12, hji12⟩ : ∃ j_ : Int, (mn t102 64) = j_ := ⟨_, rfl⟩
          replace H : (some (mn (wrap64 (t101 + (ji12))) 64)) = some r := by first | (rw [hji12] at H; exact H) | (simp only [hji12] at H ⊢; exact H)
          (try rw [hji12] at A9)
          (try rw [hji12] at A11)
          (try (have hji12h : ji12 ≤ 64 := by (rw [← hji12]; unfold mn; (repeat' split) <;> omega)))
          (try (have hji12g : ji12 ≤ 64 := by omega))
          have hji12_ : (if 64 < t102 then 64 else t102) = ji12 := hji12
          obtain ⟨ji13, hji13⟩ : ∃ j_ : Int, (mn (wrap64 (t101 + (ji12))) 64) = j_ := ⟨_, rfl⟩
          replace H : (some ji13) = some r := by first | (rw [hji13] at H; exact H) | (simp only [hji13] at H ⊢; exact H)
          (try rw [hji13] at A9)
          (try rw [hji13] at A11)
          have hji13_ : (if 64 < (wrap64 (t101 + (ji12))) then 64 else (wrap64 (t101 + (ji12)))) = ji13 := hji13
          obtain rfl := Option.some.inj H
          go_wp2_with (first | ((with_reducible refine gate_callee (f := 26) rfl ?_); refine goesL_ (some 25) rfl rfl Try.func26 (by kernel_rfl) rfl #[.int .i64 (wrap64 ((ji8) * a1)), .int .i64 (wrap64 (65536 - a1))] rfl (by (try simp only [List.map_toArray, List.map_cons, List.map_nil]); first | done | (simp only [hji8]; rfl) | rfl | (simp only [List.length_drop, List.length_take]; rfl)) ?_; (with_reducible refine (need_up.calls (wrap64 ((ji8) * a1)) (wrap64 (65536 - a1)) t101 _ A9.out).mono ?_); rintro e w' ⟨rfl, ⟨nd, rfl⟩⟩; refine ⟨_, rfl, ?_⟩) | ((with_reducible refine gate_callee (f := 26) rfl ?_); refine goesL_ (some 28) rfl rfl Try.func26 (by kernel_rfl) rfl #[.int .i64 ji10, .int .i64 16] rfl (by (try simp only [List.map_toArray, List.map_cons, List.map_nil]); first | done | (simp only [hji10]; rfl) | rfl | (simp only [List.length_drop, List.length_take]; rfl)) ?_; (with_reducible refine (need_up.calls ji10 16 t102 _ A11.out).mono ?_); rintro e w' ⟨rfl, ⟨nd, rfl⟩⟩; refine ⟨_, rfl, ?_⟩))
          go_ret
          exact ⟨by first | rfl | (simp [errW_none, errW_some] <;> rfl) | (simp only [← hji8, ← hji10, ← hji12, ← hji13]; first | rfl | (simp [errW_none, errW_some] <;> rfl)) | (simp [*, errW_none, errW_some] <;> rfl), by repeat (first | (with_reducible first | exact HB.out | apply below_alloc | apply pw_below_drewN | apply below_drew1) | exact HB.out)⟩

/-! ### girandolelaw20_begun: function 23 -/
def girandolelaw20_begun.f (k : Nat)  : Option (Bool) := (need_Count.f k 10 32768 0).bind fun t103 => (if t103 = 10 then ((need_Count.f k 10 0 99).bind fun t104 => (if t104 = 0 then ((need_Count.f k 1 65536 0).bind fun t105 => (if t105 = 64 then ((need_Count.f k 10 1 17).bind fun t106 => (some (t106 == 3))) else (some false))) else (some false))) else (some false))
theorem girandolelaw20_begun.mono : ∀ k, LeO (girandolelaw20_begun.f k ) (girandolelaw20_begun.f (k + 1) ) := by
  intro  k
  unfold girandolelaw20_begun.f
  repeat' first
      | (with_reducible exact need_Count.mono _ _ _ _)
      | (with_reducible exact LeO.refl _)
      | (with_reducible exact LeO.none _)
      | (with_reducible refine LeO.ite ?_ ?_)
      | (with_reducible refine LeO.bind ?_ (fun _ => ?_))
      | exact need_Count.mono _ _ _ _
      | exact LeO.none _
      | refine LeO.ite ?_ ?_
      | refine LeO.bind ?_ (fun _ => ?_)
set_option maxHeartbeats 8000000 in
set_option maxRecDepth 100000 in
theorem girandolelaw20_begun.calls (k : Nat)  (r : Bool) (w : World) (h : girandolelaw20_begun.f k  = some r) :
    Calls Try.prog 23 #[] w fun e w' => e = .returned (.bool r) ∧ Below w.heap.size w w' := by
  have HB := Aside0.mk (Below.refl w.heap.size w)
  have H : ((need_Count.f k 10 32768 0).bind fun t103 => (if t103 = 10 then ((need_Count.f k 10 0 99).bind fun t104 => (if t104 = 0 then ((need_Count.f k 1 65536 0).bind fun t105 => (if t105 = 64 then ((need_Count.f k 10 1 17).bind fun t106 => (some (t106 == 3))) else (some false))) else (some false))) else (some false))) = some r := h
  clear h
  replace H := Option.bind_eq_some_iff.mp H
  obtain ⟨t103, A10, H⟩ := H
  replace H : (if t103 = 10 then ((need_Count.f k 10 0 99).bind fun t104 => (if t104 = 0 then ((need_Count.f k 1 65536 0).bind fun t105 => (if t105 = 64 then ((need_Count.f k 10 1 17).bind fun t106 => (some (t106 == 3))) else (some false))) else (some false))) else (some false)) = some r := H
  have A1 := Aside0.mk A10
  clear A10
  by_cases c2 : t103 = 10
  · rw [if_pos c2] at H
    have c2b0 : (t103 == 10) = true := beq_iff_eq.mpr c2
    have c2b1 : (t103 != 10) = false := bne_eq_false_iff_eq.mpr c2
    clear c2
    replace H := Option.bind_eq_some_iff.mp H
    obtain ⟨t104, A30, H⟩ := H
    replace H : (if t104 = 0 then ((need_Count.f k 1 65536 0).bind fun t105 => (if t105 = 64 then ((need_Count.f k 10 1 17).bind fun t106 => (some (t106 == 3))) else (some false))) else (some false)) = some r := H
    have A3 := Aside0.mk A30
    clear A30
    by_cases c4 : t104 = 0
    · rw [if_pos c4] at H
      have c4b0 : (t104 == 0) = true := beq_iff_eq.mpr c4
      have c4b1 : (t104 != 0) = false := bne_eq_false_iff_eq.mpr c4
      clear c4
      replace H := Option.bind_eq_some_iff.mp H
      obtain ⟨t105, A50, H⟩ := H
      replace H : (if t105 = 64 then ((need_Count.f k 10 1 17).bind fun t106 => (some (t106 == 3))) else (some false)) = some r := H
      have A5 := Aside0.mk A50
      clear A50
      by_cases c6 : t105 = 64
      · rw [if_pos c6] at H
        have c6b0 : (t105 == 64) = true := beq_iff_eq.mpr c6
        have c6b1 : (t105 != 64) = false := bne_eq_false_iff_eq.mpr c6
        clear c6
        replace H := Option.bind_eq_some_iff.mp H
        obtain ⟨t106, A70, H⟩ := H
        replace H : (some (t106 == 3)) = some r := H
        have A7 := Aside0.mk A70
        clear A70
        obtain rfl := Option.some.inj H
        go_enter Try.func23, Try.ntmps23
        go_wp2_with (first | ((with_reducible refine gate_callee (f := 24) rfl ?_); refine goesL_ (some 1) rfl rfl Try.func24 (by kernel_rfl) rfl #[.int .i64 10, .int .i64 32768, .int .i64 0] rfl (by (try simp only [List.map_toArray, List.map_cons, List.map_nil]); first | done | rfl | (simp only [List.length_drop, List.length_take]; rfl)) ?_; (with_reducible refine (need_Count.calls k 10 32768 0 t103 _ A1.out).mono ?_); rintro e w8 ⟨rfl, hb⟩; refine ⟨_, rfl, ?_⟩; have n0_ := Aside0.mk (below_step (by repeat (first | (with_reducible first | exact HB.out | apply below_alloc | apply pw_below_drewN | apply below_drew1) | exact HB.out)) hb); clear HB; have HB := n0_; clear n0_; (try clear hb); (try clear hb2); (try clear hk); (try clear hi)) | (go_at_call 24; (with_reducible refine (need_Count.calls k 10 0 99 t104 _ A3.out).mono ?_); rintro e w9 ⟨rfl, hb⟩; have n0_ := Aside0.mk (below_step (by repeat (first | (with_reducible first | exact HB.out | apply below_alloc | apply pw_below_drewN | apply below_drew1) | exact HB.out)) hb); clear HB; have HB := n0_; clear n0_; (try clear hb); (try clear hb2); (try clear hk); (try clear hi)) | (go_at_call 24; (with_reducible refine (need_Count.calls k 1 65536 0 t105 _ A5.out).mono ?_); rintro e w10 ⟨rfl, hb⟩; have n0_ := Aside0.mk (below_step (by repeat (first | (with_reducible first | exact HB.out | apply below_alloc | apply pw_below_drewN | apply below_drew1) | exact HB.out)) hb); clear HB; have HB := n0_; clear n0_; (try clear hb); (try clear hb2); (try clear hk); (try clear hi)) | (go_at_call 24; (with_reducible refine (need_Count.calls k 10 1 17 t106 _ A7.out).mono ?_); rintro e w11 ⟨rfl, hb⟩; have n0_ := Aside0.mk (below_step (by repeat (first | (with_reducible first | exact HB.out | apply below_alloc | apply pw_below_drewN | apply below_drew1) | exact HB.out)) hb); clear HB; have HB := n0_; clear n0_; (try clear hb); (try clear hb2); (try clear hk); (try clear hi)))
        go_ret
        exact ⟨by first | rfl | (simp [errW_none, errW_some] <;> rfl) | (simp [*, errW_none, errW_some] <;> rfl), by repeat (first | (with_reducible first | exact HB.out | apply below_alloc | apply pw_below_drewN | apply below_drew1) | exact HB.out)⟩
      · rw [if_neg c6] at H
        have c6b0 : (t105 == 64) = false := beq_eq_false_iff_ne.mpr c6
        have c6b1 : (t105 != 64) = true := bne_iff_ne.mpr c6
        obtain rfl := Option.some.inj H
        go_enter Try.func23, Try.ntmps23
        go_wp2_with (first | ((with_reducible refine gate_callee (f := 24) rfl ?_); refine goesL_ (some 1) rfl rfl Try.func24 (by kernel_rfl) rfl #[.int .i64 10, .int .i64 32768, .int .i64 0] rfl (by (try simp only [List.map_toArray, List.map_cons, List.map_nil]); first | done | rfl | (simp only [List.length_drop, List.length_take]; rfl)) ?_; (with_reducible refine (need_Count.calls k 10 32768 0 t103 _ A1.out).mono ?_); rintro e w12 ⟨rfl, hb⟩; refine ⟨_, rfl, ?_⟩; have n0_ := Aside0.mk (below_step (by repeat (first | (with_reducible first | exact HB.out | apply below_alloc | apply pw_below_drewN | apply below_drew1) | exact HB.out)) hb); clear HB; have HB := n0_; clear n0_; (try clear hb); (try clear hb2); (try clear hk); (try clear hi)) | (go_at_call 24; (with_reducible refine (need_Count.calls k 10 0 99 t104 _ A3.out).mono ?_); rintro e w13 ⟨rfl, hb⟩; have n0_ := Aside0.mk (below_step (by repeat (first | (with_reducible first | exact HB.out | apply below_alloc | apply pw_below_drewN | apply below_drew1) | exact HB.out)) hb); clear HB; have HB := n0_; clear n0_; (try clear hb); (try clear hb2); (try clear hk); (try clear hi)) | (go_at_call 24; (with_reducible refine (need_Count.calls k 1 65536 0 t105 _ A5.out).mono ?_); rintro e w14 ⟨rfl, hb⟩; have n0_ := Aside0.mk (below_step (by repeat (first | (with_reducible first | exact HB.out | apply below_alloc | apply pw_below_drewN | apply below_drew1) | exact HB.out)) hb); clear HB; have HB := n0_; clear n0_; (try clear hb); (try clear hb2); (try clear hk); (try clear hi)))
        go_ret
        exact ⟨by first | rfl | (simp [errW_none, errW_some] <;> rfl) | (simp [*, errW_none, errW_some] <;> rfl), by repeat (first | (with_reducible first | exact HB.out | apply below_alloc | apply pw_below_drewN | apply below_drew1) | exact HB.out)⟩
    · rw [if_neg c4] at H
      have c4b0 : (t104 == 0) = false := beq_eq_false_iff_ne.mpr c4
      have c4b1 : (t104 != 0) = true := bne_iff_ne.mpr c4
      obtain rfl := Option.some.inj H
      go_enter Try.func23, Try.ntmps23
      go_wp2_with (first | ((with_reducible refine gate_callee (f := 24) rfl ?_); refine goesL_ (some 1) rfl rfl Try.func24 (by kernel_rfl) rfl #[.int .i64 10, .int .i64 32768, .int .i64 0] rfl (by (try simp only [List.map_toArray, List.map_cons, List.map_nil]); first | done | rfl | (simp only [List.length_drop, List.length_take]; rfl)) ?_; (with_reducible refine (need_Count.calls k 10 32768 0 t103 _ A1.out).mono ?_); rintro e w15 ⟨rfl, hb⟩; refine ⟨_, rfl, ?_⟩; have n0_ := Aside0.mk (below_step (by repeat (first | (with_reducible first | exact HB.out | apply below_alloc | apply pw_below_drewN | apply below_drew1) | exact HB.out)) hb); clear HB; have HB := n0_; clear n0_; (try clear hb); (try clear hb2); (try clear hk); (try clear hi)) | (go_at_call 24; (with_reducible refine (need_Count.calls k 10 0 99 t104 _ A3.out).mono ?_); rintro e w16 ⟨rfl, hb⟩; have n0_ := Aside0.mk (below_step (by repeat (first | (with_reducible first | exact HB.out | apply below_alloc | apply pw_below_drewN | apply below_drew1) | exact HB.out)) hb); clear HB; have HB := n0_; clear n0_; (try clear hb); (try clear hb2); (try clear hk); (try clear hi)))
      go_ret
      exact ⟨by first | rfl | (simp [errW_none, errW_some] <;> rfl) | (simp [*, errW_none, errW_some] <;> rfl), by repeat (first | (with_reducible first | exact HB.out | apply below_alloc | apply pw_below_drewN | apply below_drew1) | exact HB.out)⟩
  · rw [if_neg c2] at H
    have c2b0 : (t103 == 10) = false := beq_eq_false_iff_ne.mpr c2
    have c2b1 : (t103 != 10) = true := bne_iff_ne.mpr c2
    obtain rfl := Option.some.inj H
    go_enter Try.func23, Try.ntmps23
    go_wp2_with (first | ((with_reducible refine gate_callee (f := 24) rfl ?_); refine goesL_ (some 1) rfl rfl Try.func24 (by kernel_rfl) rfl #[.int .i64 10, .int .i64 32768, .int .i64 0] rfl (by (try simp only [List.map_toArray, List.map_cons, List.map_nil]); first | done | rfl | (simp only [List.length_drop, List.length_take]; rfl)) ?_; (with_reducible refine (need_Count.calls k 10 32768 0 t103 _ A1.out).mono ?_); rintro e w17 ⟨rfl, hb⟩; refine ⟨_, rfl, ?_⟩; have n0_ := Aside0.mk (below_step (by repeat (first | (with_reducible first | exact HB.out | apply below_alloc | apply pw_below_drewN | apply below_drew1) | exact HB.out)) hb); clear HB; have HB := n0_; clear n0_; (try clear hb); (try clear hb2); (try clear hk); (try clear hi)))
    go_ret
    exact ⟨by first | rfl | (simp [errW_none, errW_some] <;> rfl) | (simp [*, errW_none, errW_some] <;> rfl), by repeat (first | (with_reducible first | exact HB.out | apply below_alloc | apply pw_below_drewN | apply below_drew1) | exact HB.out)⟩

/-! ### girandolelaw20_NeedMore: function 11 -/
def girandolelaw20_NeedMore.j0 : Nat → Int → Int → Int → Bool → Option (Bool)
  | 0, _, _, _, _ => none
  | k + 1, x1, x3, x11, x68 => if x68 = true then (some false) else ((need_Count.f k x11 0 (wrap64 (x3))).bind fun t112 => (if t112 = 0 then ((need_Count.f k x11 (-1) (wrap64 (x3))).bind fun t113 => (if t113 = 0 then ((need_Count.f k 0 (wrap64 (x1)) (wrap64 (x3))).bind fun t114 => (if t114 = 0 then ((need_Count.f k x11 (wrap64 (x1)) 0).bind fun t115 => (if t115 = 64 then (some true) else (if (wrap64 ((wrap64 (x11 + t115)) * (wrap64 (65536 - (wrap64 (x1)))))) ≥ (wrap64 (x11 * 65536)) then (if t115 = 0 then (some true) else (some (decide ((wrap64 ((wrap64 ((wrap64 (x11 + t115)) - 1)) * (wrap64 (65536 - (wrap64 (x1)))))) < (wrap64 (x11 * 65536)))))) else (some false)))) else (some false))) else (some false))) else (some false)))
def girandolelaw20_NeedMore.f (k : Nat) (a0 : Int) (a1 : Int) (a2 : Int) (a3 : Int) (a4 : Int) : Option (Bool) := (girandolelaw20_begun.f k).bind fun t107 => (if t107 = true then ((need_Count.f k (wrap64 (1 + (Int.tmod (wrap64 (a0)) 32))) (wrap64 (mn a1 a2)) (wrap64 (mn a3 a4))).bind fun t108 => ((need_Count.f k (wrap64 (1 + (Int.tmod (wrap64 (a0)) 32))) (wrap64 (mx a1 a2)) (wrap64 (mx a3 a4))).bind fun t109 => (if t108 < 0 then (girandolelaw20_NeedMore.j0 k a1 a3 (wrap64 (1 + (Int.tmod (wrap64 (a0)) 32))) true) else (if t108 > t109 then (girandolelaw20_NeedMore.j0 k a1 a3 (wrap64 (1 + (Int.tmod (wrap64 (a0)) 32))) true) else (if t109 > 64 then (girandolelaw20_NeedMore.j0 k a1 a3 (wrap64 (1 + (Int.tmod (wrap64 (a0)) 32))) true) else ((need_Count.f k (mx (wrap64 ((wrap64 (1 + (Int.tmod (wrap64 (a0)) 32))) - 1)) 1) (wrap64 (a1)) (wrap64 (a3))).bind fun t110 => ((need_Count.f k (wrap64 (1 + (Int.tmod (wrap64 (a0)) 32))) (wrap64 (a1)) (wrap64 (a3))).bind fun t111 => (girandolelaw20_NeedMore.j0 k a1 a3 (wrap64 (1 + (Int.tmod (wrap64 (a0)) 32))) (decide (t110 > t111)))))))))) else (some false))
theorem girandolelaw20_NeedMore.mono_l : ∀ k, (∀ y0 y1 y2 y3, LeO (girandolelaw20_NeedMore.j0 k y0 y1 y2 y3) (girandolelaw20_NeedMore.j0 (k + 1) y0 y1 y2 y3))
  | 0 => fun _ _ _ _ r h => by simp [girandolelaw20_NeedMore.j0] at h
  | k + 1 => by
    have ih0 := girandolelaw20_NeedMore.mono_l k
    · intro y0 y1 y2 y3
      unfold girandolelaw20_NeedMore.j0
      repeat' first
      | (with_reducible exact ih0 _ _ _ _)
      | (with_reducible exact girandolelaw20_begun.mono _)
      | (with_reducible exact need_Count.mono _ _ _ _)
      | (with_reducible exact LeO.refl _)
      | (with_reducible exact LeO.none _)
      | (with_reducible refine LeO.ite ?_ ?_)
      | (with_reducible refine LeO.bind ?_ (fun _ => ?_))
      | exact ih0 _ _ _ _
      | exact girandolelaw20_begun.mono _
      | exact need_Count.mono _ _ _ _
      | exact LeO.none _
      | refine LeO.ite ?_ ?_
      | refine LeO.bind ?_ (fun _ => ?_)
theorem girandolelaw20_NeedMore.mono : ∀ a0 a1 a2 a3 a4 k, LeO (girandolelaw20_NeedMore.f k a0 a1 a2 a3 a4) (girandolelaw20_NeedMore.f (k + 1) a0 a1 a2 a3 a4) := by
  intro a0 a1 a2 a3 a4 k
  have ih0 := girandolelaw20_NeedMore.mono_l k
  unfold girandolelaw20_NeedMore.f
  repeat' first
      | (with_reducible exact ih0 _ _ _ _)
      | (with_reducible exact girandolelaw20_begun.mono _)
      | (with_reducible exact need_Count.mono _ _ _ _)
      | (with_reducible exact LeO.refl _)
      | (with_reducible exact LeO.none _)
      | (with_reducible refine LeO.ite ?_ ?_)
      | (with_reducible refine LeO.bind ?_ (fun _ => ?_))
      | exact ih0 _ _ _ _
      | exact girandolelaw20_begun.mono _
      | exact need_Count.mono _ _ _ _
      | exact LeO.none _
      | refine LeO.ite ?_ ?_
      | refine LeO.bind ?_ (fun _ => ?_)
set_option maxHeartbeats 8000000 in
set_option maxRecDepth 100000 in
theorem girandolelaw20_NeedMore.calls (k : Nat) (a0 : Int) (a1 : Int) (a2 : Int) (a3 : Int) (a4 : Int) (r : Bool) (w : World) (h : girandolelaw20_NeedMore.f k a0 a1 a2 a3 a4 = some r) :
    Calls Try.prog 11 #[.int .u8 a0, .int .u16 a1, .int .u16 a2, .int .u16 a3, .int .u16 a4] w fun e w' => e = .returned (.bool r) ∧ Below w.heap.size w w' := by
  have HB := Aside0.mk (Below.refl w.heap.size w)
  have H : ((girandolelaw20_begun.f k).bind fun t107 => (if t107 = true then ((need_Count.f k (wrap64 (1 + (Int.tmod (wrap64 (a0)) 32))) (wrap64 (mn a1 a2)) (wrap64 (mn a3 a4))).bind fun t108 => ((need_Count.f k (wrap64 (1 + (Int.tmod (wrap64 (a0)) 32))) (wrap64 (mx a1 a2)) (wrap64 (mx a3 a4))).bind fun t109 => (if t108 < 0 then (girandolelaw20_NeedMore.j0 k a1 a3 (wrap64 (1 + (Int.tmod (wrap64 (a0)) 32))) true) else (if t108 > t109 then (girandolelaw20_NeedMore.j0 k a1 a3 (wrap64 (1 + (Int.tmod (wrap64 (a0)) 32))) true) else (if t109 > 64 then (girandolelaw20_NeedMore.j0 k a1 a3 (wrap64 (1 + (Int.tmod (wrap64 (a0)) 32))) true) else ((need_Count.f k (mx (wrap64 ((wrap64 (1 + (Int.tmod (wrap64 (a0)) 32))) - 1)) 1) (wrap64 (a1)) (wrap64 (a3))).bind fun t110 => ((need_Count.f k (wrap64 (1 + (Int.tmod (wrap64 (a0)) 32))) (wrap64 (a1)) (wrap64 (a3))).bind fun t111 => (girandolelaw20_NeedMore.j0 k a1 a3 (wrap64 (1 + (Int.tmod (wrap64 (a0)) 32))) (decide (t110 > t111)))))))))) else (some false))) = some r := h
  clear h
  replace H := Option.bind_eq_some_iff.mp H
  obtain ⟨t107, A60, H⟩ := H
  replace H : (if t107 = true then ((need_Count.f k (wrap64 (1 + (Int.tmod (wrap64 (a0)) 32))) (wrap64 (mn a1 a2)) (wrap64 (mn a3 a4))).bind fun t108 => ((need_Count.f k (wrap64 (1 + (Int.tmod (wrap64 (a0)) 32))) (wrap64 (mx a1 a2)) (wrap64 (mx a3 a4))).bind fun t109 => (if t108 < 0 then (girandolelaw20_NeedMore.j0 k a1 a3 (wrap64 (1 + (Int.tmod (wrap64 (a0)) 32))) true) else (if t108 > t109 then (girandolelaw20_NeedMore.j0 k a1 a3 (wrap64 (1 + (Int.tmod (wrap64 (a0)) 32))) true) else (if t109 > 64 then (girandolelaw20_NeedMore.j0 k a1 a3 (wrap64 (1 + (Int.tmod (wrap64 (a0)) 32))) true) else ((need_Count.f k (mx (wrap64 ((wrap64 (1 + (Int.tmod (wrap64 (a0)) 32))) - 1)) 1) (wrap64 (a1)) (wrap64 (a3))).bind fun t110 => ((need_Count.f k (wrap64 (1 + (Int.tmod (wrap64 (a0)) 32))) (wrap64 (a1)) (wrap64 (a3))).bind fun t111 => (girandolelaw20_NeedMore.j0 k a1 a3 (wrap64 (1 + (Int.tmod (wrap64 (a0)) 32))) (decide (t110 > t111)))))))))) else (some false)) = some r := H
  have A6 := Aside0.mk A60
  clear A60
  by_cases c7 : t107 = true
  · subst c7
    have H1 : ((need_Count.f k (wrap64 (1 + (Int.tmod (wrap64 (a0)) 32))) (wrap64 (mn a1 a2)) (wrap64 (mn a3 a4))).bind fun t108 => ((need_Count.f k (wrap64 (1 + (Int.tmod (wrap64 (a0)) 32))) (wrap64 (mx a1 a2)) (wrap64 (mx a3 a4))).bind fun t109 => (if t108 < 0 then (girandolelaw20_NeedMore.j0 k a1 a3 (wrap64 (1 + (Int.tmod (wrap64 (a0)) 32))) true) else (if t108 > t109 then (girandolelaw20_NeedMore.j0 k a1 a3 (wrap64 (1 + (Int.tmod (wrap64 (a0)) 32))) true) else (if t109 > 64 then (girandolelaw20_NeedMore.j0 k a1 a3 (wrap64 (1 + (Int.tmod (wrap64 (a0)) 32))) true) else ((need_Count.f k (mx (wrap64 ((wrap64 (1 + (Int.tmod (wrap64 (a0)) 32))) - 1)) 1) (wrap64 (a1)) (wrap64 (a3))).bind fun t110 => ((need_Count.f k (wrap64 (1 + (Int.tmod (wrap64 (a0)) 32))) (wrap64 (a1)) (wrap64 (a3))).bind fun t111 => (girandolelaw20_NeedMore.j0 k a1 a3 (wrap64 (1 + (Int.tmod (wrap64 (a0)) 32))) (decide (t110 > t111)))))))))) = some r := by rw [if_pos rfl] at H; exact H
    clear H
    have H := H1
    clear H1
    obtain ⟨ji8, hji8⟩ : ∃ j_ : Int, (mn a1 a2) = j_ := ⟨_, rfl⟩
    replace H : ((need_Count.f k (wrap64 (1 + (Int.tmod (wrap64 (a0)) 32))) (wrap64 (ji8)) (wrap64 (mn a3 a4))).bind fun t108 => ((need_Count.f k (wrap64 (1 + (Int.tmod (wrap64 (a0)) 32))) (wrap64 (mx a1 a2)) (wrap64 (mx a3 a4))).bind fun t109 => (if t108 < 0 then (girandolelaw20_NeedMore.j0 k a1 a3 (wrap64 (1 + (Int.tmod (wrap64 (a0)) 32))) true) else (if t108 > t109 then (girandolelaw20_NeedMore.j0 k a1 a3 (wrap64 (1 + (Int.tmod (wrap64 (a0)) 32))) true) else (if t109 > 64 then (girandolelaw20_NeedMore.j0 k a1 a3 (wrap64 (1 + (Int.tmod (wrap64 (a0)) 32))) true) else ((need_Count.f k (mx (wrap64 ((wrap64 (1 + (Int.tmod (wrap64 (a0)) 32))) - 1)) 1) (wrap64 (a1)) (wrap64 (a3))).bind fun t110 => ((need_Count.f k (wrap64 (1 + (Int.tmod (wrap64 (a0)) 32))) (wrap64 (a1)) (wrap64 (a3))).bind fun t111 => (girandolelaw20_NeedMore.j0 k a1 a3 (wrap64 (1 + (Int.tmod (wrap64 (a0)) 32))) (decide (t110 > t111)))))))))) = some r := by first | (rw [hji8] at H; exact H) | (simp only [hji8] at H ⊢; exact H)
    (try rw [hji8] at A6)
    have hji8_ : (if a2 < a1 then a2 else a1) = ji8 := hji8
    obtain ⟨ji9, hji9⟩ : ∃ j_ : Int, (mn a3 a4) = j_ := ⟨_, rfl⟩
    replace H : ((need_Count.f k (wrap64 (1 + (Int.tmod (wrap64 (a0)) 32))) (wrap64 (ji8)) (wrap64 (ji9))).bind fun t108 => ((need_Count.f k (wrap64 (1 + (Int.tmod (wrap64 (a0)) 32))) (wrap64 (mx a1 a2)) (wrap64 (mx a3 a4))).bind fun t109 => (if t108 < 0 then (girandolelaw20_NeedMore.j0 k a1 a3 (wrap64 (1 + (Int.tmod (wrap64 (a0)) 32))) true) else (if t108 > t109 then (girandolelaw20_NeedMore.j0 k a1 a3 (wrap64 (1 + (Int.tmod (wrap64 (a0)) 32))) true) else (if t109 > 64 then (girandolelaw20_NeedMore.j0 k a1 a3 (wrap64 (1 + (Int.tmod (wrap64 (a0)) 32))) true) else ((need_Count.f k (mx (wrap64 ((wrap64 (1 + (Int.tmod (wrap64 (a0)) 32))) - 1)) 1) (wrap64 (a1)) (wrap64 (a3))).bind fun t110 => ((need_Count.f k (wrap64 (1 + (Int.tmod (wrap64 (a0)) 32))) (wrap64 (a1)) (wrap64 (a3))).bind fun t111 => (girandolelaw20_NeedMore.j0 k a1 a3 (wrap64 (1 + (Int.tmod (wrap64 (a0)) 32))) (decide (t110 > t111)))))))))) = some r := by first | (rw [hji9] at H; exact H) | (simp only [hji9] at H ⊢; exact H)
    (try rw [hji9] at A6)
    have hji9_ : (if a4 < a3 then a4 else a3) = ji9 := hji9
    replace H := Option.bind_eq_some_iff.mp H
    obtain ⟨t108, A100, H⟩ := H
    replace H : ((need_Count.f k (wrap64 (1 + (Int.tmod (wrap64 (a0)) 32))) (wrap64 (mx a1 a2)) (wrap64 (mx a3 a4))).bind fun t109 => (if t108 < 0 then (girandolelaw20_NeedMore.j0 k a1 a3 (wrap64 (1 + (Int.tmod (wrap64 (a0)) 32))) true) else (if t108 > t109 then (girandolelaw20_NeedMore.j0 k a1 a3 (wrap64 (1 + (Int.tmod (wrap64 (a0)) 32))) true) else (if t109 > 64 then (girandolelaw20_NeedMore.j0 k a1 a3 (wrap64 (1 + (Int.tmod (wrap64 (a0)) 32))) true) else ((need_Count.f k (mx (wrap64 ((wrap64 (1 + (Int.tmod (wrap64 (a0)) 32))) - 1)) 1) (wrap64 (a1)) (wrap64 (a3))).bind fun t110 => ((need_Count.f k (wrap64 (1 + (Int.tmod (wrap64 (a0)) 32))) (wrap64 (a1)) (wrap64 (a3))).bind fun t111 => (girandolelaw20_NeedMore.j0 k a1 a3 (wrap64 (1 + (Int.tmod (wrap64 (a0)) 32))) (decide (t110 > t111))))))))) = some r := H
    have A10 := Aside0.mk A100
    clear A100
    obtain ⟨ji11, hji11⟩ : ∃ j_ : Int, (mx a1 a2) = j_ := ⟨_, rfl⟩
    replace H : ((need_Count.f k (wrap64 (1 + (Int.tmod (wrap64 (a0)) 32))) (wrap64 (ji11)) (wrap64 (mx a3 a4))).bind fun t109 => (if t108 < 0 then (girandolelaw20_NeedMore.j0 k a1 a3 (wrap64 (1 + (Int.tmod (wrap64 (a0)) 32))) true) else (if t108 > t109 then (girandolelaw20_NeedMore.j0 k a1 a3 (wrap64 (1 + (Int.tmod (wrap64 (a0)) 32))) true) else (if t109 > 64 then (girandolelaw20_NeedMore.j0 k a1 a3 (wrap64 (1 + (Int.tmod (wrap64 (a0)) 32))) true) else ((need_Count.f k (mx (wrap64 ((wrap64 (1 + (Int.tmod (wrap64 (a0)) 32))) - 1)) 1) (wrap64 (a1)) (wrap64 (a3))).bind fun t110 => ((need_Count.f k (wrap64 (1 + (Int.tmod (wrap64 (a0)) 32))) (wrap64 (a1)) (wrap64 (a3))).bind fun t111 => (girandolelaw20_NeedMore.j0 k a1 a3 (wrap64 (1 + (Int.tmod (wrap64 (a0)) 32))) (decide (t110 > t111))))))))) = some r := by first | (rw [hji11] at H; exact H) | (simp only [hji11] at H ⊢; exact H)
    (try rw [hji11] at A6)
    (try rw [hji11] at A10)
    have hji11_ : (if a1 < a2 then a2 else a1) = ji11 := hji11
    obtain ⟨ji12, hji12⟩ : ∃ j_ : Int, (mx a3 a4) = j_ := ⟨_, rfl⟩
    replace H : ((need_Count.f k (wrap64 (1 + (Int.tmod (wrap64 (a0)) 32))) (wrap64 (ji11)) (wrap64 (ji12))).bind fun t109 => (if t108 < 0 then (girandolelaw20_NeedMore.j0 k a1 a3 (wrap64 (1 + (Int.tmod (wrap64 (a0)) 32))) true) else (if t108 > t109 then (girandolelaw20_NeedMore.j0 k a1 a3 (wrap64 (1 + (Int.tmod (wrap64 (a0)) 32))) true) else (if t109 > 64 then (girandolelaw20_NeedMore.j0 k a1 a3 (wrap64 (1 + (Int.tmod (wrap64 (a0)) 32))) true) else ((need_Count.f k (mx (wrap64 ((wrap64 (1 + (Int.tmod (wrap64 (a0)) 32))) - 1)) 1) (wrap64 (a1)) (wrap64 (a3))).bind fun t110 => ((need_Count.f k (wrap64 (1 + (Int.tmod (wrap64 (a0)) 32))) (wrap64 (a1)) (wrap64 (a3))).bind fun t111 => (girandolelaw20_NeedMore.j0 k a1 a3 (wrap64 (1 + (Int.tmod (wrap64 (a0)) 32))) (decide (t110 > t111))))))))) = some r := by first | (rw [hji12] at H; exact H) | (simp only [hji12] at H ⊢; exact H)
    (try rw [hji12] at A6)
    (try rw [hji12] at A10)
    have hji12_ : (if a3 < a4 then a4 else a3) = ji12 := hji12
    replace H := Option.bind_eq_some_iff.mp H
    obtain ⟨t109, A130, H⟩ := H
    replace H : (if t108 < 0 then (girandolelaw20_NeedMore.j0 k a1 a3 (wrap64 (1 + (Int.tmod (wrap64 (a0)) 32))) true) else (if t108 > t109 then (girandolelaw20_NeedMore.j0 k a1 a3 (wrap64 (1 + (Int.tmod (wrap64 (a0)) 32))) true) else (if t109 > 64 then (girandolelaw20_NeedMore.j0 k a1 a3 (wrap64 (1 + (Int.tmod (wrap64 (a0)) 32))) true) else ((need_Count.f k (mx (wrap64 ((wrap64 (1 + (Int.tmod (wrap64 (a0)) 32))) - 1)) 1) (wrap64 (a1)) (wrap64 (a3))).bind fun t110 => ((need_Count.f k (wrap64 (1 + (Int.tmod (wrap64 (a0)) 32))) (wrap64 (a1)) (wrap64 (a3))).bind fun t111 => (girandolelaw20_NeedMore.j0 k a1 a3 (wrap64 (1 + (Int.tmod (wrap64 (a0)) 32))) (decide (t110 > t111)))))))) = some r := H
    have A13 := Aside0.mk A130
    clear A130
    have HC14 := Aside0.mk H
    clear H
    go_enter Try.func11, Try.ntmps11
    go_upto_region 5 with (first | ((with_reducible refine gate_callee (f := 23) rfl ?_); refine goesL_ (some 15) rfl rfl Try.func23 (by kernel_rfl) rfl #[] rfl (by (try simp only [List.map_toArray, List.map_cons, List.map_nil]); first | done | rfl | (simp only [List.length_drop, List.length_take]; rfl)) ?_; (with_reducible refine (girandolelaw20_begun.calls k  true _ A6.out).mono ?_); rintro e w15 ⟨rfl, hb⟩; refine ⟨_, rfl, ?_⟩; have n0_ := Aside0.mk (below_step (by repeat (first | (with_reducible first | exact HB.out | apply below_alloc | apply pw_below_drewN | apply below_drew1) | exact HB.out)) hb); clear HB; have HB := n0_; clear n0_; (try clear hb); (try clear hb2); (try clear hk); (try clear hi)) | ((with_reducible refine gate_callee (f := 24) rfl ?_); refine goesL_ (some 30) rfl rfl Try.func24 (by kernel_rfl) rfl #[.int .i64 (wrap64 (1 + (Int.tmod (wrap64 (a0)) 32))), .int .i64 (wrap64 (ji8)), .int .i64 (wrap64 (ji9))] rfl (by (try simp only [List.map_toArray, List.map_cons, List.map_nil]); first | done | (simp only [hji8, hji9]; rfl) | rfl | (simp only [List.length_drop, List.length_take]; rfl)) ?_; (with_reducible refine (need_Count.calls k (wrap64 (1 + (Int.tmod (wrap64 (a0)) 32))) (wrap64 (ji8)) (wrap64 (ji9)) t108 _ A10.out).mono ?_); rintro e w16 ⟨rfl, hb⟩; refine ⟨_, rfl, ?_⟩; have n0_ := Aside0.mk (below_step (by repeat (first | (with_reducible first | exact HB.out | apply below_alloc | apply pw_below_drewN | apply below_drew1) | exact HB.out)) hb); clear HB; have HB := n0_; clear n0_; (try clear hb); (try clear hb2); (try clear hk); (try clear hi)) | ((with_reducible refine gate_callee (f := 24) rfl ?_); refine goesL_ (some 40) rfl rfl Try.func24 (by kernel_rfl) rfl #[.int .i64 (wrap64 (1 + (Int.tmod (wrap64 (a0)) 32))), .int .i64 (wrap64 (ji11)), .int .i64 (wrap64 (ji12))] rfl (by (try simp only [List.map_toArray, List.map_cons, List.map_nil]); first | done | (simp only [hji11, hji12]; rfl) | rfl | (simp only [List.length_drop, List.length_take]; rfl)) ?_; (with_reducible refine (need_Count.calls k (wrap64 (1 + (Int.tmod (wrap64 (a0)) 32))) (wrap64 (ji11)) (wrap64 (ji12)) t109 _ A13.out).mono ?_); rintro e w17 ⟨rfl, hb⟩; refine ⟨_, rfl, ?_⟩; have n0_ := Aside0.mk (below_step (by repeat (first | (with_reducible first | exact HB.out | apply below_alloc | apply pw_below_drewN | apply below_drew1) | exact HB.out)) hb); clear HB; have HB := n0_; clear n0_; (try clear hb); (try clear hb2); (try clear hk); (try clear hi)))
    (try simp only [Act.put, List.setIfInBounds_toArray, List.set_cons_zero, List.set_cons_succ])
    go_cut [68] (fun v68 wc => ∃ (kq : Nat) (x68_13 : Bool), v68 = .bool x68_13 ∧ Aside0 (girandolelaw20_NeedMore.j0 kq a1 a3 (wrap64 (1 + (Int.tmod (wrap64 (a0)) 32))) x68_13 = some r) ∧ Aside0 (kq ≤ k) ∧ Aside0 (Below w.heap.size w wc))
    case first =>
      have H := HC14.out
      clear HC14
      by_cases c18 : t108 < 0
      · rw [if_pos c18] at H
        have c18b0 : decide (t108 < 0) = true := decide_eq_true c18
        clear c18
        (first | rw [c18b0] | (simp only [i64_w, i32_w]; rw [c18b0]) | skip)
        have H' := Aside0.mk H
        clear H
        go_wp2
        go_meet
        case rel => exact ⟨_, (true), (by first | rfl | (simp; done) | (simp [*]; done)), H', ⟨by first | omega | exact Nat.le_refl _⟩, ⟨by repeat (first | (with_reducible first | exact HB.out | apply below_alloc | apply pw_below_drewN | apply below_drew1) | exact HB.out)⟩⟩
      · rw [if_neg c18] at H
        have c18b0 : decide (t108 < 0) = false := decide_eq_false c18
        clear c18
        (first | rw [c18b0] | (simp only [i64_w, i32_w]; rw [c18b0]) | skip)
        by_cases c19 : t108 > t109
        · rw [if_pos c19] at H
          have c19b0 : decide (t109 < t108) = true := decide_eq_true c19
          clear c19
          have H' := Aside0.mk H
          clear H
          go_wp2
          go_meet
          case rel => exact ⟨_, (true), (by first | rfl | (simp; done) | (simp [*]; done)), H', ⟨by first | omega | exact Nat.le_refl _⟩, ⟨by repeat (first | (with_reducible first | exact HB.out | apply below_alloc | apply pw_below_drewN | apply below_drew1) | exact HB.out)⟩⟩
        · rw [if_neg c19] at H
          have c19b0 : decide (t109 < t108) = false := decide_eq_false c19
          clear c19
          by_cases c20 : t109 > 64
          · rw [if_pos c20] at H
            have c20b0 : decide (64 < t109) = true := decide_eq_true c20
            clear c20
            have H' := Aside0.mk H
            clear H
            go_wp2
            go_meet
            case rel => exact ⟨_, (true), (by first | rfl | (simp; done) | (simp [*]; done)), H', ⟨by first | omega | exact Nat.le_refl _⟩, ⟨by repeat (first | (with_reducible first | exact HB.out | apply below_alloc | apply pw_below_drewN | apply below_drew1) | exact HB.out)⟩⟩
          · rw [if_neg c20] at H
            have c20b0 : decide (64 < t109) = false := decide_eq_false c20
            clear c20
            obtain ⟨ji21, hji21⟩ : ∃ j_ : Int, (mx (wrap64 ((wrap64 (1 + (Int.tmod (wrap64 (a0)) 32))) - 1)) 1) = j_ := ⟨_, rfl⟩
            replace H : ((need_Count.f k (ji21) (wrap64 (a1)) (wrap64 (a3))).bind fun t110 => ((need_Count.f k (wrap64 (1 + (Int.tmod (wrap64 (a0)) 32))) (wrap64 (a1)) (wrap64 (a3))).bind fun t111 => (girandolelaw20_NeedMore.j0 k a1 a3 (wrap64 (1 + (Int.tmod (wrap64 (a0)) 32))) (decide (t110 > t111))))) = some r := by first | (rw [hji21] at H; exact H) | (simp only [hji21] at H ⊢; exact H)
            (try (have hji21l : 1 ≤ ji21 := by (rw [← hji21]; unfold mx; (repeat' split) <;> omega)))
            (try (have hji21m : 0 ≤ ji21 := by omega))
            have hji21_ : (if (wrap64 ((wrap64 (1 + (Int.tmod (wrap64 (a0)) 32))) - 1)) < 1 then 1 else (wrap64 ((wrap64 (1 + (Int.tmod (wrap64 (a0)) 32))) - 1))) = ji21 := hji21
            replace H := Option.bind_eq_some_iff.mp H
            obtain ⟨t110, A220, H⟩ := H
            replace H : ((need_Count.f k (wrap64 (1 + (Int.tmod (wrap64 (a0)) 32))) (wrap64 (a1)) (wrap64 (a3))).bind fun t111 => (girandolelaw20_NeedMore.j0 k a1 a3 (wrap64 (1 + (Int.tmod (wrap64 (a0)) 32))) (decide (t110 > t111)))) = some r := H
            have A22 := Aside0.mk A220
            clear A220
            replace H := Option.bind_eq_some_iff.mp H
            obtain ⟨t111, A230, H⟩ := H
            replace H : (girandolelaw20_NeedMore.j0 k a1 a3 (wrap64 (1 + (Int.tmod (wrap64 (a0)) 32))) (decide (t110 > t111))) = some r := H
            have A23 := Aside0.mk A230
            clear A230
            have H' := Aside0.mk H
            clear H
            go_wp2_with (first | (go_at_call 24; (with_reducible refine (need_Count.calls k ji21 (wrap64 (a1)) (wrap64 (a3)) t110 _ A22.out).mono ?_); rintro e w24 ⟨rfl, hb⟩; have n0_ := Aside0.mk (below_step (by repeat (first | (with_reducible first | exact HB.out | apply below_alloc | apply pw_below_drewN | apply below_drew1) | exact HB.out)) hb); clear HB; have HB := n0_; clear n0_; (try clear hb); (try clear hb2); (try clear hk); (try clear hi)) | (go_at_call 24; (with_reducible refine (need_Count.calls k (wrap64 (1 + (Int.tmod (wrap64 (a0)) 32))) (wrap64 (a1)) (wrap64 (a3)) t111 _ A23.out).mono ?_); rintro e w25 ⟨rfl, hb⟩; have n0_ := Aside0.mk (below_step (by repeat (first | (with_reducible first | exact HB.out | apply below_alloc | apply pw_below_drewN | apply below_drew1) | exact HB.out)) hb); clear HB; have HB := n0_; clear n0_; (try clear hb); (try clear hb2); (try clear hk); (try clear hi)))
            go_meet
            case rel => exact ⟨_, (decide (t110 > t111)), (by first | rfl | (simp; done) | (simp [*]; done)), H', ⟨by first | omega | exact Nat.le_refl _⟩, ⟨by repeat (first | (with_reducible first | exact HB.out | apply below_alloc | apply pw_below_drewN | apply below_drew1) | exact HB.out)⟩⟩
    case rest =>
      clear HC14
      try clear c1
      try clear c2
      try clear p2
      try clear p6
      try clear c7
      try clear c11
      try clear c18
      try clear c18b0
      try clear c19
      try clear c19b0
      try clear c20
      try clear c20b0
      try clear c23
      try clear c24
      obtain ⟨kq, x68_13, rfl, HA, HJ13, HB⟩ := hcut
      cases kq with
      | zero => exact absurd HA.out (by simp [girandolelaw20_NeedMore.j0])
      | succ kj13 =>
        have H := HA.out
        clear HA
        simp only [girandolelaw20_NeedMore.j0] at H
        by_cases c26 : x68_13 = true
        · subst c26
          have H1 : (some false) = some r := by rw [if_pos rfl] at H; exact H
          clear H
          have H := H1
          clear H1
          obtain rfl := Option.some.inj H
          go_wp2
          go_ret
          exact ⟨by first | rfl | (simp [errW_none, errW_some] <;> rfl) | (simp only [← hji8, ← hji9, ← hji11, ← hji12]; first | rfl | (simp [errW_none, errW_some] <;> rfl)) | (simp [*, errW_none, errW_some] <;> rfl), by repeat (first | (with_reducible first | exact HB.out | apply below_alloc | apply pw_below_drewN | apply below_drew1) | exact HB.out)⟩
        · replace c26 := Bool.eq_false_iff.mpr c26
          subst c26
          have H1 : ((need_Count.f kj13 (wrap64 (1 + (Int.tmod (wrap64 (a0)) 32))) 0 (wrap64 (a3))).bind fun t112 => (if t112 = 0 then ((need_Count.f kj13 (wrap64 (1 + (Int.tmod (wrap64 (a0)) 32))) (-1) (wrap64 (a3))).bind fun t113 => (if t113 = 0 then ((need_Count.f kj13 0 (wrap64 (a1)) (wrap64 (a3))).bind fun t114 => (if t114 = 0 then ((need_Count.f kj13 (wrap64 (1 + (Int.tmod (wrap64 (a0)) 32))) (wrap64 (a1)) 0).bind fun t115 => (if t115 = 64 then (some true) else (if (wrap64 ((wrap64 ((wrap64 (1 + (Int.tmod (wrap64 (a0)) 32))) + t115)) * (wrap64 (65536 - (wrap64 (a1)))))) ≥ (wrap64 ((wrap64 (1 + (Int.tmod (wrap64 (a0)) 32))) * 65536)) then (if t115 = 0 then (some true) else (some (decide ((wrap64 ((wrap64 ((wrap64 ((wrap64 (1 + (Int.tmod (wrap64 (a0)) 32))) + t115)) - 1)) * (wrap64 (65536 - (wrap64 (a1)))))) < (wrap64 ((wrap64 (1 + (Int.tmod (wrap64 (a0)) 32))) * 65536)))))) else (some false)))) else (some false))) else (some false))) else (some false))) = some r := by rw [if_neg (show ¬ (false = true) by decide)] at H; exact H
          clear H
          have H := H1
          clear H1
          replace H := Option.bind_eq_some_iff.mp H
          obtain ⟨t112, A270, H⟩ := H
          replace H : (if t112 = 0 then ((need_Count.f kj13 (wrap64 (1 + (Int.tmod (wrap64 (a0)) 32))) (-1) (wrap64 (a3))).bind fun t113 => (if t113 = 0 then ((need_Count.f kj13 0 (wrap64 (a1)) (wrap64 (a3))).bind fun t114 => (if t114 = 0 then ((need_Count.f kj13 (wrap64 (1 + (Int.tmod (wrap64 (a0)) 32))) (wrap64 (a1)) 0).bind fun t115 => (if t115 = 64 then (some true) else (if (wrap64 ((wrap64 ((wrap64 (1 + (Int.tmod (wrap64 (a0)) 32))) + t115)) * (wrap64 (65536 - (wrap64 (a1)))))) ≥ (wrap64 ((wrap64 (1 + (Int.tmod (wrap64 (a0)) 32))) * 65536)) then (if t115 = 0 then (some true) else (some (decide ((wrap64 ((wrap64 ((wrap64 ((wrap64 (1 + (Int.tmod (wrap64 (a0)) 32))) + t115)) - 1)) * (wrap64 (65536 - (wrap64 (a1)))))) < (wrap64 ((wrap64 (1 + (Int.tmod (wrap64 (a0)) 32))) * 65536)))))) else (some false)))) else (some false))) else (some false))) else (some false)) = some r := H
          have A27 := Aside0.mk A270
          clear A270
          by_cases c28 : t112 = 0
          · rw [if_pos c28] at H
            have c28b0 : (t112 == 0) = true := beq_iff_eq.mpr c28
            have c28b1 : (t112 != 0) = false := bne_eq_false_iff_eq.mpr c28
            clear c28
            replace H := Option.bind_eq_some_iff.mp H
            obtain ⟨t113, A290, H⟩ := H
            replace H : (if t113 = 0 then ((need_Count.f kj13 0 (wrap64 (a1)) (wrap64 (a3))).bind fun t114 => (if t114 = 0 then ((need_Count.f kj13 (wrap64 (1 + (Int.tmod (wrap64 (a0)) 32))) (wrap64 (a1)) 0).bind fun t115 => (if t115 = 64 then (some true) else (if (wrap64 ((wrap64 ((wrap64 (1 + (Int.tmod (wrap64 (a0)) 32))) + t115)) * (wrap64 (65536 - (wrap64 (a1)))))) ≥ (wrap64 ((wrap64 (1 + (Int.tmod (wrap64 (a0)) 32))) * 65536)) then (if t115 = 0 then (some true) else (some (decide ((wrap64 ((wrap64 ((wrap64 ((wrap64 (1 + (Int.tmod (wrap64 (a0)) 32))) + t115)) - 1)) * (wrap64 (65536 - (wrap64 (a1)))))) < (wrap64 ((wrap64 (1 + (Int.tmod (wrap64 (a0)) 32))) * 65536)))))) else (some false)))) else (some false))) else (some false)) = some r := H
            have A29 := Aside0.mk A290
            clear A290
            by_cases c30 : t113 = 0
            · rw [if_pos c30] at H
              have c30b0 : (t113 == 0) = true := beq_iff_eq.mpr c30
              have c30b1 : (t113 != 0) = false := bne_eq_false_iff_eq.mpr c30
              clear c30
              replace H := Option.bind_eq_some_iff.mp H
              obtain ⟨t114, A310, H⟩ := H
              replace H : (if t114 = 0 then ((need_Count.f kj13 (wrap64 (1 + (Int.tmod (wrap64 (a0)) 32))) (wrap64 (a1)) 0).bind fun t115 => (if t115 = 64 then (some true) else (if (wrap64 ((wrap64 ((wrap64 (1 + (Int.tmod (wrap64 (a0)) 32))) + t115)) * (wrap64 (65536 - (wrap64 (a1)))))) ≥ (wrap64 ((wrap64 (1 + (Int.tmod (wrap64 (a0)) 32))) * 65536)) then (if t115 = 0 then (some true) else (some (decide ((wrap64 ((wrap64 ((wrap64 ((wrap64 (1 + (Int.tmod (wrap64 (a0)) 32))) + t115)) - 1)) * (wrap64 (65536 - (wrap64 (a1)))))) < (wrap64 ((wrap64 (1 + (Int.tmod (wrap64 (a0)) 32))) * 65536)))))) else (some false)))) else (some false)) = some r := H
              have A31 := Aside0.mk A310
              clear A310
              by_cases c32 : t114 = 0
              · rw [if_pos c32] at H
                have c32b0 : (t114 == 0) = true := beq_iff_eq.mpr c32
                have c32b1 : (t114 != 0) = false := bne_eq_false_iff_eq.mpr c32
                clear c32
                replace H := Option.bind_eq_some_iff.mp H
                obtain ⟨t115, A330, H⟩ := H
                replace H : (if t115 = 64 then (some true) else (if (wrap64 ((wrap64 ((wrap64 (1 + (Int.tmod (wrap64 (a0)) 32))) + t115)) * (wrap64 (65536 - (wrap64 (a1)))))) ≥ (wrap64 ((wrap64 (1 + (Int.tmod (wrap64 (a0)) 32))) * 65536)) then (if t115 = 0 then (some true) else (some (decide ((wrap64 ((wrap64 ((wrap64 ((wrap64 (1 + (Int.tmod (wrap64 (a0)) 32))) + t115)) - 1)) * (wrap64 (65536 - (wrap64 (a1)))))) < (wrap64 ((wrap64 (1 + (Int.tmod (wrap64 (a0)) 32))) * 65536)))))) else (some false))) = some r := H
                have A33 := Aside0.mk A330
                clear A330
                by_cases c34 : t115 = 64
                · rw [if_pos c34] at H
                  have c34b0 : (t115 == 64) = true := beq_iff_eq.mpr c34
                  have c34b1 : (t115 != 64) = false := bne_eq_false_iff_eq.mpr c34
                  clear c34
                  obtain rfl := Option.some.inj H
                  go_wp2_with (first | ((with_reducible refine gate_callee (f := 24) rfl ?_); refine goesL_ (some 72) rfl rfl Try.func24 (by kernel_rfl) rfl #[.int .i64 (wrap64 (1 + (Int.tmod (wrap64 (a0)) 32))), .int .i64 0, .int .i64 (wrap64 (a3))] rfl (by (try simp only [List.map_toArray, List.map_cons, List.map_nil]); first | done | rfl | (simp only [List.length_drop, List.length_take]; rfl)) ?_; (with_reducible refine (need_Count.calls kj13 (wrap64 (1 + (Int.tmod (wrap64 (a0)) 32))) 0 (wrap64 (a3)) t112 _ A27.out).mono ?_); rintro e w35 ⟨rfl, hb⟩; refine ⟨_, rfl, ?_⟩; have n0_ := Aside0.mk (below_step (by repeat (first | (with_reducible first | exact HB.out | apply below_alloc | apply pw_below_drewN | apply below_drew1) | exact HB.out)) hb); clear HB; have HB := n0_; clear n0_; (try clear hb); (try clear hb2); (try clear hk); (try clear hi)) | (go_at_call 24; (with_reducible refine (need_Count.calls kj13 (wrap64 (1 + (Int.tmod (wrap64 (a0)) 32))) (-1) (wrap64 (a3)) t113 _ A29.out).mono ?_); rintro e w36 ⟨rfl, hb⟩; have n0_ := Aside0.mk (below_step (by repeat (first | (with_reducible first | exact HB.out | apply below_alloc | apply pw_below_drewN | apply below_drew1) | exact HB.out)) hb); clear HB; have HB := n0_; clear n0_; (try clear hb); (try clear hb2); (try clear hk); (try clear hi)) | (go_at_call 24; (with_reducible refine (need_Count.calls kj13 0 (wrap64 (a1)) (wrap64 (a3)) t114 _ A31.out).mono ?_); rintro e w37 ⟨rfl, hb⟩; have n0_ := Aside0.mk (below_step (by repeat (first | (with_reducible first | exact HB.out | apply below_alloc | apply pw_below_drewN | apply below_drew1) | exact HB.out)) hb); clear HB; have HB := n0_; clear n0_; (try clear hb); (try clear hb2); (try clear hk); (try clear hi)) | ((with_reducible refine gate_callee (f := 24) rfl ?_); refine goesL_ (some 92) rfl rfl Try.func24 (by kernel_rfl) rfl #[.int .i64 (wrap64 (1 + (Int.tmod (wrap64 (a0)) 32))), .int .i64 (wrap64 (a1)), .int .i64 0] rfl (by (try simp only [List.map_toArray, List.map_cons, List.map_nil]); first | done | rfl | (simp only [List.length_drop, List.length_take]; rfl)) ?_; (with_reducible refine (need_Count.calls kj13 (wrap64 (1 + (Int.tmod (wrap64 (a0)) 32))) (wrap64 (a1)) 0 t115 _ A33.out).mono ?_); rintro e w38 ⟨rfl, hb⟩; refine ⟨_, rfl, ?_⟩; have n0_ := Aside0.mk (below_step (by repeat (first | (with_reducible first | exact HB.out | apply below_alloc | apply pw_below_drewN | apply below_drew1) | exact HB.out)) hb); clear HB; have HB := n0_; clear n0_; (try clear hb); (try clear hb2); (try clear hk); (try clear hi)))
                  go_ret
                  exact ⟨by first | rfl | (simp [errW_none, errW_some] <;> rfl) | (simp only [← hji8, ← hji9, ← hji11, ← hji12]; first | rfl | (simp [errW_none, errW_some] <;> rfl)) | (simp [*, errW_none, errW_some] <;> rfl), by repeat (first | (with_reducible first | exact HB.out | apply below_alloc | apply pw_below_drewN | apply below_drew1) | exact HB.out)⟩
                · rw [if_neg c34] at H
                  have c34b0 : (t115 == 64) = false := beq_eq_false_iff_ne.mpr c34
                  have c34b1 : (t115 != 64) = true := bne_iff_ne.mpr c34
                  by_cases c39 : (wrap64 ((wrap64 ((wrap64 (1 + (Int.tmod (wrap64 (a0)) 32))) + t115)) * (wrap64 (65536 - (wrap64 (a1)))))) ≥ (wrap64 ((wrap64 (1 + (Int.tmod (wrap64 (a0)) 32))) * 65536))
                  · rw [if_pos c39] at H
                    have c39b0 : decide ((wrap64 ((wrap64 (1 + (Int.tmod (wrap64 (a0)) 32))) * 65536)) ≤ (wrap64 ((wrap64 ((wrap64 (1 + (Int.tmod (wrap64 (a0)) 32))) + t115)) * (wrap64 (65536 - (wrap64 (a1))))))) = true := decide_eq_true c39
                    clear c39
                    by_cases c40 : t115 = 0
                    · rw [if_pos c40] at H
                      have c40b0 : (t115 == 0) = true := beq_iff_eq.mpr c40
                      have c40b1 : (t115 != 0) = false := bne_eq_false_iff_eq.mpr c40
                      clear c40
                      obtain rfl := Option.some.inj H
                      go_wp2_with (first | ((with_reducible refine gate_callee (f := 24) rfl ?_); refine goesL_ (some 72) rfl rfl Try.func24 (by kernel_rfl) rfl #[.int .i64 (wrap64 (1 + (Int.tmod (wrap64 (a0)) 32))), .int .i64 0, .int .i64 (wrap64 (a3))] rfl (by (try simp only [List.map_toArray, List.map_cons, List.map_nil]); first | done | rfl | (simp only [List.length_drop, List.length_take]; rfl)) ?_; (with_reducible refine (need_Count.calls kj13 (wrap64 (1 + (Int.tmod (wrap64 (a0)) 32))) 0 (wrap64 (a3)) t112 _ A27.out).mono ?_); rintro e w41 ⟨rfl, hb⟩; refine ⟨_, rfl, ?_⟩; have n0_ := Aside0.mk (below_step (by repeat (first | (with_reducible first | exact HB.out | apply below_alloc | apply pw_below_drewN | apply below_drew1) | exact HB.out)) hb); clear HB; have HB := n0_; clear n0_; (try clear hb); (try clear hb2); (try clear hk); (try clear hi)) | (go_at_call 24; (with_reducible refine (need_Count.calls kj13 (wrap64 (1 + (Int.tmod (wrap64 (a0)) 32))) (-1) (wrap64 (a3)) t113 _ A29.out).mono ?_); rintro e w42 ⟨rfl, hb⟩; have n0_ := Aside0.mk (below_step (by repeat (first | (with_reducible first | exact HB.out | apply below_alloc | apply pw_below_drewN | apply below_drew1) | exact HB.out)) hb); clear HB; have HB := n0_; clear n0_; (try clear hb); (try clear hb2); (try clear hk); (try clear hi)) | (go_at_call 24; (with_reducible refine (need_Count.calls kj13 0 (wrap64 (a1)) (wrap64 (a3)) t114 _ A31.out).mono ?_); rintro e w43 ⟨rfl, hb⟩; have n0_ := Aside0.mk (below_step (by repeat (first | (with_reducible first | exact HB.out | apply below_alloc | apply pw_below_drewN | apply below_drew1) | exact HB.out)) hb); clear HB; have HB := n0_; clear n0_; (try clear hb); (try clear hb2); (try clear hk); (try clear hi)) | ((with_reducible refine gate_callee (f := 24) rfl ?_); refine goesL_ (some 92) rfl rfl Try.func24 (by kernel_rfl) rfl #[.int .i64 (wrap64 (1 + (Int.tmod (wrap64 (a0)) 32))), .int .i64 (wrap64 (a1)), .int .i64 0] rfl (by (try simp only [List.map_toArray, List.map_cons, List.map_nil]); first | done | rfl | (simp only [List.length_drop, List.length_take]; rfl)) ?_; (with_reducible refine (need_Count.calls kj13 (wrap64 (1 + (Int.tmod (wrap64 (a0)) 32))) (wrap64 (a1)) 0 t115 _ A33.out).mono ?_); rintro e w44 ⟨rfl, hb⟩; refine ⟨_, rfl, ?_⟩; have n0_ := Aside0.mk (below_step (by repeat (first | (with_reducible first | exact HB.out | apply below_alloc | apply pw_below_drewN | apply below_drew1) | exact HB.out)) hb); clear HB; have HB := n0_; clear n0_; (try clear hb); (try clear hb2); (try clear hk); (try clear hi)))
                      go_ret
                      exact ⟨by first | rfl | (simp [errW_none, errW_some] <;> rfl) | (simp only [← hji8, ← hji9, ← hji11, ← hji12]; first | rfl | (simp [errW_none, errW_some] <;> rfl)) | (simp [*, errW_none, errW_some] <;> rfl), by repeat (first | (with_reducible first | exact HB.out | apply below_alloc | apply pw_below_drewN | apply below_drew1) | exact HB.out)⟩
                    · rw [if_neg c40] at H
                      have c40b0 : (t115 == 0) = false := beq_eq_false_iff_ne.mpr c40
                      have c40b1 : (t115 != 0) = true := bne_iff_ne.mpr c40
                      obtain rfl := Option.some.inj H
                      go_wp2_with (first | ((with_reducible refine gate_callee (f := 24) rfl ?_); refine goesL_ (some 72) rfl rfl Try.func24 (by kernel_rfl) rfl #[.int .i64 (wrap64 (1 + (Int.tmod (wrap64 (a0)) 32))), .int .i64 0, .int .i64 (wrap64 (a3))] rfl (by (try simp only [List.map_toArray, List.map_cons, List.map_nil]); first | done | rfl | (simp only [List.length_drop, List.length_take]; rfl)) ?_; (with_reducible refine (need_Count.calls kj13 (wrap64 (1 + (Int.tmod (wrap64 (a0)) 32))) 0 (wrap64 (a3)) t112 _ A27.out).mono ?_); rintro e w45 ⟨rfl, hb⟩; refine ⟨_, rfl, ?_⟩; have n0_ := Aside0.mk (below_step (by repeat (first | (with_reducible first | exact HB.out | apply below_alloc | apply pw_below_drewN | apply below_drew1) | exact HB.out)) hb); clear HB; have HB := n0_; clear n0_; (try clear hb); (try clear hb2); (try clear hk); (try clear hi)) | (go_at_call 24; (with_reducible refine (need_Count.calls kj13 (wrap64 (1 + (Int.tmod (wrap64 (a0)) 32))) (-1) (wrap64 (a3)) t113 _ A29.out).mono ?_); rintro e w46 ⟨rfl, hb⟩; have n0_ := Aside0.mk (below_step (by repeat (first | (with_reducible first | exact HB.out | apply below_alloc | apply pw_below_drewN | apply below_drew1) | exact HB.out)) hb); clear HB; have HB := n0_; clear n0_; (try clear hb); (try clear hb2); (try clear hk); (try clear hi)) | (go_at_call 24; (with_reducible refine (need_Count.calls kj13 0 (wrap64 (a1)) (wrap64 (a3)) t114 _ A31.out).mono ?_); rintro e w47 ⟨rfl, hb⟩; have n0_ := Aside0.mk (below_step (by repeat (first | (with_reducible first | exact HB.out | apply below_alloc | apply pw_below_drewN | apply below_drew1) | exact HB.out)) hb); clear HB; have HB := n0_; clear n0_; (try clear hb); (try clear hb2); (try clear hk); (try clear hi)) | ((with_reducible refine gate_callee (f := 24) rfl ?_); refine goesL_ (some 92) rfl rfl Try.func24 (by kernel_rfl) rfl #[.int .i64 (wrap64 (1 + (Int.tmod (wrap64 (a0)) 32))), .int .i64 (wrap64 (a1)), .int .i64 0] rfl (by (try simp only [List.map_toArray, List.map_cons, List.map_nil]); first | done | rfl | (simp only [List.length_drop, List.length_take]; rfl)) ?_; (with_reducible refine (need_Count.calls kj13 (wrap64 (1 + (Int.tmod (wrap64 (a0)) 32))) (wrap64 (a1)) 0 t115 _ A33.out).mono ?_); rintro e w48 ⟨rfl, hb⟩; refine ⟨_, rfl, ?_⟩; have n0_ := Aside0.mk (below_step (by repeat (first | (with_reducible first | exact HB.out | apply below_alloc | apply pw_below_drewN | apply below_drew1) | exact HB.out)) hb); clear HB; have HB := n0_; clear n0_; (try clear hb); (try clear hb2); (try clear hk); (try clear hi)))
                      go_ret
                      exact ⟨by first | rfl | (simp [errW_none, errW_some] <;> rfl) | (simp only [← hji8, ← hji9, ← hji11, ← hji12]; first | rfl | (simp [errW_none, errW_some] <;> rfl)) | (simp [*, errW_none, errW_some] <;> rfl), by repeat (first | (with_reducible first | exact HB.out | apply below_alloc | apply pw_below_drewN | apply below_drew1) | exact HB.out)⟩
                  · rw [if_neg c39] at H
                    have c39b0 : decide ((wrap64 ((wrap64 (1 + (Int.tmod (wrap64 (a0)) 32))) * 65536)) ≤ (wrap64 ((wrap64 ((wrap64 (1 + (Int.tmod (wrap64 (a0)) 32))) + t115)) * (wrap64 (65536 - (wrap64 (a1))))))) = false := decide_eq_false c39
                    clear c39
                    obtain rfl := Option.some.inj H
                    go_wp2_with (first | ((with_reducible refine gate_callee (f := 24) rfl ?_); refine goesL_ (some 72) rfl rfl Try.func24 (by kernel_rfl) rfl #[.int .i64 (wrap64 (1 + (Int.tmod (wrap64 (a0)) 32))), .int .i64 0, .int .i64 (wrap64 (a3))] rfl (by (try simp only [List.map_toArray, List.map_cons, List.map_nil]); first | done | rfl | (simp only [List.length_drop, List.length_take]; rfl)) ?_; (with_reducible refine (need_Count.calls kj13 (wrap64 (1 + (Int.tmod (wrap64 (a0)) 32))) 0 (wrap64 (a3)) t112 _ A27.out).mono ?_); rintro e w49 ⟨rfl, hb⟩; refine ⟨_, rfl, ?_⟩; have n0_ := Aside0.mk (below_step (by repeat (first | (with_reducible first | exact HB.out | apply below_alloc | apply pw_below_drewN | apply below_drew1) | exact HB.out)) hb); clear HB; have HB := n0_; clear n0_; (try clear hb); (try clear hb2); (try clear hk); (try clear hi)) | (go_at_call 24; (with_reducible refine (need_Count.calls kj13 (wrap64 (1 + (Int.tmod (wrap64 (a0)) 32))) (-1) (wrap64 (a3)) t113 _ A29.out).mono ?_); rintro e w50 ⟨rfl, hb⟩; have n0_ := Aside0.mk (below_step (by repeat (first | (with_reducible first | exact HB.out | apply below_alloc | apply pw_below_drewN | apply below_drew1) | exact HB.out)) hb); clear HB; have HB := n0_; clear n0_; (try clear hb); (try clear hb2); (try clear hk); (try clear hi)) | (go_at_call 24; (with_reducible refine (need_Count.calls kj13 0 (wrap64 (a1)) (wrap64 (a3)) t114 _ A31.out).mono ?_); rintro e w51 ⟨rfl, hb⟩; have n0_ := Aside0.mk (below_step (by repeat (first | (with_reducible first | exact HB.out | apply below_alloc | apply pw_below_drewN | apply below_drew1) | exact HB.out)) hb); clear HB; have HB := n0_; clear n0_; (try clear hb); (try clear hb2); (try clear hk); (try clear hi)) | ((with_reducible refine gate_callee (f := 24) rfl ?_); refine goesL_ (some 92) rfl rfl Try.func24 (by kernel_rfl) rfl #[.int .i64 (wrap64 (1 + (Int.tmod (wrap64 (a0)) 32))), .int .i64 (wrap64 (a1)), .int .i64 0] rfl (by (try simp only [List.map_toArray, List.map_cons, List.map_nil]); first | done | rfl | (simp only [List.length_drop, List.length_take]; rfl)) ?_; (with_reducible refine (need_Count.calls kj13 (wrap64 (1 + (Int.tmod (wrap64 (a0)) 32))) (wrap64 (a1)) 0 t115 _ A33.out).mono ?_); rintro e w52 ⟨rfl, hb⟩; refine ⟨_, rfl, ?_⟩; have n0_ := Aside0.mk (below_step (by repeat (first | (with_reducible first | exact HB.out | apply below_alloc | apply pw_below_drewN | apply below_drew1) | exact HB.out)) hb); clear HB; have HB := n0_; clear n0_; (try clear hb); (try clear hb2); (try clear hk); (try clear hi)))
                    go_ret
                    exact ⟨by first | rfl | (simp [errW_none, errW_some] <;> rfl) | (simp only [← hji8, ← hji9, ← hji11, ← hji12]; first | rfl | (simp [errW_none, errW_some] <;> rfl)) | (simp [*, errW_none, errW_some] <;> rfl), by repeat (first | (with_reducible first | exact HB.out | apply below_alloc | apply pw_below_drewN | apply below_drew1) | exact HB.out)⟩
              · rw [if_neg c32] at H
                have c32b0 : (t114 == 0) = false := beq_eq_false_iff_ne.mpr c32
                have c32b1 : (t114 != 0) = true := bne_iff_ne.mpr c32
                obtain rfl := Option.some.inj H
                go_wp2_with (first | ((with_reducible refine gate_callee (f := 24) rfl ?_); refine goesL_ (some 72) rfl rfl Try.func24 (by kernel_rfl) rfl #[.int .i64 (wrap64 (1 + (Int.tmod (wrap64 (a0)) 32))), .int .i64 0, .int .i64 (wrap64 (a3))] rfl (by (try simp only [List.map_toArray, List.map_cons, List.map_nil]); first | done | rfl | (simp only [List.length_drop, List.length_take]; rfl)) ?_; (with_reducible refine (need_Count.calls kj13 (wrap64 (1 + (Int.tmod (wrap64 (a0)) 32))) 0 (wrap64 (a3)) t112 _ A27.out).mono ?_); rintro e w53 ⟨rfl, hb⟩; refine ⟨_, rfl, ?_⟩; have n0_ := Aside0.mk (below_step (by repeat (first | (with_reducible first | exact HB.out | apply below_alloc | apply pw_below_drewN | apply below_drew1) | exact HB.out)) hb); clear HB; have HB := n0_; clear n0_; (try clear hb); (try clear hb2); (try clear hk); (try clear hi)) | (go_at_call 24; (with_reducible refine (need_Count.calls kj13 (wrap64 (1 + (Int.tmod (wrap64 (a0)) 32))) (-1) (wrap64 (a3)) t113 _ A29.out).mono ?_); rintro e w54 ⟨rfl, hb⟩; have n0_ := Aside0.mk (below_step (by repeat (first | (with_reducible first | exact HB.out | apply below_alloc | apply pw_below_drewN | apply below_drew1) | exact HB.out)) hb); clear HB; have HB := n0_; clear n0_; (try clear hb); (try clear hb2); (try clear hk); (try clear hi)) | (go_at_call 24; (with_reducible refine (need_Count.calls kj13 0 (wrap64 (a1)) (wrap64 (a3)) t114 _ A31.out).mono ?_); rintro e w55 ⟨rfl, hb⟩; have n0_ := Aside0.mk (below_step (by repeat (first | (with_reducible first | exact HB.out | apply below_alloc | apply pw_below_drewN | apply below_drew1) | exact HB.out)) hb); clear HB; have HB := n0_; clear n0_; (try clear hb); (try clear hb2); (try clear hk); (try clear hi)))
                go_ret
                exact ⟨by first | rfl | (simp [errW_none, errW_some] <;> rfl) | (simp only [← hji8, ← hji9, ← hji11, ← hji12]; first | rfl | (simp [errW_none, errW_some] <;> rfl)) | (simp [*, errW_none, errW_some] <;> rfl), by repeat (first | (with_reducible first | exact HB.out | apply below_alloc | apply pw_below_drewN | apply below_drew1) | exact HB.out)⟩
            · rw [if_neg c30] at H
              have c30b0 : (t113 == 0) = false := beq_eq_false_iff_ne.mpr c30
              have c30b1 : (t113 != 0) = true := bne_iff_ne.mpr c30
              obtain rfl := Option.some.inj H
              go_wp2_with (first | ((with_reducible refine gate_callee (f := 24) rfl ?_); refine goesL_ (some 72) rfl rfl Try.func24 (by kernel_rfl) rfl #[.int .i64 (wrap64 (1 + (Int.tmod (wrap64 (a0)) 32))), .int .i64 0, .int .i64 (wrap64 (a3))] rfl (by (try simp only [List.map_toArray, List.map_cons, List.map_nil]); first | done | rfl | (simp only [List.length_drop, List.length_take]; rfl)) ?_; (with_reducible refine (need_Count.calls kj13 (wrap64 (1 + (Int.tmod (wrap64 (a0)) 32))) 0 (wrap64 (a3)) t112 _ A27.out).mono ?_); rintro e w56 ⟨rfl, hb⟩; refine ⟨_, rfl, ?_⟩; have n0_ := Aside0.mk (below_step (by repeat (first | (with_reducible first | exact HB.out | apply below_alloc | apply pw_below_drewN | apply below_drew1) | exact HB.out)) hb); clear HB; have HB := n0_; clear n0_; (try clear hb); (try clear hb2); (try clear hk); (try clear hi)) | (go_at_call 24; (with_reducible refine (need_Count.calls kj13 (wrap64 (1 + (Int.tmod (wrap64 (a0)) 32))) (-1) (wrap64 (a3)) t113 _ A29.out).mono ?_); rintro e w57 ⟨rfl, hb⟩; have n0_ := Aside0.mk (below_step (by repeat (first | (with_reducible first | exact HB.out | apply below_alloc | apply pw_below_drewN | apply below_drew1) | exact HB.out)) hb); clear HB; have HB := n0_; clear n0_; (try clear hb); (try clear hb2); (try clear hk); (try clear hi)))
              go_ret
              exact ⟨by first | rfl | (simp [errW_none, errW_some] <;> rfl) | (simp only [← hji8, ← hji9, ← hji11, ← hji12]; first | rfl | (simp [errW_none, errW_some] <;> rfl)) | (simp [*, errW_none, errW_some] <;> rfl), by repeat (first | (with_reducible first | exact HB.out | apply below_alloc | apply pw_below_drewN | apply below_drew1) | exact HB.out)⟩
          · rw [if_neg c28] at H
            have c28b0 : (t112 == 0) = false := beq_eq_false_iff_ne.mpr c28
            have c28b1 : (t112 != 0) = true := bne_iff_ne.mpr c28
            obtain rfl := Option.some.inj H
            go_wp2_with (first | ((with_reducible refine gate_callee (f := 24) rfl ?_); refine goesL_ (some 72) rfl rfl Try.func24 (by kernel_rfl) rfl #[.int .i64 (wrap64 (1 + (Int.tmod (wrap64 (a0)) 32))), .int .i64 0, .int .i64 (wrap64 (a3))] rfl (by (try simp only [List.map_toArray, List.map_cons, List.map_nil]); first | done | rfl | (simp only [List.length_drop, List.length_take]; rfl)) ?_; (with_reducible refine (need_Count.calls kj13 (wrap64 (1 + (Int.tmod (wrap64 (a0)) 32))) 0 (wrap64 (a3)) t112 _ A27.out).mono ?_); rintro e w58 ⟨rfl, hb⟩; refine ⟨_, rfl, ?_⟩; have n0_ := Aside0.mk (below_step (by repeat (first | (with_reducible first | exact HB.out | apply below_alloc | apply pw_below_drewN | apply below_drew1) | exact HB.out)) hb); clear HB; have HB := n0_; clear n0_; (try clear hb); (try clear hb2); (try clear hk); (try clear hi)))
            go_ret
            exact ⟨by first | rfl | (simp [errW_none, errW_some] <;> rfl) | (simp only [← hji8, ← hji9, ← hji11, ← hji12]; first | rfl | (simp [errW_none, errW_some] <;> rfl)) | (simp [*, errW_none, errW_some] <;> rfl), by repeat (first | (with_reducible first | exact HB.out | apply below_alloc | apply pw_below_drewN | apply below_drew1) | exact HB.out)⟩
  · replace c7 := Bool.eq_false_iff.mpr c7
    subst c7
    have H1 : (some false) = some r := by rw [if_neg (show ¬ (false = true) by decide)] at H; exact H
    clear H
    have H := H1
    clear H1
    obtain rfl := Option.some.inj H
    go_enter Try.func11, Try.ntmps11
    go_wp2_with (first | ((with_reducible refine gate_callee (f := 23) rfl ?_); refine goesL_ (some 15) rfl rfl Try.func23 (by kernel_rfl) rfl #[] rfl (by (try simp only [List.map_toArray, List.map_cons, List.map_nil]); first | done | rfl | (simp only [List.length_drop, List.length_take]; rfl)) ?_; (with_reducible refine (girandolelaw20_begun.calls k  false _ A6.out).mono ?_); rintro e w59 ⟨rfl, hb⟩; refine ⟨_, rfl, ?_⟩; have n0_ := Aside0.mk (below_step (by repeat (first | (with_reducible first | exact HB.out | apply below_alloc | apply pw_below_drewN | apply below_drew1) | exact HB.out)) hb); clear HB; have HB := n0_; clear n0_; (try clear hb); (try clear hb2); (try clear hk); (try clear hi)))
    go_ret
    exact ⟨by first | rfl | (simp [errW_none, errW_some] <;> rfl) | (simp [*, errW_none, errW_some] <;> rfl), by repeat (first | (with_reducible first | exact HB.out | apply below_alloc | apply pw_below_drewN | apply below_drew1) | exact HB.out)⟩

/-- THE ONE PURE STATEMENT of girandolelaw20_NeedMore: yours. -/
def girandolelaw20_NeedMore.Pure : Prop := ∀ (a0 : Int) (a1 : Int) (a2 : Int) (a3 : Int) (a4 : Int), (Lit.int .u8 a0).wf = true → (Lit.int .u16 a1).wf = true → (Lit.int .u16 a2).wf = true → (Lit.int .u16 a3).wf = true → (Lit.int .u16 a4).wf = true → ∃ k, girandolelaw20_NeedMore.f k a0 a1 a2 a3 a4 = some true
theorem girandolelaw20_NeedMore.walk (P : girandolelaw20_NeedMore.Pure) (a0 : Int) (a1 : Int) (a2 : Int) (a3 : Int) (a4 : Int) (w : World) (w0 : (Lit.int .u8 a0).wf = true) (w1 : (Lit.int .u16 a1).wf = true) (w2 : (Lit.int .u16 a2).wf = true) (w3 : (Lit.int .u16 a3).wf = true) (w4 : (Lit.int .u16 a4).wf = true) :
    Calls Try.prog 11 #[.int .u8 a0, .int .u16 a1, .int .u16 a2, .int .u16 a3, .int .u16 a4] w fun e w' => e = .returned (.bool true) ∧ Below w.heap.size w w' := by
  obtain ⟨k, h⟩ := P a0 a1 a2 a3 a4 w0 w1 w2 w3 w4
  refine (girandolelaw20_NeedMore.calls k a0 a1 a2 a3 a4 true w h).mono ?_
  rintro e w' ⟨rfl, hd⟩
  exact ⟨rfl, hd⟩

end Go.Proofs.Ytffjgmhobilfmaa.PNeedMore
