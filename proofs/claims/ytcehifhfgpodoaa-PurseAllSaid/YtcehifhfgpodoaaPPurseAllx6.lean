-- own text
import Derived.Test.YtcehifhfgpodoaaPPurseAllx0
import Derived.Test.YtcehifhfgpodoaaPPurseAllx1
import Derived.Test.YtcehifhfgpodoaaPPurseAllx5
namespace Go.Proofs.Ytcehifhfgpodoaa.PPurseAll
open Go.RowKit Go.Proofs.YtcehifhfgpodoaaW.PrintWords Go.Proofs.YtcehifhfgpodoaaW.PrintLast Go.Proofs.YtcehifhfgpodoaaW.PrintMore Go.Proofs.Ytcehifhfgpodoaa.Clo
attribute [local go_sem] max2_int min2_int max_two min_two max_three min_three max_four min_four   -- for this text's walks alone
set_option linter.unusedVariables false
set_option linter.unusedSimpArgs false

/-! ### purse_Split: function 24 -/
mutual
def purse_Split.l0 : Nat → Int → List (S46) → Int → Int → List (S46) → Int → Int → Option (List Int)
  | 0, _, _, _, _, _, _, _ => none
  | k + 1, x0, x3, x5, x6, x18, x19, x20 => if x20 < x19 then (if 0 ≤ x20 then (if x20 < (x18.length : Int) then ((purse_weight.f ((rd_T46 x18 x20).f1)).bind fun t159 => (purse_Split.l0 k x0 x3 x5 (wrap64 (x6 + t159)) x18 x19 (wrap64 (x20 + 1)))) else (none)) else (none)) else (if 0 ≤ (x3.length : Int) then (if ((x3.length : Int) : Int).toNat ≤ 35184372088832 then (purse_Split.l1 k x0 x3 x5 x6 (List.replicate ((x3.length : Int) : Int).toNat 0) (List.replicate ((x3.length : Int) : Int).toNat 0) x3 (x3.length : Int) 0) else (none)) else (none))
def purse_Split.l1 : Nat → Int → List (S46) → Int → Int → List Int → List Int → List (S46) → Int → Int → Option (List Int)
  | 0, _, _, _, _, _, _, _, _, _ => none
  | k + 1, x0, x3, x5, x6, x9, x10, x36, x37, x38 => if x38 < x37 then (if 0 ≤ x38 then (if x38 < (x36.length : Int) then ((purse_clip.f x0).bind fun t168 => ((purse_weight.f ((rd_T46 x36 x38).f1)).bind fun t169 => (if x6 = 0 then (none) else ((purse_clip.f ((rd_T46 x36 x38).f2)).bind fun t170 => (if x38 < (x9.length : Int) then ((some (x9.set (x38 : Int).toNat (mn (wrap64 (Int.tdiv (wrap64 (t168 * t169)) x6)) t170) : List Int)).bind fun y171 => (if x38 < (x10.length : Int) then (purse_Split.l1 k x0 x3 (wrap64 (x5 - (rd y171 x38))) x6 y171 (x10.set (x38 : Int).toNat x38) x36 x37 (wrap64 (x38 + 1))) else (none))) else (none)))))) else (none)) else (none)) else ((slices_SortStableFunc_int_int.f k x10 x3).bind fun t174 => (purse_Split.l2 k x3 x5 x9 t174 (x10.length : Int) 0))
def purse_Split.l2 : Nat → List (S46) → Int → List Int → List Int → Int → Int → Option (List Int)
  | 0, _, _, _, _, _, _ => none
  | k + 1, x3, x5, x9, x72, x73, x74 => if x74 < x73 then (if 0 ≤ x74 then (if x74 < (x72.length : Int) then (if 0 ≤ (rd x72 x74) then (if (rd x72 x74) < (x3.length : Int) then ((purse_clip.f ((rd_T46 x3 (rd x72 x74)).f2)).bind fun t177 => (if (rd x72 x74) < (x9.length : Int) then (purse_Split.l2 k x3 (wrap64 (x5 - (mn (wrap64 (t177 - (rd x9 (rd x72 x74)))) x5))) (x9.set ((rd x72 x74) : Int).toNat (wrap64 ((rd x9 (rd x72 x74)) + (mn (wrap64 (t177 - (rd x9 (rd x72 x74)))) x5)))) x72 x73 (wrap64 (x74 + 1))) else (none))) else (none)) else (none)) else (none)) else (none)) else (some x9)
end
def purse_Split.f (k : Nat) (a0 : Int) (l1 : List (S46)) : Option (List Int) := (purse_clip.f a0).bind fun t156 => (purse_Split.l0 k a0 l1 t156 0 l1 (l1.length : Int) 0)
theorem purse_Split.mono_l : ∀ k, (∀ y0 y1 y2 y3 y4 y5 y6, LeO (purse_Split.l0 k y0 y1 y2 y3 y4 y5 y6) (purse_Split.l0 (k + 1) y0 y1 y2 y3 y4 y5 y6)) ∧ (∀ y0 y1 y2 y3 y4 y5 y6 y7 y8, LeO (purse_Split.l1 k y0 y1 y2 y3 y4 y5 y6 y7 y8) (purse_Split.l1 (k + 1) y0 y1 y2 y3 y4 y5 y6 y7 y8)) ∧ (∀ y0 y1 y2 y3 y4 y5, LeO (purse_Split.l2 k y0 y1 y2 y3 y4 y5) (purse_Split.l2 (k + 1) y0 y1 y2 y3 y4 y5))
  | 0 => ⟨fun _ _ _ _ _ _ _ r h => by simp [purse_Split.l0] at h, fun _ _ _ _ _ _ _ _ _ r h => by simp [purse_Split.l1] at h, fun _ _ _ _ _ _ r h => by simp [purse_Split.l2] at h⟩
  | k + 1 => by
    obtain ⟨ih0, ih1, ih2⟩ := purse_Split.mono_l k
    refine ⟨?_, ?_, ?_⟩
    · intro y0 y1 y2 y3 y4 y5 y6
      unfold purse_Split.l0
      repeat' first
      | (with_reducible exact ih0 _ _ _ _ _ _ _)
      | (with_reducible exact ih1 _ _ _ _ _ _ _ _ _)
      | (with_reducible exact ih2 _ _ _ _ _ _)
      | (with_reducible exact slices_SortStableFunc_int_int.mono _ _ _)
      | (with_reducible exact LeO.refl _)
      | (with_reducible exact LeO.none _)
      | (with_reducible refine LeO.ite ?_ ?_)
      | (with_reducible refine LeO.bind ?_ (fun _ => ?_))
      | exact ih0 _ _ _ _ _ _ _
      | exact ih1 _ _ _ _ _ _ _ _ _
      | exact ih2 _ _ _ _ _ _
      | exact slices_SortStableFunc_int_int.mono _ _ _
      | exact LeO.none _
      | refine LeO.ite ?_ ?_
      | refine LeO.bind ?_ (fun _ => ?_)
    · intro y0 y1 y2 y3 y4 y5 y6 y7 y8
      unfold purse_Split.l1
      repeat' first
      | (with_reducible exact ih0 _ _ _ _ _ _ _)
      | (with_reducible exact ih1 _ _ _ _ _ _ _ _ _)
      | (with_reducible exact ih2 _ _ _ _ _ _)
      | (with_reducible exact slices_SortStableFunc_int_int.mono _ _ _)
      | (with_reducible exact LeO.refl _)
      | (with_reducible exact LeO.none _)
      | (with_reducible refine LeO.ite ?_ ?_)
      | (with_reducible refine LeO.bind ?_ (fun _ => ?_))
      | exact ih0 _ _ _ _ _ _ _
      | exact ih1 _ _ _ _ _ _ _ _ _
      | exact ih2 _ _ _ _ _ _
      | exact slices_SortStableFunc_int_int.mono _ _ _
      | exact LeO.none _
      | refine LeO.ite ?_ ?_
      | refine LeO.bind ?_ (fun _ => ?_)
    · intro y0 y1 y2 y3 y4 y5
      unfold purse_Split.l2
      repeat' first
      | (with_reducible exact ih0 _ _ _ _ _ _ _)
      | (with_reducible exact ih1 _ _ _ _ _ _ _ _ _)
      | (with_reducible exact ih2 _ _ _ _ _ _)
      | (with_reducible exact slices_SortStableFunc_int_int.mono _ _ _)
      | (with_reducible exact LeO.refl _)
      | (with_reducible exact LeO.none _)
      | (with_reducible refine LeO.ite ?_ ?_)
      | (with_reducible refine LeO.bind ?_ (fun _ => ?_))
      | exact ih0 _ _ _ _ _ _ _
      | exact ih1 _ _ _ _ _ _ _ _ _
      | exact ih2 _ _ _ _ _ _
      | exact slices_SortStableFunc_int_int.mono _ _ _
      | exact LeO.none _
      | refine LeO.ite ?_ ?_
      | refine LeO.bind ?_ (fun _ => ?_)
theorem purse_Split.mono : ∀ a0 a1 k, LeO (purse_Split.f k a0 a1) (purse_Split.f (k + 1) a0 a1) := by
  intro a0 a1 k
  obtain ⟨ih0, ih1, ih2⟩ := purse_Split.mono_l k
  unfold purse_Split.f
  repeat' first
      | (with_reducible exact ih0 _ _ _ _ _ _ _)
      | (with_reducible exact ih1 _ _ _ _ _ _ _ _ _)
      | (with_reducible exact ih2 _ _ _ _ _ _)
      | (with_reducible exact slices_SortStableFunc_int_int.mono _ _ _)
      | (with_reducible exact LeO.refl _)
      | (with_reducible exact LeO.none _)
      | (with_reducible refine LeO.ite ?_ ?_)
      | (with_reducible refine LeO.bind ?_ (fun _ => ?_))
      | exact ih0 _ _ _ _ _ _ _
      | exact ih1 _ _ _ _ _ _ _ _ _
      | exact ih2 _ _ _ _ _ _
      | exact slices_SortStableFunc_int_int.mono _ _ _
      | exact LeO.none _
      | refine LeO.ite ?_ ?_
      | refine LeO.bind ?_ (fun _ => ?_)
def purse_Split.T12 : Bool × List (List Nat × List Nat) := (true, [([], []), ([], []), ([], []), ([2], [2]), ([], []), ([4], [4]), ([5, 3], [5]), ([3, 6], [3, 6]), ([], []), ([7, 8], [7, 8]), ([], []), ([10], [10]), ([11, 6], [11]), ([9, 12], [9, 12]), ([0, 1, 0, 1, 2, 3, 4, 5, 6, 7, 8, 9, 10, 11, 12, 13], [0, 1]), ([14, 13, 12, 0, 1, 2, 3, 4, 5, 6, 7, 8, 9, 10, 11, 12, 13], [13, 14])])
def purse_Split.B12 : List Nat := [0, 0, 0, 4, 0, 16, 60, 124, 0, 508, 0, 1024, 3196, 8188, 16383, 32767]
theorem purse_Split.tab12 : rtab .any (opsOf Try.f24 12) = purse_Split.T12 := by kernel_rfl
theorem purse_Split.bits12 : waitsOk purse_Split.T12.2 purse_Split.B12 = true := by kernel_rfl
def purse_Split.T20 : Bool × List (List Nat × List Nat) := (true, [([], []), ([], []), ([0, 1], [0, 1]), ([2], [2]), ([3], [3]), ([4], [4]), ([], []), ([], []), ([6, 7], [6, 7]), ([8], [8]), ([5, 9], [5, 9]), ([], []), ([10, 11], [10, 11]), ([12, 5, 0, 1, 2, 3, 4, 5, 6, 7, 8, 9, 10, 11, 12], [12])])
def purse_Split.B20 : List Nat := [0, 0, 3, 7, 15, 31, 0, 0, 192, 448, 1023, 0, 4095, 8191]
theorem purse_Split.tab20 : rtab .any (opsOf Try.f24 20) = purse_Split.T20 := by kernel_rfl
theorem purse_Split.bits20 : waitsOk purse_Split.T20.2 purse_Split.B20 = true := by kernel_rfl
set_option maxHeartbeats 8000000 in
set_option maxRecDepth 100000 in
theorem purse_Split.calls (k : Nat) (a0 : Int) (A1 : Option Addr) (c1 : Nat) (l1 : List (S46)) (r : List Int) (w_ : World) (hr1 : Kd.C k46 w_ A1 l1.length l1) (hc1 : l1.length ≤ c1) (h : purse_Split.f k a0 l1 = some r) :
    Calls Try.prog 24 #[.int .i64 a0, .slice A1 l1.length c1] w_ fun e w' => ∃ v0_ : Value, e = .returned (v0_) ∧ Kd.R (Kd.int .i64) 3 w' w_.heap.size (fun _ => True) v0_ r ∧ Below w_.heap.size w_ w' := by
  obtain ⟨w, hwb⟩ : ∃ wb : World, w_.alloc (.cells #[.slice A1 l1.length c1] 40) = wb := ⟨_, rfl⟩
  obtain ⟨g1, hg1⟩ : ∃ g : Nat, w_.heap.size = g := ⟨_, rfl⟩
  have hbb : Below w_.heap.size w_ w := by rw [← hwb]; exact below_alloc (Below.refl _ _) _
  have hx1 : w.cell? ⟨g1, 0, none⟩ = some (.slice A1 l1.length c1) := by rw [← hwb, ← hg1]; simp
  replace hr1 := Kd.C_below hr1 hbb
  have HX1 := Aside0.mk hx1
  have HWB := Aside0.mk hwb
  have HG1 := Aside0.mk hg1
  have HBB := Aside0.mk hbb
  clear hx1 hwb hg1 hbb
  refine (show Calls Try.prog 24 #[.int .i64 a0, .slice A1 l1.length c1] w_ fun e w' => ∃ v0_ : Value, e = .returned (v0_) ∧ Kd.R (Kd.int .i64) 3 w' w.heap.size (fun _ => True) v0_ r ∧ Below w.heap.size w w' from ?_).mono (fun e w' hh => ?_)
  rotate_left
  · obtain ⟨v0_, he, hR, hb⟩ := hh
    exact ⟨v0_, he, Kd.R_lower hR HBB.out.size, HBB.out.trans (hb.mono HBB.out.size)⟩
  have hu46 := Try.underlying46
  have HR1 := Aside0.mk hr1
  have HC1 := Aside0.mk hc1
  clear hr1 hc1
  have HB := Aside0.mk (Below.refl w.heap.size w)
  have H : ((purse_clip.f a0).bind fun t156 => (purse_Split.l0 k a0 l1 t156 0 l1 (l1.length : Int) 0)) = some r := h
  clear h
  replace H := Option.bind_eq_some_iff.mp H
  obtain ⟨t156, A30, H⟩ := H
  replace H : (purse_Split.l0 k a0 l1 t156 0 l1 (l1.length : Int) 0) = some r := H
  have A3 := Aside0.mk A30
  clear A30
  have H' := Aside0.mk H
  clear H
  go_enter Try.func24, Try.ntmps24
  go_wp2_with (first | ((with_reducible refine gate_callee (f := 27) rfl ?_); refine goesL_ (some 17) rfl rfl Try.func27 (by kernel_rfl) rfl #[.int .i64 a0] rfl (by (try simp only [List.map_toArray, List.map_cons, List.map_nil]); first | done | rfl | (simp only [List.length_drop, List.length_take]; rfl)) ?_; rw [HWB.out, HG1.out]; (with_reducible refine (purse_clip.calls a0 t156 _ A3.out).mono ?_); rintro e w4 ⟨rfl, hb⟩; refine ⟨_, rfl, ?_⟩; have n0_ := Aside0.mk (below_step (by repeat (first | (with_reducible first | exact HB.out | apply below_alloc | apply pw_below_drewN | apply below_drew1) | exact HB.out)) hb); clear HB; have HB := n0_; clear n0_; (try clear hX_); have hX_ := (HB.out.cell (World.block_lt_of_cell? w _ HX1.out)).trans HX1.out; (try clear hb); (try clear hb2); (try clear hk); (try clear hi)))
  (try simp only [Act.put, List.setIfInBounds_toArray, List.set_cons_zero, List.set_cons_succ])
  go_loopg [6, 20] k (fun kq v6 v20 w' => ∃ (x6_1 : Int) (x20_1 : Int), v6 = .int .i64 x6_1 ∧ v20 = .int .i64 x20_1 ∧ Aside0 (purse_Split.l0 kq a0 l1 t156 x6_1 l1 (l1.length : Int) x20_1 = some r) ∧ Aside0 (kq ≤ k) ∧ Aside0 (Below w.heap.size w w'))
  case atStart => exact ⟨(0), (0), (by first | rfl | (simp; done) | (simp [*]; done)), (by first | rfl | (simp; done) | (simp [*]; done)), H', ⟨Nat.le_refl _⟩, ⟨by repeat (first | (with_reducible first | exact HB.out | apply below_alloc | apply pw_below_drewN | apply below_drew1) | exact HB.out)⟩⟩
  case round =>
    clear H'
    try clear c1
    try clear c2
    try clear p2
    obtain ⟨x6_1, x20_1, rfl, rfl, HA, HK1, HB⟩ := hrel
    (try clear hX_)
    have hX_ := (HB.out.cell (World.block_lt_of_cell? w _ HX1.out)).trans HX1.out
    cases gk with
    | zero => exact absurd HA.out (by simp [purse_Split.l0])
    | succ k1 =>
      have H := HA.out
      clear HA
      simp only [purse_Split.l0] at H
      by_cases c5 : x20_1 < (l1.length : Int)
      · rw [if_pos c5] at H
        have c5b0 : decide (x20_1 < (l1.length : Int)) = true := decide_eq_true c5
        clear c5
        by_cases c6 : 0 ≤ x20_1
        · rw [if_pos c6] at H
          have c6b0 : decide (0 ≤ x20_1) = true := decide_eq_true c6
          clear c6
          by_cases c7 : x20_1 < (l1.length : Int)
          · rw [if_pos c7] at H
            have c7b0 : decide (x20_1 < (l1.length : Int)) = true := decide_eq_true c7
            clear c7
            replace H := Option.bind_eq_some_iff.mp H
            obtain ⟨t159, A80, H⟩ := H
            replace H : (purse_Split.l0 k1 a0 l1 t156 (wrap64 (x6_1 + t159)) l1 (l1.length : Int) (wrap64 (x20_1 + 1))) = some r := H
            have A8 := Aside0.mk A80
            clear A80
            have H' := Aside0.mk H
            clear H
            have p157 : 0 ≤ (x20_1 : Int) := of_decide_eq_true (by first | (with_reducible assumption) | assumption)
            have q157 : x20_1 < (l1.length : Int) := of_decide_eq_true (by first | (with_reducible assumption) | assumption)
            obtain ⟨ad157, e157, hx157_0, hx157_1, hx157_2⟩ := at_T46 HR1.out x20_1 p157 q157
            cases e157
            replace hx157_0 := (HB.out.cell (World.block_lt_of_cell? w _ hx157_0)).trans hx157_0
            replace hx157_1 := (HB.out.cell (World.block_lt_of_cell? w _ hx157_1)).trans hx157_1
            replace hx157_2 := (HB.out.cell (World.block_lt_of_cell? w _ hx157_2)).trans hx157_2
            replace p157 := eq_true p157
            replace q157 := eq_true q157
            go_wp2_with (first | ((with_reducible refine gate_dst (N := 8) rfl ?_); refine box_event ?hg (N := 8) ?hd (cs := #[.int .u32 0, .int .i64 0, .int .i64 0]) (t := 46) ?hr ?_; (case hd => rfl); (case hg => rfl); (case hr => first | (go_simp; done) | (go_simp; rfl)); intro gb158 hg w9 hbox hb; have n0_ := Aside0.mk (below_step (by repeat (first | (with_reducible first | exact HB.out | apply below_alloc | apply pw_below_drewN | apply below_drew1) | exact HB.out)) hb); have n1_ := Aside0.mk (hbox); have n2_ := Aside0.mk ((by rw [hg]; exact (below_size (by repeat (first | (with_reducible first | exact HB.out | apply below_alloc | apply pw_below_drewN | apply below_drew1) | exact HB.out))) : w.heap.size ≤ gb158)); have n3_ := Aside0.mk ((by rw [hg]; exact (below_size (by repeat (first | (with_reducible first | exact HB.out | apply below_alloc | apply pw_below_drewN | apply below_drew1) | exact HB.out))) : w.heap.size ≤ gb158)); clear HB; have HB := n0_; have BK158 := n1_; have GW158 := n2_; have GE158 := n3_; clear n0_ n1_ n2_ n3_; clear hb hbox hg; have hcz10_0 : w9.cell? ⟨gb158, 0, none⟩ = some (.int .u32 0) := (blk_cell BK158.out 0).trans rfl; have hcz10_1 : w9.cell? ⟨gb158, 1, none⟩ = some (.int .i64 0) := (blk_cell BK158.out 1).trans rfl; have hcz10_2 : w9.cell? ⟨gb158, 2, none⟩ = some (.int .i64 0) := (blk_cell BK158.out 2).trans rfl; have hfz10_0 := blk_frozen BK158.out 0; have hfz10_1 := blk_frozen BK158.out 1; have hfz10_2 := blk_frozen BK158.out 2) | ((with_reducible refine gate_callee (f := 28) rfl ?_); refine goesL_ (some 27) rfl rfl Try.func28 (by kernel_rfl) rfl #[.int .i64 ((rd_T46 l1 x20_1).f1)] rfl (by (try simp only [List.map_toArray, List.map_cons, List.map_nil]); first | done | rfl | (simp only [List.length_drop, List.length_take]; rfl)) ?_; (with_reducible refine (purse_weight.calls ((rd_T46 l1 x20_1).f1) t159 _ A8.out).mono ?_); rintro e w11 ⟨rfl, hb⟩; refine ⟨_, rfl, ?_⟩; have n0_ := Aside0.mk (blk_below (g := gb158) (o := .cells #[.int .u32 ((rd_T46 l1 x20_1).f0), .int .i64 ((rd_T46 l1 x20_1).f1), .int .i64 ((rd_T46 l1 x20_1).f2)] 46 (0, 0)) (by (with_reducible repeat (first | refine blk_drewN ?_ _ | refine blk_drew ?_ | refine blk_alloc ?_ _)); refine blk_put (cs := #[.int .u32 ((rd_T46 l1 x20_1).f0), .int .i64 ((rd_T46 l1 x20_1).f1), .int .i64 0]) ?_ 2 _ rfl; (with_reducible repeat (first | refine blk_drewN ?_ _ | refine blk_drew ?_ | refine blk_alloc ?_ _)); refine blk_put (cs := #[.int .u32 ((rd_T46 l1 x20_1).f0), .int .i64 0, .int .i64 0]) ?_ 1 _ rfl; (with_reducible repeat (first | refine blk_drewN ?_ _ | refine blk_drew ?_ | refine blk_alloc ?_ _)); refine blk_put (cs := #[.int .u32 0, .int .i64 0, .int .i64 0]) ?_ 0 _ rfl; (with_reducible repeat (first | refine blk_drewN ?_ _ | refine blk_drew ?_ | refine blk_alloc ?_ _)); exact BK158.out) hb); have n1_ := Aside0.mk (below_step (by repeat (first | (with_reducible first | exact HB.out | apply below_alloc | apply pw_below_drewN | apply below_drew1 | refine below_set ?_ GE158.out) | exact HB.out)) hb); clear BK158; clear HB; have BK158 := n0_; have HB := n1_; clear n0_ n1_; (try clear hX_); have hX_ := (HB.out.cell (World.block_lt_of_cell? w _ HX1.out)).trans HX1.out; (try clear hb); (try clear hb2); (try clear hk); (try clear hi)))
            go_roundg k1
            case measure => have := HK1.out; omega
            case rel => exact ⟨(wrap64 (x6_1 + t159)), (wrap64 (x20_1 + 1)), (by first | rfl | (simp; done) | (simp [*]; done)), (by first | rfl | (simp; done) | (simp [*]; done)), H', ⟨by have := HK1.out; omega⟩, ⟨by repeat (first | (with_reducible first | exact HB.out | apply below_alloc | apply pw_below_drewN | apply below_drew1 | refine below_set ?_ GE158.out) | exact HB.out)⟩⟩
          · rw [if_neg c7] at H
            exact absurd H (by simp)
        · rw [if_neg c6] at H
          exact absurd H (by simp)
      · rw [if_neg c5] at H
        have c5b0 : decide (x20_1 < (l1.length : Int)) = false := decide_eq_false c5
        clear c5
        by_cases c12 : 0 ≤ (l1.length : Int)
        · rw [if_pos c12] at H
          have c12b0 := eq_true c12
          have c12b1 : decide (0 ≤ (l1.length : Int)) = true := decide_eq_true c12
          clear c12
          by_cases c13 : ((l1.length : Int) : Int).toNat ≤ 35184372088832
          · rw [if_pos c13] at H
            have c13b0 := eq_true c13
            have c13b1 : decide (((l1.length : Int) : Int).toNat ≤ 35184372088832) = true := decide_eq_true c13
            clear c13
            obtain ⟨y160, hy160⟩ : ∃ y_ : List Int, y_ = (List.replicate ((l1.length : Int) : Int).toNat 0) := ⟨_, rfl⟩
            replace H : (purse_Split.l1 k1 a0 l1 t156 x6_1 y160 (List.replicate ((l1.length : Int) : Int).toNat 0) l1 (l1.length : Int) 0) = some r := by first | (rw [hy160]; with_reducible exact H) | (have H2_ := (Option.bind_some _ _).symm.trans H; rw [hy160]; with_reducible exact H2_) | (have H2_ := (Option.bind_some _ _).symm.trans H; with_reducible exact H2_) | with_reducible exact H | (rw [hy160]; exact H) | exact H
            have Ny160 := Aside0.mk hy160
            clear hy160
            obtain ⟨y163, hy163⟩ : ∃ y_ : List Int, y_ = (List.replicate ((l1.length : Int) : Int).toNat 0) := ⟨_, rfl⟩
            replace H : (purse_Split.l1 k1 a0 l1 t156 x6_1 y160 y163 l1 (l1.length : Int) 0) = some r := by first | (rw [hy163]; with_reducible exact H) | (have H2_ := (Option.bind_some _ _).symm.trans H; rw [hy163]; with_reducible exact H2_) | (have H2_ := (Option.bind_some _ _).symm.trans H; with_reducible exact H2_) | with_reducible exact H | (rw [hy163]; exact H) | exact H
            have Ny163 := Aside0.mk hy163
            clear hy163
            have H' := Aside0.mk H
            clear H
            go_wp2_with (first | ((with_reducible refine gate_dst (N := 32) rfl ?_); refine Kd.R_make (Kd.int .i64) _ 3 rfl (N := 32) rfl 41 _ _ rfl (l1.length : Int) rfl rfl Try.underlying41 (.int .i64 0) 8 info3 rfl (by decide) (by omega) 0 (ok := fun _ => True) (okp := fun _ => True) rfl (fun _ hk => hk) trivial (of_decide_eq_true (by first | (with_reducible assumption) | assumption)) (Nat.le_trans (Nat.mul_le_mul_right _ (of_decide_eq_true (by first | (with_reducible assumption) | assumption) : (l1.length : Int).toNat ≤ 35184372088832)) (by omega)) (Below.refl _ _) (Nat.le_refl _) ?_; intro v161 w14 ho15 hb hg_ hnew_; clear hg_ hnew_; (first | rw [← Ny160.out] at ho15 | (simp only [Int.reduceToNat] at ho15; rw [← Ny160.out] at ho15)); have n0_ := Aside0.mk (Kd.R_lower ho15 (below_size (by repeat (first | (with_reducible first | exact HB.out | apply below_alloc | apply pw_below_drewN | apply below_drew1) | exact HB.out)))); have n1_ := Aside0.mk (below_step (by repeat (first | (with_reducible first | exact HB.out | apply below_alloc | apply pw_below_drewN | apply below_drew1) | exact HB.out)) hb); clear HB; have HO162 := n0_; have HB := n1_; clear n0_ n1_; (try clear hX_); have hX_ := (HB.out.cell (World.block_lt_of_cell? w _ HX1.out)).trans HX1.out; clear hb ho15) | ((with_reducible refine gate_dst (N := 35) rfl ?_); refine Kd.R_make (Kd.int .i64) _ 3 rfl (N := 35) rfl 41 _ _ rfl (l1.length : Int) rfl rfl Try.underlying41 (.int .i64 0) 8 info3 rfl (by decide) (by omega) 0 (ok := fun _ => True) (okp := fun _ => True) rfl (fun _ hk => hk) trivial (of_decide_eq_true (by first | (with_reducible assumption) | assumption)) (Nat.le_trans (Nat.mul_le_mul_right _ (of_decide_eq_true (by first | (with_reducible assumption) | assumption) : (l1.length : Int).toNat ≤ 35184372088832)) (by omega)) (Below.refl _ _) (Nat.le_refl _) ?_; intro v164 w16 ho17 hb hg_ hnew_; clear hg_ hnew_; (first | rw [← Ny163.out] at ho17 | (simp only [Int.reduceToNat] at ho17; rw [← Ny163.out] at ho17)); have n0_ := Aside0.mk (Kd.R_elder' (by (with_reducible repeat (first | apply Kd.R_alloc | apply Kd.R_drewN | apply Kd.R_drew)); exact HO162.out) (Kd.R_base ho17) hb); have n1_ := Aside0.mk (Kd.R_lower (Kd.R_new' ho17 (Kd.R_lt (by (with_reducible repeat (first | apply Kd.R_alloc | apply Kd.R_drewN | apply Kd.R_drew)); exact HO162.out))) (below_size (by repeat (first | (with_reducible first | exact HB.out | apply below_alloc | apply pw_below_drewN | apply below_drew1) | exact HB.out)))); have n2_ := Aside0.mk (below_step (by repeat (first | (with_reducible first | exact HB.out | apply below_alloc | apply pw_below_drewN | apply below_drew1) | exact HB.out)) hb); clear HO162; clear HB; have HO162 := n0_; have HO165 := n1_; have HB := n2_; clear n0_ n1_ n2_; (try clear hX_); have hX_ := (HB.out.cell (World.block_lt_of_cell? w _ HX1.out)).trans HX1.out; clear hb ho17))
            (try simp only [Act.put, List.setIfInBounds_toArray, List.set_cons_zero, List.set_cons_succ])
            go_loopg [5, 38] k1 (fun kq v5 v38 w' => ∃ (x5_2 : Int) (x9_2 : List Int) (x10_2 : List Int) (x38_2 : Int), v5 = .int .i64 x5_2 ∧ v38 = .int .i64 x38_2 ∧ Aside0 (purse_Split.l1 kq a0 l1 x5_2 x6_1 x9_2 x10_2 l1 (l1.length : Int) x38_2 = some r) ∧ Aside0 (kq ≤ k1) ∧ Aside0 (Kd.R (Kd.int .i64) 3 w' w.heap.size (fun k_ => some k_ ≠ (v164 : Value).ownBlock) v161 x9_2) ∧ Aside0 (Kd.R (Kd.int .i64) 3 w' w.heap.size (fun k_ => some k_ ≠ (v161 : Value).ownBlock) v164 x10_2) ∧ Aside0 (Below w.heap.size w w'))
            case atStart => exact ⟨(t156), (y160), (y163), (0), (by first | rfl | (simp; done) | (simp [*]; done)), (by first | rfl | (simp; done) | (simp [*]; done)), H', ⟨Nat.le_refl _⟩, ⟨by (with_reducible repeat (first | apply Kd.R_alloc | apply Kd.R_drewN | apply Kd.R_drew)); exact Kd.R_mono HO162.out (fun _ hk => hk.2)⟩, ⟨by (with_reducible repeat (first | apply Kd.R_alloc | apply Kd.R_drewN | apply Kd.R_drew)); exact Kd.R_mono HO165.out (fun _ hk => hk.2)⟩, ⟨by repeat (first | (with_reducible first | exact HB.out | apply below_alloc | apply pw_below_drewN | apply below_drew1) | exact HB.out)⟩⟩
            case round =>
              clear H'
              try clear c1
              try clear p1
              try clear q1
              try clear hx1
              try clear c2
              try clear p2
              try clear c5
              try clear c5b0
              try clear c6
              try clear c6b0
              try clear p6
              try clear c7
              try clear c7b0
              try clear c12
              try clear c12b0
              try clear c12b1
              try clear c13
              try clear c13b0
              try clear c13b1
              try clear p15
              try clear q15
              try clear hx15
              try clear hcz10_0
              try clear hcz10_1
              try clear hcz10_2
              try clear hfz10_0
              try clear hfz10_1
              try clear hfz10_2
              try clear hx157_0
              try clear hx157_1
              try clear hx157_2
              try clear p157
              try clear p2
              try clear q157
              obtain ⟨x5_2, x9_2, x10_2, x38_2, rfl, rfl, HA, HK2, HO_9, HO_10, HB⟩ := hrel
              (try clear hX_)
              have hX_ := (HB.out.cell (World.block_lt_of_cell? w _ HX1.out)).trans HX1.out
              cases gk with
              | zero => exact absurd HA.out (by simp [purse_Split.l1])
              | succ k2 =>
                have H := HA.out
                clear HA
                simp only [purse_Split.l1] at H
                by_cases c18 : x38_2 < (l1.length : Int)
                · rw [if_pos c18] at H
                  have c18b0 : decide (x38_2 < (l1.length : Int)) = true := decide_eq_true c18
                  clear c18
                  by_cases c19 : 0 ≤ x38_2
                  · rw [if_pos c19] at H
                    have c19b0 : decide (0 ≤ x38_2) = true := decide_eq_true c19
                    clear c19
                    by_cases c20 : x38_2 < (l1.length : Int)
                    · rw [if_pos c20] at H
                      have c20b0 : decide (x38_2 < (l1.length : Int)) = true := decide_eq_true c20
                      clear c20
                      replace H := Option.bind_eq_some_iff.mp H
                      obtain ⟨t168, A210, H⟩ := H
                      replace H : ((purse_weight.f ((rd_T46 l1 x38_2).f1)).bind fun t169 => (if x6_1 = 0 then (none) else ((purse_clip.f ((rd_T46 l1 x38_2).f2)).bind fun t170 => (if x38_2 < (x9_2.length : Int) then ((some (x9_2.set (x38_2 : Int).toNat (mn (wrap64 (Int.tdiv (wrap64 (t168 * t169)) x6_1)) t170) : List Int)).bind fun y171 => (if x38_2 < (x10_2.length : Int) then (purse_Split.l1 k2 a0 l1 (wrap64 (x5_2 - (rd y171 x38_2))) x6_1 y171 (x10_2.set (x38_2 : Int).toNat x38_2) l1 (l1.length : Int) (wrap64 (x38_2 + 1))) else (none))) else (none))))) = some r := H
                      have A21 := Aside0.mk A210
                      clear A210
                      replace H := Option.bind_eq_some_iff.mp H
                      obtain ⟨t169, A220, H⟩ := H
                      replace H : (if x6_1 = 0 then (none) else ((purse_clip.f ((rd_T46 l1 x38_2).f2)).bind fun t170 => (if x38_2 < (x9_2.length : Int) then ((some (x9_2.set (x38_2 : Int).toNat (mn (wrap64 (Int.tdiv (wrap64 (t168 * t169)) x6_1)) t170) : List Int)).bind fun y171 => (if x38_2 < (x10_2.length : Int) then (purse_Split.l1 k2 a0 l1 (wrap64 (x5_2 - (rd y171 x38_2))) x6_1 y171 (x10_2.set (x38_2 : Int).toNat x38_2) l1 (l1.length : Int) (wrap64 (x38_2 + 1))) else (none))) else (none)))) = some r := H
                      have A22 := Aside0.mk A220
                      clear A220
                      by_cases c23 : x6_1 = 0
                      · rw [if_pos c23] at H
                        exact absurd H (by simp)
                      · rw [if_neg c23] at H
                        have c23b0 : (x6_1 == 0) = false := beq_eq_false_iff_ne.mpr c23
                        have c23b1 : (x6_1 != 0) = true := bne_iff_ne.mpr c23
                        replace H := Option.bind_eq_some_iff.mp H
                        obtain ⟨t170, A240, H⟩ := H
                        replace H : (if x38_2 < (x9_2.length : Int) then ((some (x9_2.set (x38_2 : Int).toNat (mn (wrap64 (Int.tdiv (wrap64 (t168 * t169)) x6_1)) t170) : List Int)).bind fun y171 => (if x38_2 < (x10_2.length : Int) then (purse_Split.l1 k2 a0 l1 (wrap64 (x5_2 - (rd y171 x38_2))) x6_1 y171 (x10_2.set (x38_2 : Int).toNat x38_2) l1 (l1.length : Int) (wrap64 (x38_2 + 1))) else (none))) else (none)) = some r := H
                        have A24 := Aside0.mk A240
                        clear A240
                        obtain ⟨ji25, hji25⟩ : ∃ j_ : Int, (mn (wrap64 (Int.tdiv (wrap64 (t168 * t169)) x6_1)) t170) = j_ := ⟨_, rfl⟩
                        replace H : (if x38_2 < (x9_2.length : Int) then ((some (x9_2.set (x38_2 : Int).toNat (ji25) : List Int)).bind fun y171 => (if x38_2 < (x10_2.length : Int) then (purse_Split.l1 k2 a0 l1 (wrap64 (x5_2 - (rd y171 x38_2))) x6_1 y171 (x10_2.set (x38_2 : Int).toNat x38_2) l1 (l1.length : Int) (wrap64 (x38_2 + 1))) else (none))) else (none)) = some r := by first | (rw [hji25] at H; exact H) | (simp only [hji25] at H ⊢; exact H)
                        (try rw [hji25] at A21)
                        (try rw [hji25] at A22)
                        (try rw [hji25] at A24)
                        have hji25_ : (if t170 < (wrap64 (Int.tdiv (wrap64 (t168 * t169)) x6_1)) then t170 else (wrap64 (Int.tdiv (wrap64 (t168 * t169)) x6_1))) = ji25 := hji25
                        by_cases c26 : x38_2 < (x9_2.length : Int)
                        · rw [if_pos c26] at H
                          have c26b0 : decide (x38_2 < (x9_2.length : Int)) = true := decide_eq_true c26
                          clear c26
                          obtain ⟨y171, hy171⟩ : ∃ y_ : List Int, y_ = (x9_2.set (x38_2 : Int).toNat (ji25)) := ⟨_, rfl⟩
                          replace H : (if x38_2 < (x10_2.length : Int) then (purse_Split.l1 k2 a0 l1 (wrap64 (x5_2 - (rd y171 x38_2))) x6_1 y171 (x10_2.set (x38_2 : Int).toNat x38_2) l1 (l1.length : Int) (wrap64 (x38_2 + 1))) else (none)) = some r := by first | (rw [hy171]; with_reducible exact H) | (have H2_ := (Option.bind_some _ _).symm.trans H; rw [hy171]; with_reducible exact H2_) | (have H2_ := (Option.bind_some _ _).symm.trans H; with_reducible exact H2_) | with_reducible exact H | (rw [hy171]; exact H) | exact H
                          have Ny171 := Aside0.mk hy171
                          clear hy171
                          by_cases c28 : x38_2 < (x10_2.length : Int)
                          · rw [if_pos c28] at H
                            have c28b0 : decide (x38_2 < (x10_2.length : Int)) = true := decide_eq_true c28
                            clear c28
                            obtain ⟨y173, hy173⟩ : ∃ y_ : List Int, y_ = (x10_2.set (x38_2 : Int).toNat x38_2) := ⟨_, rfl⟩
                            replace H : (purse_Split.l1 k2 a0 l1 (wrap64 (x5_2 - (rd y171 x38_2))) x6_1 y171 y173 l1 (l1.length : Int) (wrap64 (x38_2 + 1))) = some r := by first | (rw [hy173]; with_reducible exact H) | (have H2_ := (Option.bind_some _ _).symm.trans H; rw [hy173]; with_reducible exact H2_) | (have H2_ := (Option.bind_some _ _).symm.trans H; with_reducible exact H2_) | with_reducible exact H | (rw [hy173]; exact H) | exact H
                            have Ny173 := Aside0.mk hy173
                            clear hy173
                            have H' := Aside0.mk H
                            clear H
                            have p166 : 0 ≤ (x38_2 : Int) := of_decide_eq_true (by first | (with_reducible assumption) | assumption)
                            have q166 : x38_2 < (l1.length : Int) := of_decide_eq_true (by first | (with_reducible assumption) | assumption)
                            obtain ⟨ad166, e166, hx166_0, hx166_1, hx166_2⟩ := at_T46 HR1.out x38_2 p166 q166
                            cases e166
                            replace hx166_0 := (HB.out.cell (World.block_lt_of_cell? w _ hx166_0)).trans hx166_0
                            replace hx166_1 := (HB.out.cell (World.block_lt_of_cell? w _ hx166_1)).trans hx166_1
                            replace hx166_2 := (HB.out.cell (World.block_lt_of_cell? w _ hx166_2)).trans hx166_2
                            replace p166 := eq_true p166
                            replace q166 := eq_true q166
                            try go_wp2_with (first | ((with_reducible refine gate_dst (N := 12) rfl ?_); refine box_event ?hg (N := 12) ?hd (cs := #[.int .u32 0, .int .i64 0, .int .i64 0]) (t := 46) ?hr ?_; (case hd => rfl); (case hg => rfl); (case hr => first | (go_simp; done) | (go_simp; rfl)); intro gb167 hg w30 hbox hb; have n0_ := Aside0.mk (Kd.R_below (by (with_reducible repeat (first | apply Kd.R_alloc | apply Kd.R_drewN | apply Kd.R_drew)); exact HO_9.out) hb); have n1_ := Aside0.mk (Kd.R_below (by (with_reducible repeat (first | apply Kd.R_alloc | apply Kd.R_drewN | apply Kd.R_drew)); exact HO_10.out) hb); have n2_ := Aside0.mk (below_step (by repeat (first | (with_reducible first | exact HB.out | apply below_alloc | apply pw_below_drewN | apply below_drew1) | exact HB.out)) hb); have n3_ := Aside0.mk (hbox); have n4_ := Aside0.mk ((by rw [hg]; exact (below_size (by repeat (first | (with_reducible first | exact HB.out | apply below_alloc | apply pw_below_drewN | apply below_drew1) | exact HB.out))) : w.heap.size ≤ gb167)); have n5_ := Aside0.mk ((by rw [hg]; exact (below_size (by repeat (first | (with_reducible first | exact HB.out | apply below_alloc | apply pw_below_drewN | apply below_drew1) | exact HB.out))) : w.heap.size ≤ gb167)); clear HO_9; clear HO_10; clear HB; have HO_9 := n0_; have HO_10 := n1_; have HB := n2_; have BK167 := n3_; have GW167 := n4_; have GE167 := n5_; clear n0_ n1_ n2_ n3_ n4_ n5_; clear hb hbox hg; have hcz31_0 : w30.cell? ⟨gb167, 0, none⟩ = some (.int .u32 0) := (blk_cell BK167.out 0).trans rfl; have hcz31_1 : w30.cell? ⟨gb167, 1, none⟩ = some (.int .i64 0) := (blk_cell BK167.out 1).trans rfl; have hcz31_2 : w30.cell? ⟨gb167, 2, none⟩ = some (.int .i64 0) := (blk_cell BK167.out 2).trans rfl; have hfz31_0 := blk_frozen BK167.out 0; have hfz31_1 := blk_frozen BK167.out 1; have hfz31_2 := blk_frozen BK167.out 2))
                            have n0_ : Aside0 (Kd.R (Kd.int .i64) 3 (((w30.setCell ⟨gb167, 0, none⟩ (.int .u32 ((rd_T46 l1 x38_2).f0))).setCell ⟨gb167, 1, none⟩ (.int .i64 ((rd_T46 l1 x38_2).f1))).setCell ⟨gb167, 2, none⟩ (.int .i64 ((rd_T46 l1 x38_2).f2))) w.heap.size (fun k_ => some k_ ≠ (v164 : Value).ownBlock) v161 x9_2) := ⟨by (with_reducible repeat (first | apply Kd.R_alloc | apply Kd.R_drewN | apply Kd.R_drew)); exact Kd.R_mono (Kd.R_far (p := ⟨gb167, 2, none⟩) (Kd.R_far (p := ⟨gb167, 1, none⟩) (Kd.R_far (p := ⟨gb167, 0, none⟩) (Kd.R_types HO_9.out BK167.out (by decide)) (fun _ hk => hk.2) (.int .u32 ((rd_T46 l1 x38_2).f0))) (fun _ hk => hk.2) (.int .i64 ((rd_T46 l1 x38_2).f1))) (fun _ hk => hk.2) (.int .i64 ((rd_T46 l1 x38_2).f2))) (fun _ hk => hk.1)⟩
                            have n1_ : Aside0 (Kd.R (Kd.int .i64) 3 (((w30.setCell ⟨gb167, 0, none⟩ (.int .u32 ((rd_T46 l1 x38_2).f0))).setCell ⟨gb167, 1, none⟩ (.int .i64 ((rd_T46 l1 x38_2).f1))).setCell ⟨gb167, 2, none⟩ (.int .i64 ((rd_T46 l1 x38_2).f2))) w.heap.size (fun k_ => some k_ ≠ (v161 : Value).ownBlock) v164 x10_2) := ⟨by (with_reducible repeat (first | apply Kd.R_alloc | apply Kd.R_drewN | apply Kd.R_drew)); exact Kd.R_mono (Kd.R_far (p := ⟨gb167, 2, none⟩) (Kd.R_far (p := ⟨gb167, 1, none⟩) (Kd.R_far (p := ⟨gb167, 0, none⟩) (Kd.R_types HO_10.out BK167.out (by decide)) (fun _ hk => hk.2) (.int .u32 ((rd_T46 l1 x38_2).f0))) (fun _ hk => hk.2) (.int .i64 ((rd_T46 l1 x38_2).f1))) (fun _ hk => hk.2) (.int .i64 ((rd_T46 l1 x38_2).f2))) (fun _ hk => hk.1)⟩
                            have n2_ : Aside0 ((((w30.setCell ⟨gb167, 0, none⟩ (.int .u32 ((rd_T46 l1 x38_2).f0))).setCell ⟨gb167, 1, none⟩ (.int .i64 ((rd_T46 l1 x38_2).f1))).setCell ⟨gb167, 2, none⟩ (.int .i64 ((rd_T46 l1 x38_2).f2))).heap[gb167]? = some (.cells #[.int .u32 ((rd_T46 l1 x38_2).f0), .int .i64 ((rd_T46 l1 x38_2).f1), .int .i64 ((rd_T46 l1 x38_2).f2)] 46 (0, 0))) := ⟨by (with_reducible repeat (first | refine blk_drewN ?_ _ | refine blk_drew ?_ | refine blk_alloc ?_ _)); refine blk_put (cs := #[.int .u32 ((rd_T46 l1 x38_2).f0), .int .i64 ((rd_T46 l1 x38_2).f1), .int .i64 0]) ?_ 2 _ rfl; (with_reducible repeat (first | refine blk_drewN ?_ _ | refine blk_drew ?_ | refine blk_alloc ?_ _)); refine blk_put (cs := #[.int .u32 ((rd_T46 l1 x38_2).f0), .int .i64 0, .int .i64 0]) ?_ 1 _ rfl; (with_reducible repeat (first | refine blk_drewN ?_ _ | refine blk_drew ?_ | refine blk_alloc ?_ _)); refine blk_put (cs := #[.int .u32 0, .int .i64 0, .int .i64 0]) ?_ 0 _ rfl; (with_reducible repeat (first | refine blk_drewN ?_ _ | refine blk_drew ?_ | refine blk_alloc ?_ _)); exact BK167.out⟩
                            have n3_ : Aside0 (Below w.heap.size w (((w30.setCell ⟨gb167, 0, none⟩ (.int .u32 ((rd_T46 l1 x38_2).f0))).setCell ⟨gb167, 1, none⟩ (.int .i64 ((rd_T46 l1 x38_2).f1))).setCell ⟨gb167, 2, none⟩ (.int .i64 ((rd_T46 l1 x38_2).f2)))) := ⟨by repeat (first | (with_reducible first | exact HB.out | apply below_alloc | apply pw_below_drewN | apply below_drew1 | refine below_set ?_ GE167.out) | exact HB.out)⟩
                            (try clear HO_9)
                            (try clear HO_10)
                            (try clear BK167)
                            (try clear HB)
                            generalize (((w30.setCell ⟨gb167, 0, none⟩ (.int .u32 ((rd_T46 l1 x38_2).f0))).setCell ⟨gb167, 1, none⟩ (.int .i64 ((rd_T46 l1 x38_2).f1))).setCell ⟨gb167, 2, none⟩ (.int .i64 ((rd_T46 l1 x38_2).f2))) = w32 at n0_ n1_ n2_ n3_ ⊢
                            have HO_9 := n0_
                            have HO_10 := n1_
                            have BK167 := n2_
                            have HB := n3_
                            (try clear hX_)
                            have hX_ := (HB.out.cell (World.block_lt_of_cell? w _ HX1.out)).trans HX1.out
                            clear n0_ n1_ n2_ n3_
                            have n0_ := Aside0.mk (Kd.R_drew HO_9.out)
                            have n1_ := Aside0.mk (Kd.R_drew HO_10.out)
                            have n2_ := Aside0.mk (blk_drew BK167.out)
                            have n3_ := Aside0.mk (below_drew1 HB.out)
                            clear HO_9
                            clear HO_10
                            clear BK167
                            clear HB
                            have HO_9 := n0_
                            have HO_10 := n1_
                            have BK167 := n2_
                            have HB := n3_
                            (try clear hX_)
                            have hX_ := (HB.out.cell (World.block_lt_of_cell? w _ HX1.out)).trans HX1.out
                            clear n0_ n1_ n2_ n3_
                            refine start_ (n := 16) (S := fun w' => w'.cell? ⟨gb167, 0, none⟩ = some (.int .u32 ((rd_T46 l1 x38_2).f0)) ∧ w'.cell? ⟨gb167, 1, none⟩ = some (.int .i64 ((rd_T46 l1 x38_2).f1)) ∧ w'.cell? ⟨gb167, 2, none⟩ = some (.int .i64 ((rd_T46 l1 x38_2).f2))) (ds := [15]) #[false, false, false, false, false, false, false, false, false, false, false, false, false, false, false, false] (by kernel_rfl) rfl rfl ⟨(blk_cell BK167.out 0).trans rfl, (blk_cell BK167.out 1).trans rfl, (blk_cell BK167.out 2).trans rfl⟩ (fun hHeld => ?_); refine with_tabW purse_Split.tab12 purse_Split.bits12 (fun HT_ HW_ => ?_)
                            generalize w32.drew = w33 at HO_9 HO_10 BK167 HB hHeld ⊢
                            refine pure_ (i := 0) (N := some 43) (v := ?_) (a' := ?_) #[true, false, false, false, false, false, false, false, false, false, false, false, false, false, false, false] rfl rfl (any_of HT_.out (by kernel_rfl)) (fun _ _ _ h => h) (Or.inl ⟨by rfl, ?_⟩) ?_ ?_
                            rotate_left
                            · intro w'
                              go_simp
                              with_reducible rfl
                            rotate_left
                            · simp only [Act.put, List.setIfInBounds_toArray, List.set_cons_zero, List.set_cons_succ, i64_w, i32_w]
                              rfl
                            refine pure_ (i := 1) (N := some 44) (v := ?_) (a' := ?_) #[true, true, false, false, false, false, false, false, false, false, false, false, false, false, false, false] rfl rfl (any_of HT_.out (by kernel_rfl)) (fun _ _ _ h => h) (Or.inl ⟨by rfl, ?_⟩) ?_ ?_
                            rotate_left
                            · intro w'
                              go_simp
                              with_reducible rfl
                            rotate_left
                            · simp only [Act.put, List.setIfInBounds_toArray, List.set_cons_zero, List.set_cons_succ, i64_w, i32_w]
                              rfl
                            refine pure_ (i := 2) (N := some 45) (v := ?_) (a' := ?_) #[true, true, true, false, false, false, false, false, false, false, false, false, false, false, false, false] rfl rfl (any_of HT_.out (by kernel_rfl)) (fun _ _ _ h => h) (Or.inl ⟨by rfl, ?_⟩) ?_ ?_
                            rotate_left
                            · intro w'
                              go_simp
                              with_reducible rfl
                            rotate_left
                            · simp only [Act.put, List.setIfInBounds_toArray, List.set_cons_zero, List.set_cons_succ, i64_w, i32_w]
                              rfl
                            refine pure_ (i := 4) (N := some 47) (v := ?_) (a' := ?_) #[true, true, true, false, true, false, false, false, false, false, false, false, false, false, false, false] rfl rfl (any_of HT_.out (by kernel_rfl)) (fun _ _ _ h => h) (Or.inl ⟨by rfl, ?_⟩) ?_ ?_
                            rotate_left
                            · intro w'
                              go_simp
                              with_reducible rfl
                            rotate_left
                            · simp only [Act.put, List.setIfInBounds_toArray, List.set_cons_zero, List.set_cons_succ, i64_w, i32_w]
                              rfl
                            refine pure_ (i := 8) (N := some 51) (v := ?_) (a' := ?_) #[true, true, true, false, true, false, false, false, true, false, false, false, false, false, false, false] rfl rfl (any_of HT_.out (by kernel_rfl)) (fun _ _ _ h => h) (Or.inl ⟨by rfl, ?_⟩) ?_ ?_
                            rotate_left
                            · intro w'
                              go_simp
                              with_reducible rfl
                            rotate_left
                            · simp only [Act.put, List.setIfInBounds_toArray, List.set_cons_zero, List.set_cons_succ, i64_w, i32_w]
                              rfl
                            refine pure_ (i := 10) (N := some 53) (v := ?_) (a' := ?_) #[true, true, true, false, true, false, false, false, true, false, true, false, false, false, false, false] rfl rfl (any_of HT_.out (by kernel_rfl)) (fun _ _ _ h => h) (Or.inl ⟨by rfl, ?_⟩) ?_ ?_
                            rotate_left
                            · intro w'
                              go_simp
                              with_reducible rfl
                            rotate_left
                            · simp only [Act.put, List.setIfInBounds_toArray, List.set_cons_zero, List.set_cons_succ, i64_w, i32_w]
                              rfl
                            refine take_ (i := 5) (N := some 48) (v := ?_) (a' := ?_) #[true, true, true, false, true, true, false, false, true, false, true, false, false, false, false, false] rfl rfl (take_ofW HT_.out HW_.out (by kernel_rfl)) (fun _ _ _ h => h) (Or.inl ⟨by rfl, ?_⟩) hHeld ?_ ?_
                            rotate_left
                            · rintro w' ⟨s0, s1, s2⟩
                              go_simp
                              with_reducible rfl
                            rotate_left
                            · simp only [Act.put, List.setIfInBounds_toArray, List.set_cons_zero, List.set_cons_succ, i64_w, i32_w]
                              rfl
                            refine take_ (i := 11) (N := some 54) (v := ?_) (a' := ?_) #[true, true, true, false, true, true, false, false, true, false, true, true, false, false, false, false] rfl rfl (take_ofW HT_.out HW_.out (by kernel_rfl)) (fun _ _ _ h => h) (Or.inl ⟨by rfl, ?_⟩) hHeld ?_ ?_
                            rotate_left
                            · rintro w' ⟨s0, s1, s2⟩
                              go_simp
                              with_reducible rfl
                            rotate_left
                            · simp only [Act.put, List.setIfInBounds_toArray, List.set_cons_zero, List.set_cons_succ, i64_w, i32_w]
                              rfl
                            refine one_ (i := 3) (N := some 46) #[true, true, true, true, true, true, false, false, true, false, true, true, false, false, false, false] rfl rfl (one_of HT_.out (by kernel_rfl)) (by decide) (fun K hK => ?_)
                            refine goes_ Try.func27 (by kernel_rfl) rfl #[.int .i64 a0] (by rfl) rfl rfl (by (try simp only [List.map_toArray, List.map_cons, List.map_nil]); first | done | rfl | (simp only [List.length_drop, List.length_take]; rfl)) ?_
                            with_reducible refine (purse_clip.calls a0 t168 _ A21.out).mono ?_
                            rintro e w34 ⟨rfl, hb⟩
                            refine ⟨_, rfl, ?_⟩
                            have n0_ := Aside0.mk (Kd.R_below (by (with_reducible repeat (first | apply Kd.R_alloc | apply Kd.R_drewN | apply Kd.R_drew)); exact HO_9.out) hb)
                            have n1_ := Aside0.mk (Kd.R_below (by (with_reducible repeat (first | apply Kd.R_alloc | apply Kd.R_drewN | apply Kd.R_drew)); exact HO_10.out) hb)
                            have n2_ := Aside0.mk (blk_below (g := gb167) (o := .cells #[.int .u32 ((rd_T46 l1 x38_2).f0), .int .i64 ((rd_T46 l1 x38_2).f1), .int .i64 ((rd_T46 l1 x38_2).f2)] 46 (0, 0)) (by (with_reducible repeat (first | refine blk_drewN ?_ _ | refine blk_drew ?_ | refine blk_alloc ?_ _)); exact BK167.out) hb)
                            have n3_ := Aside0.mk (below_step (by repeat (first | (with_reducible first | exact HB.out | apply below_alloc | apply pw_below_drewN | apply below_drew1 | refine below_set ?_ GE167.out) | exact HB.out)) hb)
                            clear HO_9
                            clear HO_10
                            clear BK167
                            clear HB
                            have HO_9 := n0_
                            have HO_10 := n1_
                            have BK167 := n2_
                            have HB := n3_
                            (try clear hX_)
                            have hX_ := (HB.out.cell (World.block_lt_of_cell? w _ HX1.out)).trans HX1.out
                            clear n0_ n1_ n2_ n3_
                            (try clear hb)
                            (try clear hb2)
                            (try clear hk)
                            (try clear hi)
                            refine hK.out _ _ ⟨(blk_cell BK167.out 0).trans rfl, (blk_cell BK167.out 1).trans rfl, (blk_cell BK167.out 2).trans rfl⟩ (fun hHeld => ?_)
                            clear hK K
                            refine norm_ (a' := ?_) ?_ ?_
                            rotate_left
                            · show Act.put _ (some 46) _ = _
                              simp only [Act.put, List.setIfInBounds_toArray, List.set_cons_zero, List.set_cons_succ, i64_w, i32_w]
                              rfl
                            refine one_ (i := 6) (N := some 49) #[true, true, true, true, true, true, true, false, true, false, true, true, false, false, false, false] rfl rfl (one_of HT_.out (by kernel_rfl)) (by decide) (fun K hK => ?_)
                            refine goes_ Try.func28 (by kernel_rfl) rfl #[.int .i64 ((rd_T46 l1 x38_2).f1)] (by rfl) rfl rfl (by (try simp only [List.map_toArray, List.map_cons, List.map_nil]); first | done | rfl | (simp only [List.length_drop, List.length_take]; rfl)) ?_
                            with_reducible refine (purse_weight.calls ((rd_T46 l1 x38_2).f1) t169 _ A22.out).mono ?_
                            rintro e w35 ⟨rfl, hb⟩
                            refine ⟨_, rfl, ?_⟩
                            have n0_ := Aside0.mk (Kd.R_below (by (with_reducible repeat (first | apply Kd.R_alloc | apply Kd.R_drewN | apply Kd.R_drew)); exact HO_9.out) hb)
                            have n1_ := Aside0.mk (Kd.R_below (by (with_reducible repeat (first | apply Kd.R_alloc | apply Kd.R_drewN | apply Kd.R_drew)); exact HO_10.out) hb)
                            have n2_ := Aside0.mk (blk_below (g := gb167) (o := .cells #[.int .u32 ((rd_T46 l1 x38_2).f0), .int .i64 ((rd_T46 l1 x38_2).f1), .int .i64 ((rd_T46 l1 x38_2).f2)] 46 (0, 0)) (by (with_reducible repeat (first | refine blk_drewN ?_ _ | refine blk_drew ?_ | refine blk_alloc ?_ _)); exact BK167.out) hb)
                            have n3_ := Aside0.mk (below_step (by repeat (first | (with_reducible first | exact HB.out | apply below_alloc | apply pw_below_drewN | apply below_drew1 | refine below_set ?_ GE167.out) | exact HB.out)) hb)
                            clear HO_9
                            clear HO_10
                            clear BK167
                            clear HB
                            have HO_9 := n0_
                            have HO_10 := n1_
                            have BK167 := n2_
                            have HB := n3_
                            (try clear hX_)
                            have hX_ := (HB.out.cell (World.block_lt_of_cell? w _ HX1.out)).trans HX1.out
                            clear n0_ n1_ n2_ n3_
                            (try clear hb)
                            (try clear hb2)
                            (try clear hk)
                            (try clear hi)
                            refine hK.out _ _ ⟨(blk_cell BK167.out 0).trans rfl, (blk_cell BK167.out 1).trans rfl, (blk_cell BK167.out 2).trans rfl⟩ (fun hHeld => ?_)
                            clear hK K
                            refine norm_ (a' := ?_) ?_ ?_
                            rotate_left
                            · show Act.put _ (some 49) _ = _
                              simp only [Act.put, List.setIfInBounds_toArray, List.set_cons_zero, List.set_cons_succ, i64_w, i32_w]
                              rfl
                            refine pure_ (i := 7) (N := some 50) (v := ?_) (a' := ?_) #[true, true, true, true, true, true, true, true, true, false, true, true, false, false, false, false] rfl rfl (any_of HT_.out (by kernel_rfl)) (fun _ _ _ h => h) (Or.inl ⟨by rfl, ?_⟩) ?_ ?_
                            rotate_left
                            · intro w'
                              go_simp
                              with_reducible rfl
                            rotate_left
                            · simp only [Act.put, List.setIfInBounds_toArray, List.set_cons_zero, List.set_cons_succ, i64_w, i32_w]
                              rfl
                            refine pure_ (i := 9) (N := some 52) (v := ?_) (a' := ?_) #[true, true, true, true, true, true, true, true, true, true, true, true, false, false, false, false] rfl rfl (any_of HT_.out (by kernel_rfl)) (fun _ _ _ h => h) (Or.inl ⟨by rfl, ?_⟩) ?_ ?_
                            rotate_left
                            · intro w'
                              go_simp
                              with_reducible rfl
                            rotate_left
                            · simp only [Act.put, List.setIfInBounds_toArray, List.set_cons_zero, List.set_cons_succ, i64_w, i32_w]
                              rfl
                            refine one_ (i := 12) (N := some 55) #[true, true, true, true, true, true, true, true, true, true, true, true, true, false, false, false] rfl rfl (one_of HT_.out (by kernel_rfl)) (by decide) (fun K hK => ?_)
                            refine goes_ Try.func27 (by kernel_rfl) rfl #[.int .i64 ((rd_T46 l1 x38_2).f2)] (by rfl) rfl rfl (by (try simp only [List.map_toArray, List.map_cons, List.map_nil]); first | done | rfl | (simp only [List.length_drop, List.length_take]; rfl)) ?_
                            with_reducible refine (purse_clip.calls ((rd_T46 l1 x38_2).f2) t170 _ A24.out).mono ?_
                            rintro e w36 ⟨rfl, hb⟩
                            refine ⟨_, rfl, ?_⟩
                            have n0_ := Aside0.mk (Kd.R_below (by (with_reducible repeat (first | apply Kd.R_alloc | apply Kd.R_drewN | apply Kd.R_drew)); exact HO_9.out) hb)
                            have n1_ := Aside0.mk (Kd.R_below (by (with_reducible repeat (first | apply Kd.R_alloc | apply Kd.R_drewN | apply Kd.R_drew)); exact HO_10.out) hb)
                            have n2_ := Aside0.mk (blk_below (g := gb167) (o := .cells #[.int .u32 ((rd_T46 l1 x38_2).f0), .int .i64 ((rd_T46 l1 x38_2).f1), .int .i64 ((rd_T46 l1 x38_2).f2)] 46 (0, 0)) (by (with_reducible repeat (first | refine blk_drewN ?_ _ | refine blk_drew ?_ | refine blk_alloc ?_ _)); exact BK167.out) hb)
                            have n3_ := Aside0.mk (below_step (by repeat (first | (with_reducible first | exact HB.out | apply below_alloc | apply pw_below_drewN | apply below_drew1 | refine below_set ?_ GE167.out) | exact HB.out)) hb)
                            clear HO_9
                            clear HO_10
                            clear BK167
                            clear HB
                            have HO_9 := n0_
                            have HO_10 := n1_
                            have BK167 := n2_
                            have HB := n3_
                            (try clear hX_)
                            have hX_ := (HB.out.cell (World.block_lt_of_cell? w _ HX1.out)).trans HX1.out
                            clear n0_ n1_ n2_ n3_
                            (try clear hb)
                            (try clear hb2)
                            (try clear hk)
                            (try clear hi)
                            have p27 : 0 ≤ (x38_2 : Int) := of_decide_eq_true (by first | (with_reducible assumption) | assumption)
                            have q27 : (x38_2 : Int) < ((x9_2.length : Int) : Int) := of_decide_eq_true (by first | (with_reducible assumption) | assumption)
                            obtain ⟨go27, co27, eo27, gb27, gl27, cl27, HG27⟩ := Kd.R_form HO_9.out (by omega)
                            (first | cases eo27 | (injection eo27 with ea_ en_ ec_; (first | subst ea_ | (injection ea_ with ea_; subst ea_)); subst ec_; clear en_))
                            have GB27 := Aside0.mk gb27
                            have GG27 := Aside0.mk HG27
                            clear gb27 gl27 HG27
                            obtain ⟨hx27_0, hf27_0⟩ := Kd.R_celln 0 HO_9.out (x38_2 : Int) p27 q27
                            replace p27 := eq_true p27
                            replace q27 := eq_true q27
                            have HP37 := Kd.R_putn HO_9.out (x38_2 : Int) ji25
                            rw [← Ny171.out] at HP37
                            have HQ37 := Aside0.mk HP37
                            clear HP37
                            refine hK.out _ _ ⟨(blk_cell BK167.out 0).trans rfl, (blk_cell BK167.out 1).trans rfl, (blk_cell BK167.out 2).trans rfl⟩ (fun hHeld => ?_)
                            clear hK K
                            refine norm_ (a' := ?_) ?_ ?_
                            rotate_left
                            · show Act.put _ (some 55) _ = _
                              simp only [Act.put, List.setIfInBounds_toArray, List.set_cons_zero, List.set_cons_succ, i64_w, i32_w]
                              rfl
                            refine pure_ (i := 13) (N := some 56) (v := ?_) (a' := ?_) #[true, true, true, true, true, true, true, true, true, true, true, true, true, true, false, false] rfl rfl (any_of HT_.out (by kernel_rfl)) (fun _ _ _ h => h) (Or.inl ⟨by rfl, ?_⟩) ?_ ?_
                            rotate_left
                            · intro w'
                              go_simp
                              with_reducible rfl
                            rotate_left
                            · simp only [Act.put, List.setIfInBounds_toArray, List.set_cons_zero, List.set_cons_succ, i64_w, i32_w]
                              rfl
                            refine pure_ (i := 14) (N := some 57) (v := ?_) (a' := ?_) #[true, true, true, true, true, true, true, true, true, true, true, true, true, true, true, false] rfl rfl (any_of HT_.out (by kernel_rfl)) (fun _ _ _ h => h) (Or.inl ⟨by rfl, ?_⟩) ?_ ?_
                            rotate_left
                            · intro w'
                              go_simp
                              with_reducible rfl
                            rotate_left
                            · simp only [Act.put, List.setIfInBounds_toArray, List.set_cons_zero, List.set_cons_succ, i64_w, i32_w]
                              rfl
                            refine last_ (i := 15) (N := none) #[true, true, true, true, true, true, true, true, true, true, true, true, true, true, true, true] rfl rfl (one_of HT_.out (by kernel_rfl)) (by decide) (fun K hK => ?_)
                            refine skip_ (w1 := ?_) (by rfl) rfl ?_ ?_
                            rotate_left
                            · go_simp
                              rfl
                            refine hK.out _ _ ?_
                            clear hK K
                            refine done_ (done_of HT_.out (by kernel_rfl)) ?_
                            have n0_ : Aside0 (Kd.R (Kd.int .i64) 3 (w36.setCell ⟨go27, (x38_2 : Int).toNat, none⟩ (.int .i64 ji25)) w.heap.size (fun k_ => some k_ ≠ (v164 : Value).ownBlock) (.slice (some ⟨go27, 0, none⟩) x9_2.length co27) y171) := ⟨by (with_reducible repeat (first | apply Kd.R_alloc | apply Kd.R_drewN | apply Kd.R_drew)); exact HQ37.out⟩
                            have n1_ : Aside0 (Kd.R (Kd.int .i64) 3 (w36.setCell ⟨go27, (x38_2 : Int).toNat, none⟩ (.int .i64 ji25)) w.heap.size (fun k_ => some k_ ≠ (.slice (some ⟨go27, 0, none⟩) x9_2.length co27 : Value).ownBlock) v164 x10_2) := ⟨by (with_reducible repeat (first | apply Kd.R_alloc | apply Kd.R_drewN | apply Kd.R_drew)); exact Kd.R_mono (Kd.R_far (p := ⟨go27, (x38_2 : Int).toNat, none⟩) (Kd.R_mono HO_10.out (fun k_ hk => (⟨hk, fun e_ => hk (by rw [e_]; rfl)⟩ : _ ∧ k_ ≠ go27))) (fun _ hk => hk.2) (.int .i64 ji25)) (fun _ hk => hk.1)⟩
                            have n2_ : Aside0 ((w36.setCell ⟨go27, (x38_2 : Int).toNat, none⟩ (.int .i64 ji25)).heap[gb167]? = some (.cells #[.int .u32 ((rd_T46 l1 x38_2).f0), .int .i64 ((rd_T46 l1 x38_2).f1), .int .i64 ((rd_T46 l1 x38_2).f2)] 46 (0, 0))) := ⟨by (with_reducible repeat (first | refine blk_drewN ?_ _ | refine blk_drew ?_ | refine blk_alloc ?_ _)); refine blk_far ?_ (by have h_ := Kd.R_ne HO_9.out BK167.out (by decide); intro e_; exact h_ (by rw [e_]; rfl)) _; (with_reducible repeat (first | refine blk_drewN ?_ _ | refine blk_drew ?_ | refine blk_alloc ?_ _)); exact BK167.out⟩
                            have n3_ : Aside0 (Below w.heap.size w (w36.setCell ⟨go27, (x38_2 : Int).toNat, none⟩ (.int .i64 ji25))) := ⟨by repeat (first | (with_reducible first | exact HB.out | apply below_alloc | apply pw_below_drewN | apply below_drew1 | refine below_set ?_ GB27.out | refine below_set ?_ GE167.out) | exact HB.out)⟩
                            (try clear HO_9)
                            (try clear HO_10)
                            (try clear BK167)
                            (try clear HB)
                            generalize (w36.setCell ⟨go27, (x38_2 : Int).toNat, none⟩ (.int .i64 ji25)) = w38 at n0_ n1_ n2_ n3_ ⊢
                            have HO_9 := n0_
                            have HO_10 := n1_
                            have BK167 := n2_
                            have HB := n3_
                            (try clear hX_)
                            have hX_ := (HB.out.cell (World.block_lt_of_cell? w _ HX1.out)).trans HX1.out
                            clear n0_ n1_ n2_ n3_
                            have p172 : 0 ≤ (x38_2 : Int) := of_decide_eq_true (by first | (with_reducible assumption) | assumption)
                            have q172 : x38_2 < (y171.length : Int) := (by have h_ : (x38_2 : Int) < ((x9_2.length : Int) : Int) := of_decide_eq_true (by first | (with_reducible assumption) | assumption); first | (have e_ := (Kd.R_reads' HO_9.out).1; omega) | simpa only [Ny171.out, List.length_set] using h_)
                            have ql172 : ((x38_2 : Int) < ((x9_2.length : Int) : Int)) = True := eq_true (of_decide_eq_true (by first | (with_reducible assumption) | assumption))
                            obtain ⟨ad172, e172, hx172_0⟩ := Kd.at_int (Kd.R_reads' HO_9.out).2.2 x38_2 p172 q172
                            obtain rfl : (⟨go27, 0, none⟩ : Addr) = ad172 := (by injection e172)
                            (first | simp only [add_plain] at hx172_0 | simp only [add_at] at hx172_0 | simp only [Addr.add, Nat.zero_add] at hx172_0 | skip)
                            replace p172 := eq_true p172
                            replace q172 := eq_true q172
                            have p29 : 0 ≤ (x38_2 : Int) := of_decide_eq_true (by first | (with_reducible assumption) | assumption)
                            have q29 : (x38_2 : Int) < ((x10_2.length : Int) : Int) := of_decide_eq_true (by first | (with_reducible assumption) | assumption)
                            obtain ⟨go29, co29, eo29, gb29, gl29, cl29, HG29⟩ := Kd.R_form HO_10.out (by omega)
                            (first | cases eo29 | (injection eo29 with ea_ en_ ec_; (first | subst ea_ | (injection ea_ with ea_; subst ea_)); subst ec_; clear en_))
                            have GB29 := Aside0.mk gb29
                            have GG29 := Aside0.mk HG29
                            clear gb29 gl29 HG29
                            obtain ⟨hx29_0, hf29_0⟩ := Kd.R_celln 0 HO_10.out (x38_2 : Int) p29 q29
                            replace p29 := eq_true p29
                            replace q29 := eq_true q29
                            obtain ⟨hy39_, hz39_⟩ := Kd.R_celln 0 HO_10.out (x38_2 : Int) (of_decide_eq_true (by first | (with_reducible assumption) | assumption)) (of_decide_eq_true (by first | (with_reducible assumption) | assumption))
                            have HP39 := Kd.R_putg HO_10.out (x38_2 : Int) x38_2
                            try go_wp2_with (first | ((with_reducible refine gate_store (t := 3) (p := 67) rfl ?_); refine store_event (t := 3) (p := 67) (v := ?vo_w40) (w1 := (w38.setCell ⟨go29, (x38_2 : Int).toNat, none⟩ (.int .i64 x38_2))) ?hg ?ho ?hn ?hr ?_; (case ho => rfl); (case hg => rfl); (case hn => rfl); (case hr => first | (go_simp; done) | (go_simp; rfl)); intro w40 hw; have hg : w38.grownBy w40 (some go29) := (by rw [hw]; exact HP39.2); have hp_ : Kd.R (Kd.int .i64) 3 w40 w.heap.size (fun k_ => some k_ ≠ (.slice (some ⟨go27, 0, none⟩) x9_2.length co27 : Value).ownBlock) (.slice (some ⟨go29, 0, none⟩) x10_2.length co29) y173 := (by rw [hw, Ny173.out]; exact HP39.1); clear HP39; have n0_ := Aside0.mk (Kd.R_after (v := (.slice (some ⟨go29, 0, none⟩) x10_2.length co29)) (v1 := (.slice (some ⟨go29, 0, none⟩) x10_2.length co29)) (ok := (fun _ => True)) (by (with_reducible repeat (first | apply Kd.R_alloc | apply Kd.R_drewN | apply Kd.R_drew)); exact Kd.R_mono HO_9.out (fun _ hk => ⟨trivial, hk⟩)) hg (.inl rfl)); have n1_ := Aside0.mk (hp_); have n2_ := Aside0.mk (blk_grown (g := gb167) (o := .cells #[.int .u32 ((rd_T46 l1 x38_2).f0), .int .i64 ((rd_T46 l1 x38_2).f1), .int .i64 ((rd_T46 l1 x38_2).f2)] 46 (0, 0)) (by (with_reducible repeat (first | refine blk_drewN ?_ _ | refine blk_drew ?_ | refine blk_alloc ?_ _)); exact BK167.out) hg (Kd.R_ne HO_10.out BK167.out (by decide))); have n3_ := Aside0.mk ((by rw [hw]; exact below_set (HB.out) GB29.out : Below w.heap.size w w40)); clear HO_9; clear HO_10; clear BK167; clear HB; have HO_9 := n0_; have HO_10 := n1_; have BK167 := n2_; have HB := n3_; clear n0_ n1_ n2_ n3_; (try clear hX_); have hX_ := (HB.out.cell (World.block_lt_of_cell? w _ HX1.out)).trans HX1.out; clear hg hw hp_))
                            go_roundg k2
                            case measure => have := HK1.out; have := HK2.out; omega
                            case rel => exact ⟨(wrap64 (x5_2 - (rd y171 x38_2))), (y171), (y173), (wrap64 (x38_2 + 1)), (by first | rfl | (simp; done) | (simp [*]; done)), (by first | rfl | (simp; done) | (simp [*]; done)), H', ⟨by have := HK1.out; have := HK2.out; omega⟩, ⟨by (with_reducible repeat (first | apply Kd.R_alloc | apply Kd.R_drewN | apply Kd.R_drew)); exact Kd.R_mono HO_9.out (fun _ hk => hk.2)⟩, ⟨by (with_reducible repeat (first | apply Kd.R_alloc | apply Kd.R_drewN | apply Kd.R_drew)); exact HO_10.out⟩, ⟨by repeat (first | (with_reducible first | exact HB.out | apply below_alloc | apply pw_below_drewN | apply below_drew1 | refine below_set ?_ GE167.out) | exact HB.out)⟩⟩
                          · rw [if_neg c28] at H
                            exact absurd H (by simp)
                        · rw [if_neg c26] at H
                          exact absurd H (by simp)
                    · rw [if_neg c20] at H
                      exact absurd H (by simp)
                  · rw [if_neg c19] at H
                    exact absurd H (by simp)
                · rw [if_neg c18] at H
                  have c18b0 : decide (x38_2 < (l1.length : Int)) = false := decide_eq_false c18
                  clear c18
                  replace H := Option.bind_eq_some_iff.mp H
                  obtain ⟨t174, A410, H⟩ := H
                  replace H : (purse_Split.l2 k2 l1 x5_2 x9_2 t174 (x10_2.length : Int) 0) = some r := H
                  have A41 := Aside0.mk A410
                  clear A410
                  have H' := Aside0.mk H
                  clear H
                  obtain ⟨Ao42, co42, eo42⟩ := Kd.R_slice HO_10.out
                  subst eo42
                  go_wp2_with (first | ((with_reducible refine gate_callee (f := 29) rfl ?_); refine goesL_ (some 71) rfl rfl Try.func29 (by kernel_rfl) rfl #[.slice Ao42 x10_2.length co42, .func (.func 30) #[] #[.pointer (some ⟨g1, 0, none⟩)]] rfl (by (try simp only [List.map_toArray, List.map_cons, List.map_nil]); first | done | rfl | (simp only [List.length_drop, List.length_take]; rfl)) ?_; (with_reducible refine (slices_SortStableFunc_int_int.calls k2 (fun k_ => some k_ = (.slice Ao42 x10_2.length co42 : Value).ownBlock) (.slice Ao42 x10_2.length co42) x10_2 A1 c1 g1 l1 t174 w _ ?side1 ?side2 ?side3 ?side4 ?side5 A41.out).mono ?_); (case side1 => repeat (first | (with_reducible first | exact HB.out | apply below_alloc | apply pw_below_drewN | apply below_drew1) | exact HB.out)); (case side2 => exact Kd.R_tight rfl HO_10.out); (case side3 => exact Kd.C_kept_came k46_heap HR1.out (by repeat (first | (with_reducible first | exact HB.out | apply below_alloc | apply pw_below_drewN | apply below_drew1) | exact HB.out)) (fun k_ hs_ => (fun e_ => Kd.R_base HO_10.out k_ e_.symm) hs_)); (case side4 => exact HC1.out); (case side5 => exact cell_came HX1.out (by repeat (first | (with_reducible first | exact HB.out | apply below_alloc | apply pw_below_drewN | apply below_drew1) | exact HB.out)) (fun k_ hs_ => (fun e_ => Kd.R_base HO_10.out k_ e_.symm) hs_)); rintro e w43 ⟨rfl, hy0, hb, hkp⟩; refine ⟨_, rfl, ?_⟩; have n0_ := Aside0.mk (Kd.R_mono (ok' := fun k_ => some k_ ≠ (.slice Ao42 x10_2.length co42 : Value).ownBlock) (Kd.R_keptB (HO_9.out) hkp (fun k_ hk_ hs_ => (hk_) hs_)) (fun k_ hk_ => hk_.1)); have n1_ := Aside0.mk (Kd.R_reok rfl hy0 (fun k_ e_ => HO_10.out.1 k_ e_)); have n2_ := Aside0.mk (hb); clear HO_9; clear HO_10; clear HB; have HO_9 := n0_; have HO_10 := n1_; have HB := n2_; clear n0_ n1_ n2_; (try clear hX_); have hX_ := (HB.out.cell (World.block_lt_of_cell? w _ HX1.out)).trans HX1.out; (try clear hb); (try clear hkp); (try clear hy0)))
                  (try simp only [Act.put, List.setIfInBounds_toArray, List.set_cons_zero, List.set_cons_succ])
                  go_loopg [5, 74] k2 (fun kq v5 v74 w' => ∃ (x5_3 : Int) (x9_3 : List Int) (x74_3 : Int), v5 = .int .i64 x5_3 ∧ v74 = .int .i64 x74_3 ∧ Aside0 (purse_Split.l2 kq l1 x5_3 x9_3 t174 (x10_2.length : Int) x74_3 = some r) ∧ Aside0 (kq ≤ k2) ∧ Aside0 (Kd.R (Kd.int .i64) 3 w' w.heap.size (fun k_ => some k_ ≠ ((.slice Ao42 x10_2.length co42) : Value).ownBlock) v161 x9_3) ∧ Aside0 (Kd.R (Kd.int .i64) 3 w' w.heap.size (fun k_ => some k_ ≠ (v161 : Value).ownBlock) (.slice Ao42 x10_2.length co42) t174) ∧ Aside0 (Below w.heap.size w w'))
                  case atStart => exact ⟨(x5_2), (x9_2), (0), (by first | rfl | (simp; done) | (simp [*]; done)), (by first | rfl | (simp; done) | (simp [*]; done)), H', ⟨Nat.le_refl _⟩, ⟨by (with_reducible repeat (first | apply Kd.R_alloc | apply Kd.R_drewN | apply Kd.R_drew)); exact HO_9.out⟩, ⟨by (with_reducible repeat (first | apply Kd.R_alloc | apply Kd.R_drewN | apply Kd.R_drew)); exact HO_10.out⟩, ⟨by repeat (first | (with_reducible first | exact HB.out | apply below_alloc | apply pw_below_drewN | apply below_drew1) | exact HB.out)⟩⟩
                  case round =>
                    clear H'
                    try clear c1
                    try clear p1
                    try clear q1
                    try clear hx1
                    try clear c2
                    try clear p2
                    try clear q2
                    try clear hx2
                    try clear hf2
                    try clear c5
                    try clear c5b0
                    try clear c6
                    try clear c6b0
                    try clear p6
                    try clear c7
                    try clear c7b0
                    try clear c12
                    try clear c12b0
                    try clear c12b1
                    try clear c13
                    try clear c13b0
                    try clear c13b1
                    try clear p15
                    try clear q15
                    try clear hx15
                    try clear p16
                    try clear q16
                    try clear hx16
                    try clear p17
                    try clear q17
                    try clear hx17
                    try clear c18
                    try clear c18b0
                    try clear c19
                    try clear c19b0
                    try clear c20
                    try clear c20b0
                    try clear c23
                    try clear c23b0
                    try clear c23b1
                    try clear c24
                    try clear c26
                    try clear c26b0
                    try clear c27
                    try clear p27
                    try clear q27
                    try clear hx27
                    try clear hf27
                    try clear c28
                    try clear c28b0
                    try clear c29
                    try clear p29
                    try clear q29
                    try clear hx29
                    try clear hf29
                    try clear hcz10_0
                    try clear hcz10_1
                    try clear hcz10_2
                    try clear hcz31_0
                    try clear hcz31_1
                    try clear hcz31_2
                    try clear hfz10_0
                    try clear hfz10_1
                    try clear hfz10_2
                    try clear hfz31_0
                    try clear hfz31_1
                    try clear hfz31_2
                    try clear hx157_0
                    try clear hx157_1
                    try clear hx157_2
                    try clear hx166_0
                    try clear hx166_1
                    try clear hx166_2
                    try clear hx172_0
                    try clear hx27_0
                    try clear hx29_0
                    try clear p1
                    try clear p15
                    try clear p157
                    try clear p166
                    try clear p172
                    try clear p2
                    try clear p27
                    try clear p29
                    try clear p6
                    try clear q1
                    try clear q15
                    try clear q157
                    try clear q166
                    try clear q172
                    try clear q27
                    try clear q29
                    obtain ⟨x5_3, x9_3, x74_3, rfl, rfl, HA, HK3, HO_9, HO_72, HB⟩ := hrel
                    (try clear hX_)
                    have hX_ := (HB.out.cell (World.block_lt_of_cell? w _ HX1.out)).trans HX1.out
                    have hl72_3 := (Kd.R_reads' HO_72.out).1
                    rw [hl72_3] at HO_72
                    (try simp only [hl72_3])
                    (try simp only [hl72_3] at HO_9)
                    cases gk with
                    | zero => exact absurd HA.out (by simp [purse_Split.l2])
                    | succ k3 =>
                      have H := HA.out
                      clear HA
                      simp only [purse_Split.l2] at H
                      by_cases c44 : x74_3 < (x10_2.length : Int)
                      · rw [if_pos c44] at H
                        have c44b0 : decide (x74_3 < (x10_2.length : Int)) = true := decide_eq_true c44
                        clear c44
                        by_cases c45 : 0 ≤ x74_3
                        · rw [if_pos c45] at H
                          have c45b0 : decide (0 ≤ x74_3) = true := decide_eq_true c45
                          clear c45
                          by_cases c46 : x74_3 < (t174.length : Int)
                          · rw [if_pos c46] at H
                            have c46b0 : decide (x74_3 < (t174.length : Int)) = true := decide_eq_true c46
                            clear c46
                            by_cases c47 : 0 ≤ (rd t174 x74_3)
                            · rw [if_pos c47] at H
                              have c47b0 : decide (0 ≤ (rd t174 x74_3)) = true := decide_eq_true c47
                              clear c47
                              by_cases c48 : (rd t174 x74_3) < (l1.length : Int)
                              · rw [if_pos c48] at H
                                have c48b0 : decide ((rd t174 x74_3) < (l1.length : Int)) = true := decide_eq_true c48
                                clear c48
                                replace H := Option.bind_eq_some_iff.mp H
                                obtain ⟨t177, A490, H⟩ := H
                                replace H : (if (rd t174 x74_3) < (x9_3.length : Int) then (purse_Split.l2 k3 l1 (wrap64 (x5_3 - (mn (wrap64 (t177 - (rd x9_3 (rd t174 x74_3)))) x5_3))) (x9_3.set ((rd t174 x74_3) : Int).toNat (wrap64 ((rd x9_3 (rd t174 x74_3)) + (mn (wrap64 (t177 - (rd x9_3 (rd t174 x74_3)))) x5_3)))) t174 (x10_2.length : Int) (wrap64 (x74_3 + 1))) else (none)) = some r := H
                                have A49 := Aside0.mk A490
                                clear A490
                                by_cases c50 : (rd t174 x74_3) < (x9_3.length : Int)
                                · rw [if_pos c50] at H
                                  have c50b0 : decide ((rd t174 x74_3) < (x9_3.length : Int)) = true := decide_eq_true c50
                                  clear c50
                                  obtain ⟨ji51, hji51⟩ : ∃ j_ : Int, (mn (wrap64 (t177 - (rd x9_3 (rd t174 x74_3)))) x5_3) = j_ := ⟨_, rfl⟩
                                  replace H : (purse_Split.l2 k3 l1 (wrap64 (x5_3 - (ji51))) (x9_3.set ((rd t174 x74_3) : Int).toNat (wrap64 ((rd x9_3 (rd t174 x74_3)) + (ji51)))) t174 (x10_2.length : Int) (wrap64 (x74_3 + 1))) = some r := by first | (rw [hji51] at H; exact H) | (simp only [hji51] at H ⊢; exact H)
                                  (try rw [hji51] at A49)
                                  have hji51_ : (if x5_3 < (wrap64 (t177 - (rd x9_3 (rd t174 x74_3)))) then x5_3 else (wrap64 (t177 - (rd x9_3 (rd t174 x74_3))))) = ji51 := hji51
                                  obtain ⟨y180, hy180⟩ : ∃ y_ : List Int, y_ = (x9_3.set ((rd t174 x74_3) : Int).toNat (wrap64 ((rd x9_3 (rd t174 x74_3)) + (ji51)))) := ⟨_, rfl⟩
                                  replace H : (purse_Split.l2 k3 l1 (wrap64 (x5_3 - (ji51))) y180 t174 (x10_2.length : Int) (wrap64 (x74_3 + 1))) = some r := by first | (rw [hy180]; with_reducible exact H) | (have H2_ := (Option.bind_some _ _).symm.trans H; rw [hy180]; with_reducible exact H2_) | (have H2_ := (Option.bind_some _ _).symm.trans H; with_reducible exact H2_) | with_reducible exact H | (rw [hy180]; exact H) | exact H
                                  have Ny180 := Aside0.mk hy180
                                  clear hy180
                                  have H' := Aside0.mk H
                                  clear H
                                  have p175 : 0 ≤ (x74_3 : Int) := of_decide_eq_true (by first | (with_reducible assumption) | assumption)
                                  have q175 : x74_3 < (t174.length : Int) := of_decide_eq_true (by first | (with_reducible assumption) | assumption)
                                  obtain ⟨ad175, e175, hx175_0⟩ := Kd.at_int (Kd.R_reads' HO_72.out).2.2 x74_3 p175 q175
                                  cases e175
                                  replace p175 := eq_true p175
                                  replace q175 := eq_true q175
                                  try go_wp2
                                  have n0_ := Aside0.mk (Kd.R_drew HO_9.out)
                                  have n1_ := Aside0.mk (Kd.R_drew HO_72.out)
                                  have n2_ := Aside0.mk (below_drew1 HB.out)
                                  clear HO_9
                                  clear HO_72
                                  clear HB
                                  have HO_9 := n0_
                                  have HO_72 := n1_
                                  have HB := n2_
                                  (try clear hX_)
                                  have hX_ := (HB.out.cell (World.block_lt_of_cell? w _ HX1.out)).trans HX1.out
                                  clear n0_ n1_ n2_
                                  have p176 : 0 ≤ ((rd t174 x74_3) : Int) := of_decide_eq_true (by first | (with_reducible assumption) | assumption)
                                  have q176 : (rd t174 x74_3) < (l1.length : Int) := of_decide_eq_true (by first | (with_reducible assumption) | assumption)
                                  obtain ⟨ad176, e176, hx176_0, hx176_1, hx176_2⟩ := at_T46 HR1.out (rd t174 x74_3) p176 q176
                                  have hw176_2 := hx176_2
                                  have hw176_1 := hx176_1
                                  have hw176_0 := hx176_0
                                  cases e176
                                  replace hx176_0 := (HB.out.cell (World.block_lt_of_cell? w _ hx176_0)).trans hx176_0
                                  replace hx176_1 := (HB.out.cell (World.block_lt_of_cell? w _ hx176_1)).trans hx176_1
                                  replace hx176_2 := (HB.out.cell (World.block_lt_of_cell? w _ hx176_2)).trans hx176_2
                                  replace p176 := eq_true p176
                                  replace q176 := eq_true q176
                                  obtain ⟨Ao54, co54, eo54⟩ := Kd.R_slice HO_9.out
                                  (first | subst eo54 | (injection eo54 with f1_ f2_ f3_; have f4_ := f1_.symm; have f5_ := f3_.symm; clear f1_ f2_ f3_; subst f4_; subst f5_))
                                  have p178 : 0 ≤ ((rd t174 x74_3) : Int) := of_decide_eq_true (by first | (with_reducible assumption) | assumption)
                                  have q178 : (rd t174 x74_3) < (x9_3.length : Int) := of_decide_eq_true (by first | (with_reducible assumption) | assumption)
                                  obtain ⟨ad178, e178, hx178_0⟩ := Kd.at_int (Kd.R_reads' HO_9.out).2.2 (rd t174 x74_3) p178 q178
                                  cases e178
                                  replace p178 := eq_true p178
                                  replace q178 := eq_true q178
                                  refine start_ (n := 14) (S := fun w' => w'.cell? ⟨g1, 0, none⟩ = some (.slice (some ad176) l1.length c1) ∧ w'.cell? (ad176.add (((rd t174 x74_3)).toNat * 3)) = some (.int .u32 ((rd_T46 l1 (rd t174 x74_3)).f0)) ∧ w'.cell? ⟨(ad176.add (((rd t174 x74_3)).toNat * 3)).block, (ad176.add (((rd t174 x74_3)).toNat * 3)).off + 1, none⟩ = some (.int .i64 ((rd_T46 l1 (rd t174 x74_3)).f1)) ∧ w'.cell? ⟨(ad176.add (((rd t174 x74_3)).toNat * 3)).block, (ad176.add (((rd t174 x74_3)).toNat * 3)).off + 2, none⟩ = some (.int .i64 ((rd_T46 l1 (rd t174 x74_3)).f2)) ∧ w'.cell? (ad178.add ((rd t174 x74_3)).toNat) = some (.int .i64 (rd x9_3 (rd t174 x74_3)))) (ds := []) #[false, false, false, false, false, false, false, false, false, false, false, false, false, false] (by kernel_rfl) rfl rfl ⟨((HB.out.cell (World.block_lt_of_cell? w _ HX1.out)).trans HX1.out), ((HB.out.cell (World.block_lt_of_cell? w _ hw176_0)).trans hw176_0), ((HB.out.cell (World.block_lt_of_cell? w _ hw176_1)).trans hw176_1), ((HB.out.cell (World.block_lt_of_cell? w _ hw176_2)).trans hw176_2), hx178_0⟩ (fun hHeld => ?_); refine with_tabW purse_Split.tab20 purse_Split.bits20 (fun HT_ HW_ => ?_)
                                  generalize wr.drew = w53 at HO_9 HO_72 HB hx176_0 hx176_1 hx176_2 hx178_0 hHeld ⊢
                                  refine take_ (i := 0) (N := some 78) (v := ?_) (a' := ?_) #[true, false, false, false, false, false, false, false, false, false, false, false, false, false] rfl rfl (take_ofW HT_.out HW_.out (by kernel_rfl)) (fun _ _ _ h => h) (Or.inl ⟨by rfl, ?_⟩) hHeld ?_ ?_
                                  rotate_left
                                  · rintro w' ⟨s0, s1, s2, s3, s4⟩
                                    go_simp
                                    with_reducible rfl
                                  rotate_left
                                  · simp only [Act.put, List.setIfInBounds_toArray, List.set_cons_zero, List.set_cons_succ, i64_w, i32_w]
                                    rfl
                                  refine pure_ (i := 1) (N := some 79) (v := ?_) (a' := ?_) #[true, true, false, false, false, false, false, false, false, false, false, false, false, false] rfl rfl (any_of HT_.out (by kernel_rfl)) (fun _ _ _ h => h) (Or.inl ⟨by rfl, ?_⟩) ?_ ?_
                                  rotate_left
                                  · intro w'
                                    go_simp
                                    with_reducible rfl
                                  rotate_left
                                  · simp only [Act.put, List.setIfInBounds_toArray, List.set_cons_zero, List.set_cons_succ, i64_w, i32_w]
                                    rfl
                                  refine pure_ (i := 2) (N := some 80) (v := ?_) (a' := ?_) #[true, true, true, false, false, false, false, false, false, false, false, false, false, false] rfl rfl (any_of HT_.out (by kernel_rfl)) (fun _ _ _ h => h) (Or.inl ⟨by rfl, ?_⟩) ?_ ?_
                                  rotate_left
                                  · intro w'
                                    go_simp
                                    with_reducible rfl
                                  rotate_left
                                  · simp only [Act.put, List.setIfInBounds_toArray, List.set_cons_zero, List.set_cons_succ, i64_w, i32_w]
                                    rfl
                                  refine pure_ (i := 3) (N := some 81) (v := ?_) (a' := ?_) #[true, true, true, true, false, false, false, false, false, false, false, false, false, false] rfl rfl (any_of HT_.out (by kernel_rfl)) (fun _ _ _ h => h) (Or.inl ⟨by rfl, ?_⟩) ?_ ?_
                                  rotate_left
                                  · intro w'
                                    go_simp
                                    with_reducible rfl
                                  rotate_left
                                  · simp only [Act.put, List.setIfInBounds_toArray, List.set_cons_zero, List.set_cons_succ, i64_w, i32_w]
                                    rfl
                                  refine pure_ (i := 6) (N := some 84) (v := ?_) (a' := ?_) #[true, true, true, true, false, false, true, false, false, false, false, false, false, false] rfl rfl (any_of HT_.out (by kernel_rfl)) (fun _ _ _ h => h) (Or.inl ⟨by rfl, ?_⟩) ?_ ?_
                                  rotate_left
                                  · intro w'
                                    go_simp
                                    with_reducible rfl
                                  rotate_left
                                  · simp only [Act.put, List.setIfInBounds_toArray, List.set_cons_zero, List.set_cons_succ, i64_w, i32_w]
                                    rfl
                                  refine pure_ (i := 7) (N := some 85) (v := ?_) (a' := ?_) #[true, true, true, true, false, false, true, true, false, false, false, false, false, false] rfl rfl (any_of HT_.out (by kernel_rfl)) (fun _ _ _ h => h) (Or.inl ⟨by rfl, ?_⟩) ?_ ?_
                                  rotate_left
                                  · intro w'
                                    go_simp
                                    with_reducible rfl
                                  rotate_left
                                  · simp only [Act.put, List.setIfInBounds_toArray, List.set_cons_zero, List.set_cons_succ, i64_w, i32_w]
                                    rfl
                                  refine pure_ (i := 8) (N := some 86) (v := ?_) (a' := ?_) #[true, true, true, true, false, false, true, true, true, false, false, false, false, false] rfl rfl (any_of HT_.out (by kernel_rfl)) (fun _ _ _ h => h) (Or.inl ⟨by rfl, ?_⟩) ?_ ?_
                                  rotate_left
                                  · intro w'
                                    go_simp
                                    with_reducible rfl
                                  rotate_left
                                  · simp only [Act.put, List.setIfInBounds_toArray, List.set_cons_zero, List.set_cons_succ, i64_w, i32_w]
                                    rfl
                                  refine pure_ (i := 11) (N := some 89) (v := ?_) (a' := ?_) #[true, true, true, true, false, false, true, true, true, false, false, true, false, false] rfl rfl (any_of HT_.out (by kernel_rfl)) (fun _ _ _ h => h) (Or.inl ⟨by rfl, ?_⟩) ?_ ?_
                                  rotate_left
                                  · intro w'
                                    go_simp
                                    with_reducible rfl
                                  rotate_left
                                  · simp only [Act.put, List.setIfInBounds_toArray, List.set_cons_zero, List.set_cons_succ, i64_w, i32_w]
                                    rfl
                                  refine take_ (i := 4) (N := some 82) (v := ?_) (a' := ?_) #[true, true, true, true, true, false, true, true, true, false, false, true, false, false] rfl rfl (take_ofW HT_.out HW_.out (by kernel_rfl)) (fun _ _ _ h => h) (Or.inl ⟨by rfl, ?_⟩) hHeld ?_ ?_
                                  rotate_left
                                  · rintro w' ⟨s0, s1, s2, s3, s4⟩
                                    go_simp
                                    with_reducible rfl
                                  rotate_left
                                  · simp only [Act.put, List.setIfInBounds_toArray, List.set_cons_zero, List.set_cons_succ, i64_w, i32_w]
                                    rfl
                                  refine take_ (i := 9) (N := some 87) (v := ?_) (a' := ?_) #[true, true, true, true, true, false, true, true, true, true, false, true, false, false] rfl rfl (take_ofW HT_.out HW_.out (by kernel_rfl)) (fun _ _ _ h => h) (Or.inl ⟨by rfl, ?_⟩) hHeld ?_ ?_
                                  rotate_left
                                  · rintro w' ⟨s0, s1, s2, s3, s4⟩
                                    go_simp
                                    with_reducible rfl
                                  rotate_left
                                  · simp only [Act.put, List.setIfInBounds_toArray, List.set_cons_zero, List.set_cons_succ, i64_w, i32_w]
                                    rfl
                                  refine one_ (i := 5) (N := some 83) #[true, true, true, true, true, true, true, true, true, true, false, true, false, false] rfl rfl (one_of HT_.out (by kernel_rfl)) (by decide) (fun K hK => ?_)
                                  refine goes_ Try.func27 (by kernel_rfl) rfl #[.int .i64 ((rd_T46 l1 (rd t174 x74_3)).f2)] (by rfl) rfl rfl (by (try simp only [List.map_toArray, List.map_cons, List.map_nil]); first | done | rfl | (simp only [List.length_drop, List.length_take]; rfl)) ?_
                                  with_reducible refine (purse_clip.calls ((rd_T46 l1 (rd t174 x74_3)).f2) t177 _ A49.out).mono ?_
                                  rintro e w55 ⟨rfl, hb⟩
                                  have HS3_ := (hb.cell (World.block_lt_of_cell? _ _ (hHeld.2.2.2.2))).trans (hHeld.2.2.2.2)
                                  refine ⟨_, rfl, ?_⟩
                                  have n0_ := Aside0.mk (Kd.R_below (by (with_reducible repeat (first | apply Kd.R_alloc | apply Kd.R_drewN | apply Kd.R_drew)); exact HO_9.out) hb)
                                  have n1_ := Aside0.mk (Kd.R_below (by (with_reducible repeat (first | apply Kd.R_alloc | apply Kd.R_drewN | apply Kd.R_drew)); exact HO_72.out) hb)
                                  have n2_ := Aside0.mk (below_step (by repeat (first | (with_reducible first | exact HB.out | apply below_alloc | apply pw_below_drewN | apply below_drew1) | exact HB.out)) hb)
                                  clear HO_9
                                  clear HO_72
                                  clear HB
                                  have HO_9 := n0_
                                  have HO_72 := n1_
                                  have HB := n2_
                                  (try clear hX_)
                                  have hX_ := (HB.out.cell (World.block_lt_of_cell? w _ HX1.out)).trans HX1.out
                                  clear n0_ n1_ n2_
                                  (try clear hb)
                                  (try clear hb2)
                                  (try clear hk)
                                  (try clear hi)
                                  refine hK.out _ _ ⟨((HB.out.cell (World.block_lt_of_cell? w _ HX1.out)).trans HX1.out), ((HB.out.cell (World.block_lt_of_cell? w _ hw176_0)).trans hw176_0), ((HB.out.cell (World.block_lt_of_cell? w _ hw176_1)).trans hw176_1), ((HB.out.cell (World.block_lt_of_cell? w _ hw176_2)).trans hw176_2), HS3_⟩ (fun hHeld => ?_)
                                  clear hK K
                                  refine norm_ (a' := ?_) ?_ ?_
                                  rotate_left
                                  · show Act.put _ (some 83) _ = _
                                    simp only [Act.put, List.setIfInBounds_toArray, List.set_cons_zero, List.set_cons_succ, i64_w, i32_w]
                                    rfl
                                  refine pure_ (i := 10) (N := some 88) (v := ?_) (a' := ?_) #[true, true, true, true, true, true, true, true, true, true, true, true, false, false] rfl rfl (any_of HT_.out (by kernel_rfl)) (fun _ _ _ h => h) (Or.inl ⟨by rfl, ?_⟩) ?_ ?_
                                  rotate_left
                                  · intro w'
                                    go_simp
                                    with_reducible rfl
                                  rotate_left
                                  · simp only [Act.put, List.setIfInBounds_toArray, List.set_cons_zero, List.set_cons_succ, i64_w, i32_w]
                                    rfl
                                  refine pure_ (i := 12) (N := some 90) (v := ?_) (a' := ?_) #[true, true, true, true, true, true, true, true, true, true, true, true, true, false] rfl rfl (any_of HT_.out (by kernel_rfl)) (fun _ _ _ h => h) (Or.inl ⟨by rfl, ?_⟩) ?_ ?_
                                  rotate_left
                                  · intro w'
                                    go_simp
                                    with_reducible rfl
                                  rotate_left
                                  · simp only [Act.put, List.setIfInBounds_toArray, List.set_cons_zero, List.set_cons_succ, i64_w, i32_w]
                                    rfl
                                  refine pure_ (i := 13) (N := some 15) (v := ?_) (a' := ?_) #[true, true, true, true, true, true, true, true, true, true, true, true, true, true] rfl rfl (any_of HT_.out (by kernel_rfl)) (fun _ _ _ h => h) (Or.inl ⟨by rfl, ?_⟩) ?_ ?_
                                  rotate_left
                                  · intro w'
                                    go_simp
                                    with_reducible rfl
                                  rotate_left
                                  · simp only [Act.put, List.setIfInBounds_toArray, List.set_cons_zero, List.set_cons_succ, i64_w, i32_w]
                                    rfl
                                  refine done_ (done_of HT_.out (by kernel_rfl)) ?_
                                  have p179 : 0 ≤ ((rd t174 x74_3) : Int) := of_decide_eq_true (by first | (with_reducible assumption) | assumption)
                                  have q179 : (rd t174 x74_3) < (x9_3.length : Int) := of_decide_eq_true (by first | (with_reducible assumption) | assumption)
                                  obtain ⟨ad179, e179, hx179_0⟩ := Kd.at_int (Kd.R_reads' HO_9.out).2.2 (rd t174 x74_3) p179 q179
                                  obtain rfl : ad178 = ad179 := (by injection e179)
                                  replace p179 := eq_true p179
                                  replace q179 := eq_true q179
                                  have p52 : 0 ≤ ((rd t174 x74_3) : Int) := of_decide_eq_true (by first | (with_reducible assumption) | assumption)
                                  have q52 : ((rd t174 x74_3) : Int) < ((x9_3.length : Int) : Int) := of_decide_eq_true (by first | (with_reducible assumption) | assumption)
                                  obtain ⟨go52, co52, eo52, gb52, gl52, cl52, HG52⟩ := Kd.R_form HO_9.out (by omega)
                                  (first | cases eo52 | (injection eo52 with ea_ en_ ec_; (first | subst ea_ | (injection ea_ with ea_; subst ea_)); subst ec_; clear en_))
                                  have GB52 := Aside0.mk gb52
                                  have GG52 := Aside0.mk HG52
                                  clear gb52 gl52 HG52
                                  (first | simp only [add_plain] at hx178_0 | skip)
                                  (first | simp only [add_plain] at hx179_0 | skip)
                                  obtain ⟨hx52_0, hf52_0⟩ := Kd.R_celln 0 HO_9.out ((rd t174 x74_3) : Int) p52 q52
                                  replace p52 := eq_true p52
                                  replace q52 := eq_true q52
                                  obtain ⟨hy56_, hz56_⟩ := Kd.R_celln 0 HO_9.out ((rd t174 x74_3) : Int) (of_decide_eq_true (by first | (with_reducible assumption) | assumption)) (of_decide_eq_true (by first | (with_reducible assumption) | assumption))
                                  have HP56 := Kd.R_putg HO_9.out ((rd t174 x74_3) : Int) (wrap64 ((rd x9_3 (rd t174 x74_3)) + (ji51)))
                                  try go_wp2_with (first | ((with_reducible refine gate_store (t := 3) (p := 97) rfl ?_); refine store_event (t := 3) (p := 97) (v := ?vo_w57) (w1 := (w55.setCell ⟨go52, ((rd t174 x74_3) : Int).toNat, none⟩ (.int .i64 (wrap64 ((rd x9_3 (rd t174 x74_3)) + (ji51)))))) ?hg ?ho ?hn ?hr ?_; (case ho => rfl); (case hg => rfl); (case hn => rfl); (case hr => first | (go_simp; done) | (go_simp; rfl)); intro w57 hw; have hg : w55.grownBy w57 (some go52) := (by rw [hw]; exact HP56.2); have hp_ : Kd.R (Kd.int .i64) 3 w57 w.heap.size (fun k_ => some k_ ≠ (.slice (some ad175) t174.length co42 : Value).ownBlock) (.slice (some ⟨go52, 0, none⟩) x9_3.length co54) y180 := (by rw [hw, Ny180.out]; exact HP56.1); clear HP56; have n0_ := Aside0.mk (hp_); have n1_ := Aside0.mk (Kd.R_after (v := (.slice (some ⟨go52, 0, none⟩) x9_3.length co54)) (v1 := (.slice (some ⟨go52, 0, none⟩) x9_3.length co54)) (ok := (fun _ => True)) (by (with_reducible repeat (first | apply Kd.R_alloc | apply Kd.R_drewN | apply Kd.R_drew)); exact Kd.R_mono HO_72.out (fun _ hk => ⟨trivial, hk⟩)) hg (.inl rfl)); have n2_ := Aside0.mk ((by rw [hw]; exact below_set (HB.out) GB52.out : Below w.heap.size w w57)); clear HO_9; clear HO_72; clear HB; have HO_9 := n0_; have HO_72 := n1_; have HB := n2_; clear n0_ n1_ n2_; (try clear hX_); have hX_ := (HB.out.cell (World.block_lt_of_cell? w _ HX1.out)).trans HX1.out; clear hg hw hp_))
                                  (try simp only [← hl72_3])
                                  go_roundg k3
                                  case measure => have := HK1.out; have := HK2.out; have := HK3.out; omega
                                  case rel => exact ⟨(wrap64 (x5_3 - (ji51))), (y180), (wrap64 (x74_3 + 1)), (by first | rfl | (simp; done) | (simp only [← hji51] <;> (first | rfl | simp)) | (simp [*]; done)), (by first | rfl | (simp; done) | (simp [*]; done)), H', ⟨by have := HK1.out; have := HK2.out; have := HK3.out; omega⟩, ⟨by (try simp only [hl72_3]); (with_reducible repeat (first | apply Kd.R_alloc | apply Kd.R_drewN | apply Kd.R_drew)); exact HO_9.out⟩, ⟨by (try simp only [hl72_3]); (with_reducible repeat (first | apply Kd.R_alloc | apply Kd.R_drewN | apply Kd.R_drew)); exact Kd.R_mono HO_72.out (fun _ hk => hk.2)⟩, ⟨by repeat (first | (with_reducible first | exact HB.out | apply below_alloc | apply pw_below_drewN | apply below_drew1) | exact HB.out)⟩⟩
                                · rw [if_neg c50] at H
                                  exact absurd H (by simp)
                              · rw [if_neg c48] at H
                                exact absurd H (by simp)
                            · rw [if_neg c47] at H
                              exact absurd H (by simp)
                          · rw [if_neg c46] at H
                            exact absurd H (by simp)
                        · rw [if_neg c45] at H
                          exact absurd H (by simp)
                      · rw [if_neg c44] at H
                        have c44b0 : decide (x74_3 < (x10_2.length : Int)) = false := decide_eq_false c44
                        rw [hl72_3] at c44b0
                        clear c44
                        obtain rfl := Option.some.inj H
                        go_wp2
                        go_ret
                        exact ⟨_, by first | rfl | (simp [errW_none, errW_some] <;> rfl) | (simp [*, errW_none, errW_some] <;> rfl), by (with_reducible repeat (first | apply Kd.R_alloc | apply Kd.R_drewN | apply Kd.R_drew)); exact Kd.R_mono HO_9.out (fun _ hk => trivial), by repeat (first | (with_reducible first | exact HB.out | apply below_alloc | apply pw_below_drewN | apply below_drew1) | exact HB.out)⟩
          · rw [if_neg c13] at H
            exact absurd H (by simp)
        · rw [if_neg c12] at H
          exact absurd H (by simp)

end Go.Proofs.Ytcehifhfgpodoaa.PPurseAll
