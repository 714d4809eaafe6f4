-- own text
import Derived.Test.YtcehifhfgpodoaaPLedgerAllx0
import Derived.Test.YtcehifhfgpodoaaPLedgerAllx1
namespace Go.Proofs.Ytcehifhfgpodoaa.PLedgerAll
open Go.RowKit Go.Proofs.YtcehifhfgpodoaaW.PrintWords Go.Proofs.YtcehifhfgpodoaaW.PrintLast Go.Proofs.YtcehifhfgpodoaaW.PrintMore Go.Proofs.Ytcehifhfgpodoaa.Ledger
attribute [local go_sem] max2_int min2_int max_two min_two max_three min_three max_four min_four   -- for this text's walks alone
set_option linter.unusedVariables false
set_option linter.unusedSimpArgs false

/-! ### girandolelaw23_LedgerAll: function 3 -/
mutual
def girandolelaw23_LedgerAll.l0 : Nat → List (S29) → Int → LM → RM → Option (Bool)
 | 0, _, _, _, _ => none
 | k + 1, x0, x5, x125000, x127000 => if x5 < (x0.length : Int) then (if 0 ≤ x5 then (if (Go.bits .and .i64 ((rd_T29 x0 x5).f0) 7) = 0 then (girandolelaw23_LedgerAll.j1 k x0 x5 ((Go.bits .and .i64 ((rd_T29 x0 x5).f1) 3) % 4294967296) (Go.bits .and .i64 ((rd_T29 x0 x5).f0) 7) ((Go.bits .and .i64 ((rd_T29 x0 x5).f0) 7) == 0) x125000 x127000) else (girandolelaw23_LedgerAll.j1 k x0 x5 ((Go.bits .and .i64 ((rd_T29 x0 x5).f1) 3) % 4294967296) (Go.bits .and .i64 ((rd_T29 x0 x5).f0) 7) ((Go.bits .and .i64 ((rd_T29 x0 x5).f0) 7) == 1) x125000 x127000)) else (none)) else ((ledger_Next_nil.f 1).bind fun bt150 => ((ledger_Open_nil.f 1 3).bind fun t152 => (if t152 = true then (some false) else (if bt150.2 = true then (some false) else ((ledger_Left_nil.f 1).bind fun t153 => (if t153 = 0 then ((ledger_Close_nil.f 1).bind fun t154 => (some (!t154))) else (some false)))))))
def girandolelaw23_LedgerAll.j3 : Nat → List (S29) → Int → Int → LM → RM → Option (Bool)
 | 0, _, _, _, _, _ => none
 | k + 1, x0, x5, x6, x125000, x127000 => (ledger_Left.f x125000 x6).bind fun bt146 => ((refl_Left.f x127000 x6).bind fun bt148 => (if bt146.1 = bt148.1 then (girandolelaw23_LedgerAll.l0 k x0 (wrap64 (x5 + 1)) bt146.2 bt148.2) else (some false)))
def girandolelaw23_LedgerAll.j1 : Nat → List (S29) → Int → Int → Int → Bool → LM → RM → Option (Bool)
 | 0, _, _, _, _, _, _, _ => none
 | k + 1, x0, x5, x6, x40, x72, x125000, x127000 => if x72 = true then (if 0 ≤ x5 then (if x5 < (x0.length : Int) then ((ledger_Open.f x125000 x6 ((rd_T29 x0 x5).f2)).bind fun bt130 => ((refl_Open.f x127000 x6 ((rd_T29 x0 x5).f2)).bind fun bt133 => (if (bt130.1 != bt133.1) = true then (some false) else (girandolelaw23_LedgerAll.j3 k x0 x5 x6 bt130.2 bt133.2)))) else (none)) else (none)) else (if x40 = 2 then ((ledger_Close.f x125000 x6).bind fun bt135 => ((refl_Close.f x127000 x6).bind fun bt137 => (if (bt135.1 != bt137.1) = true then (some false) else (girandolelaw23_LedgerAll.j3 k x0 x5 x6 bt135.2 bt137.2)))) else (girandolelaw23_LedgerAll.l1 k x0 x5 x6 0 x125000 x127000))
def girandolelaw23_LedgerAll.l1 : Nat → List (S29) → Int → Int → Int → LM → RM → Option (Bool)
 | 0, _, _, _, _, _, _ => none
 | k + 1, x0, x5, x6, x7, x125000, x127000 => if 0 ≤ x5 then (if x5 < (x0.length : Int) then (if x7 < (wrap64 (1 + (Go.bits .and .i64 ((rd_T29 x0 x5).f2) 15))) then ((ledger_Next.f x125000 x6).bind fun bt140 => ((refl_Next.f x127000 x6).bind fun bt143 => (if bt140.1 = bt143.1 then (if (bt140.2.1 != bt143.2.1) = true then (some false) else (girandolelaw23_LedgerAll.l1 k x0 x5 x6 (wrap64 (x7 + 1)) bt140.2.2 bt143.2.2)) else (some false)))) else (girandolelaw23_LedgerAll.j3 k x0 x5 x6 x125000 x127000)) else (none)) else (none)
end
def girandolelaw23_LedgerAll.f (k : Nat) (l0 : List (S29)) : Option (Bool) := (girandolelaw23_begun.f).bind fun t122 => (if t122 = true then (if (l0.length : Int) > 80 then (some true) else ((ledger_New.f).bind fun t123 => ((refl_New.f).bind fun t125 => (girandolelaw23_LedgerAll.l0 k l0 0 t123 t125)))) else (some false))
theorem girandolelaw23_LedgerAll.mono_l : ∀ k, (∀ y0 y1 y2 y3, LeO (girandolelaw23_LedgerAll.l0 k y0 y1 y2 y3) (girandolelaw23_LedgerAll.l0 (k + 1) y0 y1 y2 y3)) ∧ (∀ y0 y1 y2 y3 y4, LeO (girandolelaw23_LedgerAll.j3 k y0 y1 y2 y3 y4) (girandolelaw23_LedgerAll.j3 (k + 1) y0 y1 y2 y3 y4)) ∧ (∀ y0 y1 y2 y3 y4 y5 y6, LeO (girandolelaw23_LedgerAll.j1 k y0 y1 y2 y3 y4 y5 y6) (girandolelaw23_LedgerAll.j1 (k + 1) y0 y1 y2 y3 y4 y5 y6)) ∧ (∀ y0 y1 y2 y3 y4 y5, LeO (girandolelaw23_LedgerAll.l1 k y0 y1 y2 y3 y4 y5) (girandolelaw23_LedgerAll.l1 (k + 1) y0 y1 y2 y3 y4 y5))
 | 0 => ⟨fun _ _ _ _ r h => by simp [girandolelaw23_LedgerAll.l0] at h, fun _ _ _ _ _ r h => by simp [girandolelaw23_LedgerAll.j3] at h, fun _ _ _ _ _ _ _ r h => by simp [girandolelaw23_LedgerAll.j1] at h, fun _ _ _ _ _ _ r h => by simp [girandolelaw23_LedgerAll.l1] at h⟩
 | k + 1 => by
  obtain ⟨ih0, ih1, ih2, ih3⟩ := girandolelaw23_LedgerAll.mono_l k
  refine ⟨?_, ?_, ?_, ?_⟩
  ·
   intro y0 y1 y2 y3
   unfold girandolelaw23_LedgerAll.l0
   repeat' first
   | (with_reducible exact ih0 _ _ _ _)
   | (with_reducible exact ih1 _ _ _ _ _)
   | (with_reducible exact ih2 _ _ _ _ _ _ _)
   | (with_reducible exact ih3 _ _ _ _ _ _)
   | (with_reducible exact LeO.refl _)
   | (with_reducible exact LeO.none _)
   | (with_reducible refine LeO.ite ?_ ?_)
   | (with_reducible refine LeO.bind ?_ (fun _ => ?_))
   | exact ih0 _ _ _ _
   | exact ih1 _ _ _ _ _
   | exact ih2 _ _ _ _ _ _ _
   | exact ih3 _ _ _ _ _ _
   | exact LeO.none _
   | refine LeO.ite ?_ ?_
   | refine LeO.bind ?_ (fun _ => ?_)
  ·
   intro y0 y1 y2 y3 y4
   unfold girandolelaw23_LedgerAll.j3
   repeat' first
   | (with_reducible exact ih0 _ _ _ _)
   | (with_reducible exact ih1 _ _ _ _ _)
   | (with_reducible exact ih2 _ _ _ _ _ _ _)
   | (with_reducible exact ih3 _ _ _ _ _ _)
   | (with_reducible exact LeO.refl _)
   | (with_reducible exact LeO.none _)
   | (with_reducible refine LeO.ite ?_ ?_)
   | (with_reducible refine LeO.bind ?_ (fun _ => ?_))
   | exact ih0 _ _ _ _
   | exact ih1 _ _ _ _ _
   | exact ih2 _ _ _ _ _ _ _
   | exact ih3 _ _ _ _ _ _
   | exact LeO.none _
   | refine LeO.ite ?_ ?_
   | refine LeO.bind ?_ (fun _ => ?_)
  ·
   intro y0 y1 y2 y3 y4 y5 y6
   unfold girandolelaw23_LedgerAll.j1
   repeat' first
   | (with_reducible exact ih0 _ _ _ _)
   | (with_reducible exact ih1 _ _ _ _ _)
   | (with_reducible exact ih2 _ _ _ _ _ _ _)
   | (with_reducible exact ih3 _ _ _ _ _ _)
   | (with_reducible exact LeO.refl _)
   | (with_reducible exact LeO.none _)
   | (with_reducible refine LeO.ite ?_ ?_)
   | (with_reducible refine LeO.bind ?_ (fun _ => ?_))
   | exact ih0 _ _ _ _
   | exact ih1 _ _ _ _ _
   | exact ih2 _ _ _ _ _ _ _
   | exact ih3 _ _ _ _ _ _
   | exact LeO.none _
   | refine LeO.ite ?_ ?_
   | refine LeO.bind ?_ (fun _ => ?_)
  ·
   intro y0 y1 y2 y3 y4 y5
   unfold girandolelaw23_LedgerAll.l1
   repeat' first
   | (with_reducible exact ih0 _ _ _ _)
   | (with_reducible exact ih1 _ _ _ _ _)
   | (with_reducible exact ih2 _ _ _ _ _ _ _)
   | (with_reducible exact ih3 _ _ _ _ _ _)
   | (with_reducible exact LeO.refl _)
   | (with_reducible exact LeO.none _)
   | (with_reducible refine LeO.ite ?_ ?_)
   | (with_reducible refine LeO.bind ?_ (fun _ => ?_))
   | exact ih0 _ _ _ _
   | exact ih1 _ _ _ _ _
   | exact ih2 _ _ _ _ _ _ _
   | exact ih3 _ _ _ _ _ _
   | exact LeO.none _
   | refine LeO.ite ?_ ?_
   | refine LeO.bind ?_ (fun _ => ?_)
theorem girandolelaw23_LedgerAll.mono : ∀ a0 k, LeO (girandolelaw23_LedgerAll.f k a0) (girandolelaw23_LedgerAll.f (k + 1) a0) := by
 intro a0 k
 obtain ⟨ih0, ih1, ih2, ih3⟩ := girandolelaw23_LedgerAll.mono_l k
 unfold girandolelaw23_LedgerAll.f
 repeat' first
   | (with_reducible exact ih0 _ _ _ _)
   | (with_reducible exact ih1 _ _ _ _ _)
   | (with_reducible exact ih2 _ _ _ _ _ _ _)
   | (with_reducible exact ih3 _ _ _ _ _ _)
   | (with_reducible exact LeO.refl _)
   | (with_reducible exact LeO.none _)
   | (with_reducible refine LeO.ite ?_ ?_)
   | (with_reducible refine LeO.bind ?_ (fun _ => ?_))
   | exact ih0 _ _ _ _
   | exact ih1 _ _ _ _ _
   | exact ih2 _ _ _ _ _ _ _
   | exact ih3 _ _ _ _ _ _
   | exact LeO.none _
   | refine LeO.ite ?_ ?_
   | refine LeO.bind ?_ (fun _ => ?_)
def girandolelaw23_LedgerAll.T20 : Bool × List (List Nat × List Nat) := (true, [([], []), ([], []), ([], []), ([], []), ([2, 3], [2, 3]), ([4], [4]), ([5], [5]), ([0, 1, 6], [0, 1, 6]), ([], []), ([], []), ([], []), ([], []), ([10, 11], [10, 11]), ([12], [12]), ([13], [13]), ([8, 9, 14, 7], [8, 9, 14]), ([7, 15], [7, 15])])
def girandolelaw23_LedgerAll.B20 : List Nat := [0, 0, 0, 0, 12, 28, 60, 127, 0, 0, 0, 0, 3072, 7168, 15360, 32767, 65535]
theorem girandolelaw23_LedgerAll.tab20 : rtab .any (opsOf Try.f3 20) = girandolelaw23_LedgerAll.T20 := by kernel_rfl
theorem girandolelaw23_LedgerAll.bits20 : waitsOk girandolelaw23_LedgerAll.T20.2 girandolelaw23_LedgerAll.B20 = true := by kernel_rfl
set_option maxHeartbeats 8000000 in
set_option maxRecDepth 100000 in
theorem girandolelaw23_LedgerAll.calls (k : Nat) (A0 : Option Addr) (c0 : Nat) (l0 : List (S29)) (r : Bool) (w : World) (hr0 : Kd.C k29 w A0 l0.length l0) (hc0 : l0.length ≤ c0) (h : girandolelaw23_LedgerAll.f k l0 = some r) :
  Calls Try.prog 3 #[.slice A0 l0.length c0] w fun e w' => e = .returned (.bool r) ∧ Below w.heap.size w w' := by
 have HR0 := Aside0.mk hr0
 have HC0 := Aside0.mk hc0
 clear hr0 hc0
 have HB := Aside0.mk (Below.refl w.heap.size w)
 have H : ((girandolelaw23_begun.f).bind fun t122 => (if t122 = true then (if (l0.length : Int) > 80 then (some true) else ((ledger_New.f).bind fun t123 => ((refl_New.f).bind fun t125 => (girandolelaw23_LedgerAll.l0 k l0 0 t123 t125)))) else (some false))) = some r := h
 clear h
 replace H := Option.bind_eq_some_iff.mp H
 obtain ⟨t122, A20, H⟩ := H
 replace H : (if t122 = true then (if (l0.length : Int) > 80 then (some true) else ((ledger_New.f).bind fun t123 => ((refl_New.f).bind fun t125 => (girandolelaw23_LedgerAll.l0 k l0 0 t123 t125)))) else (some false)) = some r := H
 have A2 := Aside0.mk A20
 clear A20
 by_cases c3 : t122 = true
 ·
  subst c3
  have H1 : (if (l0.length : Int) > 80 then (some true) else ((ledger_New.f).bind fun t123 => ((refl_New.f).bind fun t125 => (girandolelaw23_LedgerAll.l0 k l0 0 t123 t125)))) = some r := by rw [if_pos rfl] at H; exact H
  clear H
  have H := H1
  clear H1
  by_cases c4 : (l0.length : Int) > 80
  ·
   rw [if_pos c4] at H
   have c4b0 : decide (80 < (l0.length : Int)) = true := decide_eq_true c4
   have c4b1 : decide (80 < l0.length) = true := decide_eq_true (by omega)
   clear c4
   obtain rfl := Option.some.inj H
   go_enter Try.func3, Try.ntmps3
   go_wp2_with (first | ((with_reducible refine gate_callee (f := 12) rfl ?_); refine goesL_ (some 15) rfl rfl Try.func12 (by kernel_rfl) rfl #[] rfl (by (try simp only [List.map_toArray, List.map_cons, List.map_nil]); first | done | rfl | (simp only [List.length_drop, List.length_take]; rfl)) ?_; (with_reducible refine (girandolelaw23_begun.calls  true _ A2.out).mono ?_); rintro e w5 ⟨rfl, hb⟩; refine ⟨_, rfl, ?_⟩; have n0_ := Aside0.mk (below_step (by repeat (first | (with_reducible first | exact HB.out | apply below_alloc | apply pw_below_drewN | apply below_drew1) | exact HB.out)) hb); clear HB; have HB := n0_; clear n0_; (try clear hb); (try clear hb2); (try clear hk); (try clear hi)))
   go_ret
   exact ⟨by first | rfl | (simp [errW_none, errW_some] <;> rfl) | (simp [*, errW_none, errW_some] <;> rfl), by repeat (first | (with_reducible first | exact HB.out | apply below_alloc | apply pw_below_drewN | apply below_drew1) | exact HB.out)⟩
  ·
   rw [if_neg c4] at H
   have c4b0 : decide (80 < (l0.length : Int)) = false := decide_eq_false c4
   have c4b1 : decide (80 < l0.length) = false := decide_eq_false (by omega)
   clear c4
   replace H := Option.bind_eq_some_iff.mp H
   obtain ⟨t123, A60, H⟩ := H
   replace H : ((refl_New.f).bind fun t125 => (girandolelaw23_LedgerAll.l0 k l0 0 t123 t125)) = some r := H
   have A6 := Aside0.mk A60
   clear A60
   replace H := Option.bind_eq_some_iff.mp H
   obtain ⟨t125, A70, H⟩ := H
   replace H : (girandolelaw23_LedgerAll.l0 k l0 0 t123 t125) = some r := H
   have A7 := Aside0.mk A70
   clear A70
   have H' := Aside0.mk H
   clear H
   go_enter Try.func3, Try.ntmps3
   go_wp2_with (first | ((with_reducible refine gate_callee (f := 12) rfl ?_); refine goesL_ (some 15) rfl rfl Try.func12 (by kernel_rfl) rfl #[] rfl (by (try simp only [List.map_toArray, List.map_cons, List.map_nil]); first | done | rfl | (simp only [List.length_drop, List.length_take]; rfl)) ?_; (with_reducible refine (girandolelaw23_begun.calls  true _ A2.out).mono ?_); rintro e w8 ⟨rfl, hb⟩; refine ⟨_, rfl, ?_⟩; have n0_ := Aside0.mk (below_step (by repeat (first | (with_reducible first | exact HB.out | apply below_alloc | apply pw_below_drewN | apply below_drew1) | exact HB.out)) hb); clear HB; have HB := n0_; clear n0_; (try clear hb); (try clear hb2); (try clear hk); (try clear hi)) | ((with_reducible refine gate_callee (f := 13) rfl ?_); refine goesL_ (some 20) rfl rfl Try.func13 (by kernel_rfl) rfl #[] rfl (by (try simp only [List.map_toArray, List.map_cons, List.map_nil]); first | done | rfl | (simp only [List.length_drop, List.length_take]; rfl)) ?_; (with_reducible refine (ledger_New.calls  t123 w _ ?side1 A6.out).mono ?_); (case side1 => repeat (first | (with_reducible first | exact HB.out | apply below_alloc | apply pw_below_drewN | apply below_drew1) | exact HB.out)); rintro e w9 ⟨g124, rfl, hi, hb, hb2⟩; refine ⟨_, rfl, ?_⟩; have n0_ := Aside0.mk (hb); have n1_ := Aside0.mk (hi); clear HB; have HB := n0_; have HI124 := n1_; clear n0_ n1_; (try clear hb); (try clear hb2); (try clear hk); (try clear hi)) | ((with_reducible refine gate_callee (f := 14) rfl ?_); refine goesL_ (some 21) rfl rfl Try.func14 (by kernel_rfl) rfl #[] rfl (by (try simp only [List.map_toArray, List.map_cons, List.map_nil]); first | done | rfl | (simp only [List.length_drop, List.length_take]; rfl)) ?_; (with_reducible refine (refl_New.calls  t125 w _ ?side1 A7.out).mono ?_); (case side1 => repeat (first | (with_reducible first | exact HB.out | apply below_alloc | apply pw_below_drewN | apply below_drew1 | refine below_set ?_ (IsS55.ge HI124.out)) | exact HB.out)); rintro e w10 ⟨g126, rfl, hi, hb, hb2, hfr⟩; refine ⟨_, rfl, ?_⟩; have n0_ := Aside0.mk (IsS55.below (by repeat (first | (with_reducible first | exact HI124.out | apply IsS55.alloc | apply IsS55.drewN | apply IsS55.drew | apply IsS55.set_0) | exact HI124.out)) hb2); have n1_ := Aside0.mk (hb); have n2_ := Aside0.mk (hi); have n3_ := Aside0.mk (apart_new (show IsS55 w _ g124 t123 from by repeat (first | (with_reducible first | exact HI124.out | apply IsS55.alloc | apply IsS55.drewN | apply IsS55.drew | apply IsS55.set_0) | exact HI124.out)) hfr); clear HI124; clear HB; have HI124 := n0_; have HB := n1_; have HI126 := n2_; have NX124_126 := n3_; clear n0_ n1_ n2_ n3_; (try clear hb); (try clear hb2); (try clear hk); (try clear hi)))
   go_loopg [5] k (fun kq v5 w' => ∃ (x5_1 : Int) (x125000_1 : LM) (x127000_1 : RM), v5 = .int .i64 x5_1 ∧ Aside0 (girandolelaw23_LedgerAll.l0 kq l0 x5_1 x125000_1 x127000_1 = some r) ∧ Aside0 (kq ≤ k) ∧ Aside0 (IsS55 w w' g124 x125000_1) ∧ Aside0 (IsS58 w w' g126 x127000_1) ∧ Aside0 (Below w.heap.size w w'))
   case atStart => exact ⟨(0), (t123), (t125), (by first | rfl | (simp; done) | (simp [*]; done)), H', ⟨Nat.le_refl _⟩, ⟨by repeat (first | (with_reducible first | exact HI124.out | apply IsS55.alloc | apply IsS55.drewN | apply IsS55.drew | apply IsS55.set_0 | refine IsS55.far ?_ NB124_126.out _) | exact HI124.out)⟩, ⟨by repeat (first | (with_reducible first | exact HI126.out | apply IsS58.alloc | apply IsS58.drewN | apply IsS58.drew | apply IsS58.set_0 | refine IsS58.far ?_ NB126_124.out _) | exact HI126.out)⟩, ⟨by repeat (first | (with_reducible first | exact HB.out | apply below_alloc | apply pw_below_drewN | apply below_drew1 | refine below_set ?_ (IsS55.ge HI124.out) | refine below_set ?_ (IsS58.ge HI126.out)) | exact HB.out)⟩⟩
   case round =>
    clear H'
    try clear c1
    try clear p2
    try clear c3
    try clear c4
    try clear c4b0
    try clear c4b1
    obtain ⟨x5_1, x125000_1, x127000_1, rfl, HA, HK1, HI124, HI126, HB⟩ := hrel
    cases gk with
    | zero => exact absurd HA.out (by simp [girandolelaw23_LedgerAll.l0])
    | succ k1 =>
     have H := HA.out
     clear HA
     simp only [girandolelaw23_LedgerAll.l0] at H
     by_cases c11 : x5_1 < (l0.length : Int)
     ·
      rw [if_pos c11] at H
      have c11b0 : decide (x5_1 < (l0.length : Int)) = true := decide_eq_true c11
      clear c11
      by_cases c12 : 0 ≤ x5_1
      ·
       rw [if_pos c12] at H
       have c12b0 : decide (0 ≤ x5_1) = true := decide_eq_true c12
       clear c12
       have HC13 := Aside0.mk H
       clear H
       have p127 : 0 ≤ (x5_1 : Int) := of_decide_eq_true (by first | (with_reducible assumption) | assumption)
       have q127 : x5_1 < (l0.length : Int) := of_decide_eq_true (by first | (with_reducible assumption) | assumption)
       obtain ⟨ad127, e127, hx127_0, hx127_1, hx127_2⟩ := at_T29 HR0.out x5_1 p127 q127
       cases e127
       replace hx127_0 := (HB.out.cell (World.block_lt_of_cell? w _ hx127_0)).trans hx127_0
       replace hx127_1 := (HB.out.cell (World.block_lt_of_cell? w _ hx127_1)).trans hx127_1
       replace hx127_2 := (HB.out.cell (World.block_lt_of_cell? w _ hx127_2)).trans hx127_2
       replace p127 := eq_true p127
       replace q127 := eq_true q127
       have p128 : 0 ≤ (x5_1 : Int) := of_decide_eq_true (by first | (with_reducible assumption) | assumption)
       have q128 : x5_1 < (l0.length : Int) := of_decide_eq_true (by first | (with_reducible assumption) | assumption)
       obtain ⟨ad128, e128, hx128_0, hx128_1, hx128_2⟩ := at_T29 HR0.out x5_1 p128 q128
       obtain rfl : ad127 = ad128 := (by injection e128)
       replace hx128_0 := (HB.out.cell (World.block_lt_of_cell? w _ hx128_0)).trans hx128_0
       replace hx128_1 := (HB.out.cell (World.block_lt_of_cell? w _ hx128_1)).trans hx128_1
       replace hx128_2 := (HB.out.cell (World.block_lt_of_cell? w _ hx128_2)).trans hx128_2
       replace p128 := eq_true p128
       replace q128 := eq_true q128
       go_upto_block 2 with (fail)
       go_cut [] (fun wc => ∃ (kq : Nat) (x125000_12 : LM) (x127000_12 : RM), Aside0 (girandolelaw23_LedgerAll.j3 kq l0 x5_1 ((Go.bits .and .i64 ((rd_T29 l0 x5_1).f1) 3) % 4294967296) x125000_12 x127000_12 = some r) ∧ Aside0 (kq ≤ k1) ∧ Aside0 (IsS55 w wc g124 x125000_12) ∧ Aside0 (IsS58 w wc g126 x127000_12) ∧ Aside0 (Below w.heap.size w wc))
       case first =>
        have H := HC13.out
        clear HC13
        have HC14 := Aside0.mk H
        clear H
        go_upto_if 72 with (fail)
        go_cut [72] (fun v72 wc => ∃ (kq : Nat) (x72_13 : Bool), v72 = .bool x72_13 ∧ Aside0 (girandolelaw23_LedgerAll.j1 kq l0 x5_1 ((Go.bits .and .i64 ((rd_T29 l0 x5_1).f1) 3) % 4294967296) (Go.bits .and .i64 ((rd_T29 l0 x5_1).f0) 7) x72_13 x125000_1 x127000_1 = some r) ∧ Aside0 (kq ≤ k1) ∧ Aside0 (IsS55 w wc g124 x125000_1) ∧ Aside0 (IsS58 w wc g126 x127000_1) ∧ Aside0 (Below w.heap.size w wc))
        case first =>
         have H := HC14.out
         clear HC14
         by_cases c15 : (Go.bits .and .i64 ((rd_T29 l0 x5_1).f0) 7) = 0
         ·
          rw [if_pos c15] at H
          have c15b0 : ((Go.bits .and .i64 ((rd_T29 l0 x5_1).f0) 7) == 0) = true := beq_iff_eq.mpr c15
          have c15b1 : ((Go.bits .and .i64 ((rd_T29 l0 x5_1).f0) 7) != 0) = false := bne_eq_false_iff_eq.mpr c15
          clear c15
          (first | rw [c15b0] | (simp only [i64_w, i32_w]; rw [c15b0]) | skip)
          have H' := Aside0.mk H
          clear H
          go_wp2
          go_meet
          case rel => exact ⟨_, (((Go.bits .and .i64 ((rd_T29 l0 x5_1).f0) 7) == 0)), (by first | rfl | (simp; done) | (simp [*]; done)), H', ⟨by have := HK1.out; first | omega | exact Nat.le_refl _⟩, ⟨by repeat (first | (with_reducible first | exact HI124.out | apply IsS55.alloc | apply IsS55.drewN | apply IsS55.drew | apply IsS55.set_0 | refine IsS55.far ?_ NB124_126.out _) | exact HI124.out)⟩, ⟨by repeat (first | (with_reducible first | exact HI126.out | apply IsS58.alloc | apply IsS58.drewN | apply IsS58.drew | apply IsS58.set_0 | refine IsS58.far ?_ NB126_124.out _) | exact HI126.out)⟩, ⟨by repeat (first | (with_reducible first | exact HB.out | apply below_alloc | apply pw_below_drewN | apply below_drew1 | refine below_set ?_ (IsS55.ge HI124.out) | refine below_set ?_ (IsS58.ge HI126.out)) | exact HB.out)⟩⟩
         ·
          rw [if_neg c15] at H
          have c15b0 : ((Go.bits .and .i64 ((rd_T29 l0 x5_1).f0) 7) == 0) = false := beq_eq_false_iff_ne.mpr c15
          have c15b1 : ((Go.bits .and .i64 ((rd_T29 l0 x5_1).f0) 7) != 0) = true := bne_iff_ne.mpr c15
          (first | rw [c15b0] | (simp only [i64_w, i32_w]; rw [c15b0]) | skip)
          have H' := Aside0.mk H
          clear H
          go_wp2
          go_meet
          case rel => exact ⟨_, (((Go.bits .and .i64 ((rd_T29 l0 x5_1).f0) 7) == 1)), (by first | rfl | (simp; done) | (simp [*]; done)), H', ⟨by have := HK1.out; first | omega | exact Nat.le_refl _⟩, ⟨by repeat (first | (with_reducible first | exact HI124.out | apply IsS55.alloc | apply IsS55.drewN | apply IsS55.drew | apply IsS55.set_0 | refine IsS55.far ?_ NB124_126.out _) | exact HI124.out)⟩, ⟨by repeat (first | (with_reducible first | exact HI126.out | apply IsS58.alloc | apply IsS58.drewN | apply IsS58.drew | apply IsS58.set_0 | refine IsS58.far ?_ NB126_124.out _) | exact HI126.out)⟩, ⟨by repeat (first | (with_reducible first | exact HB.out | apply below_alloc | apply pw_below_drewN | apply below_drew1 | refine below_set ?_ (IsS55.ge HI124.out) | refine below_set ?_ (IsS58.ge HI126.out)) | exact HB.out)⟩⟩
        case rest =>
         clear HC14
         try clear c1
         try clear p1
         try clear q1
         try clear hx1
         try clear p2
         try clear c3
         try clear c4
         try clear c4b0
         try clear c4b1
         try clear c11
         try clear c11b0
         try clear c12
         try clear c12b0
         try clear p12
         try clear q12
         try clear hx12
         try clear c13
         try clear c14
         try clear c15
         try clear c15b0
         try clear c15b1
         try clear hx127_0
         try clear hx127_1
         try clear hx127_2
         try clear hx128_0
         try clear hx128_1
         try clear hx128_2
         try clear p127
         try clear p128
         try clear p2
         try clear q127
         try clear q128
         obtain ⟨kq, x72_13, rfl, HA, HJ13, HI124, HI126, HB⟩ := hcut
         cases kq with
         | zero => exact absurd HA.out (by simp [girandolelaw23_LedgerAll.j1])
         | succ kj13 =>
          have H := HA.out
          clear HA
          simp only [girandolelaw23_LedgerAll.j1] at H
          by_cases c16 : x72_13 = true
          ·
           subst c16
           have H1 : (if 0 ≤ x5_1 then (if x5_1 < (l0.length : Int) then ((ledger_Open.f x125000_1 ((Go.bits .and .i64 ((rd_T29 l0 x5_1).f1) 3) % 4294967296) ((rd_T29 l0 x5_1).f2)).bind fun bt130 => ((refl_Open.f x127000_1 ((Go.bits .and .i64 ((rd_T29 l0 x5_1).f1) 3) % 4294967296) ((rd_T29 l0 x5_1).f2)).bind fun bt133 => (if (bt130.1 != bt133.1) = true then (some false) else (girandolelaw23_LedgerAll.j3 kj13 l0 x5_1 ((Go.bits .and .i64 ((rd_T29 l0 x5_1).f1) 3) % 4294967296) bt130.2 bt133.2)))) else (none)) else (none)) = some r := by rw [if_pos rfl] at H; exact H
           clear H
           have H := H1
           clear H1
           by_cases c17 : 0 ≤ x5_1
           ·
            rw [if_pos c17] at H
            have c17b0 : decide (0 ≤ x5_1) = true := decide_eq_true c17
            clear c17
            by_cases c18 : x5_1 < (l0.length : Int)
            ·
             rw [if_pos c18] at H
             have c18b0 : decide (x5_1 < (l0.length : Int)) = true := decide_eq_true c18
             clear c18
             replace H := Option.bind_eq_some_iff.mp H
             obtain ⟨⟨t130, t131⟩, A190, H⟩ := H
             replace H : ((refl_Open.f x127000_1 ((Go.bits .and .i64 ((rd_T29 l0 x5_1).f1) 3) % 4294967296) ((rd_T29 l0 x5_1).f2)).bind fun bt133 => (if (t130 != bt133.1) = true then (some false) else (girandolelaw23_LedgerAll.j3 kj13 l0 x5_1 ((Go.bits .and .i64 ((rd_T29 l0 x5_1).f1) 3) % 4294967296) t131 bt133.2))) = some r := H
             have A19 := Aside0.mk A190
             clear A190
             replace H := Option.bind_eq_some_iff.mp H
             obtain ⟨⟨t133, t134⟩, A200, H⟩ := H
             replace H : (if (t130 != t133) = true then (some false) else (girandolelaw23_LedgerAll.j3 kj13 l0 x5_1 ((Go.bits .and .i64 ((rd_T29 l0 x5_1).f1) 3) % 4294967296) t131 t134)) = some r := H
             have A20 := Aside0.mk A200
             clear A200
             by_cases c21 : (t130 != t133) = true
             ·
              rw [if_pos c21] at H
              have c21b0 : (t130 != t133) = true := c21
              (try (have c21b1 : decide (t130 = t133) = false := by simpa using c21))
              (try (have c21b2 : (t130 == t133) = false := by simpa using c21))
              (try (have c21b3 : ¬ (t130 = t133) := by simpa using c21))
              clear c21
              obtain rfl := Option.some.inj H
              try go_wp2
              have n0_ := Aside0.mk (IsS55.drew HI124.out)
              have n1_ := Aside0.mk (IsS58.drew HI126.out)
              have n2_ := Aside0.mk (below_drew1 HB.out)
              clear HI124
              clear HI126
              clear HB
              have HI124 := n0_
              have HI126 := n1_
              have HB := n2_
              clear n0_ n1_ n2_
              have p129 : 0 ≤ (x5_1 : Int) := of_decide_eq_true (by first | (with_reducible assumption) | assumption)
              have q129 : x5_1 < (l0.length : Int) := of_decide_eq_true (by first | (with_reducible assumption) | assumption)
              obtain ⟨ad129, e129, hx129_0, hx129_1, hx129_2⟩ := at_T29 HR0.out x5_1 p129 q129
              have hw129_2 := hx129_2
              have hw129_1 := hx129_1
              have hw129_0 := hx129_0
              obtain rfl : ad127 = ad129 := (by injection e129)
              replace hx129_0 := (HB.out.cell (World.block_lt_of_cell? w _ hx129_0)).trans hx129_0
              replace hx129_1 := (HB.out.cell (World.block_lt_of_cell? w _ hx129_1)).trans hx129_1
              replace hx129_2 := (HB.out.cell (World.block_lt_of_cell? w _ hx129_2)).trans hx129_2
              replace p129 := eq_true p129
              replace q129 := eq_true q129
              have p132 : 0 ≤ (x5_1 : Int) := of_decide_eq_true (by first | (with_reducible assumption) | assumption)
              have q132 : x5_1 < (l0.length : Int) := of_decide_eq_true (by first | (with_reducible assumption) | assumption)
              obtain ⟨ad132, e132, hx132_0, hx132_1, hx132_2⟩ := at_T29 HR0.out x5_1 p132 q132
              have hw132_2 := hx132_2
              have hw132_1 := hx132_1
              have hw132_0 := hx132_0
              obtain rfl : ad127 = ad132 := (by injection e132)
              replace hx132_0 := (HB.out.cell (World.block_lt_of_cell? w _ hx132_0)).trans hx132_0
              replace hx132_1 := (HB.out.cell (World.block_lt_of_cell? w _ hx132_1)).trans hx132_1
              replace hx132_2 := (HB.out.cell (World.block_lt_of_cell? w _ hx132_2)).trans hx132_2
              replace p132 := eq_true p132
              replace q132 := eq_true q132
              refine start_ (n := 17) (S := fun w' => w'.cell? (ad127.add ((x5_1).toNat * 3)) = some (.int .i64 ((rd_T29 l0 x5_1).f0)) ∧ w'.cell? ⟨(ad127.add ((x5_1).toNat * 3)).block, (ad127.add ((x5_1).toNat * 3)).off + 1, none⟩ = some (.int .i64 ((rd_T29 l0 x5_1).f1)) ∧ w'.cell? ⟨(ad127.add ((x5_1).toNat * 3)).block, (ad127.add ((x5_1).toNat * 3)).off + 2, none⟩ = some (.int .i64 ((rd_T29 l0 x5_1).f2)) ∧ w'.cell? (ad127.add ((x5_1).toNat * 3)) = some (.int .i64 ((rd_T29 l0 x5_1).f0)) ∧ w'.cell? ⟨(ad127.add ((x5_1).toNat * 3)).block, (ad127.add ((x5_1).toNat * 3)).off + 1, none⟩ = some (.int .i64 ((rd_T29 l0 x5_1).f1)) ∧ w'.cell? ⟨(ad127.add ((x5_1).toNat * 3)).block, (ad127.add ((x5_1).toNat * 3)).off + 2, none⟩ = some (.int .i64 ((rd_T29 l0 x5_1).f2))) (ds := []) #[false, false, false, false, false, false, false, false, false, false, false, false, false, false, false, false, false] (by kernel_rfl) rfl rfl ⟨((HB.out.cell (World.block_lt_of_cell? w _ hw129_0)).trans hw129_0), ((HB.out.cell (World.block_lt_of_cell? w _ hw129_1)).trans hw129_1), ((HB.out.cell (World.block_lt_of_cell? w _ hw129_2)).trans hw129_2), ((HB.out.cell (World.block_lt_of_cell? w _ hw132_0)).trans hw132_0), ((HB.out.cell (World.block_lt_of_cell? w _ hw132_1)).trans hw132_1), ((HB.out.cell (World.block_lt_of_cell? w _ hw132_2)).trans hw132_2)⟩ (fun hHeld => ?_); refine with_tabW girandolelaw23_LedgerAll.tab20 girandolelaw23_LedgerAll.bits20 (fun HT_ HW_ => ?_)
              generalize wc.drew = w22 at HI124 HI126 HB hx129_0 hx129_1 hx129_2 hx132_0 hx132_1 hx132_2 hHeld ⊢
              refine pure_ (i := 0) (N := some 75) (v := ?_) (a' := ?_) #[true, false, false, false, false, false, false, false, false, false, false, false, false, false, false, false, false] rfl rfl (any_of HT_.out (by kernel_rfl)) (fun _ _ _ h => h) (Or.inl ⟨by rfl, ?_⟩) ?_ ?_
              rotate_left
              ·
               intro w'
               go_simp
               with_reducible rfl
              rotate_left
              ·
               simp only [Act.put, List.setIfInBounds_toArray, List.set_cons_zero, List.set_cons_succ, i64_w, i32_w]
               rfl
              refine pure_ (i := 1) (N := some 76) (v := ?_) (a' := ?_) #[true, true, false, false, false, false, false, false, false, false, false, false, false, false, false, false, false] rfl rfl (any_of HT_.out (by kernel_rfl)) (fun _ _ _ h => h) (Or.inl ⟨by rfl, ?_⟩) ?_ ?_
              rotate_left
              ·
               intro w'
               go_simp
               with_reducible rfl
              rotate_left
              ·
               simp only [Act.put, List.setIfInBounds_toArray, List.set_cons_zero, List.set_cons_succ, i64_w, i32_w]
               rfl
              refine pure_ (i := 2) (N := some 77) (v := ?_) (a' := ?_) #[true, true, true, false, false, false, false, false, false, false, false, false, false, false, false, false, false] rfl rfl (any_of HT_.out (by kernel_rfl)) (fun _ _ _ h => h) (Or.inl ⟨by rfl, ?_⟩) ?_ ?_
              rotate_left
              ·
               intro w'
               go_simp
               with_reducible rfl
              rotate_left
              ·
               simp only [Act.put, List.setIfInBounds_toArray, List.set_cons_zero, List.set_cons_succ, i64_w, i32_w]
               rfl
              refine pure_ (i := 3) (N := some 78) (v := ?_) (a' := ?_) #[true, true, true, true, false, false, false, false, false, false, false, false, false, false, false, false, false] rfl rfl (any_of HT_.out (by kernel_rfl)) (fun _ _ _ h => h) (Or.inl ⟨by rfl, ?_⟩) ?_ ?_
              rotate_left
              ·
               intro w'
               go_simp
               with_reducible rfl
              rotate_left
              ·
               simp only [Act.put, List.setIfInBounds_toArray, List.set_cons_zero, List.set_cons_succ, i64_w, i32_w]
               rfl
              refine pure_ (i := 4) (N := some 79) (v := ?_) (a' := ?_) #[true, true, true, true, true, false, false, false, false, false, false, false, false, false, false, false, false] rfl rfl (any_of HT_.out (by kernel_rfl)) (fun _ _ _ h => h) (Or.inl ⟨by rfl, ?_⟩) ?_ ?_
              rotate_left
              ·
               intro w'
               go_simp
               with_reducible rfl
              rotate_left
              ·
               simp only [Act.put, List.setIfInBounds_toArray, List.set_cons_zero, List.set_cons_succ, i64_w, i32_w]
               rfl
              refine pure_ (i := 5) (N := some 80) (v := ?_) (a' := ?_) #[true, true, true, true, true, true, false, false, false, false, false, false, false, false, false, false, false] rfl rfl (any_of HT_.out (by kernel_rfl)) (fun _ _ _ h => h) (Or.inl ⟨by rfl, ?_⟩) ?_ ?_
              rotate_left
              ·
               intro w'
               go_simp
               with_reducible rfl
              rotate_left
              ·
               simp only [Act.put, List.setIfInBounds_toArray, List.set_cons_zero, List.set_cons_succ, i64_w, i32_w]
               rfl
              refine pure_ (i := 8) (N := some 83) (v := ?_) (a' := ?_) #[true, true, true, true, true, true, false, false, true, false, false, false, false, false, false, false, false] rfl rfl (any_of HT_.out (by kernel_rfl)) (fun _ _ _ h => h) (Or.inl ⟨by rfl, ?_⟩) ?_ ?_
              rotate_left
              ·
               intro w'
               go_simp
               with_reducible rfl
              rotate_left
              ·
               simp only [Act.put, List.setIfInBounds_toArray, List.set_cons_zero, List.set_cons_succ, i64_w, i32_w]
               rfl
              refine pure_ (i := 9) (N := some 84) (v := ?_) (a' := ?_) #[true, true, true, true, true, true, false, false, true, true, false, false, false, false, false, false, false] rfl rfl (any_of HT_.out (by kernel_rfl)) (fun _ _ _ h => h) (Or.inl ⟨by rfl, ?_⟩) ?_ ?_
              rotate_left
              ·
               intro w'
               go_simp
               with_reducible rfl
              rotate_left
              ·
               simp only [Act.put, List.setIfInBounds_toArray, List.set_cons_zero, List.set_cons_succ, i64_w, i32_w]
               rfl
              refine pure_ (i := 10) (N := some 85) (v := ?_) (a' := ?_) #[true, true, true, true, true, true, false, false, true, true, true, false, false, false, false, false, false] rfl rfl (any_of HT_.out (by kernel_rfl)) (fun _ _ _ h => h) (Or.inl ⟨by rfl, ?_⟩) ?_ ?_
              rotate_left
              ·
               intro w'
               go_simp
               with_reducible rfl
              rotate_left
              ·
               simp only [Act.put, List.setIfInBounds_toArray, List.set_cons_zero, List.set_cons_succ, i64_w, i32_w]
               rfl
              refine pure_ (i := 11) (N := some 86) (v := ?_) (a' := ?_) #[true, true, true, true, true, true, false, false, true, true, true, true, false, false, false, false, false] rfl rfl (any_of HT_.out (by kernel_rfl)) (fun _ _ _ h => h) (Or.inl ⟨by rfl, ?_⟩) ?_ ?_
              rotate_left
              ·
               intro w'
               go_simp
               with_reducible rfl
              rotate_left
              ·
               simp only [Act.put, List.setIfInBounds_toArray, List.set_cons_zero, List.set_cons_succ, i64_w, i32_w]
               rfl
              refine pure_ (i := 12) (N := some 87) (v := ?_) (a' := ?_) #[true, true, true, true, true, true, false, false, true, true, true, true, true, false, false, false, false] rfl rfl (any_of HT_.out (by kernel_rfl)) (fun _ _ _ h => h) (Or.inl ⟨by rfl, ?_⟩) ?_ ?_
              rotate_left
              ·
               intro w'
               go_simp
               with_reducible rfl
              rotate_left
              ·
               simp only [Act.put, List.setIfInBounds_toArray, List.set_cons_zero, List.set_cons_succ, i64_w, i32_w]
               rfl
              refine pure_ (i := 13) (N := some 88) (v := ?_) (a' := ?_) #[true, true, true, true, true, true, false, false, true, true, true, true, true, true, false, false, false] rfl rfl (any_of HT_.out (by kernel_rfl)) (fun _ _ _ h => h) (Or.inl ⟨by rfl, ?_⟩) ?_ ?_
              rotate_left
              ·
               intro w'
               go_simp
               with_reducible rfl
              rotate_left
              ·
               simp only [Act.put, List.setIfInBounds_toArray, List.set_cons_zero, List.set_cons_succ, i64_w, i32_w]
               rfl
              refine take_ (i := 6) (N := some 81) (v := ?_) (a' := ?_) #[true, true, true, true, true, true, true, false, true, true, true, true, true, true, false, false, false] rfl rfl (take_ofW HT_.out HW_.out (by kernel_rfl)) (fun _ _ _ h => h) (Or.inl ⟨by rfl, ?_⟩) hHeld ?_ ?_
              rotate_left
              ·
               rintro w' ⟨s0, s1, s2, s3, s4, s5⟩
               go_simp
               with_reducible rfl
              rotate_left
              ·
               simp only [Act.put, List.setIfInBounds_toArray, List.set_cons_zero, List.set_cons_succ, i64_w, i32_w]
               rfl
              refine take_ (i := 14) (N := some 89) (v := ?_) (a' := ?_) #[true, true, true, true, true, true, true, false, true, true, true, true, true, true, true, false, false] rfl rfl (take_ofW HT_.out HW_.out (by kernel_rfl)) (fun _ _ _ h => h) (Or.inl ⟨by rfl, ?_⟩) hHeld ?_ ?_
              rotate_left
              ·
               rintro w' ⟨s0, s1, s2, s3, s4, s5⟩
               go_simp
               with_reducible rfl
              rotate_left
              ·
               simp only [Act.put, List.setIfInBounds_toArray, List.set_cons_zero, List.set_cons_succ, i64_w, i32_w]
               rfl
              refine one_ (i := 7) (N := some 82) #[true, true, true, true, true, true, true, true, true, true, true, true, true, true, true, false, false] rfl rfl (one_of HT_.out (by kernel_rfl)) (by decide) (fun K hK => ?_)
              refine goes_ Try.func15 (by kernel_rfl) rfl #[.pointer (some ⟨g124, 0, none⟩), .int .u32 ((Go.bits .and .i64 ((rd_T29 l0 x5_1).f1) 3) % 4294967296), .int .i64 ((rd_T29 l0 x5_1).f2)] (by rfl) rfl rfl (by (try simp only [List.map_toArray, List.map_cons, List.map_nil]); first | done | rfl | (simp only [List.length_drop, List.length_take]; rfl)) ?_
              with_reducible refine (ledger_Open.calls g124 x125000_1 ((Go.bits .and .i64 ((rd_T29 l0 x5_1).f1) 3) % 4294967296) ((rd_T29 l0 x5_1).f2) t130 t131 w _ ?side1 ?side2 A19.out).mono ?_
              (case side1 => repeat (first | (with_reducible first | exact HI124.out | apply IsS55.alloc | apply IsS55.drewN | apply IsS55.drew | apply IsS55.set_0 | refine IsS55.far ?_ NB124_126.out _) | exact HI124.out))
              (case side2 => repeat (first | (with_reducible first | exact HB.out | apply below_alloc | apply pw_below_drewN | apply below_drew1 | refine below_set ?_ (IsS55.ge HI124.out) | refine below_set ?_ (IsS58.ge HI126.out)) | exact HB.out))
              rintro e w23 ⟨rfl, hi, hb, hk⟩
              refine ⟨_, rfl, ?_⟩
              have n0_ := Aside0.mk (IsS58.beside (show IsS58 w _ g126 x127000_1 from by repeat (first | (with_reducible first | exact HI126.out | apply IsS58.alloc | apply IsS58.drewN | apply IsS58.drew | apply IsS58.set_0 | refine IsS58.far ?_ NB126_124.out _) | exact HI126.out)) hk NX124_126.out)
              have n1_ := Aside0.mk (hb)
              have n2_ := Aside0.mk (hi)
              clear HI126
              clear HB
              clear HI124
              have HI126 := n0_
              have HB := n1_
              have HI124 := n2_
              clear n0_ n1_ n2_
              (try clear hb)
              (try clear hb2)
              (try clear hk)
              (try clear hi)
              refine hK.out _ _ ⟨((HB.out.cell (World.block_lt_of_cell? w _ hw129_0)).trans hw129_0), ((HB.out.cell (World.block_lt_of_cell? w _ hw129_1)).trans hw129_1), ((HB.out.cell (World.block_lt_of_cell? w _ hw129_2)).trans hw129_2), ((HB.out.cell (World.block_lt_of_cell? w _ hw132_0)).trans hw132_0), ((HB.out.cell (World.block_lt_of_cell? w _ hw132_1)).trans hw132_1), ((HB.out.cell (World.block_lt_of_cell? w _ hw132_2)).trans hw132_2)⟩ (fun hHeld => ?_)
              clear hK K
              refine norm_ (a' := ?_) ?_ ?_
              rotate_left
              ·
               show Act.put _ (some 82) _ = _
               simp only [Act.put, List.setIfInBounds_toArray, List.set_cons_zero, List.set_cons_succ, i64_w, i32_w]
               rfl
              refine one_ (i := 15) (N := some 90) #[true, true, true, true, true, true, true, true, true, true, true, true, true, true, true, true, false] rfl rfl (one_of HT_.out (by kernel_rfl)) (by decide) (fun K hK => ?_)
              refine goes_ Try.func16 (by kernel_rfl) rfl #[.pointer (some ⟨g126, 0, none⟩), .int .u32 ((Go.bits .and .i64 ((rd_T29 l0 x5_1).f1) 3) % 4294967296), .int .i64 ((rd_T29 l0 x5_1).f2)] (by rfl) rfl rfl (by (try simp only [List.map_toArray, List.map_cons, List.map_nil]); first | done | rfl | (simp only [List.length_drop, List.length_take]; rfl)) ?_
              with_reducible refine (refl_Open.calls g126 x127000_1 ((Go.bits .and .i64 ((rd_T29 l0 x5_1).f1) 3) % 4294967296) ((rd_T29 l0 x5_1).f2) t133 t134 w _ ?side1 ?side2 A20.out).mono ?_
              (case side1 => repeat (first | (with_reducible first | exact HI126.out | apply IsS58.alloc | apply IsS58.drewN | apply IsS58.drew | apply IsS58.set_0 | refine IsS58.far ?_ NB126_124.out _) | exact HI126.out))
              (case side2 => repeat (first | (with_reducible first | exact HB.out | apply below_alloc | apply pw_below_drewN | apply below_drew1 | refine below_set ?_ (IsS55.ge HI124.out) | refine below_set ?_ (IsS58.ge HI126.out)) | exact HB.out))
              rintro e w24 ⟨rfl, hi, hb, hk⟩
              refine ⟨_, rfl, ?_⟩
              have n0_ := Aside0.mk (IsS55.beside (show IsS55 w _ g124 t131 from by repeat (first | (with_reducible first | exact HI124.out | apply IsS55.alloc | apply IsS55.drewN | apply IsS55.drew | apply IsS55.set_0 | refine IsS55.far ?_ NB124_126.out _) | exact HI124.out)) hk NX124_126.out)
              have n1_ := Aside0.mk (hb)
              have n2_ := Aside0.mk (hi)
              clear HI124
              clear HB
              clear HI126
              have HI124 := n0_
              have HB := n1_
              have HI126 := n2_
              clear n0_ n1_ n2_
              (try clear hb)
              (try clear hb2)
              (try clear hk)
              (try clear hi)
              refine hK.out _ _ ⟨((HB.out.cell (World.block_lt_of_cell? w _ hw129_0)).trans hw129_0), ((HB.out.cell (World.block_lt_of_cell? w _ hw129_1)).trans hw129_1), ((HB.out.cell (World.block_lt_of_cell? w _ hw129_2)).trans hw129_2), ((HB.out.cell (World.block_lt_of_cell? w _ hw132_0)).trans hw132_0), ((HB.out.cell (World.block_lt_of_cell? w _ hw132_1)).trans hw132_1), ((HB.out.cell (World.block_lt_of_cell? w _ hw132_2)).trans hw132_2)⟩ (fun hHeld => ?_)
              clear hK K
              refine norm_ (a' := ?_) ?_ ?_
              rotate_left
              ·
               show Act.put _ (some 90) _ = _
               simp only [Act.put, List.setIfInBounds_toArray, List.set_cons_zero, List.set_cons_succ, i64_w, i32_w]
               rfl
              refine pure_ (i := 16) (N := some 91) (v := ?_) (a' := ?_) #[true, true, true, true, true, true, true, true, true, true, true, true, true, true, true, true, true] rfl rfl (any_of HT_.out (by kernel_rfl)) (fun _ _ _ h => h) (Or.inl ⟨by rfl, ?_⟩) ?_ ?_
              rotate_left
              ·
               intro w'
               go_simp
               with_reducible rfl
              rotate_left
              ·
               simp only [Act.put, List.setIfInBounds_toArray, List.set_cons_zero, List.set_cons_succ, i64_w, i32_w]
               rfl
              refine done_ (done_of HT_.out (by kernel_rfl)) ?_
              try go_wp2
              go_ret
              exact ⟨by first | rfl | (simp [errW_none, errW_some] <;> rfl) | (simp [*, errW_none, errW_some] <;> rfl), by repeat (first | (with_reducible first | exact HB.out | apply below_alloc | apply pw_below_drewN | apply below_drew1 | refine below_set ?_ (IsS55.ge HI124.out) | refine below_set ?_ (IsS58.ge HI126.out)) | exact HB.out)⟩
             ·
              rw [if_neg c21] at H
              have c21b0 : (t130 != t133) = false := by simpa using c21
              (try (have c21b1 : decide (t130 = t133) = true := by simpa using c21))
              (try (have c21b2 : (t130 == t133) = true := by simpa using c21))
              clear c21
              have H' := Aside0.mk H
              clear H
              try go_wp2
              have n0_ := Aside0.mk (IsS55.drew HI124.out)
              have n1_ := Aside0.mk (IsS58.drew HI126.out)
              have n2_ := Aside0.mk (below_drew1 HB.out)
              clear HI124
              clear HI126
              clear HB
              have HI124 := n0_
              have HI126 := n1_
              have HB := n2_
              clear n0_ n1_ n2_
              have p129 : 0 ≤ (x5_1 : Int) := of_decide_eq_true (by first | (with_reducible assumption) | assumption)
              have q129 : x5_1 < (l0.length : Int) := of_decide_eq_true (by first | (with_reducible assumption) | assumption)
              obtain ⟨ad129, e129, hx129_0, hx129_1, hx129_2⟩ := at_T29 HR0.out x5_1 p129 q129
              have hw129_2 := hx129_2
              have hw129_1 := hx129_1
              have hw129_0 := hx129_0
              obtain rfl : ad127 = ad129 := (by injection e129)
              replace hx129_0 := (HB.out.cell (World.block_lt_of_cell? w _ hx129_0)).trans hx129_0
              replace hx129_1 := (HB.out.cell (World.block_lt_of_cell? w _ hx129_1)).trans hx129_1
              replace hx129_2 := (HB.out.cell (World.block_lt_of_cell? w _ hx129_2)).trans hx129_2
              replace p129 := eq_true p129
              replace q129 := eq_true q129
              have p132 : 0 ≤ (x5_1 : Int) := of_decide_eq_true (by first | (with_reducible assumption) | assumption)
              have q132 : x5_1 < (l0.length : Int) := of_decide_eq_true (by first | (with_reducible assumption) | assumption)
              obtain ⟨ad132, e132, hx132_0, hx132_1, hx132_2⟩ := at_T29 HR0.out x5_1 p132 q132
              have hw132_2 := hx132_2
              have hw132_1 := hx132_1
              have hw132_0 := hx132_0
              obtain rfl : ad127 = ad132 := (by injection e132)
              replace hx132_0 := (HB.out.cell (World.block_lt_of_cell? w _ hx132_0)).trans hx132_0
              replace hx132_1 := (HB.out.cell (World.block_lt_of_cell? w _ hx132_1)).trans hx132_1
              replace hx132_2 := (HB.out.cell (World.block_lt_of_cell? w _ hx132_2)).trans hx132_2
              replace p132 := eq_true p132
              replace q132 := eq_true q132
              refine start_ (n := 17) (S := fun w' => w'.cell? (ad127.add ((x5_1).toNat * 3)) = some (.int .i64 ((rd_T29 l0 x5_1).f0)) ∧ w'.cell? ⟨(ad127.add ((x5_1).toNat * 3)).block, (ad127.add ((x5_1).toNat * 3)).off + 1, none⟩ = some (.int .i64 ((rd_T29 l0 x5_1).f1)) ∧ w'.cell? ⟨(ad127.add ((x5_1).toNat * 3)).block, (ad127.add ((x5_1).toNat * 3)).off + 2, none⟩ = some (.int .i64 ((rd_T29 l0 x5_1).f2)) ∧ w'.cell? (ad127.add ((x5_1).toNat * 3)) = some (.int .i64 ((rd_T29 l0 x5_1).f0)) ∧ w'.cell? ⟨(ad127.add ((x5_1).toNat * 3)).block, (ad127.add ((x5_1).toNat * 3)).off + 1, none⟩ = some (.int .i64 ((rd_T29 l0 x5_1).f1)) ∧ w'.cell? ⟨(ad127.add ((x5_1).toNat * 3)).block, (ad127.add ((x5_1).toNat * 3)).off + 2, none⟩ = some (.int .i64 ((rd_T29 l0 x5_1).f2))) (ds := []) #[false, false, false, false, false, false, false, false, false, false, false, false, false, false, false, false, false] (by kernel_rfl) rfl rfl ⟨((HB.out.cell (World.block_lt_of_cell? w _ hw129_0)).trans hw129_0), ((HB.out.cell (World.block_lt_of_cell? w _ hw129_1)).trans hw129_1), ((HB.out.cell (World.block_lt_of_cell? w _ hw129_2)).trans hw129_2), ((HB.out.cell (World.block_lt_of_cell? w _ hw132_0)).trans hw132_0), ((HB.out.cell (World.block_lt_of_cell? w _ hw132_1)).trans hw132_1), ((HB.out.cell (World.block_lt_of_cell? w _ hw132_2)).trans hw132_2)⟩ (fun hHeld => ?_); refine with_tabW girandolelaw23_LedgerAll.tab20 girandolelaw23_LedgerAll.bits20 (fun HT_ HW_ => ?_)
              generalize wc.drew = w25 at HI124 HI126 HB hx129_0 hx129_1 hx129_2 hx132_0 hx132_1 hx132_2 hHeld ⊢
              refine pure_ (i := 0) (N := some 75) (v := ?_) (a' := ?_) #[true, false, false, false, false, false, false, false, false, false, false, false, false, false, false, false, false] rfl rfl (any_of HT_.out (by kernel_rfl)) (fun _ _ _ h => h) (Or.inl ⟨by rfl, ?_⟩) ?_ ?_
              rotate_left
              ·
               intro w'
               go_simp
               with_reducible rfl
              rotate_left
              ·
               simp only [Act.put, List.setIfInBounds_toArray, List.set_cons_zero, List.set_cons_succ, i64_w, i32_w]
               rfl
              refine pure_ (i := 1) (N := some 76) (v := ?_) (a' := ?_) #[true, true, false, false, false, false, false, false, false, false, false, false, false, false, false, false, false] rfl rfl (any_of HT_.out (by kernel_rfl)) (fun _ _ _ h => h) (Or.inl ⟨by rfl, ?_⟩) ?_ ?_
              rotate_left
              ·
               intro w'
               go_simp
               with_reducible rfl
              rotate_left
              ·
               simp only [Act.put, List.setIfInBounds_toArray, List.set_cons_zero, List.set_cons_succ, i64_w, i32_w]
               rfl
              refine pure_ (i := 2) (N := some 77) (v := ?_) (a' := ?_) #[true, true, true, false, false, false, false, false, false, false, false, false, false, false, false, false, false] rfl rfl (any_of HT_.out (by kernel_rfl)) (fun _ _ _ h => h) (Or.inl ⟨by rfl, ?_⟩) ?_ ?_
              rotate_left
              ·
               intro w'
               go_simp
               with_reducible rfl
              rotate_left
              ·
               simp only [Act.put, List.setIfInBounds_toArray, List.set_cons_zero, List.set_cons_succ, i64_w, i32_w]
               rfl
              refine pure_ (i := 3) (N := some 78) (v := ?_) (a' := ?_) #[true, true, true, true, false, false, false, false, false, false, false, false, false, false, false, false, false] rfl rfl (any_of HT_.out (by kernel_rfl)) (fun _ _ _ h => h) (Or.inl ⟨by rfl, ?_⟩) ?_ ?_
              rotate_left
              ·
               intro w'
               go_simp
               with_reducible rfl
              rotate_left
              ·
               simp only [Act.put, List.setIfInBounds_toArray, List.set_cons_zero, List.set_cons_succ, i64_w, i32_w]
               rfl
              refine pure_ (i := 4) (N := some 79) (v := ?_) (a' := ?_) #[true, true, true, true, true, false, false, false, false, false, false, false, false, false, false, false, false] rfl rfl (any_of HT_.out (by kernel_rfl)) (fun _ _ _ h => h) (Or.inl ⟨by rfl, ?_⟩) ?_ ?_
              rotate_left
              ·
               intro w'
               go_simp
               with_reducible rfl
              rotate_left
              ·
               simp only [Act.put, List.setIfInBounds_toArray, List.set_cons_zero, List.set_cons_succ, i64_w, i32_w]
               rfl
              refine pure_ (i := 5) (N := some 80) (v := ?_) (a' := ?_) #[true, true, true, true, true, true, false, false, false, false, false, false, false, false, false, false, false] rfl rfl (any_of HT_.out (by kernel_rfl)) (fun _ _ _ h => h) (Or.inl ⟨by rfl, ?_⟩) ?_ ?_
              rotate_left
              ·
               intro w'
               go_simp
               with_reducible rfl
              rotate_left
              ·
               simp only [Act.put, List.setIfInBounds_toArray, List.set_cons_zero, List.set_cons_succ, i64_w, i32_w]
               rfl
              refine pure_ (i := 8) (N := some 83) (v := ?_) (a' := ?_) #[true, true, true, true, true, true, false, false, true, false, false, false, false, false, false, false, false] rfl rfl (any_of HT_.out (by kernel_rfl)) (fun _ _ _ h => h) (Or.inl ⟨by rfl, ?_⟩) ?_ ?_
              rotate_left
              ·
               intro w'
               go_simp
               with_reducible rfl
              rotate_left
              ·
               simp only [Act.put, List.setIfInBounds_toArray, List.set_cons_zero, List.set_cons_succ, i64_w, i32_w]
               rfl
              refine pure_ (i := 9) (N := some 84) (v := ?_) (a' := ?_) #[true, true, true, true, true, true, false, false, true, true, false, false, false, false, false, false, false] rfl rfl (any_of HT_.out (by kernel_rfl)) (fun _ _ _ h => h) (Or.inl ⟨by rfl, ?_⟩) ?_ ?_
              rotate_left
              ·
               intro w'
               go_simp
               with_reducible rfl
              rotate_left
              ·
               simp only [Act.put, List.setIfInBounds_toArray, List.set_cons_zero, List.set_cons_succ, i64_w, i32_w]
               rfl
              refine pure_ (i := 10) (N := some 85) (v := ?_) (a' := ?_) #[true, true, true, true, true, true, false, false, true, true, true, false, false, false, false, false, false] rfl rfl (any_of HT_.out (by kernel_rfl)) (fun _ _ _ h => h) (Or.inl ⟨by rfl, ?_⟩) ?_ ?_
              rotate_left
              ·
               intro w'
               go_simp
               with_reducible rfl
              rotate_left
              ·
               simp only [Act.put, List.setIfInBounds_toArray, List.set_cons_zero, List.set_cons_succ, i64_w, i32_w]
               rfl
              refine pure_ (i := 11) (N := some 86) (v := ?_) (a' := ?_) #[true, true, true, true, true, true, false, false, true, true, true, true, false, false, false, false, false] rfl rfl (any_of HT_.out (by kernel_rfl)) (fun _ _ _ h => h) (Or.inl ⟨by rfl, ?_⟩) ?_ ?_
              rotate_left
              ·
               intro w'
               go_simp
               with_reducible rfl
              rotate_left
              ·
               simp only [Act.put, List.setIfInBounds_toArray, List.set_cons_zero, List.set_cons_succ, i64_w, i32_w]
               rfl
              refine pure_ (i := 12) (N := some 87) (v := ?_) (a' := ?_) #[true, true, true, true, true, true, false, false, true, true, true, true, true, false, false, false, false] rfl rfl (any_of HT_.out (by kernel_rfl)) (fun _ _ _ h => h) (Or.inl ⟨by rfl, ?_⟩) ?_ ?_
              rotate_left
              ·
               intro w'
               go_simp
               with_reducible rfl
              rotate_left
              ·
               simp only [Act.put, List.setIfInBounds_toArray, List.set_cons_zero, List.set_cons_succ, i64_w, i32_w]
               rfl
              refine pure_ (i := 13) (N := some 88) (v := ?_) (a' := ?_) #[true, true, true, true, true, true, false, false, true, true, true, true, true, true, false, false, false] rfl rfl (any_of HT_.out (by kernel_rfl)) (fun _ _ _ h => h) (Or.inl ⟨by rfl, ?_⟩) ?_ ?_
              rotate_left
              ·
               intro w'
               go_simp
               with_reducible rfl
              rotate_left
              ·
               simp only [Act.put, List.setIfInBounds_toArray, List.set_cons_zero, List.set_cons_succ, i64_w, i32_w]
               rfl
              refine take_ (i := 6) (N := some 81) (v := ?_) (a' := ?_) #[true, true, true, true, true, true, true, false, true, true, true, true, true, true, false, false, false] rfl rfl (take_ofW HT_.out HW_.out (by kernel_rfl)) (fun _ _ _ h => h) (Or.inl ⟨by rfl, ?_⟩) hHeld ?_ ?_
              rotate_left
              ·
               rintro w' ⟨s0, s1, s2, s3, s4, s5⟩
               go_simp
               with_reducible rfl
              rotate_left
              ·
               simp only [Act.put, List.setIfInBounds_toArray, List.set_cons_zero, List.set_cons_succ, i64_w, i32_w]
               rfl
              refine take_ (i := 14) (N := some 89) (v := ?_) (a' := ?_) #[true, true, true, true, true, true, true, false, true, true, true, true, true, true, true, false, false] rfl rfl (take_ofW HT_.out HW_.out (by kernel_rfl)) (fun _ _ _ h => h) (Or.inl ⟨by rfl, ?_⟩) hHeld ?_ ?_
              rotate_left
              ·
               rintro w' ⟨s0, s1, s2, s3, s4, s5⟩
               go_simp
               with_reducible rfl
              rotate_left
              ·
               simp only [Act.put, List.setIfInBounds_toArray, List.set_cons_zero, List.set_cons_succ, i64_w, i32_w]
               rfl
              refine one_ (i := 7) (N := some 82) #[true, true, true, true, true, true, true, true, true, true, true, true, true, true, true, false, false] rfl rfl (one_of HT_.out (by kernel_rfl)) (by decide) (fun K hK => ?_)
              refine goes_ Try.func15 (by kernel_rfl) rfl #[.pointer (some ⟨g124, 0, none⟩), .int .u32 ((Go.bits .and .i64 ((rd_T29 l0 x5_1).f1) 3) % 4294967296), .int .i64 ((rd_T29 l0 x5_1).f2)] (by rfl) rfl rfl (by (try simp only [List.map_toArray, List.map_cons, List.map_nil]); first | done | rfl | (simp only [List.length_drop, List.length_take]; rfl)) ?_
              with_reducible refine (ledger_Open.calls g124 x125000_1 ((Go.bits .and .i64 ((rd_T29 l0 x5_1).f1) 3) % 4294967296) ((rd_T29 l0 x5_1).f2) t130 t131 w _ ?side1 ?side2 A19.out).mono ?_
              (case side1 => repeat (first | (with_reducible first | exact HI124.out | apply IsS55.alloc | apply IsS55.drewN | apply IsS55.drew | apply IsS55.set_0 | refine IsS55.far ?_ NB124_126.out _) | exact HI124.out))
              (case side2 => repeat (first | (with_reducible first | exact HB.out | apply below_alloc | apply pw_below_drewN | apply below_drew1 | refine below_set ?_ (IsS55.ge HI124.out) | refine below_set ?_ (IsS58.ge HI126.out)) | exact HB.out))
              rintro e w26 ⟨rfl, hi, hb, hk⟩
              refine ⟨_, rfl, ?_⟩
              have n0_ := Aside0.mk (IsS58.beside (show IsS58 w _ g126 x127000_1 from by repeat (first | (with_reducible first | exact HI126.out | apply IsS58.alloc | apply IsS58.drewN | apply IsS58.drew | apply IsS58.set_0 | refine IsS58.far ?_ NB126_124.out _) | exact HI126.out)) hk NX124_126.out)
              have n1_ := Aside0.mk (hb)
              have n2_ := Aside0.mk (hi)
              clear HI126
              clear HB
              clear HI124
              have HI126 := n0_
              have HB := n1_
              have HI124 := n2_
              clear n0_ n1_ n2_
              (try clear hb)
              (try clear hb2)
              (try clear hk)
              (try clear hi)
              refine hK.out _ _ ⟨((HB.out.cell (World.block_lt_of_cell? w _ hw129_0)).trans hw129_0), ((HB.out.cell (World.block_lt_of_cell? w _ hw129_1)).trans hw129_1), ((HB.out.cell (World.block_lt_of_cell? w _ hw129_2)).trans hw129_2), ((HB.out.cell (World.block_lt_of_cell? w _ hw132_0)).trans hw132_0), ((HB.out.cell (World.block_lt_of_cell? w _ hw132_1)).trans hw132_1), ((HB.out.cell (World.block_lt_of_cell? w _ hw132_2)).trans hw132_2)⟩ (fun hHeld => ?_)
              clear hK K
              refine norm_ (a' := ?_) ?_ ?_
              rotate_left
              ·
               show Act.put _ (some 82) _ = _
               simp only [Act.put, List.setIfInBounds_toArray, List.set_cons_zero, List.set_cons_succ, i64_w, i32_w]
               rfl
              refine one_ (i := 15) (N := some 90) #[true, true, true, true, true, true, true, true, true, true, true, true, true, true, true, true, false] rfl rfl (one_of HT_.out (by kernel_rfl)) (by decide) (fun K hK => ?_)
              refine goes_ Try.func16 (by kernel_rfl) rfl #[.pointer (some ⟨g126, 0, none⟩), .int .u32 ((Go.bits .and .i64 ((rd_T29 l0 x5_1).f1) 3) % 4294967296), .int .i64 ((rd_T29 l0 x5_1).f2)] (by rfl) rfl rfl (by (try simp only [List.map_toArray, List.map_cons, List.map_nil]); first | done | rfl | (simp only [List.length_drop, List.length_take]; rfl)) ?_
              with_reducible refine (refl_Open.calls g126 x127000_1 ((Go.bits .and .i64 ((rd_T29 l0 x5_1).f1) 3) % 4294967296) ((rd_T29 l0 x5_1).f2) t133 t134 w _ ?side1 ?side2 A20.out).mono ?_
              (case side1 => repeat (first | (with_reducible first | exact HI126.out | apply IsS58.alloc | apply IsS58.drewN | apply IsS58.drew | apply IsS58.set_0 | refine IsS58.far ?_ NB126_124.out _) | exact HI126.out))
              (case side2 => repeat (first | (with_reducible first | exact HB.out | apply below_alloc | apply pw_below_drewN | apply below_drew1 | refine below_set ?_ (IsS55.ge HI124.out) | refine below_set ?_ (IsS58.ge HI126.out)) | exact HB.out))
              rintro e w27 ⟨rfl, hi, hb, hk⟩
              refine ⟨_, rfl, ?_⟩
              have n0_ := Aside0.mk (IsS55.beside (show IsS55 w _ g124 t131 from by repeat (first | (with_reducible first | exact HI124.out | apply IsS55.alloc | apply IsS55.drewN | apply IsS55.drew | apply IsS55.set_0 | refine IsS55.far ?_ NB124_126.out _) | exact HI124.out)) hk NX124_126.out)
              have n1_ := Aside0.mk (hb)
              have n2_ := Aside0.mk (hi)
              clear HI124
              clear HB
              clear HI126
              have HI124 := n0_
              have HB := n1_
              have HI126 := n2_
              clear n0_ n1_ n2_
              (try clear hb)
              (try clear hb2)
              (try clear hk)
              (try clear hi)
              refine hK.out _ _ ⟨((HB.out.cell (World.block_lt_of_cell? w _ hw129_0)).trans hw129_0), ((HB.out.cell (World.block_lt_of_cell? w _ hw129_1)).trans hw129_1), ((HB.out.cell (World.block_lt_of_cell? w _ hw129_2)).trans hw129_2), ((HB.out.cell (World.block_lt_of_cell? w _ hw132_0)).trans hw132_0), ((HB.out.cell (World.block_lt_of_cell? w _ hw132_1)).trans hw132_1), ((HB.out.cell (World.block_lt_of_cell? w _ hw132_2)).trans hw132_2)⟩ (fun hHeld => ?_)
              clear hK K
              refine norm_ (a' := ?_) ?_ ?_
              rotate_left
              ·
               show Act.put _ (some 90) _ = _
               simp only [Act.put, List.setIfInBounds_toArray, List.set_cons_zero, List.set_cons_succ, i64_w, i32_w]
               rfl
              refine pure_ (i := 16) (N := some 91) (v := ?_) (a' := ?_) #[true, true, true, true, true, true, true, true, true, true, true, true, true, true, true, true, true] rfl rfl (any_of HT_.out (by kernel_rfl)) (fun _ _ _ h => h) (Or.inl ⟨by rfl, ?_⟩) ?_ ?_
              rotate_left
              ·
               intro w'
               go_simp
               with_reducible rfl
              rotate_left
              ·
               simp only [Act.put, List.setIfInBounds_toArray, List.set_cons_zero, List.set_cons_succ, i64_w, i32_w]
               rfl
              refine done_ (done_of HT_.out (by kernel_rfl)) ?_
              try go_wp2
              go_meet
              case rel => exact ⟨_, (t131), (t134), H', ⟨by have := HK1.out; have := HJ13.out; first | omega | exact Nat.le_refl _⟩, ⟨by repeat (first | (with_reducible first | exact HI124.out | apply IsS55.alloc | apply IsS55.drewN | apply IsS55.drew | apply IsS55.set_0 | refine IsS55.far ?_ NB124_126.out _) | exact HI124.out)⟩, ⟨by repeat (first | (with_reducible first | exact HI126.out | apply IsS58.alloc | apply IsS58.drewN | apply IsS58.drew | apply IsS58.set_0 | refine IsS58.far ?_ NB126_124.out _) | exact HI126.out)⟩, ⟨by repeat (first | (with_reducible first | exact HB.out | apply below_alloc | apply pw_below_drewN | apply below_drew1 | refine below_set ?_ (IsS55.ge HI124.out) | refine below_set ?_ (IsS58.ge HI126.out)) | exact HB.out)⟩⟩
            ·
             rw [if_neg c18] at H
             exact absurd H (by simp)
           ·
            rw [if_neg c17] at H
            exact absurd H (by simp)
          ·
           replace c16 := Bool.eq_false_iff.mpr c16
           subst c16
           have H1 : (if (Go.bits .and .i64 ((rd_T29 l0 x5_1).f0) 7) = 2 then ((ledger_Close.f x125000_1 ((Go.bits .and .i64 ((rd_T29 l0 x5_1).f1) 3) % 4294967296)).bind fun bt135 => ((refl_Close.f x127000_1 ((Go.bits .and .i64 ((rd_T29 l0 x5_1).f1) 3) % 4294967296)).bind fun bt137 => (if (bt135.1 != bt137.1) = true then (some false) else (girandolelaw23_LedgerAll.j3 kj13 l0 x5_1 ((Go.bits .and .i64 ((rd_T29 l0 x5_1).f1) 3) % 4294967296) bt135.2 bt137.2)))) else (girandolelaw23_LedgerAll.l1 kj13 l0 x5_1 ((Go.bits .and .i64 ((rd_T29 l0 x5_1).f1) 3) % 4294967296) 0 x125000_1 x127000_1)) = some r := by rw [if_neg (show ¬ (false = true) by decide)] at H; exact H
           clear H
           have H := H1
           clear H1
           by_cases c28 : (Go.bits .and .i64 ((rd_T29 l0 x5_1).f0) 7) = 2
           ·
            rw [if_pos c28] at H
            have c28b0 : ((Go.bits .and .i64 ((rd_T29 l0 x5_1).f0) 7) == 2) = true := beq_iff_eq.mpr c28
            have c28b1 : ((Go.bits .and .i64 ((rd_T29 l0 x5_1).f0) 7) != 2) = false := bne_eq_false_iff_eq.mpr c28
            clear c28
            replace H := Option.bind_eq_some_iff.mp H
            obtain ⟨⟨t135, t136⟩, A290, H⟩ := H
            replace H : ((refl_Close.f x127000_1 ((Go.bits .and .i64 ((rd_T29 l0 x5_1).f1) 3) % 4294967296)).bind fun bt137 => (if (t135 != bt137.1) = true then (some false) else (girandolelaw23_LedgerAll.j3 kj13 l0 x5_1 ((Go.bits .and .i64 ((rd_T29 l0 x5_1).f1) 3) % 4294967296) t136 bt137.2))) = some r := H
            have A29 := Aside0.mk A290
            clear A290
            replace H := Option.bind_eq_some_iff.mp H
            obtain ⟨⟨t137, t138⟩, A300, H⟩ := H
            replace H : (if (t135 != t137) = true then (some false) else (girandolelaw23_LedgerAll.j3 kj13 l0 x5_1 ((Go.bits .and .i64 ((rd_T29 l0 x5_1).f1) 3) % 4294967296) t136 t138)) = some r := H
            have A30 := Aside0.mk A300
            clear A300
            by_cases c31 : (t135 != t137) = true
            ·
             rw [if_pos c31] at H
             have c31b0 : (t135 != t137) = true := c31
             (try (have c31b1 : decide (t135 = t137) = false := by simpa using c31))
             (try (have c31b2 : (t135 == t137) = false := by simpa using c31))
             (try (have c31b3 : ¬ (t135 = t137) := by simpa using c31))
             clear c31
             obtain rfl := Option.some.inj H
             go_wp2_with (first | ((with_reducible refine gate_callee (f := 17) rfl ?_); refine goesL_ (some 96) rfl rfl Try.func17 (by kernel_rfl) rfl #[.pointer (some ⟨g124, 0, none⟩), .int .u32 ((Go.bits .and .i64 ((rd_T29 l0 x5_1).f1) 3) % 4294967296)] rfl (by (try simp only [List.map_toArray, List.map_cons, List.map_nil]); first | done | rfl | (simp only [List.length_drop, List.length_take]; rfl)) ?_; (with_reducible refine (ledger_Close.calls g124 x125000_1 ((Go.bits .and .i64 ((rd_T29 l0 x5_1).f1) 3) % 4294967296) t135 t136 w _ ?side1 ?side2 A29.out).mono ?_); (case side1 => repeat (first | (with_reducible first | exact HI124.out | apply IsS55.alloc | apply IsS55.drewN | apply IsS55.drew | apply IsS55.set_0 | refine IsS55.far ?_ NB124_126.out _) | exact HI124.out)); (case side2 => repeat (first | (with_reducible first | exact HB.out | apply below_alloc | apply pw_below_drewN | apply below_drew1 | refine below_set ?_ (IsS55.ge HI124.out) | refine below_set ?_ (IsS58.ge HI126.out)) | exact HB.out)); rintro e w32 ⟨rfl, hi, hb, hk⟩; refine ⟨_, rfl, ?_⟩; have n0_ := Aside0.mk (IsS58.beside (show IsS58 w _ g126 x127000_1 from by repeat (first | (with_reducible first | exact HI126.out | apply IsS58.alloc | apply IsS58.drewN | apply IsS58.drew | apply IsS58.set_0 | refine IsS58.far ?_ NB126_124.out _) | exact HI126.out)) hk NX124_126.out); have n1_ := Aside0.mk (hb); have n2_ := Aside0.mk (hi); clear HI126; clear HB; clear HI124; have HI126 := n0_; have HB := n1_; have HI124 := n2_; clear n0_ n1_ n2_; (try clear hb); (try clear hb2); (try clear hk); (try clear hi)) | ((with_reducible refine gate_callee (f := 18) rfl ?_); refine goesL_ (some 99) rfl rfl Try.func18 (by kernel_rfl) rfl #[.pointer (some ⟨g126, 0, none⟩), .int .u32 ((Go.bits .and .i64 ((rd_T29 l0 x5_1).f1) 3) % 4294967296)] rfl (by (try simp only [List.map_toArray, List.map_cons, List.map_nil]); first | done | rfl | (simp only [List.length_drop, List.length_take]; rfl)) ?_; (with_reducible refine (refl_Close.calls g126 x127000_1 ((Go.bits .and .i64 ((rd_T29 l0 x5_1).f1) 3) % 4294967296) t137 t138 w _ ?side1 ?side2 A30.out).mono ?_); (case side1 => repeat (first | (with_reducible first | exact HI126.out | apply IsS58.alloc | apply IsS58.drewN | apply IsS58.drew | apply IsS58.set_0 | refine IsS58.far ?_ NB126_124.out _) | exact HI126.out)); (case side2 => repeat (first | (with_reducible first | exact HB.out | apply below_alloc | apply pw_below_drewN | apply below_drew1 | refine below_set ?_ (IsS55.ge HI124.out) | refine below_set ?_ (IsS58.ge HI126.out)) | exact HB.out)); rintro e w33 ⟨rfl, hi, hb, hk⟩; refine ⟨_, rfl, ?_⟩; have n0_ := Aside0.mk (IsS55.beside (show IsS55 w _ g124 t136 from by repeat (first | (with_reducible first | exact HI124.out | apply IsS55.alloc | apply IsS55.drewN | apply IsS55.drew | apply IsS55.set_0 | refine IsS55.far ?_ NB124_126.out _) | exact HI124.out)) hk NX124_126.out); have n1_ := Aside0.mk (hb); have n2_ := Aside0.mk (hi); clear HI124; clear HB; clear HI126; have HI124 := n0_; have HB := n1_; have HI126 := n2_; clear n0_ n1_ n2_; (try clear hb); (try clear hb2); (try clear hk); (try clear hi)))
             go_ret
             exact ⟨by first | rfl | (simp [errW_none, errW_some] <;> rfl) | (simp [*, errW_none, errW_some] <;> rfl), by repeat (first | (with_reducible first | exact HB.out | apply below_alloc | apply pw_below_drewN | apply below_drew1 | refine below_set ?_ (IsS55.ge HI124.out) | refine below_set ?_ (IsS58.ge HI126.out)) | exact HB.out)⟩
            ·
             rw [if_neg c31] at H
             have c31b0 : (t135 != t137) = false := by simpa using c31
             (try (have c31b1 : decide (t135 = t137) = true := by simpa using c31))
             (try (have c31b2 : (t135 == t137) = true := by simpa using c31))
             clear c31
             have H' := Aside0.mk H
             clear H
             go_wp2_with (first | ((with_reducible refine gate_callee (f := 17) rfl ?_); refine goesL_ (some 96) rfl rfl Try.func17 (by kernel_rfl) rfl #[.pointer (some ⟨g124, 0, none⟩), .int .u32 ((Go.bits .and .i64 ((rd_T29 l0 x5_1).f1) 3) % 4294967296)] rfl (by (try simp only [List.map_toArray, List.map_cons, List.map_nil]); first | done | rfl | (simp only [List.length_drop, List.length_take]; rfl)) ?_; (with_reducible refine (ledger_Close.calls g124 x125000_1 ((Go.bits .and .i64 ((rd_T29 l0 x5_1).f1) 3) % 4294967296) t135 t136 w _ ?side1 ?side2 A29.out).mono ?_); (case side1 => repeat (first | (with_reducible first | exact HI124.out | apply IsS55.alloc | apply IsS55.drewN | apply IsS55.drew | apply IsS55.set_0 | refine IsS55.far ?_ NB124_126.out _) | exact HI124.out)); (case side2 => repeat (first | (with_reducible first | exact HB.out | apply below_alloc | apply pw_below_drewN | apply below_drew1 | refine below_set ?_ (IsS55.ge HI124.out) | refine below_set ?_ (IsS58.ge HI126.out)) | exact HB.out)); rintro e w34 ⟨rfl, hi, hb, hk⟩; refine ⟨_, rfl, ?_⟩; have n0_ := Aside0.mk (IsS58.beside (show IsS58 w _ g126 x127000_1 from by repeat (first | (with_reducible first | exact HI126.out | apply IsS58.alloc | apply IsS58.drewN | apply IsS58.drew | apply IsS58.set_0 | refine IsS58.far ?_ NB126_124.out _) | exact HI126.out)) hk NX124_126.out); have n1_ := Aside0.mk (hb); have n2_ := Aside0.mk (hi); clear HI126; clear HB; clear HI124; have HI126 := n0_; have HB := n1_; have HI124 := n2_; clear n0_ n1_ n2_; (try clear hb); (try clear hb2); (try clear hk); (try clear hi)) | ((with_reducible refine gate_callee (f := 18) rfl ?_); refine goesL_ (some 99) rfl rfl Try.func18 (by kernel_rfl) rfl #[.pointer (some ⟨g126, 0, none⟩), .int .u32 ((Go.bits .and .i64 ((rd_T29 l0 x5_1).f1) 3) % 4294967296)] rfl (by (try simp only [List.map_toArray, List.map_cons, List.map_nil]); first | done | rfl | (simp only [List.length_drop, List.length_take]; rfl)) ?_; (with_reducible refine (refl_Close.calls g126 x127000_1 ((Go.bits .and .i64 ((rd_T29 l0 x5_1).f1) 3) % 4294967296) t137 t138 w _ ?side1 ?side2 A30.out).mono ?_); (case side1 => repeat (first | (with_reducible first | exact HI126.out | apply IsS58.alloc | apply IsS58.drewN | apply IsS58.drew | apply IsS58.set_0 | refine IsS58.far ?_ NB126_124.out _) | exact HI126.out)); (case side2 => repeat (first | (with_reducible first | exact HB.out | apply below_alloc | apply pw_below_drewN | apply below_drew1 | refine below_set ?_ (IsS55.ge HI124.out) | refine below_set ?_ (IsS58.ge HI126.out)) | exact HB.out)); rintro e w35 ⟨rfl, hi, hb, hk⟩; refine ⟨_, rfl, ?_⟩; have n0_ := Aside0.mk (IsS55.beside (show IsS55 w _ g124 t136 from by repeat (first | (with_reducible first | exact HI124.out | apply IsS55.alloc | apply IsS55.drewN | apply IsS55.drew | apply IsS55.set_0 | refine IsS55.far ?_ NB124_126.out _) | exact HI124.out)) hk NX124_126.out); have n1_ := Aside0.mk (hb); have n2_ := Aside0.mk (hi); clear HI124; clear HB; clear HI126; have HI124 := n0_; have HB := n1_; have HI126 := n2_; clear n0_ n1_ n2_; (try clear hb); (try clear hb2); (try clear hk); (try clear hi)))
             go_meet
             case rel => exact ⟨_, (t136), (t138), H', ⟨by have := HK1.out; have := HJ13.out; first | omega | exact Nat.le_refl _⟩, ⟨by repeat (first | (with_reducible first | exact HI124.out | apply IsS55.alloc | apply IsS55.drewN | apply IsS55.drew | apply IsS55.set_0 | refine IsS55.far ?_ NB124_126.out _) | exact HI124.out)⟩, ⟨by repeat (first | (with_reducible first | exact HI126.out | apply IsS58.alloc | apply IsS58.drewN | apply IsS58.drew | apply IsS58.set_0 | refine IsS58.far ?_ NB126_124.out _) | exact HI126.out)⟩, ⟨by repeat (first | (with_reducible first | exact HB.out | apply below_alloc | apply pw_below_drewN | apply below_drew1 | refine below_set ?_ (IsS55.ge HI124.out) | refine below_set ?_ (IsS58.ge HI126.out)) | exact HB.out)⟩⟩
           ·
            rw [if_neg c28] at H
            have c28b0 : ((Go.bits .and .i64 ((rd_T29 l0 x5_1).f0) 7) == 2) = false := beq_eq_false_iff_ne.mpr c28
            have c28b1 : ((Go.bits .and .i64 ((rd_T29 l0 x5_1).f0) 7) != 2) = true := bne_iff_ne.mpr c28
            have H' := Aside0.mk H
            clear H
            go_wp2
            go_loopg [7] kj13 (fun kq v7 w' => ∃ (x7_3 : Int) (x125000_3 : LM) (x127000_3 : RM), v7 = .int .i64 x7_3 ∧ Aside0 (girandolelaw23_LedgerAll.l1 kq l0 x5_1 ((Go.bits .and .i64 ((rd_T29 l0 x5_1).f1) 3) % 4294967296) x7_3 x125000_3 x127000_3 = some r) ∧ Aside0 (kq ≤ kj13) ∧ Aside0 (IsS55 w w' g124 x125000_3) ∧ Aside0 (IsS58 w w' g126 x127000_3) ∧ Aside0 (Below w.heap.size w w'))
            case atStart => exact ⟨(0), (x125000_1), (x127000_1), (by first | rfl | (simp; done) | (simp [*]; done)), H', ⟨Nat.le_refl _⟩, ⟨by repeat (first | (with_reducible first | exact HI124.out | apply IsS55.alloc | apply IsS55.drewN | apply IsS55.drew | apply IsS55.set_0 | refine IsS55.far ?_ NB124_126.out _) | exact HI124.out)⟩, ⟨by repeat (first | (with_reducible first | exact HI126.out | apply IsS58.alloc | apply IsS58.drewN | apply IsS58.drew | apply IsS58.set_0 | refine IsS58.far ?_ NB126_124.out _) | exact HI126.out)⟩, ⟨by repeat (first | (with_reducible first | exact HB.out | apply below_alloc | apply pw_below_drewN | apply below_drew1 | refine below_set ?_ (IsS55.ge HI124.out) | refine below_set ?_ (IsS58.ge HI126.out)) | exact HB.out)⟩⟩
            case round =>
             clear H'
             try clear c1
             try clear p1
             try clear q1
             try clear hx1
             try clear c2
             try clear p2
             try clear c3
             try clear c4
             try clear c4b0
             try clear c4b1
             try clear c11
             try clear c11b0
             try clear c12
             try clear c12b0
             try clear p12
             try clear q12
             try clear hx12
             try clear c13
             try clear p13
             try clear q13
             try clear hx13
             try clear c14
             try clear c15
             try clear c15b0
             try clear c15b1
             try clear c16
             try clear c17
             try clear c17b0
             try clear c18
             try clear c18b0
             try clear c21
             try clear c21b0
             try clear c21b1
             try clear c21b2
             try clear c28
             try clear c28b0
             try clear c28b1
             try clear c31
             try clear c31b0
             try clear c31b1
             try clear c31b2
             try clear hx127_0
             try clear hx127_1
             try clear hx127_2
             try clear hx128_0
             try clear hx128_1
             try clear hx128_2
             try clear hx129_0
             try clear hx129_1
             try clear hx129_2
             try clear hx132_0
             try clear hx132_1
             try clear hx132_2
             try clear p1
             try clear p12
             try clear p127
             try clear p128
             try clear p129
             try clear p132
             try clear p2
             try clear q1
             try clear q12
             try clear q127
             try clear q128
             try clear q129
             try clear q132
             obtain ⟨x7_3, x125000_3, x127000_3, rfl, HA, HK3, HI124, HI126, HB⟩ := hrel
             cases gk with
             | zero => exact absurd HA.out (by simp [girandolelaw23_LedgerAll.l1])
             | succ k3 =>
              have H := HA.out
              clear HA
              simp only [girandolelaw23_LedgerAll.l1] at H
              by_cases c36 : 0 ≤ x5_1
              ·
               rw [if_pos c36] at H
               have c36b0 : decide (0 ≤ x5_1) = true := decide_eq_true c36
               clear c36
               by_cases c37 : x5_1 < (l0.length : Int)
               ·
                rw [if_pos c37] at H
                have c37b0 : decide (x5_1 < (l0.length : Int)) = true := decide_eq_true c37
                clear c37
                by_cases c38 : x7_3 < (wrap64 (1 + (Go.bits .and .i64 ((rd_T29 l0 x5_1).f2) 15)))
                ·
                 rw [if_pos c38] at H
                 have c38b0 : decide (x7_3 < (wrap64 (1 + (Go.bits .and .i64 ((rd_T29 l0 x5_1).f2) 15)))) = true := decide_eq_true c38
                 clear c38
                 replace H := Option.bind_eq_some_iff.mp H
                 obtain ⟨⟨t140, t141, t142⟩, A390, H⟩ := H
                 replace H : ((refl_Next.f x127000_3 ((Go.bits .and .i64 ((rd_T29 l0 x5_1).f1) 3) % 4294967296)).bind fun bt143 => (if t140 = bt143.1 then (if (t141 != bt143.2.1) = true then (some false) else (girandolelaw23_LedgerAll.l1 k3 l0 x5_1 ((Go.bits .and .i64 ((rd_T29 l0 x5_1).f1) 3) % 4294967296) (wrap64 (x7_3 + 1)) t142 bt143.2.2)) else (some false))) = some r := H
                 have A39 := Aside0.mk A390
                 clear A390
                 replace H := Option.bind_eq_some_iff.mp H
                 obtain ⟨⟨t143, t144, t145⟩, A400, H⟩ := H
                 replace H : (if t140 = t143 then (if (t141 != t144) = true then (some false) else (girandolelaw23_LedgerAll.l1 k3 l0 x5_1 ((Go.bits .and .i64 ((rd_T29 l0 x5_1).f1) 3) % 4294967296) (wrap64 (x7_3 + 1)) t142 t145)) else (some false)) = some r := H
                 have A40 := Aside0.mk A400
                 clear A400
                 by_cases c41 : t140 = t143
                 ·
                  rw [if_pos c41] at H
                  have c41b0 : (t140 == t143) = true := beq_iff_eq.mpr c41
                  have c41b1 : (t140 != t143) = false := bne_eq_false_iff_eq.mpr c41
                  clear c41
                  by_cases c42 : (t141 != t144) = true
                  ·
                   rw [if_pos c42] at H
                   have c42b0 : (t141 != t144) = true := c42
                   (try (have c42b1 : decide (t141 = t144) = false := by simpa using c42))
                   (try (have c42b2 : (t141 == t144) = false := by simpa using c42))
                   (try (have c42b3 : ¬ (t141 = t144) := by simpa using c42))
                   clear c42
                   obtain rfl := Option.some.inj H
                   have p139 : 0 ≤ (x5_1 : Int) := of_decide_eq_true (by first | (with_reducible assumption) | assumption)
                   have q139 : x5_1 < (l0.length : Int) := of_decide_eq_true (by first | (with_reducible assumption) | assumption)
                   obtain ⟨ad139, e139, hx139_0, hx139_1, hx139_2⟩ := at_T29 HR0.out x5_1 p139 q139
                   obtain rfl : ad127 = ad139 := (by injection e139)
                   replace hx139_0 := (HB.out.cell (World.block_lt_of_cell? w _ hx139_0)).trans hx139_0
                   replace hx139_1 := (HB.out.cell (World.block_lt_of_cell? w _ hx139_1)).trans hx139_1
                   replace hx139_2 := (HB.out.cell (World.block_lt_of_cell? w _ hx139_2)).trans hx139_2
                   replace p139 := eq_true p139
                   replace q139 := eq_true q139
                   go_wp2_with (first | ((with_reducible refine gate_callee (f := 19) rfl ?_); refine goesL_ (some 55) rfl rfl Try.func19 (by kernel_rfl) rfl #[.pointer (some ⟨g124, 0, none⟩), .int .u32 ((Go.bits .and .i64 ((rd_T29 l0 x5_1).f1) 3) % 4294967296)] rfl (by (try simp only [List.map_toArray, List.map_cons, List.map_nil]); first | done | rfl | (simp only [List.length_drop, List.length_take]; rfl)) ?_; (with_reducible refine (ledger_Next.calls g124 x125000_3 ((Go.bits .and .i64 ((rd_T29 l0 x5_1).f1) 3) % 4294967296) t140 t141 t142 w _ ?side1 ?side2 A39.out).mono ?_); (case side1 => repeat (first | (with_reducible first | exact HI124.out | apply IsS55.alloc | apply IsS55.drewN | apply IsS55.drew | apply IsS55.set_0 | refine IsS55.far ?_ NB124_126.out _) | exact HI124.out)); (case side2 => repeat (first | (with_reducible first | exact HB.out | apply below_alloc | apply pw_below_drewN | apply below_drew1 | refine below_set ?_ (IsS55.ge HI124.out) | refine below_set ?_ (IsS58.ge HI126.out)) | exact HB.out)); rintro e w43 ⟨rfl, hi, hb, hk⟩; refine ⟨_, rfl, ?_⟩; have n0_ := Aside0.mk (IsS58.beside (show IsS58 w _ g126 x127000_3 from by repeat (first | (with_reducible first | exact HI126.out | apply IsS58.alloc | apply IsS58.drewN | apply IsS58.drew | apply IsS58.set_0 | refine IsS58.far ?_ NB126_124.out _) | exact HI126.out)) hk NX124_126.out); have n1_ := Aside0.mk (hb); have n2_ := Aside0.mk (hi); clear HI126; clear HB; clear HI124; have HI126 := n0_; have HB := n1_; have HI124 := n2_; clear n0_ n1_ n2_; (try clear hb); (try clear hb2); (try clear hk); (try clear hi)) | ((with_reducible refine gate_callee (f := 20) rfl ?_); refine goesL_ (some 61) rfl rfl Try.func20 (by kernel_rfl) rfl #[.pointer (some ⟨g126, 0, none⟩), .int .u32 ((Go.bits .and .i64 ((rd_T29 l0 x5_1).f1) 3) % 4294967296)] rfl (by (try simp only [List.map_toArray, List.map_cons, List.map_nil]); first | done | rfl | (simp only [List.length_drop, List.length_take]; rfl)) ?_; (with_reducible refine (refl_Next.calls g126 x127000_3 ((Go.bits .and .i64 ((rd_T29 l0 x5_1).f1) 3) % 4294967296) t143 t144 t145 w _ ?side1 ?side2 A40.out).mono ?_); (case side1 => repeat (first | (with_reducible first | exact HI126.out | apply IsS58.alloc | apply IsS58.drewN | apply IsS58.drew | apply IsS58.set_0 | refine IsS58.far ?_ NB126_124.out _) | exact HI126.out)); (case side2 => repeat (first | (with_reducible first | exact HB.out | apply below_alloc | apply pw_below_drewN | apply below_drew1 | refine below_set ?_ (IsS55.ge HI124.out) | refine below_set ?_ (IsS58.ge HI126.out)) | exact HB.out)); rintro e w44 ⟨rfl, hi, hb, hk⟩; refine ⟨_, rfl, ?_⟩; have n0_ := Aside0.mk (IsS55.beside (show IsS55 w _ g124 t142 from by repeat (first | (with_reducible first | exact HI124.out | apply IsS55.alloc | apply IsS55.drewN | apply IsS55.drew | apply IsS55.set_0 | refine IsS55.far ?_ NB124_126.out _) | exact HI124.out)) hk NX124_126.out); have n1_ := Aside0.mk (hb); have n2_ := Aside0.mk (hi); clear HI124; clear HB; clear HI126; have HI124 := n0_; have HB := n1_; have HI126 := n2_; clear n0_ n1_ n2_; (try clear hb); (try clear hb2); (try clear hk); (try clear hi)))
                   go_ret
                   exact ⟨by first | rfl | (simp [errW_none, errW_some] <;> rfl) | (simp [*, errW_none, errW_some] <;> rfl), by repeat (first | (with_reducible first | exact HB.out | apply below_alloc | apply pw_below_drewN | apply below_drew1 | refine below_set ?_ (IsS55.ge HI124.out) | refine below_set ?_ (IsS58.ge HI126.out)) | exact HB.out)⟩
                  ·
                   rw [if_neg c42] at H
                   have c42b0 : (t141 != t144) = false := by simpa using c42
                   (try (have c42b1 : decide (t141 = t144) = true := by simpa using c42))
                   (try (have c42b2 : (t141 == t144) = true := by simpa using c42))
                   clear c42
                   have H' := Aside0.mk H
                   clear H
                   have p139 : 0 ≤ (x5_1 : Int) := of_decide_eq_true (by first | (with_reducible assumption) | assumption)
                   have q139 : x5_1 < (l0.length : Int) := of_decide_eq_true (by first | (with_reducible assumption) | assumption)
                   obtain ⟨ad139, e139, hx139_0, hx139_1, hx139_2⟩ := at_T29 HR0.out x5_1 p139 q139
                   obtain rfl : ad127 = ad139 := (by injection e139)
                   replace hx139_0 := (HB.out.cell (World.block_lt_of_cell? w _ hx139_0)).trans hx139_0
                   replace hx139_1 := (HB.out.cell (World.block_lt_of_cell? w _ hx139_1)).trans hx139_1
                   replace hx139_2 := (HB.out.cell (World.block_lt_of_cell? w _ hx139_2)).trans hx139_2
                   replace p139 := eq_true p139
                   replace q139 := eq_true q139
                   go_wp2_with (first | ((with_reducible refine gate_callee (f := 19) rfl ?_); refine goesL_ (some 55) rfl rfl Try.func19 (by kernel_rfl) rfl #[.pointer (some ⟨g124, 0, none⟩), .int .u32 ((Go.bits .and .i64 ((rd_T29 l0 x5_1).f1) 3) % 4294967296)] rfl (by (try simp only [List.map_toArray, List.map_cons, List.map_nil]); first | done | rfl | (simp only [List.length_drop, List.length_take]; rfl)) ?_; (with_reducible refine (ledger_Next.calls g124 x125000_3 ((Go.bits .and .i64 ((rd_T29 l0 x5_1).f1) 3) % 4294967296) t140 t141 t142 w _ ?side1 ?side2 A39.out).mono ?_); (case side1 => repeat (first | (with_reducible first | exact HI124.out | apply IsS55.alloc | apply IsS55.drewN | apply IsS55.drew | apply IsS55.set_0 | refine IsS55.far ?_ NB124_126.out _) | exact HI124.out)); (case side2 => repeat (first | (with_reducible first | exact HB.out | apply below_alloc | apply pw_below_drewN | apply below_drew1 | refine below_set ?_ (IsS55.ge HI124.out) | refine below_set ?_ (IsS58.ge HI126.out)) | exact HB.out)); rintro e w45 ⟨rfl, hi, hb, hk⟩; refine ⟨_, rfl, ?_⟩; have n0_ := Aside0.mk (IsS58.beside (show IsS58 w _ g126 x127000_3 from by repeat (first | (with_reducible first | exact HI126.out | apply IsS58.alloc | apply IsS58.drewN | apply IsS58.drew | apply IsS58.set_0 | refine IsS58.far ?_ NB126_124.out _) | exact HI126.out)) hk NX124_126.out); have n1_ := Aside0.mk (hb); have n2_ := Aside0.mk (hi); clear HI126; clear HB; clear HI124; have HI126 := n0_; have HB := n1_; have HI124 := n2_; clear n0_ n1_ n2_; (try clear hb); (try clear hb2); (try clear hk); (try clear hi)) | ((with_reducible refine gate_callee (f := 20) rfl ?_); refine goesL_ (some 61) rfl rfl Try.func20 (by kernel_rfl) rfl #[.pointer (some ⟨g126, 0, none⟩), .int .u32 ((Go.bits .and .i64 ((rd_T29 l0 x5_1).f1) 3) % 4294967296)] rfl (by (try simp only [List.map_toArray, List.map_cons, List.map_nil]); first | done | rfl | (simp only [List.length_drop, List.length_take]; rfl)) ?_; (with_reducible refine (refl_Next.calls g126 x127000_3 ((Go.bits .and .i64 ((rd_T29 l0 x5_1).f1) 3) % 4294967296) t143 t144 t145 w _ ?side1 ?side2 A40.out).mono ?_); (case side1 => repeat (first | (with_reducible first | exact HI126.out | apply IsS58.alloc | apply IsS58.drewN | apply IsS58.drew | apply IsS58.set_0 | refine IsS58.far ?_ NB126_124.out _) | exact HI126.out)); (case side2 => repeat (first | (with_reducible first | exact HB.out | apply below_alloc | apply pw_below_drewN | apply below_drew1 | refine below_set ?_ (IsS55.ge HI124.out) | refine below_set ?_ (IsS58.ge HI126.out)) | exact HB.out)); rintro e w46 ⟨rfl, hi, hb, hk⟩; refine ⟨_, rfl, ?_⟩; have n0_ := Aside0.mk (IsS55.beside (show IsS55 w _ g124 t142 from by repeat (first | (with_reducible first | exact HI124.out | apply IsS55.alloc | apply IsS55.drewN | apply IsS55.drew | apply IsS55.set_0 | refine IsS55.far ?_ NB124_126.out _) | exact HI124.out)) hk NX124_126.out); have n1_ := Aside0.mk (hb); have n2_ := Aside0.mk (hi); clear HI124; clear HB; clear HI126; have HI124 := n0_; have HB := n1_; have HI126 := n2_; clear n0_ n1_ n2_; (try clear hb); (try clear hb2); (try clear hk); (try clear hi)))
                   go_roundg k3
                   case measure => have := HK1.out; have := HJ13.out; have := HK3.out; omega
                   case rel => exact ⟨(wrap64 (x7_3 + 1)), (t142), (t145), (by first | rfl | (simp; done) | (simp [*]; done)), H', ⟨by have := HK1.out; have := HJ13.out; have := HK3.out; omega⟩, ⟨by repeat (first | (with_reducible first | exact HI124.out | apply IsS55.alloc | apply IsS55.drewN | apply IsS55.drew | apply IsS55.set_0 | refine IsS55.far ?_ NB124_126.out _) | exact HI124.out)⟩, ⟨by repeat (first | (with_reducible first | exact HI126.out | apply IsS58.alloc | apply IsS58.drewN | apply IsS58.drew | apply IsS58.set_0 | refine IsS58.far ?_ NB126_124.out _) | exact HI126.out)⟩, ⟨by repeat (first | (with_reducible first | exact HB.out | apply below_alloc | apply pw_below_drewN | apply below_drew1 | refine below_set ?_ (IsS55.ge HI124.out) | refine below_set ?_ (IsS58.ge HI126.out)) | exact HB.out)⟩⟩
                 ·
                  rw [if_neg c41] at H
                  have c41b0 : (t140 == t143) = false := beq_eq_false_iff_ne.mpr c41
                  have c41b1 : (t140 != t143) = true := bne_iff_ne.mpr c41
                  obtain rfl := Option.some.inj H
                  have p139 : 0 ≤ (x5_1 : Int) := of_decide_eq_true (by first | (with_reducible assumption) | assumption)
                  have q139 : x5_1 < (l0.length : Int) := of_decide_eq_true (by first | (with_reducible assumption) | assumption)
                  obtain ⟨ad139, e139, hx139_0, hx139_1, hx139_2⟩ := at_T29 HR0.out x5_1 p139 q139
                  obtain rfl : ad127 = ad139 := (by injection e139)
                  replace hx139_0 := (HB.out.cell (World.block_lt_of_cell? w _ hx139_0)).trans hx139_0
                  replace hx139_1 := (HB.out.cell (World.block_lt_of_cell? w _ hx139_1)).trans hx139_1
                  replace hx139_2 := (HB.out.cell (World.block_lt_of_cell? w _ hx139_2)).trans hx139_2
                  replace p139 := eq_true p139
                  replace q139 := eq_true q139
                  go_wp2_with (first | ((with_reducible refine gate_callee (f := 19) rfl ?_); refine goesL_ (some 55) rfl rfl Try.func19 (by kernel_rfl) rfl #[.pointer (some ⟨g124, 0, none⟩), .int .u32 ((Go.bits .and .i64 ((rd_T29 l0 x5_1).f1) 3) % 4294967296)] rfl (by (try simp only [List.map_toArray, List.map_cons, List.map_nil]); first | done | rfl | (simp only [List.length_drop, List.length_take]; rfl)) ?_; (with_reducible refine (ledger_Next.calls g124 x125000_3 ((Go.bits .and .i64 ((rd_T29 l0 x5_1).f1) 3) % 4294967296) t140 t141 t142 w _ ?side1 ?side2 A39.out).mono ?_); (case side1 => repeat (first | (with_reducible first | exact HI124.out | apply IsS55.alloc | apply IsS55.drewN | apply IsS55.drew | apply IsS55.set_0 | refine IsS55.far ?_ NB124_126.out _) | exact HI124.out)); (case side2 => repeat (first | (with_reducible first | exact HB.out | apply below_alloc | apply pw_below_drewN | apply below_drew1 | refine below_set ?_ (IsS55.ge HI124.out) | refine below_set ?_ (IsS58.ge HI126.out)) | exact HB.out)); rintro e w47 ⟨rfl, hi, hb, hk⟩; refine ⟨_, rfl, ?_⟩; have n0_ := Aside0.mk (IsS58.beside (show IsS58 w _ g126 x127000_3 from by repeat (first | (with_reducible first | exact HI126.out | apply IsS58.alloc | apply IsS58.drewN | apply IsS58.drew | apply IsS58.set_0 | refine IsS58.far ?_ NB126_124.out _) | exact HI126.out)) hk NX124_126.out); have n1_ := Aside0.mk (hb); have n2_ := Aside0.mk (hi); clear HI126; clear HB; clear HI124; have HI126 := n0_; have HB := n1_; have HI124 := n2_; clear n0_ n1_ n2_; (try clear hb); (try clear hb2); (try clear hk); (try clear hi)) | ((with_reducible refine gate_callee (f := 20) rfl ?_); refine goesL_ (some 61) rfl rfl Try.func20 (by kernel_rfl) rfl #[.pointer (some ⟨g126, 0, none⟩), .int .u32 ((Go.bits .and .i64 ((rd_T29 l0 x5_1).f1) 3) % 4294967296)] rfl (by (try simp only [List.map_toArray, List.map_cons, List.map_nil]); first | done | rfl | (simp only [List.length_drop, List.length_take]; rfl)) ?_; (with_reducible refine (refl_Next.calls g126 x127000_3 ((Go.bits .and .i64 ((rd_T29 l0 x5_1).f1) 3) % 4294967296) t143 t144 t145 w _ ?side1 ?side2 A40.out).mono ?_); (case side1 => repeat (first | (with_reducible first | exact HI126.out | apply IsS58.alloc | apply IsS58.drewN | apply IsS58.drew | apply IsS58.set_0 | refine IsS58.far ?_ NB126_124.out _) | exact HI126.out)); (case side2 => repeat (first | (with_reducible first | exact HB.out | apply below_alloc | apply pw_below_drewN | apply below_drew1 | refine below_set ?_ (IsS55.ge HI124.out) | refine below_set ?_ (IsS58.ge HI126.out)) | exact HB.out)); rintro e w48 ⟨rfl, hi, hb, hk⟩; refine ⟨_, rfl, ?_⟩; have n0_ := Aside0.mk (IsS55.beside (show IsS55 w _ g124 t142 from by repeat (first | (with_reducible first | exact HI124.out | apply IsS55.alloc | apply IsS55.drewN | apply IsS55.drew | apply IsS55.set_0 | refine IsS55.far ?_ NB124_126.out _) | exact HI124.out)) hk NX124_126.out); have n1_ := Aside0.mk (hb); have n2_ := Aside0.mk (hi); clear HI124; clear HB; clear HI126; have HI124 := n0_; have HB := n1_; have HI126 := n2_; clear n0_ n1_ n2_; (try clear hb); (try clear hb2); (try clear hk); (try clear hi)))
                  go_ret
                  exact ⟨by first | rfl | (simp [errW_none, errW_some] <;> rfl) | (simp [*, errW_none, errW_some] <;> rfl), by repeat (first | (with_reducible first | exact HB.out | apply below_alloc | apply pw_below_drewN | apply below_drew1 | refine below_set ?_ (IsS55.ge HI124.out) | refine below_set ?_ (IsS58.ge HI126.out)) | exact HB.out)⟩
                ·
                 rw [if_neg c38] at H
                 have c38b0 : decide (x7_3 < (wrap64 (1 + (Go.bits .and .i64 ((rd_T29 l0 x5_1).f2) 15)))) = false := decide_eq_false c38
                 clear c38
                 have H' := Aside0.mk H
                 clear H
                 have p139 : 0 ≤ (x5_1 : Int) := of_decide_eq_true (by first | (with_reducible assumption) | assumption)
                 have q139 : x5_1 < (l0.length : Int) := of_decide_eq_true (by first | (with_reducible assumption) | assumption)
                 obtain ⟨ad139, e139, hx139_0, hx139_1, hx139_2⟩ := at_T29 HR0.out x5_1 p139 q139
                 obtain rfl : ad127 = ad139 := (by injection e139)
                 replace hx139_0 := (HB.out.cell (World.block_lt_of_cell? w _ hx139_0)).trans hx139_0
                 replace hx139_1 := (HB.out.cell (World.block_lt_of_cell? w _ hx139_1)).trans hx139_1
                 replace hx139_2 := (HB.out.cell (World.block_lt_of_cell? w _ hx139_2)).trans hx139_2
                 replace p139 := eq_true p139
                 replace q139 := eq_true q139
                 go_wp2
                 go_meet
                 case rel => exact ⟨_, (x125000_3), (x127000_3), H', ⟨by have := HK1.out; have := HJ13.out; have := HK3.out; first | omega | exact Nat.le_refl _⟩, ⟨by repeat (first | (with_reducible first | exact HI124.out | apply IsS55.alloc | apply IsS55.drewN | apply IsS55.drew | apply IsS55.set_0 | refine IsS55.far ?_ NB124_126.out _) | exact HI124.out)⟩, ⟨by repeat (first | (with_reducible first | exact HI126.out | apply IsS58.alloc | apply IsS58.drewN | apply IsS58.drew | apply IsS58.set_0 | refine IsS58.far ?_ NB126_124.out _) | exact HI126.out)⟩, ⟨by repeat (first | (with_reducible first | exact HB.out | apply below_alloc | apply pw_below_drewN | apply below_drew1 | refine below_set ?_ (IsS55.ge HI124.out) | refine below_set ?_ (IsS58.ge HI126.out)) | exact HB.out)⟩⟩
               ·
                rw [if_neg c37] at H
                exact absurd H (by simp)
              ·
               rw [if_neg c36] at H
               exact absurd H (by simp)
       case rest =>
        clear HC13
        try clear c1
        try clear p1
        try clear q1
        try clear hx1
        try clear c2
        try clear p2
        try clear c3
        try clear c4
        try clear c4b0
        try clear c4b1
        try clear p6
        try clear c11
        try clear c11b0
        try clear c12
        try clear c12b0
        try clear p12
        try clear q12
        try clear hx12
        try clear c13
        try clear p13
        try clear q13
        try clear hx13
        try clear c14
        try clear c15
        try clear c15b0
        try clear c15b1
        try clear c16
        try clear c17
        try clear c17b0
        try clear c18
        try clear c18b0
        try clear c19
        try clear c20
        try clear c21
        try clear c21b0
        try clear c21b1
        try clear c21b2
        try clear c28
        try clear c28b0
        try clear c28b1
        try clear c31
        try clear c31b0
        try clear c31b1
        try clear c31b2
        try clear c36
        try clear c36b0
        try clear c37
        try clear c37b0
        try clear c38
        try clear c38b0
        try clear c41
        try clear c41b0
        try clear c41b1
        try clear c42
        try clear c42b0
        try clear c42b1
        try clear c42b2
        try clear hx127_0
        try clear hx127_1
        try clear hx127_2
        try clear hx128_0
        try clear hx128_1
        try clear hx128_2
        try clear hx129_0
        try clear hx129_1
        try clear hx129_2
        try clear hx132_0
        try clear hx132_1
        try clear hx132_2
        try clear hx139_0
        try clear hx139_1
        try clear hx139_2
        try clear p1
        try clear p12
        try clear p127
        try clear p128
        try clear p129
        try clear p13
        try clear p132
        try clear p139
        try clear p2
        try clear q1
        try clear q12
        try clear q127
        try clear q128
        try clear q129
        try clear q13
        try clear q132
        try clear q139
        obtain ⟨kq, x125000_12, x127000_12, HA, HJ12, HI124, HI126, HB⟩ := hcut
        cases kq with
        | zero => exact absurd HA.out (by simp [girandolelaw23_LedgerAll.j3])
        | succ kj12 =>
         have H := HA.out
         clear HA
         simp only [girandolelaw23_LedgerAll.j3] at H
         replace H := Option.bind_eq_some_iff.mp H
         obtain ⟨⟨t146, t147⟩, A490, H⟩ := H
         replace H : ((refl_Left.f x127000_12 ((Go.bits .and .i64 ((rd_T29 l0 x5_1).f1) 3) % 4294967296)).bind fun bt148 => (if t146 = bt148.1 then (girandolelaw23_LedgerAll.l0 kj12 l0 (wrap64 (x5_1 + 1)) t147 bt148.2) else (some false))) = some r := H
         have A49 := Aside0.mk A490
         clear A490
         replace H := Option.bind_eq_some_iff.mp H
         obtain ⟨⟨t148, t149⟩, A500, H⟩ := H
         replace H : (if t146 = t148 then (girandolelaw23_LedgerAll.l0 kj12 l0 (wrap64 (x5_1 + 1)) t147 t149) else (some false)) = some r := H
         have A50 := Aside0.mk A500
         clear A500
         by_cases c51 : t146 = t148
         ·
          rw [if_pos c51] at H
          have c51b0 : (t146 == t148) = true := beq_iff_eq.mpr c51
          have c51b1 : (t146 != t148) = false := bne_eq_false_iff_eq.mpr c51
          clear c51
          have H' := Aside0.mk H
          clear H
          go_wp2_with (first | ((with_reducible refine gate_callee (f := 21) rfl ?_); refine goesL_ (some 103) rfl rfl Try.func21 (by kernel_rfl) rfl #[.pointer (some ⟨g124, 0, none⟩), .int .u32 ((Go.bits .and .i64 ((rd_T29 l0 x5_1).f1) 3) % 4294967296)] rfl (by (try simp only [List.map_toArray, List.map_cons, List.map_nil]); first | done | rfl | (simp only [List.length_drop, List.length_take]; rfl)) ?_; (with_reducible refine (ledger_Left.calls g124 x125000_12 ((Go.bits .and .i64 ((rd_T29 l0 x5_1).f1) 3) % 4294967296) t146 t147 w _ ?side1 ?side2 A49.out).mono ?_); (case side1 => repeat (first | (with_reducible first | exact HI124.out | apply IsS55.alloc | apply IsS55.drewN | apply IsS55.drew | apply IsS55.set_0 | refine IsS55.far ?_ NB124_126.out _) | exact HI124.out)); (case side2 => repeat (first | (with_reducible first | exact HB.out | apply below_alloc | apply pw_below_drewN | apply below_drew1 | refine below_set ?_ (IsS55.ge HI124.out) | refine below_set ?_ (IsS58.ge HI126.out)) | exact HB.out)); rintro e w52 ⟨rfl, hi, hb, hk⟩; refine ⟨_, rfl, ?_⟩; have n0_ := Aside0.mk (IsS58.beside (show IsS58 w _ g126 x127000_12 from by repeat (first | (with_reducible first | exact HI126.out | apply IsS58.alloc | apply IsS58.drewN | apply IsS58.drew | apply IsS58.set_0 | refine IsS58.far ?_ NB126_124.out _) | exact HI126.out)) hk NX124_126.out); have n1_ := Aside0.mk (hb); have n2_ := Aside0.mk (hi); clear HI126; clear HB; clear HI124; have HI126 := n0_; have HB := n1_; have HI124 := n2_; clear n0_ n1_ n2_; (try clear hb); (try clear hb2); (try clear hk); (try clear hi)) | ((with_reducible refine gate_callee (f := 22) rfl ?_); refine goesL_ (some 106) rfl rfl Try.func22 (by kernel_rfl) rfl #[.pointer (some ⟨g126, 0, none⟩), .int .u32 ((Go.bits .and .i64 ((rd_T29 l0 x5_1).f1) 3) % 4294967296)] rfl (by (try simp only [List.map_toArray, List.map_cons, List.map_nil]); first | done | rfl | (simp only [List.length_drop, List.length_take]; rfl)) ?_; (with_reducible refine (refl_Left.calls g126 x127000_12 ((Go.bits .and .i64 ((rd_T29 l0 x5_1).f1) 3) % 4294967296) t148 t149 w _ ?side1 ?side2 A50.out).mono ?_); (case side1 => repeat (first | (with_reducible first | exact HI126.out | apply IsS58.alloc | apply IsS58.drewN | apply IsS58.drew | apply IsS58.set_0 | refine IsS58.far ?_ NB126_124.out _) | exact HI126.out)); (case side2 => repeat (first | (with_reducible first | exact HB.out | apply below_alloc | apply pw_below_drewN | apply below_drew1 | refine below_set ?_ (IsS55.ge HI124.out) | refine below_set ?_ (IsS58.ge HI126.out)) | exact HB.out)); rintro e w53 ⟨rfl, hi, hb, hk⟩; refine ⟨_, rfl, ?_⟩; have n0_ := Aside0.mk (IsS55.beside (show IsS55 w _ g124 t147 from by repeat (first | (with_reducible first | exact HI124.out | apply IsS55.alloc | apply IsS55.drewN | apply IsS55.drew | apply IsS55.set_0 | refine IsS55.far ?_ NB124_126.out _) | exact HI124.out)) hk NX124_126.out); have n1_ := Aside0.mk (hb); have n2_ := Aside0.mk (hi); clear HI124; clear HB; clear HI126; have HI124 := n0_; have HB := n1_; have HI126 := n2_; clear n0_ n1_ n2_; (try clear hb); (try clear hb2); (try clear hk); (try clear hi)))
          go_roundg kj12
          case measure => have := HK1.out; have := HJ12.out; omega
          case rel => exact ⟨(wrap64 (x5_1 + 1)), (t147), (t149), (by first | rfl | (simp; done) | (simp [*]; done)), H', ⟨by have := HK1.out; have := HJ12.out; omega⟩, ⟨by repeat (first | (with_reducible first | exact HI124.out | apply IsS55.alloc | apply IsS55.drewN | apply IsS55.drew | apply IsS55.set_0 | refine IsS55.far ?_ NB124_126.out _) | exact HI124.out)⟩, ⟨by repeat (first | (with_reducible first | exact HI126.out | apply IsS58.alloc | apply IsS58.drewN | apply IsS58.drew | apply IsS58.set_0 | refine IsS58.far ?_ NB126_124.out _) | exact HI126.out)⟩, ⟨by repeat (first | (with_reducible first | exact HB.out | apply below_alloc | apply pw_below_drewN | apply below_drew1 | refine below_set ?_ (IsS55.ge HI124.out) | refine below_set ?_ (IsS58.ge HI126.out)) | exact HB.out)⟩⟩
         ·
          rw [if_neg c51] at H
          have c51b0 : (t146 == t148) = false := beq_eq_false_iff_ne.mpr c51
          have c51b1 : (t146 != t148) = true := bne_iff_ne.mpr c51
          obtain rfl := Option.some.inj H
          go_wp2_with (first | ((with_reducible refine gate_callee (f := 21) rfl ?_); refine goesL_ (some 103) rfl rfl Try.func21 (by kernel_rfl) rfl #[.pointer (some ⟨g124, 0, none⟩), .int .u32 ((Go.bits .and .i64 ((rd_T29 l0 x5_1).f1) 3) % 4294967296)] rfl (by (try simp only [List.map_toArray, List.map_cons, List.map_nil]); first | done | rfl | (simp only [List.length_drop, List.length_take]; rfl)) ?_; (with_reducible refine (ledger_Left.calls g124 x125000_12 ((Go.bits .and .i64 ((rd_T29 l0 x5_1).f1) 3) % 4294967296) t146 t147 w _ ?side1 ?side2 A49.out).mono ?_); (case side1 => repeat (first | (with_reducible first | exact HI124.out | apply IsS55.alloc | apply IsS55.drewN | apply IsS55.drew | apply IsS55.set_0 | refine IsS55.far ?_ NB124_126.out _) | exact HI124.out)); (case side2 => repeat (first | (with_reducible first | exact HB.out | apply below_alloc | apply pw_below_drewN | apply below_drew1 | refine below_set ?_ (IsS55.ge HI124.out) | refine below_set ?_ (IsS58.ge HI126.out)) | exact HB.out)); rintro e w54 ⟨rfl, hi, hb, hk⟩; refine ⟨_, rfl, ?_⟩; have n0_ := Aside0.mk (IsS58.beside (show IsS58 w _ g126 x127000_12 from by repeat (first | (with_reducible first | exact HI126.out | apply IsS58.alloc | apply IsS58.drewN | apply IsS58.drew | apply IsS58.set_0 | refine IsS58.far ?_ NB126_124.out _) | exact HI126.out)) hk NX124_126.out); have n1_ := Aside0.mk (hb); have n2_ := Aside0.mk (hi); clear HI126; clear HB; clear HI124; have HI126 := n0_; have HB := n1_; have HI124 := n2_; clear n0_ n1_ n2_; (try clear hb); (try clear hb2); (try clear hk); (try clear hi)) | ((with_reducible refine gate_callee (f := 22) rfl ?_); refine goesL_ (some 106) rfl rfl Try.func22 (by kernel_rfl) rfl #[.pointer (some ⟨g126, 0, none⟩), .int .u32 ((Go.bits .and .i64 ((rd_T29 l0 x5_1).f1) 3) % 4294967296)] rfl (by (try simp only [List.map_toArray, List.map_cons, List.map_nil]); first | done | rfl | (simp only [List.length_drop, List.length_take]; rfl)) ?_; (with_reducible refine (refl_Left.calls g126 x127000_12 ((Go.bits .and .i64 ((rd_T29 l0 x5_1).f1) 3) % 4294967296) t148 t149 w _ ?side1 ?side2 A50.out).mono ?_); (case side1 => repeat (first | (with_reducible first | exact HI126.out | apply IsS58.alloc | apply IsS58.drewN | apply IsS58.drew | apply IsS58.set_0 | refine IsS58.far ?_ NB126_124.out _) | exact HI126.out)); (case side2 => repeat (first | (with_reducible first | exact HB.out | apply below_alloc | apply pw_below_drewN | apply below_drew1 | refine below_set ?_ (IsS55.ge HI124.out) | refine below_set ?_ (IsS58.ge HI126.out)) | exact HB.out)); rintro e w55 ⟨rfl, hi, hb, hk⟩; refine ⟨_, rfl, ?_⟩; have n0_ := Aside0.mk (IsS55.beside (show IsS55 w _ g124 t147 from by repeat (first | (with_reducible first | exact HI124.out | apply IsS55.alloc | apply IsS55.drewN | apply IsS55.drew | apply IsS55.set_0 | refine IsS55.far ?_ NB124_126.out _) | exact HI124.out)) hk NX124_126.out); have n1_ := Aside0.mk (hb); have n2_ := Aside0.mk (hi); clear HI124; clear HB; clear HI126; have HI124 := n0_; have HB := n1_; have HI126 := n2_; clear n0_ n1_ n2_; (try clear hb); (try clear hb2); (try clear hk); (try clear hi)))
          go_ret
          exact ⟨by first | rfl | (simp [errW_none, errW_some] <;> rfl) | (simp [*, errW_none, errW_some] <;> rfl), by repeat (first | (with_reducible first | exact HB.out | apply below_alloc | apply pw_below_drewN | apply below_drew1 | refine below_set ?_ (IsS55.ge HI124.out) | refine below_set ?_ (IsS58.ge HI126.out)) | exact HB.out)⟩
      ·
       rw [if_neg c12] at H
       exact absurd H (by simp)
     ·
      rw [if_neg c11] at H
      have c11b0 : decide (x5_1 < (l0.length : Int)) = false := decide_eq_false c11
      clear c11
      replace H := Option.bind_eq_some_iff.mp H
      obtain ⟨⟨t150, t151⟩, A560, H⟩ := H
      replace H : ((ledger_Open_nil.f 1 3).bind fun t152 => (if t152 = true then (some false) else (if t151 = true then (some false) else ((ledger_Left_nil.f 1).bind fun t153 => (if t153 = 0 then ((ledger_Close_nil.f 1).bind fun t154 => (some (!t154))) else (some false)))))) = some r := H
      have A56 := Aside0.mk A560
      clear A560
      replace H := Option.bind_eq_some_iff.mp H
      obtain ⟨t152, A570, H⟩ := H
      replace H : (if t152 = true then (some false) else (if t151 = true then (some false) else ((ledger_Left_nil.f 1).bind fun t153 => (if t153 = 0 then ((ledger_Close_nil.f 1).bind fun t154 => (some (!t154))) else (some false))))) = some r := H
      have A57 := Aside0.mk A570
      clear A570
      by_cases c58 : t152 = true
      ·
       subst c58
       have H1 : (some false) = some r := by rw [if_pos rfl] at H; exact H
       clear H
       have H := H1
       clear H1
       obtain rfl := Option.some.inj H
       go_wp2_with (first | ((with_reducible refine gate_callee (f := 19) rfl ?_); refine goesL_ (some 110) rfl rfl Try.func19 (by kernel_rfl) rfl #[.pointer none, .int .u32 1] rfl (by (try simp only [List.map_toArray, List.map_cons, List.map_nil]); first | done | rfl | (simp only [List.length_drop, List.length_take]; rfl)) ?_; (with_reducible refine (ledger_Next_nil.calls  1 t150 t151 _ A56.out).mono ?_); rintro e w59 ⟨rfl, hb⟩; refine ⟨_, rfl, ?_⟩; have n0_ := Aside0.mk (IsS55.below (by repeat (first | (with_reducible first | exact HI124.out | apply IsS55.alloc | apply IsS55.drewN | apply IsS55.drew | apply IsS55.set_0 | refine IsS55.far ?_ NB124_126.out _) | exact HI124.out)) hb); have n1_ := Aside0.mk (IsS58.below (by repeat (first | (with_reducible first | exact HI126.out | apply IsS58.alloc | apply IsS58.drewN | apply IsS58.drew | apply IsS58.set_0 | refine IsS58.far ?_ NB126_124.out _) | exact HI126.out)) hb); have n2_ := Aside0.mk (below_step (by repeat (first | (with_reducible first | exact HB.out | apply below_alloc | apply pw_below_drewN | apply below_drew1 | refine below_set ?_ (IsS55.ge HI124.out) | refine below_set ?_ (IsS58.ge HI126.out)) | exact HB.out)) hb); clear HI124; clear HI126; clear HB; have HI124 := n0_; have HI126 := n1_; have HB := n2_; clear n0_ n1_ n2_; (try clear hb); (try clear hb2); (try clear hk); (try clear hi)) | ((with_reducible refine gate_callee (f := 15) rfl ?_); refine goesL_ (some 114) rfl rfl Try.func15 (by kernel_rfl) rfl #[.pointer none, .int .u32 1, .int .i64 3] rfl (by (try simp only [List.map_toArray, List.map_cons, List.map_nil]); first | done | rfl | (simp only [List.length_drop, List.length_take]; rfl)) ?_; (with_reducible refine (ledger_Open_nil.calls  1 3 true _ A57.out).mono ?_); rintro e w60 ⟨rfl, hb⟩; refine ⟨_, rfl, ?_⟩; have n0_ := Aside0.mk (IsS55.below (by repeat (first | (with_reducible first | exact HI124.out | apply IsS55.alloc | apply IsS55.drewN | apply IsS55.drew | apply IsS55.set_0 | refine IsS55.far ?_ NB124_126.out _) | exact HI124.out)) hb); have n1_ := Aside0.mk (IsS58.below (by repeat (first | (with_reducible first | exact HI126.out | apply IsS58.alloc | apply IsS58.drewN | apply IsS58.drew | apply IsS58.set_0 | refine IsS58.far ?_ NB126_124.out _) | exact HI126.out)) hb); have n2_ := Aside0.mk (below_step (by repeat (first | (with_reducible first | exact HB.out | apply below_alloc | apply pw_below_drewN | apply below_drew1 | refine below_set ?_ (IsS55.ge HI124.out) | refine below_set ?_ (IsS58.ge HI126.out)) | exact HB.out)) hb); clear HI124; clear HI126; clear HB; have HI124 := n0_; have HI126 := n1_; have HB := n2_; clear n0_ n1_ n2_; (try clear hb); (try clear hb2); (try clear hk); (try clear hi)))
       go_ret
       exact ⟨by first | rfl | (simp [errW_none, errW_some] <;> rfl) | (simp [*, errW_none, errW_some] <;> rfl), by repeat (first | (with_reducible first | exact HB.out | apply below_alloc | apply pw_below_drewN | apply below_drew1 | refine below_set ?_ (IsS55.ge HI124.out) | refine below_set ?_ (IsS58.ge HI126.out)) | exact HB.out)⟩
      ·
       replace c58 := Bool.eq_false_iff.mpr c58
       subst c58
       have H1 : (if t151 = true then (some false) else ((ledger_Left_nil.f 1).bind fun t153 => (if t153 = 0 then ((ledger_Close_nil.f 1).bind fun t154 => (some (!t154))) else (some false)))) = some r := by rw [if_neg (show ¬ (false = true) by decide)] at H; exact H
       clear H
       have H := H1
       clear H1
       by_cases c61 : t151 = true
       ·
        subst c61
        have H1 : (some false) = some r := by rw [if_pos rfl] at H; exact H
        clear H
        have H := H1
        clear H1
        obtain rfl := Option.some.inj H
        go_wp2_with (first | ((with_reducible refine gate_callee (f := 19) rfl ?_); refine goesL_ (some 110) rfl rfl Try.func19 (by kernel_rfl) rfl #[.pointer none, .int .u32 1] rfl (by (try simp only [List.map_toArray, List.map_cons, List.map_nil]); first | done | rfl | (simp only [List.length_drop, List.length_take]; rfl)) ?_; (with_reducible refine (ledger_Next_nil.calls  1 t150 true _ A56.out).mono ?_); rintro e w62 ⟨rfl, hb⟩; refine ⟨_, rfl, ?_⟩; have n0_ := Aside0.mk (IsS55.below (by repeat (first | (with_reducible first | exact HI124.out | apply IsS55.alloc | apply IsS55.drewN | apply IsS55.drew | apply IsS55.set_0 | refine IsS55.far ?_ NB124_126.out _) | exact HI124.out)) hb); have n1_ := Aside0.mk (IsS58.below (by repeat (first | (with_reducible first | exact HI126.out | apply IsS58.alloc | apply IsS58.drewN | apply IsS58.drew | apply IsS58.set_0 | refine IsS58.far ?_ NB126_124.out _) | exact HI126.out)) hb); have n2_ := Aside0.mk (below_step (by repeat (first | (with_reducible first | exact HB.out | apply below_alloc | apply pw_below_drewN | apply below_drew1 | refine below_set ?_ (IsS55.ge HI124.out) | refine below_set ?_ (IsS58.ge HI126.out)) | exact HB.out)) hb); clear HI124; clear HI126; clear HB; have HI124 := n0_; have HI126 := n1_; have HB := n2_; clear n0_ n1_ n2_; (try clear hb); (try clear hb2); (try clear hk); (try clear hi)) | ((with_reducible refine gate_callee (f := 15) rfl ?_); refine goesL_ (some 114) rfl rfl Try.func15 (by kernel_rfl) rfl #[.pointer none, .int .u32 1, .int .i64 3] rfl (by (try simp only [List.map_toArray, List.map_cons, List.map_nil]); first | done | rfl | (simp only [List.length_drop, List.length_take]; rfl)) ?_; (with_reducible refine (ledger_Open_nil.calls  1 3 false _ A57.out).mono ?_); rintro e w63 ⟨rfl, hb⟩; refine ⟨_, rfl, ?_⟩; have n0_ := Aside0.mk (IsS55.below (by repeat (first | (with_reducible first | exact HI124.out | apply IsS55.alloc | apply IsS55.drewN | apply IsS55.drew | apply IsS55.set_0 | refine IsS55.far ?_ NB124_126.out _) | exact HI124.out)) hb); have n1_ := Aside0.mk (IsS58.below (by repeat (first | (with_reducible first | exact HI126.out | apply IsS58.alloc | apply IsS58.drewN | apply IsS58.drew | apply IsS58.set_0 | refine IsS58.far ?_ NB126_124.out _) | exact HI126.out)) hb); have n2_ := Aside0.mk (below_step (by repeat (first | (with_reducible first | exact HB.out | apply below_alloc | apply pw_below_drewN | apply below_drew1 | refine below_set ?_ (IsS55.ge HI124.out) | refine below_set ?_ (IsS58.ge HI126.out)) | exact HB.out)) hb); clear HI124; clear HI126; clear HB; have HI124 := n0_; have HI126 := n1_; have HB := n2_; clear n0_ n1_ n2_; (try clear hb); (try clear hb2); (try clear hk); (try clear hi)))
        go_ret
        exact ⟨by first | rfl | (simp [errW_none, errW_some] <;> rfl) | (simp [*, errW_none, errW_some] <;> rfl), by repeat (first | (with_reducible first | exact HB.out | apply below_alloc | apply pw_below_drewN | apply below_drew1 | refine below_set ?_ (IsS55.ge HI124.out) | refine below_set ?_ (IsS58.ge HI126.out)) | exact HB.out)⟩
       ·
        replace c61 := Bool.eq_false_iff.mpr c61
        subst c61
        have H1 : ((ledger_Left_nil.f 1).bind fun t153 => (if t153 = 0 then ((ledger_Close_nil.f 1).bind fun t154 => (some (!t154))) else (some false))) = some r := by rw [if_neg (show ¬ (false = true) by decide)] at H; exact H
        clear H
        have H := H1
        clear H1
        replace H := Option.bind_eq_some_iff.mp H
        obtain ⟨t153, A640, H⟩ := H
        replace H : (if t153 = 0 then ((ledger_Close_nil.f 1).bind fun t154 => (some (!t154))) else (some false)) = some r := H
        have A64 := Aside0.mk A640
        clear A640
        by_cases c65 : t153 = 0
        ·
         rw [if_pos c65] at H
         have c65b0 : (t153 == 0) = true := beq_iff_eq.mpr c65
         have c65b1 : (t153 != 0) = false := bne_eq_false_iff_eq.mpr c65
         clear c65
         replace H := Option.bind_eq_some_iff.mp H
         obtain ⟨t154, A660, H⟩ := H
         replace H : (some (!t154)) = some r := H
         have A66 := Aside0.mk A660
         clear A660
         obtain rfl := Option.some.inj H
         go_wp2_with (first | ((with_reducible refine gate_callee (f := 19) rfl ?_); refine goesL_ (some 110) rfl rfl Try.func19 (by kernel_rfl) rfl #[.pointer none, .int .u32 1] rfl (by (try simp only [List.map_toArray, List.map_cons, List.map_nil]); first | done | rfl | (simp only [List.length_drop, List.length_take]; rfl)) ?_; (with_reducible refine (ledger_Next_nil.calls  1 t150 false _ A56.out).mono ?_); rintro e w67 ⟨rfl, hb⟩; refine ⟨_, rfl, ?_⟩; have n0_ := Aside0.mk (IsS55.below (by repeat (first | (with_reducible first | exact HI124.out | apply IsS55.alloc | apply IsS55.drewN | apply IsS55.drew | apply IsS55.set_0 | refine IsS55.far ?_ NB124_126.out _) | exact HI124.out)) hb); have n1_ := Aside0.mk (IsS58.below (by repeat (first | (with_reducible first | exact HI126.out | apply IsS58.alloc | apply IsS58.drewN | apply IsS58.drew | apply IsS58.set_0 | refine IsS58.far ?_ NB126_124.out _) | exact HI126.out)) hb); have n2_ := Aside0.mk (below_step (by repeat (first | (with_reducible first | exact HB.out | apply below_alloc | apply pw_below_drewN | apply below_drew1 | refine below_set ?_ (IsS55.ge HI124.out) | refine below_set ?_ (IsS58.ge HI126.out)) | exact HB.out)) hb); clear HI124; clear HI126; clear HB; have HI124 := n0_; have HI126 := n1_; have HB := n2_; clear n0_ n1_ n2_; (try clear hb); (try clear hb2); (try clear hk); (try clear hi)) | ((with_reducible refine gate_callee (f := 15) rfl ?_); refine goesL_ (some 114) rfl rfl Try.func15 (by kernel_rfl) rfl #[.pointer none, .int .u32 1, .int .i64 3] rfl (by (try simp only [List.map_toArray, List.map_cons, List.map_nil]); first | done | rfl | (simp only [List.length_drop, List.length_take]; rfl)) ?_; (with_reducible refine (ledger_Open_nil.calls  1 3 false _ A57.out).mono ?_); rintro e w68 ⟨rfl, hb⟩; refine ⟨_, rfl, ?_⟩; have n0_ := Aside0.mk (IsS55.below (by repeat (first | (with_reducible first | exact HI124.out | apply IsS55.alloc | apply IsS55.drewN | apply IsS55.drew | apply IsS55.set_0 | refine IsS55.far ?_ NB124_126.out _) | exact HI124.out)) hb); have n1_ := Aside0.mk (IsS58.below (by repeat (first | (with_reducible first | exact HI126.out | apply IsS58.alloc | apply IsS58.drewN | apply IsS58.drew | apply IsS58.set_0 | refine IsS58.far ?_ NB126_124.out _) | exact HI126.out)) hb); have n2_ := Aside0.mk (below_step (by repeat (first | (with_reducible first | exact HB.out | apply below_alloc | apply pw_below_drewN | apply below_drew1 | refine below_set ?_ (IsS55.ge HI124.out) | refine below_set ?_ (IsS58.ge HI126.out)) | exact HB.out)) hb); clear HI124; clear HI126; clear HB; have HI124 := n0_; have HI126 := n1_; have HB := n2_; clear n0_ n1_ n2_; (try clear hb); (try clear hb2); (try clear hk); (try clear hi)) | (go_at_call 21; (with_reducible refine (ledger_Left_nil.calls  1 t153 _ A64.out).mono ?_); rintro e w69 ⟨rfl, hb⟩; have n0_ := Aside0.mk (IsS55.below (by repeat (first | (with_reducible first | exact HI124.out | apply IsS55.alloc | apply IsS55.drewN | apply IsS55.drew | apply IsS55.set_0 | refine IsS55.far ?_ NB124_126.out _) | exact HI124.out)) hb); have n1_ := Aside0.mk (IsS58.below (by repeat (first | (with_reducible first | exact HI126.out | apply IsS58.alloc | apply IsS58.drewN | apply IsS58.drew | apply IsS58.set_0 | refine IsS58.far ?_ NB126_124.out _) | exact HI126.out)) hb); have n2_ := Aside0.mk (below_step (by repeat (first | (with_reducible first | exact HB.out | apply below_alloc | apply pw_below_drewN | apply below_drew1 | refine below_set ?_ (IsS55.ge HI124.out) | refine below_set ?_ (IsS58.ge HI126.out)) | exact HB.out)) hb); clear HI124; clear HI126; clear HB; have HI124 := n0_; have HI126 := n1_; have HB := n2_; clear n0_ n1_ n2_; (try clear hb); (try clear hb2); (try clear hk); (try clear hi)) | (go_at_call 17; (with_reducible refine (ledger_Close_nil.calls  1 t154 _ A66.out).mono ?_); rintro e w70 ⟨rfl, hb⟩; have n0_ := Aside0.mk (IsS55.below (by repeat (first | (with_reducible first | exact HI124.out | apply IsS55.alloc | apply IsS55.drewN | apply IsS55.drew | apply IsS55.set_0 | refine IsS55.far ?_ NB124_126.out _) | exact HI124.out)) hb); have n1_ := Aside0.mk (IsS58.below (by repeat (first | (with_reducible first | exact HI126.out | apply IsS58.alloc | apply IsS58.drewN | apply IsS58.drew | apply IsS58.set_0 | refine IsS58.far ?_ NB126_124.out _) | exact HI126.out)) hb); have n2_ := Aside0.mk (below_step (by repeat (first | (with_reducible first | exact HB.out | apply below_alloc | apply pw_below_drewN | apply below_drew1 | refine below_set ?_ (IsS55.ge HI124.out) | refine below_set ?_ (IsS58.ge HI126.out)) | exact HB.out)) hb); clear HI124; clear HI126; clear HB; have HI124 := n0_; have HI126 := n1_; have HB := n2_; clear n0_ n1_ n2_; (try clear hb); (try clear hb2); (try clear hk); (try clear hi)))
         go_ret
         exact ⟨by first | rfl | (simp [errW_none, errW_some] <;> rfl) | (simp [*, errW_none, errW_some] <;> rfl), by repeat (first | (with_reducible first | exact HB.out | apply below_alloc | apply pw_below_drewN | apply below_drew1 | refine below_set ?_ (IsS55.ge HI124.out) | refine below_set ?_ (IsS58.ge HI126.out)) | exact HB.out)⟩
        ·
         rw [if_neg c65] at H
         have c65b0 : (t153 == 0) = false := beq_eq_false_iff_ne.mpr c65
         have c65b1 : (t153 != 0) = true := bne_iff_ne.mpr c65
         obtain rfl := Option.some.inj H
         go_wp2_with (first | ((with_reducible refine gate_callee (f := 19) rfl ?_); refine goesL_ (some 110) rfl rfl Try.func19 (by kernel_rfl) rfl #[.pointer none, .int .u32 1] rfl (by (try simp only [List.map_toArray, List.map_cons, List.map_nil]); first | done | rfl | (simp only [List.length_drop, List.length_take]; rfl)) ?_; (with_reducible refine (ledger_Next_nil.calls  1 t150 false _ A56.out).mono ?_); rintro e w71 ⟨rfl, hb⟩; refine ⟨_, rfl, ?_⟩; have n0_ := Aside0.mk (IsS55.below (by repeat (first | (with_reducible first | exact HI124.out | apply IsS55.alloc | apply IsS55.drewN | apply IsS55.drew | apply IsS55.set_0 | refine IsS55.far ?_ NB124_126.out _) | exact HI124.out)) hb); have n1_ := Aside0.mk (IsS58.below (by repeat (first | (with_reducible first | exact HI126.out | apply IsS58.alloc | apply IsS58.drewN | apply IsS58.drew | apply IsS58.set_0 | refine IsS58.far ?_ NB126_124.out _) | exact HI126.out)) hb); have n2_ := Aside0.mk (below_step (by repeat (first | (with_reducible first | exact HB.out | apply below_alloc | apply pw_below_drewN | apply below_drew1 | refine below_set ?_ (IsS55.ge HI124.out) | refine below_set ?_ (IsS58.ge HI126.out)) | exact HB.out)) hb); clear HI124; clear HI126; clear HB; have HI124 := n0_; have HI126 := n1_; have HB := n2_; clear n0_ n1_ n2_; (try clear hb); (try clear hb2); (try clear hk); (try clear hi)) | ((with_reducible refine gate_callee (f := 15) rfl ?_); refine goesL_ (some 114) rfl rfl Try.func15 (by kernel_rfl) rfl #[.pointer none, .int .u32 1, .int .i64 3] rfl (by (try simp only [List.map_toArray, List.map_cons, List.map_nil]); first | done | rfl | (simp only [List.length_drop, List.length_take]; rfl)) ?_; (with_reducible refine (ledger_Open_nil.calls  1 3 false _ A57.out).mono ?_); rintro e w72 ⟨rfl, hb⟩; refine ⟨_, rfl, ?_⟩; have n0_ := Aside0.mk (IsS55.below (by repeat (first | (with_reducible first | exact HI124.out | apply IsS55.alloc | apply IsS55.drewN | apply IsS55.drew | apply IsS55.set_0 | refine IsS55.far ?_ NB124_126.out _) | exact HI124.out)) hb); have n1_ := Aside0.mk (IsS58.below (by repeat (first | (with_reducible first | exact HI126.out | apply IsS58.alloc | apply IsS58.drewN | apply IsS58.drew | apply IsS58.set_0 | refine IsS58.far ?_ NB126_124.out _) | exact HI126.out)) hb); have n2_ := Aside0.mk (below_step (by repeat (first | (with_reducible first | exact HB.out | apply below_alloc | apply pw_below_drewN | apply below_drew1 | refine below_set ?_ (IsS55.ge HI124.out) | refine below_set ?_ (IsS58.ge HI126.out)) | exact HB.out)) hb); clear HI124; clear HI126; clear HB; have HI124 := n0_; have HI126 := n1_; have HB := n2_; clear n0_ n1_ n2_; (try clear hb); (try clear hb2); (try clear hk); (try clear hi)) | (go_at_call 21; (with_reducible refine (ledger_Left_nil.calls  1 t153 _ A64.out).mono ?_); rintro e w73 ⟨rfl, hb⟩; have n0_ := Aside0.mk (IsS55.below (by repeat (first | (with_reducible first | exact HI124.out | apply IsS55.alloc | apply IsS55.drewN | apply IsS55.drew | apply IsS55.set_0 | refine IsS55.far ?_ NB124_126.out _) | exact HI124.out)) hb); have n1_ := Aside0.mk (IsS58.below (by repeat (first | (with_reducible first | exact HI126.out | apply IsS58.alloc | apply IsS58.drewN | apply IsS58.drew | apply IsS58.set_0 | refine IsS58.far ?_ NB126_124.out _) | exact HI126.out)) hb); have n2_ := Aside0.mk (below_step (by repeat (first | (with_reducible first | exact HB.out | apply below_alloc | apply pw_below_drewN | apply below_drew1 | refine below_set ?_ (IsS55.ge HI124.out) | refine below_set ?_ (IsS58.ge HI126.out)) | exact HB.out)) hb); clear HI124; clear HI126; clear HB; have HI124 := n0_; have HI126 := n1_; have HB := n2_; clear n0_ n1_ n2_; (try clear hb); (try clear hb2); (try clear hk); (try clear hi)))
         go_ret
         exact ⟨by first | rfl | (simp [errW_none, errW_some] <;> rfl) | (simp [*, errW_none, errW_some] <;> rfl), by repeat (first | (with_reducible first | exact HB.out | apply below_alloc | apply pw_below_drewN | apply below_drew1 | refine below_set ?_ (IsS55.ge HI124.out) | refine below_set ?_ (IsS58.ge HI126.out)) | exact HB.out)⟩
 ·
  replace c3 := Bool.eq_false_iff.mpr c3
  subst c3
  have H1 : (some false) = some r := by rw [if_neg (show ¬ (false = true) by decide)] at H; exact H
  clear H
  have H := H1
  clear H1
  obtain rfl := Option.some.inj H
  go_enter Try.func3, Try.ntmps3
  go_wp2_with (first | ((with_reducible refine gate_callee (f := 12) rfl ?_); refine goesL_ (some 15) rfl rfl Try.func12 (by kernel_rfl) rfl #[] rfl (by (try simp only [List.map_toArray, List.map_cons, List.map_nil]); first | done | rfl | (simp only [List.length_drop, List.length_take]; rfl)) ?_; (with_reducible refine (girandolelaw23_begun.calls  false _ A2.out).mono ?_); rintro e w74 ⟨rfl, hb⟩; refine ⟨_, rfl, ?_⟩; have n0_ := Aside0.mk (below_step (by repeat (first | (with_reducible first | exact HB.out | apply below_alloc | apply pw_below_drewN | apply below_drew1) | exact HB.out)) hb); clear HB; have HB := n0_; clear n0_; (try clear hb); (try clear hb2); (try clear hk); (try clear hi)))
  go_ret
  exact ⟨by first | rfl | (simp [errW_none, errW_some] <;> rfl) | (simp [*, errW_none, errW_some] <;> rfl), by repeat (first | (with_reducible first | exact HB.out | apply below_alloc | apply pw_below_drewN | apply below_drew1) | exact HB.out)⟩

end Go.Proofs.Ytcehifhfgpodoaa.PLedgerAll
