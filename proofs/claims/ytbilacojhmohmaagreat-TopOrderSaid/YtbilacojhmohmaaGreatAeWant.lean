/- The sort of wants, run at every order of some few. No condition. -/
import Derived.Test.YtbilacojhmohmaaGreatAeSort
namespace Go.Proofs.YtbilacojhmohmaaGreat.Ae
open Go
set_option linter.unusedVariables false

noncomputable def wantsN (l : List Nat) : List AV := List.rec (motive := fun _ => List AV) [] (fun y _ ih => .int .u32 (.ofNat y) :: .int .i64 (.ofNat 0) :: .int .i64 (.ofNat 4) :: ih) l
/-- the code's SortFunc ends on wants in this order -/
noncomputable def wantsAt (l : List Nat) : Bool := match cAny 158 [.slc (some (0, 0)) (countN l) (.upto 3 (countN l)), .func (.func 264) [] []] (ofObjs [.cells (wantsN l) 222 true] 1) with
  | some (.ret (.tuple []) aw) => (match aw.get 0 with
    | some (.cells _ _ _) => true
    | _ => false)
  | _ => false
noncomputable def wants5 (l : List Nat) : Bool := bb2 (Nat.ble 6 (countN l)) true (wantsAt l)
theorem wants_10_20 : orders wants5 5 [10, 20] [30, 40, 50, 60] = true := by kernel_rfl
theorem wants_10_30 : orders wants5 5 [10, 30] [20, 40, 50, 60] = true := by kernel_rfl
theorem wants_10_40 : orders wants5 5 [10, 40] [20, 30, 50, 60] = true := by kernel_rfl
theorem wants_10_50 : orders wants5 5 [10, 50] [20, 30, 40, 60] = true := by kernel_rfl
theorem wants_10_60 : orders wants5 5 [10, 60] [20, 30, 40, 50] = true := by kernel_rfl
theorem wants_20_10 : orders wants5 5 [20, 10] [30, 40, 50, 60] = true := by kernel_rfl
theorem wants_20_30 : orders wants5 5 [20, 30] [10, 40, 50, 60] = true := by kernel_rfl
theorem wants_20_40 : orders wants5 5 [20, 40] [10, 30, 50, 60] = true := by kernel_rfl
theorem wants_20_50 : orders wants5 5 [20, 50] [10, 30, 40, 60] = true := by kernel_rfl
theorem wants_20_60 : orders wants5 5 [20, 60] [10, 30, 40, 50] = true := by kernel_rfl
theorem wants_30_10 : orders wants5 5 [30, 10] [20, 40, 50, 60] = true := by kernel_rfl
theorem wants_30_20 : orders wants5 5 [30, 20] [10, 40, 50, 60] = true := by kernel_rfl
theorem wants_30_40 : orders wants5 5 [30, 40] [10, 20, 50, 60] = true := by kernel_rfl
theorem wants_30_50 : orders wants5 5 [30, 50] [10, 20, 40, 60] = true := by kernel_rfl
theorem wants_30_60 : orders wants5 5 [30, 60] [10, 20, 40, 50] = true := by kernel_rfl
theorem wants_40_10 : orders wants5 5 [40, 10] [20, 30, 50, 60] = true := by kernel_rfl
theorem wants_40_20 : orders wants5 5 [40, 20] [10, 30, 50, 60] = true := by kernel_rfl
theorem wants_40_30 : orders wants5 5 [40, 30] [10, 20, 50, 60] = true := by kernel_rfl
theorem wants_40_50 : orders wants5 5 [40, 50] [10, 20, 30, 60] = true := by kernel_rfl
theorem wants_40_60 : orders wants5 5 [40, 60] [10, 20, 30, 50] = true := by kernel_rfl
theorem wants_50_10 : orders wants5 5 [50, 10] [20, 30, 40, 60] = true := by kernel_rfl
theorem wants_50_20 : orders wants5 5 [50, 20] [10, 30, 40, 60] = true := by kernel_rfl
theorem wants_50_30 : orders wants5 5 [50, 30] [10, 20, 40, 60] = true := by kernel_rfl
theorem wants_50_40 : orders wants5 5 [50, 40] [10, 20, 30, 60] = true := by kernel_rfl
theorem wants_50_60 : orders wants5 5 [50, 60] [10, 20, 30, 40] = true := by kernel_rfl
theorem wants_60_10 : orders wants5 5 [60, 10] [20, 30, 40, 50] = true := by kernel_rfl
theorem wants_60_20 : orders wants5 5 [60, 20] [10, 30, 40, 50] = true := by kernel_rfl
theorem wants_60_30 : orders wants5 5 [60, 30] [10, 20, 40, 50] = true := by kernel_rfl
theorem wants_60_40 : orders wants5 5 [60, 40] [10, 20, 30, 50] = true := by kernel_rfl
theorem wants_60_50 : orders wants5 5 [60, 50] [10, 20, 30, 40] = true := by kernel_rfl
theorem wants_10 : wants5 [10] = true := by kernel_rfl
theorem wants_20 : wants5 [20] = true := by kernel_rfl
theorem wants_30 : wants5 [30] = true := by kernel_rfl
theorem wants_40 : wants5 [40] = true := by kernel_rfl
theorem wants_50 : wants5 [50] = true := by kernel_rfl
theorem wants_60 : wants5 [60] = true := by kernel_rfl
theorem wants_0 : wantsAt [] = true := by kernel_rfl
theorem wants_all (l : List Nat) (hn : l.Nodup) (hl : ∀ x ∈ l, x ∈ tens) (h0 : l ≠ []) : wants5 l = true := by
  have two : ∀ a ∈ tens, ∀ b ∈ tens, a ≠ b → orders wants5 5 [a, b] (delN b (delN a tens)) = true := fun a ha b hb hab => by
    simp only [tens, List.mem_cons, List.not_mem_nil, or_false] at ha hb
    rcases ha with rfl | rfl | rfl | rfl | rfl | rfl
    · rcases hb with rfl | rfl | rfl | rfl | rfl | rfl
      · exact (hab rfl).elim
      · exact wants_10_20
      · exact wants_10_30
      · exact wants_10_40
      · exact wants_10_50
      · exact wants_10_60
    · rcases hb with rfl | rfl | rfl | rfl | rfl | rfl
      · exact wants_20_10
      · exact (hab rfl).elim
      · exact wants_20_30
      · exact wants_20_40
      · exact wants_20_50
      · exact wants_20_60
    · rcases hb with rfl | rfl | rfl | rfl | rfl | rfl
      · exact wants_30_10
      · exact wants_30_20
      · exact (hab rfl).elim
      · exact wants_30_40
      · exact wants_30_50
      · exact wants_30_60
    · rcases hb with rfl | rfl | rfl | rfl | rfl | rfl
      · exact wants_40_10
      · exact wants_40_20
      · exact wants_40_30
      · exact (hab rfl).elim
      · exact wants_40_50
      · exact wants_40_60
    · rcases hb with rfl | rfl | rfl | rfl | rfl | rfl
      · exact wants_50_10
      · exact wants_50_20
      · exact wants_50_30
      · exact wants_50_40
      · exact (hab rfl).elim
      · exact wants_50_60
    · rcases hb with rfl | rfl | rfl | rfl | rfl | rfl
      · exact wants_60_10
      · exact wants_60_20
      · exact wants_60_30
      · exact wants_60_40
      · exact wants_60_50
      · exact (hab rfl).elim
  match l with
  | [] => exact (h0 rfl).elim
  | [a] =>
    have ha := hl a (by simp)
    simp only [tens, List.mem_cons, List.not_mem_nil, or_false] at ha
    rcases ha with rfl | rfl | rfl | rfl | rfl | rfl
    · exact wants_10
    · exact wants_20
    · exact wants_30
    · exact wants_40
    · exact wants_50
    · exact wants_60
  | a :: b :: l =>
    obtain ⟨h1, h2⟩ := List.nodup_cons.1 hn
    obtain ⟨h3, h4⟩ := List.nodup_cons.1 h2
    have hab : a ≠ b := fun e => h1 (by simp [e])
    exact orders_ok (two a (hl a (by simp)) b (hl b (by simp)) hab) l h4 fun x hx => mem_delN (mem_delN (hl x (by simp [hx])) fun e => h1 (by simp [← e, hx])) fun e => h3 (e ▸ hx)
end Go.Proofs.YtbilacojhmohmaaGreat.Ae
