/- Function 19: a frame that is marked is looked at, whatever its list. No condition. -/
import Derived.Test.YtbilacojhmohmaaGreatBeGonAx
namespace Go.Proofs.YtbilacojhmohmaaGreat.Ae
open Go
set_option linter.unusedVariables false
theorem stepI_0_0 : ∀ (F : Fr) (X : AV) (b : Bool), (chunkI 0 1 0).map (stepI F X b 0) = (chunkI 0 1 0).map (wantI F X b 0) := by
  intro F X b
  kernel_rfl
theorem stepI_1_0 : ∀ (F : Fr) (X : AV) (b : Bool), (chunkI 1 1 0).map (stepI F X b 1) = (chunkI 1 1 0).map (wantI F X b 1) := by
  intro F X b
  kernel_rfl
theorem stepI_2_0 : ∀ (F : Fr) (X : AV) (b : Bool), (chunkI 2 1 0).map (stepI F X b 2) = (chunkI 2 1 0).map (wantI F X b 2) := by
  intro F X b
  kernel_rfl
theorem stepI_3_0 : ∀ (F : Fr) (X : AV) (b : Bool), (chunkI 3 3 0).map (stepI F X b 3) = (chunkI 3 3 0).map (wantI F X b 3) := by
  intro F X b
  kernel_rfl
theorem stepI_3_1 : ∀ (F : Fr) (X : AV) (b : Bool), (chunkI 3 3 1).map (stepI F X b 3) = (chunkI 3 3 1).map (wantI F X b 3) := by
  intro F X b
  kernel_rfl
theorem stepI_3_2 : ∀ (F : Fr) (X : AV) (b : Bool), (chunkI 3 3 2).map (stepI F X b 3) = (chunkI 3 3 2).map (wantI F X b 3) := by
  intro F X b
  kernel_rfl
theorem stepI_4_0 : ∀ (F : Fr) (X : AV) (b : Bool), (chunkI 4 6 0).map (stepI F X b 4) = (chunkI 4 6 0).map (wantI F X b 4) := by
  intro F X b
  kernel_rfl
theorem stepI_4_1 : ∀ (F : Fr) (X : AV) (b : Bool), (chunkI 4 6 1).map (stepI F X b 4) = (chunkI 4 6 1).map (wantI F X b 4) := by
  intro F X b
  kernel_rfl
theorem stepI_4_2 : ∀ (F : Fr) (X : AV) (b : Bool), (chunkI 4 6 2).map (stepI F X b 4) = (chunkI 4 6 2).map (wantI F X b 4) := by
  intro F X b
  kernel_rfl
theorem stepI_4_3 : ∀ (F : Fr) (X : AV) (b : Bool), (chunkI 4 6 3).map (stepI F X b 4) = (chunkI 4 6 3).map (wantI F X b 4) := by
  intro F X b
  kernel_rfl
theorem stepI_4_4 : ∀ (F : Fr) (X : AV) (b : Bool), (chunkI 4 6 4).map (stepI F X b 4) = (chunkI 4 6 4).map (wantI F X b 4) := by
  intro F X b
  kernel_rfl
theorem stepI_4_5 : ∀ (F : Fr) (X : AV) (b : Bool), (chunkI 4 6 5).map (stepI F X b 4) = (chunkI 4 6 5).map (wantI F X b 4) := by
  intro F X b
  kernel_rfl
end Go.Proofs.YtbilacojhmohmaaGreat.Ae
