/- Rounds of the loops with which a line more comes. No condition. -/
import Derived.Test.YtbilacojhmohmaaGreatD13
set_option linter.unusedVariables false
set_option linter.unusedSimpArgs false
noncomputable section
namespace Go.Proofs.YtbilacojhmohmaaGreat.Ae
open Go
theorem adR_1 : ∀ (o3 o4 it : AO) (X : Nat → AO) (es : List AEnt) (c : Nat), (adP [1, 2, 3, 4, 5, 6, 7, 8, 9, 10, 11, 12, 13, 14]).map (adRound o3 o4 it X es c) = (adP [1, 2, 3, 4, 5, 6, 7, 8, 9, 10, 11, 12, 13, 14]).map (adRoundW o3 o4 it X es c) := by
 intro o3 o4 it X es c
 kernel_rfl
theorem adS_1 : ∀ (o3 o4 it : AO) (X : Nat → AO) (es : List AEnt) (c : Nat), (adP2 [1, 2, 3, 4, 5, 6, 7, 8, 9, 10, 11, 12, 13, 14]).map (adSwap o3 o4 it X es c) = (adP2 [1, 2, 3, 4, 5, 6, 7, 8, 9, 10, 11, 12, 13, 14]).map (adSwapW o3 o4 it X es c) := by
 intro o3 o4 it X es c
 kernel_rfl
end Go.Proofs.YtbilacojhmohmaaGreat.Ae
end
