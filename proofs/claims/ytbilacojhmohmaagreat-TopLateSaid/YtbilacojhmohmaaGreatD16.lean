/- Rounds of the loops with which a line more comes. No condition. -/
import Derived.Test.YtbilacojhmohmaaGreatD13
set_option linter.unusedVariables false
set_option linter.unusedSimpArgs false
noncomputable section
namespace Go.Proofs.YtbilacojhmohmaaGreat.Ae
open Go
theorem adR_3 : ∀ (o3 o4 it : AO) (X : Nat → AO) (es : List AEnt) (c : Nat), (adP [19, 20]).map (adRound o3 o4 it X es c) = (adP [19, 20]).map (adRoundW o3 o4 it X es c) := by
 intro o3 o4 it X es c
 kernel_rfl
theorem adS_3 : ∀ (o3 o4 it : AO) (X : Nat → AO) (es : List AEnt) (c : Nat), (adP2 [19, 20]).map (adSwap o3 o4 it X es c) = (adP2 [19, 20]).map (adSwapW o3 o4 it X es c) := by
 intro o3 o4 it X es c
 kernel_rfl
end Go.Proofs.YtbilacojhmohmaaGreat.Ae
end
