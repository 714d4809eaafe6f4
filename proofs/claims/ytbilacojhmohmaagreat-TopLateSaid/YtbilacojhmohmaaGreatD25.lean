/- A packet is heard: its frame has been shown. No condition. -/
import Derived.Test.YtbilacojhmohmaaGreatD20
set_option linter.unusedVariables false
set_option linter.unusedSimpArgs false
noncomputable section
namespace Go.Proofs.YtbilacojhmohmaaGreat.Ae
open Go
theorem hr_T1 : ∀ (O : Nat → AO) (now : Int) (c : Nat), (adLI.map fun p => hear p.1 p.2 O (rcvT p.1 c 1) now idsH) = adLI.map fun p => some (vI 0, wantH O (rcvT p.1 c 1) p.1 p.2, 89) := by
 intro O now c
 kernel_rfl
end Go.Proofs.YtbilacojhmohmaaGreat.Ae
end
