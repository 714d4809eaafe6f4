/- A packet is heard: the first one of its frame. No condition. -/
import Derived.Test.YtbilacojhmohmaaGreatD20
set_option linter.unusedVariables false
set_option linter.unusedSimpArgs false
noncomputable section
namespace Go.Proofs.YtbilacojhmohmaaGreat.Ae
open Go
theorem hr_A : ∀ (O : Nat → AO) (now : Int), (adLI.map fun p => hear p.1 p.2 O (rcvA p.1) now (idsH ++ [98, 99, 100])) = adLI.map fun p => some (vI 0, wantH O (rcvX p.1 vN (mapB 100) .dead .dead .dead .dead) p.1 p.2 ++ [some (linG p.1 1 fun j => bb2 (Nat.beq j p.2) true false), some (basisO p.1 98), some (basinO p.1 99)], 105) := by
 intro O now
 kernel_rfl
end Go.Proofs.YtbilacojhmohmaaGreat.Ae
end
