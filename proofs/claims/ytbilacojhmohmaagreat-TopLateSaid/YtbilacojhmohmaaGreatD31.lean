/- A tick with some lines: it is given up. No condition. -/
import Derived.Test.YtbilacojhmohmaaGreatD27
set_option linter.unusedVariables false
set_option linter.unusedSimpArgs false
noncomputable section
namespace Go.Proofs.YtbilacojhmohmaaGreat.Ae
open Go
theorem tk_PC : ∀ (O : Nat → AO) (β : Nat → Bool), (partL [7]).map (fun p => tickAt p.1 (fT 66 96 32) (idsT ++ [31]) (mT p.1 p.2.2 vN (rcvB p.1 p.2.1 β) (zT p.1 p.2.2 nb0 .dead .dead O) O)) = (partL [7]).map fun p => wantT (ansE 88) (fT 66 96 32) (idsT ++ [31]) (mT p.1 8 evV (rcvT p.1 1 2) (zT p.1 8 .dead evC .dead O) O) 97 := by
 intro O β
 kernel_rfl
end Go.Proofs.YtbilacojhmohmaaGreat.Ae
end
