/- A tick that changes nothing yet; one that gives the frame up. No condition. -/
import Derived.Test.YtbilacojhmohmaaGreatD27
set_option linter.unusedVariables false
set_option linter.unusedSimpArgs false
noncomputable section
namespace Go.Proofs.YtbilacojhmohmaaGreat.Ae
open Go
theorem tk_A : ∀ (O : Nat → AO), (nowsL [1, 2, 3, 4, 5, 6]).map (fun p => tickAt p.1 same idsA (mT p.1 p.2 vN (rcvA p.1) (zT p.1 p.2 nb0 .dead .dead O) O)) = (nowsL [1, 2, 3, 4, 5, 6]).map fun p => wantT ans0 same idsA (mT p.1 (p.2 + 1) vN (rcvA p.1) (zT p.1 (p.2 + 1) nb0 .dead .dead O) O) 64 := by
 intro O
 kernel_rfl
theorem tk_AC : ∀ (O : Nat → AO), (nowsL [7]).map (fun p => tickAt p.1 (fT 65 95 32) (idsT ++ [31]) (mT p.1 p.2 vN (rcvA p.1) (zT p.1 p.2 nb0 .dead .dead O) O)) = (nowsL [7]).map fun p => wantT (ansE 87) (fT 65 95 32) (idsT ++ [31]) (mT p.1 8 evV (rcvT p.1 0 2) (zT p.1 8 .dead evC .dead O) O) 96 := by
 intro O
 kernel_rfl
end Go.Proofs.YtbilacojhmohmaaGreat.Ae
end
