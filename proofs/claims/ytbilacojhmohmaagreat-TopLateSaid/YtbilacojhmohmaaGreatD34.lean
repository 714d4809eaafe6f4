/- A tick with some lines: nothing yet. No condition. -/
import Derived.Test.YtbilacojhmohmaaGreatD27
set_option linter.unusedVariables false
set_option linter.unusedSimpArgs false
noncomputable section
namespace Go.Proofs.YtbilacojhmohmaaGreat.Ae
open Go
theorem tk_P3 : ∀ (O : Nat → AO) (β : Nat → Bool), (partL [5, 6]).map (fun p => tickAt p.1 same idsB (mT p.1 p.2.2 vN (rcvB p.1 p.2.1 β) (zT p.1 p.2.2 nb0 .dead .dead O) O)) = (partL [5, 6]).map fun p => wantT ans0 same idsB (mT p.1 (p.2.2 + 1) vN (rcvB p.1 p.2.1 β) (zT p.1 (p.2.2 + 1) nb0 .dead .dead O) O) 65 := by
 intro O β
 kernel_rfl
end Go.Proofs.YtbilacojhmohmaaGreat.Ae
end
