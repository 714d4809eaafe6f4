/- A tick behind the event. No condition. -/
import Derived.Test.YtbilacojhmohmaaGreatD35
set_option linter.unusedVariables false
set_option linter.unusedSimpArgs false
noncomputable section
namespace Go.Proofs.YtbilacojhmohmaaGreat.Ae
open Go
theorem tk_R : ∀ (O : Nat → AO) (c : Nat) (e31 e32 : AO), (nowsL [3, 4, 5, 6, 7, 8, 9, 10, 11, 12, 13, 14]).map (fun p => tickU p.1 idsT (mT p.1 p.2 evV (rcvT p.1 c 1) (zT p.1 p.2 .dead e31 e32 O) O)) = (nowsL [3, 4, 5, 6, 7, 8, 9, 10, 11, 12, 13, 14]).map fun p => wantU ans0 idsT (mT p.1 (p.2 + 1) evV (rcvT p.1 c 1) (zT p.1 (p.2 + 1) .dead e31 e32 O) O) 61 := by
 intro O c e31 e32
 kernel_rfl
end Go.Proofs.YtbilacojhmohmaaGreat.Ae
end
