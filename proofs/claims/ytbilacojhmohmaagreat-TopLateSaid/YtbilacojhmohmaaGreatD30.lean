/- A tick with all lines there: too early; then it is shown. No condition. -/
import Derived.Test.YtbilacojhmohmaaGreatD27
set_option linter.unusedVariables false
set_option linter.unusedSimpArgs false
noncomputable section
namespace Go.Proofs.YtbilacojhmohmaaGreat.Ae
open Go
theorem tk_K1 : ∀ (O : Nat → AO) (β : Nat → Bool), (nowsL [1]).map (fun p => tickAt p.1 same idsB (mT p.1 p.2 vN (rcvB p.1 (kOf p.1) β) (zT p.1 p.2 nb0 .dead .dead O) O)) = (nowsL [1]).map fun p => wantT ans0 same idsB (mT p.1 2 vN (rcvB p.1 (kOf p.1) β) (zT p.1 2 nb0 .dead .dead O) O) 67 := by
 intro O β
 kernel_rfl
theorem tk_KR : ∀ (O : Nat → AO) (β : Nat → Bool), (nowsL [2, 3, 4, 5, 6, 7]).map (fun p => tickAt p.1 (fT 68 (85 + kOf p.1) (82 + kOf p.1)) (idsT ++ [18, 31, 32]) (mT p.1 p.2 vN (rcvB p.1 (kOf p.1) β) (zT p.1 p.2 nb0 .dead .dead O) O)) = (nowsL [2, 3, 4, 5, 6, 7]).map fun p => wantT (ansE (79 + kOf p.1)) (fT 68 (85 + kOf p.1) (82 + kOf p.1)) (idsT ++ [18, 31, 32]) (mT p.1 (p.2 + 1) evV (rcvT p.1 1 1) (zT p.1 (p.2 + 1) nb0 (evR p.1 (p.2 + 1)) (bodO p.1) O) O) (86 + kOf p.1) := by
 intro O β
 kernel_rfl
end Go.Proofs.YtbilacojhmohmaaGreat.Ae
end
