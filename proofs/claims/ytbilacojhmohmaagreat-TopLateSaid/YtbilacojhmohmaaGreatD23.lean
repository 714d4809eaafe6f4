/- A packet is heard: one more of its frame. No condition. -/
import Derived.Test.YtbilacojhmohmaaGreatD20
set_option linter.unusedVariables false
set_option linter.unusedSimpArgs false
noncomputable section
namespace Go.Proofs.YtbilacojhmohmaaGreat.Ae
open Go
def betaNo (β : Nat → Bool) (i : Nat) : Nat → Bool := fun j => bif Nat.beq j i then false else β j
theorem hr_B : ∀ (O : Nat → AO) (now : Int) (n : Nat) (β : Nat → Bool), (adLI.map fun p => hear p.1 p.2 O (rcvB p.1 n (betaNo β p.2)) now idsH) = adLI.map fun p => some (vI 0, wantH O (rcvB p.1 (n + 1) fun j => bb2 (Nat.beq j p.2) true (betaNo β p.2 j)) p.1 p.2, 99) := by
 intro O now n β
 kernel_rfl
end Go.Proofs.YtbilacojhmohmaaGreat.Ae
end
