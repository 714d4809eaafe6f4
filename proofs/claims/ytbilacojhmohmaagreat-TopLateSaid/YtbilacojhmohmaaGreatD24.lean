/- A packet is heard: one that came before. No condition. -/
import Derived.Test.YtbilacojhmohmaaGreatD20
set_option linter.unusedVariables false
set_option linter.unusedSimpArgs false
noncomputable section
namespace Go.Proofs.YtbilacojhmohmaaGreat.Ae
open Go
def betaYes (β : Nat → Bool) (i : Nat) : Nat → Bool := fun j => bb2 (Nat.beq j i) true (β j)
theorem hr_C : ∀ (O : Nat → AO) (now : Int) (n : Nat) (β : Nat → Bool), (adLI.map fun p => hear p.1 p.2 O (rcvB p.1 n (betaYes β p.2)) now idsH) = adLI.map fun p => some (vI 0, wantH O (rcvB p.1 n (betaYes β p.2)) p.1 p.2, 99) := by
 intro O now n β
 kernel_rfl
end Go.Proofs.YtbilacojhmohmaaGreat.Ae
end
