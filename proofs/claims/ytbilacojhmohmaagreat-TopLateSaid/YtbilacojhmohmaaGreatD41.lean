/- The law's start, lengths 15 to 17. No condition. -/
import Derived.Test.YtbilacojhmohmaaGreatD38
set_option linter.unusedVariables false
set_option linter.unusedSimpArgs false
noncomputable section
namespace Go.Proofs.YtbilacojhmohmaaGreat.Ae
open Go
theorem st_15 : ∀ (u : Nat → Nat) (m : Nat), startAt u m 15 = startW u m 15 := by
 intro u m
 kernel_rfl
theorem st_16 : ∀ (u : Nat → Nat) (m : Nat), startAt u m 16 = startW u m 16 := by
 intro u m
 kernel_rfl
theorem st_17 : ∀ (u : Nat → Nat) (m : Nat), startAt u m 17 = startW u m 17 := by
 intro u m
 kernel_rfl
end Go.Proofs.YtbilacojhmohmaaGreat.Ae
end
