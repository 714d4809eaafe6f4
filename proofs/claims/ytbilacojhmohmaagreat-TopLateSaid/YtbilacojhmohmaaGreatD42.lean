/- The law's start, lengths 18 to 20. No condition. -/
import Derived.Test.YtbilacojhmohmaaGreatD38
set_option linter.unusedVariables false
set_option linter.unusedSimpArgs false
noncomputable section
namespace Go.Proofs.YtbilacojhmohmaaGreat.Ae
open Go
theorem st_18 : ∀ (u : Nat → Nat) (m : Nat), startAt u m 18 = startW u m 18 := by
 intro u m
 kernel_rfl
theorem st_19 : ∀ (u : Nat → Nat) (m : Nat), startAt u m 19 = startW u m 19 := by
 intro u m
 kernel_rfl
theorem st_20 : ∀ (u : Nat → Nat) (m : Nat), startAt u m 20 = startW u m 20 := by
 intro u m
 kernel_rfl
end Go.Proofs.YtbilacojhmohmaaGreat.Ae
end
