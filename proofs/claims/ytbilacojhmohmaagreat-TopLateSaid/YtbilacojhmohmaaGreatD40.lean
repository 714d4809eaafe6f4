/- The law's start, lengths 11 to 14. No condition. -/
import Derived.Test.YtbilacojhmohmaaGreatD38
set_option linter.unusedVariables false
set_option linter.unusedSimpArgs false
noncomputable section
namespace Go.Proofs.YtbilacojhmohmaaGreat.Ae
open Go
theorem st_11 : ∀ (u : Nat → Nat) (m : Nat), startAt u m 11 = startW u m 11 := by
 intro u m
 kernel_rfl
theorem st_12 : ∀ (u : Nat → Nat) (m : Nat), startAt u m 12 = startW u m 12 := by
 intro u m
 kernel_rfl
theorem st_13 : ∀ (u : Nat → Nat) (m : Nat), startAt u m 13 = startW u m 13 := by
 intro u m
 kernel_rfl
theorem st_14 : ∀ (u : Nat → Nat) (m : Nat), startAt u m 14 = startW u m 14 := by
 intro u m
 kernel_rfl
end Go.Proofs.YtbilacojhmohmaaGreat.Ae
end
