/- The law's start, lengths 1 to 10. No condition. -/
import Derived.Test.YtbilacojhmohmaaGreatD38
set_option linter.unusedVariables false
set_option linter.unusedSimpArgs false
noncomputable section
namespace Go.Proofs.YtbilacojhmohmaaGreat.Ae
open Go
theorem st_1 : ∀ (u : Nat → Nat) (m : Nat), startAt u m 1 = startW u m 1 := by
 intro u m
 kernel_rfl
theorem st_2 : ∀ (u : Nat → Nat) (m : Nat), startAt u m 2 = startW u m 2 := by
 intro u m
 kernel_rfl
theorem st_3 : ∀ (u : Nat → Nat) (m : Nat), startAt u m 3 = startW u m 3 := by
 intro u m
 kernel_rfl
theorem st_4 : ∀ (u : Nat → Nat) (m : Nat), startAt u m 4 = startW u m 4 := by
 intro u m
 kernel_rfl
theorem st_5 : ∀ (u : Nat → Nat) (m : Nat), startAt u m 5 = startW u m 5 := by
 intro u m
 kernel_rfl
theorem st_6 : ∀ (u : Nat → Nat) (m : Nat), startAt u m 6 = startW u m 6 := by
 intro u m
 kernel_rfl
theorem st_7 : ∀ (u : Nat → Nat) (m : Nat), startAt u m 7 = startW u m 7 := by
 intro u m
 kernel_rfl
theorem st_8 : ∀ (u : Nat → Nat) (m : Nat), startAt u m 8 = startW u m 8 := by
 intro u m
 kernel_rfl
theorem st_9 : ∀ (u : Nat → Nat) (m : Nat), startAt u m 9 = startW u m 9 := by
 intro u m
 kernel_rfl
theorem st_10 : ∀ (u : Nat → Nat) (m : Nat), startAt u m 10 = startW u m 10 := by
 intro u m
 kernel_rfl
end Go.Proofs.YtbilacojhmohmaaGreat.Ae
end
