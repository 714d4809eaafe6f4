/- TopMost: rounds and ends, by the kernel, part 1. No condition. -/
import Derived.KernelRfl
import Derived.Test.YtbilacojhmohmaaGreatMostLay
namespace Go.Proofs.YtbilacojhmohmaaGreat.Ae
open Go
theorem round_37 : roundOK 37 = true := by kernel_rfl
theorem round_38 : roundOK 38 = true := by kernel_rfl
theorem round_39 : roundOK 39 = true := by kernel_rfl
theorem round_40 : roundOK 40 = true := by kernel_rfl
theorem round_41 : roundOK 41 = true := by kernel_rfl
theorem round_42 : roundOK 42 = true := by kernel_rfl
theorem round_43 : roundOK 43 = true := by kernel_rfl
theorem round_44 : roundOK 44 = true := by kernel_rfl
theorem round_45 : roundOK 45 = true := by kernel_rfl
theorem round_46 : roundOK 46 = true := by kernel_rfl
theorem round_47 : roundOK 47 = true := by kernel_rfl
theorem round_48 : roundOK 48 = true := by kernel_rfl
theorem round_49 : roundOK 49 = true := by kernel_rfl
theorem round_50 : roundOK 50 = true := by kernel_rfl
theorem round_51 : roundOK 51 = true := by kernel_rfl
theorem round_52 : roundOK 52 = true := by kernel_rfl
theorem round_53 : roundOK 53 = true := by kernel_rfl
theorem round_54 : roundOK 54 = true := by kernel_rfl
theorem round_55 : roundOK 55 = true := by kernel_rfl
end Go.Proofs.YtbilacojhmohmaaGreat.Ae
