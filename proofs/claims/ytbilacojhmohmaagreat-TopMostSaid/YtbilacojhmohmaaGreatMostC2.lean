/- TopMost: rounds and ends, by the kernel, part 2. No condition. -/
import Derived.KernelRfl
import Derived.Test.YtbilacojhmohmaaGreatMostLay
namespace Go.Proofs.YtbilacojhmohmaaGreat.Ae
open Go
theorem round_56 : roundOK 56 = true := by kernel_rfl
theorem round_57 : roundOK 57 = true := by kernel_rfl
theorem round_58 : roundOK 58 = true := by kernel_rfl
theorem round_59 : roundOK 59 = true := by kernel_rfl
theorem round_60 : roundOK 60 = true := by kernel_rfl
theorem round_61 : roundOK 61 = true := by kernel_rfl
theorem round_62 : roundOK 62 = true := by kernel_rfl
theorem round_63 : roundOK 63 = true := by kernel_rfl
theorem round_64 : roundOK 64 = true := by kernel_rfl
theorem round_65 : roundOK 65 = true := by kernel_rfl
theorem round_66 : roundOK 66 = true := by kernel_rfl
theorem round_67 : roundOK 67 = true := by kernel_rfl
theorem round_68 : roundOK 68 = true := by kernel_rfl
theorem round_69 : roundOK 69 = true := by kernel_rfl
theorem round_70 : roundOK 70 = true := by kernel_rfl
end Go.Proofs.YtbilacojhmohmaaGreat.Ae
