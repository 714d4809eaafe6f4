/- TopMost: rounds and ends, by the kernel, part 4. No condition. -/
import Derived.KernelRfl
import Derived.Test.YtbilacojhmohmaaGreatMostLay
namespace Go.Proofs.YtbilacojhmohmaaGreat.Ae
open Go
theorem round_83 : roundOK 83 = true := by kernel_rfl
theorem round_84 : roundOK 84 = true := by kernel_rfl
theorem round_85 : roundOK 85 = true := by kernel_rfl
theorem round_86 : roundOK 86 = true := by kernel_rfl
theorem round_87 : roundOK 87 = true := by kernel_rfl
theorem round_88 : roundOK 88 = true := by kernel_rfl
theorem round_89 : roundOK 89 = true := by kernel_rfl
theorem round_90 : roundOK 90 = true := by kernel_rfl
theorem round_91 : roundOK 91 = true := by kernel_rfl
theorem round_92 : roundOK 92 = true := by kernel_rfl
theorem round_93 : roundOK 93 = true := by kernel_rfl
end Go.Proofs.YtbilacojhmohmaaGreat.Ae
