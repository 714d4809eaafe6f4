/- TopMost: rounds and ends, by the kernel, part 3. No condition. -/
import Derived.KernelRfl
import Derived.Test.YtbilacojhmohmaaGreatMostLay
namespace Go.Proofs.YtbilacojhmohmaaGreat.Ae
open Go
theorem round_71 : roundOK 71 = true := by kernel_rfl
theorem round_72 : roundOK 72 = true := by kernel_rfl
theorem round_73 : roundOK 73 = true := by kernel_rfl
theorem round_74 : roundOK 74 = true := by kernel_rfl
theorem round_75 : roundOK 75 = true := by kernel_rfl
theorem round_76 : roundOK 76 = true := by kernel_rfl
theorem round_77 : roundOK 77 = true := by kernel_rfl
theorem round_78 : roundOK 78 = true := by kernel_rfl
theorem round_79 : roundOK 79 = true := by kernel_rfl
theorem round_80 : roundOK 80 = true := by kernel_rfl
theorem round_81 : roundOK 81 = true := by kernel_rfl
theorem round_82 : roundOK 82 = true := by kernel_rfl
end Go.Proofs.YtbilacojhmohmaaGreat.Ae
