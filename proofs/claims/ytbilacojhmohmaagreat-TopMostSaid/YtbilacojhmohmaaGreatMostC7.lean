/- TopMost: rounds and ends, by the kernel, part 7. No condition. -/
import Derived.KernelRfl
import Derived.Test.YtbilacojhmohmaaGreatMostLay
namespace Go.Proofs.YtbilacojhmohmaaGreat.Ae
open Go
theorem tail_84 : tailOK 84 = true := by kernel_rfl
theorem tail_85 : tailOK 85 = true := by kernel_rfl
theorem tail_86 : tailOK 86 = true := by kernel_rfl
theorem tail_87 : tailOK 87 = true := by kernel_rfl
theorem tail_88 : tailOK 88 = true := by kernel_rfl
theorem tail_89 : tailOK 89 = true := by kernel_rfl
theorem tail_90 : tailOK 90 = true := by kernel_rfl
theorem tail_91 : tailOK 91 = true := by kernel_rfl
theorem tail_92 : tailOK 92 = true := by kernel_rfl
theorem tail_93 : tailOK 93 = true := by kernel_rfl
theorem tail_94 : tailOK 94 = true := by kernel_rfl
theorem tail_95 : tailOK 95 = true := by kernel_rfl
theorem tail_96 : tailOK 96 = true := by kernel_rfl
theorem tail_97 : tailOK 97 = true := by kernel_rfl
theorem tail_98 : tailOK 98 = true := by kernel_rfl
theorem tail_99 : tailOK 99 = true := by kernel_rfl
theorem tail_100 : tailOK 100 = true := by kernel_rfl
theorem tail_101 : tailOK 101 = true := by kernel_rfl
theorem tail_102 : tailOK 102 = true := by kernel_rfl
theorem tail_103 : tailOK 103 = true := by kernel_rfl
theorem tail_104 : tailOK 104 = true := by kernel_rfl
theorem tail_105 : tailOK 105 = true := by kernel_rfl
theorem tail_106 : tailOK 106 = true := by kernel_rfl
theorem tail_107 : tailOK 107 = true := by kernel_rfl
theorem tail_108 : tailOK 108 = true := by kernel_rfl
theorem tail_109 : tailOK 109 = true := by kernel_rfl
end Go.Proofs.YtbilacojhmohmaaGreat.Ae
