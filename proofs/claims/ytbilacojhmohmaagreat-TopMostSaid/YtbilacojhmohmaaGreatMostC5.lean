/- TopMost: rounds and ends, by the kernel, part 5. No condition. -/
import Derived.KernelRfl
import Derived.Test.YtbilacojhmohmaaGreatMostLay
namespace Go.Proofs.YtbilacojhmohmaaGreat.Ae
open Go
theorem round_94 : roundOK 94 = true := by kernel_rfl
theorem round_95 : roundOK 95 = true := by kernel_rfl
theorem round_96 : roundOK 96 = true := by kernel_rfl
theorem round_97 : roundOK 97 = true := by kernel_rfl
theorem round_98 : roundOK 98 = true := by kernel_rfl
theorem round_99 : roundOK 99 = true := by kernel_rfl
theorem round_100 : roundOK 100 = true := by kernel_rfl
theorem round_101 : roundOK 101 = true := by kernel_rfl
theorem round_102 : roundOK 102 = true := by kernel_rfl
theorem round_103 : roundOK 103 = true := by kernel_rfl
theorem round_104 : roundOK 104 = true := by kernel_rfl
theorem round_105 : roundOK 105 = true := by kernel_rfl
theorem round_106 : roundOK 106 = true := by kernel_rfl
theorem round_107 : roundOK 107 = true := by kernel_rfl
theorem round_108 : roundOK 108 = true := by kernel_rfl
theorem tail_0 : tailOK 0 = true := by kernel_rfl
theorem tail_1 : tailOK 1 = true := by kernel_rfl
theorem tail_2 : tailOK 2 = true := by kernel_rfl
theorem tail_3 : tailOK 3 = true := by kernel_rfl
theorem tail_4 : tailOK 4 = true := by kernel_rfl
theorem tail_5 : tailOK 5 = true := by kernel_rfl
theorem tail_6 : tailOK 6 = true := by kernel_rfl
theorem tail_7 : tailOK 7 = true := by kernel_rfl
theorem tail_8 : tailOK 8 = true := by kernel_rfl
theorem tail_9 : tailOK 9 = true := by kernel_rfl
theorem tail_10 : tailOK 10 = true := by kernel_rfl
theorem tail_11 : tailOK 11 = true := by kernel_rfl
theorem tail_12 : tailOK 12 = true := by kernel_rfl
theorem tail_13 : tailOK 13 = true := by kernel_rfl
theorem tail_14 : tailOK 14 = true := by kernel_rfl
theorem tail_15 : tailOK 15 = true := by kernel_rfl
theorem tail_16 : tailOK 16 = true := by kernel_rfl
theorem tail_17 : tailOK 17 = true := by kernel_rfl
theorem tail_18 : tailOK 18 = true := by kernel_rfl
theorem tail_19 : tailOK 19 = true := by kernel_rfl
theorem tail_20 : tailOK 20 = true := by kernel_rfl
theorem tail_21 : tailOK 21 = true := by kernel_rfl
theorem tail_22 : tailOK 22 = true := by kernel_rfl
theorem tail_23 : tailOK 23 = true := by kernel_rfl
theorem tail_24 : tailOK 24 = true := by kernel_rfl
theorem tail_25 : tailOK 25 = true := by kernel_rfl
theorem tail_26 : tailOK 26 = true := by kernel_rfl
theorem tail_27 : tailOK 27 = true := by kernel_rfl
theorem tail_28 : tailOK 28 = true := by kernel_rfl
theorem tail_29 : tailOK 29 = true := by kernel_rfl
theorem tail_30 : tailOK 30 = true := by kernel_rfl
theorem tail_31 : tailOK 31 = true := by kernel_rfl
theorem tail_32 : tailOK 32 = true := by kernel_rfl
theorem tail_33 : tailOK 33 = true := by kernel_rfl
theorem tail_34 : tailOK 34 = true := by kernel_rfl
theorem tail_35 : tailOK 35 = true := by kernel_rfl
end Go.Proofs.YtbilacojhmohmaaGreat.Ae
