/- TopMost: rounds and ends, by the kernel, part 0. No condition. -/
import Derived.KernelRfl
import Derived.Test.YtbilacojhmohmaaGreatMostLay
namespace Go.Proofs.YtbilacojhmohmaaGreat.Ae
open Go
theorem pre_ok : preOK = true := by kernel_rfl
theorem round_0 : roundOK 0 = true := by kernel_rfl
theorem round_1 : roundOK 1 = true := by kernel_rfl
theorem round_2 : roundOK 2 = true := by kernel_rfl
theorem round_3 : roundOK 3 = true := by kernel_rfl
theorem round_4 : roundOK 4 = true := by kernel_rfl
theorem round_5 : roundOK 5 = true := by kernel_rfl
theorem round_6 : roundOK 6 = true := by kernel_rfl
theorem round_7 : roundOK 7 = true := by kernel_rfl
theorem round_8 : roundOK 8 = true := by kernel_rfl
theorem round_9 : roundOK 9 = true := by kernel_rfl
theorem round_10 : roundOK 10 = true := by kernel_rfl
theorem round_11 : roundOK 11 = true := by kernel_rfl
theorem round_12 : roundOK 12 = true := by kernel_rfl
theorem round_13 : roundOK 13 = true := by kernel_rfl
theorem round_14 : roundOK 14 = true := by kernel_rfl
theorem round_15 : roundOK 15 = true := by kernel_rfl
theorem round_16 : roundOK 16 = true := by kernel_rfl
theorem round_17 : roundOK 17 = true := by kernel_rfl
theorem round_18 : roundOK 18 = true := by kernel_rfl
theorem round_19 : roundOK 19 = true := by kernel_rfl
theorem round_20 : roundOK 20 = true := by kernel_rfl
theorem round_21 : roundOK 21 = true := by kernel_rfl
theorem round_22 : roundOK 22 = true := by kernel_rfl
theorem round_23 : roundOK 23 = true := by kernel_rfl
theorem round_24 : roundOK 24 = true := by kernel_rfl
theorem round_25 : roundOK 25 = true := by kernel_rfl
theorem round_26 : roundOK 26 = true := by kernel_rfl
theorem round_27 : roundOK 27 = true := by kernel_rfl
theorem round_28 : roundOK 28 = true := by kernel_rfl
theorem round_29 : roundOK 29 = true := by kernel_rfl
theorem round_30 : roundOK 30 = true := by kernel_rfl
theorem round_31 : roundOK 31 = true := by kernel_rfl
theorem round_32 : roundOK 32 = true := by kernel_rfl
theorem round_33 : roundOK 33 = true := by kernel_rfl
theorem round_34 : roundOK 34 = true := by kernel_rfl
theorem round_35 : roundOK 35 = true := by kernel_rfl
theorem round_36 : roundOK 36 = true := by kernel_rfl
end Go.Proofs.YtbilacojhmohmaaGreat.Ae
