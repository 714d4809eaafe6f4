/- TopGone: the ten ticks, by who hangs on some and who is lost. No condition. -/
import Derived.Test.YtbilacojhmohmaaGreatBeGonTk
import Derived.KernelRfl
namespace Go.Proofs.YtbilacojhmohmaaGreat.Ae
open Go
theorem tk_0_1 : tickA [false, false, false, false, false, false] 1 [] = true := by kernel_rfl
theorem tk_2_1 : tickA [false, false, true, false, false, false] 1 [] = true := by kernel_rfl
theorem tk_4_1 : tickA [false, false, false, true, false, false] 1 [] = true := by kernel_rfl
theorem tk_6_1 : tickA [false, false, true, true, false, false] 1 [] = true := by kernel_rfl
theorem tk_8_1 : tickA [false, false, false, false, true, false] 1 [] = true := by kernel_rfl
theorem tk_10_1 : tickA [false, false, true, false, true, false] 1 [] = true := by kernel_rfl
theorem tk_12_1 : tickA [false, false, false, true, true, false] 1 [] = true := by kernel_rfl
theorem tk_14_1 : tickA [false, false, true, true, true, false] 1 [] = true := by kernel_rfl
theorem tk_16_1 : tickA [false, false, false, false, false, true] 1 [] = true := by kernel_rfl
theorem tk_18_1 : tickA [false, false, true, false, false, true] 1 [] = true := by kernel_rfl
theorem tk_20_1 : tickA [false, false, false, true, false, true] 1 [] = true := by kernel_rfl
theorem tk_22_1 : tickA [false, false, true, true, false, true] 1 [] = true := by kernel_rfl
theorem tk_24_1 : tickA [false, false, false, false, true, true] 1 [] = true := by kernel_rfl
theorem tk_26_1 : tickA [false, false, true, false, true, true] 1 [] = true := by kernel_rfl
theorem tk_28_1 : tickA [false, false, false, true, true, true] 1 [] = true := by kernel_rfl
theorem tk_30_1 : tickA [false, false, true, true, true, true] 1 [] = true := by kernel_rfl
end Go.Proofs.YtbilacojhmohmaaGreat.Ae
