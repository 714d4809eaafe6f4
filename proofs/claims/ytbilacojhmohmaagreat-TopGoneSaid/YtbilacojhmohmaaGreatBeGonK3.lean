/- TopGone: the ten ticks, by who hangs on some and who is lost. No condition. -/
import Derived.Test.YtbilacojhmohmaaGreatBeGonTk
import Derived.KernelRfl
namespace Go.Proofs.YtbilacojhmohmaaGreat.Ae
open Go
theorem tk_0_3 : tickA [false, false, false, false, false, false] 3 [] = true := by kernel_rfl
theorem tk_2_3 : tickA [false, false, true, false, false, false] 3 [] = true := by kernel_rfl
theorem tk_4_3 : tickA [false, false, false, true, false, false] 3 [] = true := by kernel_rfl
theorem tk_6_3 : tickA [false, false, true, true, false, false] 3 [] = true := by kernel_rfl
theorem tk_8_3 : tickA [false, false, false, false, true, false] 3 [] = true := by kernel_rfl
theorem tk_10_3 : tickA [false, false, true, false, true, false] 3 [] = true := by kernel_rfl
theorem tk_12_3 : tickA [false, false, false, true, true, false] 3 [] = true := by kernel_rfl
theorem tk_14_3 : tickA [false, false, true, true, true, false] 3 [] = true := by kernel_rfl
theorem tk_16_3 : tickA [false, false, false, false, false, true] 3 [] = true := by kernel_rfl
theorem tk_18_3 : tickA [false, false, true, false, false, true] 3 [] = true := by kernel_rfl
theorem tk_20_3 : tickA [false, false, false, true, false, true] 3 [] = true := by kernel_rfl
theorem tk_22_3 : tickA [false, false, true, true, false, true] 3 [] = true := by kernel_rfl
theorem tk_24_3 : tickA [false, false, false, false, true, true] 3 [] = true := by kernel_rfl
theorem tk_26_3 : tickA [false, false, true, false, true, true] 3 [] = true := by kernel_rfl
theorem tk_28_3 : tickA [false, false, false, true, true, true] 3 [] = true := by kernel_rfl
theorem tk_30_3 : tickA [false, false, true, true, true, true] 3 [] = true := by kernel_rfl
end Go.Proofs.YtbilacojhmohmaaGreat.Ae
