/- TopGone: the ten ticks, by who hangs on some and who is lost. No condition. -/
import Derived.Test.YtbilacojhmohmaaGreatBeGonTk
import Derived.KernelRfl
namespace Go.Proofs.YtbilacojhmohmaaGreat.Ae
open Go
theorem tk_0_0 : tickA [false, false, false, false, false, false] 0 [] = true := by kernel_rfl
theorem tk_2_0 : tickA [false, false, true, false, false, false] 0 [] = true := by kernel_rfl
theorem tk_4_0 : tickA [false, false, false, true, false, false] 0 [] = true := by kernel_rfl
theorem tk_6_0 : tickA [false, false, true, true, false, false] 0 [] = true := by kernel_rfl
theorem tk_8_0 : tickA [false, false, false, false, true, false] 0 [] = true := by kernel_rfl
theorem tk_10_0 : tickA [false, false, true, false, true, false] 0 [] = true := by kernel_rfl
theorem tk_12_0 : tickA [false, false, false, true, true, false] 0 [] = true := by kernel_rfl
theorem tk_14_0 : tickA [false, false, true, true, true, false] 0 [] = true := by kernel_rfl
theorem tk_16_0 : tickA [false, false, false, false, false, true] 0 [] = true := by kernel_rfl
theorem tk_18_0 : tickA [false, false, true, false, false, true] 0 [] = true := by kernel_rfl
theorem tk_20_0 : tickA [false, false, false, true, false, true] 0 [] = true := by kernel_rfl
theorem tk_22_0 : tickA [false, false, true, true, false, true] 0 [] = true := by kernel_rfl
theorem tk_24_0 : tickA [false, false, false, false, true, true] 0 [] = true := by kernel_rfl
theorem tk_26_0 : tickA [false, false, true, false, true, true] 0 [] = true := by kernel_rfl
theorem tk_28_0 : tickA [false, false, false, true, true, true] 0 [] = true := by kernel_rfl
theorem tk_30_0 : tickA [false, false, true, true, true, true] 0 [] = true := by kernel_rfl
end Go.Proofs.YtbilacojhmohmaaGreat.Ae
