/- TopGone: the ten ticks, by who hangs on some and who is lost. No condition. -/
import Derived.Test.YtbilacojhmohmaaGreatBeGonTk
import Derived.KernelRfl
namespace Go.Proofs.YtbilacojhmohmaaGreat.Ae
open Go
theorem tk_0_2 : tickA [false, false, false, false, false, false] 2 [] = true := by kernel_rfl
theorem tk_2_2 : tickA [false, false, true, false, false, false] 2 [] = true := by kernel_rfl
theorem tk_4_2 : tickA [false, false, false, true, false, false] 2 [] = true := by kernel_rfl
theorem tk_6_2 : tickA [false, false, true, true, false, false] 2 [] = true := by kernel_rfl
theorem tk_8_2 : tickA [false, false, false, false, true, false] 2 [] = true := by kernel_rfl
theorem tk_10_2 : tickA [false, false, true, false, true, false] 2 [] = true := by kernel_rfl
theorem tk_12_2 : tickA [false, false, false, true, true, false] 2 [] = true := by kernel_rfl
theorem tk_14_2 : tickA [false, false, true, true, true, false] 2 [] = true := by kernel_rfl
theorem tk_16_2 : tickA [false, false, false, false, false, true] 2 [] = true := by kernel_rfl
theorem tk_18_2 : tickA [false, false, true, false, false, true] 2 [] = true := by kernel_rfl
theorem tk_20_2 : tickA [false, false, false, true, false, true] 2 [] = true := by kernel_rfl
theorem tk_22_2 : tickA [false, false, true, true, false, true] 2 [] = true := by kernel_rfl
theorem tk_24_2 : tickA [false, false, false, false, true, true] 2 [] = true := by kernel_rfl
theorem tk_26_2 : tickA [false, false, true, false, true, true] 2 [] = true := by kernel_rfl
theorem tk_28_2 : tickA [false, false, false, true, true, true] 2 [] = true := by kernel_rfl
theorem tk_30_2 : tickA [false, false, true, true, true, true] 2 [] = true := by kernel_rfl
end Go.Proofs.YtbilacojhmohmaaGreat.Ae
