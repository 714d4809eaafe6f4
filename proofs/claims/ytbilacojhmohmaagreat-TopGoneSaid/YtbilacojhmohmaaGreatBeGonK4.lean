/- TopGone: the ten ticks, by who hangs on some and who is lost. No condition. -/
import Derived.Test.YtbilacojhmohmaaGreatBeGonTk
import Derived.KernelRfl
namespace Go.Proofs.YtbilacojhmohmaaGreat.Ae
open Go
theorem tk_0_4 : tickA [false, false, false, false, false, false] 4 [] = true := by kernel_rfl
theorem tk_2_4 : tickA [false, false, true, false, false, false] 4 [] = true := by kernel_rfl
theorem tk_4_4 : tickA [false, false, false, true, false, false] 4 [] = true := by kernel_rfl
theorem tk_6_4 : tickA [false, false, true, true, false, false] 4 [] = true := by kernel_rfl
theorem tk_8_4 : tickA [false, false, false, false, true, false] 4 [] = true := by kernel_rfl
theorem tk_10_4 : tickA [false, false, true, false, true, false] 4 [] = true := by kernel_rfl
theorem tk_12_4 : tickA [false, false, false, true, true, false] 4 [] = true := by kernel_rfl
theorem tk_14_4 : tickA [false, false, true, true, true, false] 4 [] = true := by kernel_rfl
theorem tk_16_4 : tickA [false, false, false, false, false, true] 4 [] = true := by kernel_rfl
theorem tk_18_4 : tickA [false, false, true, false, false, true] 4 [] = true := by kernel_rfl
theorem tk_20_4 : tickA [false, false, false, true, false, true] 4 [] = true := by kernel_rfl
theorem tk_22_4 : tickA [false, false, true, true, false, true] 4 [] = true := by kernel_rfl
theorem tk_24_4 : tickA [false, false, false, false, true, true] 4 [] = true := by kernel_rfl
theorem tk_26_4 : tickA [false, false, true, false, true, true] 4 [] = true := by kernel_rfl
theorem tk_28_4 : tickA [false, false, false, true, true, true] 4 [] = true := by kernel_rfl
theorem tk_30_4 : tickA [false, false, true, true, true, true] 4 [] = true := by kernel_rfl
end Go.Proofs.YtbilacojhmohmaaGreat.Ae
