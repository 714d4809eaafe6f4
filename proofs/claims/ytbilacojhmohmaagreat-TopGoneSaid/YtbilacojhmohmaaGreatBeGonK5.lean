/- TopGone: the ten ticks, by who hangs on some and who is lost. No condition. -/
import Derived.Test.YtbilacojhmohmaaGreatBeGonTk
import Derived.KernelRfl
namespace Go.Proofs.YtbilacojhmohmaaGreat.Ae
open Go
theorem tk_0_5 : tickA [false, false, false, false, false, false] 5 [] = true := by kernel_rfl
theorem tk_2_5 : tickA [false, false, true, false, false, false] 5 [] = true := by kernel_rfl
theorem tk_4_5 : tickA [false, false, false, true, false, false] 5 [] = true := by kernel_rfl
theorem tk_6_5 : tickA [false, false, true, true, false, false] 5 [] = true := by kernel_rfl
theorem tk_8_5 : tickA [false, false, false, false, true, false] 5 [] = true := by kernel_rfl
theorem tk_10_5 : tickA [false, false, true, false, true, false] 5 [] = true := by kernel_rfl
theorem tk_12_5 : tickA [false, false, false, true, true, false] 5 [] = true := by kernel_rfl
theorem tk_14_5 : tickA [false, false, true, true, true, false] 5 [] = true := by kernel_rfl
theorem tk_16_5 : tickA [false, false, false, false, false, true] 5 [] = true := by kernel_rfl
theorem tk_18_5 : tickA [false, false, true, false, false, true] 5 [] = true := by kernel_rfl
theorem tk_20_5 : tickA [false, false, false, true, false, true] 5 [] = true := by kernel_rfl
theorem tk_22_5 : tickA [false, false, true, true, false, true] 5 [] = true := by kernel_rfl
theorem tk_24_5 : tickA [false, false, false, false, true, true] 5 [] = true := by kernel_rfl
theorem tk_26_5 : tickA [false, false, true, false, true, true] 5 [] = true := by kernel_rfl
theorem tk_28_5 : tickA [false, false, false, true, true, true] 5 [] = true := by kernel_rfl
theorem tk_30_5 : tickA [false, false, true, true, true, true] 5 [] = true := by kernel_rfl
end Go.Proofs.YtbilacojhmohmaaGreat.Ae
