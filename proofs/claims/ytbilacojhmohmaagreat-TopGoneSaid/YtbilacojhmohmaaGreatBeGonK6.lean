/- TopGone: the ten ticks, by who hangs on some and who is lost. No condition. -/
import Derived.Test.YtbilacojhmohmaaGreatBeGonTk
import Derived.KernelRfl
namespace Go.Proofs.YtbilacojhmohmaaGreat.Ae
open Go
theorem tk_1_0 : tickA [false, true, false, false, false, false] 0 [] = true := by kernel_rfl
theorem tk_3_0 : tickA [false, true, true, false, false, false] 0 [] = true := by kernel_rfl
theorem tk_5_0 : tickA [false, true, false, true, false, false] 0 [] = true := by kernel_rfl
theorem tk_7_0 : tickA [false, true, true, true, false, false] 0 [] = true := by kernel_rfl
theorem tk_9_0 : tickA [false, true, false, false, true, false] 0 [] = true := by kernel_rfl
theorem tk_11_0 : tickA [false, true, true, false, true, false] 0 [] = true := by kernel_rfl
theorem tk_13_0 : tickA [false, true, false, true, true, false] 0 [] = true := by kernel_rfl
theorem tk_15_0 : tickA [false, true, true, true, true, false] 0 [] = true := by kernel_rfl
theorem tk_17_0 : tickA [false, true, false, false, false, true] 0 [] = true := by kernel_rfl
theorem tk_19_0 : tickA [false, true, true, false, false, true] 0 [] = true := by kernel_rfl
theorem tk_21_0 : tickA [false, true, false, true, false, true] 0 [] = true := by kernel_rfl
theorem tk_23_0 : tickA [false, true, true, true, false, true] 0 [] = true := by kernel_rfl
theorem tk_25_0 : tickA [false, true, false, false, true, true] 0 [] = true := by kernel_rfl
theorem tk_27_0 : tickA [false, true, true, false, true, true] 0 [] = true := by kernel_rfl
theorem tk_29_0 : tickA [false, true, false, true, true, true] 0 [] = true := by kernel_rfl
theorem tk_31_0 : tickA [false, true, true, true, true, true] 0 [] = true := by kernel_rfl
end Go.Proofs.YtbilacojhmohmaaGreat.Ae
