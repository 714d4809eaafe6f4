/- TopGone: the ten ticks, by who hangs on some and who is lost. No condition. -/
import Derived.Test.YtbilacojhmohmaaGreatBeGonTk
import Derived.KernelRfl
namespace Go.Proofs.YtbilacojhmohmaaGreat.Ae
open Go
theorem tk_1_1 : tickA [false, true, false, false, false, false] 1 [] = true := by kernel_rfl
theorem tk_3_1 : tickA [false, true, true, false, false, false] 1 [] = true := by kernel_rfl
theorem tk_5_1 : tickA [false, true, false, true, false, false] 1 [] = true := by kernel_rfl
theorem tk_7_1 : tickA [false, true, true, true, false, false] 1 [] = true := by kernel_rfl
theorem tk_9_1 : tickA [false, true, false, false, true, false] 1 [] = true := by kernel_rfl
theorem tk_11_1 : tickA [false, true, true, false, true, false] 1 [] = true := by kernel_rfl
theorem tk_13_1 : tickA [false, true, false, true, true, false] 1 [] = true := by kernel_rfl
theorem tk_15_1 : tickA [false, true, true, true, true, false] 1 [] = true := by kernel_rfl
theorem tk_17_1 : tickA [false, true, false, false, false, true] 1 [] = true := by kernel_rfl
theorem tk_19_1 : tickA [false, true, true, false, false, true] 1 [] = true := by kernel_rfl
theorem tk_21_1 : tickA [false, true, false, true, false, true] 1 [] = true := by kernel_rfl
theorem tk_23_1 : tickA [false, true, true, true, false, true] 1 [] = true := by kernel_rfl
theorem tk_25_1 : tickA [false, true, false, false, true, true] 1 [] = true := by kernel_rfl
theorem tk_27_1 : tickA [false, true, true, false, true, true] 1 [] = true := by kernel_rfl
theorem tk_29_1 : tickA [false, true, false, true, true, true] 1 [] = true := by kernel_rfl
theorem tk_31_1 : tickA [false, true, true, true, true, true] 1 [] = true := by kernel_rfl
end Go.Proofs.YtbilacojhmohmaaGreat.Ae
