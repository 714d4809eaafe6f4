/- TopGone: the ten ticks, by who hangs on some and who is lost. No condition. -/
import Derived.Test.YtbilacojhmohmaaGreatBeGonTk
import Derived.KernelRfl
namespace Go.Proofs.YtbilacojhmohmaaGreat.Ae
open Go
theorem tk_1_3 : tickA [false, true, false, false, false, false] 3 [] = true := by kernel_rfl
theorem tk_3_3 : tickA [false, true, true, false, false, false] 3 [] = true := by kernel_rfl
theorem tk_5_3 : tickA [false, true, false, true, false, false] 3 [] = true := by kernel_rfl
theorem tk_7_3 : tickA [false, true, true, true, false, false] 3 [] = true := by kernel_rfl
theorem tk_9_3 : tickA [false, true, false, false, true, false] 3 [] = true := by kernel_rfl
theorem tk_11_3 : tickA [false, true, true, false, true, false] 3 [] = true := by kernel_rfl
theorem tk_13_3 : tickA [false, true, false, true, true, false] 3 [] = true := by kernel_rfl
theorem tk_15_3 : tickA [false, true, true, true, true, false] 3 [] = true := by kernel_rfl
theorem tk_17_3 : tickA [false, true, false, false, false, true] 3 [] = true := by kernel_rfl
theorem tk_19_3 : tickA [false, true, true, false, false, true] 3 [] = true := by kernel_rfl
theorem tk_21_3 : tickA [false, true, false, true, false, true] 3 [] = true := by kernel_rfl
theorem tk_23_3 : tickA [false, true, true, true, false, true] 3 [] = true := by kernel_rfl
theorem tk_25_3 : tickA [false, true, false, false, true, true] 3 [] = true := by kernel_rfl
theorem tk_27_3 : tickA [false, true, true, false, true, true] 3 [] = true := by kernel_rfl
theorem tk_29_3 : tickA [false, true, false, true, true, true] 3 [] = true := by kernel_rfl
theorem tk_31_3 : tickA [false, true, true, true, true, true] 3 [] = true := by kernel_rfl
end Go.Proofs.YtbilacojhmohmaaGreat.Ae
