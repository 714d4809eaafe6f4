/- TopGone: the ten ticks, by who hangs on some and who is lost. No condition. -/
import Derived.Test.YtbilacojhmohmaaGreatBeGonTk
import Derived.KernelRfl
namespace Go.Proofs.YtbilacojhmohmaaGreat.Ae
open Go
theorem tk_1_2 : tickA [false, true, false, false, false, false] 2 [] = true := by kernel_rfl
theorem tk_3_2 : tickA [false, true, true, false, false, false] 2 [] = true := by kernel_rfl
theorem tk_5_2 : tickA [false, true, false, true, false, false] 2 [] = true := by kernel_rfl
theorem tk_7_2 : tickA [false, true, true, true, false, false] 2 [] = true := by kernel_rfl
theorem tk_9_2 : tickA [false, true, false, false, true, false] 2 [] = true := by kernel_rfl
theorem tk_11_2 : tickA [false, true, true, false, true, false] 2 [] = true := by kernel_rfl
theorem tk_13_2 : tickA [false, true, false, true, true, false] 2 [] = true := by kernel_rfl
theorem tk_15_2 : tickA [false, true, true, true, true, false] 2 [] = true := by kernel_rfl
theorem tk_17_2 : tickA [false, true, false, false, false, true] 2 [] = true := by kernel_rfl
theorem tk_19_2 : tickA [false, true, true, false, false, true] 2 [] = true := by kernel_rfl
theorem tk_21_2 : tickA [false, true, false, true, false, true] 2 [] = true := by kernel_rfl
theorem tk_23_2 : tickA [false, true, true, true, false, true] 2 [] = true := by kernel_rfl
theorem tk_25_2 : tickA [false, true, false, false, true, true] 2 [] = true := by kernel_rfl
theorem tk_27_2 : tickA [false, true, true, false, true, true] 2 [] = true := by kernel_rfl
theorem tk_29_2 : tickA [false, true, false, true, true, true] 2 [] = true := by kernel_rfl
theorem tk_31_2 : tickA [false, true, true, true, true, true] 2 [] = true := by kernel_rfl
end Go.Proofs.YtbilacojhmohmaaGreat.Ae
