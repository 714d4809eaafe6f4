/- TopGone: the ten ticks, by who hangs on some and who is lost. No condition. -/
import Derived.Test.YtbilacojhmohmaaGreatBeGonTk
import Derived.KernelRfl
namespace Go.Proofs.YtbilacojhmohmaaGreat.Ae
open Go
theorem tk_1_5 : tickA [false, true, false, false, false, false] 5 [] = true := by kernel_rfl
theorem tk_3_5 : tickA [false, true, true, false, false, false] 5 [] = true := by kernel_rfl
theorem tk_5_5 : tickA [false, true, false, true, false, false] 5 [] = true := by kernel_rfl
theorem tk_7_5 : tickA [false, true, true, true, false, false] 5 [] = true := by kernel_rfl
theorem tk_9_5 : tickA [false, true, false, false, true, false] 5 [] = true := by kernel_rfl
theorem tk_11_5 : tickA [false, true, true, false, true, false] 5 [] = true := by kernel_rfl
theorem tk_13_5 : tickA [false, true, false, true, true, false] 5 [] = true := by kernel_rfl
theorem tk_15_5 : tickA [false, true, true, true, true, false] 5 [] = true := by kernel_rfl
theorem tk_17_5 : tickA [false, true, false, false, false, true] 5 [] = true := by kernel_rfl
theorem tk_19_5 : tickA [false, true, true, false, false, true] 5 [] = true := by kernel_rfl
theorem tk_21_5 : tickA [false, true, false, true, false, true] 5 [] = true := by kernel_rfl
theorem tk_23_5 : tickA [false, true, true, true, false, true] 5 [] = true := by kernel_rfl
theorem tk_25_5 : tickA [false, true, false, false, true, true] 5 [] = true := by kernel_rfl
theorem tk_27_5 : tickA [false, true, true, false, true, true] 5 [] = true := by kernel_rfl
theorem tk_29_5 : tickA [false, true, false, true, true, true] 5 [] = true := by kernel_rfl
theorem tk_31_5 : tickA [false, true, true, true, true, true] 5 [] = true := by kernel_rfl
end Go.Proofs.YtbilacojhmohmaaGreat.Ae
