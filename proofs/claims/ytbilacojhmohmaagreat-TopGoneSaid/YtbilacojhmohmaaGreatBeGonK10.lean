/- TopGone: the ten ticks, by who hangs on some and who is lost. No condition. -/
import Derived.Test.YtbilacojhmohmaaGreatBeGonTk
import Derived.KernelRfl
namespace Go.Proofs.YtbilacojhmohmaaGreat.Ae
open Go
theorem tk_1_4 : tickA [false, true, false, false, false, false] 4 [] = true := by kernel_rfl
theorem tk_3_4 : tickA [false, true, true, false, false, false] 4 [] = true := by kernel_rfl
theorem tk_5_4 : tickA [false, true, false, true, false, false] 4 [] = true := by kernel_rfl
theorem tk_7_4 : tickA [false, true, true, true, false, false] 4 [] = true := by kernel_rfl
theorem tk_9_4 : tickA [false, true, false, false, true, false] 4 [] = true := by kernel_rfl
theorem tk_11_4 : tickA [false, true, true, false, true, false] 4 [] = true := by kernel_rfl
theorem tk_13_4 : tickA [false, true, false, true, true, false] 4 [] = true := by kernel_rfl
theorem tk_15_4 : tickA [false, true, true, true, true, false] 4 [] = true := by kernel_rfl
theorem tk_17_4 : tickA [false, true, false, false, false, true] 4 [] = true := by kernel_rfl
theorem tk_19_4 : tickA [false, true, true, false, false, true] 4 [] = true := by kernel_rfl
theorem tk_21_4 : tickA [false, true, false, true, false, true] 4 [] = true := by kernel_rfl
theorem tk_23_4 : tickA [false, true, true, true, false, true] 4 [] = true := by kernel_rfl
theorem tk_25_4 : tickA [false, true, false, false, true, true] 4 [] = true := by kernel_rfl
theorem tk_27_4 : tickA [false, true, true, false, true, true] 4 [] = true := by kernel_rfl
theorem tk_29_4 : tickA [false, true, false, true, true, true] 4 [] = true := by kernel_rfl
theorem tk_31_4 : tickA [false, true, true, true, true, true] 4 [] = true := by kernel_rfl
end Go.Proofs.YtbilacojhmohmaaGreat.Ae
