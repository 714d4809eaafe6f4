/- TopGone: each frame handed in, whatever it hangs on. No condition. -/
import Derived.Test.YtbilacojhmohmaaGreatBeGonTk
import Derived.KernelRfl
namespace Go.Proofs.YtbilacojhmohmaaGreat.Ae
open Go
theorem sub_0 : subT [] [] = true := by kernel_rfl
theorem sub_1_0 : subT [false] [] = true := by kernel_rfl
theorem sub_2_0 : subT [false, false] [] = true := by kernel_rfl
theorem sub_2_1 : subT [false, true] [] = true := by kernel_rfl
theorem sub_3_0 : subT [false, false, false] [] = true := by kernel_rfl
theorem sub_3_1 : subT [false, true, false] [] = true := by kernel_rfl
theorem sub_3_2 : subT [false, false, true] [] = true := by kernel_rfl
theorem sub_3_3 : subT [false, true, true] [] = true := by kernel_rfl
theorem sub_4_0 : subT [false, false, false, false] [] = true := by kernel_rfl
theorem sub_4_1 : subT [false, true, false, false] [] = true := by kernel_rfl
theorem sub_4_2 : subT [false, false, true, false] [] = true := by kernel_rfl
theorem sub_4_3 : subT [false, true, true, false] [] = true := by kernel_rfl
theorem sub_4_4 : subT [false, false, false, true] [] = true := by kernel_rfl
theorem sub_4_5 : subT [false, true, false, true] [] = true := by kernel_rfl
theorem sub_4_6 : subT [false, false, true, true] [] = true := by kernel_rfl
theorem sub_4_7 : subT [false, true, true, true] [] = true := by kernel_rfl
theorem sub_5_0 : subT [false, false, false, false, false] [] = true := by kernel_rfl
theorem sub_5_1 : subT [false, true, false, false, false] [] = true := by kernel_rfl
theorem sub_5_2 : subT [false, false, true, false, false] [] = true := by kernel_rfl
theorem sub_5_3 : subT [false, true, true, false, false] [] = true := by kernel_rfl
theorem sub_5_4 : subT [false, false, false, true, false] [] = true := by kernel_rfl
theorem sub_5_5 : subT [false, true, false, true, false] [] = true := by kernel_rfl
theorem sub_5_6 : subT [false, false, true, true, false] [] = true := by kernel_rfl
theorem sub_5_7 : subT [false, true, true, true, false] [] = true := by kernel_rfl
theorem sub_5_8 : subT [false, false, false, false, true] [] = true := by kernel_rfl
theorem sub_5_9 : subT [false, true, false, false, true] [] = true := by kernel_rfl
theorem sub_5_10 : subT [false, false, true, false, true] [] = true := by kernel_rfl
theorem sub_5_11 : subT [false, true, true, false, true] [] = true := by kernel_rfl
theorem sub_5_12 : subT [false, false, false, true, true] [] = true := by kernel_rfl
theorem sub_5_13 : subT [false, true, false, true, true] [] = true := by kernel_rfl
theorem sub_5_14 : subT [false, false, true, true, true] [] = true := by kernel_rfl
theorem sub_5_15 : subT [false, true, true, true, true] [] = true := by kernel_rfl
end Go.Proofs.YtbilacojhmohmaaGreat.Ae
