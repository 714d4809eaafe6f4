/- TopOrder: orders that begin so, by the kernel, part 11. No condition. -/
import Derived.KernelRfl
import Derived.Test.YtbilacojhmohmaaGreatOrdEx
namespace Go.Proofs.YtbilacojhmohmaaGreat.Ae
open Go
theorem ord_5_2_2 : exAt [5, 2, 2] = true := by kernel_rfl
theorem ord_5_2_3 : exAt [5, 2, 3] = true := by kernel_rfl
theorem ord_5_3_0 : exAt [5, 3, 0] = true := by kernel_rfl
theorem ord_5_3_1 : exAt [5, 3, 1] = true := by kernel_rfl
theorem ord_5_3_2 : exAt [5, 3, 2] = true := by kernel_rfl
theorem ord_5_3_3 : exAt [5, 3, 3] = true := by kernel_rfl
theorem ord_5_4_0 : exAt [5, 4, 0] = true := by kernel_rfl
theorem ord_5_4_1 : exAt [5, 4, 1] = true := by kernel_rfl
theorem ord_5_4_2 : exAt [5, 4, 2] = true := by kernel_rfl
theorem ord_5_4_3 : exAt [5, 4, 3] = true := by kernel_rfl
end Go.Proofs.YtbilacojhmohmaaGreat.Ae
