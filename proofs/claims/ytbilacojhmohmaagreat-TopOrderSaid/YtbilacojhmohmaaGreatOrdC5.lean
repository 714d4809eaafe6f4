/- TopOrder: orders that begin so, by the kernel, part 5. No condition. -/
import Derived.KernelRfl
import Derived.Test.YtbilacojhmohmaaGreatOrdEx
namespace Go.Proofs.YtbilacojhmohmaaGreat.Ae
open Go
theorem ord_2_2_2 : exAt [2, 2, 2] = true := by kernel_rfl
theorem ord_2_2_3 : exAt [2, 2, 3] = true := by kernel_rfl
theorem ord_2_3_0 : exAt [2, 3, 0] = true := by kernel_rfl
theorem ord_2_3_1 : exAt [2, 3, 1] = true := by kernel_rfl
theorem ord_2_3_2 : exAt [2, 3, 2] = true := by kernel_rfl
theorem ord_2_3_3 : exAt [2, 3, 3] = true := by kernel_rfl
theorem ord_2_4_0 : exAt [2, 4, 0] = true := by kernel_rfl
theorem ord_2_4_1 : exAt [2, 4, 1] = true := by kernel_rfl
theorem ord_2_4_2 : exAt [2, 4, 2] = true := by kernel_rfl
theorem ord_2_4_3 : exAt [2, 4, 3] = true := by kernel_rfl
end Go.Proofs.YtbilacojhmohmaaGreat.Ae
