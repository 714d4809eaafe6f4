/- TopOrder: orders that begin so, by the kernel, part 7. No condition. -/
import Derived.KernelRfl
import Derived.Test.YtbilacojhmohmaaGreatOrdEx
namespace Go.Proofs.YtbilacojhmohmaaGreat.Ae
open Go
theorem ord_3_2_2 : exAt [3, 2, 2] = true := by kernel_rfl
theorem ord_3_2_3 : exAt [3, 2, 3] = true := by kernel_rfl
theorem ord_3_3_0 : exAt [3, 3, 0] = true := by kernel_rfl
theorem ord_3_3_1 : exAt [3, 3, 1] = true := by kernel_rfl
theorem ord_3_3_2 : exAt [3, 3, 2] = true := by kernel_rfl
theorem ord_3_3_3 : exAt [3, 3, 3] = true := by kernel_rfl
theorem ord_3_4_0 : exAt [3, 4, 0] = true := by kernel_rfl
theorem ord_3_4_1 : exAt [3, 4, 1] = true := by kernel_rfl
theorem ord_3_4_2 : exAt [3, 4, 2] = true := by kernel_rfl
theorem ord_3_4_3 : exAt [3, 4, 3] = true := by kernel_rfl
end Go.Proofs.YtbilacojhmohmaaGreat.Ae
