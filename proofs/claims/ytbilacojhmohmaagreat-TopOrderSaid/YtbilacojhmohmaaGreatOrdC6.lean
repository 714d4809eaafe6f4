/- TopOrder: orders that begin so, by the kernel, part 6. No condition. -/
import Derived.KernelRfl
import Derived.Test.YtbilacojhmohmaaGreatOrdEx
namespace Go.Proofs.YtbilacojhmohmaaGreat.Ae
open Go
theorem ord_3_0_0 : exAt [3, 0, 0] = true := by kernel_rfl
theorem ord_3_0_1 : exAt [3, 0, 1] = true := by kernel_rfl
theorem ord_3_0_2 : exAt [3, 0, 2] = true := by kernel_rfl
theorem ord_3_0_3 : exAt [3, 0, 3] = true := by kernel_rfl
theorem ord_3_1_0 : exAt [3, 1, 0] = true := by kernel_rfl
theorem ord_3_1_1 : exAt [3, 1, 1] = true := by kernel_rfl
theorem ord_3_1_2 : exAt [3, 1, 2] = true := by kernel_rfl
theorem ord_3_1_3 : exAt [3, 1, 3] = true := by kernel_rfl
theorem ord_3_2_0 : exAt [3, 2, 0] = true := by kernel_rfl
theorem ord_3_2_1 : exAt [3, 2, 1] = true := by kernel_rfl
end Go.Proofs.YtbilacojhmohmaaGreat.Ae
