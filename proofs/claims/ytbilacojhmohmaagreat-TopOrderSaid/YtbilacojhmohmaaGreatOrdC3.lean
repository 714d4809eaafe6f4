/- TopOrder: orders that begin so, by the kernel, part 3. No condition. -/
import Derived.KernelRfl
import Derived.Test.YtbilacojhmohmaaGreatOrdEx
namespace Go.Proofs.YtbilacojhmohmaaGreat.Ae
open Go
theorem ord_1_2_2 : exAt [1, 2, 2] = true := by kernel_rfl
theorem ord_1_2_3 : exAt [1, 2, 3] = true := by kernel_rfl
theorem ord_1_3_0 : exAt [1, 3, 0] = true := by kernel_rfl
theorem ord_1_3_1 : exAt [1, 3, 1] = true := by kernel_rfl
theorem ord_1_3_2 : exAt [1, 3, 2] = true := by kernel_rfl
theorem ord_1_3_3 : exAt [1, 3, 3] = true := by kernel_rfl
theorem ord_1_4_0 : exAt [1, 4, 0] = true := by kernel_rfl
theorem ord_1_4_1 : exAt [1, 4, 1] = true := by kernel_rfl
theorem ord_1_4_2 : exAt [1, 4, 2] = true := by kernel_rfl
theorem ord_1_4_3 : exAt [1, 4, 3] = true := by kernel_rfl
end Go.Proofs.YtbilacojhmohmaaGreat.Ae
