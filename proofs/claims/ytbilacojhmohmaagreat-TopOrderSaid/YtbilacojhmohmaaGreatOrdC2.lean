/- TopOrder: orders that begin so, by the kernel, part 2. No condition. -/
import Derived.KernelRfl
import Derived.Test.YtbilacojhmohmaaGreatOrdEx
namespace Go.Proofs.YtbilacojhmohmaaGreat.Ae
open Go
theorem ord_1_0_0 : exAt [1, 0, 0] = true := by kernel_rfl
theorem ord_1_0_1 : exAt [1, 0, 1] = true := by kernel_rfl
theorem ord_1_0_2 : exAt [1, 0, 2] = true := by kernel_rfl
theorem ord_1_0_3 : exAt [1, 0, 3] = true := by kernel_rfl
theorem ord_1_1_0 : exAt [1, 1, 0] = true := by kernel_rfl
theorem ord_1_1_1 : exAt [1, 1, 1] = true := by kernel_rfl
theorem ord_1_1_2 : exAt [1, 1, 2] = true := by kernel_rfl
theorem ord_1_1_3 : exAt [1, 1, 3] = true := by kernel_rfl
theorem ord_1_2_0 : exAt [1, 2, 0] = true := by kernel_rfl
theorem ord_1_2_1 : exAt [1, 2, 1] = true := by kernel_rfl
end Go.Proofs.YtbilacojhmohmaaGreat.Ae
