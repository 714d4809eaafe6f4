/- TopOrder: orders that begin so, by the kernel, part 4. No condition. -/
import Derived.KernelRfl
import Derived.Test.YtbilacojhmohmaaGreatOrdEx
namespace Go.Proofs.YtbilacojhmohmaaGreat.Ae
open Go
theorem ord_2_0_0 : exAt [2, 0, 0] = true := by kernel_rfl
theorem ord_2_0_1 : exAt [2, 0, 1] = true := by kernel_rfl
theorem ord_2_0_2 : exAt [2, 0, 2] = true := by kernel_rfl
theorem ord_2_0_3 : exAt [2, 0, 3] = true := by kernel_rfl
theorem ord_2_1_0 : exAt [2, 1, 0] = true := by kernel_rfl
theorem ord_2_1_1 : exAt [2, 1, 1] = true := by kernel_rfl
theorem ord_2_1_2 : exAt [2, 1, 2] = true := by kernel_rfl
theorem ord_2_1_3 : exAt [2, 1, 3] = true := by kernel_rfl
theorem ord_2_2_0 : exAt [2, 2, 0] = true := by kernel_rfl
theorem ord_2_2_1 : exAt [2, 2, 1] = true := by kernel_rfl
end Go.Proofs.YtbilacojhmohmaaGreat.Ae
