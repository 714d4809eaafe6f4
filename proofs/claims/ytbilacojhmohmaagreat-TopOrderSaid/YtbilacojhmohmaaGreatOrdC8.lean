/- TopOrder: orders that begin so, by the kernel, part 8. No condition. -/
import Derived.KernelRfl
import Derived.Test.YtbilacojhmohmaaGreatOrdEx
namespace Go.Proofs.YtbilacojhmohmaaGreat.Ae
open Go
theorem ord_4_0_0 : exAt [4, 0, 0] = true := by kernel_rfl
theorem ord_4_0_1 : exAt [4, 0, 1] = true := by kernel_rfl
theorem ord_4_0_2 : exAt [4, 0, 2] = true := by kernel_rfl
theorem ord_4_0_3 : exAt [4, 0, 3] = true := by kernel_rfl
theorem ord_4_1_0 : exAt [4, 1, 0] = true := by kernel_rfl
theorem ord_4_1_1 : exAt [4, 1, 1] = true := by kernel_rfl
theorem ord_4_1_2 : exAt [4, 1, 2] = true := by kernel_rfl
theorem ord_4_1_3 : exAt [4, 1, 3] = true := by kernel_rfl
theorem ord_4_2_0 : exAt [4, 2, 0] = true := by kernel_rfl
theorem ord_4_2_1 : exAt [4, 2, 1] = true := by kernel_rfl
end Go.Proofs.YtbilacojhmohmaaGreat.Ae
