/- TopOrder: orders that begin so, by the kernel, part 10. No condition. -/
import Derived.KernelRfl
import Derived.Test.YtbilacojhmohmaaGreatOrdEx
namespace Go.Proofs.YtbilacojhmohmaaGreat.Ae
open Go
theorem ord_5_0_0 : exAt [5, 0, 0] = true := by kernel_rfl
theorem ord_5_0_1 : exAt [5, 0, 1] = true := by kernel_rfl
theorem ord_5_0_2 : exAt [5, 0, 2] = true := by kernel_rfl
theorem ord_5_0_3 : exAt [5, 0, 3] = true := by kernel_rfl
theorem ord_5_1_0 : exAt [5, 1, 0] = true := by kernel_rfl
theorem ord_5_1_1 : exAt [5, 1, 1] = true := by kernel_rfl
theorem ord_5_1_2 : exAt [5, 1, 2] = true := by kernel_rfl
theorem ord_5_1_3 : exAt [5, 1, 3] = true := by kernel_rfl
theorem ord_5_2_0 : exAt [5, 2, 0] = true := by kernel_rfl
theorem ord_5_2_1 : exAt [5, 2, 1] = true := by kernel_rfl
end Go.Proofs.YtbilacojhmohmaaGreat.Ae
