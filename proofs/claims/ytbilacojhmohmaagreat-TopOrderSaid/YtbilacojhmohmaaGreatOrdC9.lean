/- TopOrder: orders that begin so, by the kernel, part 9. No condition. -/
import Derived.KernelRfl
import Derived.Test.YtbilacojhmohmaaGreatOrdEx
namespace Go.Proofs.YtbilacojhmohmaaGreat.Ae
open Go
theorem ord_4_2_2 : exAt [4, 2, 2] = true := by kernel_rfl
theorem ord_4_2_3 : exAt [4, 2, 3] = true := by kernel_rfl
theorem ord_4_3_0 : exAt [4, 3, 0] = true := by kernel_rfl
theorem ord_4_3_1 : exAt [4, 3, 1] = true := by kernel_rfl
theorem ord_4_3_2 : exAt [4, 3, 2] = true := by kernel_rfl
theorem ord_4_3_3 : exAt [4, 3, 3] = true := by kernel_rfl
theorem ord_4_4_0 : exAt [4, 4, 0] = true := by kernel_rfl
theorem ord_4_4_1 : exAt [4, 4, 1] = true := by kernel_rfl
theorem ord_4_4_2 : exAt [4, 4, 2] = true := by kernel_rfl
theorem ord_4_4_3 : exAt [4, 4, 3] = true := by kernel_rfl
end Go.Proofs.YtbilacojhmohmaaGreat.Ae
