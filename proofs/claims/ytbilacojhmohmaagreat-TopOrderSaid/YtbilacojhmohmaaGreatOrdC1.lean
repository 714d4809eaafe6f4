/- TopOrder: orders that begin so, by the kernel, part 1. No condition. -/
import Derived.KernelRfl
import Derived.Test.YtbilacojhmohmaaGreatOrdEx
namespace Go.Proofs.YtbilacojhmohmaaGreat.Ae
open Go
theorem ord_0_2_2 : exAt [0, 2, 2] = true := by kernel_rfl
theorem ord_0_2_3 : exAt [0, 2, 3] = true := by kernel_rfl
theorem ord_0_3_0 : exAt [0, 3, 0] = true := by kernel_rfl
theorem ord_0_3_1 : exAt [0, 3, 1] = true := by kernel_rfl
theorem ord_0_3_2 : exAt [0, 3, 2] = true := by kernel_rfl
theorem ord_0_3_3 : exAt [0, 3, 3] = true := by kernel_rfl
theorem ord_0_4_0 : exAt [0, 4, 0] = true := by kernel_rfl
theorem ord_0_4_1 : exAt [0, 4, 1] = true := by kernel_rfl
theorem ord_0_4_2 : exAt [0, 4, 2] = true := by kernel_rfl
theorem ord_0_4_3 : exAt [0, 4, 3] = true := by kernel_rfl
end Go.Proofs.YtbilacojhmohmaaGreat.Ae
