/- TopOrder: orders that begin so, by the kernel, part 0. No condition. -/
import Derived.KernelRfl
import Derived.Test.YtbilacojhmohmaaGreatOrdEx
namespace Go.Proofs.YtbilacojhmohmaaGreat.Ae
open Go
theorem ord_pre : ordPre = true := by kernel_rfl
theorem ord_0_0_0 : exAt [0, 0, 0] = true := by kernel_rfl
theorem ord_0_0_1 : exAt [0, 0, 1] = true := by kernel_rfl
theorem ord_0_0_2 : exAt [0, 0, 2] = true := by kernel_rfl
theorem ord_0_0_3 : exAt [0, 0, 3] = true := by kernel_rfl
theorem ord_0_1_0 : exAt [0, 1, 0] = true := by kernel_rfl
theorem ord_0_1_1 : exAt [0, 1, 1] = true := by kernel_rfl
theorem ord_0_1_2 : exAt [0, 1, 2] = true := by kernel_rfl
theorem ord_0_1_3 : exAt [0, 1, 3] = true := by kernel_rfl
theorem ord_0_2_0 : exAt [0, 2, 0] = true := by kernel_rfl
theorem ord_0_2_1 : exAt [0, 2, 1] = true := by kernel_rfl
end Go.Proofs.YtbilacojhmohmaaGreat.Ae
