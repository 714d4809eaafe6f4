/- TopMost: rounds and ends, by the kernel, part 6. No condition. -/
import Derived.KernelRfl
import Derived.Test.YtbilacojhmohmaaGreatMostLay
namespace Go.Proofs.YtbilacojhmohmaaGreat.Ae
open Go
theorem tail_36 : tailOK 36 = true := by kernel_rfl
theorem tail_37 : tailOK 37 = true := by kernel_rfl
theorem tail_38 : tailOK 38 = true := by kernel_rfl
theorem tail_39 : tailOK 39 = true := by kernel_rfl
theorem tail_40 : tailOK 40 = true := by kernel_rfl
theorem tail_41 : tailOK 41 = true := by kernel_rfl
theorem tail_42 : tailOK 42 = true := by kernel_rfl
theorem tail_43 : tailOK 43 = true := by kernel_rfl
theorem tail_44 : tailOK 44 = true := by kernel_rfl
theorem tail_45 : tailOK 45 = true := by kernel_rfl
theorem tail_46 : tailOK 46 = true := by kernel_rfl
theorem tail_47 : tailOK 47 = true := by kernel_rfl
theorem tail_48 : tailOK 48 = true := by kernel_rfl
theorem tail_49 : tailOK 49 = true := by kernel_rfl
theorem tail_50 : tailOK 50 = true := by kernel_rfl
theorem tail_51 : tailOK 51 = true := by kernel_rfl
theorem tail_52 : tailOK 52 = true := by kernel_rfl
theorem tail_53 : tailOK 53 = true := by kernel_rfl
theorem tail_54 : tailOK 54 = true := by kernel_rfl
theorem tail_55 : tailOK 55 = true := by kernel_rfl
theorem tail_56 : tailOK 56 = true := by kernel_rfl
theorem tail_57 : tailOK 57 = true := by kernel_rfl
theorem tail_58 : tailOK 58 = true := by kernel_rfl
theorem tail_59 : tailOK 59 = true := by kernel_rfl
theorem tail_60 : tailOK 60 = true := by kernel_rfl
theorem tail_61 : tailOK 61 = true := by kernel_rfl
theorem tail_62 : tailOK 62 = true := by kernel_rfl
theorem tail_63 : tailOK 63 = true := by kernel_rfl
theorem tail_64 : tailOK 64 = true := by kernel_rfl
theorem tail_65 : tailOK 65 = true := by kernel_rfl
theorem tail_66 : tailOK 66 = true := by kernel_rfl
theorem tail_67 : tailOK 67 = true := by kernel_rfl
theorem tail_68 : tailOK 68 = true := by kernel_rfl
theorem tail_69 : tailOK 69 = true := by kernel_rfl
theorem tail_70 : tailOK 70 = true := by kernel_rfl
theorem tail_71 : tailOK 71 = true := by kernel_rfl
theorem tail_72 : tailOK 72 = true := by kernel_rfl
theorem tail_73 : tailOK 73 = true := by kernel_rfl
theorem tail_74 : tailOK 74 = true := by kernel_rfl
theorem tail_75 : tailOK 75 = true := by kernel_rfl
theorem tail_76 : tailOK 76 = true := by kernel_rfl
theorem tail_77 : tailOK 77 = true := by kernel_rfl
theorem tail_78 : tailOK 78 = true := by kernel_rfl
theorem tail_79 : tailOK 79 = true := by kernel_rfl
theorem tail_80 : tailOK 80 = true := by kernel_rfl
theorem tail_81 : tailOK 81 = true := by kernel_rfl
theorem tail_82 : tailOK 82 = true := by kernel_rfl
theorem tail_83 : tailOK 83 = true := by kernel_rfl
end Go.Proofs.YtbilacojhmohmaaGreat.Ae
