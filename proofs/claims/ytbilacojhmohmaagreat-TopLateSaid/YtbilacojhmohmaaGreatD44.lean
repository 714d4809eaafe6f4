/- What the statement's form asks of the program: facts that the kernel reckons, one by one. No condition. -/
import Derived.Test.YtbilacojhmohmaaGreatRows
import Derived.WalkKit
import Derived.ProofKit
import Derived.OpenShut
import Derived.SizedLaws
set_option linter.unusedVariables false
set_option linter.unusedSimpArgs false
noncomputable section
namespace Go.Proofs.YtbilacojhmohmaaGreat.topLate
open Go.ChangeShapes Go.WideShapes Go.ChangeAt Go.RowKit
theorem f_inPlace : Tryz.prog.inPlace 5 = ["slices.overlaps[[]byte]"] := by kernel_rfl
theorem f_unf : Tryz.prog.unfollowed 5 = true := by kernel_rfl
theorem f_rec : Tryz.prog.recurses 5 = true := by kernel_rfl
theorem f_named : Tryz.prog.varsNamed 5 = [] := by kernel_rfl
theorem f_laid : laidOutB Tryz.prog = true := by kernel_rfl
theorem f_maps : mapsRowed Tryz.prog = true := by kernel_rfl
theorem closed : joinedFacts Tryz.prog 5 Tryz.f5 Rows.topLateSpec Rows.topLateRow = true := by
 unfold joinedFacts
 rw [f_laid, f_maps, f_inPlace, f_unf, f_rec, f_named]
 kernel_rfl
end Go.Proofs.YtbilacojhmohmaaGreat.topLate
end
