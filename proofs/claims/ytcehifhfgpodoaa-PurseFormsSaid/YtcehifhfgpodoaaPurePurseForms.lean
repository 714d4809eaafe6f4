/- Who gets how much, of some. Nothing is left open: it is computed. -/
import Derived.Test.YtcehifhfgpodoaaPPurseFormsx5
import Derived.Test.YtcehifhfgpodoaaHelp
namespace Go.Proofs.Ytcehifhfgpodoaa.Pure
open Go.RowKit Go.Proofs.Ytcehifhfgpodoaa.PPurseForms

theorem PurseForms : girandolelaw21_PurseForms.Pure := ⟨200, by decide +kernel⟩

end Go.Proofs.Ytcehifhfgpodoaa.Pure
