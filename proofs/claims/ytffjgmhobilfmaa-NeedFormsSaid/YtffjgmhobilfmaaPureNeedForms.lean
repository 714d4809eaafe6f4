/- What some counts of repair symbols come to (a closed statement): every row of the table is computed. No condition. -/
import Derived.Test.YtffjgmhobilfmaaPNeedFormsx1
namespace Go.Proofs.Ytffjgmhobilfmaa.Pure
open Go.RowKit Go.Proofs.Ytffjgmhobilfmaa.PNeedForms Go.Proofs.YtffjgmhobilfmaaW.PrintWords Go.Proofs.YtffjgmhobilfmaaW.PrintLast

theorem NeedForms : girandolelaw20_NeedForms.Pure := ⟨20, by decide +kernel⟩

end Go.Proofs.Ytffjgmhobilfmaa.Pure
