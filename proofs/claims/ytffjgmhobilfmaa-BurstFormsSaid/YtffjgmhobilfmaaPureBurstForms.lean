/- What some rows of losses come to (a closed statement): each value is computed. No condition. -/
import Derived.Test.YtffjgmhobilfmaaPBurstFormsx1
namespace Go.Proofs.Ytffjgmhobilfmaa.Pure
open Go.RowKit Go.Proofs.Ytffjgmhobilfmaa.PBurstForms Go.Proofs.YtffjgmhobilfmaaW.PrintWords Go.Proofs.YtffjgmhobilfmaaW.PrintLast

theorem BurstForms : girandolelaw18_BurstForms.Pure := ⟨20, by decide +kernel⟩

end Go.Proofs.Ytffjgmhobilfmaa.Pure
