/- What some looks come to (a closed statement): each value is computed. No condition. -/
import Derived.Test.YtffjgmhobilfmaaPMeanFormsx2
namespace Go.Proofs.Ytffjgmhobilfmaa.Pure
open Go.RowKit Go.Proofs.Ytffjgmhobilfmaa.PMeanForms Go.Proofs.YtffjgmhobilfmaaW.PrintWords Go.Proofs.YtffjgmhobilfmaaW.PrintLast

theorem MeanForms : girandolelaw17_MeanForms.Pure := ⟨20, by decide +kernel⟩

end Go.Proofs.Ytffjgmhobilfmaa.Pure
