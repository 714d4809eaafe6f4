/- Which numbers are behind which, of some (a closed statement): each is computed. No condition. -/
import Derived.Test.YtffikjoonelooaaPSerialFormsx2
namespace Go.Proofs.Ytffikjoonelooaa.Pure
open Go.RowKit Go.Proofs.Ytffikjoonelooaa.PSerialForms Go.Proofs.YtffikjoonelooaaW.PrintWords Go.Proofs.YtffikjoonelooaaW.PrintLast

theorem SerialForms : girandolelaw8_SerialForms.Pure := ⟨30, by decide +kernel⟩

end Go.Proofs.Ytffikjoonelooaa.Pure
