/- How unevenly some packets come (a closed statement): each value is computed. No condition. -/
import Derived.Test.YtffikjoonelooaaPJitterFormsx2
namespace Go.Proofs.Ytffikjoonelooaa.Pure
open Go.RowKit Go.Proofs.Ytffikjoonelooaa.PJitterForms Go.Proofs.YtffikjoonelooaaW.PrintWords Go.Proofs.YtffikjoonelooaaW.PrintLast

theorem JitterForms : girandolelaw19_JitterForms.Pure := ⟨20, by decide +kernel⟩

end Go.Proofs.Ytffikjoonelooaa.Pure
