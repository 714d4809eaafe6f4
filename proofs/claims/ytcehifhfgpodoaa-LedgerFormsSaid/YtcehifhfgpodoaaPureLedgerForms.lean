/- Which symbols are told, of some frames (a closed statement): each is computed. No condition. -/
import Derived.Test.YtcehifhfgpodoaaPLedgerFormsx1
namespace Go.Proofs.Ytcehifhfgpodoaa.Pure
open Go.RowKit Go.Proofs.Ytcehifhfgpodoaa.PLedgerForms Go.Proofs.YtcehifhfgpodoaaW.PrintWords Go.Proofs.YtcehifhfgpodoaaW.PrintLast

theorem LedgerForms : girandolelaw23_LedgerForms.Pure := ⟨3, by decide +kernel⟩

end Go.Proofs.Ytcehifhfgpodoaa.Pure
