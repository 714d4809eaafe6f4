-- own text
import Derived.Test.YtcehifhfgpodoaaProg
import Derived.Below
import Derived.Deep.Draws
import Derived.Deep.AppendLies
import Derived.Maps.AppendAt
import Derived.OwnWalk
import Derived.Laws.BytesArg
import Derived.Laws.MakeOwn
import Derived.Laws.OwnMore
import Derived.Deep.OwnRows
import Derived.Tactics
import Derived.Lib.ConvBytes
import Derived.Laws.Slices
import Derived.WalkKit
import Derived.KernelRfl
import Derived.RowKit3
import Derived.Deep.LoopGhost
import Derived.Deep.QuietTactic
import Derived.BigQuiet
import Derived.WideLaws
import Derived.Deep.DeepCutAuto
import Derived.Deep.CutBlock
import Derived.Deep.RegionHeld3
import Derived.Laws.Rows
import Derived.Lib.AppendStr
import Derived.ArgAppend
import Derived.Laws.IdiomCopy
import Derived.OrdersHeld
import Derived.Laws.BitsLemmas
import Derived.RowKit
import Derived.Test.YtcehifhfgpodoaaLedgerBase
import Derived.Test.YtcehifhfgpodoaaBools
import Derived.Test.YtcehifhfgpodoaaWWords
import Derived.Test.YtcehifhfgpodoaaWLast
import Derived.Test.YtcehifhfgpodoaaWTab
import Derived.Test.YtcehifhfgpodoaaWFour
import Derived.Test.YtcehifhfgpodoaaWQPut
import Derived.Test.YtcehifhfgpodoaaWApart
import Derived.Test.YtcehifhfgpodoaaWArr
import Derived.Test.YtcehifhfgpodoaaWZeros
import Derived.Test.YtcehifhfgpodoaaWFoot
import Derived.Test.YtcehifhfgpodoaaWKept
import Derived.Test.YtcehifhfgpodoaaWShare
import Derived.Test.YtcehifhfgpodoaaWN
import Derived.Test.YtcehifhfgpodoaaWFootNe
import Derived.Test.YtcehifhfgpodoaaWAt
import Derived.Test.YtcehifhfgpodoaaWEqStruct
import Derived.Test.YtcehifhfgpodoaaWRepsOne
import Derived.Test.YtcehifhfgpodoaaWInv
import Derived.Test.YtcehifhfgpodoaaWInvWords
import Derived.Test.YtcehifhfgpodoaaWGuard
import Derived.Test.YtcehifhfgpodoaaWNEv
import Derived.Test.YtcehifhfgpodoaaWMore
namespace Go.Proofs.Ytcehifhfgpodoaa.PLedgerApart
open Go.RowKit Go.Proofs.YtcehifhfgpodoaaW.PrintWords Go.Proofs.YtcehifhfgpodoaaW.PrintLast Go.Proofs.YtcehifhfgpodoaaW.PrintMore Go.Proofs.Ytcehifhfgpodoaa.Ledger
attribute [local go_sem] max2_int min2_int max_two min_two max_three min_three max_four min_four   -- for this text's walks alone
set_option linter.unusedVariables false
set_option linter.unusedSimpArgs false



def errW : Option Int → Value
  | none => .nilIface
  | some c => .iface 0 (.int .i64 c)
theorem errW_none : errW none = .nilIface := rfl
theorem errW_some (c : Int) : errW (some c) = .iface 0 (.int .i64 c) := rfl

-- the values' own types

end Go.Proofs.Ytcehifhfgpodoaa.PLedgerApart
