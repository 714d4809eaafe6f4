-- own text
import Derived.Test.YtffikjoonelooaaProg
import Derived.Below
import Derived.Deep.Draws
import Derived.Deep.AppendLies
import Derived.Maps.AppendAt
import Derived.OwnWalk
import Derived.Laws.BytesArg
import Derived.Laws.MakeOwn
import Derived.Laws.OwnMore
import Derived.Deep.OwnRows
import Derived.Tactics
import Derived.Lib.ConvBytes
import Derived.Laws.Slices
import Derived.WalkKit
import Derived.KernelRfl
import Derived.RowKit3
import Derived.Deep.LoopGhost
import Derived.Deep.QuietTactic
import Derived.BigQuiet
import Derived.WideLaws
import Derived.Deep.DeepCutAuto
import Derived.Deep.CutBlock
import Derived.Deep.RegionHeld3
import Derived.Laws.Rows
import Derived.Lib.AppendStr
import Derived.ArgAppend
import Derived.Laws.IdiomCopy
import Derived.OrdersHeld
import Derived.Laws.BitsLemmas
import Derived.RowKit
import Derived.Test.YtffikjoonelooaaWWords
import Derived.Test.YtffikjoonelooaaWLast
import Derived.Test.YtffikjoonelooaaWTab
import Derived.Test.YtffikjoonelooaaWFour
import Derived.Test.YtffikjoonelooaaWQPut
import Derived.Test.YtffikjoonelooaaWApart
import Derived.Test.YtffikjoonelooaaWArr
import Derived.Test.YtffikjoonelooaaWZeros
import Derived.Test.YtffikjoonelooaaWFoot
import Derived.Test.YtffikjoonelooaaWKept
import Derived.Test.YtffikjoonelooaaWShare
import Derived.Test.YtffikjoonelooaaWN
import Derived.Test.YtffikjoonelooaaWFootNe
import Derived.Test.YtffikjoonelooaaWAt
import Derived.Test.YtffikjoonelooaaWEqStruct
import Derived.Test.YtffikjoonelooaaWRepsOne
import Derived.Test.YtffikjoonelooaaWInv
import Derived.Test.YtffikjoonelooaaWInvWords
import Derived.Test.YtffikjoonelooaaWGuard
import Derived.Test.YtffikjoonelooaaWNEv
import Derived.Test.YtffikjoonelooaaWMore
namespace Go.Proofs.Ytffikjoonelooaa.PJitterAll
open Go.RowKit Go.Proofs.YtffikjoonelooaaW.PrintWords Go.Proofs.YtffikjoonelooaaW.PrintLast Go.Proofs.YtffikjoonelooaaW.PrintMore
attribute [local go_sem] max2_int min2_int max_two min_two max_three min_three max_four min_four   -- for this text's walks alone
set_option linter.unusedVariables false
set_option linter.unusedSimpArgs false



def errW : Option Int → Value
  | none => .nilIface
  | some c => .iface 0 (.int .i64 c)
theorem errW_none : errW none = .nilIface := rfl
theorem errW_some (c : Int) : errW (some c) = .iface 0 (.int .i64 c) := rfl

-- the values' own types

end Go.Proofs.Ytffikjoonelooaa.PJitterAll
