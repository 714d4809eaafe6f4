-- own text
import Derived.Test.YtffjgmhobilfmaaProg
import Derived.Below
import Derived.Deep.Draws
import Derived.Deep.AppendLies
import Derived.Maps.AppendAt
import Derived.OwnWalk
import Derived.Laws.BytesArg
import Derived.Laws.MakeOwn
import Derived.Laws.OwnMore
import Derived.Deep.OwnRows
import Derived.Tactics
import Derived.Lib.ConvBytes
import Derived.Laws.Slices
import Derived.WalkKit
import Derived.KernelRfl
import Derived.RowKit3
import Derived.Deep.LoopGhost
import Derived.Deep.QuietTactic
import Derived.BigQuiet
import Derived.WideLaws
import Derived.Deep.DeepCutAuto
import Derived.Deep.CutBlock
import Derived.Deep.RegionHeld3
import Derived.Laws.Rows
import Derived.Lib.AppendStr
import Derived.ArgAppend
import Derived.Laws.IdiomCopy
import Derived.OrdersHeld
import Derived.Laws.BitsLemmas
import Derived.RowKit
import Derived.Test.YtffjgmhobilfmaaWWords
import Derived.Test.YtffjgmhobilfmaaWLast
import Derived.Test.YtffjgmhobilfmaaWTab
import Derived.Test.YtffjgmhobilfmaaWFour
import Derived.Test.YtffjgmhobilfmaaWQPut
import Derived.Test.YtffjgmhobilfmaaWApart
import Derived.Test.YtffjgmhobilfmaaWArr
import Derived.Test.YtffjgmhobilfmaaWZeros
import Derived.Test.YtffjgmhobilfmaaWFoot
import Derived.Test.YtffjgmhobilfmaaWKept
import Derived.Test.YtffjgmhobilfmaaWShare
import Derived.Test.YtffjgmhobilfmaaWN
import Derived.Test.YtffjgmhobilfmaaWFootNe
import Derived.Test.YtffjgmhobilfmaaWAt
import Derived.Test.YtffjgmhobilfmaaWEqStruct
import Derived.Test.YtffjgmhobilfmaaWRepsOne
import Derived.Test.YtffjgmhobilfmaaWInv
import Derived.Test.YtffjgmhobilfmaaWInvWords
import Derived.Test.YtffjgmhobilfmaaWGuard
import Derived.Test.YtffjgmhobilfmaaWNEv
import Derived.Test.YtffjgmhobilfmaaWMore
namespace Go.Proofs.Ytffjgmhobilfmaa.PBurstAll
open Go.RowKit Go.Proofs.YtffjgmhobilfmaaW.PrintWords Go.Proofs.YtffjgmhobilfmaaW.PrintLast Go.Proofs.YtffjgmhobilfmaaW.PrintMore
attribute [local go_sem] max2_int min2_int max_two min_two max_three min_three max_four min_four   -- for this text's walks alone
set_option linter.unusedVariables false
set_option linter.unusedSimpArgs false



def errW : Option Int → Value
  | none => .nilIface
  | some c => .iface 0 (.int .i64 c)
theorem errW_none : errW none = .nilIface := rfl
theorem errW_some (c : Int) : errW (some c) = .iface 0 (.int .i64 c) := rfl

-- the values' own types

end Go.Proofs.Ytffjgmhobilfmaa.PBurstAll
