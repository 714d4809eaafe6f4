/-
  No cell of these rows narrows 'for every input' (looked for: loops, veiled, ifaces, maps, wideKeys, modest, calm, conditions, laid).
  DERIVED. THE GIVEN ROWS OF THIS SEAT. 10 by the template 'for every input the law returns true; each argument reads behind the call as it read before'; 0 by the template 'total and deterministic' (their statements: YtffjgmhobilfmaaTotals.lean).
  GIVEN WITH THE SEED: the statements are not yours to turn. If you find one false, say at which input.
  Laid BY PROGRAM, IN A SANDBOX (cutbox-rows.mjs): the forced cells as the released guide's own fill.sh prints them over the translation 48963b52eb58b99d… (all of the seat's roots in one cut). By AI agents, Wed Nov 11 2026. No macro, syntax, notation, axiom, sorry.
-/
import Derived.Test.YtffjgmhobilfmaaChecked
import GoSem.Claim
import GoSem.ClaimJoined
import GoSem.ClaimMapViews
import Derived.JoinedTies
import Derived.KernelRfl
namespace Go.Proofs.Ytffjgmhobilfmaa
/- THE CELL 'sum', in the pinned program and in every row, IS THE sha256 OF THE DUMP (.gsa) THAT YtffjgmhobilfmaaProg.lean LOADS. Nothing in Lean hashes anything: it is a label: what it is worth is what the hold of that sum in a sandbox is worth. -/
noncomputable def Try.pinned : Pinned := { name := "ytffjgmhobilfmaa", sum := "48963b52eb58b99d24f34a4050974438e618f65fda133879c1b84c283c99226c", checked := Try.checked }
namespace Rows
def none {H : Type} : Left H := { results := [], args := [] }

/-- 'girandolelaw18.BurstAll': WHATEVER THE INPUT: true; the input reads as it did. -/
def burstAllSpec : ChangeSpec := { name := "burstAll", fn := fun _ => fun
  | [d] => { results := [.lit (.bool true)], args := [d] }
  | _ => none }
def burstAllRow : OpenClaim := { program := "ytffjgmhobilfmaa", sum := "48963b52eb58b99d24f34a4050974438e618f65fda133879c1b84c283c99226c", func := "girandole/girandolelaw18.BurstAll", spec := "burstAll", apart := false }
def BurstAllSaid : Prop := burstAllRow.holds Try.pinned (OpenSpec.ofChange burstAllSpec)

/-- ITS FALSE NEIGHBOUR: 'it returns false'. Refute it at one input. -/
def burstAllWrong : ChangeSpec := { name := "burstAll", fn := fun _ => fun
  | [d] => { results := [.lit (.bool false)], args := [d] }
  | _ => none }
def BurstAllWrongFalsely : Prop := burstAllRow.holds Try.pinned (OpenSpec.ofChange burstAllWrong)

/-- 'girandolelaw18.BurstForgets': WHATEVER THE INPUT: true; the input reads as it did. -/
def burstForgetsSpec : ChangeSpec := { name := "burstForgets", fn := fun _ => fun
  | [d1, d2] => { results := [.lit (.bool true)], args := [d1, d2] }
  | _ => none }
def burstForgetsRow : OpenClaim := { program := "ytffjgmhobilfmaa", sum := "48963b52eb58b99d24f34a4050974438e618f65fda133879c1b84c283c99226c", func := "girandole/girandolelaw18.BurstForgets", spec := "burstForgets", apart := false }
def BurstForgetsSaid : Prop := burstForgetsRow.holds Try.pinned (OpenSpec.ofChange burstForgetsSpec)

/-- ITS FALSE NEIGHBOUR: 'it returns false'. Refute it at one input. -/
def burstForgetsWrong : ChangeSpec := { name := "burstForgets", fn := fun _ => fun
  | [d1, d2] => { results := [.lit (.bool false)], args := [d1, d2] }
  | _ => none }
def BurstForgetsWrongFalsely : Prop := burstForgetsRow.holds Try.pinned (OpenSpec.ofChange burstForgetsWrong)

/-- 'girandolelaw18.BurstForms': WHATEVER THE INPUT: true; the input reads as it did. -/
def burstFormsSpec : ChangeSpec := { name := "burstForms", fn := fun _ => fun
  | [] => { results := [.lit (.bool true)], args := [] }
  | _ => none }
def burstFormsRow : OpenClaim := { program := "ytffjgmhobilfmaa", sum := "48963b52eb58b99d24f34a4050974438e618f65fda133879c1b84c283c99226c", func := "girandole/girandolelaw18.BurstForms", spec := "burstForms", apart := false }
def BurstFormsSaid : Prop := burstFormsRow.holds Try.pinned (OpenSpec.ofChange burstFormsSpec)

/-- ITS FALSE NEIGHBOUR: 'it returns false'. Refute it at one input. -/
def burstFormsWrong : ChangeSpec := { name := "burstForms", fn := fun _ => fun
  | [] => { results := [.lit (.bool false)], args := [] }
  | _ => none }
def BurstFormsWrongFalsely : Prop := burstFormsRow.holds Try.pinned (OpenSpec.ofChange burstFormsWrong)

/-- 'girandolelaw17.MeanAll': WHATEVER THE INPUT: true; the input reads as it did. -/
def meanAllSpec : ChangeSpec := { name := "meanAll", fn := fun _ => fun
  | [d1, d2] => { results := [.lit (.bool true)], args := [d1, d2] }
  | _ => none }
def meanAllRow : OpenClaim := { program := "ytffjgmhobilfmaa", sum := "48963b52eb58b99d24f34a4050974438e618f65fda133879c1b84c283c99226c", func := "girandole/girandolelaw17.MeanAll", spec := "meanAll", apart := false }
def MeanAllSaid : Prop := meanAllRow.holds Try.pinned (OpenSpec.ofChange meanAllSpec)

/-- ITS FALSE NEIGHBOUR: 'it returns false'. Refute it at one input. -/
def meanAllWrong : ChangeSpec := { name := "meanAll", fn := fun _ => fun
  | [d1, d2] => { results := [.lit (.bool false)], args := [d1, d2] }
  | _ => none }
def MeanAllWrongFalsely : Prop := meanAllRow.holds Try.pinned (OpenSpec.ofChange meanAllWrong)

/-- 'girandolelaw17.MeanBetween': WHATEVER THE INPUT: true; the input reads as it did. -/
def meanBetweenSpec : ChangeSpec := { name := "meanBetween", fn := fun _ => fun
  | [d1, d2, d3, d4] => { results := [.lit (.bool true)], args := [d1, d2, d3, d4] }
  | _ => none }
def meanBetweenRow : OpenClaim := { program := "ytffjgmhobilfmaa", sum := "48963b52eb58b99d24f34a4050974438e618f65fda133879c1b84c283c99226c", func := "girandole/girandolelaw17.MeanBetween", spec := "meanBetween", apart := false }
def MeanBetweenSaid : Prop := meanBetweenRow.holds Try.pinned (OpenSpec.ofChange meanBetweenSpec)

/-- ITS FALSE NEIGHBOUR: 'it returns false'. Refute it at one input. -/
def meanBetweenWrong : ChangeSpec := { name := "meanBetween", fn := fun _ => fun
  | [d1, d2, d3, d4] => { results := [.lit (.bool false)], args := [d1, d2, d3, d4] }
  | _ => none }
def MeanBetweenWrongFalsely : Prop := meanBetweenRow.holds Try.pinned (OpenSpec.ofChange meanBetweenWrong)

/-- 'girandolelaw17.MeanForms': WHATEVER THE INPUT: true; the input reads as it did. -/
def meanFormsSpec : ChangeSpec := { name := "meanForms", fn := fun _ => fun
  | [] => { results := [.lit (.bool true)], args := [] }
  | _ => none }
def meanFormsRow : OpenClaim := { program := "ytffjgmhobilfmaa", sum := "48963b52eb58b99d24f34a4050974438e618f65fda133879c1b84c283c99226c", func := "girandole/girandolelaw17.MeanForms", spec := "meanForms", apart := false }
def MeanFormsSaid : Prop := meanFormsRow.holds Try.pinned (OpenSpec.ofChange meanFormsSpec)

/-- ITS FALSE NEIGHBOUR: 'it returns false'. Refute it at one input. -/
def meanFormsWrong : ChangeSpec := { name := "meanForms", fn := fun _ => fun
  | [] => { results := [.lit (.bool false)], args := [] }
  | _ => none }
def MeanFormsWrongFalsely : Prop := meanFormsRow.holds Try.pinned (OpenSpec.ofChange meanFormsWrong)

/-- 'girandolelaw17.MeanSame': WHATEVER THE INPUT: true; the input reads as it did. -/
def meanSameSpec : ChangeSpec := { name := "meanSame", fn := fun _ => fun
  | [d1, d2, d3] => { results := [.lit (.bool true)], args := [d1, d2, d3] }
  | _ => none }
def meanSameRow : OpenClaim := { program := "ytffjgmhobilfmaa", sum := "48963b52eb58b99d24f34a4050974438e618f65fda133879c1b84c283c99226c", func := "girandole/girandolelaw17.MeanSame", spec := "meanSame", apart := false }
def MeanSameSaid : Prop := meanSameRow.holds Try.pinned (OpenSpec.ofChange meanSameSpec)

/-- ITS FALSE NEIGHBOUR: 'it returns false'. Refute it at one input. -/
def meanSameWrong : ChangeSpec := { name := "meanSame", fn := fun _ => fun
  | [d1, d2, d3] => { results := [.lit (.bool false)], args := [d1, d2, d3] }
  | _ => none }
def MeanSameWrongFalsely : Prop := meanSameRow.holds Try.pinned (OpenSpec.ofChange meanSameWrong)

/-- 'girandolelaw20.NeedAll': WHATEVER THE INPUT: true; the input reads as it did. -/
def needAllSpec : ChangeSpec := { name := "needAll", fn := fun _ => fun
  | [d1, d2, d3] => { results := [.lit (.bool true)], args := [d1, d2, d3] }
  | _ => none }
def needAllRow : OpenClaim := { program := "ytffjgmhobilfmaa", sum := "48963b52eb58b99d24f34a4050974438e618f65fda133879c1b84c283c99226c", func := "girandole/girandolelaw20.NeedAll", spec := "needAll", apart := false }
def NeedAllSaid : Prop := needAllRow.holds Try.pinned (OpenSpec.ofChange needAllSpec)

/-- ITS FALSE NEIGHBOUR: 'it returns false'. Refute it at one input. -/
def needAllWrong : ChangeSpec := { name := "needAll", fn := fun _ => fun
  | [d1, d2, d3] => { results := [.lit (.bool false)], args := [d1, d2, d3] }
  | _ => none }
def NeedAllWrongFalsely : Prop := needAllRow.holds Try.pinned (OpenSpec.ofChange needAllWrong)

/-- 'girandolelaw20.NeedMore': WHATEVER THE INPUT: true; the input reads as it did. -/
def needMoreSpec : ChangeSpec := { name := "needMore", fn := fun _ => fun
  | [d1, d2, d3, d4, d5] => { results := [.lit (.bool true)], args := [d1, d2, d3, d4, d5] }
  | _ => none }
def needMoreRow : OpenClaim := { program := "ytffjgmhobilfmaa", sum := "48963b52eb58b99d24f34a4050974438e618f65fda133879c1b84c283c99226c", func := "girandole/girandolelaw20.NeedMore", spec := "needMore", apart := false }
def NeedMoreSaid : Prop := needMoreRow.holds Try.pinned (OpenSpec.ofChange needMoreSpec)

/-- ITS FALSE NEIGHBOUR: 'it returns false'. Refute it at one input. -/
def needMoreWrong : ChangeSpec := { name := "needMore", fn := fun _ => fun
  | [d1, d2, d3, d4, d5] => { results := [.lit (.bool false)], args := [d1, d2, d3, d4, d5] }
  | _ => none }
def NeedMoreWrongFalsely : Prop := needMoreRow.holds Try.pinned (OpenSpec.ofChange needMoreWrong)

/-- 'girandolelaw20.NeedForms': WHATEVER THE INPUT: true; the input reads as it did. -/
def needFormsSpec : ChangeSpec := { name := "needForms", fn := fun _ => fun
  | [] => { results := [.lit (.bool true)], args := [] }
  | _ => none }
def needFormsRow : OpenClaim := { program := "ytffjgmhobilfmaa", sum := "48963b52eb58b99d24f34a4050974438e618f65fda133879c1b84c283c99226c", func := "girandole/girandolelaw20.NeedForms", spec := "needForms", apart := false }
def NeedFormsSaid : Prop := needFormsRow.holds Try.pinned (OpenSpec.ofChange needFormsSpec)

/-- ITS FALSE NEIGHBOUR: 'it returns false'. Refute it at one input. -/
def needFormsWrong : ChangeSpec := { name := "needForms", fn := fun _ => fun
  | [] => { results := [.lit (.bool false)], args := [] }
  | _ => none }
def NeedFormsWrongFalsely : Prop := needFormsRow.holds Try.pinned (OpenSpec.ofChange needFormsWrong)

/- THE SECOND FORM. 'bulk': how many values and letters a reading holds, each counted each time it is reached (what is shared counts as often as it is met; a slice's spare places count too). A statement '..UptoSaid' is the law's where the arguments, and the package variables that the reading takes, are together of bulk at most 1048576: NARROWER than '..Said'. Prove '..Said' where nothing that the law and all that it calls make is longer than what came in: it says more and counts as full. Else prove '..UptoSaid'. A law counts once. -/
mutual
def uptoBulk {H : Type} : DataW H → Nat
  | .lit (.string bytes) => bytes.length + 1
  | .lit _ => 1
  | .nil => 1
  | .ptr d => uptoBulk d + 1
  | .slice elems spare => uptoBulkAll elems + uptoBulkAll spare + 1
  | .agg parts => uptoBulkAll parts + 1
  | .iface _ d => uptoBulk d + 1
  | .map entries => uptoBulkEntries entries + 1
  | .held _ => 1
def uptoBulkAll {H : Type} : List (DataW H) → Nat
  | [] => 0
  | d :: r => uptoBulk d + uptoBulkAll r
def uptoBulkEntries {H : Type} : List (Lit × DataW H) → Nat
  | [] => 0
  | x :: r => uptoBulkEntry x + uptoBulkEntries r
def uptoBulkEntry {H : Type} : Lit × DataW H → Nat
  | (.string bytes, d) => bytes.length + uptoBulk d + 1
  | (_, d) => uptoBulk d + 1
 end
def uptoSmall : (H : Type) → List (DataW H) → Bool := fun _ ds => decide (uptoBulkAll ds ≤ 1048576)
def OpenSpec.upto (s : _root_.Go.ChangeSpec) : _root_.Go.OpenSpec := { _root_.Go.OpenSpec.ofChange s with cond := some uptoSmall }

/-- 'girandolelaw18.BurstAll', WHERE WHAT IT READS IS OF BULK AT MOST 1048576: true; the input reads as it did. -/
def burstAllUptoRow : OpenClaim := { program := "ytffjgmhobilfmaa", sum := "48963b52eb58b99d24f34a4050974438e618f65fda133879c1b84c283c99226c", func := "girandole/girandolelaw18.BurstAll", spec := "burstAll", apart := false, narrowed := true }
def BurstAllUptoSaid : Prop := burstAllUptoRow.holds Try.pinned (OpenSpec.upto burstAllSpec)

/-- 'girandolelaw18.BurstForgets', WHERE WHAT IT READS IS OF BULK AT MOST 1048576: true; the input reads as it did. -/
def burstForgetsUptoRow : OpenClaim := { program := "ytffjgmhobilfmaa", sum := "48963b52eb58b99d24f34a4050974438e618f65fda133879c1b84c283c99226c", func := "girandole/girandolelaw18.BurstForgets", spec := "burstForgets", apart := false, narrowed := true }
def BurstForgetsUptoSaid : Prop := burstForgetsUptoRow.holds Try.pinned (OpenSpec.upto burstForgetsSpec)

/-- 'girandolelaw18.BurstForms', WHERE WHAT IT READS IS OF BULK AT MOST 1048576: true; the input reads as it did. -/
def burstFormsUptoRow : OpenClaim := { program := "ytffjgmhobilfmaa", sum := "48963b52eb58b99d24f34a4050974438e618f65fda133879c1b84c283c99226c", func := "girandole/girandolelaw18.BurstForms", spec := "burstForms", apart := false, narrowed := true }
def BurstFormsUptoSaid : Prop := burstFormsUptoRow.holds Try.pinned (OpenSpec.upto burstFormsSpec)

/-- 'girandolelaw17.MeanAll', WHERE WHAT IT READS IS OF BULK AT MOST 1048576: true; the input reads as it did. -/
def meanAllUptoRow : OpenClaim := { program := "ytffjgmhobilfmaa", sum := "48963b52eb58b99d24f34a4050974438e618f65fda133879c1b84c283c99226c", func := "girandole/girandolelaw17.MeanAll", spec := "meanAll", apart := false, narrowed := true }
def MeanAllUptoSaid : Prop := meanAllUptoRow.holds Try.pinned (OpenSpec.upto meanAllSpec)

/-- 'girandolelaw17.MeanBetween', WHERE WHAT IT READS IS OF BULK AT MOST 1048576: true; the input reads as it did. -/
def meanBetweenUptoRow : OpenClaim := { program := "ytffjgmhobilfmaa", sum := "48963b52eb58b99d24f34a4050974438e618f65fda133879c1b84c283c99226c", func := "girandole/girandolelaw17.MeanBetween", spec := "meanBetween", apart := false, narrowed := true }
def MeanBetweenUptoSaid : Prop := meanBetweenUptoRow.holds Try.pinned (OpenSpec.upto meanBetweenSpec)

/-- 'girandolelaw17.MeanForms', WHERE WHAT IT READS IS OF BULK AT MOST 1048576: true; the input reads as it did. -/
def meanFormsUptoRow : OpenClaim := { program := "ytffjgmhobilfmaa", sum := "48963b52eb58b99d24f34a4050974438e618f65fda133879c1b84c283c99226c", func := "girandole/girandolelaw17.MeanForms", spec := "meanForms", apart := false, narrowed := true }
def MeanFormsUptoSaid : Prop := meanFormsUptoRow.holds Try.pinned (OpenSpec.upto meanFormsSpec)

/-- 'girandolelaw17.MeanSame', WHERE WHAT IT READS IS OF BULK AT MOST 1048576: true; the input reads as it did. -/
def meanSameUptoRow : OpenClaim := { program := "ytffjgmhobilfmaa", sum := "48963b52eb58b99d24f34a4050974438e618f65fda133879c1b84c283c99226c", func := "girandole/girandolelaw17.MeanSame", spec := "meanSame", apart := false, narrowed := true }
def MeanSameUptoSaid : Prop := meanSameUptoRow.holds Try.pinned (OpenSpec.upto meanSameSpec)

/-- 'girandolelaw20.NeedAll', WHERE WHAT IT READS IS OF BULK AT MOST 1048576: true; the input reads as it did. -/
def needAllUptoRow : OpenClaim := { program := "ytffjgmhobilfmaa", sum := "48963b52eb58b99d24f34a4050974438e618f65fda133879c1b84c283c99226c", func := "girandole/girandolelaw20.NeedAll", spec := "needAll", apart := false, narrowed := true }
def NeedAllUptoSaid : Prop := needAllUptoRow.holds Try.pinned (OpenSpec.upto needAllSpec)

/-- 'girandolelaw20.NeedMore', WHERE WHAT IT READS IS OF BULK AT MOST 1048576: true; the input reads as it did. -/
def needMoreUptoRow : OpenClaim := { program := "ytffjgmhobilfmaa", sum := "48963b52eb58b99d24f34a4050974438e618f65fda133879c1b84c283c99226c", func := "girandole/girandolelaw20.NeedMore", spec := "needMore", apart := false, narrowed := true }
def NeedMoreUptoSaid : Prop := needMoreUptoRow.holds Try.pinned (OpenSpec.upto needMoreSpec)

/-- 'girandolelaw20.NeedForms', WHERE WHAT IT READS IS OF BULK AT MOST 1048576: true; the input reads as it did. -/
def needFormsUptoRow : OpenClaim := { program := "ytffjgmhobilfmaa", sum := "48963b52eb58b99d24f34a4050974438e618f65fda133879c1b84c283c99226c", func := "girandole/girandolelaw20.NeedForms", spec := "needForms", apart := false, narrowed := true }
def NeedFormsUptoSaid : Prop := needFormsUptoRow.holds Try.pinned (OpenSpec.upto needFormsSpec)

end Rows
end Go.Proofs.Ytffjgmhobilfmaa
