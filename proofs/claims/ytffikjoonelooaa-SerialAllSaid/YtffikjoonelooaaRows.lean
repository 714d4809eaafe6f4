/-
  No cell of these rows narrows 'for every input' (looked for: loops, veiled, ifaces, maps, wideKeys, modest, calm, conditions, laid).
  DERIVED. THE GIVEN ROWS OF THIS SEAT. 8 by the template 'for every input the law returns true; each argument reads behind the call as it read before'; 0 by the template 'total and deterministic' (their statements: YtffikjoonelooaaTotals.lean).
  GIVEN WITH THE SEED: the statements are not yours to turn. If you find one false, say at which input.
  Laid BY PROGRAM, IN A SANDBOX (cutbox-rows.mjs): the forced cells as the released guide's own fill.sh prints them over the translation 35d63a1026c1d5be… (all of the seat's roots in one cut). By AI agents, Wed Nov 11 2026. No macro, syntax, notation, axiom, sorry.
-/
import Derived.Test.YtffikjoonelooaaChecked
import GoSem.Claim
import GoSem.ClaimJoined
import GoSem.ClaimMapViews
import Derived.JoinedTies
import Derived.KernelRfl
namespace Go.Proofs.Ytffikjoonelooaa
/- THE CELL 'sum', in the pinned program and in every row, IS THE sha256 OF THE DUMP (.gsa) THAT YtffikjoonelooaaProg.lean LOADS. Nothing in Lean hashes anything: it is a label: what it is worth is what the hold of that sum in a sandbox is worth. -/
noncomputable def Try.pinned : Pinned := { name := "ytffikjoonelooaa", sum := "35d63a1026c1d5bec92662686677a70c20fe9fcfa969d95fbe576b3e7e5b020c", checked := Try.checked }
namespace Rows
def none {H : Type} : Left H := { results := [], args := [] }

/-- 'girandolelaw19.JitterAll': WHATEVER THE INPUT: true; the input reads as it did. -/
def jitterAllSpec : ChangeSpec := { name := "jitterAll", fn := fun _ => fun
  | [d1, d2] => { results := [.lit (.bool true)], args := [d1, d2] }
  | _ => none }
def jitterAllRow : OpenClaim := { program := "ytffikjoonelooaa", sum := "35d63a1026c1d5bec92662686677a70c20fe9fcfa969d95fbe576b3e7e5b020c", func := "girandole/girandolelaw19.JitterAll", spec := "jitterAll", apart := false }
def JitterAllSaid : Prop := jitterAllRow.holds Try.pinned (OpenSpec.ofChange jitterAllSpec)

/-- ITS FALSE NEIGHBOUR: 'it returns false'. Refute it at one input. -/
def jitterAllWrong : ChangeSpec := { name := "jitterAll", fn := fun _ => fun
  | [d1, d2] => { results := [.lit (.bool false)], args := [d1, d2] }
  | _ => none }
def JitterAllWrongFalsely : Prop := jitterAllRow.holds Try.pinned (OpenSpec.ofChange jitterAllWrong)

/-- 'girandolelaw19.JitterEven': WHATEVER THE INPUT: true; the input reads as it did. -/
def jitterEvenSpec : ChangeSpec := { name := "jitterEven", fn := fun _ => fun
  | [d1, d2] => { results := [.lit (.bool true)], args := [d1, d2] }
  | _ => none }
def jitterEvenRow : OpenClaim := { program := "ytffikjoonelooaa", sum := "35d63a1026c1d5bec92662686677a70c20fe9fcfa969d95fbe576b3e7e5b020c", func := "girandole/girandolelaw19.JitterEven", spec := "jitterEven", apart := false }
def JitterEvenSaid : Prop := jitterEvenRow.holds Try.pinned (OpenSpec.ofChange jitterEvenSpec)

/-- ITS FALSE NEIGHBOUR: 'it returns false'. Refute it at one input. -/
def jitterEvenWrong : ChangeSpec := { name := "jitterEven", fn := fun _ => fun
  | [d1, d2] => { results := [.lit (.bool false)], args := [d1, d2] }
  | _ => none }
def JitterEvenWrongFalsely : Prop := jitterEvenRow.holds Try.pinned (OpenSpec.ofChange jitterEvenWrong)

/-- 'girandolelaw19.JitterMost': WHATEVER THE INPUT: true; the input reads as it did. -/
def jitterMostSpec : ChangeSpec := { name := "jitterMost", fn := fun _ => fun
  | [d] => { results := [.lit (.bool true)], args := [d] }
  | _ => none }
def jitterMostRow : OpenClaim := { program := "ytffikjoonelooaa", sum := "35d63a1026c1d5bec92662686677a70c20fe9fcfa969d95fbe576b3e7e5b020c", func := "girandole/girandolelaw19.JitterMost", spec := "jitterMost", apart := false }
def JitterMostSaid : Prop := jitterMostRow.holds Try.pinned (OpenSpec.ofChange jitterMostSpec)

/-- ITS FALSE NEIGHBOUR: 'it returns false'. Refute it at one input. -/
def jitterMostWrong : ChangeSpec := { name := "jitterMost", fn := fun _ => fun
  | [d] => { results := [.lit (.bool false)], args := [d] }
  | _ => none }
def JitterMostWrongFalsely : Prop := jitterMostRow.holds Try.pinned (OpenSpec.ofChange jitterMostWrong)

/-- 'girandolelaw19.JitterForms': WHATEVER THE INPUT: true; the input reads as it did. -/
def jitterFormsSpec : ChangeSpec := { name := "jitterForms", fn := fun _ => fun
  | [] => { results := [.lit (.bool true)], args := [] }
  | _ => none }
def jitterFormsRow : OpenClaim := { program := "ytffikjoonelooaa", sum := "35d63a1026c1d5bec92662686677a70c20fe9fcfa969d95fbe576b3e7e5b020c", func := "girandole/girandolelaw19.JitterForms", spec := "jitterForms", apart := false }
def JitterFormsSaid : Prop := jitterFormsRow.holds Try.pinned (OpenSpec.ofChange jitterFormsSpec)

/-- ITS FALSE NEIGHBOUR: 'it returns false'. Refute it at one input. -/
def jitterFormsWrong : ChangeSpec := { name := "jitterForms", fn := fun _ => fun
  | [] => { results := [.lit (.bool false)], args := [] }
  | _ => none }
def JitterFormsWrongFalsely : Prop := jitterFormsRow.holds Try.pinned (OpenSpec.ofChange jitterFormsWrong)

/-- 'girandolelaw8.SerialAll': WHATEVER THE INPUT: true; the input reads as it did. -/
def serialAllSpec : ChangeSpec := { name := "serialAll", fn := fun _ => fun
  | [d1, d2, d3] => { results := [.lit (.bool true)], args := [d1, d2, d3] }
  | _ => none }
def serialAllRow : OpenClaim := { program := "ytffikjoonelooaa", sum := "35d63a1026c1d5bec92662686677a70c20fe9fcfa969d95fbe576b3e7e5b020c", func := "girandole/girandolelaw8.SerialAll", spec := "serialAll", apart := false }
def SerialAllSaid : Prop := serialAllRow.holds Try.pinned (OpenSpec.ofChange serialAllSpec)

/-- ITS FALSE NEIGHBOUR: 'it returns false'. Refute it at one input. -/
def serialAllWrong : ChangeSpec := { name := "serialAll", fn := fun _ => fun
  | [d1, d2, d3] => { results := [.lit (.bool false)], args := [d1, d2, d3] }
  | _ => none }
def SerialAllWrongFalsely : Prop := serialAllRow.holds Try.pinned (OpenSpec.ofChange serialAllWrong)

/-- 'girandolelaw8.SerialRound': WHATEVER THE INPUT: true; the input reads as it did. -/
def serialRoundSpec : ChangeSpec := { name := "serialRound", fn := fun _ => fun
  | [d1, d2, d3] => { results := [.lit (.bool true)], args := [d1, d2, d3] }
  | _ => none }
def serialRoundRow : OpenClaim := { program := "ytffikjoonelooaa", sum := "35d63a1026c1d5bec92662686677a70c20fe9fcfa969d95fbe576b3e7e5b020c", func := "girandole/girandolelaw8.SerialRound", spec := "serialRound", apart := false }
def SerialRoundSaid : Prop := serialRoundRow.holds Try.pinned (OpenSpec.ofChange serialRoundSpec)

/-- ITS FALSE NEIGHBOUR: 'it returns false'. Refute it at one input. -/
def serialRoundWrong : ChangeSpec := { name := "serialRound", fn := fun _ => fun
  | [d1, d2, d3] => { results := [.lit (.bool false)], args := [d1, d2, d3] }
  | _ => none }
def SerialRoundWrongFalsely : Prop := serialRoundRow.holds Try.pinned (OpenSpec.ofChange serialRoundWrong)

/-- 'girandolelaw8.SerialWindow': WHATEVER THE INPUT: true; the input reads as it did. -/
def serialWindowSpec : ChangeSpec := { name := "serialWindow", fn := fun _ => fun
  | [d1, d2] => { results := [.lit (.bool true)], args := [d1, d2] }
  | _ => none }
def serialWindowRow : OpenClaim := { program := "ytffikjoonelooaa", sum := "35d63a1026c1d5bec92662686677a70c20fe9fcfa969d95fbe576b3e7e5b020c", func := "girandole/girandolelaw8.SerialWindow", spec := "serialWindow", apart := false }
def SerialWindowSaid : Prop := serialWindowRow.holds Try.pinned (OpenSpec.ofChange serialWindowSpec)

/-- ITS FALSE NEIGHBOUR: 'it returns false'. Refute it at one input. -/
def serialWindowWrong : ChangeSpec := { name := "serialWindow", fn := fun _ => fun
  | [d1, d2] => { results := [.lit (.bool false)], args := [d1, d2] }
  | _ => none }
def SerialWindowWrongFalsely : Prop := serialWindowRow.holds Try.pinned (OpenSpec.ofChange serialWindowWrong)

/-- 'girandolelaw8.SerialForms': WHATEVER THE INPUT: true; the input reads as it did. -/
def serialFormsSpec : ChangeSpec := { name := "serialForms", fn := fun _ => fun
  | [] => { results := [.lit (.bool true)], args := [] }
  | _ => none }
def serialFormsRow : OpenClaim := { program := "ytffikjoonelooaa", sum := "35d63a1026c1d5bec92662686677a70c20fe9fcfa969d95fbe576b3e7e5b020c", func := "girandole/girandolelaw8.SerialForms", spec := "serialForms", apart := false }
def SerialFormsSaid : Prop := serialFormsRow.holds Try.pinned (OpenSpec.ofChange serialFormsSpec)

/-- ITS FALSE NEIGHBOUR: 'it returns false'. Refute it at one input. -/
def serialFormsWrong : ChangeSpec := { name := "serialForms", fn := fun _ => fun
  | [] => { results := [.lit (.bool false)], args := [] }
  | _ => none }
def SerialFormsWrongFalsely : Prop := serialFormsRow.holds Try.pinned (OpenSpec.ofChange serialFormsWrong)

/- THE SECOND FORM. 'bulk': how many values and letters a reading holds, each counted each time it is reached (what is shared counts as often as it is met; a slice's spare places count too). A statement '..UptoSaid' is the law's where the arguments, and the package variables that the reading takes, are together of bulk at most 1048576: NARROWER than '..Said'. Prove '..Said' where nothing that the law and all that it calls make is longer than what came in: it says more and counts as full. Else prove '..UptoSaid'. A law counts once. -/
mutual
def uptoBulk {H : Type} : DataW H → Nat
  | .lit (.string bytes) => bytes.length + 1
  | .lit _ => 1
  | .nil => 1
  | .ptr d => uptoBulk d + 1
  | .slice elems spare => uptoBulkAll elems + uptoBulkAll spare + 1
  | .agg parts => uptoBulkAll parts + 1
  | .iface _ d => uptoBulk d + 1
  | .map entries => uptoBulkEntries entries + 1
  | .held _ => 1
def uptoBulkAll {H : Type} : List (DataW H) → Nat
  | [] => 0
  | d :: r => uptoBulk d + uptoBulkAll r
def uptoBulkEntries {H : Type} : List (Lit × DataW H) → Nat
  | [] => 0
  | x :: r => uptoBulkEntry x + uptoBulkEntries r
def uptoBulkEntry {H : Type} : Lit × DataW H → Nat
  | (.string bytes, d) => bytes.length + uptoBulk d + 1
  | (_, d) => uptoBulk d + 1
 end
def uptoSmall : (H : Type) → List (DataW H) → Bool := fun _ ds => decide (uptoBulkAll ds ≤ 1048576)
def OpenSpec.upto (s : _root_.Go.ChangeSpec) : _root_.Go.OpenSpec := { _root_.Go.OpenSpec.ofChange s with cond := some uptoSmall }

/-- 'girandolelaw19.JitterAll', WHERE WHAT IT READS IS OF BULK AT MOST 1048576: true; the input reads as it did. -/
def jitterAllUptoRow : OpenClaim := { program := "ytffikjoonelooaa", sum := "35d63a1026c1d5bec92662686677a70c20fe9fcfa969d95fbe576b3e7e5b020c", func := "girandole/girandolelaw19.JitterAll", spec := "jitterAll", apart := false, narrowed := true }
def JitterAllUptoSaid : Prop := jitterAllUptoRow.holds Try.pinned (OpenSpec.upto jitterAllSpec)

/-- 'girandolelaw19.JitterEven', WHERE WHAT IT READS IS OF BULK AT MOST 1048576: true; the input reads as it did. -/
def jitterEvenUptoRow : OpenClaim := { program := "ytffikjoonelooaa", sum := "35d63a1026c1d5bec92662686677a70c20fe9fcfa969d95fbe576b3e7e5b020c", func := "girandole/girandolelaw19.JitterEven", spec := "jitterEven", apart := false, narrowed := true }
def JitterEvenUptoSaid : Prop := jitterEvenUptoRow.holds Try.pinned (OpenSpec.upto jitterEvenSpec)

/-- 'girandolelaw19.JitterMost', WHERE WHAT IT READS IS OF BULK AT MOST 1048576: true; the input reads as it did. -/
def jitterMostUptoRow : OpenClaim := { program := "ytffikjoonelooaa", sum := "35d63a1026c1d5bec92662686677a70c20fe9fcfa969d95fbe576b3e7e5b020c", func := "girandole/girandolelaw19.JitterMost", spec := "jitterMost", apart := false, narrowed := true }
def JitterMostUptoSaid : Prop := jitterMostUptoRow.holds Try.pinned (OpenSpec.upto jitterMostSpec)

/-- 'girandolelaw19.JitterForms', WHERE WHAT IT READS IS OF BULK AT MOST 1048576: true; the input reads as it did. -/
def jitterFormsUptoRow : OpenClaim := { program := "ytffikjoonelooaa", sum := "35d63a1026c1d5bec92662686677a70c20fe9fcfa969d95fbe576b3e7e5b020c", func := "girandole/girandolelaw19.JitterForms", spec := "jitterForms", apart := false, narrowed := true }
def JitterFormsUptoSaid : Prop := jitterFormsUptoRow.holds Try.pinned (OpenSpec.upto jitterFormsSpec)

/-- 'girandolelaw8.SerialAll', WHERE WHAT IT READS IS OF BULK AT MOST 1048576: true; the input reads as it did. -/
def serialAllUptoRow : OpenClaim := { program := "ytffikjoonelooaa", sum := "35d63a1026c1d5bec92662686677a70c20fe9fcfa969d95fbe576b3e7e5b020c", func := "girandole/girandolelaw8.SerialAll", spec := "serialAll", apart := false, narrowed := true }
def SerialAllUptoSaid : Prop := serialAllUptoRow.holds Try.pinned (OpenSpec.upto serialAllSpec)

/-- 'girandolelaw8.SerialRound', WHERE WHAT IT READS IS OF BULK AT MOST 1048576: true; the input reads as it did. -/
def serialRoundUptoRow : OpenClaim := { program := "ytffikjoonelooaa", sum := "35d63a1026c1d5bec92662686677a70c20fe9fcfa969d95fbe576b3e7e5b020c", func := "girandole/girandolelaw8.SerialRound", spec := "serialRound", apart := false, narrowed := true }
def SerialRoundUptoSaid : Prop := serialRoundUptoRow.holds Try.pinned (OpenSpec.upto serialRoundSpec)

/-- 'girandolelaw8.SerialWindow', WHERE WHAT IT READS IS OF BULK AT MOST 1048576: true; the input reads as it did. -/
def serialWindowUptoRow : OpenClaim := { program := "ytffikjoonelooaa", sum := "35d63a1026c1d5bec92662686677a70c20fe9fcfa969d95fbe576b3e7e5b020c", func := "girandole/girandolelaw8.SerialWindow", spec := "serialWindow", apart := false, narrowed := true }
def SerialWindowUptoSaid : Prop := serialWindowUptoRow.holds Try.pinned (OpenSpec.upto serialWindowSpec)

/-- 'girandolelaw8.SerialForms', WHERE WHAT IT READS IS OF BULK AT MOST 1048576: true; the input reads as it did. -/
def serialFormsUptoRow : OpenClaim := { program := "ytffikjoonelooaa", sum := "35d63a1026c1d5bec92662686677a70c20fe9fcfa969d95fbe576b3e7e5b020c", func := "girandole/girandolelaw8.SerialForms", spec := "serialForms", apart := false, narrowed := true }
def SerialFormsUptoSaid : Prop := serialFormsUptoRow.holds Try.pinned (OpenSpec.upto serialFormsSpec)

end Rows
end Go.Proofs.Ytffikjoonelooaa
