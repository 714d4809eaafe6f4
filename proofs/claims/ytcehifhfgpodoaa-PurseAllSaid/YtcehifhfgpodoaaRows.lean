/-
  No cell of these rows narrows 'for every input' (looked for: loops, veiled, ifaces, maps, wideKeys, modest, calm, conditions, laid).
  DERIVED. THE GIVEN ROWS OF THIS SEAT. 9 by the template 'for every input the law returns true; each argument reads behind the call as it read before'; 0 by the template 'total and deterministic' (their statements: YtcehifhfgpodoaaTotals.lean).
  GIVEN WITH THE SEED: the statements are not yours to turn. If you find one false, say at which input.
  Laid BY PROGRAM, IN A SANDBOX (cutbox-rows.mjs): the forced cells as the released guide's own fill.sh prints them over the translation 724923b274c95e09… (all of the seat's roots in one cut). By AI agents, Wed Nov 11 2026. No macro, syntax, notation, axiom, sorry.
-/
import Derived.Test.YtcehifhfgpodoaaChecked
import GoSem.Claim
import GoSem.ClaimJoined
import GoSem.ClaimMapViews
import Derived.JoinedTies
import Derived.KernelRfl
namespace Go.Proofs.Ytcehifhfgpodoaa
/- THE CELL 'sum', in the pinned program and in every row, IS THE sha256 OF THE DUMP (.gsa) THAT YtcehifhfgpodoaaProg.lean LOADS. Nothing in Lean hashes anything: it is a label: what it is worth is what the hold of that sum in a sandbox is worth. -/
noncomputable def Try.pinned : Pinned := { name := "ytcehifhfgpodoaa", sum := "724923b274c95e0989f1e40832d73080cd925c2292e00f9bc70bc85d66f68ea4", checked := Try.checked }
namespace Rows
def none {H : Type} : Left H := { results := [], args := [] }

/-- 'girandolelaw23.LedgerAll': WHATEVER THE INPUT: true; the input reads as it did. -/
def ledgerAllSpec : ChangeSpec := { name := "ledgerAll", fn := fun _ => fun
  | [d] => { results := [.lit (.bool true)], args := [d] }
  | _ => none }
def ledgerAllRow : OpenClaim := { program := "ytcehifhfgpodoaa", sum := "724923b274c95e0989f1e40832d73080cd925c2292e00f9bc70bc85d66f68ea4", func := "girandole/girandolelaw23.LedgerAll", spec := "ledgerAll", apart := false }
def LedgerAllSaid : Prop := ledgerAllRow.holds Try.pinned (OpenSpec.ofChange ledgerAllSpec)

/-- ITS FALSE NEIGHBOUR: 'it returns false'. Refute it at one input. -/
def ledgerAllWrong : ChangeSpec := { name := "ledgerAll", fn := fun _ => fun
  | [d] => { results := [.lit (.bool false)], args := [d] }
  | _ => none }
def LedgerAllWrongFalsely : Prop := ledgerAllRow.holds Try.pinned (OpenSpec.ofChange ledgerAllWrong)

/-- 'girandolelaw23.LedgerOnce': WHATEVER THE INPUT: true; the input reads as it did. -/
def ledgerOnceSpec : ChangeSpec := { name := "ledgerOnce", fn := fun _ => fun
  | [d1, d2] => { results := [.lit (.bool true)], args := [d1, d2] }
  | _ => none }
def ledgerOnceRow : OpenClaim := { program := "ytcehifhfgpodoaa", sum := "724923b274c95e0989f1e40832d73080cd925c2292e00f9bc70bc85d66f68ea4", func := "girandole/girandolelaw23.LedgerOnce", spec := "ledgerOnce", apart := false }
def LedgerOnceSaid : Prop := ledgerOnceRow.holds Try.pinned (OpenSpec.ofChange ledgerOnceSpec)

/-- ITS FALSE NEIGHBOUR: 'it returns false'. Refute it at one input. -/
def ledgerOnceWrong : ChangeSpec := { name := "ledgerOnce", fn := fun _ => fun
  | [d1, d2] => { results := [.lit (.bool false)], args := [d1, d2] }
  | _ => none }
def LedgerOnceWrongFalsely : Prop := ledgerOnceRow.holds Try.pinned (OpenSpec.ofChange ledgerOnceWrong)

/-- 'girandolelaw23.LedgerForms': WHATEVER THE INPUT: true; the input reads as it did. -/
def ledgerFormsSpec : ChangeSpec := { name := "ledgerForms", fn := fun _ => fun
  | [] => { results := [.lit (.bool true)], args := [] }
  | _ => none }
def ledgerFormsRow : OpenClaim := { program := "ytcehifhfgpodoaa", sum := "724923b274c95e0989f1e40832d73080cd925c2292e00f9bc70bc85d66f68ea4", func := "girandole/girandolelaw23.LedgerForms", spec := "ledgerForms", apart := false }
def LedgerFormsSaid : Prop := ledgerFormsRow.holds Try.pinned (OpenSpec.ofChange ledgerFormsSpec)

/-- ITS FALSE NEIGHBOUR: 'it returns false'. Refute it at one input. -/
def ledgerFormsWrong : ChangeSpec := { name := "ledgerForms", fn := fun _ => fun
  | [] => { results := [.lit (.bool false)], args := [] }
  | _ => none }
def LedgerFormsWrongFalsely : Prop := ledgerFormsRow.holds Try.pinned (OpenSpec.ofChange ledgerFormsWrong)

/-- 'girandolelaw23.LedgerApart': WHATEVER THE INPUT: true; the input reads as it did. -/
def ledgerApartSpec : ChangeSpec := { name := "ledgerApart", fn := fun _ => fun
  | [d1, d2, d3] => { results := [.lit (.bool true)], args := [d1, d2, d3] }
  | _ => none }
def ledgerApartRow : OpenClaim := { program := "ytcehifhfgpodoaa", sum := "724923b274c95e0989f1e40832d73080cd925c2292e00f9bc70bc85d66f68ea4", func := "girandole/girandolelaw23.LedgerApart", spec := "ledgerApart", apart := false }
def LedgerApartSaid : Prop := ledgerApartRow.holds Try.pinned (OpenSpec.ofChange ledgerApartSpec)

/-- ITS FALSE NEIGHBOUR: 'it returns false'. Refute it at one input. -/
def ledgerApartWrong : ChangeSpec := { name := "ledgerApart", fn := fun _ => fun
  | [d1, d2, d3] => { results := [.lit (.bool false)], args := [d1, d2, d3] }
  | _ => none }
def LedgerApartWrongFalsely : Prop := ledgerApartRow.holds Try.pinned (OpenSpec.ofChange ledgerApartWrong)

/-- 'girandolelaw21.PurseAll': WHATEVER THE INPUT: true; the input reads as it did. -/
def purseAllSpec : ChangeSpec := { name := "purseAll", fn := fun _ => fun
  | [d1, d2] => { results := [.lit (.bool true)], args := [d1, d2] }
  | _ => none }
def purseAllRow : OpenClaim := { program := "ytcehifhfgpodoaa", sum := "724923b274c95e0989f1e40832d73080cd925c2292e00f9bc70bc85d66f68ea4", func := "girandole/girandolelaw21.PurseAll", spec := "purseAll", unfollowed := true, recurses := true, apart := false }
def PurseAllSaid : Prop := purseAllRow.holds Try.pinned (OpenSpec.ofChange purseAllSpec)

/-- ITS FALSE NEIGHBOUR: 'it returns false'. Refute it at one input. -/
def purseAllWrong : ChangeSpec := { name := "purseAll", fn := fun _ => fun
  | [d1, d2] => { results := [.lit (.bool false)], args := [d1, d2] }
  | _ => none }
def PurseAllWrongFalsely : Prop := purseAllRow.holds Try.pinned (OpenSpec.ofChange purseAllWrong)

/-- 'girandolelaw21.PurseWhole': WHATEVER THE INPUT: true; the input reads as it did. -/
def purseWholeSpec : ChangeSpec := { name := "purseWhole", fn := fun _ => fun
  | [d1, d2] => { results := [.lit (.bool true)], args := [d1, d2] }
  | _ => none }
def purseWholeRow : OpenClaim := { program := "ytcehifhfgpodoaa", sum := "724923b274c95e0989f1e40832d73080cd925c2292e00f9bc70bc85d66f68ea4", func := "girandole/girandolelaw21.PurseWhole", spec := "purseWhole", unfollowed := true, recurses := true, apart := false }
def PurseWholeSaid : Prop := purseWholeRow.holds Try.pinned (OpenSpec.ofChange purseWholeSpec)

/-- ITS FALSE NEIGHBOUR: 'it returns false'. Refute it at one input. -/
def purseWholeWrong : ChangeSpec := { name := "purseWhole", fn := fun _ => fun
  | [d1, d2] => { results := [.lit (.bool false)], args := [d1, d2] }
  | _ => none }
def PurseWholeWrongFalsely : Prop := purseWholeRow.holds Try.pinned (OpenSpec.ofChange purseWholeWrong)

/-- 'girandolelaw21.PurseRanks': WHATEVER THE INPUT: true; the input reads as it did. -/
def purseRanksSpec : ChangeSpec := { name := "purseRanks", fn := fun _ => fun
  | [d1, d2, d3] => { results := [.lit (.bool true)], args := [d1, d2, d3] }
  | _ => none }
def purseRanksRow : OpenClaim := { program := "ytcehifhfgpodoaa", sum := "724923b274c95e0989f1e40832d73080cd925c2292e00f9bc70bc85d66f68ea4", func := "girandole/girandolelaw21.PurseRanks", spec := "purseRanks", unfollowed := true, recurses := true, apart := false }
def PurseRanksSaid : Prop := purseRanksRow.holds Try.pinned (OpenSpec.ofChange purseRanksSpec)

/-- ITS FALSE NEIGHBOUR: 'it returns false'. Refute it at one input. -/
def purseRanksWrong : ChangeSpec := { name := "purseRanks", fn := fun _ => fun
  | [d1, d2, d3] => { results := [.lit (.bool false)], args := [d1, d2, d3] }
  | _ => none }
def PurseRanksWrongFalsely : Prop := purseRanksRow.holds Try.pinned (OpenSpec.ofChange purseRanksWrong)

/-- 'girandolelaw21.PurseForms': WHATEVER THE INPUT: true; the input reads as it did. -/
def purseFormsSpec : ChangeSpec := { name := "purseForms", fn := fun _ => fun
  | [] => { results := [.lit (.bool true)], args := [] }
  | _ => none }
def purseFormsRow : OpenClaim := { program := "ytcehifhfgpodoaa", sum := "724923b274c95e0989f1e40832d73080cd925c2292e00f9bc70bc85d66f68ea4", func := "girandole/girandolelaw21.PurseForms", spec := "purseForms", unfollowed := true, recurses := true, apart := false }
def PurseFormsSaid : Prop := purseFormsRow.holds Try.pinned (OpenSpec.ofChange purseFormsSpec)

/-- ITS FALSE NEIGHBOUR: 'it returns false'. Refute it at one input. -/
def purseFormsWrong : ChangeSpec := { name := "purseForms", fn := fun _ => fun
  | [] => { results := [.lit (.bool false)], args := [] }
  | _ => none }
def PurseFormsWrongFalsely : Prop := purseFormsRow.holds Try.pinned (OpenSpec.ofChange purseFormsWrong)

/-- 'girandolelaw21.PurseOne': WHATEVER THE INPUT: true; the input reads as it did. -/
def purseOneSpec : ChangeSpec := { name := "purseOne", fn := fun _ => fun
  | [d1, d2, d3] => { results := [.lit (.bool true)], args := [d1, d2, d3] }
  | _ => none }
def purseOneRow : OpenClaim := { program := "ytcehifhfgpodoaa", sum := "724923b274c95e0989f1e40832d73080cd925c2292e00f9bc70bc85d66f68ea4", func := "girandole/girandolelaw21.PurseOne", spec := "purseOne", unfollowed := true, recurses := true, apart := false }
def PurseOneSaid : Prop := purseOneRow.holds Try.pinned (OpenSpec.ofChange purseOneSpec)

/-- ITS FALSE NEIGHBOUR: 'it returns false'. Refute it at one input. -/
def purseOneWrong : ChangeSpec := { name := "purseOne", fn := fun _ => fun
  | [d1, d2, d3] => { results := [.lit (.bool false)], args := [d1, d2, d3] }
  | _ => none }
def PurseOneWrongFalsely : Prop := purseOneRow.holds Try.pinned (OpenSpec.ofChange purseOneWrong)

/- THE SECOND FORM. 'bulk': how many values and letters a reading holds, each counted each time it is reached (what is shared counts as often as it is met; a slice's spare places count too). A statement '..UptoSaid' is the law's where the arguments, and the package variables that the reading takes, are together of bulk at most 1048576: NARROWER than '..Said'. Prove '..Said' where nothing that the law and all that it calls make is longer than what came in: it says more and counts as full. Else prove '..UptoSaid'. A law counts once. -/
mutual
def uptoBulk {H : Type} : DataW H → Nat
  | .lit (.string bytes) => bytes.length + 1
  | .lit _ => 1
  | .nil => 1
  | .ptr d => uptoBulk d + 1
  | .slice elems spare => uptoBulkAll elems + uptoBulkAll spare + 1
  | .agg parts => uptoBulkAll parts + 1
  | .iface _ d => uptoBulk d + 1
  | .map entries => uptoBulkEntries entries + 1
  | .held _ => 1
def uptoBulkAll {H : Type} : List (DataW H) → Nat
  | [] => 0
  | d :: r => uptoBulk d + uptoBulkAll r
def uptoBulkEntries {H : Type} : List (Lit × DataW H) → Nat
  | [] => 0
  | x :: r => uptoBulkEntry x + uptoBulkEntries r
def uptoBulkEntry {H : Type} : Lit × DataW H → Nat
  | (.string bytes, d) => bytes.length + uptoBulk d + 1
  | (_, d) => uptoBulk d + 1
 end
def uptoSmall : (H : Type) → List (DataW H) → Bool := fun _ ds => decide (uptoBulkAll ds ≤ 1048576)
def OpenSpec.upto (s : _root_.Go.ChangeSpec) : _root_.Go.OpenSpec := { _root_.Go.OpenSpec.ofChange s with cond := some uptoSmall }

/-- 'girandolelaw23.LedgerAll', WHERE WHAT IT READS IS OF BULK AT MOST 1048576: true; the input reads as it did. -/
def ledgerAllUptoRow : OpenClaim := { program := "ytcehifhfgpodoaa", sum := "724923b274c95e0989f1e40832d73080cd925c2292e00f9bc70bc85d66f68ea4", func := "girandole/girandolelaw23.LedgerAll", spec := "ledgerAll", apart := false, narrowed := true }
def LedgerAllUptoSaid : Prop := ledgerAllUptoRow.holds Try.pinned (OpenSpec.upto ledgerAllSpec)

/-- 'girandolelaw23.LedgerOnce', WHERE WHAT IT READS IS OF BULK AT MOST 1048576: true; the input reads as it did. -/
def ledgerOnceUptoRow : OpenClaim := { program := "ytcehifhfgpodoaa", sum := "724923b274c95e0989f1e40832d73080cd925c2292e00f9bc70bc85d66f68ea4", func := "girandole/girandolelaw23.LedgerOnce", spec := "ledgerOnce", apart := false, narrowed := true }
def LedgerOnceUptoSaid : Prop := ledgerOnceUptoRow.holds Try.pinned (OpenSpec.upto ledgerOnceSpec)

/-- 'girandolelaw23.LedgerForms', WHERE WHAT IT READS IS OF BULK AT MOST 1048576: true; the input reads as it did. -/
def ledgerFormsUptoRow : OpenClaim := { program := "ytcehifhfgpodoaa", sum := "724923b274c95e0989f1e40832d73080cd925c2292e00f9bc70bc85d66f68ea4", func := "girandole/girandolelaw23.LedgerForms", spec := "ledgerForms", apart := false, narrowed := true }
def LedgerFormsUptoSaid : Prop := ledgerFormsUptoRow.holds Try.pinned (OpenSpec.upto ledgerFormsSpec)

/-- 'girandolelaw23.LedgerApart', WHERE WHAT IT READS IS OF BULK AT MOST 1048576: true; the input reads as it did. -/
def ledgerApartUptoRow : OpenClaim := { program := "ytcehifhfgpodoaa", sum := "724923b274c95e0989f1e40832d73080cd925c2292e00f9bc70bc85d66f68ea4", func := "girandole/girandolelaw23.LedgerApart", spec := "ledgerApart", apart := false, narrowed := true }
def LedgerApartUptoSaid : Prop := ledgerApartUptoRow.holds Try.pinned (OpenSpec.upto ledgerApartSpec)

/-- 'girandolelaw21.PurseAll', WHERE WHAT IT READS IS OF BULK AT MOST 1048576: true; the input reads as it did. -/
def purseAllUptoRow : OpenClaim := { program := "ytcehifhfgpodoaa", sum := "724923b274c95e0989f1e40832d73080cd925c2292e00f9bc70bc85d66f68ea4", func := "girandole/girandolelaw21.PurseAll", spec := "purseAll", unfollowed := true, recurses := true, apart := false, narrowed := true }
def PurseAllUptoSaid : Prop := purseAllUptoRow.holds Try.pinned (OpenSpec.upto purseAllSpec)

/-- 'girandolelaw21.PurseWhole', WHERE WHAT IT READS IS OF BULK AT MOST 1048576: true; the input reads as it did. -/
def purseWholeUptoRow : OpenClaim := { program := "ytcehifhfgpodoaa", sum := "724923b274c95e0989f1e40832d73080cd925c2292e00f9bc70bc85d66f68ea4", func := "girandole/girandolelaw21.PurseWhole", spec := "purseWhole", unfollowed := true, recurses := true, apart := false, narrowed := true }
def PurseWholeUptoSaid : Prop := purseWholeUptoRow.holds Try.pinned (OpenSpec.upto purseWholeSpec)

/-- 'girandolelaw21.PurseRanks', WHERE WHAT IT READS IS OF BULK AT MOST 1048576: true; the input reads as it did. -/
def purseRanksUptoRow : OpenClaim := { program := "ytcehifhfgpodoaa", sum := "724923b274c95e0989f1e40832d73080cd925c2292e00f9bc70bc85d66f68ea4", func := "girandole/girandolelaw21.PurseRanks", spec := "purseRanks", unfollowed := true, recurses := true, apart := false, narrowed := true }
def PurseRanksUptoSaid : Prop := purseRanksUptoRow.holds Try.pinned (OpenSpec.upto purseRanksSpec)

/-- 'girandolelaw21.PurseForms', WHERE WHAT IT READS IS OF BULK AT MOST 1048576: true; the input reads as it did. -/
def purseFormsUptoRow : OpenClaim := { program := "ytcehifhfgpodoaa", sum := "724923b274c95e0989f1e40832d73080cd925c2292e00f9bc70bc85d66f68ea4", func := "girandole/girandolelaw21.PurseForms", spec := "purseForms", unfollowed := true, recurses := true, apart := false, narrowed := true }
def PurseFormsUptoSaid : Prop := purseFormsUptoRow.holds Try.pinned (OpenSpec.upto purseFormsSpec)

/-- 'girandolelaw21.PurseOne', WHERE WHAT IT READS IS OF BULK AT MOST 1048576: true; the input reads as it did. -/
def purseOneUptoRow : OpenClaim := { program := "ytcehifhfgpodoaa", sum := "724923b274c95e0989f1e40832d73080cd925c2292e00f9bc70bc85d66f68ea4", func := "girandole/girandolelaw21.PurseOne", spec := "purseOne", unfollowed := true, recurses := true, apart := false, narrowed := true }
def PurseOneUptoSaid : Prop := purseOneUptoRow.holds Try.pinned (OpenSpec.upto purseOneSpec)

end Rows
end Go.Proofs.Ytcehifhfgpodoaa
