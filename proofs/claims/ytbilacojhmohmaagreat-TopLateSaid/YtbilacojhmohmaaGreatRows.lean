/-
  No cell of these rows narrows 'for every input' (looked for: loops, veiled, ifaces, maps, wideKeys, modest, calm, conditions, laid).
  DERIVED. THE GIVEN ROWS OF THIS SEAT. 6 by the template 'for every input the law returns true; each argument reads behind the call as it read before'; 0 by the template 'total and deterministic' (their statements: YtbilacojhmohmaaGreatTotals.lean).
  GIVEN WITH THE SEED: the statements are not yours to turn. If you find one false, say at which input.
  Laid BY PROGRAM, IN A SANDBOX (cutbox-rows.mjs): the forced cells as the released guide's own fill.sh prints them over the translation 15a62389d711b6cd… (all of the seat's roots in one cut). By AI agents, Wed Nov 11 2026. No macro, syntax, notation, axiom, sorry.
-/
import Derived.Test.YtbilacojhmohmaaGreatChecked
import GoSem.Claim
import GoSem.ClaimJoined
import GoSem.ClaimMapViews
import Derived.JoinedTies
import Derived.KernelRfl
namespace Go.Proofs.YtbilacojhmohmaaGreat
/- THE CELL 'sum', in the pinned program and in every row, IS THE sha256 OF THE DUMP (.gsa) THAT YtbilacojhmohmaaGreatProg.lean LOADS. Nothing in Lean hashes anything: it is a label: what it is worth is what the hold of that sum in a sandbox is worth. -/
noncomputable def Tryz.pinned : Pinned := { name := "ytbilacojhmohmaagreat", sum := "15a62389d711b6cd10c1eccd9b1e11aa1bc55a4f13de685182530faa4716503d", checked := Tryz.checked }
namespace Rows
def none {H : Type} : Left H := { results := [], args := [] }

/-- 'girandoletop.TopMost': WHATEVER THE INPUT: true; the input reads as it did. -/
def topMostSpec : ChangeSpec := { name := "topMost", fn := fun _ => fun
  | [d1, d2] => { results := [.lit (.bool true)], args := [d1, d2] }
  | _ => none }
def topMostRow : OpenClaim := { program := "ytbilacojhmohmaagreat", sum := "15a62389d711b6cd10c1eccd9b1e11aa1bc55a4f13de685182530faa4716503d", func := "girandole/girandoletop.TopMost", spec := "topMost", inPlace := ["slices.overlaps[[]byte]"], unfollowed := true, recurses := true, apart := false }
def TopMostSaid : Prop := topMostRow.holds Tryz.pinned (OpenSpec.ofChange topMostSpec)

/-- ITS FALSE NEIGHBOUR: 'it returns false'. Refute it at one input. -/
def topMostWrong : ChangeSpec := { name := "topMost", fn := fun _ => fun
  | [d1, d2] => { results := [.lit (.bool false)], args := [d1, d2] }
  | _ => none }
def TopMostWrongFalsely : Prop := topMostRow.holds Tryz.pinned (OpenSpec.ofChange topMostWrong)

/-- 'girandoletop.TopRepair': WHATEVER THE INPUT: true; the input reads as it did. -/
def topRepairSpec : ChangeSpec := { name := "topRepair", fn := fun _ => fun
  | [d1, d2] => { results := [.lit (.bool true)], args := [d1, d2] }
  | _ => none }
def topRepairRow : OpenClaim := { program := "ytbilacojhmohmaagreat", sum := "15a62389d711b6cd10c1eccd9b1e11aa1bc55a4f13de685182530faa4716503d", func := "girandole/girandoletop.TopRepair", spec := "topRepair", inPlace := ["slices.overlaps[[]byte]"], unfollowed := true, recurses := true, apart := false }
def TopRepairSaid : Prop := topRepairRow.holds Tryz.pinned (OpenSpec.ofChange topRepairSpec)

/-- ITS FALSE NEIGHBOUR: 'it returns false'. Refute it at one input. -/
def topRepairWrong : ChangeSpec := { name := "topRepair", fn := fun _ => fun
  | [d1, d2] => { results := [.lit (.bool false)], args := [d1, d2] }
  | _ => none }
def TopRepairWrongFalsely : Prop := topRepairRow.holds Tryz.pinned (OpenSpec.ofChange topRepairWrong)

/-- 'girandoletop.TopLate': WHATEVER THE INPUT: true; the input reads as it did. -/
def topLateSpec : ChangeSpec := { name := "topLate", fn := fun _ => fun
  | [d1, d2] => { results := [.lit (.bool true)], args := [d1, d2] }
  | _ => none }
def topLateRow : OpenClaim := { program := "ytbilacojhmohmaagreat", sum := "15a62389d711b6cd10c1eccd9b1e11aa1bc55a4f13de685182530faa4716503d", func := "girandole/girandoletop.TopLate", spec := "topLate", inPlace := ["slices.overlaps[[]byte]"], unfollowed := true, recurses := true, apart := false }
def TopLateSaid : Prop := topLateRow.holds Tryz.pinned (OpenSpec.ofChange topLateSpec)

/-- ITS FALSE NEIGHBOUR: 'it returns false'. Refute it at one input. -/
def topLateWrong : ChangeSpec := { name := "topLate", fn := fun _ => fun
  | [d1, d2] => { results := [.lit (.bool false)], args := [d1, d2] }
  | _ => none }
def TopLateWrongFalsely : Prop := topLateRow.holds Tryz.pinned (OpenSpec.ofChange topLateWrong)

/-- 'girandoletop.TopOrder': WHATEVER THE INPUT: true; the input reads as it did. -/
def topOrderSpec : ChangeSpec := { name := "topOrder", fn := fun _ => fun
  | [d] => { results := [.lit (.bool true)], args := [d] }
  | _ => none }
def topOrderRow : OpenClaim := { program := "ytbilacojhmohmaagreat", sum := "15a62389d711b6cd10c1eccd9b1e11aa1bc55a4f13de685182530faa4716503d", func := "girandole/girandoletop.TopOrder", spec := "topOrder", inPlace := ["slices.overlaps[[]byte]"], unfollowed := true, recurses := true, apart := false }
def TopOrderSaid : Prop := topOrderRow.holds Tryz.pinned (OpenSpec.ofChange topOrderSpec)

/-- ITS FALSE NEIGHBOUR: 'it returns false'. Refute it at one input. -/
def topOrderWrong : ChangeSpec := { name := "topOrder", fn := fun _ => fun
  | [d] => { results := [.lit (.bool false)], args := [d] }
  | _ => none }
def TopOrderWrongFalsely : Prop := topOrderRow.holds Tryz.pinned (OpenSpec.ofChange topOrderWrong)

/-- 'girandoletop.TopGone': WHATEVER THE INPUT: true; the input reads as it did. -/
def topGoneSpec : ChangeSpec := { name := "topGone", fn := fun _ => fun
  | [d1, d2] => { results := [.lit (.bool true)], args := [d1, d2] }
  | _ => none }
def topGoneRow : OpenClaim := { program := "ytbilacojhmohmaagreat", sum := "15a62389d711b6cd10c1eccd9b1e11aa1bc55a4f13de685182530faa4716503d", func := "girandole/girandoletop.TopGone", spec := "topGone", inPlace := ["slices.overlaps[[]byte]"], unfollowed := true, recurses := true, apart := false }
def TopGoneSaid : Prop := topGoneRow.holds Tryz.pinned (OpenSpec.ofChange topGoneSpec)

/-- ITS FALSE NEIGHBOUR: 'it returns false'. Refute it at one input. -/
def topGoneWrong : ChangeSpec := { name := "topGone", fn := fun _ => fun
  | [d1, d2] => { results := [.lit (.bool false)], args := [d1, d2] }
  | _ => none }
def TopGoneWrongFalsely : Prop := topGoneRow.holds Tryz.pinned (OpenSpec.ofChange topGoneWrong)

/-- 'girandoletop.TopEnds': WHATEVER THE INPUT: true; the input reads as it did. -/
def topEndsSpec : ChangeSpec := { name := "topEnds", fn := fun _ => fun
  | [d1, d2] => { results := [.lit (.bool true)], args := [d1, d2] }
  | _ => none }
def topEndsRow : OpenClaim := { program := "ytbilacojhmohmaagreat", sum := "15a62389d711b6cd10c1eccd9b1e11aa1bc55a4f13de685182530faa4716503d", func := "girandole/girandoletop.TopEnds", spec := "topEnds", inPlace := ["slices.overlaps[[]byte]"], unfollowed := true, recurses := true, apart := false }
def TopEndsSaid : Prop := topEndsRow.holds Tryz.pinned (OpenSpec.ofChange topEndsSpec)

/-- ITS FALSE NEIGHBOUR: 'it returns false'. Refute it at one input. -/
def topEndsWrong : ChangeSpec := { name := "topEnds", fn := fun _ => fun
  | [d1, d2] => { results := [.lit (.bool false)], args := [d1, d2] }
  | _ => none }
def TopEndsWrongFalsely : Prop := topEndsRow.holds Tryz.pinned (OpenSpec.ofChange topEndsWrong)

/- THE SECOND FORM. 'bulk': how many values and letters a reading holds, each counted each time it is reached (what is shared counts as often as it is met; a slice's spare places count too). A statement '..UptoSaid' is the law's where the arguments, and the package variables that the reading takes, are together of bulk at most 1048576: NARROWER than '..Said'. Prove '..Said' where nothing that the law and all that it calls make is longer than what came in: it says more and counts as full. Else prove '..UptoSaid'. A law counts once. -/
mutual
def uptoBulk {H : Type} : DataW H → Nat
  | .lit (.string bytes) => bytes.length + 1
  | .lit _ => 1
  | .nil => 1
  | .ptr d => uptoBulk d + 1
  | .slice elems spare => uptoBulkAll elems + uptoBulkAll spare + 1
  | .agg parts => uptoBulkAll parts + 1
  | .iface _ d => uptoBulk d + 1
  | .map entries => uptoBulkEntries entries + 1
  | .held _ => 1
def uptoBulkAll {H : Type} : List (DataW H) → Nat
  | [] => 0
  | d :: r => uptoBulk d + uptoBulkAll r
def uptoBulkEntries {H : Type} : List (Lit × DataW H) → Nat
  | [] => 0
  | x :: r => uptoBulkEntry x + uptoBulkEntries r
def uptoBulkEntry {H : Type} : Lit × DataW H → Nat
  | (.string bytes, d) => bytes.length + uptoBulk d + 1
  | (_, d) => uptoBulk d + 1
 end
def uptoSmall : (H : Type) → List (DataW H) → Bool := fun _ ds => decide (uptoBulkAll ds ≤ 1048576)
def OpenSpec.upto (s : _root_.Go.ChangeSpec) : _root_.Go.OpenSpec := { _root_.Go.OpenSpec.ofChange s with cond := some uptoSmall }

/-- 'girandoletop.TopMost', WHERE WHAT IT READS IS OF BULK AT MOST 1048576: true; the input reads as it did. -/
def topMostUptoRow : OpenClaim := { program := "ytbilacojhmohmaagreat", sum := "15a62389d711b6cd10c1eccd9b1e11aa1bc55a4f13de685182530faa4716503d", func := "girandole/girandoletop.TopMost", spec := "topMost", inPlace := ["slices.overlaps[[]byte]"], unfollowed := true, recurses := true, apart := false, narrowed := true }
def TopMostUptoSaid : Prop := topMostUptoRow.holds Tryz.pinned (OpenSpec.upto topMostSpec)

/-- 'girandoletop.TopRepair', WHERE WHAT IT READS IS OF BULK AT MOST 1048576: true; the input reads as it did. -/
def topRepairUptoRow : OpenClaim := { program := "ytbilacojhmohmaagreat", sum := "15a62389d711b6cd10c1eccd9b1e11aa1bc55a4f13de685182530faa4716503d", func := "girandole/girandoletop.TopRepair", spec := "topRepair", inPlace := ["slices.overlaps[[]byte]"], unfollowed := true, recurses := true, apart := false, narrowed := true }
def TopRepairUptoSaid : Prop := topRepairUptoRow.holds Tryz.pinned (OpenSpec.upto topRepairSpec)

/-- 'girandoletop.TopLate', WHERE WHAT IT READS IS OF BULK AT MOST 1048576: true; the input reads as it did. -/
def topLateUptoRow : OpenClaim := { program := "ytbilacojhmohmaagreat", sum := "15a62389d711b6cd10c1eccd9b1e11aa1bc55a4f13de685182530faa4716503d", func := "girandole/girandoletop.TopLate", spec := "topLate", inPlace := ["slices.overlaps[[]byte]"], unfollowed := true, recurses := true, apart := false, narrowed := true }
def TopLateUptoSaid : Prop := topLateUptoRow.holds Tryz.pinned (OpenSpec.upto topLateSpec)

/-- 'girandoletop.TopOrder', WHERE WHAT IT READS IS OF BULK AT MOST 1048576: true; the input reads as it did. -/
def topOrderUptoRow : OpenClaim := { program := "ytbilacojhmohmaagreat", sum := "15a62389d711b6cd10c1eccd9b1e11aa1bc55a4f13de685182530faa4716503d", func := "girandole/girandoletop.TopOrder", spec := "topOrder", inPlace := ["slices.overlaps[[]byte]"], unfollowed := true, recurses := true, apart := false, narrowed := true }
def TopOrderUptoSaid : Prop := topOrderUptoRow.holds Tryz.pinned (OpenSpec.upto topOrderSpec)

/-- 'girandoletop.TopGone', WHERE WHAT IT READS IS OF BULK AT MOST 1048576: true; the input reads as it did. -/
def topGoneUptoRow : OpenClaim := { program := "ytbilacojhmohmaagreat", sum := "15a62389d711b6cd10c1eccd9b1e11aa1bc55a4f13de685182530faa4716503d", func := "girandole/girandoletop.TopGone", spec := "topGone", inPlace := ["slices.overlaps[[]byte]"], unfollowed := true, recurses := true, apart := false, narrowed := true }
def TopGoneUptoSaid : Prop := topGoneUptoRow.holds Tryz.pinned (OpenSpec.upto topGoneSpec)

/-- 'girandoletop.TopEnds', WHERE WHAT IT READS IS OF BULK AT MOST 1048576: true; the input reads as it did. -/
def topEndsUptoRow : OpenClaim := { program := "ytbilacojhmohmaagreat", sum := "15a62389d711b6cd10c1eccd9b1e11aa1bc55a4f13de685182530faa4716503d", func := "girandole/girandoletop.TopEnds", spec := "topEnds", inPlace := ["slices.overlaps[[]byte]"], unfollowed := true, recurses := true, apart := false, narrowed := true }
def TopEndsUptoSaid : Prop := topEndsUptoRow.holds Tryz.pinned (OpenSpec.upto topEndsSpec)

end Rows
end Go.Proofs.YtbilacojhmohmaaGreat
