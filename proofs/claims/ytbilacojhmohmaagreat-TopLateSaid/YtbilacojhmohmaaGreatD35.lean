/- A tick, what was shown before left open. No condition. -/
import Derived.Test.YtbilacojhmohmaaGreatD27
set_option linter.unusedVariables false
set_option linter.unusedSimpArgs false
noncomputable section
namespace Go.Proofs.YtbilacojhmohmaaGreat.Ae
open Go
def opU : List Nat := [1, 2, 28, 29, 30, 35, 36, 37, 38, 39, 40, 41, 42, 43, 44, 45, 31, 32]
def seeU (ids : List Nat) (r : Option ARes) : Option (AV × List (Option AO) × List (Option AO) × Nat) := match r with
 | some (.ret v aw) => some (v, ids.map (awGet aw), opU.map (awGet aw), aw.nx)
 | _ => none
def tickU (len : Nat) (ids : List Nat) (m : List AO) : Option (AV × List (Option AO) × List (Option AO) × Nat) := seeU ids (cLat len 11 [vP 0, stepV 2 0] (ofObjs m (nat_lit 46)))
def wantU (v : AV) (ids : List Nat) (B : List AO) (nx : Nat) : Option (AV × List (Option AO) × List (Option AO) × Nat) := some (v, ids.map (fun j => B[j]?), opU.map (fun j => B[j]?), nx)
end Go.Proofs.YtbilacojhmohmaaGreat.Ae
end
