/- Regions that draw their order, ahead of the run. No condition. -/
import Derived.Test.YtbilacojhmohmaaGreatAeUse
namespace Go.Proofs.YtbilacojhmohmaaGreat.Ae
open Go
set_option linter.unusedVariables false
set_option linter.unusedSimpArgs false

def memN (n : Nat) : List Nat → Bool
  | [] => false
  | m :: l => Nat.beq n m || memN n l
def CR.dst : CR → Option Nat
  | .op d _ _ | .call d _ _ _ | .callv d _ _ _ => d
  | _ => none
def guse : Option (Nat × Bool) → List Nat
  | none => []
  | some (t, _) => [t]
def CR.uses : CR → List Nat
  | .op _ g c => guse g ++ c.uses
  | .call _ g _ as => guse g ++ usesL as
  | .callv _ g f as => guse g ++ (f.uses ++ usesL as)
  | _ => []
def CR.kind : CR → Nat
  | .op _ _ c => c.kind
  | .call .. | .callv .. => 2
  | _ => 3
/-- a new block without more: it may come later than it comes up -/
def CR.late : CR → Bool
  | .op (some _) none (.alloc _ _) | .op (some _) none .mkmap => true
  | _ => false
/-- does operation i wait for operation j, itself? -/
def adjB (ops : Array Oper) (i j : Nat) : Bool :=
  match ops[i]? with
  | some o => o.after.toList.any fun e => Region.binds .any e && Nat.beq e.on j
  | none => false
/-- whom each waits for, by bits -/
def orEdges (m : List Nat) : List Edge → Nat
  | [] => 0
  | e :: l => bif Region.binds .any e then Nat.lor (Nat.lor (2 ^ e.on) (m.getD e.on 0)) (orEdges m l) else orEdges m l
def masks (ops : Array Oper) : Nat → List Nat
  | 0 => []
  | n + 1 => masks ops n ++ [match ops[n]? with
    | some o => orEdges (masks ops n) o.after.toList
    | none => 0]
def bb (M : List Nat) (i j : Nat) : Bool := Nat.testBit (M.getD i 0) j
def okPair (M : List Nat) (i : Nat) (it : CR) (j : Nat) (jt : CR) : Bool :=
  !Nat.beq i j &&
  ((match jt.dst with | some d => !memN d it.uses || bb M i j | none => true) &&
   (match it.dst with | some d => !memN d jt.uses && (match jt.dst with | some d' => !Nat.beq d d' | none => true) | none => true))
def okNew (M : List Nat) (i : Nat) (it : CR) : List (Nat × CR) → Bool
  | [] => true
  | (j, jt) :: l => okPair M i it j jt && okNew M i it l
def okSelf (it : CR) : Bool := match it.dst with | some d => !memN d it.uses | none => Nat.beq it.kind 0 || Nat.beq it.kind 2
/-- it waits for all effects so far -/
def afterEff (M : List Nat) (i : Nat) : List (Nat × CR) → Bool
  | [] => true
  | (j, jt) :: l => (!Nat.beq jt.kind 2 || bb M i j) && afterEff M i l
/-- does it use what the late one yields? -/
def usesLate (lt : Option Nat) (it : CR) : List (Nat × CR) → Bool
  | [] => false
  | (j, jt) :: l => (match lt, jt.dst with | some n, some d => Nat.beq n j && memN d it.uses | _, _ => false) || usesLate lt it l
def isLate (lt : Option Nat) (i : Nat) : Bool := match lt with | some n => Nat.beq n i | none => false
def okStage (M : List Nat) (lt : Option Nat) (i : Nat) (it : CR) (done : List (Nat × CR)) : Bool :=
  bif isLate lt i then it.late && okSelf it else (bif Nat.beq it.kind 0 && !usesLate lt it done then true else afterEff M i done)
def chks (M : List Nat) (e : Nat) : List (Nat × CR) → List CR
  | [] => []
  | (j, jt) :: l => match jt with
    | .op (some d) g c => bif Nat.beq c.kind 1 && !bb M e j then .chk d g c :: chks M e l else chks M e l
    | _ => chks M e l
def cDrawA (P : Program) (ops : Array Oper) (M : List Nat) (lt : Option Nat) : List Nat → List (Nat × CR) → Option (List CR × List (Nat × CR))
  | [], done => some ([], done)
  | i :: l, done => match ops[i]? with
    | some o => match cItem P ops o with
      | some it => bif Nat.ble it.kind 2 && (okNew M i it done && (okSelf it && okStage M lt i it done)) then (match cDrawA P ops M lt l ((i, it) :: done) with
        | some (r, dn) => some (it :: ((bif Nat.beq it.kind 2 then chks M i done else []) ++ r), dn)
        | none => none) else none
      | none => none
    | none => none

/-- from here on each waits for all before it -/
def allAdj (ops : Array Oper) (i : Nat) : Nat → Bool
  | 0 => true
  | j + 1 => adjB ops i j && allAdj ops i j
def tailFrom (ops : Array Oper) : Nat → Nat
  | 0 => 0
  | n + 1 => bif allAdj ops n n then tailFrom ops n else n + 1
def itemAt (P : Program) (ops : Array Oper) (i : Nat) : Option CR :=
  match ops[i]? with
  | some o => cItem P ops o
  | none => none
/-- an order: what is no effect first, the late one last -/
def greedy (P : Program) (ops : Array Oper) (lt : Option Nat) (s : Nat) : Nat → List Nat → List Nat
  | 0, _ => []
  | fuel + 1, done =>
    let ready := (List.range s).filter fun i => !memN i done && (List.range ops.size).all fun j => !adjB ops i j || memN j done
    match ready.find? (fun i => match itemAt P ops i with | some it => !Nat.beq it.kind 2 | none => false) with
    | some i => i :: greedy P ops lt s fuel (i :: done)
    | none => match ready.find? (fun i => !isLate lt i) with
      | some i => i :: greedy P ops lt s fuel (i :: done)
      | none => match ready with
        | i :: _ => i :: greedy P ops lt s fuel (i :: done)
        | [] => []
def allIn (s : Nat) (dn : List (Nat × CR)) : Bool := (List.range s).all fun i => dn.any fun p => Nat.beq p.1 i
def allLt (s : Nat) (dn : List (Nat × CR)) : Bool := dn.all fun p => Nat.blt p.1 s
def seqOK (ops : Array Oper) (s : Nat) : Bool := (List.range' s (ops.size - s)).all fun i => allAdj ops i i
def lateOp : Op → Bool
  | .alloc _ | .makeMap _ none => true
  | _ => false
def okLate (ops : Array Oper) : Option Nat → Bool
  | none => true
  | some i => match ops[i]? with
    | some o => lateOp o.op && (o.guard.isNone && o.dst.isSome)
    | none => false
def edgesOK (ops : Array Oper) : Nat → Bool
  | 0 => true
  | n + 1 => (match ops[n]? with
    | some o => o.after.toList.all fun e => !Region.binds .any e || Nat.blt e.on n
    | none => true) && edgesOK ops n
def cDrawAt (P : Program) (ops : Array Oper) (s : Nat) (lt : Option Nat) (ord : List Nat) : Option (List CR × List CR) :=
  match cDrawA P ops (masks ops ops.size) lt ord [] with
  | some (r, dn) => bif Nat.ble s ops.size && (allIn s dn && (allLt s dn && (seqOK ops s && (okLate ops lt && edgesOK ops ops.size)))) then (match cItems P ops (List.range' s (ops.size - s)) with
    | some b => some (r, b)
    | none => none) else none
  | none => none
def tryLate (P : Program) (ops : Array Oper) (s : Nat) : List Nat → Option (List CR × List CR)
  | [] => none
  | i :: l => match itemAt P ops i with
    | some it => bif it.late then (match cDrawAt P ops s (some i) (greedy P ops (some i) s s []) with
      | some r => some r
      | none => tryLate P ops s l) else tryLate P ops s l
    | none => none
def cDraw (P : Program) (ops : Array Oper) : Option (List CR × List CR) :=
  let s := tailFrom ops ops.size
  match cDrawAt P ops s none (greedy P ops none s s []) with
  | some r => some r
  | none => tryLate P ops s (List.range s)
end Go.Proofs.YtbilacojhmohmaaGreat.Ae
