/- The model's operations as those of the evaluator: what is known ahead of the run is reckoned once. No condition. -/
import Derived.Test.YtbilacojhmohmaaGreatAeOps
namespace Go.Proofs.YtbilacojhmohmaaGreat.Ae
open Go
set_option linter.unusedVariables false

def cScal : Value → Option AV
  | .bool b => some (.bool b)
  | .int k n => some (.int k n)
  | .string s => some (.str (s.data.toList.map fun b => .int .u8 (b.toNat : Int)))
  | .pointer none => some (.ptr none)
  | .slice none 0 0 => some (.slc none 0 (.known 0))
  | .map none => some (.map none)
  | .nilFunc => some .nilFunc
  | .nilIface => some .nilIface
  | .func (.func f) a b => bif a.isEmpty && b.isEmpty then some (.func (.func f) [] []) else none
  | _ => none
def cList : List Value → Option (List AV)
  | [] => some []
  | v :: l => match cScal v with
    | some a => match cList l with
      | some m => some (a :: m)
      | none => none
    | none => none
def cVal : Value → Option AV
  | .agg cs => match cList cs.toList with
    | some l => some (.agg l)
    | none => none
  | .iface t v => match cScal v with
    | some a => some (.iface t a)
    | none => none
  | v => cScal v
def cOpd : Operand → Option Opd
  | .tmp t => some (.t t)
  | .const v => match cVal v with
    | some a => some (.c a)
    | none => none
  | .func f => some (.c (.func (.func f) [] []))
  | .global _ => none
def cOpds : List Operand → Option (List Opd)
  | [] => some []
  | x :: l => match cOpd x with
    | some a => match cOpds l with
      | some m => some (a :: m)
      | none => none
    | none => none
def cOpt : Option Operand → Option (Option Opd)
  | none => some none
  | some x => match cOpd x with
    | some o => some (some o)
    | none => none

/-- how many cells: none: one, and no struct or array -/
def aggP (P : Program) (t : TypeId) : Option (Option Nat) :=
  match P.underlying t with
  | some (.struct _) | some (.array _ _) => match P.info? t with
    | some i => some (some i.size)
    | none => none
  | some _ => some none
  | none => none
def zeroP (P : Program) (t : TypeId) : Option (Value × AV) :=
  match P.info? t with
  | some i => match i.zero with
    | some v => match cVal v with
      | some a => some (v, a)
      | none => none
    | none => none
  | none => none
/-- the parts of a struct or an array: where, how many cells, what -/
def cParts (place : Nat → Option (Nat × Nat)) : List (Nat × Operand) → Option (List (Nat × Nat × Opd))
  | [] => some []
  | (i, x) :: l => match place i with
    | some (o, n) => match cOpd x with
      | some a => match cParts place l with
        | some m => some ((o, n, a) :: m)
        | none => none
      | none => none
    | none => none
def fieldsP (P : Program) : List Field → Option (List (Nat × Nat))
  | [] => some []
  | f :: l => match P.info? f.type with
    | some i => match fieldsP P l with
      | some m => some ((f.offset, i.size) :: m)
      | none => none
    | none => none
/-- values of this type, held against this nil -/
def nilKind : TypeDesc → Operand → Option Nat
  | .pointer _, .const (.pointer none) => some 0
  | .slice _, .const (.slice none 0 0) => some 1
  | .map _ _, .const (.map none) => some 2
  | .func _ _ _, .const .nilFunc => some 3
  | .interface _, .const .nilIface => some 4
  | _, _ => none

def sliceOf (P : Program) (t : TypeId) : Option (TypeId × TypeInfo) :=
  match P.underlying t with
  | some (.slice e) => match P.info? e with
    | some i => some (e, i)
    | none => none
  | _ => none

def c1 (f : Opd → COp) (x : Operand) : Option COp := match cOpd x with
  | some a => some (f a)
  | none => none
def c2 (f : Opd → Opd → COp) (x y : Operand) : Option COp := match cOpd x with
  | some a => match cOpd y with
    | some b => some (f a b)
    | none => none
  | none => none

def cBuiltin (P : Program) (b : Builtin) (ts : Array TypeId) (args : List Operand) : Option COp :=
  match b, args with
  | .len, [x] => match ts[0]? with
    | some t => match P.underlying t with
      | some (.slice _) => c1 .lenS x
      | some (.map _ _) => c1 .lenM x
      | _ => none
    | none => none
  | .cap, [x] => match ts[0]? with
    | some t => match P.underlying t with
      | some (.slice _) => c1 .capS x
      | _ => none
    | none => none
  | .append, [x, y] => match ts[0]? with
    | some t => match sliceOf P t with
      | some (e, i) => match ts[1]? with
        | some u => match P.underlying u with
          | some (.slice _) => match zeroP P e with
            | some (z, _) => bif Nat.beq z.cells.size i.size then c2 (.append e i.size i.bytes) x y else none
            | none => none
          | some (.int _) => match zeroP P e with
            | some (z, az) => match az.cells with
              | some l => bif Nat.beq l.length i.size && allOne l then c2 (.appendZ e l i.bytes) x y else none
              | none => none
            | none => none
          | _ => none
        | none => none
      | none => none
    | none => none
  | .copy, [x, y] => match ts[0]? with
    | some t => match sliceOf P t with
      | some (e, i) => c2 (.copy i.size) x y
      | none => none
    | none => none
  | .clear, [x] => match ts[0]? with
    | some t => match sliceOf P t with
      | some (e, i) => match zeroP P e with
        | some (z, az) => match az.cells with
          | some l => c1 (.clear l) x
          | none => none
        | none => none
      | none => none
    | none => none
  | .delete, [x, y] => match ts[0]? with
    | some t => match P.underlying t with
      | some (.map k _) => match P.underlying k with
        | some (.int _) => c2 .del x y
        | _ => none
      | _ => none
    | none => none
  | .min, [x, y] => c2 .mn x y
  | .max, [x, y] => c2 .mx x y
  | _, _ => none

def cOp (P : Program) (o : Oper) : Option COp :=
  match o.op with
  | .move x | .assign x => c1 .mv x
  | .pick c a b => match cOpd c with
    | some c => c2 (.pick c) a b
    | none => none
  | .alloc e => match zeroP P e with
    | some (_, a) => match a.cells with
      | some l => some (.alloc l e)
      | none => none
    | none => none
  | .box e x => c1 (.box e) x
  | .build t ps => match zeroP P t with
    | some (_, z) => match z.cells with
      | some l => match P.underlying t with
        | some (.struct fs) => match fieldsP P fs.toList with
          | some pl => match cParts (pl[·]?) ps.toList with
            | some qs => some (.build l qs)
            | none => none
          | none => none
        | _ => none
      | none => none
    | none => none
  | .buildSlice t len ps => match sliceOf P t with
    | some (e, i) => match zeroP P e with
      | some (z, az) => match az.cells with
        | some l => bif Nat.beq l.length i.size && Nat.ble (len * i.size) 16777216 then (match cParts (fun j => some (j * i.size, i.size)) ps.toList with
          | some qs => some (.mkslc e len (repCells l len) qs)
          | none => none) else none
        | none => none
      | none => none
    | none => none
  | .load t x => match aggP P t with
    | some n => c1 (.load n) x
    | none => none
  | .store t x y => match P.info? t with
    | some i => c2 (.store i.size) x y
    | none => none
  | .nilCheck x => c1 .nilck x
  | .binOp op t x y _ => match P.underlying t with
    | some (.int _) => match op with
      | .shl | .shr => c2 (.bin op true) x y
      | _ => c2 (.bin op false) x y
    | some .bool => match op with
      | .eql => c2 (.beq false) x y
      | .neq => c2 (.beq true) x y
      | _ => none
    | some .string => match op with
      | .eql => c2 (.seq false) x y
      | .neq => c2 (.seq true) x y
      | _ => none
    | some d => match nilKind d y with
      | some kd => match op with
        | .eql => c1 (.nileq kd false) x
        | .neq => c1 (.nileq kd true) x
        | _ => none
      | none => none
    | none => none
  | .unOp op _ x => match op with
    | .not => c1 .bnot x
    | .neg => c1 .neg x
    | _ => none
  | .convert s d x => match P.underlying s, P.underlying d with
    | some (.int _), some (.int k) => c1 (.conv k) x
    | some (.slice e), some .string => match P.underlying e with
      | some (.int .u8) => c1 .b2s x
      | _ => none
    | some (.slice e), some (.slice e') => match P.underlying e' with
      | some (.int .u8) => bif Nat.beq s d then c1 .s2s x else none
      | _ => none
    | _, _ => none
  | .makeInterface t x => match P.underlying t with
    | some (.interface _) => none
    | some _ => c1 (.iface t) x
    | none => none
  | .makeFunc (.func f) a b => match cOpds a.toList with
    | some l => match cOpds b.toList with
      | some m => some (.func f l m)
      | none => none
    | none => none
  | .makeMap _ none => some .mkmap
  | .makeSlice t l c => match sliceOf P t with
    | some (e, i) => match zeroP P e with
      | some (z, az) => match az.cells with
        | some cs => bif Nat.beq cs.length i.size then c2 (.mkslice e cs i.bytes) l c else none
        | none => none
      | none => none
    | none => none
  | .slice t x lo hi mx => match sliceOf P t with
    | some (e, i) => match cOpd x with
      | some x => match cOpt lo with
        | some lo => match cOpt hi with
          | some hi => match cOpt mx with
            | some mx => bif mx.isNone || hi.isSome then some (.slice i.size x lo hi mx) else none
            | none => none
          | none => none
        | none => none
      | none => none
    | none => none
  | .fieldAddr t x f => match P.underlying t with
    | some (.struct fs) => match fs[f]? with
      | some f => match P.info? f.type with
        | some i => bif Nat.beq i.size 0 then none else c1 (.off f.offset) x
        | none => none
      | none => none
    | _ => none
  | .field t x f => match P.underlying t with
    | some (.struct fs) => match fs[f]? with
      | some f => match aggP P f.type with
        | some n => c1 (.part n f.offset) x
        | none => none
      | none => none
    | _ => none
  | .indexAddr t x i => match P.underlying t with
    | some (.slice e) => match P.info? e with
      | some j => c2 (.idxS j.size) x i
      | none => none
    | some (.array n e) => match P.info? e with
      | some j => bif Nat.blt 1 n then c2 (.idxA n j.size) x i else none
      | none => none
    | _ => none
  | .index t x i => match P.underlying t with
    | some .string => c2 .idxT x i
    | _ => none
  | .lookup t m k ok => match P.underlying t with
    | some (.map kt e) => match P.underlying kt with
      | some (.int _) => match zeroP P e with
        | some (_, z) => c2 (.look z ok) m k
        | none => none
      | _ => none
    | _ => none
  | .mapUpdate t m k v | .insert t m k v => match P.underlying t with
    | some (.map kt _) => match P.underlying kt with
      | some (.int _) => match cOpd m with
        | some m => c2 (.mapset m) k v
        | none => none
      | _ => none
    | _ => none
  | .range t m => match P.underlying t with
    | some (.map _ _) => c1 .range m
    | _ => none
  | .next it false => c1 .next it
  | .entry it => c1 .entry it
  | .typeAssert x _ t true => match P.underlying t with
    | some (.interface _) => none
    | some _ => match zeroP P t with
      | some (_, z) => match cOpd x with
        | some x => some (.assert t x z)
        | none => none
      | none => none
    | none => none
  | .extract x i => c1 (.ext i) x
  | .call { callee := .builtin b, args, argTypes } => cBuiltin P b argTypes args.toList
  | _ => none
end Go.Proofs.YtbilacojhmohmaaGreat.Ae
