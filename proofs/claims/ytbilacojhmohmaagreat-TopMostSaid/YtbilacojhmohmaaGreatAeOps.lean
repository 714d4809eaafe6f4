/- The operations, as they are reckoned over abstract memory. No condition. -/
import Derived.Test.YtbilacojhmohmaaGreatAeNum
namespace Go.Proofs.YtbilacojhmohmaaGreat.Ae
open Go
set_option linter.unusedVariables false

inductive Opd where
  | t (n : Nat)
  | c (v : AV)

inductive COp where
  | mv (x : Opd)
  | pick (c a b : Opd)
  | alloc (cs : List AV) (e : TypeId)
  | box (e : TypeId) (x : Opd)
  | build (z : List AV) (ps : List (Nat × Nat × Opd))
  | mkslc (e : TypeId) (len : Nat) (z : List AV) (ps : List (Nat × Nat × Opd))
  | load (n : Option Nat) (x : Opd)
  | store (n : Nat) (x y : Opd)
  | nilck (x : Opd)
  | bin (op : BinOp) (sh : Bool) (x y : Opd)
  | nileq (kd : Nat) (neg : Bool) (x : Opd)
  | beq (neg : Bool) (x y : Opd)
  | seq (neg : Bool) (x y : Opd)
  | bnot (x : Opd)
  | neg (x : Opd)
  | conv (k : IntKind) (x : Opd)
  | b2s (x : Opd)
  | iface (t : TypeId) (x : Opd)
  | func (f : FuncId) (fs cs : List Opd)
  | mkmap
  | mkslice (e : TypeId) (z : List AV) (bytes : Nat) (l c : Opd)
  | slice (sz : Nat) (x : Opd) (lo hi mx : Option Opd)
  | off (n : Nat) (x : Opd)
  | part (n : Option Nat) (o : Nat) (x : Opd)
  | idxS (sz : Nat) (x i : Opd)
  | idxA (n sz : Nat) (x i : Opd)
  | idxT (x i : Opd)
  | s2s (x : Opd)
  | look (z : AV) (ok : Bool) (m k : Opd)
  | mapset (m k v : Opd)
  | del (m k : Opd)
  | range (m : Opd)
  | next (it : Opd)
  | entry (it : Opd)
  | assert (t : TypeId) (x : Opd) (z : AV)
  | ext (i : Nat) (x : Opd)
  | lenS (x : Opd)
  | lenM (x : Opd)
  | capS (x : Opd)
  | append (e : TypeId) (sz bytes : Nat) (x y : Opd)
  | appendZ (e : TypeId) (z : List AV) (bytes : Nat) (x y : Opd)
  | copy (sz : Nat) (x y : Opd)
  | clear (z : List AV) (x : Opd)
  | mn (x y : Opd)
  | mx (x y : Opd)

def Opd.ev (a : Tr AV) : Opd → Option AV
  | .t n => a.get n n
  | .c v => some v
def evs (a : Tr AV) : List Opd → Option (List AV)
  | [] => some []
  | x :: l => match x.ev a with
    | some v => match evs a l with
      | some vs => some (v :: vs)
      | none => none
    | none => none

/-- parts into cells -/
def xfill (a : Tr AV) : List AV → List (Nat × Nat × Opd) → Option (List AV)
  | l, [] => some l
  | l, (o, n, x) :: ps => match x.ev a with
    | some v => match v.cells with
      | some cs => bif Nat.beq cs.length n then (bif Nat.ble (o + n) l.length then xfill a (splice l o cs) ps else none) else none
      | none => none
    | none => none

def xload (aw : AW) (n : Option Nat) : AV → Option AV
  | .ptr (some (id, o)) => match aw.get id with
    | some (.cells l _ _) => match n with
      | none => l[o]?
      | some n => bif Nat.beq ((l.drop o).take n).length n then some (.agg ((l.drop o).take n)) else none
    | _ => none
  | _ => none
def xstore (aw : AW) (n : Nat) (x v : AV) : Option (AV × AW) :=
  match x with
  | .ptr (some (id, o)) => match v.cells with
    | some cs => match aw.get id with
      | some (.cells l e opn) => bif Nat.beq cs.length n && (Nat.ble (o + n) l.length && allOne cs) then some (.tuple [], aw.set id (.cells (splice l o cs) e opn)) else none
      | _ => none
    | none => none
  | _ => none
def isNil : Nat → AV → Option Bool
  | 0, .ptr a => some a.isNone
  | 1, .slc a _ _ => some a.isNone
  | 2, .map a => some a.isNone
  | 3, .func .. => some false
  | 3, .nilFunc => some true
  | 4, .iface .. => some false
  | 4, .nilIface => some true
  | _, _ => none
def xbool : AV → Option Bool
  | .bool b => some b
  | _ => none
/-- a whole number from 0 up -/
def xnat : AV → Option Nat
  | .int _ (.ofNat n) => some n
  | _ => none
def sameBytes : List AV → List AV → Option Bool
  | [], [] => some true
  | [], _ :: _ => some false
  | _ :: _, [] => some false
  | .int _ a :: l, .int _ b :: m => match sameBytes l m with
    | some r => some (ieq a b && r)
    | none => bif ieq a b then none else some false
  | .sym _ i :: l, .sym _ j :: m => bif Nat.beq i j then sameBytes l m else none
  | _ :: _, _ :: _ => none
/-- the cells of a slice's first n elements -/
def xcells (aw : AW) (sz n : Nat) : AV → Option (List AV)
  | .slc none _ _ => bif Nat.beq n 0 then some [] else none
  | .slc (some (id, o)) len cap => bif Nat.beq n 0 then some [] else bif Nat.ble n len then (match aw.get id with
    | some (.cells l _ _) => bif Nat.beq ((l.drop o).take (n * sz)).length (n * sz) then some ((l.drop o).take (n * sz)) else none
    | _ => none) else none
  | _ => none
/-- bytes, all of them -/
def allU8 : List AV → Bool
  | [] => true
  | .int k (.ofNat n) :: l => Nat.beq (kc k) 4 && (Nat.ble n 255 && allU8 l)
  | .sym k _ :: l => Nat.beq (kc k) 4 && allU8 l
  | _ :: _ => false
def xlen : AV → Option Nat
  | .slc _ n _ => some n
  | _ => none
def zeroOpt : Option Nat → Bool
  | some n => Nat.beq n 0
  | none => true
def xslice (sz : Nat) (x : AV) (l : Nat) (h m : Option Nat) : Option AV :=
  match x with
  | .slc none _ _ => bif Nat.beq l 0 && zeroOpt h && zeroOpt m then some (.slc none 0 (.known 0)) else none
  | .slc (some (id, o)) len (.known c) =>
    let m := m.getD c
    let h := h.getD len
    bif Nat.ble l h && (Nat.ble h m && Nat.ble m c) then some (.slc (some (id, bif Nat.beq m l then o else o + l * sz)) (h - l) (.known (m - l))) else none
  | .slc (some (id, o)) len (.upto sz' lo) =>
    match m with
    | none =>
      let h := h.getD len
      bif Nat.ble l h && (Nat.ble h lo && Nat.beq sz sz') then some (.slc (some (id, o + l * sz)) (h - l) (.upto sz (lo - l))) else none
    | some m =>
      let h := h.getD len
      bif Nat.ble l h && (Nat.ble h m && Nat.ble m lo) then some (.slc (some (id, bif Nat.beq m l then o else o + l * sz)) (h - l) (.known (m - l))) else none
  | _ => none
def xfind (k : IntKind) (n : Int) : List AEnt → Nat → Option (Option (Nat × AV))
  | [], _ => some none
  | e :: es, i => match e.key with
    | .int k' m => bif Nat.beq (kc k) (kc k') then (bif ieq n m then some (some (i, e.val)) else xfind k n es (i + 1)) else none
    | _ => none
def entPut (key v : AV) : List AEnt → Nat → List AEnt
  | [], _ => []
  | e :: es, 0 => { e with key, val := v } :: es
  | e :: es, i + 1 => e :: entPut key v es i
def entDel : List AEnt → Nat → List AEnt
  | [], _ => []
  | _ :: es, 0 => es
  | e :: es, i + 1 => e :: entDel es i
def xmap (aw : AW) : AV → Option (Nat × List AEnt × Nat)
  | .map (some id) => match aw.get id with
    | some (.map es clock) => some (id, es, clock)
    | _ => none
  | _ => none
/-- what may be appended to: bytes enough -/
def small (need bytes : Nat) : Bool := Nat.ble need 140737488355328 && Nat.ble (need * bytes) 140737488355328
def xappend (aw : AW) (e : TypeId) (sz bytes : Nat) (s : AV) (n : Nat) (new : List AV) : Option (AV × AW) :=
  match s with
  | .slc none _ _ => bif Nat.beq n 0 then some (.slc none 0 (.known 0), aw) else bif small n bytes then some (.slc (some (aw.nx, 0)) n (.upto sz n), aw.add (.cells new e true)) else none
  | .slc (some (id, o)) len (.known c) =>
    bif Nat.ble (len + n) c then (bif Nat.beq n 0 then some (s, aw) else (match aw.get id with
      | some (.cells l e' opn) => bif Nat.ble (o + (len + n) * sz) l.length && allOne new then some (.slc (some (id, o)) (len + n) (.known c), aw.set id (.cells (splice l (o + len * sz) new) e' opn)) else none
      | _ => none))
    else bif small (len + n) bytes then (match xcells aw sz len s with
      | some old => some (.slc (some (aw.nx, 0)) (len + n) (.upto sz (len + n)), aw.add (.cells (old ++ new) e true))
      | none => none) else none
  | .slc (some (id, o)) len (.upto sz' lo) =>
    bif Nat.beq sz sz' then (bif Nat.ble (len + n) lo then (bif Nat.beq n 0 then some (s, aw) else (match aw.get id with
      | some (.cells l e' opn) => bif Nat.ble (o + (len + n) * sz) l.length && allOne new then some (.slc (some (id, o)) (len + n) (.upto sz lo), aw.set id (.cells (splice l (o + len * sz) new) e' opn)) else none
      | _ => none))
    else match aw.get id with
      | some (.cells l e' opn) => bif Nat.beq (o + len * sz) l.length && (Nat.beq e e' && (small (len + n) bytes && allOne new)) then
          some (.slc (some (aw.nx, 0)) (len + n) (.upto sz (len + n)), (aw.set id .dead).add (.cells (l.drop o ++ new) e true)) else none
      | _ => none) else none
  | _ => none
def repCells (z : List AV) : Nat → List AV
  | 0 => []
  | n + 1 => z ++ repCells z n

def xop (a : Tr AV) (aw : AW) : COp → Option (AV × AW)
  | .mv x => match x.ev a with
    | some v => some (v, aw)
    | none => none
  | .pick c x y => match c.ev a with
    | some (.bool b) => match (bif b then x.ev a else y.ev a) with
      | some v => some (v, aw)
      | none => none
    | _ => none
  | .alloc cs e => some (.ptr (some (aw.nx, 0)), aw.add (.cells cs e false))
  | .box e x => match x.ev a with
    | some v => match v.cells with
      | some cs => some (.ptr (some (aw.nx, 0)), aw.add (.cells cs e false))
      | none => none
    | none => none
  | .build z ps => match xfill a z ps with
    | some l => some (.agg l, aw)
    | none => none
  | .mkslc e len z ps => match xfill a z ps with
    | some l => some (.slc (some (aw.nx, 0)) len (.known len), aw.add (.cells l e false))
    | none => none
  | .load n x => match x.ev a with
    | some p => match xload aw n p with
      | some v => some (v, aw)
      | none => none
    | none => none
  | .store n x y => match x.ev a with
    | some p => match y.ev a with
      | some v => xstore aw n p v
      | none => none
    | none => none
  | .nilck x => match x.ev a with
    | some (.ptr (some p)) => some (.ptr (some p), aw)
    | _ => none
  | .bin op sh x y => match x.ev a with
    | some u => match y.ev a with
      | some v => match xbin op sh u v with
        | some r => some (r, aw)
        | none => none
      | none => none
    | none => none
  | .nileq kd neg x => match x.ev a with
    | some v => match isNil kd v with
      | some b => some (.bool (bif neg then !b else b), aw)
      | none => none
    | none => none
  | .beq neg x y => match x.ev a with
    | some (.bool u) => match y.ev a with
      | some (.bool v) => some (.bool (bif neg then !(u == v) else u == v), aw)
      | _ => none
    | _ => none
  | .seq neg x y => match x.ev a with
    | some (.str u) => match y.ev a with
      | some (.str v) => match sameBytes u v with
        | some b => some (.bool (bif neg then !b else b), aw)
        | none => none
      | _ => none
    | _ => none
  | .bnot x => match x.ev a with
    | some (.bool b) => some (.bool !b, aw)
    | _ => none
  | .neg x => match x.ev a with
    | some (.int k n) => some (.int k (wrapF k (0 - n)), aw)
    | _ => none
  | .conv k x => match x.ev a with
    | some (.int _ n) => some (.int k (wrapF k n), aw)
    | _ => none
  | .b2s x => match x.ev a with
    | some (.slc b len cap) => match xcells aw 1 len (.slc b len cap) with
      | some l => bif allU8 l then some (.str l, aw) else none
      | none => none
    | _ => none
  | .iface t x => match x.ev a with
    | some v => some (.iface t v, aw)
    | none => none
  | .func f fs cs => match evs a fs with
    | some l => match evs a cs with
      | some m => some (.func (.func f) l m, aw)
      | none => none
    | none => none
  | .mkmap => some (.map (some aw.nx), aw.add (.map [] 0))
  | .mkslice e z bytes l c => match l.ev a with
    | some l => match c.ev a with
      | some c => match xnat l with
        | some l => match xnat c with
          | some c => bif Nat.ble l c && Nat.ble (bytes * c) 140737488355328 && Nat.ble c 140737488355328 then some (.slc (some (aw.nx, 0)) l (.known c), aw.add (.cells (repCells z c) e false)) else none
          | none => none
        | none => none
      | none => none
    | none => none
  | .slice sz x lo hi mx => match x.ev a with
    | some s =>
      match (match lo with | none => some 0 | some o => match o.ev a with | some v => xnat v | none => none) with
      | some l => match (match hi with | none => some none | some o => match o.ev a with | some v => (xnat v).map some | none => none) with
        | some h => match (match mx with | none => some none | some o => match o.ev a with | some v => (xnat v).map some | none => none) with
          | some m => match xslice sz s l h m with
            | some r => some (r, aw)
            | none => none
          | none => none
        | none => none
      | none => none
    | none => none
  | .off n x => match x.ev a with
    | some (.ptr (some (id, o))) => some (.ptr (some (id, o + n)), aw)
    | _ => none
  | .part n o x => match x.ev a with
    | some (.agg l) => match n with
      | none => match l[o]? with
        | some v => some (v, aw)
        | none => none
      | some n => bif Nat.beq ((l.drop o).take n).length n then some (.agg ((l.drop o).take n), aw) else none
    | _ => none
  | .idxS sz x i => match x.ev a with
    | some (.slc (some (id, o)) len _) => match i.ev a with
      | some iv => match xnat iv with
        | some i => bif Nat.blt i len then some (.ptr (some (id, o + i * sz)), aw) else none
        | none => none
      | none => none
    | _ => none
  | .idxA n sz x i => match x.ev a with
    | some (.ptr (some (id, o))) => match i.ev a with
      | some iv => match xnat iv with
        | some i => bif Nat.blt i n then some (.ptr (some (id, o + i * sz)), aw) else none
        | none => none
      | none => none
    | _ => none
  | .idxT x i => match x.ev a with
    | some (.str l) => match i.ev a with
      | some iv => match xnat iv with
        | some i => match l[i]? with
          | some v => some (v, aw)
          | none => none
        | none => none
      | none => none
    | _ => none
  | .s2s x => match x.ev a with
    | some (.slc (some (id, o)) len cap) => match aw.get id with
      | some (.cells _ _ _) => bif Nat.blt 0 len then some (.slc (some (id, o)) len cap, aw) else none
      | _ => none
    | _ => none
  | .look z ok m k => match m.ev a with
    | some mv => match k.ev a with
      | some (.int kk n) => match (match mv with | .map none => some [] | .map (some id) => (match aw.get id with | some (.map es _) => some es | _ => none) | _ => none) with
        | some es => match xfind kk n es 0 with
          | some (some (_, v)) => some (bif ok then .tuple [v, .bool true] else v, aw)
          | some none => some (bif ok then .tuple [z, .bool false] else z, aw)
          | none => none
        | none => none
      | _ => none
    | none => none
  | .mapset m k v => match m.ev a with
    | some mv => match k.ev a with
      | some (.int kk n) => match v.ev a with
        | some x => match xmap aw mv with
          | some (id, es, clock) => match xfind kk n es 0 with
            | some (some (i, _)) => some (.tuple [], aw.set id (.map (entPut (.int kk n) x es i) clock))
            | some none => some (.tuple [], aw.set id (.map (es ++ [⟨.int kk n, x, clock⟩]) (clock + 1)))
            | none => none
          | none => none
        | none => none
      | _ => none
    | none => none
  | .del m k => match m.ev a with
    | some mv => match k.ev a with
      | some (.int kk n) => match xmap aw mv with
        | some (id, es, clock) => match xfind kk n es 0 with
          | some (some (i, _)) => some (.tuple [], aw.set id (.map (entDel es i) clock))
          | some none => some (.tuple [], aw.set id (.map es clock))
          | none => none
        | none => none
      | _ => none
    | none => none
  | .range m => match m.ev a with
    | some (.map none) => some (.ptr (some (aw.nx, 0)), aw.add (.iter none 0 [] 0))
    | some (.map (some id)) => match aw.get id with
      | some (.map es clock) => some (.ptr (some (aw.nx, 0)), aw.add (.iter (some id) clock [] clock))
      | _ => none
    | _ => none
  | .next it => match it.ev a with
    | some (.ptr (some (id, 0))) => match aw.get id with
      | some (.iter none _ _ _) => some (.tuple [.bool false], aw)
      | some (.iter (some m) since seen st) => match aw.get m with
        | some (.map [] clock) => some (.tuple [.bool false], aw)
        | some (.map [e] clock) => bif Nat.blt e.born since then (match seen with
          | [] => some (.tuple [.bool true, e.key, e.val], aw.set id (.iter (some m) since [e.born] clock))
          | [b] => bif Nat.beq b e.born && Nat.blt e.born st then some (.tuple [.bool false], aw) else none
          | _ => none) else none
        | _ => none
      | _ => none
    | _ => none
  | .entry it => match it.ev a with
    | some (.ptr (some (id, 0))) => match aw.get id with
      | some (.iter (some m) _ [b] st) => match aw.get m with
        | some (.map [e] clock) => bif Nat.beq clock st && Nat.beq b e.born then some (.tuple [e.key, e.val], aw) else none
        | _ => none
      | _ => none
    | _ => none
  | .assert t x z => match x.ev a with
    | some (.iface t' v) => bif Nat.beq t t' then some (.tuple [v, .bool true], aw) else some (.tuple [z, .bool false], aw)
    | _ => none
  | .ext i x => match x.ev a with
    | some (.tuple l) => match l[i]? with
      | some v => some (v, aw)
      | none => none
    | _ => none
  | .lenS x => match x.ev a with
    | some v => match xlen v with
      | some n => some (.int .i64 (.ofNat n), aw)
      | none => none
    | none => none
  | .lenM x => match x.ev a with
    | some (.map none) => some (.int .i64 (.ofNat 0), aw)
    | some (.map (some id)) => match aw.get id with
      | some (.map es _) => some (.int .i64 (.ofNat es.length), aw)
      | _ => none
    | _ => none
  | .capS x => match x.ev a with
    | some (.slc _ _ (.known c)) => some (.int .i64 (.ofNat c), aw)
    | _ => none
  | .append e sz bytes x y => match x.ev a with
    | some s => match y.ev a with
      | some v => match xlen v with
        | some n => match xcells aw sz n v with
          | some new => xappend aw e sz bytes s n new
          | none => none
        | none => none
      | none => none
    | none => none
  | .appendZ e z bytes x y => match x.ev a with
    | some s => match y.ev a with
      | some v => match xnat v with
        | some n => bif small n bytes then xappend aw e z.length bytes s n (repCells z n) else none
        | none => none
      | none => none
    | none => none
  | .copy sz x y => match x.ev a with
    | some (.slc b len cap) => match y.ev a with
      | some v => match xlen v with
        | some m => match xcells aw sz (Nat.min m len) v with
          | some cs => match b with
            | none => some (.int .i64 (.ofNat (Nat.min m len)), aw)
            | some (id, o) => bif Nat.beq (Nat.min m len) 0 then some (.int .i64 (.ofNat 0), aw) else (match aw.get id with
              | some (.cells l e opn) => bif Nat.ble (o + cs.length) l.length && allOne cs then some (.int .i64 (.ofNat (Nat.min m len)), aw.set id (.cells (splice l o cs) e opn)) else none
              | _ => none)
          | none => none
        | none => none
      | none => none
    | _ => none
  | .clear z x => match x.ev a with
    | some (.slc none _ _) => some (.tuple [], aw)
    | some (.slc (some (id, o)) len _) => bif Nat.beq len 0 then some (.tuple [], aw) else (match aw.get id with
      | some (.cells l e opn) => bif Nat.ble (o + (repCells z len).length) l.length && allOne z then some (.tuple [], aw.set id (.cells (splice l o (repCells z len)) e opn)) else none
      | _ => none)
    | _ => none
  | .mn x y => match x.ev a with
    | some (.int k u) => match y.ev a with
      | some (.int k' v) => some (.int k (bif ilt v u then v else u), aw)
      | _ => none
    | _ => none
  | .mx x y => match x.ev a with
    | some (.int k u) => match y.ev a with
      | some (.int k' v) => some (.int k (bif ilt u v then v else u), aw)
      | _ => none
    | _ => none
end Go.Proofs.YtbilacojhmohmaaGreat.Ae
