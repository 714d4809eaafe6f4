/- The evaluator as closures: a function's code is turned into small functions ahead of the run. No condition. -/
import Derived.Test.YtbilacojhmohmaaGreatD04
set_option linter.unusedVariables false
set_option linter.unusedSimpArgs false
noncomputable section
namespace Go.Proofs.YtbilacojhmohmaaGreat.Ae
open Go
abbrev K4 := Tr AV → Nat → List ADef → AW → Option Out
abbrev Ev := Tr AV → Option AV
abbrev Pv := Tr AV → AW → Option AV
def gT (n : Nat) : Ev := fun t => trGet t n
def gC (v : AV) : Ev := fun _ => some v
def ke (x : Opd) : Ev := Opd.rec (motive := fun _ => Ev) gT gC x
theorem ke_eq (x : Opd) (t : Tr AV) : ke x t = x.ev t := by
 cases x with
 | t n => exact trGet_eq t n
 | c v => rfl
def asInt (v : AV) : Option (IntKind × Int) :=
 AV.rec (motive_1 := fun _ => Option (IntKind × Int)) (motive_2 := fun _ => Unit) none (fun k n => some (k, n)) (fun _ _ => none) (fun _ => none) (fun _ _ => none) (fun _ => none) (fun _ _ _ => none) (fun _ => none) (fun _ _ _ _ _ => none) none (fun _ _ _ => none) none (fun _ _ => none) (fun _ _ => none) (fun _ => none) () (fun _ _ _ _ => ()) v
def asPtr (v : AV) : Option (Nat × Nat) :=
 AV.rec (motive_1 := fun _ => Option (Nat × Nat)) (motive_2 := fun _ => Unit) none (fun _ _ => none) (fun _ _ => none) (fun _ => none) (fun _ _ => none) (fun a => a) (fun _ _ _ => none) (fun _ => none) (fun _ _ _ _ _ => none) none (fun _ _ _ => none) none (fun _ _ => none) (fun _ _ => none) (fun _ => none) () (fun _ _ _ _ => ()) v
def asBool (v : AV) : Option Bool :=
 AV.rec (motive_1 := fun _ => Option Bool) (motive_2 := fun _ => Unit) none (fun _ _ => none) (fun _ _ => none) (fun b => some b) (fun _ _ => none) (fun _ => none) (fun _ _ _ => none) (fun _ => none) (fun _ _ _ _ _ => none) none (fun _ _ _ => none) none (fun _ _ => none) (fun _ _ => none) (fun _ => none) () (fun _ _ _ _ => ()) v
def asCells (o : AO) : Option (List AV) := AO.rec (motive := fun _ => Option (List AV)) (fun l _ _ => some l) (fun _ _ => none) (fun _ _ _ _ => none) none (fun l _ => some l) (fun _ => none) o
def asSlc (v : AV) : Option ((Nat × Nat) × Nat) :=
 AV.rec (motive_1 := fun _ => Option ((Nat × Nat) × Nat)) (motive_2 := fun _ => Unit) none (fun _ _ => none) (fun _ _ => none) (fun _ => none) (fun _ _ => none) (fun _ => none) (fun a n _ => Option.rec (motive := fun _ => Option ((Nat × Nat) × Nat)) none (fun p => some (p, n)) a) (fun _ => none) (fun _ _ _ _ _ => none) none (fun _ _ _ => none) none (fun _ _ => none) (fun _ _ => none) (fun _ => none) () (fun _ _ _ _ => ()) v
def asTuple (v : AV) : Option (List AV) :=
 AV.rec (motive_1 := fun _ => Option (List AV)) (motive_2 := fun _ => Unit) none (fun _ _ => none) (fun _ _ => none) (fun _ => none) (fun _ _ => none) (fun _ => none) (fun _ _ _ => none) (fun _ => none) (fun _ _ _ _ _ => none) none (fun _ _ _ => none) none (fun _ _ => none) (fun l _ => some l) (fun _ => none) () (fun _ _ _ _ => ()) v
def asLen (v : AV) : Option Nat :=
 AV.rec (motive_1 := fun _ => Option Nat) (motive_2 := fun _ => Unit) none (fun _ _ => none) (fun _ _ => none) (fun _ => none) (fun _ _ => none) (fun _ => none) (fun _ n _ => some n) (fun _ => none) (fun _ _ _ _ _ => none) none (fun _ _ _ => none) none (fun _ _ => none) (fun _ _ => none) (fun _ => none) () (fun _ _ _ _ => ()) v
def pMv (e : Ev) : Pv := fun t _ => e t
def pNil (e : Ev) : Pv := fun t _ => ob (e t) (fun v => ob (asPtr v) (fun p => some (.ptr (some p))))
def pO (n : Nat) (e : Ev) : Pv := fun t _ => ob (e t) (fun v => ob (asPtr v) (fun p => Prod.rec (motive := fun _ => Option AV) (fun i o => some (.ptr (some (i, Nat.add o n)))) p))
def pL (e : Ev) : Pv := fun t aw => ob (e t) (fun v => ob (asPtr v) (fun p => Prod.rec (motive := fun _ => Option AV) (fun i o => ob (awGet aw i) (fun x => ob (asCells x) (fun l => nthF l o))) p))
def pM (n : Nat) (e : Ev) : Pv := fun t aw => ob (e t) (fun v => xloadF aw (some n) v)
def fPair (f : IntKind → Int → Int → Option AV) (k : IntKind) (a : Int) (k' : IntKind) (b : Int) : Option AV := Bool.rec (motive := fun _ => Option AV) none (f k a b) (Nat.beq (kcF k) (kcF k'))
def pB (op : BinOp) (f : IntKind → Int → Int → Option AV) (e1 e2 : Ev) : Pv := fun t _ => ob (e1 t) (fun u => ob (e2 t) (fun v =>
 Option.rec (motive := fun _ => Option AV) (xbin op false u v) (fun p => Option.rec (motive := fun _ => Option AV) (xbin op false u v) (fun q => Prod.rec (motive := fun _ => Option AV) (fun k a => Prod.rec (motive := fun _ => Option AV) (fun k' b => fPair f k a k' b) q) p) (asInt v)) (asInt u)))
def pShift (op : BinOp) (f : IntKind → Int → Nat → Option AV) (e1 e2 : Ev) : Pv := fun t _ => ob (e1 t) (fun u => ob (e2 t) (fun v =>
 Option.rec (motive := fun _ => Option AV) (xbin op true u v) (fun p => Option.rec (motive := fun _ => Option AV) (xbin op true u v) (fun q => Prod.rec (motive := fun _ => Option AV) (fun k a => Prod.rec (motive := fun _ => Option AV) (fun k' b => Int.rec (motive := fun _ => Option AV) (fun n => f k a n) (fun _ => none) b) q) p) (asInt v)) (asInt u)))
def fAdd (k : IntKind) (a b : Int) : Option AV := some (.int k (wrapG k (iAdd a b)))
def fSub (k : IntKind) (a b : Int) : Option AV := some (.int k (wrapG k (iSub a b)))
def fMul (k : IntKind) (a b : Int) : Option AV := some (.int k (wrapG k (iMul a b)))
def fAnd (k : IntKind) (a b : Int) : Option AV := some (.int k (wrapG k (.ofNat (Nat.land (bitsOfF k a) (bitsOfF k b)))))
def fOr (k : IntKind) (a b : Int) : Option AV := some (.int k (wrapG k (.ofNat (Nat.lor (bitsOfF k a) (bitsOfF k b)))))
def fXor (k : IntKind) (a b : Int) : Option AV := some (.int k (wrapG k (.ofNat (Nat.xor (bitsOfF k a) (bitsOfF k b)))))
def fEql (k : IntKind) (a b : Int) : Option AV := some (.bool (ieqF a b))
def fNeq (k : IntKind) (a b : Int) : Option AV := some (.bool (notF (ieqF a b)))
def fLss (k : IntKind) (a b : Int) : Option AV := some (.bool (iltF a b))
def fLeq (k : IntKind) (a b : Int) : Option AV := some (.bool (notF (iltF b a)))
def fGtr (k : IntKind) (a b : Int) : Option AV := some (.bool (iltF b a))
def fGeq (k : IntKind) (a b : Int) : Option AV := some (.bool (notF (iltF a b)))
def fShl (k : IntKind) (a : Int) (n : Nat) : Option AV := some (.int k (wrapG k (pow2F a (minF n (bitsF k)))))
def fShr (k : IntKind) (a : Int) (n : Nat) : Option AV := some (.int k (shr2F a (minF n (bitsF k))))
def fOf (op : BinOp) : IntKind → Int → Int → Option AV :=
 match op with
 | .add => fAdd | .sub => fSub | .mul => fMul | .and => fAnd | .or => fOr | .xor => fXor | .eql => fEql | .neq => fNeq | .lss => fLss | .leq => fLeq | .gtr => fGtr | .geq => fGeq
 | op => iopF op
def sOf (op : BinOp) : IntKind → Int → Nat → Option AV :=
 match op with
 | .shl => fShl | .shr => fShr
 | op => fun k a n => ishiftF op k a (.ofNat n)
theorem fOf_eq (op : BinOp) (k : IntKind) (a b : Int) : fOf op k a b = iop op k a b := by
 rw [← iopF_eq]; cases op <;> rfl
theorem sOf_eq (op : BinOp) (k : IntKind) (a : Int) (n : Nat) : sOf op k a n = ishift op k a (.ofNat n) := by
 rw [← ishiftF_eq]; cases op <;> rfl
def pConv (k : IntKind) (e : Ev) : Pv := fun t _ => ob (e t) (fun v => ob (asInt v) (fun p => Prod.rec (motive := fun _ => Option AV) (fun _ n => some (.int k (wrapG k n))) p))
def pExt (i : Nat) (e : Ev) : Pv := fun t _ => ob (e t) (fun v => ob (asTuple v) (fun l => nthF l i))
def pLenS (e : Ev) : Pv := fun t _ => ob (e t) (fun v => ob (asLen v) (fun n => some (.int .i64 (.ofNat n))))
def pNot (e : Ev) : Pv := fun t _ => ob (e t) (fun v => ob (asBool v) (fun b => some (.bool (notF b))))
def pIdxS (sz : Nat) (e i : Ev) : Pv := fun t _ => ob (e t) (fun v => ob (asSlc v) (fun p => Prod.rec (motive := fun _ => Option AV) (fun q len => Prod.rec (motive := fun _ => Option AV) (fun id o =>
 ob (i t) (fun w => ob (asInt w) (fun r => Prod.rec (motive := fun _ => Option AV) (fun _ n => Int.rec (motive := fun _ => Option AV) (fun m => Bool.rec (motive := fun _ => Option AV) none (some (.ptr (some (id, Nat.add o (Nat.mul m sz))))) (Nat.ble (Nat.succ m) len)) (fun _ => none) n) r))) q) p))
def pPick (c x y : Ev) : Pv := fun t _ => ob (c t) (fun v => ob (asBool v) (fun b => Bool.rec (motive := fun _ => Option AV) (y t) (x t) b))
def pOf (c : COp) : Option Pv :=
 match c with
 | .mv x => some (pMv (ke x))
 | .nilck x => some (pNil (ke x))
 | .off n x => some (pO n (ke x))
 | .load none x => some (pL (ke x))
 | .load (some n) x => some (pM n (ke x))
 | .bin op sh x y => some (Bool.rec (motive := fun _ => Pv) (pB op (fOf op) (ke x) (ke y)) (pShift op (sOf op) (ke x) (ke y)) sh)
 | .conv k x => some (pConv k (ke x))
 | .ext i x => some (pExt i (ke x))
 | .lenS x => some (pLenS (ke x))
 | .bnot x => some (pNot (ke x))
 | .idxS sz x i => some (pIdxS sz (ke x) (ke i))
 | .pick c x y => some (pPick (ke c) (ke x) (ke y))
 | _ => none
theorem pOf_eq {c : COp} {p : Pv} (h : pOf c = some p) (t : Tr AV) (aw : AW) : xop t aw c = ob (p t aw) (fun v => some (v, aw)) := by
 cases c <;> simp only [pOf, sI, reduceCtorEq] at h
 case mv x => subst h; simp only [pMv, ke_eq, xop]; cases x.ev t <;> rfl
 case nilck x =>
  subst h; simp only [pNil, ke_eq, xop]
  cases x.ev t with
  | none => rfl
  | some v => cases v <;> first | rfl | skip
              rename_i q; cases q <;> rfl
 case off n x =>
  subst h; simp only [pO, ke_eq, xop]
  cases x.ev t with
  | none => rfl
  | some v => cases v <;> first | rfl | skip
              rename_i q; cases q <;> rfl
 case load n x =>
  cases n with
  | none =>
   simp only [sI] at h; subst h; simp only [pL, ke_eq, xop]
   cases x.ev t with
   | none => rfl
   | some v =>
    simp only
    rw [← xloadF_eq]
    cases v <;> first | rfl | skip
    rename_i q
    cases q with
    | none => rfl
    | some q =>
     obtain ⟨i, o⟩ := q
     have e1 : xloadF aw none (.ptr (some (i, o))) = ob (awGet aw i) (fun x => oRead x (fun l => nthF l o) none) := rfl
     have e2 : (ob (some (AV.ptr (some (i, o)))) fun v => ob (asPtr v) fun p => Prod.rec (motive := fun _ => Option AV) (fun i o => ob (awGet aw i) fun x => ob (asCells x) fun l => nthF l o) p) = ob (awGet aw i) (fun x => ob (asCells x) fun l => nthF l o) := rfl
     rw [e1, e2]
     cases awGet aw i with
     | none => rfl
     | some x =>
      have all : ∀ l : List AV, (match nthF l o with | some v => some (v, aw) | none => none) = ob (nthF l o) (fun v => some (v, aw)) := fun l => by cases nthF l o <;> rfl
      cases x <;> first | rfl | skip
      ·rename_i l e b; exact all l
      ·rename_i l e; exact all l
  | some n =>
   simp only [sI] at h; subst h; simp only [pM, ke_eq, xop]
   cases x.ev t with
   | none => rfl
   | some v =>
    simp only
    rw [← xloadF_eq]
    show _ = ob (xloadF aw (some n) v) _
    cases xloadF aw (some n) v <;> rfl
 case bin op sh x y =>
  subst h
  cases sh with
  | false =>
   simp only [pB, ke_eq, xop]
   cases x.ev t with
   | none => rfl
   | some u =>
    simp only
    show _ = ob (ob (y.ev t) _) _
    cases y.ev t with
    | none => rfl
    | some v =>
     have e : xbin op false u v = (Option.rec (motive := fun _ => Option AV) (xbin op false u v) (fun p => Option.rec (motive := fun _ => Option AV) (xbin op false u v) (fun q => Prod.rec (motive := fun _ => Option AV) (fun k a => Prod.rec (motive := fun _ => Option AV) (fun k' b => fPair (fOf op) k a k' b) q) p) (asInt v)) (asInt u)) := by
      cases u <;> first | rfl | skip
      cases v <;> first | rfl | skip
      rename_i k a k' b
      show xbin op false (.int k a) (.int k' b) = fPair (fOf op) k a k' b
      simp only [xbin, fPair, kcF_eq, fOf_eq]
      cases Nat.beq (kc k) (kc k') <;> rfl
     show _ = ob (Option.rec (motive := fun _ => Option AV) (xbin op false u v) (fun p => Option.rec (motive := fun _ => Option AV) (xbin op false u v) (fun q => Prod.rec (motive := fun _ => Option AV) (fun k a => Prod.rec (motive := fun _ => Option AV) (fun k' b => fPair (fOf op) k a k' b) q) p) (asInt v)) (asInt u)) _
     rw [← e]
     simp only
     cases xbin op false u v <;> rfl
  | true =>
   simp only [pShift, ke_eq, xop]
   cases x.ev t with
   | none => rfl
   | some u =>
    simp only
    show _ = ob (ob (y.ev t) _) _
    cases y.ev t with
    | none => rfl
    | some v =>
     have e : xbin op true u v = (Option.rec (motive := fun _ => Option AV) (xbin op true u v) (fun p => Option.rec (motive := fun _ => Option AV) (xbin op true u v) (fun q => Prod.rec (motive := fun _ => Option AV) (fun k a => Prod.rec (motive := fun _ => Option AV) (fun k' b => Int.rec (motive := fun _ => Option AV) (fun n => sOf op k a n) (fun _ => none) b) q) p) (asInt v)) (asInt u)) := by
      cases u <;> first | rfl | skip
      cases v <;> first | rfl | skip
      rename_i k a k' b
      cases b with
      | negSucc n => rfl
      | ofNat n => show ishift op k a (.ofNat n) = sOf op k a n; rw [sOf_eq]
     show _ = ob (Option.rec (motive := fun _ => Option AV) (xbin op true u v) (fun p => Option.rec (motive := fun _ => Option AV) (xbin op true u v) (fun q => Prod.rec (motive := fun _ => Option AV) (fun k a => Prod.rec (motive := fun _ => Option AV) (fun k' b => Int.rec (motive := fun _ => Option AV) (fun n => sOf op k a n) (fun _ => none) b) q) p) (asInt v)) (asInt u)) _
     rw [← e]
     simp only
     cases xbin op true u v <;> rfl
 case conv k x =>
  subst h; simp only [pConv, ke_eq, xop]
  cases x.ev t with
  | none => rfl
  | some v => cases v <;> first | rfl | skip
              rename_i k2 n; show some (AV.int k (wrapF k n), aw) = some (AV.int k (wrapG k n), aw); rw [wrapG_eq]
 case ext i x =>
  subst h; simp only [pExt, ke_eq, xop]
  cases x.ev t with
  | none => rfl
  | some v => cases v <;> first | rfl | skip
              rename_i l
              show (match l[i]? with | some v => some (v, aw) | none => none) = ob (nthF l i) _
              rw [nthF_eq]; cases l[i]? <;> rfl
 case lenS x =>
  subst h; simp only [pLenS, ke_eq, xop]
  cases x.ev t with
  | none => rfl
  | some v => cases v <;> rfl
 case bnot x =>
  subst h; simp only [pNot, ke_eq, xop]
  cases x.ev t with
  | none => rfl
  | some v => cases v <;> first | rfl | skip
              rename_i b; cases b <;> rfl
 case idxS sz x i =>
  subst h; simp only [pIdxS, ke_eq, xop]
  cases x.ev t with
  | none => rfl
  | some v =>
   cases v <;> first | rfl | skip
   rename_i q len cap
   cases q with
   | none => rfl
   | some q =>
    obtain ⟨id, o⟩ := q
    show _ = ob (ob (i.ev t) _) _
    simp only
    cases i.ev t with
    | none => rfl
    | some w =>
     cases w <;> first | rfl | skip
     rename_i k n
     cases n with
     | negSucc n => rfl
     | ofNat m =>
      show (bif Nat.blt m len then some (AV.ptr (some (id, o + m * sz)), aw) else none) = ob (Bool.rec (motive := fun _ => Option AV) none (some (.ptr (some (id, Nat.add o (Nat.mul m sz))))) (Nat.ble (Nat.succ m) len)) _
      have : Nat.blt m len = Nat.ble (Nat.succ m) len := rfl
      rw [this]
      cases Nat.ble (Nat.succ m) len <;> rfl
 case pick c x y =>
  subst h; simp only [pPick, ke_eq, xop]
  cases c.ev t with
  | none => rfl
  | some v =>
   cases v <;> first | rfl | skip
   rename_i b
   cases b
   ·show (match y.ev t with | some v => some (v, aw) | none => none) = ob (y.ev t) _
    cases y.ev t <;> rfl
   ·show (match x.ev t with | some v => some (v, aw) | none => none) = ob (x.ev t) _
    cases x.ev t <;> rfl
abbrev Mv := Tr AV → AW → Option (AV × AW)
def m_mv (x : Opd) : Mv := fun a aw => a_mv a aw x
def m_pick (c : Opd) (x : Opd) (y : Opd) : Mv := fun a aw => a_pick a aw c x y
def m_alloc (cs : List AV) (e : TypeId) : Mv := fun a aw => a_alloc a aw cs e
def m_box (e : TypeId) (x : Opd) : Mv := fun a aw => a_box a aw e x
def m_build (z : List AV) (ps : List (Nat × Nat × Opd)) : Mv := fun a aw => a_build a aw z ps
def m_mkslc (e : TypeId) (len : Nat) (z : List AV) (ps : List (Nat × Nat × Opd)) : Mv := fun a aw => a_mkslc a aw e len z ps
def m_load (n : Option Nat) (x : Opd) : Mv := fun a aw => a_load a aw n x
def m_store (n : Nat) (x : Opd) (y : Opd) : Mv := fun a aw => ob (ke x a) (fun p => ob (ke y a) (fun v => xstoreF aw n p v))
def m_nilck (x : Opd) : Mv := fun a aw => a_nilck a aw x
def m_bin (op : BinOp) (sh : Bool) (x : Opd) (y : Opd) : Mv := fun a aw => a_bin a aw op sh x y
def m_nileq (kd : Nat) (neg : Bool) (x : Opd) : Mv := fun a aw => a_nileq a aw kd neg x
def m_beq (neg : Bool) (x : Opd) (y : Opd) : Mv := fun a aw => a_beq a aw neg x y
def m_seq (neg : Bool) (x : Opd) (y : Opd) : Mv := fun a aw => a_seq a aw neg x y
def m_bnot (x : Opd) : Mv := fun a aw => a_bnot a aw x
def m_neg (x : Opd) : Mv := fun a aw => a_neg a aw x
def m_conv (k : IntKind) (x : Opd) : Mv := fun a aw => a_conv a aw k x
def m_b2s (x : Opd) : Mv := fun a aw => a_b2s a aw x
def m_iface (t : TypeId) (x : Opd) : Mv := fun a aw => a_iface a aw t x
def m_func (f : FuncId) (fs : List Opd) (cs : List Opd) : Mv := fun a aw => a_func a aw f fs cs
def m_mkmap  : Mv := fun a aw => a_mkmap a aw 
def m_mkslice (e : TypeId) (z : List AV) (bytes : Nat) (l : Opd) (c : Opd) : Mv := fun a aw => a_mkslice a aw e z bytes l c
def m_slice (sz : Nat) (x : Opd) (lo : Option Opd) (hi : Option Opd) (mx : Option Opd) : Mv := fun a aw => a_slice a aw sz x lo hi mx
def m_off (n : Nat) (x : Opd) : Mv := fun a aw => a_off a aw n x
def m_part (n : Option Nat) (o : Nat) (x : Opd) : Mv := fun a aw => a_part a aw n o x
def m_idxS (sz : Nat) (x : Opd) (i : Opd) : Mv := fun a aw => a_idxS a aw sz x i
def m_idxA (n : Nat) (sz : Nat) (x : Opd) (i : Opd) : Mv := fun a aw => a_idxA a aw n sz x i
def m_idxT (x : Opd) (i : Opd) : Mv := fun a aw => a_idxT a aw x i
def m_s2s (x : Opd) : Mv := fun a aw => a_s2s a aw x
def m_look (z : AV) (ok : Bool) (m : Opd) (k : Opd) : Mv := fun a aw => a_look a aw z ok m k
def m_mapset (m : Opd) (k : Opd) (v : Opd) : Mv := fun a aw => a_mapset a aw m k v
def m_del (m : Opd) (k : Opd) : Mv := fun a aw => a_del a aw m k
def m_range (m : Opd) : Mv := fun a aw => a_range a aw m
def m_next (it : Opd) : Mv := fun a aw => a_next a aw it
def m_entry (it : Opd) : Mv := fun a aw => a_entry a aw it
def m_assert (t : TypeId) (x : Opd) (z : AV) : Mv := fun a aw => a_assert a aw t x z
def m_ext (i : Nat) (x : Opd) : Mv := fun a aw => a_ext a aw i x
def m_lenS (x : Opd) : Mv := fun a aw => a_lenS a aw x
def m_lenM (x : Opd) : Mv := fun a aw => a_lenM a aw x
def m_capS (x : Opd) : Mv := fun a aw => a_capS a aw x
def m_append (e : TypeId) (sz : Nat) (bytes : Nat) (x : Opd) (y : Opd) : Mv := fun a aw => a_append a aw e sz bytes x y
def m_appendZ (e : TypeId) (z : List AV) (bytes : Nat) (x : Opd) (y : Opd) : Mv := fun a aw => a_appendZ a aw e z bytes x y
def m_copy (sz : Nat) (x : Opd) (y : Opd) : Mv := fun a aw => a_copy a aw sz x y
def m_clear (z : List AV) (x : Opd) : Mv := fun a aw => a_clear a aw z x
def m_mn (x : Opd) (y : Opd) : Mv := fun a aw => a_mn a aw x y
def m_mx (x : Opd) (y : Opd) : Mv := fun a aw => a_mx a aw x y
def mOf (c : COp) : Mv := COp.rec (motive := fun _ => Mv) m_mv m_pick m_alloc m_box m_build m_mkslc m_load m_store m_nilck m_bin m_nileq m_beq m_seq m_bnot m_neg m_conv m_b2s m_iface m_func m_mkmap m_mkslice m_slice m_off m_part m_idxS m_idxA m_idxT m_s2s m_look m_mapset m_del m_range m_next m_entry m_assert m_ext m_lenS m_lenM m_capS m_append m_appendZ m_copy m_clear m_mn m_mx c
theorem mOf_eq (c : COp) (t : Tr AV) (aw : AW) : mOf c t aw = xop t aw c := by
 rw [← xopF_eq]
 cases c
 case store n x y => show ob (ke x t) (fun p => ob (ke y t) (fun v => xstoreF aw n p v)) = a_store t aw n x y; simp only [a_store, ke_eq, evF_eq]
 all_goals rfl
def kP (d : Nat) (x : Pv) (k : K4) : K4 := fun t n ds aw => Option.rec (motive := fun _ => Option Out) none (fun v => Bool.rec (motive := fun _ => Option Out) none (k (trSet t d v) n ds aw) (Nat.ble (Nat.succ d) n)) (x t aw)
def kPut (d : Option Nat) (v : AV) (k : K4) : K4 := fun t n ds aw => Option.rec (motive := fun _ => Option Out) (k t n ds aw) (fun d => Bool.rec (motive := fun _ => Option Out) none (k (trSet t d v) n ds aw) (Nat.ble (Nat.succ d) n)) d
def kM (d : Option Nat) (x : Mv) (k : K4) : K4 := fun t n ds aw => Option.rec (motive := fun _ => Option Out) none (fun r => Prod.rec (motive := fun _ => Option Out) (fun v aw => kPut d v k t n ds aw) r) (x t aw)
def kG (gt : Nat) (gw : Bool) (yes no : K4) : K4 := fun t n ds aw => Option.rec (motive := fun _ => Option Out) none (fun v => Option.rec (motive := fun _ => Option Out) (Option.rec (motive := fun _ => Option Out) none (fun _ => no t n ds aw) (asTuple v)) (fun b => Bool.rec (motive := fun _ => Option Out) (Bool.rec (motive := fun _ => Option Out) (yes t n ds aw) (no t n ds aw) gw) (Bool.rec (motive := fun _ => Option Out) (no t n ds aw) (yes t n ds aw) gw) b) (asBool v)) (trGet t gt)
def evsK (es : List Ev) (t : Tr AV) : Option (List AV) := List.rec (motive := fun _ => Option (List AV)) (some []) (fun x _ ih => ob (x t) (fun v => ob ih (fun vs => some (v :: vs)))) es
def kes (l : List Opd) : List Ev := List.rec (motive := fun _ => List Ev) [] (fun x _ ih => ke x :: ih) l
theorem evsK_eq (t : Tr AV) : ∀ l : List Opd, evsK (kes l) t = evs t l
 | [] => rfl
 | x :: l => by
  show ob (ke x t) (fun v => ob (evsK (kes l) t) (fun vs => some (v :: vs))) = _
  rw [evsK_eq t l, ke_eq]
  simp only [evs]
  cases x.ev t with
  | none => rfl
  | some v => cases evs t l <;> rfl
def kBack (d : Option Nat) (k : K4) (r : Option ARes) : K4 := fun t n ds aw0 => Option.rec (motive := fun _ => Option Out) none (fun r => ARes.rec (motive := fun _ => Option Out) (fun v aw => kPut d v k t n ds aw) (fun v aw => some ⟨.panic v, ⟨t, n, ds⟩, aw⟩) r) r
def kC (call : Call) (d : Option Nat) (f : FuncId) (es : List Ev) (k : K4) : K4 := fun t n ds aw => Option.rec (motive := fun _ => Option Out) none (fun vs => kBack d k (call f vs aw) t n ds aw) (evsK es t)
def kCallv (call : Call) (d : Option Nat) (f : Opd) (es : List Ev) (k : K4) : K4 := fun t n ds aw => match ke f t with
 | some (.func (.func f) first cap) => Option.rec (motive := fun _ => Option Out) none (fun vs => kBack d k (call f (appF (appF first vs) cap) aw) t n ds aw) (evsK es t)
 | _ => none
def kOld (x : (AAct → AW → Option Out) → AAct → AW → Option Out) (k : K4) : K4 := fun t n ds aw => x (fun a aw => AAct.rec (motive := fun _ => Option Out) (fun t n ds => k t n ds aw) a) ⟨t, n, ds⟩ aw
def kGI (gt : Nat) (gw : Bool) (d : Option Nat) (f : K4 → K4) (k : K4) : K4 := kG gt gw (f k) (kPut d (.tuple []) k)
def kGo (g : Option (Nat × Bool)) (d : Option Nat) (f : K4 → K4) (k : K4) : K4 := match g with
 | none => f k
 | some (gt, gw) => kGI gt gw d f k
def kOp (d : Option Nat) (c : COp) (k : K4) : K4 := match d with
 | some d => match pOf c with
  | some p => kP d p k
  | none => kM (some d) (mOf c) k
 | none => kM none (mOf c) k
def kIt (call : Call) (it : CR) (k : K4) : K4 := match it with
 | .op d g c => kGo g d (kOp d c) k
 | .call d g f args => kGo g d (kC call d f (kes args)) k
 | .callv d g f args => kGo g d (kCallv call d f (kes args)) k
 | .defer d f args => kOld (fun k a aw => iDefer k a aw d f args) k
 | .panic x => fun t n ds aw => iPanic ⟨t, n, ds⟩ aw x
 | .chk d g c => kOld (fun k a aw => iChk k a aw d g c) k
def kD : K4 := fun t n ds aw => some ⟨.norm, ⟨t, n, ds⟩, aw⟩
def kItems (call : Call) (l : List CR) : K4 := List.rec (motive := fun _ => K4) kD (fun it _ ih => kIt call it ih) l
theorem kPut_eq (d : Option Nat) (v : AV) (k : K4) (t : Tr AV) (n : Nat) (ds : List ADef) (aw : AW) : kPut d v k t n ds aw = match AAct.put ⟨t, n, ds⟩ d v with | some a => k a.tmps a.n a.defs aw | none => none := by
 cases d with
 | none => rfl
 | some d =>
  show Bool.rec (motive := fun _ => Option Out) none (k (trSet t d v) n ds aw) (Nat.ble (Nat.succ d) n) = _
  rw [trSet_eq]
  simp only [AAct.put]
  have : Nat.blt d n = Nat.ble (Nat.succ d) n := rfl
  rw [this]
  cases Nat.ble (Nat.succ d) n <;> rfl
theorem kG_eq (gt : Nat) (gw : Bool) (yes no : K4) (t : Tr AV) (n : Nat) (ds : List ADef) (aw : AW) : kG gt gw yes no t n ds aw = match xguard ⟨t, n, ds⟩ (some (gt, gw)) with | some true => yes t n ds aw | some false => no t n ds aw | none => none := by
 unfold kG
 rw [trGet_eq]
 simp only [xguard]
 cases t.get gt gt with
 | none => rfl
 | some v =>
  cases v <;> first | rfl | skip
  rename_i b
  cases b <;> cases gw <;> rfl
theorem kGo_eq (g : Option (Nat × Bool)) (d : Option Nat) (f : K4 → K4) (k : K4) (t : Tr AV) (n : Nat) (ds : List ADef) (aw : AW) : kGo g d f k t n ds aw = match xguard ⟨t, n, ds⟩ g with | some true => f k t n ds aw | some false => kPut d (.tuple []) k t n ds aw | none => none := by
 cases g with
 | none => rfl
 | some p => obtain ⟨gt, gw⟩ := p; exact kG_eq ..
theorem kOp_eq (d : Option Nat) (c : COp) (k : K4) (t : Tr AV) (n : Nat) (ds : List ADef) (aw : AW) : kOp d c k t n ds aw = match xop t aw c with | some (v, aw) => kPut d v k t n ds aw | none => none := by
 have hm : ∀ d, kM d (mOf c) k t n ds aw = match xop t aw c with | some (v, aw) => kPut d v k t n ds aw | none => none := fun d => by
  unfold kM
  rw [mOf_eq]
  cases xop t aw c with
  | none => rfl
  | some r => rfl
 cases d with
 | none => exact hm none
 | some d =>
  unfold kOp
  simp only
  cases h : pOf c with
  | none => exact hm (some d)
  | some p =>
   rw [pOf_eq h]
   show kP d p k t n ds aw = _
   unfold kP
   cases p t aw <;> rfl
theorem kBack_eq (d : Option Nat) (k : K4) (r : Option ARes) (t : Tr AV) (n : Nat) (ds : List ADef) (aw : AW) : kBack d k r t n ds aw = xback ⟨t, n, ds⟩ d (fun a aw => k a.tmps a.n a.defs aw) r := by
 cases r with
 | none => rfl
 | some r =>
  cases r with
  | ret v aw => exact kPut_eq ..
  | panic v aw => rfl
theorem kIt_eq (call : Call) (it : CR) (l : List CR) (k : K4) (hk : ∀ t n ds aw, k t n ds aw = xitems call l ⟨t, n, ds⟩ aw) (t : Tr AV) (n : Nat) (ds : List ADef) (aw : AW) : kIt call it k t n ds aw = xitems call (it :: l) ⟨t, n, ds⟩ aw := by
 have hk' : k = fun t n ds aw => xitems call l ⟨t, n, ds⟩ aw := by funext t n ds aw; exact hk t n ds aw
 subst hk'
 have hold : ∀ (x : (AAct → AW → Option Out) → AAct → AW → Option Out), kOld x (fun t n ds aw => xitems call l ⟨t, n, ds⟩ aw) t n ds aw = x (fun a aw => xitems call l a aw) ⟨t, n, ds⟩ aw := fun x => rfl
 cases it with
 | op d g c =>
  show kGo _ _ _ _ _ _ _ _ = _
  rw [kGo_eq]
  simp only [xitems, kOp_eq, kPut_eq]
  rfl
 | call d g f args =>
  show kGo _ _ _ _ _ _ _ _ = _
  rw [kGo_eq]
  simp only [xitems, kPut_eq, kC, evsK_eq]
  cases xguard ⟨t, n, ds⟩ g with
  | none => rfl
  | some b =>
   cases b with
   | false => rfl
   | true =>
    simp only
    cases evs t args with
    | none => rfl
    | some vs => exact kBack_eq ..
 | callv d g f args =>
  show kGo _ _ _ _ _ _ _ _ = _
  rw [kGo_eq]
  simp only [xitems, kPut_eq, kCallv, evsK_eq, ke_eq]
  cases xguard ⟨t, n, ds⟩ g with
  | none => rfl
  | some b =>
   cases b with
   | false => rfl
   | true =>
    simp only
    cases f.ev t with
    | none => rfl
    | some v =>
     cases v <;> first | rfl | skip
     rename_i fn f1 c1
     cases fn <;> first | rfl | skip
     simp only
     cases evs t args with
     | none => rfl
     | some vs => show kBack _ _ _ _ _ _ _ = _; rw [kBack_eq, appF_eq, appF_eq]
 | defer d f args => rfl
 | panic x => rfl
 | chk d g c =>
  show kOld (fun k a aw => iChk k a aw d g c) (fun t n ds aw => xitems call l ⟨t, n, ds⟩ aw) t n ds aw = _
  rw [hold]
  have := itemsF_eq call (.chk d g c :: l) ⟨t, n, ds⟩ aw
  rw [← this]
  show iChk (fun a aw => xitems call l a aw) ⟨t, n, ds⟩ aw d g c = iChk (itemsF call l) ⟨t, n, ds⟩ aw d g c
  have e : itemsF call l = fun a aw => xitems call l a aw := by funext a aw; exact itemsF_eq call l a aw
  rw [e]
theorem kItems_eq (call : Call) : ∀ (l : List CR) (t : Tr AV) (n : Nat) (ds : List ADef) (aw : AW), kItems call l t n ds aw = xitems call l ⟨t, n, ds⟩ aw
 | [], _, _, _, _ => rfl
 | it :: l, t, n, ds, aw => kIt_eq call it l (kItems call l) (kItems_eq call l) t n ds aw
abbrev KC := Nat → K4
def kNorm (r : Option Out) (k : K4) : Option Out := Option.rec (motive := fun _ => Option Out) none (fun o => Out.rec (motive := fun _ => Option Out) (fun x act aw => AX.rec (motive := fun _ => Option Out) (AAct.rec (motive := fun _ => Option Out) (fun t n ds => k t n ds aw) act) (fun _ => some o) (some o) (fun _ => some o) x) o) r
def kNormD (r : Option Out) (k : K4) : Option Out := Option.rec (motive := fun _ => Option Out) none (fun o => Out.rec (motive := fun _ => Option Out) (fun x act aw => AX.rec (motive := fun _ => Option Out) (AAct.rec (motive := fun _ => Option Out) (fun t n ds => k t n ds aw) act) (fun _ => none) none (fun _ => none) x) o) r
def kR (k : K4) : KC := fun f t n ds aw => Nat.rec (motive := fun _ => Option Out) none (fun _ _ => k t n ds aw) f
def kDraw (k l : K4) : KC := fun f t n ds aw => Nat.rec (motive := fun _ => Option Out) none (fun _ _ => kNormD (k t n ds aw) l) f
def kS (x y : KC) : KC := fun f t n ds aw => Nat.rec (motive := fun _ => Option Out) none (fun f _ => kNorm (x f t n ds aw) (y f)) f
def kQ (c : Ev) (x y : KC) : KC := fun f t n ds aw => Nat.rec (motive := fun _ => Option Out) none (fun f _ => ob (c t) (fun v => ob (asBool v) (fun b => Bool.rec (motive := fun _ => Option Out) (y f t n ds aw) (x f t n ds aw) b))) f
def kO (id : Nat) (b : KC) : KC := fun f t n ds aw => Nat.rec (motive := fun _ => Option Out) none (fun f _ => cBlock id (b f t n ds aw)) f
def kLoop (b : KC) : KC := fun f => Nat.rec (motive := fun _ => K4) (fun _ _ _ _ => none) (fun f ih t n ds aw => kNorm (b f t n ds aw) ih) f
def kEnd (x : AX) : K4 := fun t n ds aw => some ⟨x, ⟨t, n, ds⟩, aw⟩
def kCode (call : Call) (c : CC) : KC :=
 CC.rec (motive := fun _ => KC) (kR kD) (fun l => kR (kItems call l)) (fun l r => kDraw (kItems call l) (kItems call r)) (fun _ _ x y => kS x y) (fun c _ _ x y => kQ (ke c) x y) (fun id _ b => kO id b)
  (fun _ b => kLoop b) (fun id => kR (kEnd (.exit id))) (kR (kEnd .ret)) c
theorem kNorm_eq (r : Option Out) (k : K4) (x : AAct → AW → Option Out) (h : ∀ t n ds aw, k t n ds aw = x ⟨t, n, ds⟩ aw) : kNorm r k = match r with | some o => (match o.x with | .norm => x o.act o.aw | _ => some o) | none => none := by
 cases r with
 | none => rfl
 | some o =>
  obtain ⟨e, ⟨t, n, ds⟩, aw⟩ := o
  cases e <;> first | rfl | skip
  exact h t n ds aw
theorem kCode_eq (call : Call) : ∀ (c : CC) (f : Nat) (t : Tr AV) (n : Nat) (ds : List ADef) (aw : AW), kCode call c f t n ds aw = xcode call f c ⟨t, n, ds⟩ aw := by
 intro c
 induction c with
 | skip => intro f t n ds aw; cases f <;> rfl
 | region l =>
  intro f t n ds aw
  cases f with
  | zero => rfl
  | succ f => exact kItems_eq call l t n ds aw
 | draw l r =>
  intro f t n ds aw
  cases f with
  | zero => rfl
  | succ f =>
   show kNormD (kItems call l t n ds aw) (kItems call r) = _
   rw [kItems_eq]
   simp only [xcode]
   cases xitems call l ⟨t, n, ds⟩ aw with
   | none => rfl
   | some o =>
    obtain ⟨e, ⟨t, n, ds⟩, aw⟩ := o
    cases e <;> first | rfl | skip
    exact kItems_eq call r t n ds aw
 | seq x y hx hy =>
  intro f t n ds aw
  cases f with
  | zero => rfl
  | succ f =>
   show kNorm (kCode call x f t n ds aw) (kCode call y f) = _
   rw [kNorm_eq _ _ (fun a aw => xcode call f y a aw) (fun t n ds aw => hy f t n ds aw), hx]
   simp only [xcode]
   rfl
 | cond c x y hx hy =>
  intro f t n ds aw
  cases f with
  | zero => rfl
  | succ f =>
   show ob (ke c t) (fun v => ob (asBool v) (fun b => Bool.rec (motive := fun _ => Option Out) (kCode call y f t n ds aw) (kCode call x f t n ds aw) b)) = _
   rw [hx, hy, ke_eq]
   simp only [xcode]
   cases c.ev t with
   | none => rfl
   | some v =>
    cases v <;> first | rfl | skip
    rename_i b
    cases b <;> rfl
 | block id b hb =>
  intro f t n ds aw
  cases f with
  | zero => rfl
  | succ f =>
   show cBlock id (kCode call b f t n ds aw) = _
   rw [hb]
   have := codeF_eq call (f + 1) (.block id b) ⟨t, n, ds⟩ aw
   rw [← this]
   show _ = cBlock id (codeF call f b ⟨t, n, ds⟩ aw)
   rw [codeF_eq]
 | loop b hb =>
  intro f
  induction f with
  | zero => intro t n ds aw; rfl
  | succ f ih =>
   intro t n ds aw
   show kNorm (kCode call b f t n ds aw) (kCode call (.loop b) f) = _
   rw [kNorm_eq _ _ (fun a aw => xcode call f (.loop b) a aw) (fun t n ds aw => ih t n ds aw), hb]
   simp only [xcode]
   rfl
 | exit id => intro f t n ds aw; cases f <;> rfl
 | ret => intro f t n ds aw; cases f <;> rfl
structure KFn where
 body : Call → KC
 n : Nat
 res : List CRes
def toK (cf : CFn) : KFn := ⟨fun call => kCode call cf.body, cf.n, cf.res⟩
def leaveK (ds : DSum) (res : List CRes) (act : AAct) (aw : AW) (m : Option AV) : Option ARes :=
 match xdefs ds act.defs m aw with
 | some (none, aw) => ob (resF' act aw res) (fun l => some (.ret (oneOf l) aw))
 | some (some v, aw) => some (.panic v aw)
 | none => none
def runK (ds : DSum) (N : Nat) (call : Call) (args : List AV) (aw : AW) (cf : KFn) : Option ARes :=
 KFn.rec (motive := fun _ => Option ARes) (fun body n res => bb2 (Nat.ble (lenF args) n) (Option.rec (motive := fun _ => Option ARes) none (fun o => Out.rec (motive := fun _ => Option ARes) (fun x act aw => AX.rec (motive := fun _ => Option ARes) (leaveK ds res act aw none) (fun _ => none) (leaveK ds res act aw none) (fun v => leaveK ds res act aw (some v)) x) o) (body call N (slotsF args) n [] aw)) none) cf
def callK (F : FuncId → Option KFn) (sm : Summ) (ds : DSum) (N : Nat) (n : Nat) : Call :=
 Nat.rec (motive := fun _ => Call) (fun _ _ _ => none) (fun _ ih f args aw => Option.rec (motive := fun _ => Option ARes) (Option.rec (motive := fun _ => Option ARes) none (runK ds N ih args aw) (F f)) (fun g => g args aw) (sm f)) n
theorem callK_eq {F : FuncId → Option CFn} {FK : FuncId → Option KFn} (hF : ∀ f, FK f = (F f).map toK) (sm : Summ) (ds : DSum) (N : Nat) : ∀ n, callK FK sm ds N n = xcall F sm ds N n
 | 0 => rfl
 | n + 1 => by
  rw [← callF_eq]
  funext f args aw
  show Option.rec (motive := fun _ => Option ARes) (Option.rec (motive := fun _ => Option ARes) none (runK ds N (callK FK sm ds N n) args aw) (FK f)) (fun g => g args aw) (sm f) = Option.rec (motive := fun _ => Option ARes) (ob (F f) (fun cf => runF ds N (callF F sm ds N n) cf args aw)) (fun g => g args aw) (sm f)
  rw [callK_eq hF sm ds N n, ← callF_eq, hF f]
  cases sm f with
  | some g => rfl
  | none =>
   cases F f with
   | none => rfl
   | some cf =>
    show bb2 (Nat.ble (lenF args) cf.n) (Option.rec (motive := fun _ => Option ARes) none (fun o => Out.rec (motive := fun _ => Option ARes) (fun x act aw => AX.rec (motive := fun _ => Option ARes) (leaveK ds cf.res act aw none) (fun _ => none) (leaveK ds cf.res act aw none) (fun v => leaveK ds cf.res act aw (some v)) x) o) (kCode (callF F sm ds N n) cf.body N (slotsF args) cf.n [] aw)) none = _
    rw [kCode_eq, ← codeF_eq]
    rfl
end Go.Proofs.YtbilacojhmohmaaGreat.Ae
end
