/- An evaluator of Go code over abstract memory: its values, its memory, and how they stand for the model's. No condition. -/
import Derived.OrdersHeld
import Derived.Laws.World
import Derived.Laws.Sem
namespace Go.Proofs.YtbilacojhmohmaaGreat.Ae
open Go
set_option linter.unusedVariables false
set_option linter.unusedSimpArgs false

/-! ### trees by numbers -/
inductive Tr (α : Type) where
  | leaf
  | node (k : Nat) (v : α) (a b c d : Tr α)

/-- which of four -/
def sel4 {β : Type} (r : Nat) (a b c d : β) : β := bif Nat.beq r 0 then a else bif Nat.beq r 1 then b else bif Nat.beq r 2 then c else d
def Tr.get {α : Type} : Tr α → Nat → Nat → Option α
  | .leaf, _, _ => none
  | .node k v a b c d, n, m => bif Nat.beq n k then some v else sel4 (Nat.mod m 4) (a.get n (Nat.div m 4)) (b.get n (Nat.div m 4)) (c.get n (Nat.div m 4)) (d.get n (Nat.div m 4))
def Tr.set {α : Type} : Tr α → Nat → Nat → α → Tr α
  | .leaf, n, _, x => .node n x .leaf .leaf .leaf .leaf
  | .node k v a b c d, n, m, x => bif Nat.beq n k then .node k x a b c d else
    sel4 (Nat.mod m 4) (.node k v (a.set n (Nat.div m 4) x) b c d) (.node k v a (b.set n (Nat.div m 4) x) c d) (.node k v a b (c.set n (Nat.div m 4) x) d) (.node k v a b c (d.set n (Nat.div m 4) x))

theorem sel4_cases {β : Type} (r : Nat) : ∃ i : Fin 4, ∀ a b c d : β, sel4 r a b c d = (match i with | 0 => a | 1 => b | 2 => c | 3 => d) := by
  unfold sel4
  cases Nat.beq r 0
  · cases Nat.beq r 1
    · cases Nat.beq r 2
      · exact ⟨3, fun _ _ _ _ => rfl⟩
      · exact ⟨2, fun _ _ _ _ => rfl⟩
    · exact ⟨1, fun _ _ _ _ => rfl⟩
  · exact ⟨0, fun _ _ _ _ => rfl⟩
theorem sel4_ind {β : Type} (r : Nat) {p : β → Prop} {a b c d : β} (ha : r = 0 → p a) (hb : r = 1 → p b) (hc : r = 2 → p c) (hd : r ≠ 0 → r ≠ 1 → r ≠ 2 → p d) : p (sel4 r a b c d) := by
  unfold sel4
  cases h0 : Nat.beq r 0
  · cases h1 : Nat.beq r 1
    · cases h2 : Nat.beq r 2
      · exact hd (fun e => by subst e; cases h0) (fun e => by subst e; cases h1) (fun e => by subst e; cases h2)
      · exact hc (Nat.eq_of_beq_eq_true h2)
    · exact hb (Nat.eq_of_beq_eq_true h1)
  · exact ha (Nat.eq_of_beq_eq_true h0)
theorem sel4_0 {β : Type} {a b c d : β} : sel4 0 a b c d = a := rfl
theorem sel4_1 {β : Type} {a b c d : β} : sel4 1 a b c d = b := rfl
theorem sel4_2 {β : Type} {a b c d : β} : sel4 2 a b c d = c := rfl
theorem sel4_3 {β : Type} {r : Nat} {a b c d : β} (h0 : r ≠ 0) (h1 : r ≠ 1) (h2 : r ≠ 2) : sel4 r a b c d = d :=
  sel4_ind r (p := fun x => x = d) (fun e => (h0 e).elim) (fun e => (h1 e).elim) (fun e => (h2 e).elim) (fun _ _ _ => rfl)

theorem ne_of_beq {a b : Nat} (hb : Nat.beq a b = false) : a ≠ b := fun e => by subst e; simp [Nat.beq_refl] at hb
theorem Tr.get_set_same {α : Type} {n : Nat} {x : α} : ∀ (t : Tr α) (m : Nat), (t.set n m x).get n m = some x
  | .leaf, m => by simp [Tr.set, Tr.get, Nat.beq_refl]
  | .node k v a b c d, m => by
    simp only [Tr.set]
    cases hk : Nat.beq n k with
    | true => simp [Tr.get, hk]
    | false =>
      simp only [cond_false]
      refine sel4_ind (Nat.mod m 4) (p := fun t => Tr.get t n m = some x) (fun e => ?_) (fun e => ?_) (fun e => ?_) (fun e0 e1 e2 => ?_)
      · simp only [Tr.get, hk, cond_false, e, sel4_0]; exact Tr.get_set_same _ _
      · simp only [Tr.get, hk, cond_false, e, sel4_1]; exact Tr.get_set_same _ _
      · simp only [Tr.get, hk, cond_false, e, sel4_2]; exact Tr.get_set_same _ _
      · simp only [Tr.get, hk, cond_false, sel4_3 e0 e1 e2]; exact Tr.get_set_same _ _
theorem Tr.get_set_other {α : Type} {j n : Nat} {x : α} (hne : j ≠ n) : ∀ (t : Tr α) (m i : Nat), (t.set n m x).get j i = t.get j i
  | .leaf, m, i => by
    simp only [Tr.set, Tr.get]
    cases hb : Nat.beq j n with
    | true => exact (hne (Nat.eq_of_beq_eq_true hb)).elim
    | false => exact sel4_ind (Nat.mod i 4) (p := fun t => t = none) (fun _ => rfl) (fun _ => rfl) (fun _ => rfl) (fun _ _ _ => rfl)
  | .node k v a b c d, m, i => by
    simp only [Tr.set]
    cases hk : Nat.beq n k with
    | true =>
      have := Nat.eq_of_beq_eq_true hk; subst this
      cases hj : Nat.beq j n with
      | true => exact (hne (Nat.eq_of_beq_eq_true hj)).elim
      | false => simp [Tr.get, hj]
    | false =>
      simp only [cond_false]
      refine sel4_ind (Nat.mod m 4) (p := fun t => Tr.get t j i = Tr.get (.node k v a b c d) j i) (fun e => ?_) (fun e => ?_) (fun e => ?_) (fun e0 e1 e2 => ?_)
      all_goals simp only [Tr.get, Tr.get_set_other hne]

theorem Tr.get_set {α : Type} {j n : Nat} {x y : α} {t : Tr α} (h : (t.set n n x).get j j = some y) : (j = n ∧ y = x) ∨ (j ≠ n ∧ t.get j j = some y) := by
  by_cases e : j = n
  · subst e; rw [Tr.get_set_same] at h; injection h with h; exact .inl ⟨rfl, h.symm⟩
  · rw [Tr.get_set_other e] at h; exact .inr ⟨e, h⟩

/-! ### values, memory -/
inductive Cap where
  | known (n : Nat)
  | upto (sz lo : Nat)

inductive AV where
  | undef
  | int (k : IntKind) (n : Int)
  | sym (k : IntKind) (j : Nat)
  | bool (b : Bool)
  | str (l : List AV)
  | ptr (a : Option (Nat × Nat))
  | slc (a : Option (Nat × Nat)) (len : Nat) (cap : Cap)
  | map (r : Option Nat)
  | func (fn : Fn) (first captured : List AV)
  | nilFunc
  | iface (t : TypeId) (v : AV)
  | nilIface
  | agg (l : List AV)
  | tuple (l : List AV)

/-! what a number for an unknown byte says: a free byte; a byte of the sum of known and free ones -/
def crcBit (r : Nat) : Nat := Nat.xor (Nat.mod (Nat.mul r 2) 4294967296) (Nat.mul (Nat.div r 2147483648) 79764919)
def crcByte (r c : Nat) : Nat := crcBit (crcBit (crcBit (crcBit (crcBit (crcBit (crcBit (crcBit (Nat.xor r (Nat.mul c 16777216)))))))))
def crcSum (l : List Nat) : Nat := l.foldl crcByte 4294967295
def crcPart (q r : Nat) : Nat := Nat.mod (Nat.div r (match q with | 0 => 16777216 | 1 => 65536 | 2 => 256 | _ => 1)) 256
/-- 0: the end; 2 v + 1: the byte v; 2 i + 2: the free byte i -/
def encL : List Nat → Nat
  | [] => 0
  | e :: l => Nat.add e (Nat.mul 4294967296 (encL l))
def decL : Nat → Nat → List Nat
  | 0, _ => []
  | f + 1, d => match d with
    | 0 => []
    | d => Nat.mod d 4294967296 :: decL f (Nat.div d 4294967296)
def evalE (ρ : Nat → Nat) (e : Nat) : Nat := match Nat.mod e 2 with
  | 0 => ρ (Nat.div e 2 - 1) % 256
  | _ => Nat.div e 2
def symVal (ρ : Nat → Nat) (j : Nat) : Option Int := match Nat.mod j 2 with
  | 0 => some (Int.ofNat (ρ (Nat.div j 2) % 256))
  | _ => some (Int.ofNat (crcPart (Nat.mod (Nat.div j 2) 4) (crcSum ((decL 4096 (Nat.div (Nat.div j 2) 4)).map (evalE ρ)))))

structure Loc where
  block : Nat
  base : Nat
  total : Nat

/-- what stays from world to world: what the free bytes are, the outside -/
structure SymW where
  f : Nat → Option Int
  os : Os
  out : Array (Nat × ByteArray)

structure Env where
  loc : List Loc
  sym : SymW
  fr : Nat → Option Obj

def Env.Le (E E' : Env) : Prop := (∃ s, E'.loc = E.loc ++ s) ∧ E'.sym = E.sym ∧ E'.fr = E.fr
theorem Env.Le.refl (E : Env) : E.Le E := ⟨⟨[], by simp⟩, rfl, rfl⟩
theorem Env.Le.trans {A B C : Env} (h : A.Le B) (h' : B.Le C) : A.Le C := by
  obtain ⟨⟨s, hs⟩, ht, hf⟩ := h
  obtain ⟨⟨s', hs'⟩, ht', hf'⟩ := h'
  exact ⟨⟨s ++ s', by rw [hs', hs, List.append_assoc]⟩, ht'.trans ht, hf'.trans hf⟩
theorem get_append_of {α : Type} {l s : List α} {i : Nat} {x : α} (h : l[i]? = some x) : (l ++ s)[i]? = some x := by
  rw [List.getElem?_append_left]
  · exact h
  · exact (List.getElem?_eq_some_iff.1 h).1
theorem Env.Le.loc {E E' : Env} (h : E.Le E') {i : Nat} {L : Loc} (hi : E.loc[i]? = some L) : E'.loc[i]? = some L := by
  obtain ⟨⟨s, hs⟩, _⟩ := h
  rw [hs]; exact get_append_of hi
theorem Env.Le.symb {E E' : Env} (h : E.Le E') {i : Nat} {n : Int} (hi : E.sym.f i = some n) : E'.sym.f i = some n := by
  obtain ⟨_, hs, _⟩ := h
  rw [hs]; exact hi

mutual
inductive VRel (E : Env) : AV → Value → Prop
  | undef (v) : VRel E .undef v
  | int (k n) : VRel E (.int k n) (.int k n)
  | sym (k) {j n} (h : E.sym.f j = some n) (hw : k.wrap n = n) : VRel E (.sym k j) (.int k n)
  | bool (b) : VRel E (.bool b) (.bool b)
  | str {l s} (h : LRel E l (s.data.toList.map fun b => .int .u8 (b.toNat : Int))) : VRel E (.str l) (.string s)
  | nilPtr : VRel E (.ptr none) (.pointer none)
  | ptr {id o L} (h : E.loc[id]? = some L) : VRel E (.ptr (some (id, o))) (.pointer (some ⟨L.block, L.base + o, none⟩))
  | nilSlc : VRel E (.slc none 0 (.known 0)) (.slice none 0 0)
  | slc {id o len c a L} (h : E.loc[id]? = some L) (ha : (c = 0 ∧ len = 0) ∨ a = ⟨L.block, L.base + o, none⟩) : VRel E (.slc (some (id, o)) len (.known c)) (.slice (some a) len c)
  | slcUp {id o len sz lo a cap L} (h : E.loc[id]? = some L) (hl : len ≤ cap) (hlo : lo ≤ cap)
      (ha : cap = 0 ∨ (a = ⟨L.block, L.base + o, none⟩ ∧ L.base + o + cap * sz ≤ L.total)) : VRel E (.slc (some (id, o)) len (.upto sz lo)) (.slice (some a) len cap)
  | nilMap : VRel E (.map none) (.map none)
  | map {id L} (h : E.loc[id]? = some L) (hb : L.base = 0) : VRel E (.map (some id)) (.map (some L.block))
  | func (fn) {f c f' c'} (hf : LRel E f f'.toList) (hc : LRel E c c'.toList) : VRel E (.func fn f c) (.func fn f' c')
  | nilFunc : VRel E .nilFunc .nilFunc
  | iface (t) {v v'} (h : VRel E v v') : VRel E (.iface t v) (.iface t v')
  | nilIface : VRel E .nilIface .nilIface
  | agg {l cs} (h : LRel E l cs.toList) : VRel E (.agg l) (.agg cs)
  | tuple {l cs} (h : LRel E l cs.toList) : VRel E (.tuple l) (.tuple cs)
inductive LRel (E : Env) : List AV → List Value → Prop
  | nil : LRel E [] []
  | cons {a v l m} (h : VRel E a v) (t : LRel E l m) : LRel E (a :: l) (v :: m)
end

mutual
theorem VRel.mono {E E' : Env} (hE : E.Le E') : ∀ {a v}, VRel E a v → VRel E' a v
  | _, _, .undef v => .undef v
  | _, _, .int k n => .int k n
  | _, _, .sym k h hw => .sym k (hE.symb h) hw
  | _, _, .bool b => .bool b
  | _, _, .str h => .str (LRel.mono hE h)
  | _, _, .nilPtr => .nilPtr
  | _, _, .ptr h => .ptr (hE.loc h)
  | _, _, .nilSlc => .nilSlc
  | _, _, .slc h ha => .slc (hE.loc h) ha
  | _, _, .slcUp h hl hlo ha => .slcUp (hE.loc h) hl hlo ha
  | _, _, .nilMap => .nilMap
  | _, _, .map h hb => .map (hE.loc h) hb
  | _, _, .func fn hf hc => .func fn (LRel.mono hE hf) (LRel.mono hE hc)
  | _, _, .nilFunc => .nilFunc
  | _, _, .iface t h => .iface t (VRel.mono hE h)
  | _, _, .nilIface => .nilIface
  | _, _, .agg h => .agg (LRel.mono hE h)
  | _, _, .tuple h => .tuple (LRel.mono hE h)
theorem LRel.mono {E E' : Env} (hE : E.Le E') : ∀ {a v}, LRel E a v → LRel E' a v
  | _, _, .nil => .nil
  | _, _, .cons h t => .cons (VRel.mono hE h) (LRel.mono hE t)
end

theorem LRel.length {E : Env} : ∀ {l m}, LRel E l m → l.length = m.length
  | _, _, .nil => rfl
  | _, _, .cons _ t => by simp [LRel.length t]
theorem LRel.get {E : Env} : ∀ {l m}, LRel E l m → ∀ {i : Nat} {a : AV}, l[i]? = some a → ∃ v, m[i]? = some v ∧ VRel E a v
  | _, _, .nil, i, a, h => by simp at h
  | _, _, .cons h t, 0, a, e => by simp at e; subst e; exact ⟨_, rfl, h⟩
  | _, _, .cons h t, i + 1, a, e => by simp at e; obtain ⟨v, hv, hr⟩ := LRel.get t e; exact ⟨v, by simpa using hv, hr⟩
theorem LRel.append {E : Env} : ∀ {l m l' m'}, LRel E l m → LRel E l' m' → LRel E (l ++ l') (m ++ m')
  | _, _, _, _, .nil, h => h
  | _, _, _, _, .cons h t, h' => .cons h (LRel.append t h')
theorem LRel.of_get {E : Env} : ∀ {l : List AV} {m : List Value}, l.length = m.length → (∀ (i : Nat) (a : AV), l[i]? = some a → ∃ v, m[i]? = some v ∧ VRel E a v) → LRel E l m
  | [], [], _, _ => .nil
  | a :: l, v :: m, hl, h => by
    obtain ⟨v', hv', hr⟩ := h 0 a rfl
    simp at hv'; subst hv'
    refine .cons hr (LRel.of_get (by simpa using hl) fun i b hb => ?_)
    obtain ⟨u, hu, hr⟩ := h (i + 1) b (by simpa using hb)
    exact ⟨u, by simpa using hu, hr⟩
  | [], _ :: _, hl, _ => by simp at hl
  | _ :: _, [], hl, _ => by simp at hl
theorem LRel.drop {E : Env} : ∀ {l m} (_ : LRel E l m) (n : Nat), LRel E (l.drop n) (m.drop n)
  | _, _, h, 0 => h
  | _, _, .nil, n + 1 => by simpa using LRel.nil
  | _, _, .cons _ t, n + 1 => by simpa using LRel.drop t n
theorem LRel.take {E : Env} : ∀ {l m} (_ : LRel E l m) (n : Nat), LRel E (l.take n) (m.take n)
  | _, _, _, 0 => by simpa using LRel.nil
  | _, _, .nil, n + 1 => by simpa using LRel.nil
  | _, _, .cons h t, n + 1 => by simpa using LRel.cons h (LRel.take t n)

structure AEnt where
  key : AV
  val : AV
  born : Nat

inductive AO where
  | cells (l : List AV) (elem : TypeId) (opn : Bool)
  | map (es : List AEnt) (clock : Nat)
  | iter (m : Option Nat) (since : Nat) (seen : List Nat) (stepped : Nat)
  | dead

def AO.live : AO → Bool
  | .dead => false
  | _ => true

structure AW where
  heap : Tr AO
  nx : Nat
  ns : Nat

def AW.get (aw : AW) (id : Nat) : Option AO := aw.heap.get id id
def AW.set (aw : AW) (id : Nat) (o : AO) : AW := { aw with heap := aw.heap.set id id o }
def AW.add (aw : AW) (o : AO) : AW := { aw with heap := aw.heap.set aw.nx aw.nx o, nx := aw.nx + 1 }
theorem AW.get_set {aw : AW} {id j : Nat} {o x : AO} (h : (aw.set id o).get j = some x) : (j = id ∧ x = o) ∨ (j ≠ id ∧ aw.get j = some x) :=
  Tr.get_set h
theorem AW.get_add {aw : AW} {j : Nat} {o x : AO} (h : (aw.add o).get j = some x) : (j = aw.nx ∧ x = o) ∨ (j ≠ aw.nx ∧ aw.get j = some x) :=
  Tr.get_set h

inductive ERel (E : Env) : List AEnt → List MapEntry → Prop
  | nil : ERel E [] []
  | cons {e f l m} (hk : VRel E e.key f.key) (hv : VRel E e.val f.val) (hb : e.born = f.born) (t : ERel E l m) : ERel E (e :: l) (f :: m)
theorem ERel.mono {E E' : Env} (hE : E.Le E') : ∀ {l m}, ERel E l m → ERel E' l m
  | _, _, .nil => .nil
  | _, _, .cons hk hv hb t => .cons (hk.mono hE) (hv.mono hE) hb (ERel.mono hE t)

/-- no cell of so many is frozen -/
def Fz (n : Nat) (fz : Nat × Nat) : Prop := fz.1 = fz.2 ∨ n ≤ fz.1
theorem Fz.none {n o : Nat} {fz : Nat × Nat} (h : Fz n fz) (ho : o < n) : (decide (fz.1 ≤ o) && decide (o < fz.2)) = false := by
  rw [Bool.and_eq_false_iff]
  rcases h with h | h
  · by_cases h1 : fz.1 ≤ o
    · exact .inr (decide_eq_false (by omega))
    · exact .inl (decide_eq_false h1)
  · exact .inl (decide_eq_false (by omega))
def ORel (E : Env) (L : Loc) (w : World) : AO → Prop
  | .cells l e opn => ∃ (c : Array Value) (fz : Nat × Nat), (w.heap[L.block]? = some (.cells c e fz) ∧ Fz c.size fz) ∧ c.size = L.total ∧ L.base + l.length ≤ c.size ∧
      (opn = false → L.base = 0 ∧ l.length = c.size) ∧ ∀ (i : Nat) (a : AV), l[i]? = some a → ∃ v, c[L.base + i]? = some v ∧ VRel E a v
  | .map es clock => L.base = 0 ∧ ∃ ces : Array MapEntry, w.heap[L.block]? = some (.map ces clock) ∧ ERel E es ces.toList
  | .iter m since seen stepped => L.base = 0 ∧ ∃ cm, w.heap[L.block]? = some (.mapIter cm since seen.toArray stepped) ∧ VRel E (.map m) (.map cm)
  | .dead => True

theorem ORel.mono {E E' : Env} (hE : E.Le E') {L : Loc} {w : World} : ∀ {o : AO}, ORel E L w o → ORel E' L w o
  | .cells .., ⟨c, fz, h1, h2, h3, h4, h5⟩ => ⟨c, fz, h1, h2, h3, h4, fun i a hi => let ⟨v, hv, hr⟩ := h5 i a hi; ⟨v, hv, hr.mono hE⟩⟩
  | .map .., ⟨h0, c, h1, h2⟩ => ⟨h0, c, h1, h2.mono hE⟩
  | .iter .., ⟨h0, c, h1, h2⟩ => ⟨h0, c, h1, h2.mono hE⟩
  | .dead, _ => trivial
theorem ORel.heap {E : Env} {L : Loc} {w w' : World} (h : w'.heap[L.block]? = w.heap[L.block]?) : ∀ {o : AO}, ORel E L w o → ORel E L w' o
  | .cells .., ⟨c, fz, ⟨h1, hf⟩, h2⟩ => ⟨c, fz, ⟨h ▸ h1, hf⟩, h2⟩
  | .map .., ⟨h0, c, h1, h2⟩ => ⟨h0, c, h ▸ h1, h2⟩
  | .iter .., ⟨h0, c, h1, h2⟩ => ⟨h0, c, h ▸ h1, h2⟩
  | .dead, _ => trivial
theorem ORel.lt {E : Env} {L : Loc} {w : World} : ∀ {o : AO}, o.live = true → ORel E L w o → L.block < w.heap.size
  | .cells .., _, ⟨c, fz, ⟨h1, _⟩, _⟩ => (Array.getElem?_eq_some_iff.1 h1).1
  | .map .., _, ⟨_, c, h1, _⟩ => (Array.getElem?_eq_some_iff.1 h1).1
  | .iter .., _, ⟨_, c, h1, _⟩ => (Array.getElem?_eq_some_iff.1 h1).1
  | .dead, h, _ => by simp [AO.live] at h

/-- the outside is as it was -/
def Same (w w' : World) : Prop := w'.os = w.os ∧ w'.output = w.output
theorem Same.ns {E : Env} {w w' : World} (h : Same w w') (hn : (∃ ρ, E.sym.f = symVal ρ) ∧ w.os = E.sym.os ∧ w.output = E.sym.out) : (∃ ρ, E.sym.f = symVal ρ) ∧ w'.os = E.sym.os ∧ w'.output = E.sym.out :=
  ⟨hn.1, h.1.trans hn.2.1, h.2.trans hn.2.2⟩

structure Rel (E : Env) (aw : AW) (w : World) : Prop where
  nx : aw.nx = E.loc.length
  ns : (∃ ρ, E.sym.f = symVal ρ) ∧ w.os = E.sym.os ∧ w.output = E.sym.out
  obj : ∀ id o, aw.get id = some o → ∃ L, E.loc[id]? = some L ∧ ORel E L w o
  inj : ∀ i j oi oj Li Lj, aw.get i = some oi → aw.get j = some oj → oi.live = true → oj.live = true → E.loc[i]? = some Li → E.loc[j]? = some Lj →
    Li.block = Lj.block → i = j
  frame : ∀ b o, E.fr b = some o → w.heap[b]? = some o
  apart : ∀ i oi Li, aw.get i = some oi → oi.live = true → E.loc[i]? = some Li → E.fr Li.block = none

/-- memory as it was, but for one block -/
theorem Rel.update {E : Env} {aw : AW} {w w' : World} {id : Nat} {L : Loc} {o o' : AO} (h : Rel E aw w) (hs : Same w w') (hg : aw.get id = some o) (hlive : o.live = true) (hL : E.loc[id]? = some L)
    (hw : ∀ b, b ≠ L.block → w'.heap[b]? = w.heap[b]?) (ho : ORel E L w' o') : Rel E (aw.set id o') w' := by
  refine ⟨h.nx, hs.ns h.ns, fun j x hj => ?_, fun i j oi oj Li Lj hi hj li lj ei ej e => ?_, fun b ob hb => ?_, fun i oi Li hi li ei => ?_⟩
  rotate_left 2
  · rw [hw b fun e => by rw [e, h.apart id o L hg hlive hL] at hb; cases hb]
    exact h.frame b ob hb
  · rcases AW.get_set hi with ⟨rfl, rfl⟩ | ⟨_, hi⟩
    · rw [hL] at ei; injection ei with ei; subst ei
      exact h.apart _ o _ hg hlive hL
    · exact h.apart i oi Li hi li ei
  · rcases AW.get_set hj with ⟨rfl, rfl⟩ | ⟨hne, hj⟩
    · exact ⟨L, hL, ho⟩
    · obtain ⟨L', hL', hr⟩ := h.obj j x hj
      refine ⟨L', hL', ?_⟩
      cases hx : x.live with
      | false => cases x <;> first | trivial | simp [AO.live] at hx
      | true => exact hr.heap (hw _ fun e => hne (h.inj j id x o L' L hj hg hx hlive hL' hL e))
  · rcases AW.get_set hi with ⟨e1, e2⟩ | ⟨hni, hi2⟩ <;> rcases AW.get_set hj with ⟨e3, e4⟩ | ⟨hnj, hj2⟩
    · rw [e1, e3]
    · rw [e1, hL] at ei; injection ei with ei; subst ei
      rw [e1]; exact h.inj _ _ o oj L Lj hg hj2 hlive lj hL ej e
    · rw [e3, hL] at ej; injection ej with ej; subst ej
      rw [e3]; exact h.inj _ _ oi o Li L hi2 hg li hlive ei hL e
    · exact h.inj _ _ oi oj Li Lj hi2 hj2 li lj ei ej e

/-- one block is written, and stands for the same object -/
theorem Rel.touch {E : Env} {aw : AW} {w w' : World} {id : Nat} {L : Loc} {o : AO} (h : Rel E aw w) (hs : Same w w') (hg : aw.get id = some o) (hlive : o.live = true) (hL : E.loc[id]? = some L)
    (hw : ∀ b, b ≠ L.block → w'.heap[b]? = w.heap[b]?) (ho : ORel E L w' o) : Rel E aw w' := by
  refine ⟨h.nx, hs.ns h.ns, fun j x hj => ?_, h.inj, fun b ob hb => ?_, h.apart⟩
  · by_cases e : j = id
    · subst e
      rw [hg] at hj; injection hj with hj; subst hj
      exact ⟨L, hL, ho⟩
    · obtain ⟨L', hL', hr⟩ := h.obj j x hj
      refine ⟨L', hL', ?_⟩
      cases hx : x.live with
      | false => cases x <;> first | trivial | simp [AO.live] at hx
      | true => exact hr.heap (hw _ fun q => e (h.inj j id x o L' L hj hg hx hlive hL' hL q))
  · rw [hw b fun e => by rw [e, h.apart id o L hg hlive hL] at hb; cases hb]
    exact h.frame b ob hb

def Env.put (E : Env) (L : Loc) : Env := { E with loc := E.loc ++ [L] }
theorem Env.put_le (E : Env) (L : Loc) : E.Le (E.put L) := ⟨⟨[L], rfl⟩, rfl, rfl⟩
theorem Env.put_new (E : Env) (L : Loc) : (E.put L).loc[E.loc.length]? = some L := by simp [Env.put]

/-- a new block -/
theorem Rel.add {E : Env} {aw : AW} {w w' : World} {o : AO} {L : Loc} (h : Rel E aw w) (hs : Same w w') (hw : ∀ b, b < w.heap.size → w'.heap[b]? = w.heap[b]?)
    (hb : w.heap.size ≤ L.block) (ho : ORel (E.put L) L w' o) : Rel (E.put L) (aw.add o) w' := by
  have hle := E.put_le L
  have hfl : ∀ b ob, E.fr b = some ob → b < w.heap.size := fun b ob hb => (Array.getElem?_eq_some_iff.1 (h.frame b ob hb)).1
  refine ⟨by simp [AW.add, Env.put, h.nx], hs.ns h.ns, fun j x hj => ?_, fun i j oi oj Li Lj hi hj li lj ei ej e => ?_, fun b ob hb => ?_, fun i oi Li hi li ei => ?_⟩
  rotate_left 2
  · rw [hw b (hfl b ob hb)]
    exact h.frame b ob hb
  · rcases AW.get_add hi with ⟨e1, e2⟩ | ⟨_, hi⟩
    · have new : (E.put L).loc[aw.nx]? = some L := h.nx ▸ E.put_new L
      rw [e1, new] at ei; injection ei with ei; subst ei
      show E.fr L.block = none
      cases hf : E.fr L.block with
      | none => rfl
      | some ob => have := hfl _ _ hf; omega
    · obtain ⟨L', hL', hr⟩ := h.obj i oi hi
      rw [hle.loc hL'] at ei; injection ei with ei; subst ei
      exact h.apart i oi _ hi li hL'
  · rcases AW.get_add hj with ⟨rfl, rfl⟩ | ⟨hne, hj⟩
    · exact ⟨L, h.nx ▸ E.put_new L, ho⟩
    · obtain ⟨L', hL', hr⟩ := h.obj j x hj
      refine ⟨L', hle.loc hL', ?_⟩
      cases hx : x.live with
      | false => cases x <;> first | trivial | simp [AO.live] at hx
      | true => exact (hr.heap (hw _ (hr.lt hx))).mono hle
  · have old : ∀ k ok Lk, aw.get k = some ok → ok.live = true → (E.put L).loc[k]? = some Lk → Lk.block < w.heap.size ∧ E.loc[k]? = some Lk := fun k ok Lk hk lk ek => by
      obtain ⟨L', hL', hr⟩ := h.obj k ok hk
      rw [hle.loc hL'] at ek; injection ek with ek; subst ek
      exact ⟨hr.lt lk, hL'⟩
    have new : (E.put L).loc[aw.nx]? = some L := h.nx ▸ E.put_new L
    rcases AW.get_add hi with ⟨e1, e2⟩ | ⟨hni, hi2⟩ <;> rcases AW.get_add hj with ⟨e3, e4⟩ | ⟨hnj, hj2⟩
    · rw [e1, e3]
    · rw [e1, new] at ei; injection ei with ei; subst ei
      have := (old j oj Lj hj2 lj ej).1
      omega
    · rw [e3, new] at ej; injection ej with ej; subst ej
      have := (old i oi Li hi2 li ei).1
      omega
    · exact h.inj i j oi oj Li Lj hi2 hj2 li lj (old i oi Li hi2 li ei).2 (old j oj Lj hj2 lj ej).2 e

theorem Rel.world {E : Env} {aw : AW} {w w' : World} (h : Rel E aw w) (hs : Same w w') (hw : w'.heap = w.heap) : Rel E aw w' :=
  ⟨h.nx, hs.ns h.ns, fun id o hg => let ⟨L, hL, hr⟩ := h.obj id o hg; ⟨L, hL, hr.heap (by rw [hw])⟩, h.inj, fun b o hb => by rw [hw]; exact h.frame b o hb, h.apart⟩

/-- what is forgotten -/
theorem Rel.drop {E : Env} {aw : AW} {w : World} {t : Tr AO} (h : Rel E aw w) (ht : ∀ id o, t.get id id = some o → o = .dead ∧ id < aw.nx ∨ aw.get id = some o) : Rel E { aw with heap := t } w := by
  refine ⟨h.nx, h.ns, fun id o hg => ?_, fun i j oi oj Li Lj hi hj li lj => ?_, h.frame, fun i oi Li hi li ei => ?_⟩
  rotate_left 2
  · rcases ht i oi hi with ⟨rfl, _⟩ | hi
    · simp [AO.live] at li
    · exact h.apart i oi Li hi li ei
  · rcases ht id o hg with ⟨rfl, hl⟩ | hg
    · rw [h.nx] at hl; exact ⟨E.loc[id], List.getElem?_eq_getElem hl, trivial⟩
    · exact h.obj id o hg
  · rcases ht i oi hi with ⟨rfl, _⟩ | hi
    · simp [AO.live] at li
    · rcases ht j oj hj with ⟨rfl, _⟩ | hj
      · simp [AO.live] at lj
      · exact h.inj i j oi oj Li Lj hi hj li lj
end Go.Proofs.YtbilacojhmohmaaGreat.Ae
