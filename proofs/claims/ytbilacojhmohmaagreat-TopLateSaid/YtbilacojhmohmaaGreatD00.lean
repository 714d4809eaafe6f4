/- An evaluator of Go code over abstract memory: its values, its memory, and how they stand for the model's. Read. No condition. -/
import Derived.OrdersHeld
import Derived.Laws.World
import Derived.Laws.Sem
import Derived.Laws.Cells
import Derived.Laws.Small
import Derived.Laws.Entries
set_option linter.unusedVariables false
set_option linter.unusedSimpArgs false
noncomputable section
namespace Go.Proofs.YtbilacojhmohmaaGreat.Ae
open Go
theorem nbt {a b : Nat} (h : Nat.beq a b = true) : a = b := Nat.eq_of_beq_eq_true h
theorem nbl {a b : Nat} (h : Nat.ble a b = true) : a ≤ b := Nat.le_of_ble_eq_true h
theorem sI {α : Type _} {a b : α} : (some a = some b) = (a = b) := Option.some.injEq a b
theorem lgs {α : Type _} {l : List α} {i : Nat} {a : α} : l[i]? = some a ↔ ∃ h : i < l.length, l[i] = a := List.getElem?_eq_some_iff
theorem lge {α : Type _} {l : List α} {i : Nat} (h : i < l.length) : l[i]? = some l[i] := List.getElem?_eq_getElem h
theorem agz {α : Type _} {l : Array α} {i : Nat} {a : α} : l[i]? = some a ↔ ∃ h : i < l.size, l[i] = a := Array.getElem?_eq_some_iff
theorem age {α : Type _} {l : Array α} {i : Nat} (h : i < l.size) : l[i]? = some l[i] := Array.getElem?_eq_getElem h
theorem pmi {α : Type _} {β : Type _} {a c : α} {b d : β} : ((a, b) = (c, d)) = (a = c ∧ b = d) := Prod.mk.injEq a b c d
theorem lar {α : Type _} {l m : List α} {i : Nat} (h : l.length ≤ i) : (l ++ m)[i]? = m[i - l.length]? := List.getElem?_append_right h
theorem lal {α : Type _} {l m : List α} {i : Nat} (h : i < l.length) : (l ++ m)[i]? = l[i]? := List.getElem?_append_left h
inductive Tr (α : Type) where
 | leaf
 | node (k : Nat) (v : α) (a b c d : Tr α)
def sel4 {β : Type} (r : Nat) (a b c d : β) : β := bif Nat.beq r 0 then a else bif Nat.beq r 1 then b else bif Nat.beq r 2 then c else d
def Tr.get {α : Type} : Tr α → Nat → Nat → Option α
 | .leaf, _, _ => none
 | .node k v a b c d, n, m => bif Nat.beq n k then some v else sel4 (Nat.mod m 4) (a.get n (Nat.div m 4)) (b.get n (Nat.div m 4)) (c.get n (Nat.div m 4)) (d.get n (Nat.div m 4))
def Tr.set {α : Type} : Tr α → Nat → Nat → α → Tr α
 | .leaf, n, _, x => .node n x .leaf .leaf .leaf .leaf
 | .node k v a b c d, n, m, x => bif Nat.beq n k then .node k x a b c d else
  sel4 (Nat.mod m 4) (.node k v (a.set n (Nat.div m 4) x) b c d) (.node k v a (b.set n (Nat.div m 4) x) c d) (.node k v a b (c.set n (Nat.div m 4) x) d) (.node k v a b c (d.set n (Nat.div m 4) x))
theorem sel4_ind {β : Type} (r : Nat) {p : β → Prop} {a b c d : β} (ha : r = 0 → p a) (hb : r = 1 → p b) (hc : r = 2 → p c) (hd : r ≠ 0 → r ≠ 1 → r ≠ 2 → p d) : p (sel4 r a b c d) := by
 unfold sel4
 cases h0 : Nat.beq r 0
 ·cases h1 : Nat.beq r 1
  ·cases h2 : Nat.beq r 2
   ·exact hd (fun e => by subst e; cases h0) (fun e => by subst e; cases h1) (fun e => by subst e; cases h2)
   ·exact hc (nbt h2)
  ·exact hb (nbt h1)
 ·exact ha (nbt h0)
theorem sel4_0 {β : Type} {a b c d : β} : sel4 0 a b c d = a := rfl
theorem sel4_1 {β : Type} {a b c d : β} : sel4 1 a b c d = b := rfl
theorem sel4_2 {β : Type} {a b c d : β} : sel4 2 a b c d = c := rfl
theorem sel4_3 {β : Type} {r : Nat} {a b c d : β} (h0 : r ≠ 0) (h1 : r ≠ 1) (h2 : r ≠ 2) : sel4 r a b c d = d :=
 sel4_ind r (p := fun x => x = d) (fun e => (h0 e).elim) (fun e => (h1 e).elim) (fun e => (h2 e).elim) (fun _ _ _ => rfl)
theorem ne_of_beq {a b : Nat} (hb : Nat.beq a b = false) : a ≠ b := fun e => by subst e; simp [Nat.beq_refl] at hb
theorem Tr.get_set_same {α : Type} {n : Nat} {x : α} : ∀ (t : Tr α) (m : Nat), (t.set n m x).get n m = some x
 | .leaf, m => by simp [Tr.set, Tr.get, Nat.beq_refl]
 | .node k v a b c d, m => by
  simp only [Tr.set]
  cases hk : Nat.beq n k with
  | true => simp [Tr.get, hk]
  | false =>
   simp only [cond_false]
   refine sel4_ind (Nat.mod m 4) (p := fun t => Tr.get t n m = some x) (fun e => ?_) (fun e => ?_) (fun e => ?_) (fun e0 e1 e2 => ?_)
   ·simp only [Tr.get, hk, cond_false, e, sel4_0]; exact Tr.get_set_same _ _
   ·simp only [Tr.get, hk, cond_false, e, sel4_1]; exact Tr.get_set_same _ _
   ·simp only [Tr.get, hk, cond_false, e, sel4_2]; exact Tr.get_set_same _ _
   ·simp only [Tr.get, hk, cond_false, sel4_3 e0 e1 e2]; exact Tr.get_set_same _ _
theorem Tr.get_set_other {α : Type} {j n : Nat} {x : α} (hne : j ≠ n) : ∀ (t : Tr α) (m i : Nat), (t.set n m x).get j i = t.get j i
 | .leaf, m, i => by
  simp only [Tr.set, Tr.get]
  cases hb : Nat.beq j n with
  | true => exact (hne (nbt hb)).elim
  | false => exact sel4_ind (Nat.mod i 4) (p := fun t => t = none) (fun _ => rfl) (fun _ => rfl) (fun _ => rfl) (fun _ _ _ => rfl)
 | .node k v a b c d, m, i => by
  simp only [Tr.set]
  cases hk : Nat.beq n k with
  | true =>
   have := nbt hk; subst this
   cases hj : Nat.beq j n with
   | true => exact (hne (nbt hj)).elim
   | false => simp [Tr.get, hj]
  | false =>
   simp only [cond_false]
   refine sel4_ind (Nat.mod m 4) (p := fun t => Tr.get t j i = Tr.get (.node k v a b c d) j i) (fun e => ?_) (fun e => ?_) (fun e => ?_) (fun e0 e1 e2 => ?_)
   all_goals simp only [Tr.get, Tr.get_set_other hne]
theorem Tr.get_set {α : Type} {j n : Nat} {x y : α} {t : Tr α} (h : (t.set n n x).get j j = some y) : (j = n ∧ y = x) ∨ (j ≠ n ∧ t.get j j = some y) := by
 by_cases e : j = n
 ·subst e; rw [Tr.get_set_same] at h; injection h with h; exact .inl ⟨rfl, h.symm⟩
 ·rw [Tr.get_set_other e] at h; exact .inr ⟨e, h⟩
inductive Cap where
 | known (n : Nat)
 | upto (sz lo : Nat)
inductive AV where
 | undef
 | int (k : IntKind) (n : Int)
 | sym (k : IntKind) (j : Nat)
 | bool (b : Bool)
 | str (l : List AV)
 | ptr (a : Option (Nat × Nat))
 | slc (a : Option (Nat × Nat)) (len : Nat) (cap : Cap)
 | map (r : Option Nat)
 | func (fn : Fn) (first captured : List AV)
 | nilFunc
 | iface (t : TypeId) (v : AV)
 | nilIface
 | agg (l : List AV)
 | tuple (l : List AV)
 | sl (j : Nat)
def crcBit (r : Nat) : Nat := Nat.xor (Nat.mod (Nat.mul r 2) 4294967296) (Nat.mul (Nat.div r 2147483648) 79764919)
def crcByte (r c : Nat) : Nat := crcBit (crcBit (crcBit (crcBit (crcBit (crcBit (crcBit (crcBit (Nat.xor r (Nat.mul c 16777216)))))))))
def crcSum (l : List Nat) : Nat := l.foldl crcByte 4294967295
def crcPart (q r : Nat) : Nat := Nat.mod (Nat.div r (match q with | 0 => 16777216 | 1 => 65536 | 2 => 256 | _ => 1)) 256
def encL : List Nat → Nat
 | [] => 0
 | e :: l => Nat.add e (Nat.mul 4294967296 (encL l))
def decL : Nat → Nat → List Nat
 | 0, _ => []
 | f + 1, d => match d with
  | 0 => []
  | d => Nat.mod d 4294967296 :: decL f (Nat.div d 4294967296)
def evalE (ρ : Nat → Nat) (e : Nat) : Nat := match Nat.mod e 2 with
 | 0 => ρ (Nat.div e 2 - 1) % 256
 | _ => Nat.div e 2
def symVal (ρ : Nat → Nat) (j : Nat) : Option Int := match Nat.mod j 2 with
 | 0 => some (Int.ofNat (ρ (Nat.div j 2) % 256))
 | _ => some (Int.ofNat (crcPart (Nat.mod (Nat.div j 2) 4) (crcSum ((decL 4096 (Nat.div (Nat.div j 2) 4)).map (evalE ρ)))))
structure Loc where
 block : Nat
 base : Nat
 total : Nat
structure SymW where
 f : Nat → Option Int
 os : Os
 out : Array (Nat × ByteArray)
 ls : Nat → List Nat
inductive Tok where
 | li (s o : Nat) (l : List Nat)
 | ob (o : Obj)
structure Env where
 loc : List Loc
 sym : SymW
 fr : Nat → Option Obj
 tk : Nat → Option Tok
def Env.Le (E E' : Env) : Prop := (∃ s, E'.loc = E.loc ++ s) ∧ E'.sym = E.sym ∧ E'.fr = E.fr ∧ ∀ b o, E.tk b = some o → E'.tk b = some o
theorem Env.Le.refl (E : Env) : E.Le E := ⟨⟨[], by simp⟩, rfl, rfl, fun _ _ h => h⟩
theorem Env.Le.trans {A B C : Env} (h : A.Le B) (h' : B.Le C) : A.Le C := by
 obtain ⟨⟨s, hs⟩, ht, hr, hf⟩ := h
 obtain ⟨⟨s', hs'⟩, ht', hr', hf'⟩ := h'
 exact ⟨⟨s ++ s', by rw [hs', hs, List.append_assoc]⟩, ht'.trans ht, hr'.trans hr, fun b o h => hf' b o (hf b o h)⟩
theorem get_append_of {α : Type} {l s : List α} {i : Nat} {x : α} (h : l[i]? = some x) : (l ++ s)[i]? = some x := by
 rw [lal]
 ·exact h
 ·exact (lgs.1 h).1
theorem Env.Le.loc {E E' : Env} (h : E.Le E') {i : Nat} {L : Loc} (hi : E.loc[i]? = some L) : E'.loc[i]? = some L := by
 obtain ⟨⟨s, hs⟩, _⟩ := h
 rw [hs]; exact get_append_of hi
theorem Env.Le.symb {E E' : Env} (h : E.Le E') {i : Nat} {n : Int} (hi : E.sym.f i = some n) : E'.sym.f i = some n := by
 obtain ⟨_, hs, _⟩ := h
 rw [hs]; exact hi
def subsL : List Nat → List (List Nat)
 | [] => [[]]
 | x :: l => subsL l ++ (subsL l).map (x :: ·)
def upTo : Nat → List Nat
 | 0 => []
 | n + 1 => upTo n ++ [n + 1]
def optsN (i : Nat) : List (List Nat) := (subsL (upTo i)).filter fun l => Nat.ble 1 l.length && Nat.ble l.length 4
def metB (j : Nat) (l : List Nat) : Bool :=
 bif Nat.beq (j / 8 % 4) 1 then l.all fun x => !Nat.testBit (j / 32) x else (bif Nat.beq (j / 8 % 4) 2 then l.any fun x => Nat.testBit (j / 32) x else true)
def optsJ (j : Nat) : List (List Nat) := (optsN (j % 8)).filter (metB j)
def okL (j : Nat) (l : List Nat) : Prop := l ∈ optsJ j
def SlAt (E : Env) (l : List Nat) (b o cap : Nat) : Prop := l.length ≤ cap ∧ ∃ s, E.tk b = some (.li s o l) ∧ o + cap ≤ s
theorem SlAt.mono {E E' : Env} (hE : E.Le E') {l : List Nat} {b o cap : Nat} : SlAt E l b o cap → SlAt E' l b o cap
 | ⟨h1, s, h2, h3⟩ => ⟨h1, s, hE.2.2.2 _ _ h2, h3⟩
mutual
inductive VRel (E : Env) : AV → Value → Prop
 | undef (v) : VRel E .undef v
 | int (k n) : VRel E (.int k n) (.int k n)
 | sym (k) {j n} (h : E.sym.f j = some n) (hw : k.wrap n = n) : VRel E (.sym k j) (.int k n)
 | bool (b) : VRel E (.bool b) (.bool b)
 | str {l s} (h : LRel E l (s.data.toList.map fun b => .int .u8 (b.toNat : Int))) : VRel E (.str l) (.string s)
 | nilPtr : VRel E (.ptr none) (.pointer none)
 | ptr {id o L} (h : E.loc[id]? = some L) : VRel E (.ptr (some (id, o))) (.pointer (some ⟨L.block, L.base + o, none⟩))
 | nilSlc : VRel E (.slc none 0 (.known 0)) (.slice none 0 0)
 | slc {id o len c a L} (h : E.loc[id]? = some L) (ha : (c = 0 ∧ len = 0) ∨ a = ⟨L.block, L.base + o, none⟩) : VRel E (.slc (some (id, o)) len (.known c)) (.slice (some a) len c)
 | slcUp {id o len sz lo a cap L} (h : E.loc[id]? = some L) (hl : len ≤ cap) (hlo : lo ≤ cap)
   (ha : cap = 0 ∨ (a = ⟨L.block, L.base + o, none⟩ ∧ L.base + o + cap * sz ≤ L.total)) : VRel E (.slc (some (id, o)) len (.upto sz lo)) (.slice (some a) len cap)
 | nilMap : VRel E (.map none) (.map none)
 | map {id L} (h : E.loc[id]? = some L) (hb : L.base = 0) : VRel E (.map (some id)) (.map (some L.block))
 | func (fn) {f c f' c'} (hf : LRel E f f'.toList) (hc : LRel E c c'.toList) : VRel E (.func fn f c) (.func fn f' c')
 | nilFunc : VRel E .nilFunc .nilFunc
 | iface (t) {v v'} (h : VRel E v v') : VRel E (.iface t v) (.iface t v')
 | nilIface : VRel E .nilIface .nilIface
 | agg {l cs} (h : LRel E l cs.toList) : VRel E (.agg l) (.agg cs)
 | tuple {l cs} (h : LRel E l cs.toList) : VRel E (.tuple l) (.tuple cs)
 | sl {j b o cap} (hk : okL j (E.sym.ls j)) (ha : SlAt E (E.sym.ls j) b o cap) : VRel E (.sl j) (.slice (some ⟨b, o, none⟩) (E.sym.ls j).length cap)
inductive LRel (E : Env) : List AV → List Value → Prop
 | nil : LRel E [] []
 | cons {a v l m} (h : VRel E a v) (t : LRel E l m) : LRel E (a :: l) (v :: m)
end
theorem Env.Le.sl {E E' : Env} (hE : E.Le E') {j b o cap : Nat} (hk : okL j (E.sym.ls j)) (ha : SlAt E (E.sym.ls j) b o cap) : VRel E' (.sl j) (.slice (some ⟨b, o, none⟩) (E.sym.ls j).length cap) := by
 have hs := hE.2.1
 rw [← hs] at hk ha ⊢
 exact .sl hk (ha.mono hE)
mutual
theorem VRel.mono {E E' : Env} (hE : E.Le E') : ∀ {a v}, VRel E a v → VRel E' a v
 | _, _, .undef v => .undef v
 | _, _, .int k n => .int k n
 | _, _, .sym k h hw => .sym k (hE.symb h) hw
 | _, _, .bool b => .bool b
 | _, _, .str h => .str (LRel.mono hE h)
 | _, _, .nilPtr => .nilPtr
 | _, _, .ptr h => .ptr (hE.loc h)
 | _, _, .nilSlc => .nilSlc
 | _, _, .slc h ha => .slc (hE.loc h) ha
 | _, _, .slcUp h hl hlo ha => .slcUp (hE.loc h) hl hlo ha
 | _, _, .nilMap => .nilMap
 | _, _, .map h hb => .map (hE.loc h) hb
 | _, _, .func fn hf hc => .func fn (LRel.mono hE hf) (LRel.mono hE hc)
 | _, _, .nilFunc => .nilFunc
 | _, _, .iface t h => .iface t (VRel.mono hE h)
 | _, _, .nilIface => .nilIface
 | _, _, .agg h => .agg (LRel.mono hE h)
 | _, _, .tuple h => .tuple (LRel.mono hE h)
 | _, _, .sl hk ha => hE.sl hk ha
theorem LRel.mono {E E' : Env} (hE : E.Le E') : ∀ {a v}, LRel E a v → LRel E' a v
 | _, _, .nil => .nil
 | _, _, .cons h t => .cons (VRel.mono hE h) (LRel.mono hE t)
end
theorem LRel.length {E : Env} : ∀ {l m}, LRel E l m → l.length = m.length
 | _, _, .nil => rfl
 | _, _, .cons _ t => by simp [LRel.length t]
theorem LRel.get {E : Env} : ∀ {l m}, LRel E l m → ∀ {i : Nat} {a : AV}, l[i]? = some a → ∃ v, m[i]? = some v ∧ VRel E a v
 | _, _, .nil, i, a, h => by simp at h
 | _, _, .cons h t, 0, a, e => by simp at e; subst e; exact ⟨_, rfl, h⟩
 | _, _, .cons h t, i + 1, a, e => by simp at e; obtain ⟨v, hv, hr⟩ := LRel.get t e; exact ⟨v, by simpa using hv, hr⟩
theorem LRel.append {E : Env} : ∀ {l m l' m'}, LRel E l m → LRel E l' m' → LRel E (l ++ l') (m ++ m')
 | _, _, _, _, .nil, h => h
 | _, _, _, _, .cons h t, h' => .cons h (LRel.append t h')
theorem LRel.of_get {E : Env} : ∀ {l : List AV} {m : List Value}, l.length = m.length → (∀ (i : Nat) (a : AV), l[i]? = some a → ∃ v, m[i]? = some v ∧ VRel E a v) → LRel E l m
 | [], [], _, _ => .nil
 | a :: l, v :: m, hl, h => by
  obtain ⟨v', hv', hr⟩ := h 0 a rfl
  simp at hv'; subst hv'
  refine .cons hr (LRel.of_get (by simpa using hl) fun i b hb => ?_)
  obtain ⟨u, hu, hr⟩ := h (i + 1) b (by simpa using hb)
  exact ⟨u, by simpa using hu, hr⟩
 | [], _ :: _, hl, _ => by simp at hl
 | _ :: _, [], hl, _ => by simp at hl
theorem LRel.drop {E : Env} : ∀ {l m} (_ : LRel E l m) (n : Nat), LRel E (l.drop n) (m.drop n)
 | _, _, h, 0 => h
 | _, _, .nil, n + 1 => by simpa using LRel.nil
 | _, _, .cons _ t, n + 1 => by simpa using LRel.drop t n
theorem LRel.take {E : Env} : ∀ {l m} (_ : LRel E l m) (n : Nat), LRel E (l.take n) (m.take n)
 | _, _, _, 0 => by simpa using LRel.nil
 | _, _, .nil, n + 1 => by simpa using LRel.nil
 | _, _, .cons h t, n + 1 => by simpa using LRel.cons h (LRel.take t n)
structure AEnt where
 key : AV
 val : AV
 born : Nat
def Fz (n : Nat) (fz : Nat × Nat) : Prop := fz.1 = fz.2 ∨ n ≤ fz.1
theorem Fz.none {n o : Nat} {fz : Nat × Nat} (h : Fz n fz) (ho : o < n) : (decide (fz.1 ≤ o) && decide (o < fz.2)) = false := by
 rw [Bool.and_eq_false_iff]
 rcases h with h | h
 ·by_cases h1 : fz.1 ≤ o
  ·exact .inr (decide_eq_false (by omega))
  ·exact .inl (decide_eq_false h1)
 ·exact .inl (decide_eq_false (by omega))
inductive CT where
 | av (a : AV)
 | anyI (k : IntKind)
 | anyB
 | oneOf (l : List AV)
def CT.ok (E : Env) (v : Value) : CT → Prop
 | .av a => VRel E a v
 | .anyI k => ∃ n : Int, v = .int k n
 | .anyB => ∃ b : Bool, v = .bool b
 | .oneOf l => ∃ a ∈ l, VRel E a v
theorem CT.ok.mono {E E' : Env} (hE : E.Le E') {v : Value} : ∀ {t : CT}, t.ok E v → t.ok E' v
 | .av a, h => VRel.mono hE h
 | .anyI _, h => h
 | .anyB, h => h
 | .oneOf l, ⟨a, ha, h⟩ => ⟨a, ha, VRel.mono hE h⟩
def dataB (len q : Nat) : AV := bif Nat.blt q len then .sym .u8 (2 * q) else .int .u8 (.ofNat 0)
def lineL (len k i : Nat) : List AV := ((List.range k).map fun j => AV.int .u8 (bif Nat.beq j i then .ofNat 1 else .ofNat 0)) ++ [dataB len (2 * i), dataB len (2 * i + 1)]
def LineAt (E : Env) (len k i : Nat) (v : Value) : Prop := ∃ (b o cap : Nat) (c : Array Value) (fz : Nat × Nat), v = .slice (some ⟨b, o, none⟩) (k + 2) cap ∧ k + 2 ≤ cap ∧ o + cap ≤ c.size ∧ E.tk b = some (.ob (.cells c 5 fz)) ∧ ∀ (j : Nat) (a : AV), (lineL len k i)[j]? = some a → ∃ x, c[o + j]? = some x ∧ VRel E a x
theorem LineAt.mono {E E' : Env} (hE : E.Le E') {len k i : Nat} {v : Value} : LineAt E len k i v → LineAt E' len k i v
 | ⟨b, o, cap, c, fz, h1, h2, h3, h4, h5⟩ => ⟨b, o, cap, c, fz, h1, h2, h3, hE.2.2.2 _ _ h4, fun j a ha => let ⟨x, hx, hr⟩ := h5 j a ha; ⟨x, hx, hr.mono hE⟩⟩
inductive GT where
 | ty (ts : List CT) (e : TypeId)
 | tym (k : IntKind)
 | lin (len k n : Nat) (β : Nat → Bool)
def genP (E : Env) (L : Loc) (w : World) : GT → Prop
 | .ty ts e => ∃ (c : Array Value) (fz : Nat × Nat), (w.heap[L.block]? = some (.cells c e fz) ∧ Fz c.size fz) ∧ c.size = L.total ∧ L.base = 0 ∧ ts.length = c.size ∧ ∀ (i : Nat) (t : CT), ts[i]? = some t → ∃ v, c[i]? = some v ∧ t.ok E v
 | .tym k => L.base = 0 ∧ ∃ (ces : Array MapEntry) (clock : Nat), w.heap[L.block]? = some (.map ces clock) ∧ ∀ f ∈ ces.toList, (∃ n : Int, f.key = .int k n) ∧ ∃ b : Bool, f.val = .bool b
 | .lin len k n β => L.base = 0 ∧ ∃ (ces : Array MapEntry) (clock : Nat), w.heap[L.block]? = some (.map ces clock) ∧ ces.size = n ∧ (∀ f ∈ ces.toList, ∃ i, i < k ∧ β i = true ∧ f.key = .int .i64 (.ofNat i) ∧ LineAt E len k i f.val) ∧
   (∀ i, i < k → β i = true → ∃ f ∈ ces.toList, f.key = .int .i64 (.ofNat i)) ∧ (∀ f ∈ ces.toList, f.born < clock) ∧ (ces.toList.map (·.born)).Nodup ∧ (ces.toList.map (·.key)).Nodup
theorem genP.mono {E E' : Env} (hE : E.Le E') {L : Loc} {w : World} : ∀ {g : GT}, genP E L w g → genP E' L w g
 | .ty .., ⟨c, fz, h1, h2, h3, h4, h5⟩ => ⟨c, fz, h1, h2, h3, h4, fun i t ht => let ⟨v, hv, hr⟩ := h5 i t ht; ⟨v, hv, hr.mono hE⟩⟩
 | .tym .., h => h
 | .lin .., ⟨h0, ces, clock, h1, h2, h3, h4⟩ => ⟨h0, ces, clock, h1, h2, fun f hf => let ⟨i, q1, q2, q3, q4⟩ := h3 f hf; ⟨i, q1, q2, q3, q4.mono hE⟩, h4⟩
theorem genP.heap {E : Env} {L : Loc} {w w' : World} (h : w'.heap[L.block]? = w.heap[L.block]?) : ∀ {g : GT}, genP E L w g → genP E L w' g
 | .ty .., ⟨c, fz, ⟨h1, hf⟩, h2⟩ => ⟨c, fz, ⟨h ▸ h1, hf⟩, h2⟩
 | .tym .., ⟨h0, c, k, h1, h2⟩ => ⟨h0, c, k, h ▸ h1, h2⟩
 | .lin .., ⟨h0, c, k, h1, h2⟩ => ⟨h0, c, k, h ▸ h1, h2⟩
theorem genP.lt {E : Env} {L : Loc} {w : World} : ∀ {g : GT}, genP E L w g → L.block < w.heap.size
 | .ty .., ⟨c, fz, ⟨h1, _⟩, _⟩ => (agz.1 h1).1
 | .tym .., ⟨_, c, k, h1, _⟩ => (agz.1 h1).1
 | .lin .., ⟨_, c, k, h1, _⟩ => (agz.1 h1).1
inductive AO where
 | cells (l : List AV) (elem : TypeId) (opn : Bool)
 | map (es : List AEnt) (clock : Nat)
 | iter (m : Option Nat) (since : Nat) (seen : List Nat) (stepped : Nat)
 | dead
 | rom (l : List AV) (elem : TypeId)
 | gen (g : GT)
def AO.live : AO → Bool
 | .dead => false
 | .rom .. => false
 | _ => true
def AO.read : AO → Option (List AV)
 | .cells l _ _ => some l
 | .rom l _ => some l
 | _ => none
structure AW where
 heap : Tr AO
 nx : Nat
 ns : Nat
def AW.get (aw : AW) (id : Nat) : Option AO := aw.heap.get id id
def AW.set (aw : AW) (id : Nat) (o : AO) : AW := { aw with heap := aw.heap.set id id o }
def AW.add (aw : AW) (o : AO) : AW := { aw with heap := aw.heap.set aw.nx aw.nx o, nx := aw.nx + 1 }
theorem AW.get_set {aw : AW} {id j : Nat} {o x : AO} (h : (aw.set id o).get j = some x) : (j = id ∧ x = o) ∨ (j ≠ id ∧ aw.get j = some x) :=
 Tr.get_set h
theorem AW.get_add {aw : AW} {j : Nat} {o x : AO} (h : (aw.add o).get j = some x) : (j = aw.nx ∧ x = o) ∨ (j ≠ aw.nx ∧ aw.get j = some x) :=
 Tr.get_set h
inductive ERel (E : Env) : List AEnt → List MapEntry → Prop
 | nil : ERel E [] []
 | cons {e f l m} (hk : VRel E e.key f.key) (hv : VRel E e.val f.val) (hb : e.born = f.born) (t : ERel E l m) : ERel E (e :: l) (f :: m)
theorem ERel.mono {E E' : Env} (hE : E.Le E') : ∀ {l m}, ERel E l m → ERel E' l m
 | _, _, .nil => .nil
 | _, _, .cons hk hv hb t => .cons (hk.mono hE) (hv.mono hE) hb (ERel.mono hE t)
def ORel (E : Env) (L : Loc) (w : World) : AO → Prop
 | .cells l e opn => ∃ (c : Array Value) (fz : Nat × Nat), (w.heap[L.block]? = some (.cells c e fz) ∧ Fz c.size fz) ∧ c.size = L.total ∧ L.base + l.length ≤ c.size ∧
   (opn = false → L.base = 0 ∧ l.length = c.size) ∧ ∀ (i : Nat) (a : AV), l[i]? = some a → ∃ v, c[L.base + i]? = some v ∧ VRel E a v
 | .map es clock => L.base = 0 ∧ ∃ ces : Array MapEntry, w.heap[L.block]? = some (.map ces clock) ∧ ERel E es ces.toList
 | .iter m since seen stepped => L.base = 0 ∧ ∃ cm, w.heap[L.block]? = some (.mapIter cm since seen.toArray stepped) ∧ VRel E (.map m) (.map cm)
 | .dead => True
 | .rom l e => (∃ (c : Array Value) (fz : Nat × Nat), (∃ e' : TypeId, E.tk L.block = some (.ob (.cells c e' fz))) ∧ c.size = L.total ∧ L.base + l.length ≤ c.size ∧ ∀ (i : Nat) (a : AV), l[i]? = some a → ∃ v, c[L.base + i]? = some v ∧ VRel E a v) ∨
   ∃ R : List Nat, e = 28 ∧ (l = R.map fun n => AV.int .u32 (.ofNat n)) ∧ E.tk L.block = some (.li L.total L.base R)
 | .gen g => genP E L w g
theorem ORel.mono {E E' : Env} (hE : E.Le E') {L : Loc} {w : World} : ∀ {o : AO}, ORel E L w o → ORel E' L w o
 | .cells .., ⟨c, fz, h1, h2, h3, h4, h5⟩ => ⟨c, fz, h1, h2, h3, h4, fun i a hi => let ⟨v, hv, hr⟩ := h5 i a hi; ⟨v, hv, hr.mono hE⟩⟩
 | .map .., ⟨h0, c, h1, h2⟩ => ⟨h0, c, h1, h2.mono hE⟩
 | .iter .., ⟨h0, c, h1, h2⟩ => ⟨h0, c, h1, h2.mono hE⟩
 | .dead, _ => trivial
 | .rom .., .inl ⟨c, fz, h1, h2, h3, h5⟩ => .inl ⟨c, fz, h1.imp fun _ h => hE.2.2.2 _ _ h, h2, h3, fun i a hi => let ⟨v, hv, hr⟩ := h5 i a hi; ⟨v, hv, hr.mono hE⟩⟩
 | .rom .., .inr ⟨R, h1, h2, h3⟩ => .inr ⟨R, h1, h2, hE.2.2.2 _ _ h3⟩
 | .gen g, h => genP.mono hE h
theorem ORel.heap {E : Env} {L : Loc} {w w' : World} (h : w'.heap[L.block]? = w.heap[L.block]?) : ∀ {o : AO}, ORel E L w o → ORel E L w' o
 | .cells .., ⟨c, fz, ⟨h1, hf⟩, h2⟩ => ⟨c, fz, ⟨h ▸ h1, hf⟩, h2⟩
 | .map .., ⟨h0, c, h1, h2⟩ => ⟨h0, c, h ▸ h1, h2⟩
 | .iter .., ⟨h0, c, h1, h2⟩ => ⟨h0, c, h ▸ h1, h2⟩
 | .dead, _ => trivial
 | .rom .., h => h
 | .gen g, hG => genP.heap h hG
theorem ORel.lt {E : Env} {L : Loc} {w : World} : ∀ {o : AO}, o.live = true → ORel E L w o → L.block < w.heap.size
 | .cells .., _, ⟨c, fz, ⟨h1, _⟩, _⟩ => (agz.1 h1).1
 | .map .., _, ⟨_, c, h1, _⟩ => (agz.1 h1).1
 | .iter .., _, ⟨_, c, h1, _⟩ => (agz.1 h1).1
 | .dead, h, _ => by simp [AO.live] at h
 | .rom .., h, _ => by simp [AO.live] at h
 | .gen g, _, h => genP.lt h
def Same (w w' : World) : Prop := w'.os = w.os ∧ w'.output = w.output
theorem Same.ns {E : Env} {w w' : World} (h : Same w w') (hn : (∃ ρ, E.sym.f = symVal ρ) ∧ w.os = E.sym.os ∧ w.output = E.sym.out) : (∃ ρ, E.sym.f = symVal ρ) ∧ w'.os = E.sym.os ∧ w'.output = E.sym.out :=
 ⟨hn.1, h.1.trans hn.2.1, h.2.trans hn.2.2⟩
def TokAt (w : World) (b : Nat) : Tok → Prop
 | .li s o l => ∃ (c : Array Value) (fz : Nat × Nat), w.heap[b]? = some (.cells c 28 fz) ∧ Fz c.size fz ∧ c.size = s ∧ o + l.length ≤ s ∧ ∀ (i n : Nat), l[i]? = some n → c[o + i]? = some (.int .u32 (.ofNat n))
 | .ob o => w.heap[b]? = some o
theorem TokAt.heap {w w' : World} {b : Nat} (h : w'.heap[b]? = w.heap[b]?) : ∀ {x : Tok}, TokAt w b x → TokAt w' b x
 | .li .., ⟨c, fz, h1, h2⟩ => ⟨c, fz, h.trans h1, h2⟩
 | .ob _, h1 => h.trans h1
theorem TokAt.lt {w : World} {b : Nat} : ∀ {x : Tok}, TokAt w b x → b < w.heap.size
 | .li .., ⟨c, fz, h1, h2⟩ => (agz.1 h1).1
 | .ob _, h1 => (agz.1 h1).1
def TokOK (E : Env) (aw : AW) (w : World) : Prop := (∀ b x, E.tk b = some x → TokAt w b x ∧ E.fr b = none) ∧ ∀ i oi Li, aw.get i = some oi → oi.live = true → E.loc[i]? = some Li → E.tk Li.block = none
structure Rel (E : Env) (aw : AW) (w : World) : Prop where
 nx : aw.nx = E.loc.length
 ns : (∃ ρ, E.sym.f = symVal ρ) ∧ w.os = E.sym.os ∧ w.output = E.sym.out
 obj : ∀ id o, aw.get id = some o → ∃ L, E.loc[id]? = some L ∧ ORel E L w o
 inj : ∀ i j oi oj Li Lj, aw.get i = some oi → aw.get j = some oj → oi.live = true → oj.live = true → E.loc[i]? = some Li → E.loc[j]? = some Lj →
  Li.block = Lj.block → i = j
 frame : ∀ b o, E.fr b = some o → w.heap[b]? = some o
 apart : ∀ i oi Li, aw.get i = some oi → oi.live = true → E.loc[i]? = some Li → E.fr Li.block = none
 tok : TokOK E aw w
theorem Rel.update {E : Env} {aw : AW} {w w' : World} {id : Nat} {L : Loc} {o o' : AO} (h : Rel E aw w) (hs : Same w w') (hg : aw.get id = some o) (hlive : o.live = true) (hL : E.loc[id]? = some L)
  (hw : ∀ b, b ≠ L.block → w'.heap[b]? = w.heap[b]?) (ho : ORel E L w' o') : Rel E (aw.set id o') w' := by
 refine ⟨h.nx, hs.ns h.ns, fun j x hj => ?_, fun i j oi oj Li Lj hi hj li lj ei ej e => ?_, fun b ob hb => ?_, fun i oi Li hi li ei => ?_, fun b ob hb => ?_, fun i oi Li hi li ei => ?_⟩
 rotate_left 2
 ·rw [hw b fun e => by rw [e, h.apart id o L hg hlive hL] at hb; cases hb]
  exact h.frame b ob hb
 ·rcases AW.get_set hi with ⟨rfl, rfl⟩ | ⟨_, hi⟩
  ·rw [hL] at ei; injection ei with ei; subst ei
   exact h.apart _ o _ hg hlive hL
  ·exact h.apart i oi Li hi li ei
 ·obtain ⟨q1, q2⟩ := h.tok.1 b ob hb
  exact ⟨q1.heap (hw b fun e => by rw [e, h.tok.2 id o L hg hlive hL] at hb; cases hb), q2⟩
 ·rcases AW.get_set hi with ⟨rfl, rfl⟩ | ⟨_, hi⟩
  ·rw [hL] at ei; injection ei with ei; subst ei
   exact h.tok.2 _ o _ hg hlive hL
  ·exact h.tok.2 i oi Li hi li ei
 ·rcases AW.get_set hj with ⟨rfl, rfl⟩ | ⟨hne, hj⟩
  ·exact ⟨L, hL, ho⟩
  ·obtain ⟨L', hL', hr⟩ := h.obj j x hj
   refine ⟨L', hL', ?_⟩
   cases hx : x.live with
   | false => cases x <;> first | trivial | exact hr | exact hr.mono hle | simp [AO.live] at hx
   | true => exact hr.heap (hw _ fun e => hne (h.inj j id x o L' L hj hg hx hlive hL' hL e))
 ·rcases AW.get_set hi with ⟨e1, e2⟩ | ⟨hni, hi2⟩ <;> rcases AW.get_set hj with ⟨e3, e4⟩ | ⟨hnj, hj2⟩
  ·rw [e1, e3]
  ·rw [e1, hL] at ei; injection ei with ei; subst ei
   rw [e1]; exact h.inj _ _ o oj L Lj hg hj2 hlive lj hL ej e
  ·rw [e3, hL] at ej; injection ej with ej; subst ej
   rw [e3]; exact h.inj _ _ oi o Li L hi2 hg li hlive ei hL e
  ·exact h.inj _ _ oi oj Li Lj hi2 hj2 li lj ei ej e
theorem Rel.touch {E : Env} {aw : AW} {w w' : World} {id : Nat} {L : Loc} {o : AO} (h : Rel E aw w) (hs : Same w w') (hg : aw.get id = some o) (hlive : o.live = true) (hL : E.loc[id]? = some L)
  (hw : ∀ b, b ≠ L.block → w'.heap[b]? = w.heap[b]?) (ho : ORel E L w' o) : Rel E aw w' := by
 refine ⟨h.nx, hs.ns h.ns, fun j x hj => ?_, h.inj, fun b ob hb => ?_, h.apart, fun b ob hb => ?_, h.tok.2⟩
 ·by_cases e : j = id
  ·subst e
   rw [hg] at hj; injection hj with hj; subst hj
   exact ⟨L, hL, ho⟩
  ·obtain ⟨L', hL', hr⟩ := h.obj j x hj
   refine ⟨L', hL', ?_⟩
   cases hx : x.live with
   | false => cases x <;> first | trivial | exact hr | exact hr.mono hle | simp [AO.live] at hx
   | true => exact hr.heap (hw _ fun q => e (h.inj j id x o L' L hj hg hx hlive hL' hL q))
 ·rw [hw b fun e => by rw [e, h.apart id o L hg hlive hL] at hb; cases hb]
  exact h.frame b ob hb
 ·obtain ⟨q1, q2⟩ := h.tok.1 b ob hb
  exact ⟨q1.heap (hw b fun e => by rw [e, h.tok.2 id o L hg hlive hL] at hb; cases hb), q2⟩
def Env.put (E : Env) (L : Loc) : Env := { E with loc := E.loc ++ [L] }
theorem Env.put_le (E : Env) (L : Loc) : E.Le (E.put L) := ⟨⟨[L], rfl⟩, rfl, rfl, fun _ _ h => h⟩
theorem Env.put_new (E : Env) (L : Loc) : (E.put L).loc[E.loc.length]? = some L := by simp [Env.put]
theorem Rel.add {E : Env} {aw : AW} {w w' : World} {o : AO} {L : Loc} (h : Rel E aw w) (hs : Same w w') (hw : ∀ b, b < w.heap.size → w'.heap[b]? = w.heap[b]?)
  (hb : w.heap.size ≤ L.block) (ho : ORel (E.put L) L w' o) : Rel (E.put L) (aw.add o) w' := by
 have hle := E.put_le L
 have hfl : ∀ b ob, E.fr b = some ob → b < w.heap.size := fun b ob hb => (agz.1 (h.frame b ob hb)).1
 have htl : ∀ b ob, E.tk b = some ob → b < w.heap.size := fun b ob hb => (h.tok.1 b ob hb).1.lt
 refine ⟨by simp [AW.add, Env.put, h.nx], hs.ns h.ns, fun j x hj => ?_, fun i j oi oj Li Lj hi hj li lj ei ej e => ?_, fun b ob hb => ?_, fun i oi Li hi li ei => ?_, fun b ob hb => ?_, fun i oi Li hi li ei => ?_⟩
 rotate_left 2
 ·rw [hw b (hfl b ob hb)]
  exact h.frame b ob hb
 ·rcases AW.get_add hi with ⟨e1, e2⟩ | ⟨_, hi⟩
  ·have new : (E.put L).loc[aw.nx]? = some L := h.nx ▸ E.put_new L
   rw [e1, new] at ei; injection ei with ei; subst ei
   show E.fr L.block = none
   cases hf : E.fr L.block with
   | none => rfl
   | some ob => have := hfl _ _ hf; omega
  ·obtain ⟨L', hL', hr⟩ := h.obj i oi hi
   rw [hle.loc hL'] at ei; injection ei with ei; subst ei
   exact h.apart i oi _ hi li hL'
 ·obtain ⟨q1, q2⟩ := h.tok.1 b ob hb
  exact ⟨q1.heap (hw b (htl b ob hb)), q2⟩
 ·rcases AW.get_add hi with ⟨e1, e2⟩ | ⟨_, hi⟩
  ·have new : (E.put L).loc[aw.nx]? = some L := h.nx ▸ E.put_new L
   rw [e1, new] at ei; injection ei with ei; subst ei
   show E.tk L.block = none
   cases hf : E.tk L.block with
   | none => rfl
   | some ob => have := htl _ _ hf; omega
  ·obtain ⟨L', hL', hr⟩ := h.obj i oi hi
   rw [hle.loc hL'] at ei; injection ei with ei; subst ei
   exact h.tok.2 i oi _ hi li hL'
 ·rcases AW.get_add hj with ⟨rfl, rfl⟩ | ⟨hne, hj⟩
  ·exact ⟨L, h.nx ▸ E.put_new L, ho⟩
  ·obtain ⟨L', hL', hr⟩ := h.obj j x hj
   refine ⟨L', hle.loc hL', ?_⟩
   cases hx : x.live with
   | false => cases x <;> first | trivial | exact hr | exact hr.mono hle | simp [AO.live] at hx
   | true => exact (hr.heap (hw _ (hr.lt hx))).mono hle
 ·have old : ∀ k ok Lk, aw.get k = some ok → ok.live = true → (E.put L).loc[k]? = some Lk → Lk.block < w.heap.size ∧ E.loc[k]? = some Lk := fun k ok Lk hk lk ek => by
   obtain ⟨L', hL', hr⟩ := h.obj k ok hk
   rw [hle.loc hL'] at ek; injection ek with ek; subst ek
   exact ⟨hr.lt lk, hL'⟩
  have new : (E.put L).loc[aw.nx]? = some L := h.nx ▸ E.put_new L
  rcases AW.get_add hi with ⟨e1, e2⟩ | ⟨hni, hi2⟩ <;> rcases AW.get_add hj with ⟨e3, e4⟩ | ⟨hnj, hj2⟩
  ·rw [e1, e3]
  ·rw [e1, new] at ei; injection ei with ei; subst ei
   have := (old j oj Lj hj2 lj ej).1
   omega
  ·rw [e3, new] at ej; injection ej with ej; subst ej
   have := (old i oi Li hi2 li ei).1
   omega
  ·exact h.inj i j oi oj Li Lj hi2 hj2 li lj (old i oi Li hi2 li ei).2 (old j oj Lj hj2 lj ej).2 e
theorem Rel.world {E : Env} {aw : AW} {w w' : World} (h : Rel E aw w) (hs : Same w w') (hw : w'.heap = w.heap) : Rel E aw w' :=
 ⟨h.nx, hs.ns h.ns, fun id o hg => let ⟨L, hL, hr⟩ := h.obj id o hg; ⟨L, hL, hr.heap (by rw [hw])⟩, h.inj, fun b o hb => by rw [hw]; exact h.frame b o hb, h.apart, fun b o hb => let ⟨q1, q2⟩ := h.tok.1 b o hb; ⟨q1.heap (by rw [hw]), q2⟩, h.tok.2⟩
theorem Rel.drop {E : Env} {aw : AW} {w : World} {t : Tr AO} (h : Rel E aw w) (ht : ∀ id o, t.get id id = some o → o = .dead ∧ id < aw.nx ∨ aw.get id = some o) : Rel E { aw with heap := t } w := by
 refine ⟨h.nx, h.ns, fun id o hg => ?_, fun i j oi oj Li Lj hi hj li lj => ?_, h.frame, fun i oi Li hi li ei => ?_, h.tok.1, fun i oi Li hi li ei => ?_⟩
 rotate_left 2
 ·rcases ht i oi hi with ⟨rfl, _⟩ | hi
  ·simp [AO.live] at li
  ·exact h.apart i oi Li hi li ei
 ·rcases ht i oi hi with ⟨rfl, _⟩ | hi
  ·simp [AO.live] at li
  ·exact h.tok.2 i oi Li hi li ei
 ·rcases ht id o hg with ⟨rfl, hl⟩ | hg
  ·rw [h.nx] at hl; exact ⟨E.loc[id], lge hl, trivial⟩
  ·exact h.obj id o hg
 ·rcases ht i oi hi with ⟨rfl, _⟩ | hi
  ·simp [AO.live] at li
  ·rcases ht j oj hj with ⟨rfl, _⟩ | hj
   ·simp [AO.live] at lj
   ·exact h.inj i j oi oj Li Lj hi hj li lj
theorem add_eq (b o n : Nat) : (⟨b, o, none⟩ : Addr).add n = ⟨b, o + n, none⟩ := by unfold Addr.add; split <;> simp_all
def splice (l : List AV) (o : Nat) (x : List AV) : List AV := l.take o ++ x ++ l.drop (o + x.length)
theorem splice_length {l x : List AV} {o : Nat} (h : o + x.length ≤ l.length) : (splice l o x).length = l.length := by
 simp [splice]; omega
theorem splice_get {l x : List AV} {o : Nat} (h : o + x.length ≤ l.length) (j : Nat) :
  (splice l o x)[j]? = if o ≤ j ∧ j < o + x.length then x[j - o]? else l[j]? := by
 have hto : (l.take o).length = o := by simp; omega
 unfold splice
 rw [List.append_assoc]
 by_cases h1 : j < o
 ·rw [lal (by omega), List.getElem?_take, if_pos h1, if_neg (by omega)]
 ·rw [lar (by omega), hto]
  by_cases h2 : j < o + x.length
  ·rw [lal (by omega), if_pos (by omega)]
  ·rw [lar (by omega), if_neg (by omega), List.getElem?_drop]
   congr 1; omega
theorem run_storeCells' {P : Program} {b o : Nat} {e : TypeId} {fz : Nat × Nat} : ∀ (vs : List Value) (i : Nat) (w : World) (c : Array Value), w.heap[b]? = some (.cells c e fz) → Fz c.size fz →
  o + i + vs.length ≤ c.size → (∀ v ∈ vs, v.oneCell' = true) →
  ∃ w' c', (storeCells ⟨b, o, none⟩ vs i).run P w = .ok () w' ∧ (Same w w' ∧ ∀ b', b' ≠ b → w'.heap[b']? = w.heap[b']?) ∧ w'.heap.size = w.heap.size ∧ w'.heap[b]? = some (.cells c' e fz) ∧ c'.size = c.size ∧
   ∀ j, c'[j]? = if o + i ≤ j ∧ j < o + i + vs.length then vs[j - (o + i)]? else c[j]?
 | [], i, w, c, hc, _, _, _ => ⟨w, c, rfl, ⟨⟨rfl, rfl⟩, fun _ _ => rfl⟩, rfl, hc, rfl, fun j => by rw [if_neg (by simp)]⟩
 | v :: vs, i, w, c, hc, hf, hs, h1 => by
  simp only [List.length_cons] at hs
  have hcell : w.cell? ⟨b, o + i, none⟩ = some (c[o + i]'(by omega)) := by
   simp [World.cell?, hc]
  have hfz : w.frozen? ⟨b, o + i, none⟩ = false := by
   have := hf.none (o := o + i) (by omega)
   obtain ⟨f1, f2⟩ := fz
   simp only [World.frozen?, hc]
   exact this
  have hst : (store ((⟨b, o, none⟩ : Addr).add i) v).run P w = .ok () (w.setCell ⟨b, o + i, none⟩ v) := by
   rw [add_eq, run_store P w _ v _ (h1 v (by simp))]
   simp [hcell, hfz]
  have hb : b < w.heap.size := (agz.1 hc).1
  have hheap : (w.setCell ⟨b, o + i, none⟩ v).heap[b]? = some (.cells (c.setIfInBounds (o + i) v) e fz) := by
   simp only [World.setCell, Array.getElem?_modify]
   simp [hc]
  obtain ⟨w', c', hr, ⟨hsm, ho⟩, hsz, hh, hcs, hj⟩ := run_storeCells' (P := P) (b := b) (o := o) (e := e) (fz := fz) vs (i + 1) (w.setCell ⟨b, o + i, none⟩ v) (c.setIfInBounds (o + i) v) hheap (by simpa using hf) (by simp only [Array.size_setIfInBounds]; omega) (fun x hx => h1 x (by simp [hx]))
  refine ⟨w', c', ?_, ⟨⟨hsm.1, hsm.2⟩, fun b' hb' => ?_⟩, ?_, hh, by simpa using hcs, fun j => ?_⟩
  ·simp only [storeCells, Sem.run_bind, hst, Result.andThen_ok]
   exact hr
  ·rw [ho b' hb']
   simp only [World.setCell, Array.getElem?_modify]
   simp [Ne.symm hb']
  ·rw [hsz]; simp [World.setCell]
  ·rw [hj j]
   simp only [List.length_cons]
   by_cases e1 : j = o + i
   ·subst e1
    rw [if_neg (by omega), if_pos (by omega)]
    rw [Array.getElem?_setIfInBounds_self_of_lt (by omega)]
    simp
   ·by_cases e2 : o + (i + 1) ≤ j ∧ j < o + (i + 1) + vs.length
    ·rw [if_pos e2, if_pos (by omega)]
     rw [show j - (o + i) = (j - (o + (i + 1))) + 1 by omega]
     simp
    ·rw [if_neg e2, if_neg (by omega)]
     simp [Array.getElem?_setIfInBounds, Ne.symm e1]
def AV.one : AV → Bool
 | .undef | .agg _ | .tuple _ => false
 | _ => true
theorem VRel.one {E : Env} {a : AV} {v : Value} (h : VRel E a v) (ha : a.one = true) : v.oneCell' = true := by
 cases h <;> first | rfl | simp [AV.one] at ha
def AV.cells : AV → Option (List AV)
 | .undef | .tuple _ => none
 | .agg l => some l
 | v => some [v]
theorem VRel.cells {E : Env} {a : AV} {v : Value} (h : VRel E a v) {l : List AV} (ha : a.cells = some l) : LRel E l v.cells.toList := by
 cases h <;> simp only [AV.cells, sI, reduceCtorEq] at ha <;> subst ha <;> first | assumption | exact .cons (by constructor <;> assumption) .nil
def allOne : List AV → Bool
 | [] => true
 | a :: l => bif a.one then allOne l else false
theorem allOne_spec {E : Env} : ∀ {l : List AV} {m : List Value}, LRel E l m → allOne l = true → ∀ v ∈ m, v.oneCell' = true
 | _, _, .nil, _, v, hv => by cases hv
 | _, _, .cons (a := a) h t, ha, v, hv => by
  simp only [allOne] at ha
  cases ho : a.one with
  | false => simp [ho] at ha
  | true =>
   simp only [ho, cond_true] at ha
   rcases List.mem_cons.1 hv with rfl | hv
   ·exact h.one ho
   ·exact allOne_spec t ha v hv
theorem Rel.at {E : Env} {aw : AW} {w : World} (h : Rel E aw w) {id o : Nat} {a : Addr} (hv : VRel E (.ptr (some (id, o))) (.pointer (some a))) {l : List AV} {x : AO}
  (hg : aw.get id = some x) (hx : x.read = some l) : ∃ L c e, E.loc[id]? = some L ∧ a = ⟨L.block, L.base + o, none⟩ ∧ (∃ fz, w.heap[L.block]? = some (.cells c e fz)) ∧ c.size = L.total ∧ L.base + l.length ≤ c.size ∧
   ∀ (i : Nat) (x : AV), l[i]? = some x → ∃ v, c[L.base + i]? = some v ∧ VRel E x v := by
 cases hv with
 | ptr hL =>
  rename_i L
  cases x with
  | cells l' e b =>
   simp only [AO.read, sI] at hx; subst hx
   obtain ⟨L', hL', c, fz, ⟨h1, _⟩, h2, h3, h4, h5⟩ := h.obj id _ hg
   rw [hL] at hL'; injection hL' with hL'; subst hL'
   exact ⟨L, c, e, hL, rfl, ⟨fz, h1⟩, h2, h3, h5⟩
  | rom l' e =>
   simp only [AO.read, sI] at hx; subst hx
   obtain ⟨L', hL', hor⟩ := h.obj id _ hg
   rw [hL] at hL'; injection hL' with hL'; subst hL'
   rcases hor with ⟨c, fz, ⟨e', h1⟩, h2, h3, h5⟩ | ⟨R, rfl, rfl, h3⟩
   ·exact ⟨L, c, e', hL, rfl, ⟨fz, (h.tok.1 _ _ h1).1⟩, h2, h3, h5⟩
   ·obtain ⟨c, fz, q1, q2, q3, q4, q5⟩ := (h.tok.1 _ _ h3).1
    refine ⟨L, c, 28, hL, rfl, ⟨fz, q1⟩, q3, by simpa [q3] using q4, fun i x hx => ?_⟩
    rw [List.getElem?_map] at hx
    cases hR : R[i]? with
    | none => rw [hR] at hx; cases hx
    | some n =>
     rw [hR] at hx; injection hx with hx; subst hx
     exact ⟨_, q5 i n hR, .int _ _⟩
  | map _ _ => simp [AO.read] at hx
  | iter _ _ _ _ => simp [AO.read] at hx
  | dead => simp [AO.read] at hx
  | gen _ => simp [AO.read] at hx
theorem load_cells {P : Program} {E : Env} {w : World} {L : Loc} {c : Array Value} {e : TypeId} {l : List AV} {o n : Nat}
  (h1 : ∃ fz, w.heap[L.block]? = some (.cells c e fz)) (h5 : ∀ (i : Nat) (x : AV), l[i]? = some x → ∃ v, c[L.base + i]? = some v ∧ VRel E x v) (hn : ((l.drop o).take n).length = n) :
  ∃ cs : List Value, (∀ w' : World, w'.heap = w.heap → (loadCells ⟨L.block, L.base + o, none⟩ n).run P w' = .ok cs.toArray w') ∧ LRel E ((l.drop o).take n) cs := by
 obtain ⟨fz, h1⟩ := h1
 have hlen : o + n ≤ l.length ∨ n = 0 := by simp at hn; omega
 by_cases hn0 : n = 0
 ·subst hn0; exact ⟨[], fun _ _ => rfl, by simpa using LRel.nil⟩
 replace hlen : o + n ≤ l.length := by omega
 have key : ∀ j, j < n → ∃ x v, l[o + j]? = some x ∧ c[L.base + (o + j)]? = some v ∧ VRel E x v := fun j hj => by
  obtain ⟨v, hv, hr⟩ := h5 (o + j) (l[o + j]'(by omega)) (lge _)
  exact ⟨_, v, lge _, hv, hr⟩
 let cs : List Value := (List.range n).map fun j => c.getD (L.base + (o + j)) undef
 have hcs : cs.length = n := by simp [cs]
 have hget : ∀ j, j < n → cs[j]? = c[L.base + (o + j)]? := fun j hj => by
  obtain ⟨x, v, _, hv, _⟩ := key j hj
  simp [cs, hj]
  rw [hv]; simp [hv]
 refine ⟨cs, fun w' hw' => ?_, LRel.of_get (by rw [hn, hcs]) fun j x hx => ?_⟩
 ·rw [← hw'] at h1
  have := run_loadCells_list (P := P) w' ⟨L.block, L.base + o, none⟩ cs (fun j v hv => by
   have hj : j < n := by rw [← hcs]; exact (lgs.1 hv).1
   rw [hget j hj] at hv
   rw [add_eq]
   simp [World.cell?, h1]
   rw [Nat.add_assoc]; exact hv)
  rwa [hcs] at this
 ·have hj : j < n := by
   have := (lgs.1 hx).1
   omega
  obtain ⟨x', v, hx', hv, hr⟩ := key j hj
  rw [List.getElem?_take, if_pos hj, List.getElem?_drop, hx'] at hx
  injection hx with hx; subst hx
  exact ⟨v, by rw [hget j hj, hv], hr⟩
theorem store_cells {P : Program} {E : Env} {aw : AW} {w : World} (h : Rel E aw w) {id o : Nat} {L : Loc} (hL : E.loc[id]? = some L) {l x : List AV} {e : TypeId} {opn : Bool}
  (hg : aw.get id = some (.cells l e opn)) {vs : List Value} (hx : LRel E x vs) (h1 : allOne x = true) (hb : o + x.length ≤ l.length) :
  ∃ w', (storeCells ⟨L.block, L.base + o, none⟩ vs).run P w = .ok () w' ∧ Rel E (aw.set id (.cells (splice l o x) e opn)) w' := by
 obtain ⟨L', hL', c, fz, ⟨g1, gf⟩, g2, g3, g4, g5⟩ := h.obj id _ hg
 rw [hL] at hL'; injection hL' with hL'; subst hL'
 have hlen := hx.length
 obtain ⟨w', c', hr, ⟨hsm, ho⟩, hsz, hh, hcs, hj⟩ := run_storeCells' (P := P) (b := L.block) (o := L.base + o) vs 0 w c g1 gf (by omega) (allOne_spec hx h1)
 refine ⟨w', hr, h.update hsm hg rfl hL ho ⟨c', fz, ⟨hh, by rw [hcs]; exact gf⟩, by omega, by rw [splice_length hb]; omega, fun hop => ?_, fun i a hi => ?_⟩⟩
 ·obtain ⟨q1, q2⟩ := g4 hop
  exact ⟨q1, by rw [splice_length hb]; omega⟩
 ·rw [splice_get hb] at hi
  rw [hj]
  by_cases hin : o ≤ i ∧ i < o + x.length
  ·rw [if_pos hin] at hi
   rw [if_pos (by omega)]
   obtain ⟨v, hv, hr⟩ := hx.get hi
   exact ⟨v, by rw [show L.base + i - (L.base + o + 0) = i - o by omega]; exact hv, hr⟩
  ·rw [if_neg hin] at hi
   rw [if_neg (by omega)]
   exact g5 i a hi
def kc : IntKind → Nat
 | .i8 => 0 | .i16 => 1 | .i32 => 2 | .i64 => 3 | .u8 => 4 | .u16 => 5 | .u32 => 6 | .u64 => 7
theorem kc_inj {a b : IntKind} (h : Nat.beq (kc a) (kc b) = true) : a = b := by
 have h := nbt h
 revert h; cases a <;> cases b <;> decide
def top : IntKind → Nat
 | .i8 => 127 | .i16 => 32767 | .i32 => 2147483647 | .i64 => 9223372036854775807 | .u8 => 255 | .u16 => 65535 | .u32 => 4294967295 | .u64 => 18446744073709551615
def wrapF (k : IntKind) (n : Int) : Int :=
 match n with
 | .ofNat m => bif Nat.ble m (top k) then .ofNat m else k.wrap n
 | .negSucc _ => k.wrap n
theorem wrapF_eq (k : IntKind) (n : Int) : wrapF k n = k.wrap n := by
 unfold wrapF
 cases n with
 | negSucc m => rfl
 | ofNat m =>
  simp only
  cases h : Nat.ble m (top k) with
  | false => rfl
  | true =>
   have h := nbl h
   simp only [cond_true]
   have e : (Int.ofNat m : Int) = (m : Int) := rfl
   rw [e]
   cases k <;> simp only [top] at h <;> simp only [IntKind.wrap, IntKind.bits, IntKind.signed] <;> simp <;> omega
def ilt : Int → Int → Bool
 | .ofNat m, .ofNat n => Nat.blt m n
 | .ofNat _, .negSucc _ => false
 | .negSucc _, .ofNat _ => true
 | .negSucc m, .negSucc n => Nat.blt n m
theorem ilt_eq (a b : Int) : ilt a b = decide (a < b) := by
 cases a <;> cases b <;> simp only [ilt, Nat.blt] <;> symm <;> rw [Bool.eq_iff_iff] <;> simp [Nat.ble_eq] <;> omega
def ieq : Int → Int → Bool
 | .ofNat m, .ofNat n => Nat.beq m n
 | .ofNat _, .negSucc _ => false
 | .negSucc _, .ofNat _ => false
 | .negSucc m, .negSucc n => Nat.beq n m
theorem ieq_eq (a b : Int) : ieq a b = (a == b) := by
 cases a <;> cases b <;> simp only [ieq] <;> symm <;> rw [Bool.eq_iff_iff] <;> simp [Nat.beq_eq] <;> omega
def bitsOf (k : IntKind) : Int → Nat
 | .ofNat m => m % 2 ^ k.bits
 | n => (n % 2 ^ k.bits).toNat
theorem bitsOf_eq (k : IntKind) (n : Int) : bitsOf k n = (BitVec.ofInt k.bits n).toNat := by
 rw [BitVec.toNat_ofInt]
 cases n with
 | ofNat m => simp only [bitsOf]; have : (Int.ofNat m : Int) = (m : Int) := rfl; rw [this]; norm_cast
 | negSucc m => rfl
def pow2 (x : Int) (n : Nat) : Int :=
 match x with
 | .ofNat m => .ofNat (m * 2 ^ n)
 | x => x * 2 ^ n
theorem pow2_eq (x : Int) (n : Nat) : pow2 x n = x * 2 ^ n := by
 cases x with
 | ofNat m => simp [pow2]
 | negSucc m => rfl
def shr2 (x : Int) (n : Nat) : Int :=
 match x with
 | .ofNat m => .ofNat (m / 2 ^ n)
 | x => x.fdiv (2 ^ n)
theorem shr2_eq (x : Int) (n : Nat) : shr2 x n = x.fdiv (2 ^ n) := by
 cases x with
 | ofNat m =>
  simp only [shr2]
  have h : (Int.ofNat m : Int) = (m : Int) := rfl
  rw [h, Int.fdiv_eq_ediv_of_nonneg _ (by exact_mod_cast Nat.zero_le _)]
  norm_cast
 | negSucc m => rfl
def iop (op : BinOp) (k : IntKind) (a b : Int) : Option AV :=
 match op with
 | .add => some (.int k (wrapF k (a + b)))
 | .sub => some (.int k (wrapF k (a - b)))
 | .mul => some (.int k (wrapF k (a * b)))
 | .quo => bif ieq b 0 then none else some (.int k (wrapF k (a.tdiv b)))
 | .rem => bif ieq b 0 then none else some (.int k (a.tmod b))
 | .and => some (.int k (wrapF k (.ofNat (Nat.land (bitsOf k a) (bitsOf k b)))))
 | .or => some (.int k (wrapF k (.ofNat (Nat.lor (bitsOf k a) (bitsOf k b)))))
 | .xor => some (.int k (wrapF k (.ofNat (Nat.xor (bitsOf k a) (bitsOf k b)))))
 | .andNot | .shl | .shr => none
 | .eql => some (.bool (ieq a b))
 | .neq => some (.bool (!ieq a b))
 | .lss => some (.bool (ilt a b))
 | .leq => some (.bool (!ilt b a))
 | .gtr => some (.bool (ilt b a))
 | .geq => some (.bool (!ilt a b))
def ishift (op : BinOp) (k : IntKind) (a : Int) (b : Int) : Option AV :=
 match b with
 | .negSucc _ => none
 | .ofNat n =>
  match op with
  | .shl => some (.int k (wrapF k (pow2 a (Nat.min n k.bits))))
  | .shr => some (.int k (shr2 a (Nat.min n k.bits)))
  | _ => none
theorem iop_sound {P : Program} {w : World} {op : BinOp} {k : IntKind} {a b : Int} {r : AV} (h : iop op k a b = some r) (t : TypeId) (E : Env) :
  ∃ v, (binOp op t (.int k a) (.int k b)).run P w = .ok v w ∧ VRel E r v := by
 cases op <;> simp only [iop, sI, reduceCtorEq] at h
 case quo =>
  cases hz : ieq b 0 <;> simp [hz] at h
  subst h
  rw [ieq_eq] at hz
  have hb : ¬ b = 0 := by simpa using hz
  exact ⟨_, by simp [binOp, Op.intDiv, hb]; rfl, by rw [wrapF_eq]; exact .int _ _⟩
 case rem =>
  cases hz : ieq b 0 <;> simp [hz] at h
  subst h
  rw [ieq_eq] at hz
  have hb : ¬ b = 0 := by simpa using hz
  exact ⟨_, by simp [binOp, Op.intDiv, hb]; try rfl, .int _ _⟩
 case and => subst h; exact ⟨_, by simp [binOp, Op.intBits]; rfl, by rw [wrapF_eq, bitsOf_eq, bitsOf_eq]; simp; exact .int _ _⟩
 case or => subst h; exact ⟨_, by simp [binOp, Op.intBits]; rfl, by rw [wrapF_eq, bitsOf_eq, bitsOf_eq]; simp; exact .int _ _⟩
 case xor => subst h; exact ⟨_, by simp [binOp, Op.intBits]; rfl, by rw [wrapF_eq, bitsOf_eq, bitsOf_eq]; simp; exact .int _ _⟩
 all_goals subst h
 case add => exact ⟨_, by simp [binOp, Op.intArith]; rfl, by rw [wrapF_eq]; exact .int _ _⟩
 case sub => exact ⟨_, by simp [binOp, Op.intArith]; rfl, by rw [wrapF_eq]; exact .int _ _⟩
 case mul => exact ⟨_, by simp [binOp, Op.intArith]; rfl, by rw [wrapF_eq]; exact .int _ _⟩
 case eql => exact ⟨_, by simp [binOp, Op.intCmp]; rfl, by rw [ieq_eq]; exact .bool _⟩
 case neq => exact ⟨_, by simp only [binOp, Op.intCmp]; simp; rfl, by rw [ieq_eq]; exact .bool _⟩
 case lss => exact ⟨_, by simp [binOp, Op.intCmp]; rfl, by rw [ilt_eq]; exact .bool _⟩
 case leq => exact ⟨_, by simp [binOp, Op.intCmp]; rfl, by rw [ilt_eq, ← decide_not]; simp only [Int.not_lt]; exact .bool _⟩
 case gtr => exact ⟨_, by simp [binOp, Op.intCmp]; rfl, by rw [ilt_eq]; exact .bool _⟩
 case geq => exact ⟨_, by simp [binOp, Op.intCmp]; rfl, by rw [ilt_eq, ← decide_not]; simp only [Int.not_lt]; exact .bool _⟩
theorem ishift_sound {P : Program} {w : World} {op : BinOp} {k k' : IntKind} {a b : Int} {r : AV} (h : ishift op k a b = some r) (t : TypeId) (E : Env) :
  ∃ v, (binOp op t (.int k a) (.int k' b)).run P w = .ok v w ∧ VRel E r v := by
 cases b with
 | negSucc n => simp [ishift] at h
 | ofNat n =>
  have e : (Int.ofNat n : Int) = (n : Int) := rfl
  have h0 : ¬ (n : Int) < 0 := by omega
  cases op <;> simp only [ishift, sI, reduceCtorEq] at h <;> subst h
  ·exact ⟨_, by simp [binOp, Op.shift, e, h0]; rfl, by rw [wrapF_eq, pow2_eq]; exact .int _ _⟩
  ·exact ⟨_, by simp [binOp, Op.shift, e, h0]; rfl, by rw [shr2_eq]; exact .int _ _⟩
def xbin (op : BinOp) (sh : Bool) (x y : AV) : Option AV :=
 match x, y with
 | .int k a, .int k' b => bif sh then ishift op k a b else bif Nat.beq (kc k) (kc k') then iop op k a b else none
 | .sym k i, .sym k' j => bif Nat.beq (kc k) (kc k') then (bif Nat.beq i j then (match op with | .eql => some (.bool true) | .neq => some (.bool false) | .xor => some (.int k (.ofNat 0)) | _ => none) else none) else none
 | .int k (.ofNat 0), .sym k' j => bif Nat.beq (kc k) (kc k') then (match op with | .xor => some (.sym k j) | _ => none) else none
 | .sym k j, .int k' (.ofNat 0) => bif Nat.beq (kc k) (kc k') then (match op with | .xor => some (.sym k j) | _ => none) else none
 | _, _ => none
theorem xbin_sound {P : Program} {w : World} {E : Env} {op : BinOp} {sh : Bool} {ax ay r : AV} {x y : Value} (hsh : sh = true → op = .shl ∨ op = .shr) (h : xbin op sh ax ay = some r) (hx : VRel E ax x) (hy : VRel E ay y) (t : TypeId) :
  ∃ v, (binOp op t x y).run P w = .ok v w ∧ VRel E r v := by
 unfold xbin at h
 split at h
 ·cases hx; cases hy
  rename_i k a k' b
  cases hs : sh with
  | true => simp only [hs, cond_true] at h; exact ishift_sound h t E
  | false =>
   simp only [hs, cond_false] at h
   cases hk : Nat.beq (kc k) (kc k') with
   | true => have := kc_inj hk; subst this; rw [hk] at h; exact iop_sound h t E
   | false => simp only [hk, cond_false, reduceCtorEq] at h
 ·rename_i k i k' j
  cases hk : Nat.beq (kc k) (kc k') <;> simp only [hk, cond_false, cond_true, reduceCtorEq] at h
  have := kc_inj hk; subst this
  cases hi : Nat.beq i j <;> simp only [hi, cond_false, cond_true, reduceCtorEq] at h
  have := nbt hi; subst this
  cases hx with
  | sym _ h1 h2 =>
   cases hy with
   | sym _ h3 h4 =>
    rw [h1] at h3; injection h3 with h3; subst h3
    split at h <;> simp only [sI, reduceCtorEq] at h <;> subst h
    ·exact ⟨_, by simp [binOp, Op.intCmp]; try rfl, .bool _⟩
    ·exact ⟨_, by simp [binOp, Op.intCmp]; try rfl, .bool _⟩
    ·refine ⟨_, by simp [binOp, Op.intBits]; rfl, ?_⟩
     have e : k.wrap 0 = 0 := by cases k <;> rfl
     first | exact .int _ _ | (rw [e]; exact .int _ _)
 ·rename_i k k' j
  cases hk : Nat.beq (kc k) (kc k') <;> simp only [hk, cond_false, cond_true, reduceCtorEq] at h
  have := kc_inj hk; subst this
  cases hx
  cases hy with
  | sym _ h1 h2 =>
   rename_i n
   split at h <;> simp only [sI, reduceCtorEq] at h
   subst h
   refine ⟨_, by simp [binOp, Op.intBits]; rfl, ?_⟩
   have e : k.wrap (max (n % 2 ^ k.bits) 0) = n := by
    rw [← h2]
    cases k <;> simp only [IntKind.wrap, IntKind.bits, IntKind.signed] <;> simp <;> (try split) <;> (try split) <;> omega
   rw [e]; exact .sym _ h1 h2
 ·rename_i k j k'
  cases hk : Nat.beq (kc k) (kc k') <;> simp only [hk, cond_false, cond_true, reduceCtorEq] at h
  have := kc_inj hk; subst this
  cases hy
  cases hx with
  | sym _ h1 h2 =>
   rename_i n
   split at h <;> simp only [sI, reduceCtorEq] at h
   subst h
   refine ⟨_, by simp [binOp, Op.intBits]; rfl, ?_⟩
   have e : k.wrap (max (n % 2 ^ k.bits) 0) = n := by
    rw [← h2]
    cases k <;> simp only [IntKind.wrap, IntKind.bits, IntKind.signed] <;> simp <;> (try split) <;> (try split) <;> omega
   rw [e]; exact .sym _ h1 h2
 ·cases h
inductive Opd where
 | t (n : Nat)
 | c (v : AV)
inductive COp where
 | mv (x : Opd)
 | pick (c a b : Opd)
 | alloc (cs : List AV) (e : TypeId)
 | box (e : TypeId) (x : Opd)
 | build (z : List AV) (ps : List (Nat × Nat × Opd))
 | mkslc (e : TypeId) (len : Nat) (z : List AV) (ps : List (Nat × Nat × Opd))
 | load (n : Option Nat) (x : Opd)
 | store (n : Nat) (x y : Opd)
 | nilck (x : Opd)
 | bin (op : BinOp) (sh : Bool) (x y : Opd)
 | nileq (kd : Nat) (neg : Bool) (x : Opd)
 | beq (neg : Bool) (x y : Opd)
 | seq (neg : Bool) (x y : Opd)
 | bnot (x : Opd)
 | neg (x : Opd)
 | conv (k : IntKind) (x : Opd)
 | b2s (x : Opd)
 | iface (t : TypeId) (x : Opd)
 | func (f : FuncId) (fs cs : List Opd)
 | mkmap
 | mkslice (e : TypeId) (z : List AV) (bytes : Nat) (l c : Opd)
 | slice (sz : Nat) (x : Opd) (lo hi mx : Option Opd)
 | off (n : Nat) (x : Opd)
 | part (n : Option Nat) (o : Nat) (x : Opd)
 | idxS (sz : Nat) (x i : Opd)
 | idxA (n sz : Nat) (x i : Opd)
 | idxT (x i : Opd)
 | s2s (x : Opd)
 | look (z : AV) (ok : Bool) (m k : Opd)
 | mapset (m k v : Opd)
 | del (m k : Opd)
 | range (m : Opd)
 | next (it : Opd)
 | entry (it : Opd)
 | assert (t : TypeId) (x : Opd) (z : AV)
 | ext (i : Nat) (x : Opd)
 | lenS (x : Opd)
 | lenM (x : Opd)
 | capS (x : Opd)
 | append (e : TypeId) (sz bytes : Nat) (x y : Opd)
 | appendZ (e : TypeId) (z : List AV) (bytes : Nat) (x y : Opd)
 | copy (sz : Nat) (x y : Opd)
 | clear (z : List AV) (x : Opd)
 | mn (x y : Opd)
 | mx (x y : Opd)
def Opd.ev (a : Tr AV) : Opd → Option AV
 | .t n => a.get n n
 | .c v => some v
def evs (a : Tr AV) : List Opd → Option (List AV)
 | [] => some []
 | x :: l => match x.ev a with
  | some v => match evs a l with
   | some vs => some (v :: vs)
   | none => none
  | none => none
def xfill (a : Tr AV) : List AV → List (Nat × Nat × Opd) → Option (List AV)
 | l, [] => some l
 | l, (o, n, x) :: ps => match x.ev a with
  | some v => match v.cells with
   | some cs => bif Nat.beq cs.length n then (bif Nat.ble (o + n) l.length then xfill a (splice l o cs) ps else none) else none
   | none => none
  | none => none
def xload (aw : AW) (n : Option Nat) : AV → Option AV
 | .ptr (some (id, o)) => match aw.get id with
  | some x => match x.read with
   | some l => match n with
    | none => l[o]?
    | some n => bif Nat.beq ((l.drop o).take n).length n then some (.agg ((l.drop o).take n)) else none
   | none => none
  | none => none
 | _ => none
def xstore (aw : AW) (n : Nat) (x v : AV) : Option (AV × AW) :=
 match x with
 | .ptr (some (id, o)) => match v.cells with
  | some cs => match aw.get id with
   | some (.cells l e opn) => bif Nat.beq cs.length n && (Nat.ble (o + n) l.length && allOne cs) then some (.tuple [], aw.set id (.cells (splice l o cs) e opn)) else none
   | _ => none
  | none => none
 | _ => none
def isNil : Nat → AV → Option Bool
 | 0, .ptr a => some a.isNone
 | 1, .slc a _ _ => some a.isNone
 | 2, .map a => some a.isNone
 | 3, .func .. => some false
 | 3, .nilFunc => some true
 | 4, .iface .. => some false
 | 4, .nilIface => some true
 | _, _ => none
def xnat : AV → Option Nat
 | .int _ (.ofNat n) => some n
 | _ => none
def sameBytes : List AV → List AV → Option Bool
 | [], [] => some true
 | [], _ :: _ => some false
 | _ :: _, [] => some false
 | .int _ a :: l, .int _ b :: m => match sameBytes l m with
  | some r => some (ieq a b && r)
  | none => bif ieq a b then none else some false
 | .sym _ i :: l, .sym _ j :: m => bif Nat.beq i j then sameBytes l m else none
 | _ :: _, _ :: _ => none
def xcells (aw : AW) (sz n : Nat) : AV → Option (List AV)
 | .slc none _ _ => bif Nat.beq n 0 then some [] else none
 | .slc (some (id, o)) len cap => bif Nat.beq n 0 then some [] else bif Nat.ble n len then (match aw.get id with
  | some x => (match x.read with
   | some l => bif Nat.beq ((l.drop o).take (n * sz)).length (n * sz) then some ((l.drop o).take (n * sz)) else none
   | none => none)
  | none => none) else none
 | _ => none
def allU8 : List AV → Bool
 | [] => true
 | .int k (.ofNat n) :: l => Nat.beq (kc k) 4 && (Nat.ble n 255 && allU8 l)
 | .sym k _ :: l => Nat.beq (kc k) 4 && allU8 l
 | _ :: _ => false
def xlen : AV → Option Nat
 | .slc _ n _ => some n
 | _ => none
def zeroOpt : Option Nat → Bool
 | some n => Nat.beq n 0
 | none => true
def xslice (sz : Nat) (x : AV) (l : Nat) (h m : Option Nat) : Option AV :=
 match x with
 | .slc none _ _ => bif Nat.beq l 0 && zeroOpt h && zeroOpt m then some (.slc none 0 (.known 0)) else none
 | .slc (some (id, o)) len (.known c) =>
  let m := m.getD c
  let h := h.getD len
  bif Nat.ble l h && (Nat.ble h m && Nat.ble m c) then some (.slc (some (id, bif Nat.beq m l then o else o + l * sz)) (h - l) (.known (m - l))) else none
 | .slc (some (id, o)) len (.upto sz' lo) =>
  match m with
  | none =>
   let h := h.getD len
   bif Nat.ble l h && (Nat.ble h lo && Nat.beq sz sz') then some (.slc (some (id, o + l * sz)) (h - l) (.upto sz (lo - l))) else none
  | some m =>
   let h := h.getD len
   bif Nat.ble l h && (Nat.ble h m && Nat.ble m lo) then some (.slc (some (id, bif Nat.beq m l then o else o + l * sz)) (h - l) (.known (m - l))) else none
 | _ => none
def xfind (k : IntKind) (n : Int) : List AEnt → Nat → Option (Option (Nat × AV))
 | [], _ => some none
 | e :: es, i => match e.key with
  | .int k' m => bif Nat.beq (kc k) (kc k') then (bif ieq n m then some (some (i, e.val)) else xfind k n es (i + 1)) else none
  | _ => none
def entPut (key v : AV) : List AEnt → Nat → List AEnt
 | [], _ => []
 | e :: es, 0 => { e with key, val := v } :: es
 | e :: es, i + 1 => e :: entPut key v es i
def entDel : List AEnt → Nat → List AEnt
 | [], _ => []
 | _ :: es, 0 => es
 | e :: es, i + 1 => e :: entDel es i
def xmap (aw : AW) : AV → Option (Nat × List AEnt × Nat)
 | .map (some id) => match aw.get id with
  | some (.map es clock) => some (id, es, clock)
  | _ => none
 | _ => none
def small (need bytes : Nat) : Bool := Nat.ble need 140737488355328 && Nat.ble (need * bytes) 140737488355328
def xappend (aw : AW) (e : TypeId) (sz bytes : Nat) (s : AV) (n : Nat) (new : List AV) : Option (AV × AW) :=
 match s with
 | .slc none _ _ => bif Nat.beq n 0 then some (.slc none 0 (.known 0), aw) else bif small n bytes then some (.slc (some (aw.nx, 0)) n (.upto sz n), aw.add (.cells new e true)) else none
 | .slc (some (id, o)) len (.known c) =>
  bif Nat.ble (len + n) c then (bif Nat.beq n 0 then some (s, aw) else (match aw.get id with
   | some (.cells l e' opn) => bif Nat.ble (o + (len + n) * sz) l.length && allOne new then some (.slc (some (id, o)) (len + n) (.known c), aw.set id (.cells (splice l (o + len * sz) new) e' opn)) else none
   | _ => none))
  else bif small (len + n) bytes then (match xcells aw sz len s with
   | some old => some (.slc (some (aw.nx, 0)) (len + n) (.upto sz (len + n)), aw.add (.cells (old ++ new) e true))
   | none => none) else none
 | .slc (some (id, o)) len (.upto sz' lo) =>
  bif Nat.beq sz sz' then (bif Nat.ble (len + n) lo then (bif Nat.beq n 0 then some (s, aw) else (match aw.get id with
   | some (.cells l e' opn) => bif Nat.ble (o + (len + n) * sz) l.length && allOne new then some (.slc (some (id, o)) (len + n) (.upto sz lo), aw.set id (.cells (splice l (o + len * sz) new) e' opn)) else none
   | _ => none))
  else match aw.get id with
   | some (.cells l e' opn) => bif Nat.beq (o + len * sz) l.length && (Nat.beq e e' && (small (len + n) bytes && allOne new)) then
     some (.slc (some (aw.nx, 0)) (len + n) (.upto sz (len + n)), (aw.set id .dead).add (.cells (l.drop o ++ new) e true)) else none
   | _ => none) else none
 | _ => none
def repCells (z : List AV) : Nat → List AV
 | 0 => []
 | n + 1 => z ++ repCells z n
def xop (a : Tr AV) (aw : AW) : COp → Option (AV × AW)
 | .mv x => match x.ev a with
  | some v => some (v, aw)
  | none => none
 | .pick c x y => match c.ev a with
  | some (.bool b) => match (bif b then x.ev a else y.ev a) with
   | some v => some (v, aw)
   | none => none
  | _ => none
 | .alloc cs e => some (.ptr (some (aw.nx, 0)), aw.add (.cells cs e false))
 | .box e x => match x.ev a with
  | some v => match v.cells with
   | some cs => some (.ptr (some (aw.nx, 0)), aw.add (.cells cs e false))
   | none => none
  | none => none
 | .build z ps => match xfill a z ps with
  | some l => some (.agg l, aw)
  | none => none
 | .mkslc e len z ps => match xfill a z ps with
  | some l => some (.slc (some (aw.nx, 0)) len (.known len), aw.add (.cells l e false))
  | none => none
 | .load n x => match x.ev a with
  | some p => match xload aw n p with
   | some v => some (v, aw)
   | none => none
  | none => none
 | .store n x y => match x.ev a with
  | some p => match y.ev a with
   | some v => xstore aw n p v
   | none => none
  | none => none
 | .nilck x => match x.ev a with
  | some (.ptr (some p)) => some (.ptr (some p), aw)
  | _ => none
 | .bin op sh x y => match x.ev a with
  | some u => match y.ev a with
   | some v => match xbin op sh u v with
    | some r => some (r, aw)
    | none => none
   | none => none
  | none => none
 | .nileq kd neg x => match x.ev a with
  | some v => match isNil kd v with
   | some b => some (.bool (bif neg then !b else b), aw)
   | none => none
  | none => none
 | .beq neg x y => match x.ev a with
  | some (.bool u) => match y.ev a with
   | some (.bool v) => some (.bool (bif neg then !(u == v) else u == v), aw)
   | _ => none
  | _ => none
 | .seq neg x y => match x.ev a with
  | some (.str u) => match y.ev a with
   | some (.str v) => match sameBytes u v with
    | some b => some (.bool (bif neg then !b else b), aw)
    | none => none
   | _ => none
  | _ => none
 | .bnot x => match x.ev a with
  | some (.bool b) => some (.bool !b, aw)
  | _ => none
 | .neg x => match x.ev a with
  | some (.int k n) => some (.int k (wrapF k (0 - n)), aw)
  | _ => none
 | .conv k x => match x.ev a with
  | some (.int _ n) => some (.int k (wrapF k n), aw)
  | _ => none
 | .b2s x => match x.ev a with
  | some (.slc b len cap) => match xcells aw 1 len (.slc b len cap) with
   | some l => bif allU8 l then some (.str l, aw) else none
   | none => none
  | _ => none
 | .iface t x => match x.ev a with
  | some v => some (.iface t v, aw)
  | none => none
 | .func f fs cs => match evs a fs with
  | some l => match evs a cs with
   | some m => some (.func (.func f) l m, aw)
   | none => none
  | none => none
 | .mkmap => some (.map (some aw.nx), aw.add (.map [] 0))
 | .mkslice e z bytes l c => match l.ev a with
  | some l => match c.ev a with
   | some c => match xnat l with
    | some l => match xnat c with
     | some c => bif Nat.ble l c && Nat.ble (bytes * c) 140737488355328 && Nat.ble c 140737488355328 then some (.slc (some (aw.nx, 0)) l (.known c), aw.add (.cells (repCells z c) e false)) else none
     | none => none
    | none => none
   | none => none
  | none => none
 | .slice sz x lo hi mx => match x.ev a with
  | some s =>
   match (match lo with | none => some 0 | some o => match o.ev a with | some v => xnat v | none => none) with
   | some l => match (match hi with | none => some none | some o => match o.ev a with | some v => (xnat v).map some | none => none) with
    | some h => match (match mx with | none => some none | some o => match o.ev a with | some v => (xnat v).map some | none => none) with
     | some m => match xslice sz s l h m with
      | some r => some (r, aw)
      | none => none
     | none => none
    | none => none
   | none => none
  | none => none
 | .off n x => match x.ev a with
  | some (.ptr (some (id, o))) => some (.ptr (some (id, o + n)), aw)
  | _ => none
 | .part n o x => match x.ev a with
  | some (.agg l) => match n with
   | none => match l[o]? with
    | some v => some (v, aw)
    | none => none
   | some n => bif Nat.beq ((l.drop o).take n).length n then some (.agg ((l.drop o).take n), aw) else none
  | _ => none
 | .idxS sz x i => match x.ev a with
  | some (.slc (some (id, o)) len _) => match i.ev a with
   | some iv => match xnat iv with
    | some i => bif Nat.blt i len then some (.ptr (some (id, o + i * sz)), aw) else none
    | none => none
   | none => none
  | _ => none
 | .idxA n sz x i => match x.ev a with
  | some (.ptr (some (id, o))) => match i.ev a with
   | some iv => match xnat iv with
    | some i => bif Nat.blt i n then some (.ptr (some (id, o + i * sz)), aw) else none
    | none => none
   | none => none
  | _ => none
 | .idxT x i => match x.ev a with
  | some (.str l) => match i.ev a with
   | some iv => match xnat iv with
    | some i => match l[i]? with
     | some v => some (v, aw)
     | none => none
    | none => none
   | none => none
  | _ => none
 | .s2s x => match x.ev a with
  | some (.slc (some (id, o)) len cap) => match aw.get id with
   | some (.cells _ _ _) => bif Nat.blt 0 len then some (.slc (some (id, o)) len cap, aw) else none
   | _ => none
  | _ => none
 | .look z ok m k => match m.ev a with
  | some mv => match k.ev a with
   | some (.int kk n) => match (match mv with | .map none => some [] | .map (some id) => (match aw.get id with | some (.map es _) => some es | _ => none) | _ => none) with
    | some es => match xfind kk n es 0 with
     | some (some (_, v)) => some (bif ok then .tuple [v, .bool true] else v, aw)
     | some none => some (bif ok then .tuple [z, .bool false] else z, aw)
     | none => none
    | none => none
   | _ => none
  | none => none
 | .mapset m k v => match m.ev a with
  | some mv => match k.ev a with
   | some (.int kk n) => match v.ev a with
    | some x => match xmap aw mv with
     | some (id, es, clock) => match xfind kk n es 0 with
      | some (some (i, _)) => some (.tuple [], aw.set id (.map (entPut (.int kk n) x es i) clock))
      | some none => some (.tuple [], aw.set id (.map (es ++ [⟨.int kk n, x, clock⟩]) (clock + 1)))
      | none => none
     | none => none
    | none => none
   | _ => none
  | none => none
 | .del m k => match m.ev a with
  | some mv => match k.ev a with
   | some (.int kk n) => match xmap aw mv with
    | some (id, es, clock) => match xfind kk n es 0 with
     | some (some (i, _)) => some (.tuple [], aw.set id (.map (entDel es i) clock))
     | some none => some (.tuple [], aw.set id (.map es clock))
     | none => none
    | none => none
   | _ => none
  | none => none
 | .range m => match m.ev a with
  | some (.map none) => some (.ptr (some (aw.nx, 0)), aw.add (.iter none 0 [] 0))
  | some (.map (some id)) => match aw.get id with
   | some (.map es clock) => some (.ptr (some (aw.nx, 0)), aw.add (.iter (some id) clock [] clock))
   | _ => none
  | _ => none
 | .next it => match it.ev a with
  | some (.ptr (some (id, 0))) => match aw.get id with
   | some (.iter none _ _ _) => some (.tuple [.bool false], aw)
   | some (.iter (some m) since seen st) => match aw.get m with
    | some (.map [] clock) => some (.tuple [.bool false], aw)
    | some (.map [e] clock) => bif Nat.blt e.born since then (match seen with
     | [] => some (.tuple [.bool true, e.key, e.val], aw.set id (.iter (some m) since [e.born] clock))
     | [b] => bif Nat.beq b e.born && Nat.blt e.born st then some (.tuple [.bool false], aw) else none
     | _ => none) else none
    | _ => none
   | _ => none
  | _ => none
 | .entry it => match it.ev a with
  | some (.ptr (some (id, 0))) => match aw.get id with
   | some (.iter (some m) _ [b] st) => match aw.get m with
    | some (.map [e] clock) => bif Nat.beq clock st && Nat.beq b e.born then some (.tuple [e.key, e.val], aw) else none
    | _ => none
   | _ => none
  | _ => none
 | .assert t x z => match x.ev a with
  | some (.iface t' v) => bif Nat.beq t t' then some (.tuple [v, .bool true], aw) else some (.tuple [z, .bool false], aw)
  | _ => none
 | .ext i x => match x.ev a with
  | some (.tuple l) => match l[i]? with
   | some v => some (v, aw)
   | none => none
  | _ => none
 | .lenS x => match x.ev a with
  | some v => match xlen v with
   | some n => some (.int .i64 (.ofNat n), aw)
   | none => none
  | none => none
 | .lenM x => match x.ev a with
  | some (.map none) => some (.int .i64 (.ofNat 0), aw)
  | some (.map (some id)) => match aw.get id with
   | some (.map es _) => some (.int .i64 (.ofNat es.length), aw)
   | _ => none
  | _ => none
 | .capS x => match x.ev a with
  | some (.slc _ _ (.known c)) => some (.int .i64 (.ofNat c), aw)
  | _ => none
 | .append e sz bytes x y => match x.ev a with
  | some s => match y.ev a with
   | some v => match xlen v with
    | some n => match xcells aw sz n v with
     | some new => xappend aw e sz bytes s n new
     | none => none
    | none => none
   | none => none
  | none => none
 | .appendZ e z bytes x y => match x.ev a with
  | some s => match y.ev a with
   | some v => match xnat v with
    | some n => bif small n bytes then xappend aw e z.length bytes s n (repCells z n) else none
    | none => none
   | none => none
  | none => none
 | .copy sz x y => match x.ev a with
  | some (.slc b len cap) => match y.ev a with
   | some v => match xlen v with
    | some m => match xcells aw sz (Nat.min m len) v with
     | some cs => match b with
      | none => some (.int .i64 (.ofNat (Nat.min m len)), aw)
      | some (id, o) => bif Nat.beq (Nat.min m len) 0 then some (.int .i64 (.ofNat 0), aw) else (match aw.get id with
       | some (.cells l e opn) => bif Nat.ble (o + cs.length) l.length && allOne cs then some (.int .i64 (.ofNat (Nat.min m len)), aw.set id (.cells (splice l o cs) e opn)) else none
       | _ => none)
     | none => none
    | none => none
   | none => none
  | _ => none
 | .clear z x => match x.ev a with
  | some (.slc none _ _) => some (.tuple [], aw)
  | some (.slc (some (id, o)) len _) => bif Nat.beq len 0 then some (.tuple [], aw) else (match aw.get id with
   | some (.cells l e opn) => bif Nat.ble (o + (repCells z len).length) l.length && allOne z then some (.tuple [], aw.set id (.cells (splice l o (repCells z len)) e opn)) else none
   | _ => none)
  | _ => none
 | .mn x y => match x.ev a with
  | some (.int k u) => match y.ev a with
   | some (.int k' v) => some (.int k (bif ilt v u then v else u), aw)
   | _ => none
  | _ => none
 | .mx x y => match x.ev a with
  | some (.int k u) => match y.ev a with
   | some (.int k' v) => some (.int k (bif ilt u v then v else u), aw)
   | _ => none
  | _ => none
def cScal : Value → Option AV
 | .bool b => some (.bool b)
 | .int k n => some (.int k n)
 | .string s => some (.str (s.data.toList.map fun b => .int .u8 (b.toNat : Int)))
 | .pointer none => some (.ptr none)
 | .slice none 0 0 => some (.slc none 0 (.known 0))
 | .map none => some (.map none)
 | .nilFunc => some .nilFunc
 | .nilIface => some .nilIface
 | .func (.func f) a b => bif a.isEmpty && b.isEmpty then some (.func (.func f) [] []) else none
 | _ => none
def cList : List Value → Option (List AV)
 | [] => some []
 | v :: l => match cScal v with
  | some a => match cList l with
   | some m => some (a :: m)
   | none => none
  | none => none
def cVal : Value → Option AV
 | .agg cs => match cList cs.toList with
  | some l => some (.agg l)
  | none => none
 | .iface t v => match cScal v with
  | some a => some (.iface t a)
  | none => none
 | v => cScal v
def cOpd : Operand → Option Opd
 | .tmp t => some (.t t)
 | .const v => match cVal v with
  | some a => some (.c a)
  | none => none
 | .func f => some (.c (.func (.func f) [] []))
 | .global _ => none
def cOpds : List Operand → Option (List Opd)
 | [] => some []
 | x :: l => match cOpd x with
  | some a => match cOpds l with
   | some m => some (a :: m)
   | none => none
  | none => none
def cOpt : Option Operand → Option (Option Opd)
 | none => some none
 | some x => match cOpd x with
  | some o => some (some o)
  | none => none
def aggP (P : Program) (t : TypeId) : Option (Option Nat) :=
 match P.underlying t with
 | some (.struct _) | some (.array _ _) => match P.info? t with
  | some i => some (some i.size)
  | none => none
 | some _ => some none
 | none => none
def zeroP (P : Program) (t : TypeId) : Option (Value × AV) :=
 match P.info? t with
 | some i => match i.zero with
  | some v => match cVal v with
   | some a => some (v, a)
   | none => none
  | none => none
 | none => none
def cParts (place : Nat → Option (Nat × Nat)) : List (Nat × Operand) → Option (List (Nat × Nat × Opd))
 | [] => some []
 | (i, x) :: l => match place i with
  | some (o, n) => match cOpd x with
   | some a => match cParts place l with
    | some m => some ((o, n, a) :: m)
    | none => none
   | none => none
  | none => none
def fieldsP (P : Program) : List Field → Option (List (Nat × Nat))
 | [] => some []
 | f :: l => match P.info? f.type with
  | some i => match fieldsP P l with
   | some m => some ((f.offset, i.size) :: m)
   | none => none
  | none => none
def nilKind : TypeDesc → Operand → Option Nat
 | .pointer _, .const (.pointer none) => some 0
 | .slice _, .const (.slice none 0 0) => some 1
 | .map _ _, .const (.map none) => some 2
 | .func _ _ _, .const .nilFunc => some 3
 | .interface _, .const .nilIface => some 4
 | _, _ => none
def sliceOf (P : Program) (t : TypeId) : Option (TypeId × TypeInfo) :=
 match P.underlying t with
 | some (.slice e) => match P.info? e with
  | some i => some (e, i)
  | none => none
 | _ => none
def c1 (f : Opd → COp) (x : Operand) : Option COp := match cOpd x with
 | some a => some (f a)
 | none => none
def c2 (f : Opd → Opd → COp) (x y : Operand) : Option COp := match cOpd x with
 | some a => match cOpd y with
  | some b => some (f a b)
  | none => none
 | none => none
def cBuiltin (P : Program) (b : Builtin) (ts : Array TypeId) (args : List Operand) : Option COp :=
 match b, args with
 | .len, [x] => match ts[0]? with
  | some t => match P.underlying t with
   | some (.slice _) => c1 .lenS x
   | some (.map _ _) => c1 .lenM x
   | _ => none
  | none => none
 | .cap, [x] => match ts[0]? with
  | some t => match P.underlying t with
   | some (.slice _) => c1 .capS x
   | _ => none
  | none => none
 | .append, [x, y] => match ts[0]? with
  | some t => match sliceOf P t with
   | some (e, i) => match ts[1]? with
    | some u => match P.underlying u with
     | some (.slice _) => match zeroP P e with
      | some (z, _) => bif Nat.beq z.cells.size i.size then c2 (.append e i.size i.bytes) x y else none
      | none => none
     | some (.int _) => match zeroP P e with
      | some (z, az) => match az.cells with
       | some l => bif Nat.beq l.length i.size && allOne l then c2 (.appendZ e l i.bytes) x y else none
       | none => none
      | none => none
     | _ => none
    | none => none
   | none => none
  | none => none
 | .copy, [x, y] => match ts[0]? with
  | some t => match sliceOf P t with
   | some (e, i) => c2 (.copy i.size) x y
   | none => none
  | none => none
 | .clear, [x] => match ts[0]? with
  | some t => match sliceOf P t with
   | some (e, i) => match zeroP P e with
    | some (z, az) => match az.cells with
     | some l => c1 (.clear l) x
     | none => none
    | none => none
   | none => none
  | none => none
 | .delete, [x, y] => match ts[0]? with
  | some t => match P.underlying t with
   | some (.map k _) => match P.underlying k with
    | some (.int _) => c2 .del x y
    | _ => none
   | _ => none
  | none => none
 | .min, [x, y] => c2 .mn x y
 | .max, [x, y] => c2 .mx x y
 | _, _ => none
def cOp (P : Program) (o : Oper) : Option COp :=
 match o.op with
 | .move x | .assign x => c1 .mv x
 | .pick c a b => match cOpd c with
  | some c => c2 (.pick c) a b
  | none => none
 | .alloc e => match zeroP P e with
  | some (_, a) => match a.cells with
   | some l => some (.alloc l e)
   | none => none
  | none => none
 | .box e x => c1 (.box e) x
 | .build t ps => match zeroP P t with
  | some (_, z) => match z.cells with
   | some l => match P.underlying t with
    | some (.struct fs) => match fieldsP P fs.toList with
     | some pl => match cParts (pl[·]?) ps.toList with
      | some qs => some (.build l qs)
      | none => none
     | none => none
    | _ => none
   | none => none
  | none => none
 | .buildSlice t len ps => match sliceOf P t with
  | some (e, i) => match zeroP P e with
   | some (z, az) => match az.cells with
    | some l => bif Nat.beq l.length i.size && Nat.ble (len * i.size) 16777216 then (match cParts (fun j => some (j * i.size, i.size)) ps.toList with
     | some qs => some (.mkslc e len (repCells l len) qs)
     | none => none) else none
    | none => none
   | none => none
  | none => none
 | .load t x => match aggP P t with
  | some n => c1 (.load n) x
  | none => none
 | .store t x y => match P.info? t with
  | some i => c2 (.store i.size) x y
  | none => none
 | .nilCheck x => c1 .nilck x
 | .binOp op t x y _ => match P.underlying t with
  | some (.int _) => match op with
   | .shl | .shr => c2 (.bin op true) x y
   | _ => c2 (.bin op false) x y
  | some .bool => match op with
   | .eql => c2 (.beq false) x y
   | .neq => c2 (.beq true) x y
   | _ => none
  | some .string => match op with
   | .eql => c2 (.seq false) x y
   | .neq => c2 (.seq true) x y
   | _ => none
  | some d => match nilKind d y with
   | some kd => match op with
    | .eql => c1 (.nileq kd false) x
    | .neq => c1 (.nileq kd true) x
    | _ => none
   | none => none
  | none => none
 | .unOp op _ x => match op with
  | .not => c1 .bnot x
  | .neg => c1 .neg x
  | _ => none
 | .convert s d x => match P.underlying s, P.underlying d with
  | some (.int _), some (.int k) => c1 (.conv k) x
  | some (.slice e), some .string => match P.underlying e with
   | some (.int .u8) => c1 .b2s x
   | _ => none
  | some (.slice e), some (.slice e') => match P.underlying e' with
   | some (.int .u8) => bif Nat.beq s d then c1 .s2s x else none
   | _ => none
  | _, _ => none
 | .makeInterface t x => match P.underlying t with
  | some (.interface _) => none
  | some _ => c1 (.iface t) x
  | none => none
 | .makeFunc (.func f) a b => match cOpds a.toList with
  | some l => match cOpds b.toList with
   | some m => some (.func f l m)
   | none => none
  | none => none
 | .makeMap _ none => some .mkmap
 | .makeSlice t l c => match sliceOf P t with
  | some (e, i) => match zeroP P e with
   | some (z, az) => match az.cells with
    | some cs => bif Nat.beq cs.length i.size then c2 (.mkslice e cs i.bytes) l c else none
    | none => none
   | none => none
  | none => none
 | .slice t x lo hi mx => match sliceOf P t with
  | some (e, i) => match cOpd x with
   | some x => match cOpt lo with
    | some lo => match cOpt hi with
     | some hi => match cOpt mx with
      | some mx => bif mx.isNone || hi.isSome then some (.slice i.size x lo hi mx) else none
      | none => none
     | none => none
    | none => none
   | none => none
  | none => none
 | .fieldAddr t x f => match P.underlying t with
  | some (.struct fs) => match fs[f]? with
   | some f => match P.info? f.type with
    | some i => bif Nat.beq i.size 0 then none else c1 (.off f.offset) x
    | none => none
   | none => none
  | _ => none
 | .field t x f => match P.underlying t with
  | some (.struct fs) => match fs[f]? with
   | some f => match aggP P f.type with
    | some n => c1 (.part n f.offset) x
    | none => none
   | none => none
  | _ => none
 | .indexAddr t x i => match P.underlying t with
  | some (.slice e) => match P.info? e with
   | some j => c2 (.idxS j.size) x i
   | none => none
  | some (.array n e) => match P.info? e with
   | some j => bif Nat.blt 1 n then c2 (.idxA n j.size) x i else none
   | none => none
  | _ => none
 | .index t x i => match P.underlying t with
  | some .string => c2 .idxT x i
  | _ => none
 | .lookup t m k ok => match P.underlying t with
  | some (.map kt e) => match P.underlying kt with
   | some (.int _) => match zeroP P e with
    | some (_, z) => c2 (.look z ok) m k
    | none => none
   | _ => none
  | _ => none
 | .mapUpdate t m k v | .insert t m k v => match P.underlying t with
  | some (.map kt _) => match P.underlying kt with
   | some (.int _) => match cOpd m with
    | some m => c2 (.mapset m) k v
    | none => none
   | _ => none
  | _ => none
 | .range t m => match P.underlying t with
  | some (.map _ _) => c1 .range m
  | _ => none
 | .next it false => c1 .next it
 | .entry it => c1 .entry it
 | .typeAssert x _ t true => match P.underlying t with
  | some (.interface _) => none
  | some _ => match zeroP P t with
   | some (_, z) => match cOpd x with
    | some x => some (.assert t x z)
    | none => none
   | none => none
  | none => none
 | .extract x i => c1 (.ext i) x
 | .call { callee := .builtin b, args, argTypes } => cBuiltin P b argTypes args.toList
 | _ => none
end Go.Proofs.YtbilacojhmohmaaGreat.Ae
end
