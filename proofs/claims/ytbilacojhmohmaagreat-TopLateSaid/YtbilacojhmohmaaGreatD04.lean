/- The evaluator once more, written so that the kernel runs it quickly; it is the same function. No condition. -/
import Derived.Test.YtbilacojhmohmaaGreatD03
set_option linter.unusedVariables false
set_option linter.unusedSimpArgs false
noncomputable section
namespace Go.Proofs.YtbilacojhmohmaaGreat.Ae
open Go
def ob {α β : Type} (o : Option α) (f : α → Option β) : Option β := Option.rec (motive := fun _ => Option β) none f o
def bb2 {β : Type} (b : Bool) (x y : β) : β := Bool.rec (motive := fun _ => β) y x b
theorem bb2_eq {β : Type} (b : Bool) (x y : β) : bb2 b x y = bif b then x else y := by cases b <;> rfl
def pick4 {β : Type} (r : Nat) (a b c d : β) : β :=
 Nat.rec (motive := fun _ => β) a (fun r _ => Nat.rec (motive := fun _ => β) b (fun r _ => Nat.rec (motive := fun _ => β) c (fun _ _ => d) r) r) r
theorem pick4_eq {β : Type} (r : Nat) (a b c d : β) : pick4 r a b c d = sel4 r a b c d := by
 match r with
 | 0 => rfl
 | 1 => rfl
 | 2 => rfl
 | n + 3 => rfl
def getN {α : Type} (n k : Nat) (v : α) (ga gb gc gd : Nat → Option α) (m : Nat) : Option α :=
 bb2 (Nat.beq n k) (some v) (pick4 (Nat.mod m (nat_lit 4)) (ga (Nat.div m (nat_lit 4))) (gb (Nat.div m (nat_lit 4))) (gc (Nat.div m (nat_lit 4))) (gd (Nat.div m (nat_lit 4))))
def trGet {α : Type} (t : Tr α) (n : Nat) : Option α :=
 Tr.rec (motive := fun _ => Nat → Option α) (fun _ => none) (fun k v _ _ _ _ ga gb gc gd m => getN n k v ga gb gc gd m) t n
def trGetM {α : Type} (n : Nat) (t : Tr α) : Nat → Option α := Tr.rec (motive := fun _ => Nat → Option α) (fun _ => none) (fun k v _ _ _ _ ga gb gc gd m => getN n k v ga gb gc gd m) t
theorem trGet_aux {α : Type} (n : Nat) : ∀ (t : Tr α) (m : Nat), trGetM n t m = t.get n m
 | .leaf, m => rfl
 | .node k v a b c d, m => by
  show getN n k v (trGetM n a) (trGetM n b) (trGetM n c) (trGetM n d) m = _
  unfold getN
  rw [bb2_eq, pick4_eq, trGet_aux n a, trGet_aux n b, trGet_aux n c, trGet_aux n d]
  rfl
theorem trGet_eq {α : Type} (t : Tr α) (n : Nat) : trGet t n = t.get n n := trGet_aux n t n
def setN {α : Type} (n : Nat) (x : α) (k : Nat) (v : α) (a b c d : Tr α) (sa sb sc sd : Nat → Tr α) (m : Nat) : Tr α :=
 bb2 (Nat.beq n k) (.node k x a b c d) (pick4 (Nat.mod m (nat_lit 4)) (.node k v (sa (Nat.div m (nat_lit 4))) b c d) (.node k v a (sb (Nat.div m (nat_lit 4))) c d) (.node k v a b (sc (Nat.div m (nat_lit 4))) d) (.node k v a b c (sd (Nat.div m (nat_lit 4)))))
def trSet {α : Type} (t : Tr α) (n : Nat) (x : α) : Tr α :=
 Tr.rec (motive := fun _ => Nat → Tr α) (fun _ => .node n x .leaf .leaf .leaf .leaf) (fun k v a b c d sa sb sc sd m => setN n x k v a b c d sa sb sc sd m) t n
def trSetM {α : Type} (n : Nat) (x : α) (t : Tr α) : Nat → Tr α := Tr.rec (motive := fun _ => Nat → Tr α) (fun _ => .node n x .leaf .leaf .leaf .leaf) (fun k v a b c d sa sb sc sd m => setN n x k v a b c d sa sb sc sd m) t
theorem trSet_aux {α : Type} (n : Nat) (x : α) : ∀ (t : Tr α) (m : Nat), trSetM n x t m = t.set n m x
 | .leaf, m => rfl
 | .node k v a b c d, m => by
  show setN n x k v a b c d (trSetM n x a) (trSetM n x b) (trSetM n x c) (trSetM n x d) m = _
  unfold setN
  rw [bb2_eq, pick4_eq, trSet_aux n x a, trSet_aux n x b, trSet_aux n x c, trSet_aux n x d]
  rfl
theorem trSet_eq {α : Type} (t : Tr α) (n : Nat) (x : α) : trSet t n x = t.set n n x := trSet_aux n x t n
def appF (l m : List AV) : List AV := List.rec (motive := fun _ => List AV) m (fun x _ ih => x :: ih) l
theorem appF_eq (l m : List AV) : appF l m = l ++ m := by induction l with | nil => rfl | cons x l ih => exact congrArg (x :: ·) ih
def lenF (l : List AV) : Nat := List.rec (motive := fun _ => Nat) (nat_lit 0) (fun _ _ ih => Nat.succ ih) l
theorem lenF_eq (l : List AV) : lenF l = l.length := by induction l with | nil => rfl | cons x l ih => exact congrArg Nat.succ ih
def takeM (n : Nat) : List AV → List AV := Nat.rec (motive := fun _ => List AV → List AV) (fun _ => []) (fun _ ih l => List.rec (motive := fun _ => List AV) [] (fun x l _ => x :: ih l) l) n
def takeF (l : List AV) (n : Nat) : List AV := takeM n l
theorem takeF_eq (l : List AV) : ∀ n, takeF l n = l.take n := by
 intro n
 show takeM n l = _
 induction n generalizing l with
 | zero => rfl
 | succ n ih =>
  cases l with
  | nil => rfl
  | cons x l => simp only [List.take_succ_cons]; exact congrArg (x :: ·) (ih l)
def dropM (n : Nat) : List AV → List AV := Nat.rec (motive := fun _ => List AV → List AV) (fun l => l) (fun _ ih l => List.rec (motive := fun _ => List AV) [] (fun _ l _ => ih l) l) n
theorem dropM_eq (l : List AV) : ∀ n, dropM n l = l.drop n := by
 intro n
 induction n generalizing l with
 | zero => rfl
 | succ n ih =>
  cases l with
  | nil => rfl
  | cons x l => simp only [List.drop_succ_cons]; exact ih l
def drop8 (l0 : List AV) : List AV := List.rec (motive := fun _ => List AV) [] (fun _ l1 _ => List.rec (motive := fun _ => List AV) [] (fun _ l2 _ => List.rec (motive := fun _ => List AV) [] (fun _ l3 _ => List.rec (motive := fun _ => List AV) [] (fun _ l4 _ => List.rec (motive := fun _ => List AV) [] (fun _ l5 _ => List.rec (motive := fun _ => List AV) [] (fun _ l6 _ => List.rec (motive := fun _ => List AV) [] (fun _ l7 _ => List.rec (motive := fun _ => List AV) [] (fun _ l8 _ => l8) l7) l6) l5) l4) l3) l2) l1) l0
theorem drop8_eq (l : List AV) : drop8 l = l.drop 8 := by
 rcases l with _ | ⟨a, _ | ⟨b, _ | ⟨c, _ | ⟨d, _ | ⟨e, _ | ⟨f, _ | ⟨g, _ | ⟨h, l⟩⟩⟩⟩⟩⟩⟩⟩ <;> rfl
def dropE (n : Nat) : List AV → List AV := Nat.rec (motive := fun _ => List AV → List AV) (fun l => l) (fun _ ih l => ih (drop8 l)) n
theorem dropE_eq (l : List AV) : ∀ n, dropE n l = l.drop (8 * n) := by
 intro n
 induction n generalizing l with
 | zero => rfl
 | succ n ih =>
  show dropE n (drop8 l) = _
  rw [ih, drop8_eq, List.drop_drop]
  congr 1; omega
def dropF (l : List AV) (n : Nat) : List AV := dropM (Nat.mod n (nat_lit 8)) (dropE (Nat.div n (nat_lit 8)) l)
theorem dropF_eq (l : List AV) : ∀ n, dropF l n = l.drop n := by
 intro n
 show dropM (n % 8) (dropE (n / 8) l) = _
 rw [dropM_eq, dropE_eq, List.drop_drop]
 congr 1; omega
def nthF (l : List AV) (i : Nat) : Option AV := List.rec (motive := fun _ => Option AV) none (fun x _ _ => some x) (dropF l i)
theorem nthF_eq (l : List AV) : ∀ i : Nat, nthF l i = l[i]? := by
 intro i
 show List.rec (motive := fun _ => Option AV) none (fun x _ _ => some x) (dropF l i) = _
 rw [dropF_eq, ← List.head?_drop]
 cases l.drop i <;> rfl
def layF (x l : List AV) : List AV := List.rec (motive := fun _ => List AV → List AV) (fun l => l) (fun v _ ih l => v :: ih (dropF l (nat_lit 1))) x l
def spliceF (l : List AV) (o : Nat) (x : List AV) : List AV := List.rec (motive := fun _ => Nat → List AV) (fun _ => x) (fun y l ih i => Nat.rec (motive := fun _ => List AV) (layF x (y :: l)) (fun i _ => y :: ih i) i) l o
theorem layF_eq (x : List AV) : ∀ l, layF x l = x ++ l.drop x.length := by
 induction x with
 | nil => intro l; simp [layF]
 | cons v x ih =>
  intro l
  have h : layF (v :: x) l = v :: layF x (dropF l 1) := rfl
  rw [h, ih, dropF_eq, List.drop_drop]
  simp [Nat.add_comm]
theorem spliceF_eq (l : List AV) (x : List AV) : ∀ o, spliceF l o x = splice l o x := by
 induction l with
 | nil => intro o; simp [spliceF, splice]
 | cons y l ih =>
  intro o
  cases o with
  | zero => have h : spliceF (y :: l) 0 x = layF x (y :: l) := rfl
            rw [h, layF_eq]; simp [splice]
  | succ o =>
   have h : spliceF (y :: l) (o + 1) x = y :: spliceF l o x := rfl
   rw [h, ih]
   have e : o + 1 + x.length = (o + x.length) + 1 := by omega
   simp only [splice, List.take_succ_cons, e, List.drop_succ_cons, List.cons_append]
def vInt {β : Type} (v : AV) (f : IntKind → Int → β) (d : β) : β :=
 AV.rec (motive_1 := fun _ => β) (motive_2 := fun _ => Unit) d f (fun _ _ => d) (fun _ => d) (fun _ _ => d) (fun _ => d) (fun _ _ _ => d) (fun _ => d) (fun _ _ _ _ _ => d) d (fun _ _ _ => d) d (fun _ _ => d) (fun _ _ => d) (fun _ => d) () (fun _ _ _ _ => ()) v
def vBool {β : Type} (v : AV) (f : Bool → β) (d : β) : β :=
 AV.rec (motive_1 := fun _ => β) (motive_2 := fun _ => Unit) d (fun _ _ => d) (fun _ _ => d) f (fun _ _ => d) (fun _ => d) (fun _ _ _ => d) (fun _ => d) (fun _ _ _ _ _ => d) d (fun _ _ _ => d) d (fun _ _ => d) (fun _ _ => d) (fun _ => d) () (fun _ _ _ _ => ()) v
def vPtr {β : Type} (v : AV) (f : Option (Nat × Nat) → β) (d : β) : β :=
 AV.rec (motive_1 := fun _ => β) (motive_2 := fun _ => Unit) d (fun _ _ => d) (fun _ _ => d) (fun _ => d) (fun _ _ => d) f (fun _ _ _ => d) (fun _ => d) (fun _ _ _ _ _ => d) d (fun _ _ _ => d) d (fun _ _ => d) (fun _ _ => d) (fun _ => d) () (fun _ _ _ _ => ()) v
def vSlc {β : Type} (v : AV) (f : Option (Nat × Nat) → Nat → Cap → β) (d : β) : β :=
 AV.rec (motive_1 := fun _ => β) (motive_2 := fun _ => Unit) d (fun _ _ => d) (fun _ _ => d) (fun _ => d) (fun _ _ => d) (fun _ => d) f (fun _ => d) (fun _ _ _ _ _ => d) d (fun _ _ _ => d) d (fun _ _ => d) (fun _ _ => d) (fun _ => d) () (fun _ _ _ _ => ()) v
def vTuple {β : Type} (v : AV) (f : List AV → β) (d : β) : β :=
 AV.rec (motive_1 := fun _ => β) (motive_2 := fun _ => Unit) d (fun _ _ => d) (fun _ _ => d) (fun _ => d) (fun _ _ => d) (fun _ => d) (fun _ _ _ => d) (fun _ => d) (fun _ _ _ _ _ => d) d (fun _ _ _ => d) d (fun _ _ => d) (fun l _ => f l) (fun _ => d) () (fun _ _ _ _ => ()) v
def vOne (v : AV) : Bool :=
 AV.rec (motive_1 := fun _ => Bool) (motive_2 := fun _ => Unit) false (fun _ _ => true) (fun _ _ => true) (fun _ => true) (fun _ _ => true) (fun _ => true) (fun _ _ _ => true) (fun _ => true) (fun _ _ _ _ _ => true) true (fun _ _ _ => true) true (fun _ _ => false) (fun _ _ => false) (fun _ => true) () (fun _ _ _ _ => ()) v
theorem vOne_eq (v : AV) : vOne v = v.one := by cases v <;> rfl
def vCells (v : AV) : Option (List AV) :=
 AV.rec (motive_1 := fun _ => Option (List AV)) (motive_2 := fun _ => Unit) none (fun _ _ => some [v]) (fun _ _ => some [v]) (fun _ => some [v]) (fun _ _ => some [v]) (fun _ => some [v]) (fun _ _ _ => some [v]) (fun _ => some [v]) (fun _ _ _ _ _ => some [v]) (some [v]) (fun _ _ _ => some [v]) (some [v]) (fun l _ => some l) (fun _ _ => none) (fun _ => some [v]) () (fun _ _ _ _ => ()) v
theorem vCells_eq (v : AV) : vCells v = v.cells := by cases v <;> rfl
def allOneF (l : List AV) : Bool := List.rec (motive := fun _ => Bool) true (fun x _ ih => bb2 (vOne x) ih false) l
theorem allOneF_eq (l : List AV) : allOneF l = allOne l := by
 induction l with
 | nil => rfl
 | cons x l ih => show bb2 (vOne x) (allOneF l) false = allOne (x :: l); rw [bb2_eq, ih, vOne_eq]; rfl
def oCells {β : Type} (o : AO) (f : List AV → TypeId → Bool → β) (d : β) : β := AO.rec (motive := fun _ => β) f (fun _ _ => d) (fun _ _ _ _ => d) d (fun _ _ => d) (fun _ => d) o
def oRead {β : Type} (o : AO) (f : List AV → β) (d : β) : β := AO.rec (motive := fun _ => β) (fun l _ _ => f l) (fun _ _ => d) (fun _ _ _ _ => d) d (fun l _ => f l) (fun _ => d) o
def kcF (k : IntKind) : Nat := IntKind.rec (motive := fun _ => Nat) (nat_lit 0) (nat_lit 1) (nat_lit 2) (nat_lit 3) (nat_lit 4) (nat_lit 5) (nat_lit 6) (nat_lit 7) k
theorem kcF_eq (k : IntKind) : kcF k = kc k := by cases k <;> rfl
def topF (k : IntKind) : Nat := IntKind.rec (motive := fun _ => Nat) (nat_lit 127) (nat_lit 32767) (nat_lit 2147483647) (nat_lit 9223372036854775807) (nat_lit 255) (nat_lit 65535) (nat_lit 4294967295) (nat_lit 18446744073709551615) k
theorem topF_eq (k : IntKind) : topF k = top k := by cases k <;> rfl
def bitsF (k : IntKind) : Nat := IntKind.rec (motive := fun _ => Nat) (nat_lit 8) (nat_lit 16) (nat_lit 32) (nat_lit 64) (nat_lit 8) (nat_lit 16) (nat_lit 32) (nat_lit 64) k
theorem bitsF_eq (k : IntKind) : bitsF k = k.bits := by cases k <;> rfl
def overF (k : IntKind) (m : Nat) : Int :=
 IntKind.rec (motive := fun _ => Int) (k.wrap (.ofNat m)) (k.wrap (.ofNat m)) (k.wrap (.ofNat m)) (k.wrap (.ofNat m)) (.ofNat (Nat.mod m (nat_lit 256))) (.ofNat (Nat.mod m (nat_lit 65536))) (.ofNat (Nat.mod m (nat_lit 4294967296))) (.ofNat (Nat.mod m (nat_lit 18446744073709551616))) k
theorem overF_eq (k : IntKind) (m : Nat) : overF k m = k.wrap (.ofNat m) := by
 have e : (Int.ofNat m : Int) = (m : Int) := rfl
 cases k <;> simp only [overF]
 ·show Int.ofNat (m % 256) = _; simp only [IntKind.wrap, IntKind.bits, IntKind.signed, e]; simp
 ·show Int.ofNat (m % 65536) = _; simp only [IntKind.wrap, IntKind.bits, IntKind.signed, e]; simp
 ·show Int.ofNat (m % 4294967296) = _; simp only [IntKind.wrap, IntKind.bits, IntKind.signed, e]; simp
 ·show Int.ofNat (m % 18446744073709551616) = _; simp only [IntKind.wrap, IntKind.bits, IntKind.signed, e]; simp
def wrapG (k : IntKind) (n : Int) : Int := Int.rec (motive := fun _ => Int) (fun m => bb2 (Nat.ble m (topF k)) (.ofNat m) (overF k m)) (fun _ => k.wrap n) n
theorem wrapG_eq (k : IntKind) (n : Int) : wrapG k n = wrapF k n := by
 cases n with
 | ofNat m => simp only [wrapG, wrapF, bb2_eq, topF_eq, overF_eq]
 | negSucc m => rfl
def iAdd (a b : Int) : Int := Int.rec (motive := fun _ => Int) (fun m => Int.rec (motive := fun _ => Int) (fun n => .ofNat (Nat.add m n)) (fun _ => a + b) b) (fun _ => a + b) a
theorem iAdd_eq (a b : Int) : iAdd a b = a + b := by cases a <;> cases b <;> rfl
def iSub (a b : Int) : Int := Int.rec (motive := fun _ => Int) (fun m => Int.rec (motive := fun _ => Int) (fun n => bb2 (Nat.ble n m) (.ofNat (Nat.sub m n)) (a - b)) (fun _ => a - b) b) (fun _ => a - b) a
theorem iSub_eq (a b : Int) : iSub a b = a - b := by
 cases a with
 | ofNat m =>
  cases b with
  | ofNat n =>
   simp only [iSub, bb2_eq]
   cases h : Nat.ble n m with
   | false => rfl
   | true =>
    have h := nbl h
    simp only [cond_true]
    show Int.ofNat (m - n) = (m : Int) - (n : Int)
    exact Int.ofNat_sub h
  | negSucc n => rfl
 | negSucc m => rfl
def iMul (a b : Int) : Int := Int.rec (motive := fun _ => Int) (fun m => Int.rec (motive := fun _ => Int) (fun n => .ofNat (Nat.mul m n)) (fun _ => a * b) b) (fun _ => a * b) a
theorem iMul_eq (a b : Int) : iMul a b = a * b := by cases a <;> cases b <;> rfl
def iltF (a b : Int) : Bool := Int.rec (motive := fun _ => Bool) (fun m => Int.rec (motive := fun _ => Bool) (fun n => Nat.ble (Nat.succ m) n) (fun _ => false) b) (fun _ => ilt a b) a
theorem iltF_eq (a b : Int) : iltF a b = ilt a b := by cases a <;> cases b <;> rfl
def ieqF (a b : Int) : Bool := Int.rec (motive := fun _ => Bool) (fun m => Int.rec (motive := fun _ => Bool) (fun n => Nat.beq m n) (fun _ => false) b) (fun _ => ieq a b) a
theorem ieqF_eq (a b : Int) : ieqF a b = ieq a b := by cases a <;> cases b <;> rfl
def notF (b : Bool) : Bool := Bool.rec (motive := fun _ => Bool) true false b
theorem notF_eq (b : Bool) : notF b = !b := by cases b <;> rfl
def bitsOfF (k : IntKind) (a : Int) : Nat := Int.rec (motive := fun _ => Nat) (fun m => bb2 (Nat.ble m (topF k)) m (bitsOf k a)) (fun _ => bitsOf k a) a
theorem bitsOfF_eq (k : IntKind) (a : Int) : bitsOfF k a = bitsOf k a := by
 cases a with
 | ofNat m =>
  simp only [bitsOfF, bb2_eq]
  cases h : Nat.ble m (topF k) with
  | false => rfl
  | true =>
   have h := nbl h
   simp only [cond_true, bitsOf]
   rw [topF_eq] at h
   refine (Nat.mod_eq_of_lt ?_).symm
   cases k <;> simp only [top] at h <;> simp only [IntKind.bits] <;> omega
 | negSucc m => rfl
def iopF (op : BinOp) (k : IntKind) (a b : Int) : Option AV :=
 match op with
 | .add => some (.int k (wrapG k (iAdd a b)))
 | .sub => some (.int k (wrapG k (iSub a b)))
 | .mul => some (.int k (wrapG k (iMul a b)))
 | .and => some (.int k (wrapG k (.ofNat (Nat.land (bitsOfF k a) (bitsOfF k b)))))
 | .or => some (.int k (wrapG k (.ofNat (Nat.lor (bitsOfF k a) (bitsOfF k b)))))
 | .xor => some (.int k (wrapG k (.ofNat (Nat.xor (bitsOfF k a) (bitsOfF k b)))))
 | .eql => some (.bool (ieqF a b))
 | .neq => some (.bool (notF (ieqF a b)))
 | .lss => some (.bool (iltF a b))
 | .leq => some (.bool (notF (iltF b a)))
 | .gtr => some (.bool (iltF b a))
 | .geq => some (.bool (notF (iltF a b)))
 | _ => iop op k a b
theorem iopF_eq (op : BinOp) (k : IntKind) (a b : Int) : iopF op k a b = iop op k a b := by
 cases op <;> simp only [iopF, iop, wrapG_eq, iAdd_eq, iSub_eq, iMul_eq, bitsOfF_eq, ieqF_eq, iltF_eq, notF_eq]
def minF (n m : Nat) : Nat := bb2 (Nat.ble n m) n m
theorem minF_eq (n m : Nat) : minF n m = Nat.min n m := by
 simp only [minF, bb2_eq]
 cases h : Nat.ble n m with
 | true => have := nbl h; simp only [cond_true]; exact (Nat.min_eq_left this).symm
 | false =>
  have h : ¬ n ≤ m := fun e => by rw [Nat.ble_eq_true_of_le e] at h; cases h
  simp only [cond_false]
  exact (Nat.min_eq_right (by omega)).symm
def pow2F (x : Int) (n : Nat) : Int := Int.rec (motive := fun _ => Int) (fun m => .ofNat (Nat.mul m (Nat.pow (nat_lit 2) n))) (fun _ => pow2 x n) x
theorem pow2F_eq (x : Int) (n : Nat) : pow2F x n = pow2 x n := by cases x <;> rfl
def shr2F (x : Int) (n : Nat) : Int := Int.rec (motive := fun _ => Int) (fun m => .ofNat (Nat.div m (Nat.pow (nat_lit 2) n))) (fun _ => shr2 x n) x
theorem shr2F_eq (x : Int) (n : Nat) : shr2F x n = shr2 x n := by cases x <;> rfl
def ishiftF (op : BinOp) (k : IntKind) (a : Int) (b : Int) : Option AV :=
 Int.rec (motive := fun _ => Option AV) (fun n => match op with
  | .shl => some (.int k (wrapG k (pow2F a (minF n (bitsF k)))))
  | .shr => some (.int k (shr2F a (minF n (bitsF k))))
  | _ => none) (fun _ => none) b
theorem ishiftF_eq (op : BinOp) (k : IntKind) (a b : Int) : ishiftF op k a b = ishift op k a b := by
 cases b with
 | negSucc n => rfl
 | ofNat n => cases op <;> simp only [ishiftF, ishift, wrapG_eq, pow2F_eq, shr2F_eq, minF_eq, bitsF_eq]
def xbinF (op : BinOp) (sh : Bool) (x y : AV) : Option AV :=
 vInt x (fun k a => vInt y (fun k' b => bb2 sh (ishiftF op k a b) (bb2 (Nat.beq (kcF k) (kcF k')) (iopF op k a b) none)) (xbin op sh x y)) (xbin op sh x y)
theorem xbinF_eq (op : BinOp) (sh : Bool) (x y : AV) : xbinF op sh x y = xbin op sh x y := by
 cases x <;> first | rfl | skip
 cases y <;> first | rfl | skip
 simp only [xbinF, vInt, bb2_eq, ishiftF_eq, iopF_eq, kcF_eq]
 rfl
def awGet (aw : AW) (id : Nat) : Option AO := AW.rec (motive := fun _ => Option AO) (fun h _ _ => trGet h id) aw
theorem awGet_eq (aw : AW) (id : Nat) : awGet aw id = aw.get id := trGet_eq _ _
def awSet (aw : AW) (id : Nat) (o : AO) : AW := AW.rec (motive := fun _ => AW) (fun h nx ns => ⟨trSet h id o, nx, ns⟩) aw
theorem awSet_eq (aw : AW) (id : Nat) (o : AO) : awSet aw id o = aw.set id o := by
 show (⟨trSet aw.heap id o, aw.nx, aw.ns⟩ : AW) = _
 rw [trSet_eq]; rfl
def awAdd (aw : AW) (o : AO) : AW := AW.rec (motive := fun _ => AW) (fun h nx ns => Nat.rec (motive := fun _ => AW) ⟨trSet h (nat_lit 0) o, nat_lit 1, ns⟩ (fun n _ => ⟨trSet h (Nat.succ n) o, Nat.succ (Nat.succ n), ns⟩) nx) aw
theorem awAdd_eq (aw : AW) (o : AO) : awAdd aw o = aw.add o := by
 obtain ⟨h, nx, ns⟩ := aw
 cases nx with
 | zero => show (⟨trSet h 0 o, 1, ns⟩ : AW) = _; rw [trSet_eq]; rfl
 | succ n => show (⟨trSet h (n + 1) o, n + 2, ns⟩ : AW) = _; rw [trSet_eq]; rfl
def evF (a : Tr AV) (x : Opd) : Option AV := Opd.rec (motive := fun _ => Option AV) (fun n => trGet a n) (fun v => some v) x
theorem evF_eq (a : Tr AV) (x : Opd) : evF a x = x.ev a := by
 cases x with
 | t n => exact trGet_eq a n
 | c v => rfl
def evsF (a : Tr AV) (l : List Opd) : Option (List AV) := List.rec (motive := fun _ => Option (List AV)) (some []) (fun x _ ih => ob (evF a x) (fun v => ob ih (fun vs => some (v :: vs)))) l
theorem evsF_eq (a : Tr AV) (l : List Opd) : evsF a l = evs a l := by
 induction l with
 | nil => rfl
 | cons x l ih =>
  show ob (evF a x) (fun v => ob (evsF a l) (fun vs => some (v :: vs))) = _
  rw [ih, evF_eq]
  simp only [evs]
  cases x.ev a with
  | none => rfl
  | some v => cases evs a l <;> rfl
def xfillF (a : Tr AV) (l : List AV) (ps : List (Nat × Nat × Opd)) : Option (List AV) :=
 List.rec (motive := fun _ => List AV → Option (List AV)) (fun l => some l) (fun p _ ih l => ob (evF a p.2.2) (fun v => ob (vCells v) (fun cs => bb2 (Nat.beq (lenF cs) p.2.1) (bb2 (Nat.ble (Nat.add p.1 p.2.1) (lenF l)) (ih (spliceF l p.1 cs)) none) none))) ps l
theorem xfillF_eq (a : Tr AV) (ps : List (Nat × Nat × Opd)) : ∀ l, xfillF a l ps = xfill a l ps := by
 induction ps with
 | nil => intro l; rfl
 | cons p ps ih =>
  intro l
  obtain ⟨o, n, x⟩ := p
  show ob (evF a x) (fun v => ob (vCells v) (fun cs => bb2 (Nat.beq (lenF cs) n) (bb2 (Nat.ble (Nat.add o n) (lenF l)) (xfillF a (spliceF l o cs) ps) none) none)) = _
  simp only [xfill, evF_eq]
  cases x.ev a with
  | none => rfl
  | some v =>
   show ob (vCells v) _ = _
   rw [vCells_eq]
   simp only
   cases v.cells with
   | none => rfl
   | some cs => show bb2 _ _ _ = _; simp only [bb2_eq, lenF_eq, spliceF_eq, ih]; rfl
def xloadF (aw : AW) (n : Option Nat) (p : AV) : Option AV :=
 vPtr p (fun q => ob q (fun p => ob (awGet aw p.1) (fun o => oRead o (fun l => Option.rec (motive := fun _ => Option AV) (nthF l p.2) (fun n => bb2 (Nat.beq (lenF (takeF (dropF l p.2) n)) n) (some (.agg (takeF (dropF l p.2) n))) none) n) none))) none
theorem xloadF_eq (aw : AW) (n : Option Nat) (p : AV) : xloadF aw n p = xload aw n p := by
 cases p <;> first | rfl | skip
 rename_i q
 cases q with
 | none => rfl
 | some q =>
  obtain ⟨id, o⟩ := q
  show ob (awGet aw id) _ = _
  rw [awGet_eq]
  simp only [xload]
  cases aw.get id with
  | none => rfl
  | some x =>
   have all : ∀ l : List AV, (Option.rec (motive := fun _ => Option AV) (nthF l o) (fun n => bb2 (Nat.beq (lenF (takeF (dropF l o) n)) n) (some (.agg (takeF (dropF l o) n))) none) n) = (match n with
    | none => l[o]?
    | some n => bif Nat.beq ((l.drop o).take n).length n then some (.agg ((l.drop o).take n)) else none) := fun l => by
    cases n with
    | none => exact nthF_eq l o
    | some n => show bb2 _ _ _ = _; simp only [bb2_eq, lenF_eq, takeF_eq, dropF_eq]
   cases x <;> first | rfl | skip
   ·rename_i l e b; exact all l
   ·rename_i l e; exact all l
def xstoreF (aw : AW) (n : Nat) (x v : AV) : Option (AV × AW) :=
 vPtr x (fun q => ob q (fun p => ob (vCells v) (fun cs => ob (awGet aw p.1) (fun o => oCells o (fun l e opn => bb2 (Nat.beq (lenF cs) n) (bb2 (Nat.ble (Nat.add p.2 n) (lenF l)) (bb2 (allOneF cs) (some (.tuple [], awSet aw p.1 (.cells (spliceF l p.2 cs) e opn))) none) none) none) none)))) none
theorem xstoreF_eq (aw : AW) (n : Nat) (x v : AV) : xstoreF aw n x v = xstore aw n x v := by
 cases x <;> first | rfl | skip
 rename_i q
 cases q with
 | none => rfl
 | some q =>
  obtain ⟨id, o⟩ := q
  show ob (vCells v) _ = _
  rw [vCells_eq]
  simp only [xstore]
  cases v.cells with
  | none => rfl
  | some cs =>
   show ob (awGet aw id) _ = _
   rw [awGet_eq]
   simp only
   cases aw.get id with
   | none => rfl
   | some x =>
    cases x <;> first | rfl | skip
    rename_i l e b
    show bb2 _ _ _ = _
    simp only [bb2_eq, lenF_eq, spliceF_eq, allOneF_eq, awSet_eq]
    cases h1 : Nat.beq cs.length n
    ·simp
    ·have h2 : Nat.add o n = o + n := rfl
     simp only [cond_true, Bool.true_and, h2]
     cases h3 : Nat.ble (o + n) l.length <;> simp
def xcellsF (aw : AW) (sz n : Nat) (v : AV) : Option (List AV) :=
 vSlc v (fun q len _ => Option.rec (motive := fun _ => Option (List AV)) (bb2 (Nat.beq n (nat_lit 0)) (some []) none) (fun p => bb2 (Nat.beq n (nat_lit 0)) (some []) (bb2 (Nat.ble n len) (ob (awGet aw p.1) (fun o => oRead o (fun l => bb2 (Nat.beq (lenF (takeF (dropF l p.2) (Nat.mul n sz))) (Nat.mul n sz)) (some (takeF (dropF l p.2) (Nat.mul n sz))) none) none)) none)) q) none
theorem xcellsF_eq (aw : AW) (sz n : Nat) (v : AV) : xcellsF aw sz n v = xcells aw sz n v := by
 cases v <;> first | rfl | skip
 rename_i q len cap
 cases q with
 | none => show bb2 _ _ _ = _; rw [bb2_eq]; rfl
 | some q =>
  obtain ⟨id, o⟩ := q
  show bb2 _ _ _ = _
  simp only [bb2_eq, xcells, awGet_eq]
  cases Nat.beq n 0 with
  | true => rfl
  | false =>
   cases Nat.ble n len with
   | false => rfl
   | true =>
    simp only [cond_false, cond_true]
    cases aw.get id with
    | none => rfl
    | some x =>
     cases x <;> first | rfl | skip
     all_goals
      show (bif _ then _ else _) = _
      simp only [lenF_eq, takeF_eq, dropF_eq]
      rfl
def repCellsF (z : List AV) (n : Nat) : List AV := Nat.rec (motive := fun _ => List AV) [] (fun _ ih => appF z ih) n
theorem repCellsF_eq (z : List AV) (n : Nat) : repCellsF z n = repCells z n := by
 induction n with
 | zero => rfl
 | succ n ih => show appF z (repCellsF z n) = _; rw [ih, appF_eq]; rfl
def xfindF (k : IntKind) (n : Int) (l : List AEnt) (i : Nat) : Option (Option (Nat × AV)) :=
 List.rec (motive := fun _ => Nat → Option (Option (Nat × AV))) (fun _ => some none) (fun e _ ih i => vInt e.key (fun k' m => bb2 (Nat.beq (kcF k) (kcF k')) (bb2 (ieqF n m) (some (some (i, e.val))) (ih (Nat.succ i))) none) none) l i
theorem xfindF_eq (k : IntKind) (n : Int) (l : List AEnt) : ∀ i, xfindF k n l i = xfind k n l i := by
 induction l with
 | nil => intro i; rfl
 | cons e l ih =>
  intro i
  obtain ⟨key, val, born⟩ := e
  show vInt key _ _ = _
  cases key <;> first | rfl | skip
  rename_i k' m
  show bb2 (Nat.beq (kcF k) (kcF k')) (bb2 (ieqF n m) (some (some (i, val))) (xfindF k n l (Nat.succ i))) none = _
  rw [ih, bb2_eq, bb2_eq, kcF_eq, kcF_eq, ieqF_eq]
  rfl
def xmapF (aw : AW) (v : AV) : Option (Nat × List AEnt × Nat) :=
 match v with
 | .map (some id) => match awGet aw id with
  | some (.map es clock) => some (id, es, clock)
  | _ => none
 | _ => none
theorem xmapF_eq (aw : AW) (v : AV) : xmapF aw v = xmap aw v := by
 cases v <;> first | rfl | skip
 rename_i q
 cases q with
 | none => rfl
 | some id => simp only [xmapF, xmap, awGet_eq]; rfl
def smallF (need bytes : Nat) : Bool := bb2 (Nat.ble need (nat_lit 140737488355328)) (Nat.ble (Nat.mul need bytes) (nat_lit 140737488355328)) false
theorem smallF_eq (a b : Nat) : smallF a b = small a b := by
 simp only [smallF, small, bb2_eq]
 cases Nat.ble a 140737488355328 <;> rfl
def xappendF (aw : AW) (e : TypeId) (sz bytes : Nat) (s : AV) (n : Nat) (new : List AV) : Option (AV × AW) :=
 match s with
 | .slc none _ _ => bif Nat.beq n 0 then some (.slc none 0 (.known 0), aw) else bif smallF n bytes then some (.slc (some (aw.nx, 0)) n (.upto sz n), awAdd aw (.cells new e true)) else none
 | .slc (some (id, o)) len (.known c) =>
  bif Nat.ble (len + n) c then (bif Nat.beq n 0 then some (s, aw) else (match awGet aw id with
   | some (.cells l e' opn) => bif Nat.ble (o + (len + n) * sz) (lenF l) && allOneF new then some (.slc (some (id, o)) (len + n) (.known c), awSet aw id (.cells (spliceF l (o + len * sz) new) e' opn)) else none
   | _ => none))
  else bif smallF (len + n) bytes then (match xcellsF aw sz len s with
   | some old => some (.slc (some (aw.nx, 0)) (len + n) (.upto sz (len + n)), awAdd aw (.cells (appF old new) e true))
   | none => none) else none
 | .slc (some (id, o)) len (.upto sz' lo) =>
  bif Nat.beq sz sz' then (bif Nat.ble (len + n) lo then (bif Nat.beq n 0 then some (s, aw) else (match awGet aw id with
   | some (.cells l e' opn) => bif Nat.ble (o + (len + n) * sz) (lenF l) && allOneF new then some (.slc (some (id, o)) (len + n) (.upto sz lo), awSet aw id (.cells (spliceF l (o + len * sz) new) e' opn)) else none
   | _ => none))
  else match awGet aw id with
   | some (.cells l e' opn) => bif Nat.beq (o + len * sz) (lenF l) && (Nat.beq e e' && (smallF (len + n) bytes && allOneF new)) then
     some (.slc (some (aw.nx, 0)) (len + n) (.upto sz (len + n)), (awSet aw id .dead).add (.cells (appF (dropF l o) new) e true)) else none
   | _ => none) else none
 | _ => none
theorem xappendF_eq (aw : AW) (e : TypeId) (sz bytes : Nat) (s : AV) (n : Nat) (new : List AV) : xappendF aw e sz bytes s n new = xappend aw e sz bytes s n new := by
 simp only [xappendF, xappend, awGet_eq, awSet_eq, awAdd_eq, smallF_eq, allOneF_eq, appF_eq, dropF_eq, lenF_eq, spliceF_eq, xcellsF_eq]
 rfl
def a_mv (a : Tr AV) (aw : AW) (x : Opd) : Option (AV × AW) :=
  ob (evF a x) (fun v => some (v, aw))
theorem a_mv_eq (a : Tr AV) (aw : AW) (x : Opd) : a_mv a aw x = xop a aw (.mv x) := by
 show ob (evF a x) (fun v => some (v, aw)) = _
 rw [evF_eq]; simp only [xop]; cases x.ev a <;> rfl
def a_pick (a : Tr AV) (aw : AW) (c : Opd) (x : Opd) (y : Opd) : Option (AV × AW) :=
  match evF a c with
  | some (.bool b) => match (bif b then evF a x else evF a y) with
   | some v => some (v, aw)
   | none => none
  | _ => none
theorem a_pick_eq (a : Tr AV) (aw : AW) (c : Opd) (x : Opd) (y : Opd) : a_pick a aw c x y = xop a aw (.pick c x y) := by
 (simp only [a_pick, xop, bb2_eq, awGet_eq, awSet_eq, awAdd_eq, evF_eq, evsF_eq, xfillF_eq, xloadF_eq, xstoreF_eq, xcellsF_eq, xappendF_eq, xbinF_eq, xmapF_eq, xfindF_eq, wrapG_eq, repCellsF_eq, spliceF_eq, allOneF_eq, lenF_eq, nthF_eq]) <;> rfl
def a_alloc (a : Tr AV) (aw : AW) (cs : List AV) (e : TypeId) : Option (AV × AW) :=
  some (.ptr (some (aw.nx, 0)), awAdd aw (.cells cs e false))
theorem a_alloc_eq (a : Tr AV) (aw : AW) (cs : List AV) (e : TypeId) : a_alloc a aw cs e = xop a aw (.alloc cs e) := by
 (simp only [a_alloc, xop, bb2_eq, awGet_eq, awSet_eq, awAdd_eq, evF_eq, evsF_eq, xfillF_eq, xloadF_eq, xstoreF_eq, xcellsF_eq, xappendF_eq, xbinF_eq, xmapF_eq, xfindF_eq, wrapG_eq, repCellsF_eq, spliceF_eq, allOneF_eq, lenF_eq, nthF_eq]) <;> rfl
def a_box (a : Tr AV) (aw : AW) (e : TypeId) (x : Opd) : Option (AV × AW) :=
  match evF a x with
  | some v => match v.cells with
   | some cs => some (.ptr (some (aw.nx, 0)), awAdd aw (.cells cs e false))
   | none => none
  | none => none
theorem a_box_eq (a : Tr AV) (aw : AW) (e : TypeId) (x : Opd) : a_box a aw e x = xop a aw (.box e x) := by
 (simp only [a_box, xop, bb2_eq, awGet_eq, awSet_eq, awAdd_eq, evF_eq, evsF_eq, xfillF_eq, xloadF_eq, xstoreF_eq, xcellsF_eq, xappendF_eq, xbinF_eq, xmapF_eq, xfindF_eq, wrapG_eq, repCellsF_eq, spliceF_eq, allOneF_eq, lenF_eq, nthF_eq]) <;> rfl
def a_build (a : Tr AV) (aw : AW) (z : List AV) (ps : List (Nat × Nat × Opd)) : Option (AV × AW) :=
  match xfillF a z ps with
  | some l => some (.agg l, aw)
  | none => none
theorem a_build_eq (a : Tr AV) (aw : AW) (z : List AV) (ps : List (Nat × Nat × Opd)) : a_build a aw z ps = xop a aw (.build z ps) := by
 (simp only [a_build, xop, bb2_eq, awGet_eq, awSet_eq, awAdd_eq, evF_eq, evsF_eq, xfillF_eq, xloadF_eq, xstoreF_eq, xcellsF_eq, xappendF_eq, xbinF_eq, xmapF_eq, xfindF_eq, wrapG_eq, repCellsF_eq, spliceF_eq, allOneF_eq, lenF_eq, nthF_eq]) <;> rfl
def a_mkslc (a : Tr AV) (aw : AW) (e : TypeId) (len : Nat) (z : List AV) (ps : List (Nat × Nat × Opd)) : Option (AV × AW) :=
  match xfillF a z ps with
  | some l => some (.slc (some (aw.nx, 0)) len (.known len), awAdd aw (.cells l e false))
  | none => none
theorem a_mkslc_eq (a : Tr AV) (aw : AW) (e : TypeId) (len : Nat) (z : List AV) (ps : List (Nat × Nat × Opd)) : a_mkslc a aw e len z ps = xop a aw (.mkslc e len z ps) := by
 (simp only [a_mkslc, xop, bb2_eq, awGet_eq, awSet_eq, awAdd_eq, evF_eq, evsF_eq, xfillF_eq, xloadF_eq, xstoreF_eq, xcellsF_eq, xappendF_eq, xbinF_eq, xmapF_eq, xfindF_eq, wrapG_eq, repCellsF_eq, spliceF_eq, allOneF_eq, lenF_eq, nthF_eq]) <;> rfl
def a_load (a : Tr AV) (aw : AW) (n : Option Nat) (x : Opd) : Option (AV × AW) :=
  ob (evF a x) (fun p => ob (xloadF aw n p) (fun v => some (v, aw)))
theorem a_load_eq (a : Tr AV) (aw : AW) (n : Option Nat) (x : Opd) : a_load a aw n x = xop a aw (.load n x) := by
 show ob (evF a x) _ = _
 rw [evF_eq]; simp only [xop]; cases x.ev a with
 | none => rfl
 | some v => show ob (xloadF aw n v) _ = _
             rw [xloadF_eq]; simp only; cases xload aw n v <;> rfl
def a_store (a : Tr AV) (aw : AW) (n : Nat) (x : Opd) (y : Opd) : Option (AV × AW) :=
  ob (evF a x) (fun p => ob (evF a y) (fun v => xstoreF aw n p v))
theorem a_store_eq (a : Tr AV) (aw : AW) (n : Nat) (x : Opd) (y : Opd) : a_store a aw n x y = xop a aw (.store n x y) := by
 show ob (evF a x) _ = _
 rw [evF_eq]; simp only [xop]; cases x.ev a with
 | none => rfl
 | some p => show ob (evF a y) _ = _
             rw [evF_eq]; simp only; cases y.ev a with
             | none => rfl
             | some v => exact xstoreF_eq aw n p v
def a_nilck (a : Tr AV) (aw : AW) (x : Opd) : Option (AV × AW) :=
  ob (evF a x) (fun v => vPtr v (fun p => ob p (fun p => some (.ptr (some p), aw))) none)
theorem a_nilck_eq (a : Tr AV) (aw : AW) (x : Opd) : a_nilck a aw x = xop a aw (.nilck x) := by
 show ob (evF a x) _ = _
 rw [evF_eq]; simp only [xop]; cases x.ev a with
 | none => rfl
 | some v => cases v <;> first | rfl | skip
             rename_i q; cases q <;> rfl
def a_bin (a : Tr AV) (aw : AW) (op : BinOp) (sh : Bool) (x : Opd) (y : Opd) : Option (AV × AW) :=
  ob (evF a x) (fun u => ob (evF a y) (fun v => ob (xbinF op sh u v) (fun r => some (r, aw))))
theorem a_bin_eq (a : Tr AV) (aw : AW) (op : BinOp) (sh : Bool) (x : Opd) (y : Opd) : a_bin a aw op sh x y = xop a aw (.bin op sh x y) := by
 show ob (evF a x) _ = _
 rw [evF_eq]; simp only [xop]; cases x.ev a with
 | none => rfl
 | some p => show ob (evF a y) _ = _
             rw [evF_eq]; simp only; cases y.ev a with
             | none => rfl
             | some v => show ob (xbinF op sh p v) _ = _
                         rw [xbinF_eq]; simp only; cases xbin op sh p v <;> rfl
def a_nileq (a : Tr AV) (aw : AW) (kd : Nat) (neg : Bool) (x : Opd) : Option (AV × AW) :=
  match evF a x with
  | some v => match isNil kd v with
   | some b => some (.bool (bif neg then !b else b), aw)
   | none => none
  | none => none
theorem a_nileq_eq (a : Tr AV) (aw : AW) (kd : Nat) (neg : Bool) (x : Opd) : a_nileq a aw kd neg x = xop a aw (.nileq kd neg x) := by
 (simp only [a_nileq, xop, bb2_eq, awGet_eq, awSet_eq, awAdd_eq, evF_eq, evsF_eq, xfillF_eq, xloadF_eq, xstoreF_eq, xcellsF_eq, xappendF_eq, xbinF_eq, xmapF_eq, xfindF_eq, wrapG_eq, repCellsF_eq, spliceF_eq, allOneF_eq, lenF_eq, nthF_eq]) <;> rfl
def a_beq (a : Tr AV) (aw : AW) (neg : Bool) (x : Opd) (y : Opd) : Option (AV × AW) :=
  match evF a x with
  | some (.bool u) => match evF a y with
   | some (.bool v) => some (.bool (bif neg then !(u == v) else u == v), aw)
   | _ => none
  | _ => none
theorem a_beq_eq (a : Tr AV) (aw : AW) (neg : Bool) (x : Opd) (y : Opd) : a_beq a aw neg x y = xop a aw (.beq neg x y) := by
 (simp only [a_beq, xop, bb2_eq, awGet_eq, awSet_eq, awAdd_eq, evF_eq, evsF_eq, xfillF_eq, xloadF_eq, xstoreF_eq, xcellsF_eq, xappendF_eq, xbinF_eq, xmapF_eq, xfindF_eq, wrapG_eq, repCellsF_eq, spliceF_eq, allOneF_eq, lenF_eq, nthF_eq]) <;> rfl
def a_seq (a : Tr AV) (aw : AW) (neg : Bool) (x : Opd) (y : Opd) : Option (AV × AW) :=
  match evF a x with
  | some (.str u) => match evF a y with
   | some (.str v) => match sameBytes u v with
    | some b => some (.bool (bif neg then !b else b), aw)
    | none => none
   | _ => none
  | _ => none
theorem a_seq_eq (a : Tr AV) (aw : AW) (neg : Bool) (x : Opd) (y : Opd) : a_seq a aw neg x y = xop a aw (.seq neg x y) := by
 (simp only [a_seq, xop, bb2_eq, awGet_eq, awSet_eq, awAdd_eq, evF_eq, evsF_eq, xfillF_eq, xloadF_eq, xstoreF_eq, xcellsF_eq, xappendF_eq, xbinF_eq, xmapF_eq, xfindF_eq, wrapG_eq, repCellsF_eq, spliceF_eq, allOneF_eq, lenF_eq, nthF_eq]) <;> rfl
def a_bnot (a : Tr AV) (aw : AW) (x : Opd) : Option (AV × AW) :=
  match evF a x with
  | some (.bool b) => some (.bool !b, aw)
  | _ => none
theorem a_bnot_eq (a : Tr AV) (aw : AW) (x : Opd) : a_bnot a aw x = xop a aw (.bnot x) := by
 (simp only [a_bnot, xop, bb2_eq, awGet_eq, awSet_eq, awAdd_eq, evF_eq, evsF_eq, xfillF_eq, xloadF_eq, xstoreF_eq, xcellsF_eq, xappendF_eq, xbinF_eq, xmapF_eq, xfindF_eq, wrapG_eq, repCellsF_eq, spliceF_eq, allOneF_eq, lenF_eq, nthF_eq]) <;> rfl
def a_neg (a : Tr AV) (aw : AW) (x : Opd) : Option (AV × AW) :=
  match evF a x with
  | some (.int k n) => some (.int k (wrapG k (0 - n)), aw)
  | _ => none
theorem a_neg_eq (a : Tr AV) (aw : AW) (x : Opd) : a_neg a aw x = xop a aw (.neg x) := by
 (simp only [a_neg, xop, bb2_eq, awGet_eq, awSet_eq, awAdd_eq, evF_eq, evsF_eq, xfillF_eq, xloadF_eq, xstoreF_eq, xcellsF_eq, xappendF_eq, xbinF_eq, xmapF_eq, xfindF_eq, wrapG_eq, repCellsF_eq, spliceF_eq, allOneF_eq, lenF_eq, nthF_eq]) <;> rfl
def a_conv (a : Tr AV) (aw : AW) (k : IntKind) (x : Opd) : Option (AV × AW) :=
  ob (evF a x) (fun v => vInt v (fun _ n => some (.int k (wrapG k n), aw)) none)
theorem a_conv_eq (a : Tr AV) (aw : AW) (k : IntKind) (x : Opd) : a_conv a aw k x = xop a aw (.conv k x) := by
 show ob (evF a x) _ = _
 rw [evF_eq]; simp only [xop]; cases x.ev a with
 | none => rfl
 | some v => cases v <;> first | rfl | skip
             rename_i k2 n; show some (AV.int k (wrapG k n), aw) = _; rw [wrapG_eq]
def a_b2s (a : Tr AV) (aw : AW) (x : Opd) : Option (AV × AW) :=
  match evF a x with
  | some (.slc b len cap) => match xcellsF aw 1 len (.slc b len cap) with
   | some l => bif allU8 l then some (.str l, aw) else none
   | none => none
  | _ => none
theorem a_b2s_eq (a : Tr AV) (aw : AW) (x : Opd) : a_b2s a aw x = xop a aw (.b2s x) := by
 (simp only [a_b2s, xop, bb2_eq, awGet_eq, awSet_eq, awAdd_eq, evF_eq, evsF_eq, xfillF_eq, xloadF_eq, xstoreF_eq, xcellsF_eq, xappendF_eq, xbinF_eq, xmapF_eq, xfindF_eq, wrapG_eq, repCellsF_eq, spliceF_eq, allOneF_eq, lenF_eq, nthF_eq]) <;> rfl
def a_iface (a : Tr AV) (aw : AW) (t : TypeId) (x : Opd) : Option (AV × AW) :=
  match evF a x with
  | some v => some (.iface t v, aw)
  | none => none
theorem a_iface_eq (a : Tr AV) (aw : AW) (t : TypeId) (x : Opd) : a_iface a aw t x = xop a aw (.iface t x) := by
 (simp only [a_iface, xop, bb2_eq, awGet_eq, awSet_eq, awAdd_eq, evF_eq, evsF_eq, xfillF_eq, xloadF_eq, xstoreF_eq, xcellsF_eq, xappendF_eq, xbinF_eq, xmapF_eq, xfindF_eq, wrapG_eq, repCellsF_eq, spliceF_eq, allOneF_eq, lenF_eq, nthF_eq]) <;> rfl
def a_func (a : Tr AV) (aw : AW) (f : FuncId) (fs : List Opd) (cs : List Opd) : Option (AV × AW) :=
  match evsF a fs with
  | some l => match evsF a cs with
   | some m => some (.func (.func f) l m, aw)
   | none => none
  | none => none
theorem a_func_eq (a : Tr AV) (aw : AW) (f : FuncId) (fs : List Opd) (cs : List Opd) : a_func a aw f fs cs = xop a aw (.func f fs cs) := by
 (simp only [a_func, xop, bb2_eq, awGet_eq, awSet_eq, awAdd_eq, evF_eq, evsF_eq, xfillF_eq, xloadF_eq, xstoreF_eq, xcellsF_eq, xappendF_eq, xbinF_eq, xmapF_eq, xfindF_eq, wrapG_eq, repCellsF_eq, spliceF_eq, allOneF_eq, lenF_eq, nthF_eq]) <;> rfl
def a_mkmap (a : Tr AV) (aw : AW)  : Option (AV × AW) :=
  some (.map (some aw.nx), awAdd aw (.map [] 0))
theorem a_mkmap_eq (a : Tr AV) (aw : AW)  : a_mkmap a aw  = xop a aw (.mkmap ) := by
 (simp only [a_mkmap, xop, bb2_eq, awGet_eq, awSet_eq, awAdd_eq, evF_eq, evsF_eq, xfillF_eq, xloadF_eq, xstoreF_eq, xcellsF_eq, xappendF_eq, xbinF_eq, xmapF_eq, xfindF_eq, wrapG_eq, repCellsF_eq, spliceF_eq, allOneF_eq, lenF_eq, nthF_eq]) <;> rfl
def a_mkslice (a : Tr AV) (aw : AW) (e : TypeId) (z : List AV) (bytes : Nat) (l : Opd) (c : Opd) : Option (AV × AW) :=
  match evF a l with
  | some l => match evF a c with
   | some c => match xnat l with
    | some l => match xnat c with
     | some c => bif Nat.ble l c && Nat.ble (bytes * c) 140737488355328 && Nat.ble c 140737488355328 then some (.slc (some (aw.nx, 0)) l (.known c), awAdd aw (.cells (repCellsF z c) e false)) else none
     | none => none
    | none => none
   | none => none
  | none => none
theorem a_mkslice_eq (a : Tr AV) (aw : AW) (e : TypeId) (z : List AV) (bytes : Nat) (l : Opd) (c : Opd) : a_mkslice a aw e z bytes l c = xop a aw (.mkslice e z bytes l c) := by
 (simp only [a_mkslice, xop, bb2_eq, awGet_eq, awSet_eq, awAdd_eq, evF_eq, evsF_eq, xfillF_eq, xloadF_eq, xstoreF_eq, xcellsF_eq, xappendF_eq, xbinF_eq, xmapF_eq, xfindF_eq, wrapG_eq, repCellsF_eq, spliceF_eq, allOneF_eq, lenF_eq, nthF_eq]) <;> rfl
def a_slice (a : Tr AV) (aw : AW) (sz : Nat) (x : Opd) (lo : Option Opd) (hi : Option Opd) (mx : Option Opd) : Option (AV × AW) :=
  match evF a x with
  | some s =>
   match (match lo with | none => some 0 | some o => match evF a o with | some v => xnat v | none => none) with
   | some l => match (match hi with | none => some none | some o => match evF a o with | some v => (xnat v).map some | none => none) with
    | some h => match (match mx with | none => some none | some o => match evF a o with | some v => (xnat v).map some | none => none) with
     | some m => match xslice sz s l h m with
      | some r => some (r, aw)
      | none => none
     | none => none
    | none => none
   | none => none
  | none => none
theorem a_slice_eq (a : Tr AV) (aw : AW) (sz : Nat) (x : Opd) (lo : Option Opd) (hi : Option Opd) (mx : Option Opd) : a_slice a aw sz x lo hi mx = xop a aw (.slice sz x lo hi mx) := by
 (simp only [a_slice, xop, bb2_eq, awGet_eq, awSet_eq, awAdd_eq, evF_eq, evsF_eq, xfillF_eq, xloadF_eq, xstoreF_eq, xcellsF_eq, xappendF_eq, xbinF_eq, xmapF_eq, xfindF_eq, wrapG_eq, repCellsF_eq, spliceF_eq, allOneF_eq, lenF_eq, nthF_eq]) <;> rfl
def a_off (a : Tr AV) (aw : AW) (n : Nat) (x : Opd) : Option (AV × AW) :=
  ob (evF a x) (fun v => vPtr v (fun p => ob p (fun p => some (.ptr (some (p.1, Nat.add p.2 n)), aw))) none)
theorem a_off_eq (a : Tr AV) (aw : AW) (n : Nat) (x : Opd) : a_off a aw n x = xop a aw (.off n x) := by
 show ob (evF a x) _ = _
 rw [evF_eq]; simp only [xop]; cases x.ev a with
 | none => rfl
 | some v => cases v <;> first | rfl | skip
             rename_i q; cases q <;> rfl
def a_part (a : Tr AV) (aw : AW) (n : Option Nat) (o : Nat) (x : Opd) : Option (AV × AW) :=
  match evF a x with
  | some (.agg l) => match n with
   | none => match l[o]? with
    | some v => some (v, aw)
    | none => none
   | some n => bif Nat.beq ((l.drop o).take n).length n then some (.agg ((l.drop o).take n), aw) else none
  | _ => none
theorem a_part_eq (a : Tr AV) (aw : AW) (n : Option Nat) (o : Nat) (x : Opd) : a_part a aw n o x = xop a aw (.part n o x) := by
 (simp only [a_part, xop, bb2_eq, awGet_eq, awSet_eq, awAdd_eq, evF_eq, evsF_eq, xfillF_eq, xloadF_eq, xstoreF_eq, xcellsF_eq, xappendF_eq, xbinF_eq, xmapF_eq, xfindF_eq, wrapG_eq, repCellsF_eq, spliceF_eq, allOneF_eq, lenF_eq, nthF_eq]) <;> rfl
def a_idxS (a : Tr AV) (aw : AW) (sz : Nat) (x : Opd) (i : Opd) : Option (AV × AW) :=
  match evF a x with
  | some (.slc (some (id, o)) len _) => match evF a i with
   | some iv => match xnat iv with
    | some i => bif Nat.blt i len then some (.ptr (some (id, o + i * sz)), aw) else none
    | none => none
   | none => none
  | _ => none
theorem a_idxS_eq (a : Tr AV) (aw : AW) (sz : Nat) (x : Opd) (i : Opd) : a_idxS a aw sz x i = xop a aw (.idxS sz x i) := by
 (simp only [a_idxS, xop, bb2_eq, awGet_eq, awSet_eq, awAdd_eq, evF_eq, evsF_eq, xfillF_eq, xloadF_eq, xstoreF_eq, xcellsF_eq, xappendF_eq, xbinF_eq, xmapF_eq, xfindF_eq, wrapG_eq, repCellsF_eq, spliceF_eq, allOneF_eq, lenF_eq, nthF_eq]) <;> rfl
def a_idxA (a : Tr AV) (aw : AW) (n : Nat) (sz : Nat) (x : Opd) (i : Opd) : Option (AV × AW) :=
  match evF a x with
  | some (.ptr (some (id, o))) => match evF a i with
   | some iv => match xnat iv with
    | some i => bif Nat.blt i n then some (.ptr (some (id, o + i * sz)), aw) else none
    | none => none
   | none => none
  | _ => none
theorem a_idxA_eq (a : Tr AV) (aw : AW) (n : Nat) (sz : Nat) (x : Opd) (i : Opd) : a_idxA a aw n sz x i = xop a aw (.idxA n sz x i) := by
 (simp only [a_idxA, xop, bb2_eq, awGet_eq, awSet_eq, awAdd_eq, evF_eq, evsF_eq, xfillF_eq, xloadF_eq, xstoreF_eq, xcellsF_eq, xappendF_eq, xbinF_eq, xmapF_eq, xfindF_eq, wrapG_eq, repCellsF_eq, spliceF_eq, allOneF_eq, lenF_eq, nthF_eq]) <;> rfl
def a_idxT (a : Tr AV) (aw : AW) (x : Opd) (i : Opd) : Option (AV × AW) :=
  match evF a x with
  | some (.str l) => match evF a i with
   | some iv => match xnat iv with
    | some i => match l[i]? with
     | some v => some (v, aw)
     | none => none
    | none => none
   | none => none
  | _ => none
theorem a_idxT_eq (a : Tr AV) (aw : AW) (x : Opd) (i : Opd) : a_idxT a aw x i = xop a aw (.idxT x i) := by
 (simp only [a_idxT, xop, bb2_eq, awGet_eq, awSet_eq, awAdd_eq, evF_eq, evsF_eq, xfillF_eq, xloadF_eq, xstoreF_eq, xcellsF_eq, xappendF_eq, xbinF_eq, xmapF_eq, xfindF_eq, wrapG_eq, repCellsF_eq, spliceF_eq, allOneF_eq, lenF_eq, nthF_eq]) <;> rfl
def a_s2s (a : Tr AV) (aw : AW) (x : Opd) : Option (AV × AW) :=
  match evF a x with
  | some (.slc (some (id, o)) len cap) => match awGet aw id with
   | some (.cells _ _ _) => bif Nat.blt 0 len then some (.slc (some (id, o)) len cap, aw) else none
   | _ => none
  | _ => none
theorem a_s2s_eq (a : Tr AV) (aw : AW) (x : Opd) : a_s2s a aw x = xop a aw (.s2s x) := by
 (simp only [a_s2s, xop, bb2_eq, awGet_eq, awSet_eq, awAdd_eq, evF_eq, evsF_eq, xfillF_eq, xloadF_eq, xstoreF_eq, xcellsF_eq, xappendF_eq, xbinF_eq, xmapF_eq, xfindF_eq, wrapG_eq, repCellsF_eq, spliceF_eq, allOneF_eq, lenF_eq, nthF_eq]) <;> rfl
def a_look (a : Tr AV) (aw : AW) (z : AV) (ok : Bool) (m : Opd) (k : Opd) : Option (AV × AW) :=
  match evF a m with
  | some mv => match evF a k with
   | some (.int kk n) => match (match mv with | .map none => some [] | .map (some id) => (match awGet aw id with | some (.map es _) => some es | _ => none) | _ => none) with
    | some es => match xfindF kk n es 0 with
     | some (some (_, v)) => some (bif ok then .tuple [v, .bool true] else v, aw)
     | some none => some (bif ok then .tuple [z, .bool false] else z, aw)
     | none => none
    | none => none
   | _ => none
  | none => none
theorem a_look_eq (a : Tr AV) (aw : AW) (z : AV) (ok : Bool) (m : Opd) (k : Opd) : a_look a aw z ok m k = xop a aw (.look z ok m k) := by
 (simp only [a_look, xop, bb2_eq, awGet_eq, awSet_eq, awAdd_eq, evF_eq, evsF_eq, xfillF_eq, xloadF_eq, xstoreF_eq, xcellsF_eq, xappendF_eq, xbinF_eq, xmapF_eq, xfindF_eq, wrapG_eq, repCellsF_eq, spliceF_eq, allOneF_eq, lenF_eq, nthF_eq]) <;> rfl
def a_mapset (a : Tr AV) (aw : AW) (m : Opd) (k : Opd) (v : Opd) : Option (AV × AW) :=
  match evF a m with
  | some mv => match evF a k with
   | some (.int kk n) => match evF a v with
    | some x => match xmapF aw mv with
     | some (id, es, clock) => match xfindF kk n es 0 with
      | some (some (i, _)) => some (.tuple [], awSet aw id (.map (entPut (.int kk n) x es i) clock))
      | some none => some (.tuple [], awSet aw id (.map (es ++ [⟨.int kk n, x, clock⟩]) (clock + 1)))
      | none => none
     | none => none
    | none => none
   | _ => none
  | none => none
theorem a_mapset_eq (a : Tr AV) (aw : AW) (m : Opd) (k : Opd) (v : Opd) : a_mapset a aw m k v = xop a aw (.mapset m k v) := by
 (simp only [a_mapset, xop, bb2_eq, awGet_eq, awSet_eq, awAdd_eq, evF_eq, evsF_eq, xfillF_eq, xloadF_eq, xstoreF_eq, xcellsF_eq, xappendF_eq, xbinF_eq, xmapF_eq, xfindF_eq, wrapG_eq, repCellsF_eq, spliceF_eq, allOneF_eq, lenF_eq, nthF_eq]) <;> rfl
def a_del (a : Tr AV) (aw : AW) (m : Opd) (k : Opd) : Option (AV × AW) :=
  match evF a m with
  | some mv => match evF a k with
   | some (.int kk n) => match xmapF aw mv with
    | some (id, es, clock) => match xfindF kk n es 0 with
     | some (some (i, _)) => some (.tuple [], awSet aw id (.map (entDel es i) clock))
     | some none => some (.tuple [], awSet aw id (.map es clock))
     | none => none
    | none => none
   | _ => none
  | none => none
theorem a_del_eq (a : Tr AV) (aw : AW) (m : Opd) (k : Opd) : a_del a aw m k = xop a aw (.del m k) := by
 (simp only [a_del, xop, bb2_eq, awGet_eq, awSet_eq, awAdd_eq, evF_eq, evsF_eq, xfillF_eq, xloadF_eq, xstoreF_eq, xcellsF_eq, xappendF_eq, xbinF_eq, xmapF_eq, xfindF_eq, wrapG_eq, repCellsF_eq, spliceF_eq, allOneF_eq, lenF_eq, nthF_eq]) <;> rfl
def a_range (a : Tr AV) (aw : AW) (m : Opd) : Option (AV × AW) :=
  match evF a m with
  | some (.map none) => some (.ptr (some (aw.nx, 0)), awAdd aw (.iter none 0 [] 0))
  | some (.map (some id)) => match awGet aw id with
   | some (.map es clock) => some (.ptr (some (aw.nx, 0)), awAdd aw (.iter (some id) clock [] clock))
   | _ => none
  | _ => none
theorem a_range_eq (a : Tr AV) (aw : AW) (m : Opd) : a_range a aw m = xop a aw (.range m) := by
 (simp only [a_range, xop, bb2_eq, awGet_eq, awSet_eq, awAdd_eq, evF_eq, evsF_eq, xfillF_eq, xloadF_eq, xstoreF_eq, xcellsF_eq, xappendF_eq, xbinF_eq, xmapF_eq, xfindF_eq, wrapG_eq, repCellsF_eq, spliceF_eq, allOneF_eq, lenF_eq, nthF_eq]) <;> rfl
def a_next (a : Tr AV) (aw : AW) (it : Opd) : Option (AV × AW) :=
  match evF a it with
  | some (.ptr (some (id, 0))) => match awGet aw id with
   | some (.iter none _ _ _) => some (.tuple [.bool false], aw)
   | some (.iter (some m) since seen st) => match awGet aw m with
    | some (.map [] clock) => some (.tuple [.bool false], aw)
    | some (.map [e] clock) => bif Nat.blt e.born since then (match seen with
     | [] => some (.tuple [.bool true, e.key, e.val], awSet aw id (.iter (some m) since [e.born] clock))
     | [b] => bif Nat.beq b e.born && Nat.blt e.born st then some (.tuple [.bool false], aw) else none
     | _ => none) else none
    | _ => none
   | _ => none
  | _ => none
theorem a_next_eq (a : Tr AV) (aw : AW) (it : Opd) : a_next a aw it = xop a aw (.next it) := by
 (simp only [a_next, xop, bb2_eq, awGet_eq, awSet_eq, awAdd_eq, evF_eq, evsF_eq, xfillF_eq, xloadF_eq, xstoreF_eq, xcellsF_eq, xappendF_eq, xbinF_eq, xmapF_eq, xfindF_eq, wrapG_eq, repCellsF_eq, spliceF_eq, allOneF_eq, lenF_eq, nthF_eq]) <;> rfl
def a_entry (a : Tr AV) (aw : AW) (it : Opd) : Option (AV × AW) :=
  match evF a it with
  | some (.ptr (some (id, 0))) => match awGet aw id with
   | some (.iter (some m) _ [b] st) => match awGet aw m with
    | some (.map [e] clock) => bif Nat.beq clock st && Nat.beq b e.born then some (.tuple [e.key, e.val], aw) else none
    | _ => none
   | _ => none
  | _ => none
theorem a_entry_eq (a : Tr AV) (aw : AW) (it : Opd) : a_entry a aw it = xop a aw (.entry it) := by
 (simp only [a_entry, xop, bb2_eq, awGet_eq, awSet_eq, awAdd_eq, evF_eq, evsF_eq, xfillF_eq, xloadF_eq, xstoreF_eq, xcellsF_eq, xappendF_eq, xbinF_eq, xmapF_eq, xfindF_eq, wrapG_eq, repCellsF_eq, spliceF_eq, allOneF_eq, lenF_eq, nthF_eq]) <;> rfl
def a_assert (a : Tr AV) (aw : AW) (t : TypeId) (x : Opd) (z : AV) : Option (AV × AW) :=
  match evF a x with
  | some (.iface t' v) => bif Nat.beq t t' then some (.tuple [v, .bool true], aw) else some (.tuple [z, .bool false], aw)
  | _ => none
theorem a_assert_eq (a : Tr AV) (aw : AW) (t : TypeId) (x : Opd) (z : AV) : a_assert a aw t x z = xop a aw (.assert t x z) := by
 (simp only [a_assert, xop, bb2_eq, awGet_eq, awSet_eq, awAdd_eq, evF_eq, evsF_eq, xfillF_eq, xloadF_eq, xstoreF_eq, xcellsF_eq, xappendF_eq, xbinF_eq, xmapF_eq, xfindF_eq, wrapG_eq, repCellsF_eq, spliceF_eq, allOneF_eq, lenF_eq, nthF_eq]) <;> rfl
def a_ext (a : Tr AV) (aw : AW) (i : Nat) (x : Opd) : Option (AV × AW) :=
  ob (evF a x) (fun v => vTuple v (fun l => ob (nthF l i) (fun v => some (v, aw))) none)
theorem a_ext_eq (a : Tr AV) (aw : AW) (i : Nat) (x : Opd) : a_ext a aw i x = xop a aw (.ext i x) := by
 show ob (evF a x) _ = _
 rw [evF_eq]; simp only [xop]; cases x.ev a with
 | none => rfl
 | some v => cases v <;> first | rfl | skip
             rename_i l; show ob (nthF l i) _ = _; rw [nthF_eq]; simp only; cases l[i]? <;> rfl
def a_lenS (a : Tr AV) (aw : AW) (x : Opd) : Option (AV × AW) :=
  match evF a x with
  | some v => match xlen v with
   | some n => some (.int .i64 (.ofNat n), aw)
   | none => none
  | none => none
theorem a_lenS_eq (a : Tr AV) (aw : AW) (x : Opd) : a_lenS a aw x = xop a aw (.lenS x) := by
 (simp only [a_lenS, xop, bb2_eq, awGet_eq, awSet_eq, awAdd_eq, evF_eq, evsF_eq, xfillF_eq, xloadF_eq, xstoreF_eq, xcellsF_eq, xappendF_eq, xbinF_eq, xmapF_eq, xfindF_eq, wrapG_eq, repCellsF_eq, spliceF_eq, allOneF_eq, lenF_eq, nthF_eq]) <;> rfl
def a_lenM (a : Tr AV) (aw : AW) (x : Opd) : Option (AV × AW) :=
  match evF a x with
  | some (.map none) => some (.int .i64 (.ofNat 0), aw)
  | some (.map (some id)) => match awGet aw id with
   | some (.map es _) => some (.int .i64 (.ofNat es.length), aw)
   | _ => none
  | _ => none
theorem a_lenM_eq (a : Tr AV) (aw : AW) (x : Opd) : a_lenM a aw x = xop a aw (.lenM x) := by
 (simp only [a_lenM, xop, bb2_eq, awGet_eq, awSet_eq, awAdd_eq, evF_eq, evsF_eq, xfillF_eq, xloadF_eq, xstoreF_eq, xcellsF_eq, xappendF_eq, xbinF_eq, xmapF_eq, xfindF_eq, wrapG_eq, repCellsF_eq, spliceF_eq, allOneF_eq, lenF_eq, nthF_eq]) <;> rfl
def a_capS (a : Tr AV) (aw : AW) (x : Opd) : Option (AV × AW) :=
  match evF a x with
  | some (.slc _ _ (.known c)) => some (.int .i64 (.ofNat c), aw)
  | _ => none
theorem a_capS_eq (a : Tr AV) (aw : AW) (x : Opd) : a_capS a aw x = xop a aw (.capS x) := by
 (simp only [a_capS, xop, bb2_eq, awGet_eq, awSet_eq, awAdd_eq, evF_eq, evsF_eq, xfillF_eq, xloadF_eq, xstoreF_eq, xcellsF_eq, xappendF_eq, xbinF_eq, xmapF_eq, xfindF_eq, wrapG_eq, repCellsF_eq, spliceF_eq, allOneF_eq, lenF_eq, nthF_eq]) <;> rfl
def a_append (a : Tr AV) (aw : AW) (e : TypeId) (sz : Nat) (bytes : Nat) (x : Opd) (y : Opd) : Option (AV × AW) :=
  match evF a x with
  | some s => match evF a y with
   | some v => match xlen v with
    | some n => match xcellsF aw sz n v with
     | some new => xappendF aw e sz bytes s n new
     | none => none
    | none => none
   | none => none
  | none => none
theorem a_append_eq (a : Tr AV) (aw : AW) (e : TypeId) (sz : Nat) (bytes : Nat) (x : Opd) (y : Opd) : a_append a aw e sz bytes x y = xop a aw (.append e sz bytes x y) := by
 (simp only [a_append, xop, bb2_eq, awGet_eq, awSet_eq, awAdd_eq, evF_eq, evsF_eq, xfillF_eq, xloadF_eq, xstoreF_eq, xcellsF_eq, xappendF_eq, xbinF_eq, xmapF_eq, xfindF_eq, wrapG_eq, repCellsF_eq, spliceF_eq, allOneF_eq, lenF_eq, nthF_eq]) <;> rfl
def a_appendZ (a : Tr AV) (aw : AW) (e : TypeId) (z : List AV) (bytes : Nat) (x : Opd) (y : Opd) : Option (AV × AW) :=
  match evF a x with
  | some s => match evF a y with
   | some v => match xnat v with
    | some n => bif small n bytes then xappendF aw e z.length bytes s n (repCellsF z n) else none
    | none => none
   | none => none
  | none => none
theorem a_appendZ_eq (a : Tr AV) (aw : AW) (e : TypeId) (z : List AV) (bytes : Nat) (x : Opd) (y : Opd) : a_appendZ a aw e z bytes x y = xop a aw (.appendZ e z bytes x y) := by
 (simp only [a_appendZ, xop, bb2_eq, awGet_eq, awSet_eq, awAdd_eq, evF_eq, evsF_eq, xfillF_eq, xloadF_eq, xstoreF_eq, xcellsF_eq, xappendF_eq, xbinF_eq, xmapF_eq, xfindF_eq, wrapG_eq, repCellsF_eq, spliceF_eq, allOneF_eq, lenF_eq, nthF_eq]) <;> rfl
def a_copy (a : Tr AV) (aw : AW) (sz : Nat) (x : Opd) (y : Opd) : Option (AV × AW) :=
  match evF a x with
  | some (.slc b len cap) => match evF a y with
   | some v => match xlen v with
    | some m => match xcellsF aw sz (Nat.min m len) v with
     | some cs => match b with
      | none => some (.int .i64 (.ofNat (Nat.min m len)), aw)
      | some (id, o) => bif Nat.beq (Nat.min m len) 0 then some (.int .i64 (.ofNat 0), aw) else (match awGet aw id with
       | some (.cells l e opn) => bif Nat.ble (o + cs.length) l.length && allOne cs then some (.int .i64 (.ofNat (Nat.min m len)), awSet aw id (.cells (spliceF l o cs) e opn)) else none
       | _ => none)
     | none => none
    | none => none
   | none => none
  | _ => none
theorem a_copy_eq (a : Tr AV) (aw : AW) (sz : Nat) (x : Opd) (y : Opd) : a_copy a aw sz x y = xop a aw (.copy sz x y) := by
 (simp only [a_copy, xop, bb2_eq, awGet_eq, awSet_eq, awAdd_eq, evF_eq, evsF_eq, xfillF_eq, xloadF_eq, xstoreF_eq, xcellsF_eq, xappendF_eq, xbinF_eq, xmapF_eq, xfindF_eq, wrapG_eq, repCellsF_eq, spliceF_eq, allOneF_eq, lenF_eq, nthF_eq]) <;> rfl
def a_clear (a : Tr AV) (aw : AW) (z : List AV) (x : Opd) : Option (AV × AW) :=
  match evF a x with
  | some (.slc none _ _) => some (.tuple [], aw)
  | some (.slc (some (id, o)) len _) => bif Nat.beq len 0 then some (.tuple [], aw) else (match awGet aw id with
   | some (.cells l e opn) => bif Nat.ble (o + (repCellsF z len).length) l.length && allOne z then some (.tuple [], awSet aw id (.cells (spliceF l o (repCellsF z len)) e opn)) else none
   | _ => none)
  | _ => none
theorem a_clear_eq (a : Tr AV) (aw : AW) (z : List AV) (x : Opd) : a_clear a aw z x = xop a aw (.clear z x) := by
 (simp only [a_clear, xop, bb2_eq, awGet_eq, awSet_eq, awAdd_eq, evF_eq, evsF_eq, xfillF_eq, xloadF_eq, xstoreF_eq, xcellsF_eq, xappendF_eq, xbinF_eq, xmapF_eq, xfindF_eq, wrapG_eq, repCellsF_eq, spliceF_eq, allOneF_eq, lenF_eq, nthF_eq]) <;> rfl
def a_mn (a : Tr AV) (aw : AW) (x : Opd) (y : Opd) : Option (AV × AW) :=
  match evF a x with
  | some (.int k u) => match evF a y with
   | some (.int k' v) => some (.int k (bif ilt v u then v else u), aw)
   | _ => none
  | _ => none
theorem a_mn_eq (a : Tr AV) (aw : AW) (x : Opd) (y : Opd) : a_mn a aw x y = xop a aw (.mn x y) := by
 (simp only [a_mn, xop, bb2_eq, awGet_eq, awSet_eq, awAdd_eq, evF_eq, evsF_eq, xfillF_eq, xloadF_eq, xstoreF_eq, xcellsF_eq, xappendF_eq, xbinF_eq, xmapF_eq, xfindF_eq, wrapG_eq, repCellsF_eq, spliceF_eq, allOneF_eq, lenF_eq, nthF_eq]) <;> rfl
def a_mx (a : Tr AV) (aw : AW) (x : Opd) (y : Opd) : Option (AV × AW) :=
  match evF a x with
  | some (.int k u) => match evF a y with
   | some (.int k' v) => some (.int k (bif ilt u v then v else u), aw)
   | _ => none
  | _ => none
theorem a_mx_eq (a : Tr AV) (aw : AW) (x : Opd) (y : Opd) : a_mx a aw x y = xop a aw (.mx x y) := by
 (simp only [a_mx, xop, bb2_eq, awGet_eq, awSet_eq, awAdd_eq, evF_eq, evsF_eq, xfillF_eq, xloadF_eq, xstoreF_eq, xcellsF_eq, xappendF_eq, xbinF_eq, xmapF_eq, xfindF_eq, wrapG_eq, repCellsF_eq, spliceF_eq, allOneF_eq, lenF_eq, nthF_eq]) <;> rfl
def xopF (a : Tr AV) (aw : AW) (c : COp) : Option (AV × AW) :=
 COp.rec (motive := fun _ => Option (AV × AW)) (a_mv a aw) (a_pick a aw) (a_alloc a aw) (a_box a aw) (a_build a aw) (a_mkslc a aw) (a_load a aw) (a_store a aw) (a_nilck a aw) (a_bin a aw) (a_nileq a aw) (a_beq a aw) (a_seq a aw) (a_bnot a aw) (a_neg a aw) (a_conv a aw) (a_b2s a aw) (a_iface a aw) (a_func a aw) (a_mkmap a aw) (a_mkslice a aw) (a_slice a aw) (a_off a aw) (a_part a aw) (a_idxS a aw) (a_idxA a aw) (a_idxT a aw) (a_s2s a aw) (a_look a aw) (a_mapset a aw) (a_del a aw) (a_range a aw) (a_next a aw) (a_entry a aw) (a_assert a aw) (a_ext a aw) (a_lenS a aw) (a_lenM a aw) (a_capS a aw) (a_append a aw) (a_appendZ a aw) (a_copy a aw) (a_clear a aw) (a_mn a aw) (a_mx a aw) c
theorem xopF_eq (a : Tr AV) (aw : AW) (c : COp) : xopF a aw c = xop a aw c := by
 cases c
 ·exact a_mv_eq ..
 ·exact a_pick_eq ..
 ·exact a_alloc_eq ..
 ·exact a_box_eq ..
 ·exact a_build_eq ..
 ·exact a_mkslc_eq ..
 ·exact a_load_eq ..
 ·exact a_store_eq ..
 ·exact a_nilck_eq ..
 ·exact a_bin_eq ..
 ·exact a_nileq_eq ..
 ·exact a_beq_eq ..
 ·exact a_seq_eq ..
 ·exact a_bnot_eq ..
 ·exact a_neg_eq ..
 ·exact a_conv_eq ..
 ·exact a_b2s_eq ..
 ·exact a_iface_eq ..
 ·exact a_func_eq ..
 ·exact a_mkmap_eq ..
 ·exact a_mkslice_eq ..
 ·exact a_slice_eq ..
 ·exact a_off_eq ..
 ·exact a_part_eq ..
 ·exact a_idxS_eq ..
 ·exact a_idxA_eq ..
 ·exact a_idxT_eq ..
 ·exact a_s2s_eq ..
 ·exact a_look_eq ..
 ·exact a_mapset_eq ..
 ·exact a_del_eq ..
 ·exact a_range_eq ..
 ·exact a_next_eq ..
 ·exact a_entry_eq ..
 ·exact a_assert_eq ..
 ·exact a_ext_eq ..
 ·exact a_lenS_eq ..
 ·exact a_lenM_eq ..
 ·exact a_capS_eq ..
 ·exact a_append_eq ..
 ·exact a_appendZ_eq ..
 ·exact a_copy_eq ..
 ·exact a_clear_eq ..
 ·exact a_mn_eq ..
 ·exact a_mx_eq ..
def putF (a : AAct) (d : Option Nat) (v : AV) (k : AAct → Option Out) : Option Out :=
 Option.rec (motive := fun _ => Option Out) (k a) (fun d => AAct.rec (motive := fun _ => Option Out) (fun t n ds => bb2 (Nat.ble (Nat.succ d) n) (k ⟨trSet t d v, n, ds⟩) none) a) d
theorem putF_eq (a : AAct) (d : Option Nat) (v : AV) (k : AAct → Option Out) : putF a d v k = match a.put d v with | some a => k a | none => none := by
 cases d with
 | none => rfl
 | some d =>
  obtain ⟨t, n, ds⟩ := a
  show bb2 (Nat.blt d n) (k ⟨trSet t d v, n, ds⟩) none = _
  rw [bb2_eq, trSet_eq]
  simp only [AAct.put]
  cases Nat.blt d n <;> rfl
def guardF {β : Type} (a : AAct) (g : Option (Nat × Bool)) (yes no die : β) : β :=
 Option.rec (motive := fun _ => β) yes (fun p => Option.rec (motive := fun _ => β) die (fun v => vBool v (fun b => bb2 b (bb2 p.2 yes no) (bb2 p.2 no yes)) (vTuple v (fun _ => no) die)) (AAct.rec (motive := fun _ => Option AV) (fun t _ _ => trGet t p.1) a)) g
theorem guardF_eq {β : Type} (a : AAct) (g : Option (Nat × Bool)) (yes no die : β) : guardF a g yes no die = match xguard a g with | some true => yes | some false => no | none => die := by
 cases g with
 | none => rfl
 | some p =>
  obtain ⟨t, want⟩ := p
  show Option.rec (motive := fun _ => β) die (fun v => vBool v (fun b => bb2 b (bb2 want yes no) (bb2 want no yes)) (vTuple v (fun _ => no) die)) (trGet a.tmps t) = _
  rw [trGet_eq]
  simp only [xguard]
  cases a.tmps.get t t with
  | none => rfl
  | some v =>
   cases v <;> first | rfl | skip
   rename_i b
   cases b <;> cases want <;> rfl
def backF (a : AAct) (d : Option Nat) (k : AAct → AW → Option Out) (r : Option ARes) : Option Out :=
 ob r (fun r => ARes.rec (motive := fun _ => Option Out) (fun v aw => putF a d v (fun a => k a aw)) (fun v aw => some ⟨.panic v, a, aw⟩) r)
theorem backF_eq (a : AAct) (d : Option Nat) (k : AAct → AW → Option Out) (r : Option ARes) : backF a d k r = xback a d k r := by
 cases r with
 | none => rfl
 | some r =>
  cases r with
  | ret v aw => show putF a d v (fun a => k a aw) = _; rw [putF_eq]; rfl
  | panic v aw => rfl
def iOp (ih : AAct → AW → Option Out) (a : AAct) (aw : AW) (d : Option Nat) (g : Option (Nat × Bool)) (c : COp) : Option Out :=
 guardF a g (ob (AAct.rec (motive := fun _ => Option (AV × AW)) (fun t _ _ => xopF t aw c) a) (fun r => putF a d r.1 (fun a => ih a r.2))) (putF a d (.tuple []) (fun a => ih a aw)) none
def iCall (call : Call) (ih : AAct → AW → Option Out) (a : AAct) (aw : AW) (d : Option Nat) (g : Option (Nat × Bool)) (f : FuncId) (args : List Opd) : Option Out :=
 guardF a g (ob (evsF a.tmps args) (fun vs => backF a d ih (call f vs aw))) (putF a d (.tuple []) (fun a => ih a aw)) none
def iCallv (call : Call) (ih : AAct → AW → Option Out) (a : AAct) (aw : AW) (d : Option Nat) (g : Option (Nat × Bool)) (f : Opd) (args : List Opd) : Option Out :=
 guardF a g (match evF a.tmps f with
  | some (.func (.func f) first cap) => ob (evsF a.tmps args) (fun vs => backF a d ih (call f (appF (appF first vs) cap) aw))
  | _ => none) (putF a d (.tuple []) (fun a => ih a aw)) none
def iDefer (ih : AAct → AW → Option Out) (a : AAct) (aw : AW) (d : Option Nat) (f : Opd) (args : List Opd) : Option Out :=
 match f.ev a.tmps with
 | some (.func (.func f) first cap) => match evs a.tmps args with
  | some vs => match AAct.put { a with defs := ⟨f, first ++ vs ++ cap⟩ :: a.defs } d (.tuple []) with
   | some a => ih a aw
   | none => none
  | none => none
 | _ => none
def iPanic (a : AAct) (aw : AW) (x : Opd) : Option Out :=
 match x.ev a.tmps with
 | some (.iface t v) => some ⟨.panic (.iface t v), a, aw⟩
 | _ => none
def iChk (ih : AAct → AW → Option Out) (a : AAct) (aw : AW) (d : Nat) (g : Option (Nat × Bool)) (c : COp) : Option Out :=
 guardF a g (ob (xopF a.tmps aw c) (fun r => ob (trGet a.tmps d) (fun u => bb2 (AV.same 6 r.1 u) (ih a aw) none))) (ih a aw) none
def itemsF (call : Call) (l : List CR) : AAct → AW → Option Out :=
 List.rec (motive := fun _ => AAct → AW → Option Out) (fun a aw => some ⟨.norm, a, aw⟩)
  (fun it _ ih a aw => CR.rec (motive := fun _ => Option Out) (iOp ih a aw) (iCall call ih a aw) (iCallv call ih a aw) (iDefer ih a aw) (iPanic a aw) (iChk ih a aw) it) l
theorem itemsF_eq (call : Call) : ∀ (l : List CR) (a : AAct) (aw : AW), itemsF call l a aw = xitems call l a aw
 | [], a, aw => rfl
 | it :: l, a, aw => by
  have ih := itemsF_eq call l
  have ihf : itemsF call l = xitems call l := by funext a aw; exact ih a aw
  cases it with
  | op d g c =>
   show iOp (itemsF call l) a aw d g c = _
   unfold iOp
   rw [guardF_eq, ihf]
   simp only [xitems]
   cases xguard a g with
   | none => rfl
   | some b =>
    cases b with
    | true =>
     show ob (xopF a.tmps aw c) _ = _
     rw [xopF_eq]
     cases xop a.tmps aw c with
     | none => rfl
     | some r => obtain ⟨v, aw2⟩ := r; show putF a d v (fun a => xitems call l a aw2) = _; rw [putF_eq]; rfl
    | false => show putF a d (.tuple []) (fun a => xitems call l a aw) = _; rw [putF_eq]; rfl
  | call d g f args =>
   show iCall call (itemsF call l) a aw d g f args = _
   unfold iCall
   rw [guardF_eq, ihf]
   simp only [xitems]
   cases xguard a g with
   | none => rfl
   | some b =>
    cases b with
    | true =>
     show ob (evsF a.tmps args) _ = _
     rw [evsF_eq]
     simp only
     cases evs a.tmps args with
     | none => rfl
     | some vs => show backF _ _ _ _ = _; rw [backF_eq]
    | false => show putF a d (.tuple []) (fun a => xitems call l a aw) = _; rw [putF_eq]; rfl
  | callv d g f args =>
   show iCallv call (itemsF call l) a aw d g f args = _
   unfold iCallv
   rw [guardF_eq, ihf]
   simp only [xitems]
   cases xguard a g with
   | none => rfl
   | some b =>
    cases b with
    | true =>
     simp only [evF_eq]
     cases f.ev a.tmps with
     | none => rfl
     | some v =>
      cases v <;> first | rfl | skip
      rename_i fn f1 c1
      cases fn <;> first | rfl | skip
      show ob (evsF a.tmps args) _ = _
      rw [evsF_eq]
      simp only
      cases evs a.tmps args with
      | none => rfl
      | some vs => show backF _ _ _ _ = _; rw [backF_eq, appF_eq, appF_eq]
    | false => show putF a d (.tuple []) (fun a => xitems call l a aw) = _; rw [putF_eq]; rfl
  | defer d f args =>
   show iDefer (itemsF call l) a aw d f args = _
   unfold iDefer
   rw [ihf]
   rfl
  | panic x => rfl
  | chk d g c =>
   show iChk (itemsF call l) a aw d g c = _
   unfold iChk
   rw [guardF_eq, ihf]
   simp only [xitems]
   cases xguard a g with
   | none => rfl
   | some b =>
    cases b with
    | true =>
     simp only [xopF_eq, trGet_eq]
     cases xop a.tmps aw c with
     | none => rfl
     | some r =>
      obtain ⟨v, aw2⟩ := r
      show ob (a.tmps.get d d) _ = _
      simp only
      cases a.tmps.get d d with
      | none => rfl
      | some u => show bb2 _ _ _ = _; rw [bb2_eq]
    | false => rfl
def onNorm (r : Option Out) (k : AAct → AW → Option Out) (stop : Bool) : Option Out :=
 ob r (fun o => Out.rec (motive := fun _ => Option Out) (fun x act aw => AX.rec (motive := fun _ => Option Out) (k act aw) (fun id => bb2 stop none (some o)) (bb2 stop none (some o)) (fun v => bb2 stop none (some o)) x) o)
def cBlock (id : Nat) (r : Option Out) : Option Out :=
 ob r (fun o => Out.rec (motive := fun _ => Option Out) (fun x act aw => AX.rec (motive := fun _ => Option Out) (some o) (fun id' => bb2 (Nat.beq id id') (some ⟨.norm, act, aw⟩) (some o)) (some o) (fun v => some o) x) o)
def cCond (ih : CC → AAct → AW → Option Out) (a : AAct) (aw : AW) (c : Opd) (x y : CC) : Option Out :=
 ob (AAct.rec (motive := fun _ => Option AV) (fun t _ _ => evF t c) a) (fun v => vBool v (fun b => bb2 b (ih x a aw) (ih y a aw)) none)
def codeStep (call : Call) (ih : CC → AAct → AW → Option Out) (c : CC) (a : AAct) (aw : AW) : Option Out :=
 CC.rec (motive := fun _ => Option Out) (some ⟨.norm, a, aw⟩) (fun l => itemsF call l a aw) (fun l r => onNorm (itemsF call l a aw) (fun a aw => itemsF call r a aw) true)
  (fun x y _ _ => onNorm (ih x a aw) (fun a aw => ih y a aw) false) (fun c x y _ _ => cCond ih a aw c x y) (fun id b _ => cBlock id (ih b a aw))
  (fun b _ => onNorm (ih b a aw) (fun a aw => ih (.loop b) a aw) false) (fun id => some ⟨.exit id, a, aw⟩) (some ⟨.ret, a, aw⟩) c
def codeF (call : Call) (n : Nat) : CC → AAct → AW → Option Out :=
 Nat.rec (motive := fun _ => CC → AAct → AW → Option Out) (fun _ _ _ => none) (fun _ ih c a aw => codeStep call ih c a aw) n
theorem codeF_eq (call : Call) : ∀ (n : Nat) (c : CC) (a : AAct) (aw : AW), codeF call n c a aw = xcode call n c a aw
 | 0, c, a, aw => rfl
 | n + 1, c, a, aw => by
  have ih := codeF_eq call n
  show codeStep call (codeF call n) c a aw = _
  have ihf : codeF call n = xcode call n := by funext c a aw; exact ih c a aw
  rw [ihf]
  cases c with
  | skip => rfl
  | region l => exact itemsF_eq call l a aw
  | draw l r =>
   show onNorm (itemsF call l a aw) (fun a aw => itemsF call r a aw) true = _
   rw [itemsF_eq]
   simp only [xcode]
   cases xitems call l a aw with
   | none => rfl
   | some o =>
    obtain ⟨x, act, aw2⟩ := o
    cases x <;> first | rfl | skip
    exact itemsF_eq call r act aw2
  | seq x y =>
   show onNorm (xcode call n x a aw) (fun a aw => xcode call n y a aw) false = _
   simp only [xcode]
   cases xcode call n x a aw with
   | none => rfl
   | some o => obtain ⟨x, act, aw2⟩ := o; cases x <;> rfl
  | cond c x y =>
   show ob (evF a.tmps c) _ = _
   rw [evF_eq]
   simp only [xcode]
   cases c.ev a.tmps with
   | none => rfl
   | some v =>
    cases v <;> first | rfl | skip
    rename_i b
    cases b <;> rfl
  | block id b =>
   show cBlock id (xcode call n b a aw) = _
   simp only [xcode]
   cases xcode call n b a aw with
   | none => rfl
   | some o =>
    obtain ⟨x, act, aw2⟩ := o
    cases x <;> first | rfl | skip
    rename_i id'
    show bb2 _ _ _ = _
    rw [bb2_eq]
  | loop b =>
   show onNorm (xcode call n b a aw) (fun a aw => xcode call n (.loop b) a aw) false = _
   simp only [xcode]
   cases xcode call n b a aw with
   | none => rfl
   | some o => obtain ⟨x, act, aw2⟩ := o; cases x <;> rfl
  | exit id => rfl
  | ret => rfl
def resF' (a : AAct) (aw : AW) (l : List CRes) : Option (List AV) :=
 List.rec (motive := fun _ => Option (List AV)) (some []) (fun r _ ih => CRes.rec (motive := fun _ => Option (List AV)) (fun t => ob (trGet a.tmps t) (fun v => ob ih (fun m => some (v :: m)))) (fun t n => ob (trGet a.tmps t) (fun p => ob (xloadF aw n p) (fun v => ob ih (fun m => some (v :: m))))) r) l
theorem resF'_eq (a : AAct) (aw : AW) : ∀ l : List CRes, resF' a aw l = xres a aw l
 | [] => rfl
 | .tmp t :: l => by
  show ob (trGet a.tmps t) (fun v => ob (resF' a aw l) (fun m => some (v :: m))) = _
  rw [resF'_eq a aw l, trGet_eq]
  simp only [xres]
  cases a.tmps.get t t with
  | none => rfl
  | some v => cases xres a aw l <;> rfl
 | .cell t n :: l => by
  show ob (trGet a.tmps t) (fun p => ob (xloadF aw n p) (fun v => ob (resF' a aw l) (fun m => some (v :: m)))) = _
  rw [resF'_eq a aw l, trGet_eq]
  simp only [xres]
  cases a.tmps.get t t with
  | none => rfl
  | some p =>
   show ob (xloadF aw n p) _ = _
   rw [xloadF_eq]
   simp only
   cases xload aw n p with
   | none => rfl
   | some v => cases xres a aw l <;> rfl
def slotsF (l : List AV) : Tr AV :=
 List.rec (motive := fun _ => Nat → Tr AV → Tr AV) (fun _ t => t) (fun v _ ih i t => ih (Nat.succ i) (trSet t i v)) l (nat_lit 0) .leaf
def slotsM (l : List AV) : Nat → Tr AV → Tr AV := List.rec (motive := fun _ => Nat → Tr AV → Tr AV) (fun _ t => t) (fun v _ ih i t => ih (Nat.succ i) (trSet t i v)) l
theorem slotsM_eq (l : List AV) : ∀ (i : Nat) (t : Tr AV), slotsM l i t = slots l i t := by
 induction l with
 | nil => intro i t; rfl
 | cons v l ih => intro i t; show slotsM l (i + 1) (trSet t i v) = _; rw [ih, trSet_eq]; rfl
theorem slotsF_eq (l : List AV) : slotsF l = slots l 0 .leaf := slotsM_eq l 0 .leaf
def leaveF (ds : DSum) (cf : CFn) (act : AAct) (aw : AW) (m : Option AV) : Option ARes :=
 match xdefs ds act.defs m aw with
 | some (none, aw) => ob (resF' act aw cf.res) (fun l => some (.ret (oneOf l) aw))
 | some (some v, aw) => some (.panic v aw)
 | none => none
theorem leaveF_eq (ds : DSum) (cf : CFn) (o : Out) (m : Option AV) : leaveF ds cf o.act o.aw m = xleave ds cf o m := by
 simp only [leaveF, xleave]
 cases xdefs ds o.act.defs m o.aw with
 | none => rfl
 | some r =>
  obtain ⟨m', aw⟩ := r
  cases m' with
  | some v => rfl
  | none => simp only [resF'_eq]; cases xres o.act aw cf.res <;> rfl
def runF (ds : DSum) (N : Nat) (call : Call) (cf : CFn) (args : List AV) (aw : AW) : Option ARes :=
 bb2 (Nat.ble (lenF args) cf.n) (ob (codeF call N cf.body ⟨slotsF args, cf.n, []⟩ aw) (fun o => Out.rec (motive := fun _ => Option ARes) (fun x act aw => AX.rec (motive := fun _ => Option ARes) (leaveF ds cf act aw none) (fun _ => none) (leaveF ds cf act aw none) (fun v => leaveF ds cf act aw (some v)) x) o)) none
def callF (F : FuncId → Option CFn) (sm : Summ) (ds : DSum) (N : Nat) (n : Nat) : Call :=
 Nat.rec (motive := fun _ => Call) (fun _ _ _ => none) (fun _ ih f args aw => Option.rec (motive := fun _ => Option ARes) (ob (F f) (fun cf => runF ds N ih cf args aw)) (fun g => g args aw) (sm f)) n
theorem callF_eq (F : FuncId → Option CFn) (sm : Summ) (ds : DSum) (N : Nat) : ∀ n, callF F sm ds N n = xcall F sm ds N n
 | 0 => rfl
 | n + 1 => by
  funext f args aw
  show Option.rec (motive := fun _ => Option ARes) (ob (F f) (fun cf => runF ds N (callF F sm ds N n) cf args aw)) (fun g => g args aw) (sm f) = _
  rw [callF_eq F sm ds N n]
  simp only [xcall]
  cases sm f with
  | some g => rfl
  | none =>
   simp only
   cases F f with
   | none => rfl
   | some cf =>
    show runF ds N (xcall F sm ds N n) cf args aw = _
    unfold runF
    rw [bb2_eq, lenF_eq, slotsF_eq, codeF_eq]
    simp only
    cases Nat.ble args.length cf.n with
    | false => rfl
    | true =>
     simp only [cond_true]
     cases xcode (xcall F sm ds N n) N cf.body ⟨slots args 0 .leaf, cf.n, []⟩ aw with
     | none => rfl
     | some o =>
      obtain ⟨x, act, aw2⟩ := o
      cases x with
      | norm => exact leaveF_eq ds cf ⟨.norm, act, aw2⟩ none
      | exit id => rfl
      | ret => exact leaveF_eq ds cf ⟨.ret, act, aw2⟩ none
      | panic v => exact leaveF_eq ds cf ⟨.panic v, act, aw2⟩ (some v)
end Go.Proofs.YtbilacojhmohmaaGreat.Ae
end
