/- Whole numbers, reckoned quickly; what an operation on two values yields. No condition. -/
import Derived.Test.YtbilacojhmohmaaGreatAeMem
import Derived.Laws.Small
import Derived.Laws.Entries
namespace Go.Proofs.YtbilacojhmohmaaGreat.Ae
open Go
set_option linter.unusedVariables false
set_option linter.unusedSimpArgs false

def kc : IntKind → Nat
  | .i8 => 0 | .i16 => 1 | .i32 => 2 | .i64 => 3 | .u8 => 4 | .u16 => 5 | .u32 => 6 | .u64 => 7
theorem kc_inj {a b : IntKind} (h : Nat.beq (kc a) (kc b) = true) : a = b := by
  have h := Nat.eq_of_beq_eq_true h
  revert h; cases a <;> cases b <;> decide

/-- the range of a kind, below and above: what lies in it is as it is -/
def top : IntKind → Nat
  | .i8 => 127 | .i16 => 32767 | .i32 => 2147483647 | .i64 => 9223372036854775807 | .u8 => 255 | .u16 => 65535 | .u32 => 4294967295 | .u64 => 18446744073709551615
def wrapF (k : IntKind) (n : Int) : Int :=
  match n with
  | .ofNat m => bif Nat.ble m (top k) then .ofNat m else k.wrap n
  | .negSucc _ => k.wrap n
theorem wrapF_eq (k : IntKind) (n : Int) : wrapF k n = k.wrap n := by
  unfold wrapF
  cases n with
  | negSucc m => rfl
  | ofNat m =>
    simp only
    cases h : Nat.ble m (top k) with
    | false => rfl
    | true =>
      have h := Nat.le_of_ble_eq_true h
      simp only [cond_true]
      have e : (Int.ofNat m : Int) = (m : Int) := rfl
      rw [e]
      cases k <;> simp only [top] at h <;> simp only [IntKind.wrap, IntKind.bits, IntKind.signed] <;> simp <;> omega
theorem wrap_idem (k : IntKind) (n : Int) : k.wrap (k.wrap n) = k.wrap n := by
  cases k <;> simp only [IntKind.wrap, IntKind.bits, IntKind.signed] <;> simp <;> (try split) <;> (try split) <;> omega
def ilt : Int → Int → Bool
  | .ofNat m, .ofNat n => Nat.blt m n
  | .ofNat _, .negSucc _ => false
  | .negSucc _, .ofNat _ => true
  | .negSucc m, .negSucc n => Nat.blt n m
theorem ilt_eq (a b : Int) : ilt a b = decide (a < b) := by
  cases a <;> cases b <;> simp only [ilt, Nat.blt] <;> symm <;> rw [Bool.eq_iff_iff] <;> simp [Nat.ble_eq] <;> omega
def ieq : Int → Int → Bool
  | .ofNat m, .ofNat n => Nat.beq m n
  | .ofNat _, .negSucc _ => false
  | .negSucc _, .ofNat _ => false
  | .negSucc m, .negSucc n => Nat.beq n m
theorem ieq_eq (a b : Int) : ieq a b = (a == b) := by
  cases a <;> cases b <;> simp only [ieq] <;> symm <;> rw [Bool.eq_iff_iff] <;> simp [Nat.beq_eq] <;> omega
/-- the bits of a number -/
def bitsOf (k : IntKind) : Int → Nat
  | .ofNat m => m % 2 ^ k.bits
  | n => (n % 2 ^ k.bits).toNat
theorem bitsOf_eq (k : IntKind) (n : Int) : bitsOf k n = (BitVec.ofInt k.bits n).toNat := by
  rw [BitVec.toNat_ofInt]
  cases n with
  | ofNat m => simp only [bitsOf]; have : (Int.ofNat m : Int) = (m : Int) := rfl; rw [this]; norm_cast
  | negSucc m => rfl
def pow2 (x : Int) (n : Nat) : Int :=
  match x with
  | .ofNat m => .ofNat (m * 2 ^ n)
  | x => x * 2 ^ n
theorem pow2_eq (x : Int) (n : Nat) : pow2 x n = x * 2 ^ n := by
  cases x with
  | ofNat m => simp [pow2]
  | negSucc m => rfl
def shr2 (x : Int) (n : Nat) : Int :=
  match x with
  | .ofNat m => .ofNat (m / 2 ^ n)
  | x => x.fdiv (2 ^ n)
theorem shr2_eq (x : Int) (n : Nat) : shr2 x n = x.fdiv (2 ^ n) := by
  cases x with
  | ofNat m =>
    simp only [shr2]
    have h : (Int.ofNat m : Int) = (m : Int) := rfl
    rw [h, Int.fdiv_eq_ediv_of_nonneg _ (by exact_mod_cast Nat.zero_le _)]
    norm_cast
  | negSucc m => rfl

/-- an operation on two whole numbers of one kind -/
def iop (op : BinOp) (k : IntKind) (a b : Int) : Option AV :=
  match op with
  | .add => some (.int k (wrapF k (a + b)))
  | .sub => some (.int k (wrapF k (a - b)))
  | .mul => some (.int k (wrapF k (a * b)))
  | .quo => bif ieq b 0 then none else some (.int k (wrapF k (a.tdiv b)))
  | .rem => bif ieq b 0 then none else some (.int k (a.tmod b))
  | .and => some (.int k (wrapF k (.ofNat (Nat.land (bitsOf k a) (bitsOf k b)))))
  | .or => some (.int k (wrapF k (.ofNat (Nat.lor (bitsOf k a) (bitsOf k b)))))
  | .xor => some (.int k (wrapF k (.ofNat (Nat.xor (bitsOf k a) (bitsOf k b)))))
  | .andNot | .shl | .shr => none
  | .eql => some (.bool (ieq a b))
  | .neq => some (.bool (!ieq a b))
  | .lss => some (.bool (ilt a b))
  | .leq => some (.bool (!ilt b a))
  | .gtr => some (.bool (ilt b a))
  | .geq => some (.bool (!ilt a b))
def ishift (op : BinOp) (k : IntKind) (a : Int) (b : Int) : Option AV :=
  match b with
  | .negSucc _ => none
  | .ofNat n =>
    match op with
    | .shl => some (.int k (wrapF k (pow2 a (Nat.min n k.bits))))
    | .shr => some (.int k (shr2 a (Nat.min n k.bits)))
    | _ => none

theorem iop_sound {P : Program} {w : World} {op : BinOp} {k : IntKind} {a b : Int} {r : AV} (h : iop op k a b = some r) (t : TypeId) (E : Env) :
    ∃ v, (binOp op t (.int k a) (.int k b)).run P w = .ok v w ∧ VRel E r v := by
  cases op <;> simp only [iop, Option.some.injEq, reduceCtorEq] at h
  case quo =>
    cases hz : ieq b 0 <;> simp [hz] at h
    subst h
    rw [ieq_eq] at hz
    have hb : ¬ b = 0 := by simpa using hz
    exact ⟨_, by simp [binOp, Op.intDiv, hb]; rfl, by rw [wrapF_eq]; exact .int _ _⟩
  case rem =>
    cases hz : ieq b 0 <;> simp [hz] at h
    subst h
    rw [ieq_eq] at hz
    have hb : ¬ b = 0 := by simpa using hz
    exact ⟨_, by simp [binOp, Op.intDiv, hb]; try rfl, .int _ _⟩
  case and => subst h; exact ⟨_, by simp [binOp, Op.intBits]; rfl, by rw [wrapF_eq, bitsOf_eq, bitsOf_eq]; simp; exact .int _ _⟩
  case or => subst h; exact ⟨_, by simp [binOp, Op.intBits]; rfl, by rw [wrapF_eq, bitsOf_eq, bitsOf_eq]; simp; exact .int _ _⟩
  case xor => subst h; exact ⟨_, by simp [binOp, Op.intBits]; rfl, by rw [wrapF_eq, bitsOf_eq, bitsOf_eq]; simp; exact .int _ _⟩
  all_goals subst h
  case add => exact ⟨_, by simp [binOp, Op.intArith]; rfl, by rw [wrapF_eq]; exact .int _ _⟩
  case sub => exact ⟨_, by simp [binOp, Op.intArith]; rfl, by rw [wrapF_eq]; exact .int _ _⟩
  case mul => exact ⟨_, by simp [binOp, Op.intArith]; rfl, by rw [wrapF_eq]; exact .int _ _⟩
  case eql => exact ⟨_, by simp [binOp, Op.intCmp]; rfl, by rw [ieq_eq]; exact .bool _⟩
  case neq => exact ⟨_, by simp only [binOp, Op.intCmp]; simp; rfl, by rw [ieq_eq]; exact .bool _⟩
  case lss => exact ⟨_, by simp [binOp, Op.intCmp]; rfl, by rw [ilt_eq]; exact .bool _⟩
  case leq => exact ⟨_, by simp [binOp, Op.intCmp]; rfl, by rw [ilt_eq, ← decide_not]; simp only [Int.not_lt]; exact .bool _⟩
  case gtr => exact ⟨_, by simp [binOp, Op.intCmp]; rfl, by rw [ilt_eq]; exact .bool _⟩
  case geq => exact ⟨_, by simp [binOp, Op.intCmp]; rfl, by rw [ilt_eq, ← decide_not]; simp only [Int.not_lt]; exact .bool _⟩
theorem ishift_sound {P : Program} {w : World} {op : BinOp} {k k' : IntKind} {a b : Int} {r : AV} (h : ishift op k a b = some r) (t : TypeId) (E : Env) :
    ∃ v, (binOp op t (.int k a) (.int k' b)).run P w = .ok v w ∧ VRel E r v := by
  cases b with
  | negSucc n => simp [ishift] at h
  | ofNat n =>
    have e : (Int.ofNat n : Int) = (n : Int) := rfl
    have h0 : ¬ (n : Int) < 0 := by omega
    cases op <;> simp only [ishift, Option.some.injEq, reduceCtorEq] at h <;> subst h
    · exact ⟨_, by simp [binOp, Op.shift, e, h0]; rfl, by rw [wrapF_eq, pow2_eq]; exact .int _ _⟩
    · exact ⟨_, by simp [binOp, Op.shift, e, h0]; rfl, by rw [shr2_eq]; exact .int _ _⟩

/-- two values -/
def xbin (op : BinOp) (sh : Bool) (x y : AV) : Option AV :=
  match x, y with
  | .int k a, .int k' b => bif sh then ishift op k a b else bif Nat.beq (kc k) (kc k') then iop op k a b else none
  | .sym k i, .sym k' j => bif Nat.beq (kc k) (kc k') then (bif Nat.beq i j then (match op with | .eql => some (.bool true) | .neq => some (.bool false) | _ => none) else none) else none
  | .int k (.ofNat 0), .sym k' j => bif Nat.beq (kc k) (kc k') then (match op with | .xor => some (.sym k j) | _ => none) else none
  | _, _ => none
theorem xbin_sound {P : Program} {w : World} {E : Env} {op : BinOp} {sh : Bool} {ax ay r : AV} {x y : Value} (hsh : sh = true → op = .shl ∨ op = .shr) (h : xbin op sh ax ay = some r) (hx : VRel E ax x) (hy : VRel E ay y) (t : TypeId) :
    ∃ v, (binOp op t x y).run P w = .ok v w ∧ VRel E r v := by
  unfold xbin at h
  split at h
  · cases hx; cases hy
    rename_i k a k' b
    cases hs : sh with
    | true => simp only [hs, cond_true] at h; exact ishift_sound h t E
    | false =>
      simp only [hs, cond_false] at h
      cases hk : Nat.beq (kc k) (kc k') with
      | true => have := kc_inj hk; subst this; rw [hk] at h; exact iop_sound h t E
      | false => simp only [hk, cond_false, reduceCtorEq] at h
  · rename_i k i k' j
    cases hk : Nat.beq (kc k) (kc k') <;> simp only [hk, cond_false, cond_true, reduceCtorEq] at h
    have := kc_inj hk; subst this
    cases hi : Nat.beq i j <;> simp only [hi, cond_false, cond_true, reduceCtorEq] at h
    have := Nat.eq_of_beq_eq_true hi; subst this
    cases hx with
    | sym _ h1 h2 =>
      cases hy with
      | sym _ h3 h4 =>
        rw [h1] at h3; injection h3 with h3; subst h3
        split at h <;> simp only [Option.some.injEq, reduceCtorEq] at h <;> subst h
        · exact ⟨_, by simp [binOp, Op.intCmp]; try rfl, .bool _⟩
        · exact ⟨_, by simp [binOp, Op.intCmp]; try rfl, .bool _⟩
  · rename_i k k' j
    cases hk : Nat.beq (kc k) (kc k') <;> simp only [hk, cond_false, cond_true, reduceCtorEq] at h
    have := kc_inj hk; subst this
    cases hx
    cases hy with
    | sym _ h1 h2 =>
      rename_i n
      split at h <;> simp only [Option.some.injEq, reduceCtorEq] at h
      subst h
      refine ⟨_, by simp [binOp, Op.intBits]; rfl, ?_⟩
      have e : k.wrap (max (n % 2 ^ k.bits) 0) = n := by
        rw [← h2]
        cases k <;> simp only [IntKind.wrap, IntKind.bits, IntKind.signed] <;> simp <;> (try split) <;> (try split) <;> omega
      rw [e]; exact .sym _ h1 h2
  · cases h
end Go.Proofs.YtbilacojhmohmaaGreat.Ae
