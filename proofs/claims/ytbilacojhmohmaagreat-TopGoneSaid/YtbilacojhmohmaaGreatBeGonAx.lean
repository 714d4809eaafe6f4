/- Function 19 (girandoleref12.Above) in pieces; what each does, told by whom is marked. No condition. -/
import Derived.Test.YtbilacojhmohmaaGreatBeMemo
import Derived.KernelRfl
namespace Go.Proofs.YtbilacojhmohmaaGreat.Ae
open Go
set_option linter.unusedVariables false
set_option linter.unusedSimpArgs false
def abA0 : CC := (.region [.op (some 4) none (.mv (.c (.slc none 0 (.known 0))))])
def abA1 : CC := (.region [.op (some 16) none .mkmap, .op (some 5) none (.mv (.t 16))])
def abA2 : CC := (.region [.op (some 18) none (.mv (.t 0)), .op (some 19) none (.mv (.t 1)), .call (some 20) none 43 [(.t 18), (.t 19)], .op (some 17) none (.mv (.t 20)), .op (some 21) none (.ext 0 (.t 17)), .op (some 22) none (.ext 1 (.t 17)), .op (some 6) none (.alloc [(.int .u32 (.ofNat 0)), (.int .i64 (.ofNat 0)), (.slc none 0 (.known 0)), (.int .i64 (.ofNat 0)), (.int .i64 (.ofNat 0)), (.int .i64 (.ofNat 0))] 31), .op none none (.store 6 (.t 6) (.t 21)), .op (some 7) none (.mv (.t 22))])
def abA3 : CC := (.seq (.region [.op (some 8) none (.mv (.c (.int .i64 (.ofNat 0))))])
 (.block 0 (.loop (.seq (.seq (.region [.op (some 23) none (.mv (.t 8)), .op (some 24) none (.off 2 (.t 6)), .op (some 25) none (.load none (.t 24)), .op (some 26) none (.lenS (.t 25)), .op (some 27) none (.bin .lss false (.t 23) (.t 26))])
 (.cond (.t 27) .skip (.exit 0)))
 (.seq (.block 1 (.seq (.region [.op (some 31) none (.mv (.t 0)), .op (some 32) none (.off 2 (.t 6)), .op (some 33) none (.load none (.t 32)), .op (some 34) none (.mv (.t 8)), .op (some 35) none (.idxS 1 (.t 33) (.t 34)), .op (some 36) none (.load none (.t 35)), .call (some 37) none 43 [(.t 31), (.t 36)], .op (some 30) none (.mv (.t 37)), .op (some 38) none (.ext 0 (.t 30)), .op (some 39) none (.ext 1 (.t 30)), .op (some 9) none (.alloc [(.int .u32 (.ofNat 0)), (.int .i64 (.ofNat 0)), (.slc none 0 (.known 0)), (.int .i64 (.ofNat 0)), (.int .i64 (.ofNat 0)), (.int .i64 (.ofNat 0))] 31), .op none none (.store 6 (.t 9) (.t 38)), .op (some 10) none (.mv (.t 39))])
 (.seq (.region [.op (some 40) none (.mv (.t 10))])
 (.cond (.t 40) (.region [.op (some 41) none (.mv (.t 5)), .op (some 42) none (.off 2 (.t 6)), .op (some 43) none (.load none (.t 42)), .op (some 44) none (.mv (.t 8)), .op (some 45) none (.idxS 1 (.t 43) (.t 44)), .op (some 46) none (.load none (.t 45)), .op none none (.mapset (.t 41) (.t 46) (.c (.bool true)))]) .skip))))
 (.region [.op (some 28) none (.mv (.t 8)), .op (some 29) none (.bin .add false (.t 28) (.c (.int .i64 (.ofNat 1)))), .op (some 8) none (.mv (.t 29))]))))))
def abA5 : CC := (.seq (.region [.op (some 109) none (.mv (.t 0)), .op (some 110) none (.mv (.t 5)), .op (some 111) none (.mv (.t 1)), .call (some 112) none 44 [(.t 109), (.t 110), (.t 111)], .op (some 4) none (.mv (.t 112))])
 .ret)
def abI11 : CC := (.region [.op (some 11) none (.mv (.c (.bool true)))])
def abT : CC := (.seq (.region [.op (some 47) none (.mv (.t 11))])
 (.cond (.t 47) .skip (.exit 2)))
def abF : CC := (.region [.op (some 11) none (.mv (.c (.bool false)))])
def abI12 : CC := (.region [.op (some 12) none (.mv (.c (.int .i64 (.ofNat 0))))])
def abB4 : CC := (.seq (.seq (.region [.op (some 48) none (.mv (.t 12)), .op (some 49) none (.mv (.t 0)), .op (some 50) none (.lenS (.t 49)), .op (some 51) none (.bin .lss false (.t 48) (.t 50))])
 (.cond (.t 51) .skip (.exit 4)))
 (.seq (.block 5 (.seq (.region [.op (some 13) none (.mv (.c (.int .i64 (.ofNat 0))))])
 (.block 6 (.loop (.seq (.seq (.region [.op (some 54) none (.mv (.t 5)), .op (some 55) none (.mv (.t 0)), .op (some 56) none (.mv (.t 12)), .op (some 57) none (.idxS 6 (.t 55) (.t 56)), .op (some 58) none (.off 0 (.t 57)), .op (some 59) none (.load none (.t 58)), .op (some 60) none (.look (.bool false) false (.t 54) (.t 59)), .op (some 61) none (.mv (.t 60)), .op (some 62) (some (61, true)) (.mv (.t 13)), .op (some 63) (some (61, true)) (.mv (.t 0)), .op (some 64) (some (61, true)) (.mv (.t 12)), .op (some 65) (some (61, true)) (.idxS 6 (.t 63) (.t 64)), .op (some 66) (some (61, true)) (.off 2 (.t 65)), .op (some 67) (some (61, true)) (.load none (.t 66)), .op (some 68) (some (61, true)) (.lenS (.t 67)), .op (some 69) (some (61, true)) (.bin .lss false (.t 62) (.t 68)), .op (some 70) none (.pick (.t 61) (.t 69) (.c (.bool false)))])
 (.cond (.t 70) .skip (.exit 6)))
 (.seq (.block 7 (.seq (.region [.op (some 74) none (.mv (.t 0)), .op (some 75) none (.mv (.t 0)), .op (some 76) none (.mv (.t 12)), .op (some 77) none (.idxS 6 (.t 75) (.t 76)), .op (some 78) none (.off 2 (.t 77)), .op (some 79) none (.load none (.t 78)), .op (some 80) none (.mv (.t 13)), .op (some 81) none (.idxS 1 (.t 79) (.t 80)), .op (some 82) none (.load none (.t 81)), .call (some 83) none 43 [(.t 74), (.t 82)], .op (some 73) none (.mv (.t 83)), .op (some 84) none (.ext 0 (.t 73)), .op (some 85) none (.ext 1 (.t 73)), .op (some 14) none (.alloc [(.int .u32 (.ofNat 0)), (.int .i64 (.ofNat 0)), (.slc none 0 (.known 0)), (.int .i64 (.ofNat 0)), (.int .i64 (.ofNat 0)), (.int .i64 (.ofNat 0))] 31), .op none none (.store 6 (.t 14) (.t 84)), .op (some 15) none (.mv (.t 85))])
 (.seq (.region [.op (some 86) none (.mv (.t 15)), .op (some 87) none (.mv (.t 86)), .op (some 88) (some (87, true)) (.mv (.t 5)), .op (some 89) (some (87, true)) (.mv (.t 0)), .op (some 90) (some (87, true)) (.mv (.t 12)), .op (some 91) (some (87, true)) (.idxS 6 (.t 89) (.t 90)), .op (some 92) (some (87, true)) (.off 2 (.t 91)), .op (some 93) (some (87, true)) (.load none (.t 92)), .op (some 94) (some (87, true)) (.mv (.t 13)), .op (some 95) (some (87, true)) (.idxS 1 (.t 93) (.t 94)), .op (some 96) (some (87, true)) (.load none (.t 95)), .op (some 97) (some (87, true)) (.look (.bool false) false (.t 88) (.t 96)), .op (some 98) (some (87, true)) (.bnot (.t 97)), .op (some 99) none (.pick (.t 87) (.t 98) (.c (.bool false)))])
 (.cond (.t 99) (.seq (.region [.op (some 100) none (.mv (.t 5)), .op (some 101) none (.mv (.t 0)), .op (some 102) none (.mv (.t 12)), .op (some 103) none (.idxS 6 (.t 101) (.t 102)), .op (some 104) none (.off 2 (.t 103)), .op (some 105) none (.load none (.t 104)), .op (some 106) none (.mv (.t 13)), .op (some 107) none (.idxS 1 (.t 105) (.t 106)), .op (some 108) none (.load none (.t 107)), .op none none (.mapset (.t 100) (.t 108) (.c (.bool true)))])
 (.region [.op (some 11) none (.mv (.c (.bool true)))])) .skip))))
 (.region [.op (some 71) none (.mv (.t 13)), .op (some 72) none (.bin .add false (.t 71) (.c (.int .i64 (.ofNat 1)))), .op (some 13) none (.mv (.t 72))])))))))
 (.region [.op (some 52) none (.mv (.t 12)), .op (some 53) none (.bin .add false (.t 52) (.c (.int .i64 (.ofNat 1)))), .op (some 12) none (.mv (.t 53))])))
def abB2 : CC := .seq abT (.block 3 (.seq abF (.seq abI12 (.block 4 (.loop abB4)))))
def abAll : CC := .seq abA0 (.seq abA1 (.seq abA2 (.seq abA3 (.seq (.seq abI11 (.block 2 (.loop abB2))) abA5))))
theorem ab_code : ∃ c, Tryz.f19.body = some c ∧ cCode Tryz.prog (cDraw Tryz.prog) c = some abAll := ⟨_, rfl, by kernel_rfl⟩
noncomputable def at19 (c : CC) (t : Tr AV) (aw : AW) : Option Out := kCode cTop c (nat_lit 1000) t (nat_lit 113) [] aw
/-- it goes on, with n slots -/
noncomputable def bNn {β : Type} (n0 : Nat) (r : Option Out) (f : Tr AV → AW → Option β) : Option β :=
  Option.rec (motive := fun _ => Option β) none (fun o => Out.rec (motive := fun _ => Option β) (fun x act aw => AX.rec (motive := fun _ => Option β) (AAct.rec (motive := fun _ => Option β) (fun t n ds => List.rec (motive := fun _ => Option β) (bb2 (Nat.beq n n0) (f t aw) none) (fun _ _ _ => none) ds) act) (fun _ => none) none (fun _ => none) x) o) r
theorem bNn_ok {β : Type} {n0 : Nat} {r : Option Out} {f : Tr AV → AW → Option β} {b : β} (h : bNn n0 r f = some b) : ∃ t aw, r = some ⟨.norm, ⟨t, n0, []⟩, aw⟩ ∧ f t aw = some b := by
  cases r with
  | none => cases h
  | some o =>
    obtain ⟨x, ⟨t, n, ds⟩, aw⟩ := o
    cases x with
    | norm =>
      cases ds with
      | nil =>
        have h : bb2 (Nat.beq n n0) (f t aw) none = some b := h
        rw [bb2_eq] at h
        cases hn : Nat.beq n n0 <;> simp only [hn, cond_true, cond_false, reduceCtorEq] at h
        rw [Nat.eq_of_beq_eq_true hn]
        exact ⟨t, aw, rfl, h⟩
      | cons d l => cases h
    | exit _ => cases h
    | ret => cases h
    | panic _ => cases h
abbrev wI (n : Nat) : AV := .int .i64 (.ofNat n)
abbrev wW (n : Nat) : AV := .int .u32 (.ofNat n)
abbrev wN : AV := .slc none 0 (.known 0)
/-- what of the frames is left open: kinds, lists -/
structure Fr where
  kk : Nat → Int
  p : Nat → Option (Nat × Nat)
  n : Nat → Nat
  c : Nat → Cap
  O : Nat → AO
noncomputable def pR (R : List Nat) (q : Nat) : Option (Nat × Nat) := List.rec (motive := fun _ => Option (Nat × Nat)) none (fun _ _ _ => some (q, 0)) R
noncomputable def cR (R : List Nat) : Cap := List.rec (motive := fun _ => Cap) (.known 0) (fun _ _ _ => .upto 1 (cntN R)) R
noncomputable def oR (R : List Nat) : AO := List.rec (motive := fun _ => AO) .dead (fun _ _ _ => .rom (numsA R) 28) R
/-- frame i's list is known -/
noncomputable def Fr.at (F : Fr) (i : Nat) (R : List Nat) : Fr := ⟨F.kk, fun q => bb2 (Nat.beq q i) (pR R i) (F.p q), fun q => bb2 (Nat.beq q i) (cntN R) (F.n q), fun q => bb2 (Nat.beq q i) (cR R) (F.c q), fun q => bb2 (Nat.beq q i) (oR R) (F.O q)⟩
noncomputable def vwF (F : Fr) : List AV := [wW 1, .int .i64 (F.kk 0), .slc (F.p 0) (F.n 0) (F.c 0), wI 3, wI 5, wI 10, wW 2, .int .i64 (F.kk 1), .slc (F.p 1) (F.n 1) (F.c 1), wI 3, wI 5, wI 10, wW 3, .int .i64 (F.kk 2), .slc (F.p 2) (F.n 2) (F.c 2), wI 3, wI 5, wI 10, wW 4, .int .i64 (F.kk 3), .slc (F.p 3) (F.n 3) (F.c 3), wI 3, wI 5, wI 10, wW 5, .int .i64 (F.kk 4), .slc (F.p 4) (F.n 4) (F.c 4), wI 3, wI 5, wI 10, wW 6, .int .i64 (F.kk 5), .slc (F.p 5) (F.n 5) (F.c 5), wI 3, wI 5, wI 10]
/-- those that are marked -/
noncomputable def mpF (M : List Nat) : Nat → List AEnt := List.rec (motive := fun _ => Nat → List AEnt) (fun _ => []) (fun x _ ih j => ⟨wW x, .bool true, j⟩ :: ih (Nat.succ j)) M
noncomputable def mpO (M : List Nat) : AO := .map (mpF M 0) (cntN M)
noncomputable def inN (x : Nat) (l : List Nat) : Bool := List.rec (motive := fun _ => Bool) false (fun y _ ih => bb2 (Nat.beq x y) true ih) l
noncomputable def addN (M : List Nat) (x : Nat) : List Nat := List.rec (motive := fun _ => List Nat) [x] (fun a _ ih => a :: ih) M
noncomputable def visitN (M R : List Nat) : List Nat := List.rec (motive := fun _ => List Nat → List Nat) (fun M => M) (fun r _ ih M => ih (bb2 (inN r M) M (addN M r))) R M
noncomputable def subN (M R : List Nat) : Bool := List.rec (motive := fun _ => Bool) true (fun r _ ih => bb2 (inN r M) ih false) R
noncomputable def aTm (X : AV) (b : Bool) (i : Nat) : List (Nat × AV) := [(0, .slc (some (0, 0)) 6 (.upto 6 6)), (1, X), (4, wN), (5, .map (some 6)), (11, .bool b), (12, wI i)]
noncomputable def aSt (F : Fr) (M : List Nat) : List AO := [.rom (vwF F) 31, F.O 1, F.O 2, F.O 3, F.O 4, F.O 5, mpO M]
abbrev Seen := List (Option AV) × List (Option AO)
noncomputable def seenA (t : Tr AV) (aw : AW) : Option Seen := some ([trGet t (nat_lit 0), trGet t (nat_lit 1), trGet t (nat_lit 4), trGet t (nat_lit 5), trGet t (nat_lit 11), trGet t (nat_lit 12)], [awGet aw (nat_lit 0), awGet aw (nat_lit 1), awGet aw (nat_lit 2), awGet aw (nat_lit 3), awGet aw (nat_lit 4), awGet aw (nat_lit 5), awGet aw (nat_lit 6)])
noncomputable def wantA (F : Fr) (X : AV) (b : Bool) (i : Nat) (M : List Nat) : Option Seen := some ([some (.slc (some (0, 0)) 6 (.upto 6 6)), some X, some wN, some (.map (some 6)), some (.bool b), some (wI i)], [some (.rom (vwF F) 31), some (F.O 1), some (F.O 2), some (F.O 3), some (F.O 4), some (F.O 5), some (mpO M)])
/-- frame q is looked at; M: those that are marked -/
noncomputable def stepA (F : Fr) (X : AV) (b : Bool) (q : Nat) (M : List Nat) : Option Seen :=
  bNn (nat_lit 113) (at19 abB4 (tmOf (aTm X b q) .leaf) (ofObjs (aSt F M) (nat_lit 7))) seenA
/-- .. and it is marked: R its list -/
noncomputable def stepI (F : Fr) (X : AV) (b : Bool) (q : Nat) (x : List Nat × List Nat) : Option Seen := stepA (F.at q x.2) X b q x.1
noncomputable def wantI (F : Fr) (X : AV) (b : Bool) (q : Nat) (x : List Nat × List Nat) : Option Seen := wantA (F.at q x.2) X (bb2 (subN x.1 x.2) b true) (Nat.succ q) (visitN x.1 x.2)
noncomputable def stepO (F : Fr) (X : AV) (b : Bool) (q : Nat) (M : List Nat) : Option Seen := stepA F X b q M
noncomputable def wantO (F : Fr) (X : AV) (b : Bool) (q : Nat) (M : List Nat) : Option Seen := wantA F X b (Nat.succ q) M
/-- all lists, in their order, that may be marked -/
def tabM : List (List Nat) := [[], [1], [2], [3], [4], [5], [1, 2], [1, 3], [1, 4], [1, 5], [2, 1], [2, 3], [2, 4], [2, 5], [3, 1], [3, 2], [3, 4], [3, 5], [4, 1], [4, 2], [4, 3], [4, 5], [5, 1], [5, 2], [5, 3], [5, 4], [1, 2, 3], [1, 2, 4], [1, 2, 5], [1, 3, 2], [1, 3, 4], [1, 3, 5], [1, 4, 2], [1, 4, 3], [1, 4, 5], [1, 5, 2], [1, 5, 3], [1, 5, 4], [2, 3, 1], [2, 3, 4], [2, 3, 5], [2, 4, 1], [2, 4, 3], [2, 4, 5], [2, 5, 1], [2, 5, 3], [2, 5, 4], [3, 1, 2], [3, 2, 1], [3, 4, 1], [3, 4, 2], [3, 4, 5], [3, 5, 1], [3, 5, 2], [3, 5, 4], [4, 1, 2], [4, 1, 3], [4, 2, 1], [4, 2, 3], [4, 3, 1], [4, 3, 2], [4, 5, 1], [4, 5, 2], [4, 5, 3], [5, 1, 2], [5, 1, 3], [5, 1, 4], [5, 2, 1], [5, 2, 3], [5, 2, 4], [5, 3, 1], [5, 3, 2], [5, 3, 4], [5, 4, 1], [5, 4, 2], [5, 4, 3], [1, 2, 3, 4], [1, 2, 3, 5], [1, 2, 4, 3], [1, 2, 4, 5], [1, 2, 5, 3], [1, 2, 5, 4], [1, 3, 4, 2], [1, 3, 4, 5], [1, 3, 5, 2], [1, 3, 5, 4], [1, 4, 2, 3], [1, 4, 3, 2], [1, 4, 5, 2], [1, 4, 5, 3], [1, 5, 2, 3], [1, 5, 2, 4], [1, 5, 3, 2], [1, 5, 3, 4], [1, 5, 4, 2], [1, 5, 4, 3], [2, 3, 4, 1], [2, 3, 4, 5], [2, 3, 5, 1], [2, 3, 5, 4], [2, 4, 1, 3], [2, 4, 3, 1], [2, 4, 5, 1], [2, 4, 5, 3], [2, 5, 1, 3], [2, 5, 1, 4], [2, 5, 3, 1], [2, 5, 3, 4], [2, 5, 4, 1], [2, 5, 4, 3], [3, 4, 1, 2], [3, 4, 2, 1], [3, 4, 5, 1], [3, 4, 5, 2], [3, 5, 1, 2], [3, 5, 1, 4], [3, 5, 2, 1], [3, 5, 2, 4], [3, 5, 4, 1], [3, 5, 4, 2], [4, 1, 2, 3], [4, 1, 3, 2], [4, 2, 1, 3], [4, 2, 3, 1], [4, 3, 1, 2], [4, 3, 2, 1], [4, 5, 1, 2], [4, 5, 1, 3], [4, 5, 2, 1], [4, 5, 2, 3], [4, 5, 3, 1], [4, 5, 3, 2], [5, 1, 2, 3], [5, 1, 2, 4], [5, 1, 3, 2], [5, 1, 3, 4], [5, 1, 4, 2], [5, 1, 4, 3], [5, 2, 1, 3], [5, 2, 1, 4], [5, 2, 3, 1], [5, 2, 3, 4], [5, 2, 4, 1], [5, 2, 4, 3], [5, 3, 1, 2], [5, 3, 1, 4], [5, 3, 2, 1], [5, 3, 2, 4], [5, 3, 4, 1], [5, 3, 4, 2], [5, 4, 1, 2], [5, 4, 1, 3], [5, 4, 2, 1], [5, 4, 2, 3], [5, 4, 3, 1], [5, 4, 3, 2], [1, 2, 3, 5, 4], [1, 2, 4, 5, 3], [1, 2, 5, 3, 4], [1, 2, 5, 4, 3], [1, 3, 4, 5, 2], [1, 3, 5, 2, 4], [1, 3, 5, 4, 2], [1, 4, 5, 2, 3], [1, 4, 5, 3, 2], [1, 5, 2, 3, 4], [1, 5, 2, 4, 3], [1, 5, 3, 2, 4], [1, 5, 3, 4, 2], [1, 5, 4, 2, 3], [1, 5, 4, 3, 2], [2, 3, 4, 5, 1], [2, 3, 5, 1, 4], [2, 3, 5, 4, 1], [2, 4, 5, 1, 3], [2, 4, 5, 3, 1], [2, 5, 1, 3, 4], [2, 5, 1, 4, 3], [2, 5, 3, 1, 4], [2, 5, 3, 4, 1], [2, 5, 4, 1, 3], [2, 5, 4, 3, 1], [3, 4, 5, 1, 2], [3, 4, 5, 2, 1], [3, 5, 1, 2, 4], [3, 5, 1, 4, 2], [3, 5, 2, 1, 4], [3, 5, 2, 4, 1], [3, 5, 4, 1, 2], [3, 5, 4, 2, 1], [4, 5, 1, 2, 3], [4, 5, 1, 3, 2], [4, 5, 2, 1, 3], [4, 5, 2, 3, 1], [4, 5, 3, 1, 2], [4, 5, 3, 2, 1], [5, 1, 2, 3, 4], [5, 1, 2, 4, 3], [5, 1, 3, 2, 4], [5, 1, 3, 4, 2], [5, 1, 4, 2, 3], [5, 1, 4, 3, 2], [5, 2, 1, 3, 4], [5, 2, 1, 4, 3], [5, 2, 3, 1, 4], [5, 2, 3, 4, 1], [5, 2, 4, 1, 3], [5, 2, 4, 3, 1], [5, 3, 1, 2, 4], [5, 3, 1, 4, 2], [5, 3, 2, 1, 4], [5, 3, 2, 4, 1], [5, 3, 4, 1, 2], [5, 3, 4, 2, 1], [5, 4, 1, 2, 3], [5, 4, 1, 3, 2], [5, 4, 2, 1, 3], [5, 4, 2, 3, 1], [5, 4, 3, 1, 2], [5, 4, 3, 2, 1]]
def casesI (q : Nat) : List (List Nat × List Nat) := (tabM.filter (fun M => M.contains (q + 1))).flatMap fun M => (subsL (upTo q)).map fun R => (M, R)
/-- the k-th of n parts of them, by their lists' place -/
def chunkI (q n k : Nat) : List (List Nat × List Nat) := ((tabM.filter (fun M => M.contains (q + 1))).zipIdx.filter (fun x => x.2 % n == k)).flatMap fun x => (subsL (upTo q)).map fun R => (x.1, R)
def casesO (q : Nat) : List (List Nat) := tabM.filter fun M => !M.contains (q + 1)
/-- it is left by that exit -/
noncomputable def bXn {β : Type} (id n0 : Nat) (r : Option Out) (f : Tr AV → AW → Option β) : Option β :=
  Option.rec (motive := fun _ => Option β) none (fun o => Out.rec (motive := fun _ => Option β) (fun x act aw => AX.rec (motive := fun _ => Option β) none (fun j => bb2 (Nat.beq j id) (AAct.rec (motive := fun _ => Option β) (fun t n ds => List.rec (motive := fun _ => Option β) (bb2 (Nat.beq n n0) (f t aw) none) (fun _ _ _ => none) ds) act) none) none (fun _ => none) x) o) r
theorem bXn_ok {β : Type} {id n0 : Nat} {r : Option Out} {f : Tr AV → AW → Option β} {b : β} (h : bXn id n0 r f = some b) : ∃ t aw, r = some ⟨.exit id, ⟨t, n0, []⟩, aw⟩ ∧ f t aw = some b := by
  cases r with
  | none => cases h
  | some o =>
    obtain ⟨x, ⟨t, n, ds⟩, aw⟩ := o
    cases x with
    | norm => cases h
    | exit j =>
      have h : bb2 (Nat.beq j id) (List.rec (motive := fun _ => Option β) (bb2 (Nat.beq n n0) (f t aw) none) (fun _ _ _ => none) ds) none = some b := h
      rw [bb2_eq] at h
      cases hj : Nat.beq j id <;> simp only [hj, cond_true, cond_false, reduceCtorEq] at h
      cases ds with
      | nil =>
        have h : bb2 (Nat.beq n n0) (f t aw) none = some b := h
        rw [bb2_eq] at h
        cases hn : Nat.beq n n0 <;> simp only [hn, cond_true, cond_false, reduceCtorEq] at h
        rw [Nat.eq_of_beq_eq_true hn, Nat.eq_of_beq_eq_true hj]
        exact ⟨t, aw, rfl, h⟩
      | cons d l => cases h
    | ret => cases h
    | panic _ => cases h
/-- it returns -/
noncomputable def bRn {β : Type} (n0 : Nat) (r : Option Out) (f : Tr AV → AW → Option β) : Option β :=
  Option.rec (motive := fun _ => Option β) none (fun o => Out.rec (motive := fun _ => Option β) (fun x act aw => AX.rec (motive := fun _ => Option β) none (fun _ => none) (AAct.rec (motive := fun _ => Option β) (fun t n ds => List.rec (motive := fun _ => Option β) (bb2 (Nat.beq n n0) (f t aw) none) (fun _ _ _ => none) ds) act) (fun _ => none) x) o) r
theorem bRn_ok {β : Type} {n0 : Nat} {r : Option Out} {f : Tr AV → AW → Option β} {b : β} (h : bRn n0 r f = some b) : ∃ t aw, r = some ⟨.ret, ⟨t, n0, []⟩, aw⟩ ∧ f t aw = some b := by
  cases r with
  | none => cases h
  | some o =>
    obtain ⟨x, ⟨t, n, ds⟩, aw⟩ := o
    cases x with
    | norm => cases h
    | exit _ => cases h
    | ret =>
      cases ds with
      | nil =>
        have h : bb2 (Nat.beq n n0) (f t aw) none = some b := h
        rw [bb2_eq] at h
        cases hn : Nat.beq n n0 <;> simp only [hn, cond_true, cond_false, reduceCtorEq] at h
        rw [Nat.eq_of_beq_eq_true hn]
        exact ⟨t, aw, rfl, h⟩
      | cons d l => cases h
    | panic _ => cases h
/-! ### the loops' ends: the map is left open -/
noncomputable def aTn (X : AV) (b : Bool) : List (Nat × AV) := [(0, .slc (some (0, 0)) 6 (.upto 6 6)), (1, X), (4, wN), (5, .map (some 6)), (11, .bool b)]
noncomputable def aSw (F : Fr) (W : AO) : List AO := [.rom (vwF F) 31, F.O 1, F.O 2, F.O 3, F.O 4, F.O 5, W]
noncomputable def seenN (t : Tr AV) (aw : AW) : Option Seen := some ([trGet t (nat_lit 0), trGet t (nat_lit 1), trGet t (nat_lit 4), trGet t (nat_lit 5), trGet t (nat_lit 11)], [awGet aw (nat_lit 0), awGet aw (nat_lit 1), awGet aw (nat_lit 2), awGet aw (nat_lit 3), awGet aw (nat_lit 4), awGet aw (nat_lit 5), awGet aw (nat_lit 6)])
noncomputable def wantN (F : Fr) (X : AV) (b : Bool) (W : AO) : Option Seen := some ([some (.slc (some (0, 0)) 6 (.upto 6 6)), some X, some wN, some (.map (some 6)), some (.bool b)], [some (.rom (vwF F) 31), some (F.O 1), some (F.O 2), some (F.O 3), some (F.O 4), some (F.O 5), some W])
noncomputable def wantW (F : Fr) (X : AV) (b : Bool) (i : Nat) (W : AO) : Option Seen := some ([some (.slc (some (0, 0)) 6 (.upto 6 6)), some X, some wN, some (.map (some 6)), some (.bool b), some (wI i)], [some (.rom (vwF F) 31), some (F.O 1), some (F.O 2), some (F.O 3), some (F.O 4), some (F.O 5), some W])
/-- a round begins -/
theorem round_in : ∀ (F : Fr) (X : AV) (W : AO), (bNn (nat_lit 113) (at19 abT (tmOf (aTn X true) .leaf) (ofObjs (aSw F W) (nat_lit 7))) fun t aw => bNn (nat_lit 113) (at19 abF t aw) fun t aw => bNn (nat_lit 113) (at19 abI12 t aw) seenA) = wantW F X false 0 W := by
  intro F X W
  kernel_rfl
/-- a round ends -/
theorem round_out : ∀ (F : Fr) (X : AV) (b : Bool) (W : AO), bXn (nat_lit 4) (nat_lit 113) (at19 abB4 (tmOf (aTm X b 6) .leaf) (ofObjs (aSw F W) (nat_lit 7))) seenN = wantN F X b W := by
  intro F X b W
  kernel_rfl
/-- no round more -/
theorem round_no : ∀ (F : Fr) (X : AV) (W : AO), bXn (nat_lit 2) (nat_lit 113) (at19 abB2 (tmOf (aTn X false) .leaf) (ofObjs (aSw F W) (nat_lit 7))) seenN = wantN F X false W := by
  intro F X W
  kernel_rfl
/-! ### a frame that is not marked; the first part; the last -/
theorem stepO_all : ∀ (F : Fr) (X : AV) (b : Bool), ([0, 1, 2, 3, 4, 5].map fun q => (casesO q).map (stepO F X b q)) = [0, 1, 2, 3, 4, 5].map fun q => (casesO q).map (wantO F X b q) := by
  intro F X b
  kernel_rfl
noncomputable def firstI (F : Fr) (q : Nat) (R : List Nat) : Option Seen :=
  bNn (nat_lit 113) (at19 abA0 (tmOf [(0, .slc (some (0, 0)) 6 (.upto 6 6)), (1, wW (Nat.succ q))] .leaf) (ofObjs [.rom (vwF (F.at q R)) 31, (F.at q R).O 1, (F.at q R).O 2, (F.at q R).O 3, (F.at q R).O 4, (F.at q R).O 5] (nat_lit 6))) fun t aw =>
    bNn (nat_lit 113) (at19 abA1 t aw) fun t aw => bNn (nat_lit 113) (at19 abA2 t aw) fun t aw => bNn (nat_lit 113) (at19 abA3 t aw) fun t aw => bNn (nat_lit 113) (at19 abI11 t aw) seenN
theorem first_all : ∀ (F : Fr), ([0, 1, 2, 3, 4, 5].map fun q => ([] :: optsN q).map (firstI F q)) = [0, 1, 2, 3, 4, 5].map fun q => ([] :: optsN q).map fun R => wantN (F.at q R) (wW (Nat.succ q)) true (mpO R) := by
  intro F
  kernel_rfl
/-- those that are marked, as they are known -/
noncomputable def sortM (M : List Nat) : List Nat := List.rec (motive := fun _ => List Nat) [] (fun x _ ih => bb2 (inN x M) (x :: ih) ih) [1, 2, 3, 4, 5]
noncomputable def slcB (A : List Nat) (k : Nat) : AV := List.rec (motive := fun _ => AV) wN (fun _ _ _ => .slc (some (k, 0)) (cntN A) (.upto 1 (cntN A))) A
noncomputable def newB (A : List Nat) : Option AO := List.rec (motive := fun _ => Option AO) none (fun _ _ _ => some (.cells (numsA A) 28 true)) A
/-- where they lie -/
noncomputable def kB (M : List Nat) : Nat := List.rec (motive := fun _ => Nat) (nat_lit 7) (fun _ _ _ => Nat.add (nat_lit 6) (Nat.mul (nat_lit 2) (cntN M))) M
noncomputable def lastI (F : Fr) (q : Nat) (M : List Nat) : Option (Option AV × Option AO) :=
  bRn (nat_lit 113) (at19 abA5 (tmOf (aTn (wW (Nat.succ q)) false) .leaf) (ofObjs (aSt F M) (nat_lit 7))) fun t aw => some (trGet t (nat_lit 4), awGet aw (kB M))
def casesT (q : Nat) : List (List Nat) := tabM.filter fun M => M.all fun x => Nat.ble x q
theorem last_all : ∀ (F : Fr), ([0, 1, 2, 3, 4, 5].map fun q => (casesT q).map (lastI F q)) = [0, 1, 2, 3, 4, 5].map fun q => (casesT q).map fun M => some (some (slcB (sortM M) (kB M)), newB (sortM M)) := by
  intro F
  kernel_rfl
end Go.Proofs.YtbilacojhmohmaaGreat.Ae
