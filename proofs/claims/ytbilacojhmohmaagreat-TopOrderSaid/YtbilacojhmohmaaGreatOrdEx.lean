/- The code of TopOrder in pieces; every order is run. No condition. -/
import Derived.Test.YtbilacojhmohmaaGreatAeMemo
namespace Go.Proofs.YtbilacojhmohmaaGreat.Ae
open Go
set_option linter.unusedVariables false
set_option linter.unusedSimpArgs false
def ordP0 : CC := (.region [.op (some 1) none (.box 56 (.t 0)), .op (some 2) none (.mv (.c (.bool false)))])
def ordP1 : CC := (.seq (.region [.call (some 19) none 9 [], .op (some 20) none (.bnot (.t 19))])
 (.cond (.t 20) (.seq (.region [.op (some 2) none (.mv (.c (.bool false)))])
 .ret) .skip))
def ordP2 : CC := (.region [.op (some 22) none (.build [(.int .i64 (.ofNat 0)), (.int .i64 (.ofNat 0)), (.int .i64 (.ofNat 0)), (.int .i64 (.ofNat 0)), (.int .i64 (.ofNat 0))] [(0, 1, (.c (.int .i64 (.ofNat 4)))), (1, 1, (.c (.int .i64 (.ofNat 190)))), (2, 1, (.c (.int .i64 (.ofNat 8)))), (3, 1, (.c (.int .i64 (.ofNat 100)))), (4, 1, (.c (.int .i64 (.ofNat 1000))))]), .call (some 23) none 10 [(.t 22)], .op (some 21) none (.mv (.t 23)), .op (some 24) none (.ext 0 (.t 21)), .op (some 25) none (.ext 1 (.t 21)), .op (some 3) none (.mv (.t 24)), .op (some 4) none (.mv (.t 25))])
def ordP3 : CC := (.seq (.region [.op (some 26) none (.mv (.t 4)), .op (some 27) none (.bnot (.t 26)), .op (some 28) none (.mv (.t 27)), .op (some 29) (some (28, false)) (.mv (.t 3)), .op (some 30) (some (28, false)) (.nileq 0 false (.t 29)), .op (some 31) none (.pick (.t 28) (.c (.bool true)) (.t 30))])
 (.cond (.t 31) (.seq (.region [.op (some 2) none (.mv (.c (.bool false)))])
 .ret) .skip))
def ordP4 : CC := (.seq (.region [.op (some 5) none (.mv (.c (.int .i64 (.ofNat 0))))])
 (.block 0 (.loop (.seq (.seq (.region [.op (some 32) none (.mv (.t 5)), .op (some 33) none (.bin .lss false (.t 32) (.c (.int .i64 (.ofNat 6))))])
 (.cond (.t 33) .skip (.exit 0)))
 (.seq (.block 1 (.seq (.region [.op (some 36) none (.mv (.t 5)), .op (some 37) none (.bin .add false (.t 36) (.c (.int .i64 (.ofNat 1)))), .op (some 38) none (.bin .mul false (.c (.int .i64 (.ofNat 10))) (.t 37)), .op (some 39) none (.conv .u32 (.t 38)), .op (some 40) none (.build [(.int .u32 (.ofNat 0)), (.int .i64 (.ofNat 0)), (.slc none 0 (.known 0)), (.int .i64 (.ofNat 0)), (.int .i64 (.ofNat 0)), (.int .i64 (.ofNat 0))] [(0, 1, (.t 39)), (1, 1, (.c (.int .i64 (.ofNat 1)))), (3, 1, (.c (.int .i64 (.ofNat 2)))), (4, 1, (.c (.int .i64 (.ofNat 1)))), (5, 1, (.c (.int .i64 (.ofNat 90))))]), .op (some 6) none (.alloc [(.int .u32 (.ofNat 0)), (.int .i64 (.ofNat 0)), (.slc none 0 (.known 0)), (.int .i64 (.ofNat 0)), (.int .i64 (.ofNat 0)), (.int .i64 (.ofNat 0))] 31), .op none none (.store 6 (.t 6) (.t 40))])
 (.seq (.region [.op (some 41) none (.mv (.t 3)), .op (some 42) none (.load (some 6) (.t 6)), .op (some 43) none (.mv (.t 5)), .op (some 44) none (.conv .u8 (.t 43)), .op (some 45) none (.mkslc 5 2 [(.int .u8 (.ofNat 0)), (.int .u8 (.ofNat 0))] [(0, 1, (.t 44)), (1, 1, (.c (.int .u8 (.ofNat 9))))]), .op (some 46) none (.build [(.int .i64 (.ofNat 0)), (.int .u32 (.ofNat 0)), (.int .i64 (.ofNat 0)), (.slc none 0 (.known 0)), (.int .i64 (.ofNat 0)), (.int .i64 (.ofNat 0)), (.int .i64 (.ofNat 0)), (.slc none 0 (.known 0)), (.int .i64 (.ofNat 0)), (.int .i64 (.ofNat 0)), (.bool false), (.int .u8 (.ofNat 0))] [(0, 1, (.c (.int .i64 (.ofNat 1)))), (1, 6, (.t 42)), (7, 1, (.t 45))]), .call (some 47) none 11 [(.t 41), (.t 46)], .op (some 48) none (.part none 0 (.t 47)), .op (some 49) none (.bin .neq false (.t 48) (.c (.int .i64 (.ofNat 0))))])
 (.cond (.t 49) (.seq (.region [.op (some 2) none (.mv (.c (.bool false)))])
 .ret) .skip))))
 (.region [.op (some 34) none (.mv (.t 5)), .op (some 35) none (.bin .add false (.t 34) (.c (.int .i64 (.ofNat 1)))), .op (some 5) none (.mv (.t 35))]))))))
def ordP5 : CC := (.region [.op (some 50) none (.mv (.t 3)), .op (some 51) none (.build [(.int .i64 (.ofNat 0)), (.int .u32 (.ofNat 0)), (.int .i64 (.ofNat 0)), (.slc none 0 (.known 0)), (.int .i64 (.ofNat 0)), (.int .i64 (.ofNat 0)), (.int .i64 (.ofNat 0)), (.slc none 0 (.known 0)), (.int .i64 (.ofNat 0)), (.int .i64 (.ofNat 0)), (.bool false), (.int .u8 (.ofNat 0))] [(0, 1, (.c (.int .i64 (.ofNat 2))))]), .call (some 52) none 11 [(.t 50), (.t 51)]])
def ordP6 : CC := (.region [.op (some 7) none (.alloc [(.bool false), (.bool false), (.bool false), (.bool false), (.bool false), (.bool false)] 57)])
def ordP7 : CC := (.region [.op (some 8) none (.mv (.c (.int .i64 (.ofNat 0))))])
def ordI9 : CC := (.region [.op (some 9) none (.mv (.c (.int .i64 (.ofNat 0))))])
def ordT : CC := (.seq (.region [.op (some 53) none (.mv (.t 9)), .op (some 54) none (.bin .lss false (.t 53) (.c (.int .i64 (.ofNat 6))))])
 (.cond (.t 54) .skip (.exit 2)))
def ordA : CC := (.region [.op (some 57) none (.mv (.t 3)), .call (some 58) none 13 [(.t 57), (.c (.bool false))], .op (some 10) none (.mv (.t 58))])
def ordB : CC := (.seq (.region [.op (some 59) none (.mv (.t 10)), .op (some 60) none (.mv (.t 9)), .op (some 61) none (.bin .sub false (.c (.int .i64 (.ofNat 6))) (.t 60)), .op (some 62) none (.bin .neq false (.t 59) (.t 61))])
 (.cond (.t 62) (.seq (.region [.op (some 2) none (.mv (.c (.bool false)))])
 .ret) .skip))
def ordRA : CC := (.region [.op (some 63) none (.mv (.t 9)), .op (some 64) none (.idxA 6 1 (.t 1) (.t 63)), .op (some 65) none (.load none (.t 64)), .op (some 66) none (.conv .i64 (.t 65)), .op (some 67) none (.mv (.t 10)), .op (some 68) none (.bin .rem false (.t 66) (.t 67)), .op (some 11) none (.mv (.t 68))])
def ordR : CC := (.seq (.region [.op (some 70) none (.mv (.t 3)), .op (some 71) none (.mv (.t 11)), .call (some 72) none 17 [(.t 70), (.c (.bool false)), (.t 71)], .op (some 69) none (.mv (.t 72)), .op (some 73) none (.ext 0 (.t 69)), .op (some 74) none (.ext 1 (.t 69)), .op (some 12) none (.mv (.t 73)), .op (some 13) none (.mv (.t 74))])
 (.seq (.region [.op (some 76) none (.mv (.t 12)), .call (some 77) none 18 [(.t 76)], .op (some 75) none (.mv (.t 77)), .op (some 78) none (.ext 0 (.t 75)), .op (some 79) none (.ext 1 (.t 75)), .op (some 14) none (.alloc [(.int .i64 (.ofNat 0)), (.int .u16 (.ofNat 0)), (.int .u16 (.ofNat 0)), (.int .u32 (.ofNat 0)), (.int .u16 (.ofNat 0)), (.slc none 0 (.known 0)), (.int .u64 (.ofNat 0)), (.int .u32 (.ofNat 0)), (.int .u32 (.ofNat 0)), (.int .u16 (.ofNat 0)), (.int .u16 (.ofNat 0)), (.int .u32 (.ofNat 0)), (.int .u16 (.ofNat 0))] 66), .op none none (.store 13 (.t 14) (.t 78)), .op (some 15) none (.mv (.t 79))])
 (.seq (.region [.op (some 80) none (.off 1 (.t 14)), .op (some 81) none (.off 2 (.t 80)), .op (some 82) none (.load none (.t 81)), .op (some 83) none (.conv .i64 (.t 82)), .op (some 84) none (.bin .quo false (.t 83) (.c (.int .i64 (.ofNat 10)))), .op (some 85) none (.bin .sub false (.t 84) (.c (.int .i64 (.ofNat 1)))), .op (some 16) none (.mv (.t 85))])
 (.seq (.seq (.region [.op (some 86) none (.mv (.t 16)), .op (some 87) none (.bin .lss false (.t 86) (.c (.int .i64 (.ofNat 0)))), .op (some 88) none (.mv (.t 87)), .op (some 89) (some (88, false)) (.mv (.t 16)), .op (some 90) (some (88, false)) (.bin .gtr false (.t 89) (.c (.int .i64 (.ofNat 5)))), .op (some 91) none (.pick (.t 88) (.c (.bool true)) (.t 90)), .op (some 92) none (.mv (.t 91)), .op (some 93) (some (92, false)) (.mv (.t 16)), .op (some 94) (some (92, false)) (.idxA 6 1 (.t 7) (.t 93)), .op (some 95) (some (92, false)) (.load none (.t 94)), .op (some 96) none (.pick (.t 92) (.c (.bool true)) (.t 95))])
 (.cond (.t 96) (.seq (.region [.op (some 2) none (.mv (.c (.bool false)))])
 .ret) .skip))
 (.seq (.region [.op (some 97) none (.mv (.t 16)), .op (some 98) none (.idxA 6 1 (.t 7) (.t 97)), .op none none (.store 1 (.t 98) (.c (.bool true)))])
 (.seq (.region [.op (some 99) none (.mv (.t 3)), .op (some 100) none (.mv (.t 11)), .op (some 101) none (.build [(.int .i64 (.ofNat 0)), (.int .u32 (.ofNat 0)), (.int .i64 (.ofNat 0)), (.slc none 0 (.known 0)), (.int .i64 (.ofNat 0)), (.int .i64 (.ofNat 0)), (.int .i64 (.ofNat 0)), (.slc none 0 (.known 0)), (.int .i64 (.ofNat 0)), (.int .i64 (.ofNat 0)), (.bool false), (.int .u8 (.ofNat 0))] [(0, 1, (.c (.int .i64 (.ofNat 3)))), (8, 1, (.t 100))]), .call (some 102) none 11 [(.t 99), (.t 101)]])
 (.seq (.region [.op (some 103) none (.mv (.t 3)), .op (some 104) none (.build [(.int .i64 (.ofNat 0)), (.int .u32 (.ofNat 0)), (.int .i64 (.ofNat 0)), (.slc none 0 (.known 0)), (.int .i64 (.ofNat 0)), (.int .i64 (.ofNat 0)), (.int .i64 (.ofNat 0)), (.slc none 0 (.known 0)), (.int .i64 (.ofNat 0)), (.int .i64 (.ofNat 0)), (.bool false), (.int .u8 (.ofNat 0))] [(0, 1, (.c (.int .i64 (.ofNat 2))))]), .call (some 105) none 11 [(.t 103), (.t 104)], .op (some 106) none (.part none 1 (.t 105)), .op (some 17) none (.mv (.t 106))])
 (.seq (.seq (.region [.op (some 18) none (.mv (.c (.int .i64 (.ofNat 0))))])
 (.block 4 (.loop (.seq (.seq (.region [.op (some 107) none (.mv (.t 18)), .op (some 108) none (.mv (.t 17)), .op (some 109) none (.lenS (.t 108)), .op (some 110) none (.bin .lss false (.t 107) (.t 109))])
 (.cond (.t 110) .skip (.exit 4)))
 (.seq (.block 5 (.seq (.seq (.draw [.op (some 113) none (.mv (.t 8)), .op (some 114) none (.bin .gtr false (.t 113) (.c (.int .i64 (.ofNat 5)))), .op (some 115) none (.mv (.t 114)), .op (some 116) (some (115, false)) (.mv (.t 17)), .op (some 117) (some (115, false)) (.mv (.t 18)), .op (some 118) (some (115, false)) (.idxS 4 (.t 116) (.t 117)), .op (some 119) (some (115, false)) (.off 0 (.t 118)), .op (some 120) (some (115, false)) (.load none (.t 119)), .op (some 121) (some (115, false)) (.bin .neq false (.t 120) (.c (.int .i64 (.ofNat 1)))), .op (some 122) none (.pick (.t 115) (.c (.bool true)) (.t 121)), .op (some 123) none (.mv (.t 122)), .op (some 124) (some (123, false)) (.mv (.t 17)), .op (some 125) (some (123, false)) (.mv (.t 18)), .op (some 126) (some (123, false)) (.idxS 4 (.t 124) (.t 125)), .op (some 127) (some (123, false)) (.off 1 (.t 126)), .op (some 128) (some (123, false)) (.load none (.t 127)), .op (some 129) (some (123, false)) (.conv .i64 (.t 128)), .op (some 130) (some (123, false)) (.mv (.t 8)), .op (some 131) (some (123, false)) (.bin .add false (.t 130) (.c (.int .i64 (.ofNat 1)))), .op (some 132) (some (123, false)) (.bin .mul false (.c (.int .i64 (.ofNat 10))) (.t 131)), .op (some 133) (some (123, false)) (.bin .neq false (.t 129) (.t 132)), .op (some 134) none (.pick (.t 123) (.c (.bool true)) (.t 133)), .op (some 135) none (.mv (.t 134)), .op (some 136) (some (135, false)) (.mv (.t 8)), .op (some 137) (some (135, false)) (.idxA 6 1 (.t 7) (.t 136)), .op (some 138) (some (135, false)) (.load none (.t 137)), .op (some 139) (some (135, false)) (.bnot (.t 138)), .op (some 140) none (.pick (.t 135) (.c (.bool true)) (.t 139)), .op (some 141) none (.mv (.t 140)), .op (some 142) (some (141, false)) (.mv (.t 17)), .op (some 143) (some (141, false)) (.mv (.t 18)), .op (some 144) (some (141, false)) (.idxS 4 (.t 142) (.t 143)), .op (some 145) (some (141, false)) (.off 3 (.t 144)), .op (some 146) (some (141, false)) (.load none (.t 145)), .op (some 147) (some (141, false)) (.b2s (.t 146)), .op (some 148) (some (141, false)) (.mv (.t 8)), .op (some 149) (some (141, false)) (.conv .u8 (.t 148)), .op (some 150) (some (141, false)) (.mkslc 5 2 [(.int .u8 (.ofNat 0)), (.int .u8 (.ofNat 0))] [(0, 1, (.t 149)), (1, 1, (.c (.int .u8 (.ofNat 9))))]), .chk 147 (some (141, false)) (.b2s (.t 146)), .chk 146 (some (141, false)) (.load none (.t 145)), .op (some 151) (some (141, false)) (.b2s (.t 150)), .op (some 152) (some (141, false)) (.seq true (.t 147) (.t 151)), .op (some 153) none (.pick (.t 141) (.c (.bool true)) (.t 152))] [])
 (.cond (.t 153) (.seq (.region [.op (some 2) none (.mv (.c (.bool false)))])
 .ret) .skip))
 (.region [.op (some 154) none (.mv (.t 8)), .op (some 155) none (.bin .add false (.t 154) (.c (.int .i64 (.ofNat 1)))), .op (some 8) none (.mv (.t 155))])))
 (.region [.op (some 111) none (.mv (.t 18)), .op (some 112) none (.bin .add false (.t 111) (.c (.int .i64 (.ofNat 1)))), .op (some 18) none (.mv (.t 112))]))))))
 (.seq (.region [.op (some 156) none (.mv (.t 8)), .op (some 157) none (.bin .lss false (.t 156) (.c (.int .i64 (.ofNat 6)))), .op (some 158) none (.mv (.t 157)), .op (some 159) (some (158, true)) (.mv (.t 8)), .op (some 160) (some (158, true)) (.idxA 6 1 (.t 7) (.t 159)), .op (some 161) (some (158, true)) (.load none (.t 160)), .op (some 162) none (.pick (.t 158) (.t 161) (.c (.bool false)))])
 (.cond (.t 162) (.seq (.region [.op (some 2) none (.mv (.c (.bool false)))])
 .ret) .skip))))))))))
def ordI : CC := (.region [.op (some 55) none (.mv (.t 9)), .op (some 56) none (.bin .add false (.t 55) (.c (.int .i64 (.ofNat 1)))), .op (some 9) none (.mv (.t 56))])
def ordTail : CC := (.seq (.region [.op (some 163) none (.mv (.t 8)), .op (some 164) none (.bin .eql false (.t 163) (.c (.int .i64 (.ofNat 6)))), .op (some 2) none (.mv (.t 164))])
 .ret)
def ordIn : CC := .seq ordA (.seq ordB (.seq ordRA ordR))
def ordBody : CC := .seq ordT (.seq (.block 3 ordIn) ordI)
def ordAll : CC := .seq ordP0 (.seq ordP1 (.seq ordP2 (.seq ordP3 (.seq ordP4 (.seq ordP5 (.seq ordP6 (.seq ordP7 (.seq (.seq ordI9 (.block 2 (.loop ordBody))) ordTail))))))))
theorem ord_code : ∃ c, Tryz.f6.body = some c ∧ cCode Tryz.prog (cDraw Tryz.prog) c = some ordAll := ⟨_, rfl, by kernel_rfl⟩

noncomputable def at6A (c : CC) (t : Tr AV) (aw : AW) : Option Out := kCode cTop c (nat_lit 1000) t (nat_lit 165) [] aw
noncomputable def at6 (c : CC) (t : Tr AV) (aw : AW) : Option Out := kCode cOrd c (nat_lit 1000) t (nat_lit 165) [] aw
noncomputable def atExit (id n0 : Nat) (r : Option Out) (f : Tr AV → AW → Bool) : Bool :=
  Option.rec (motive := fun _ => Bool) false (fun o => Out.rec (motive := fun _ => Bool) (fun x act aw => AX.rec (motive := fun _ => Bool) false (fun j => bb2 (Nat.beq j id) (AAct.rec (motive := fun _ => Bool) (fun t n ds => List.rec (motive := fun _ => Bool) (bb2 (Nat.beq n n0) (f t aw) false) (fun _ _ _ => false) ds) act) false) false (fun _ => false) x) o) r
theorem atExit_ok {id n0 : Nat} {r : Option Out} {f : Tr AV → AW → Bool} (h : atExit id n0 r f = true) : ∃ t aw, r = some ⟨.exit id, ⟨t, n0, []⟩, aw⟩ ∧ f t aw = true := by
  cases r with
  | none => cases h
  | some o =>
    obtain ⟨x, ⟨t, n, ds⟩, aw⟩ := o
    cases x with
    | norm => cases h
    | exit j =>
      have h : bb2 (Nat.beq j id) (List.rec (motive := fun _ => Bool) (bb2 (Nat.beq n n0) (f t aw) false) (fun _ _ _ => false) ds) false = true := h
      rw [bb2_eq] at h
      cases hj : Nat.beq j id <;> simp only [hj, cond_true, cond_false, Bool.false_eq_true] at h
      cases ds with
      | nil =>
        have h : bb2 (Nat.beq n n0) (f t aw) false = true := h
        rw [bb2_eq] at h
        cases hn : Nat.beq n n0 <;> simp only [hn, cond_true, cond_false, Bool.false_eq_true] at h
        rw [Nat.eq_of_beq_eq_true hn, Nat.eq_of_beq_eq_true hj]
        exact ⟨t, aw, rfl, h⟩
      | cons d l => cases h
    | ret => cases h
    | panic _ => cases h
noncomputable def isTrue6 (v : Option AV) : Bool := Option.rec (motive := fun _ => Bool) false (fun v => vBool v (fun b => b) false) v
noncomputable def atRet6 (r : Option Out) : Bool :=
  Option.rec (motive := fun _ => Bool) false (fun o => Out.rec (motive := fun _ => Bool) (fun x act _ => AX.rec (motive := fun _ => Bool) false (fun _ => false) (AAct.rec (motive := fun _ => Bool) (fun t _ ds => List.rec (motive := fun _ => Bool) (isTrue6 (trGet t (nat_lit 2))) (fun _ _ _ => false) ds) act) (fun _ => false) x) o) r
def box6 : List AV := [.sym .u8 0, .sym .u8 2, .sym .u8 4, .sym .u8 6, .sym .u8 8, .sym .u8 10]
noncomputable def isI64 : Option AV → Nat → Bool
  | some (.int .i64 (.ofNat m)), n => Nat.beq m n
  | _, _ => false
noncomputable def isBoxP : Option AV → Bool
  | some (.ptr (some (0, 0))) => true
  | _ => false
noncomputable def isBox : Option AO → Bool
  | some (.cells [.sym .u8 a, .sym .u8 b, .sym .u8 c, .sym .u8 d, .sym .u8 e, .sym .u8 f] _ _) => bb2 (Nat.beq a 0) (bb2 (Nat.beq b 2) (bb2 (Nat.beq c 4) (bb2 (Nat.beq d 6) (bb2 (Nat.beq e 8) (Nat.beq f 10) false) false) false) false) false
  | _ => false
/-- does the frame, the memory stand so, that order i is read, of n? -/
noncomputable def raOK (i n : Nat) (t : Tr AV) (aw : AW) : Bool := bb2 (isI64 (trGet t (nat_lit 9)) i) (bb2 (isI64 (trGet t (nat_lit 10)) n) (bb2 (isBoxP (trGet t (nat_lit 1))) (isBox (awGet aw (nat_lit 0))) false) false) false
/-- the frame behind it -/
noncomputable def raPut (a : Nat) (t : Tr AV) : Tr AV := trSet (trSet (trSet (trSet (trSet (trSet (trSet t (nat_lit 63) .undef) (nat_lit 64) .undef) (nat_lit 65) .undef) (nat_lit 66) .undef) (nat_lit 67) .undef) (nat_lit 68) .undef) (nat_lit 11) (.int .i64 (.ofNat a))
noncomputable def allBel (f : Nat → Bool) (n : Nat) : Bool := Nat.rec (motive := fun _ => Bool) true (fun a r => bb2 (f a) r false) n
theorem allBel_ok {f : Nat → Bool} : ∀ {n : Nat}, allBel f n = true → ∀ a, a < n → f a = true
  | 0, _, a, h => by omega
  | n + 1, h, a, ha => by
    have h : bb2 (f n) (allBel f n) false = true := h
    rw [bb2_eq] at h
    cases hf : f n <;> simp only [hf, cond_true, cond_false, Bool.false_eq_true] at h
    by_cases e : a = n
    · rw [e]; exact hf
    · exact allBel_ok h a (by omega)
/-- every order from here on; of the first ones some are given -/
noncomputable def ex (d : Nat) : List Nat → Nat → Tr AV → AW → Bool :=
  Nat.rec (motive := fun _ => List Nat → Nat → Tr AV → AW → Bool)
    (fun _ _ t aw => atExit (nat_lit 2) (nat_lit 165) (at6 ordT t aw) (fun t aw => atRet6 (at6 ordTail t aw)))
    (fun d ih pre i t aw => atNorm (nat_lit 165) (at6 ordT t aw) (fun t aw => atNorm (nat_lit 165) (at6 ordA t aw) (fun t aw => atNorm (nat_lit 165) (at6 ordB t aw) (fun t aw =>
      bb2 (raOK i (Nat.succ d) t aw) ((fun go : List Nat → Nat → Bool => List.rec (motive := fun _ => Bool) (allBel (go []) (Nat.succ d)) (fun a l _ => go l a) pre) (fun l a => atNorm (nat_lit 165) (at6 ordR (raPut a t) aw) (fun t aw => atNorm (nat_lit 165) (at6 ordI t aw) (fun t aw => ih l (Nat.succ i) t aw)))) false)))) d
/-- the state ahead of the loop -/
def vI (n : Nat) : AV := .int .i64 (.ofNat n)
def vB (n : Nat) : AV := .int .u8 (.ofNat n)
def vH (n : Nat) : AV := .int .u16 (.ofNat n)
def vW (n : Nat) : AV := .int .u32 (.ofNat n)
def vQ (n : Nat) : AV := .int .u64 (.ofNat n)
def vP (n : Nat) : AV := .ptr (some (n, 0))
def vN : AV := .slc none 0 (.known 0)
def vM (n : Nat) : AV := .map (some n)
def ordLay : List AO := [.cells [.sym .u8 0, .sym .u8 2, .sym .u8 4, .sym .u8 6, .sym .u8 8, .sym .u8 10] 56 false,
  .cells [vI 4, vI 190, vI 8, vI 100, vI 1000, vP 3, vP 4, vP 5, vP 6, vI 1, vN, vQ 6, vQ 114, vQ 0, vQ 0, vQ 0, vQ 0] 91 false,
  .cells [.bool false, .bool false, .bool false, .bool false, .bool false, .bool false] 57 false,
  .cells [vI 4, vI 190, vI 8, vI 100, vI 1000, vP 7, .slc (some (8, 0)) 6 (.upto 6 6), vM 9, vP 10, vP 11, vP 12, vP 13, vI 1, vH 6] 131 false,
  .cells [vI 4, vI 190, vI 8, vI 100, vI 1000, vP 14, vP 15, vP 16, vP 17, vQ 0, vQ 0] 142 false,
  .cells [.slc (some (18, 0)) 6 (.upto 1 6)] 144 false,
  .cells [vN] 144 false,
  .cells fieldCells 177 false,
  .cells [vW 10, vI 1, vN, vI 2, vI 1, vI 90, vW 20, vI 1, vN, vI 2, vI 1, vI 90, vW 30, vI 1, vN, vI 2, vI 1, vI 90, vW 40, vI 1, vN, vI 2, vI 1, vI 90, vW 50, vI 1, vN, vI 2, vI 1, vI 90, vW 60, vI 1, vN, vI 2, vI 1, vI 90] 31 true,
  .map [⟨vW 10, .slc (some (19, 0)) 2 (.upto 1 2), 0⟩, ⟨vW 20, .slc (some (20, 0)) 2 (.upto 1 2), 1⟩, ⟨vW 30, .slc (some (21, 0)) 2 (.upto 1 2), 2⟩, ⟨vW 40, .slc (some (22, 0)) 2 (.upto 1 2), 3⟩, ⟨vW 50, .slc (some (23, 0)) 2 (.upto 1 2), 4⟩, ⟨vW 60, .slc (some (24, 0)) 2 (.upto 1 2), 5⟩] 6,
  .cells [vN] 181 false,
  .cells [vM 25] 184 false,
  .cells [vQ 0, .bool false] 186 false,
  .cells [vI 0, .bool false] 188 false,
  .cells [vP 26, vI 8, vI 100, vI 4, vM 27] 191 false,
  .cells [.slc (some (28, 0)) 6 (.upto 6 6), vN] 194 false,
  .cells [vP 29, vM 30, vQ 0, .bool false, vQ 0, vQ 0] 199 false,
  .cells [vH 0, .bool false, vI 0] 201 false,
  .cells [.slc (some (31, 0)) 19 (.upto 1 19), .slc (some (32, 0)) 19 (.upto 1 19), .slc (some (33, 0)) 19 (.upto 1 19), .slc (some (34, 0)) 19 (.upto 1 19), .slc (some (35, 0)) 19 (.upto 1 19), .slc (some (36, 0)) 19 (.upto 1 19)] 37 true,
  .cells [vB 0, vB 9] 5 true,
  .cells [vB 1, vB 9] 5 true,
  .cells [vB 2, vB 9] 5 true,
  .cells [vB 3, vB 9] 5 true,
  .cells [vB 4, vB 9] 5 true,
  .cells [vB 5, vB 9] 5 true,
  .map [⟨vW 10, .agg [vI 1, vI 65], 0⟩, ⟨vW 20, .agg [vI 1, vI 65], 1⟩, ⟨vW 30, .agg [vI 1, vI 65], 2⟩, ⟨vW 40, .agg [vI 1, vI 65], 3⟩, ⟨vW 50, .agg [vI 1, vI 65], 4⟩, ⟨vW 60, .agg [vI 1, vI 65], 5⟩] 6,
  .cells fieldCells 177 false,
  .map [] 0,
  .cells [vW 10, vI 1, vN, vI 2, vI 1, vI 90, vW 20, vI 1, vN, vI 2, vI 1, vI 90, vW 30, vI 1, vN, vI 2, vI 1, vI 90, vW 40, vI 1, vN, vI 2, vI 1, vI 90, vW 50, vI 1, vN, vI 2, vI 1, vI 90, vW 60, vI 1, vN, vI 2, vI 1, vI 90] 31 true,
  .cells [vQ 0, .bool false] 267 false,
  .map [] 0,
  .cells [vB 1, vB 0, vB 0, vB 0, vB 1, vB 0, vB 0, vB 0, vB 10, vB 0, vB 0, vB 0, vB 9, vB 0, vB 0, vB 222, vB 22, vB 49, vB 243] 5 true,
  .cells [vB 1, vB 0, vB 1, vB 0, vB 1, vB 0, vB 0, vB 0, vB 20, vB 0, vB 0, vB 1, vB 9, vB 0, vB 0, vB 216, vB 166, vB 28, vB 186] 5 true,
  .cells [vB 1, vB 0, vB 2, vB 0, vB 1, vB 0, vB 0, vB 0, vB 30, vB 0, vB 0, vB 2, vB 9, vB 0, vB 0, vB 104, vB 107, vB 226, vB 168] 5 true,
  .cells [vB 1, vB 0, vB 3, vB 0, vB 1, vB 0, vB 0, vB 0, vB 40, vB 0, vB 0, vB 3, vB 9, vB 0, vB 0, vB 213, vB 198, vB 70, vB 40] 5 true,
  .cells [vB 1, vB 0, vB 4, vB 0, vB 1, vB 0, vB 0, vB 0, vB 50, vB 0, vB 0, vB 4, vB 9, vB 0, vB 0, vB 80, vB 94, vB 125, vB 62] 5 true,
  .cells [vB 1, vB 0, vB 5, vB 0, vB 1, vB 0, vB 0, vB 0, vB 60, vB 0, vB 0, vB 5, vB 9, vB 0, vB 0, vB 176, vB 156, vB 167, vB 187] 5 true]
def ordTm : List (Nat × AV) := [(1, vP 0), (3, vP 1), (7, vP 2), (8, vI 0), (9, vI 0)]
/-- up to the loop -/
noncomputable def ordPre : Bool :=
  atNorm (nat_lit 165) (at6 ordP0 (tmOf [(0, .agg box6)] .leaf) (ofObjs [] 0)) (fun t aw => atNorm (nat_lit 165) (at6A ordP1 t aw) (fun t aw => atNorm (nat_lit 165) (at6 ordP2 t aw) (fun t aw => atNorm (nat_lit 165) (at6 ordP3 t aw) (fun t aw => atNorm (nat_lit 165) (at6 ordP4 t aw) (fun t aw => atNorm (nat_lit 165) (at6 ordP5 t aw) (fun t aw => atNorm (nat_lit 165) (at6 ordP6 t aw) (fun t aw => atNorm (nat_lit 165) (at6 ordP7 t aw) (fun t aw => atNorm (nat_lit 165) (at6 ordI9 t aw) (fun t aw => told (lenA ordLay) ordLay ordTm t aw)))))))))
noncomputable def exAt (pre : List Nat) : Bool := ex (nat_lit 6) pre (nat_lit 0) (tmOf ordTm .leaf) (ofObjs ordLay (lenA ordLay))
end Go.Proofs.YtbilacojhmohmaaGreat.Ae
