/- The code of TopGone in pieces; the six frames are handed in, run in the kernel. TopGone: the ten ticks, run in the kernel. No condition. -/
import Derived.Test.YtbilacojhmohmaaGreatBeMemo
namespace Go.Proofs.YtbilacojhmohmaaGreat.Ae
open Go
set_option linter.unusedVariables false
set_option linter.unusedSimpArgs false
def gonP0 : CC := (.region [.op (some 3) none (.box 56 (.t 1)), .op (some 4) none (.mv (.c (.bool false)))])
def gonP1 : CC := (.seq (.region [.call (some 25) none 9 [], .op (some 26) none (.bnot (.t 25))])
 (.cond (.t 26) (.seq (.region [.op (some 4) none (.mv (.c (.bool false)))])
 .ret) .skip))
def gonP2 : CC := (.region [.op (some 28) none (.build [(.int .i64 (.ofNat 0)), (.int .i64 (.ofNat 0)), (.int .i64 (.ofNat 0)), (.int .i64 (.ofNat 0)), (.int .i64 (.ofNat 0))] [(0, 1, (.c (.int .i64 (.ofNat 4)))), (1, 1, (.c (.int .i64 (.ofNat 190)))), (2, 1, (.c (.int .i64 (.ofNat 8)))), (3, 1, (.c (.int .i64 (.ofNat 200)))), (4, 1, (.c (.int .i64 (.ofNat 1000))))]), .call (some 29) none 10 [(.t 28)], .op (some 27) none (.mv (.t 29)), .op (some 30) none (.ext 0 (.t 27)), .op (some 31) none (.ext 1 (.t 27)), .op (some 5) none (.mv (.t 30)), .op (some 6) none (.mv (.t 31))])
def gonP3 : CC := (.seq (.region [.op (some 32) none (.mv (.t 6)), .op (some 33) none (.bnot (.t 32)), .op (some 34) none (.mv (.t 33)), .op (some 35) (some (34, false)) (.mv (.t 5)), .op (some 36) (some (34, false)) (.nileq 0 false (.t 35)), .op (some 37) none (.pick (.t 34) (.c (.bool true)) (.t 36))])
 (.cond (.t 37) (.seq (.region [.op (some 4) none (.mv (.c (.bool false)))])
 .ret) .skip))
def gonGA : CC := (.region [.op (some 38) none (.mv (.t 0)), .op (some 39) none (.bin .rem false (.t 38) (.c (.int .u8 (.ofNat 6)))), .op (some 40) none (.conv .i64 (.t 39)), .op (some 7) none (.mv (.t 40))])
def gonP5 : CC := (.region [.op (some 8) none (.mv (.c (.slc none 0 (.known 0))))])
def gonI9 : CC := (.region [.op (some 9) none (.mv (.c (.int .i64 (.ofNat 0))))])
def gonT : CC := (.seq (.region [.op (some 41) none (.mv (.t 9)), .op (some 42) none (.bin .lss false (.t 41) (.c (.int .i64 (.ofNat 6))))])
 (.cond (.t 42) .skip (.exit 0)))
def gonI : CC := (.region [.op (some 43) none (.mv (.t 9)), .op (some 44) none (.bin .add false (.t 43) (.c (.int .i64 (.ofNat 1)))), .op (some 9) none (.mv (.t 44))])
def gonR6 : CC := (.region [.op (some 45) none (.mv (.t 9)), .op (some 46) none (.bin .add false (.t 45) (.c (.int .i64 (.ofNat 1)))), .op (some 47) none (.conv .u32 (.t 46)), .op (some 48) none (.build [(.int .u32 (.ofNat 0)), (.int .i64 (.ofNat 0)), (.slc none 0 (.known 0)), (.int .i64 (.ofNat 0)), (.int .i64 (.ofNat 0)), (.int .i64 (.ofNat 0))] [(0, 1, (.t 47)), (1, 1, (.c (.int .i64 (.ofNat 1)))), (3, 1, (.c (.int .i64 (.ofNat 3)))), (4, 1, (.c (.int .i64 (.ofNat 5)))), (5, 1, (.c (.int .i64 (.ofNat 10))))]), .op (some 10) none (.alloc [(.int .u32 (.ofNat 0)), (.int .i64 (.ofNat 0)), (.slc none 0 (.known 0)), (.int .i64 (.ofNat 0)), (.int .i64 (.ofNat 0)), (.int .i64 (.ofNat 0))] 31), .op none none (.store 6 (.t 10) (.t 48))])
def gonI11 : CC := (.region [.op (some 11) none (.mv (.c (.int .i64 (.ofNat 0))))])
def gonT2 : CC := (.seq (.region [.op (some 49) none (.mv (.t 11)), .op (some 50) none (.mv (.t 9)), .op (some 51) none (.bin .lss false (.t 49) (.t 50)), .op (some 52) none (.mv (.t 51)), .op (some 53) (some (52, true)) (.off 2 (.t 10)), .op (some 54) (some (52, true)) (.load none (.t 53)), .op (some 55) (some (52, true)) (.lenS (.t 54)), .op (some 56) (some (52, true)) (.bin .lss false (.t 55) (.c (.int .i64 (.ofNat 4)))), .op (some 57) none (.pick (.t 52) (.t 56) (.c (.bool false)))])
 (.cond (.t 57) .skip (.exit 2)))
def gonI2 : CC := (.region [.op (some 58) none (.mv (.t 11)), .op (some 59) none (.bin .add false (.t 58) (.c (.int .i64 (.ofNat 1)))), .op (some 11) none (.mv (.t 59))])
def gonRB : CC := (.region [.op (some 60) none (.mv (.t 9)), .op (some 61) none (.idxA 6 1 (.t 3) (.t 60)), .op (some 62) none (.load none (.t 61)), .op (some 63) none (.mv (.t 11)), .op (some 64) none (.bin .shr true (.t 62) (.t 63)), .op (some 65) none (.bin .and false (.t 64) (.c (.int .u8 (.ofNat 1)))), .op (some 66) none (.bin .eql false (.t 65) (.c (.int .u8 (.ofNat 1))))])
def gonC : CC := (.cond (.t 66) (.region [.op (some 67) none (.off 2 (.t 10)), .op (some 68) none (.load none (.t 67)), .op (some 69) none (.mv (.t 11)), .op (some 70) none (.bin .add false (.t 69) (.c (.int .i64 (.ofNat 1)))), .op (some 71) none (.conv .u32 (.t 70)), .op (some 72) none (.mkslc 28 1 [(.int .u32 (.ofNat 0))] [(0, 1, (.t 71))]), .op (some 73) none (.append 28 1 4 (.t 68) (.t 72)), .op (some 74) none (.off 1 (.t 10)), .op none none (.store 1 (.t 74) (.c (.int .i64 (.ofNat 2)))), .op (some 75) none (.off 2 (.t 10)), .op none none (.store 1 (.t 75) (.t 73))]) .skip)
def gonS : CC := (.seq (.region [.op (some 76) none (.mv (.t 5)), .op (some 77) none (.load (some 6) (.t 10)), .op (some 78) none (.mv (.t 9)), .op (some 79) none (.conv .u8 (.t 78)), .op (some 80) none (.mkslc 5 3 [(.int .u8 (.ofNat 0)), (.int .u8 (.ofNat 0)), (.int .u8 (.ofNat 0))] [(0, 1, (.t 79)), (1, 1, (.c (.int .u8 (.ofNat 1)))), (2, 1, (.c (.int .u8 (.ofNat 2))))]), .op (some 81) none (.build [(.int .i64 (.ofNat 0)), (.int .u32 (.ofNat 0)), (.int .i64 (.ofNat 0)), (.slc none 0 (.known 0)), (.int .i64 (.ofNat 0)), (.int .i64 (.ofNat 0)), (.int .i64 (.ofNat 0)), (.slc none 0 (.known 0)), (.int .i64 (.ofNat 0)), (.int .i64 (.ofNat 0)), (.bool false), (.int .u8 (.ofNat 0))] [(0, 1, (.c (.int .i64 (.ofNat 1)))), (1, 6, (.t 77)), (7, 1, (.t 80))]), .call (some 82) none 11 [(.t 76), (.t 81)], .op (some 83) none (.part none 0 (.t 82)), .op (some 84) none (.bin .neq false (.t 83) (.c (.int .i64 (.ofNat 0))))])
 (.cond (.t 84) (.seq (.region [.op (some 4) none (.mv (.c (.bool false)))])
 .ret) .skip))
def gonA : CC := (.region [.op (some 85) none (.mv (.t 8)), .op (some 86) none (.load (some 6) (.t 10)), .op (some 87) none (.mkslc 31 1 [(.int .u32 (.ofNat 0)), (.int .i64 (.ofNat 0)), (.slc none 0 (.known 0)), (.int .i64 (.ofNat 0)), (.int .i64 (.ofNat 0)), (.int .i64 (.ofNat 0))] [(0, 6, (.t 86))]), .op (some 88) none (.append 31 6 64 (.t 85) (.t 87)), .op (some 8) none (.mv (.t 88))])
def gonP7 : CC := (.region [.op (some 12) none (.mv (.c (.slc none 0 (.known 0))))])
def gonI13 : CC := (.region [.op (some 13) none (.mv (.c (.int .i64 (.ofNat 1))))])
def gonT4 : CC := (.seq (.region [.op (some 89) none (.mv (.t 13)), .op (some 90) none (.bin .leq false (.t 89) (.c (.int .i64 (.ofNat 10))))])
 (.cond (.t 90) .skip (.exit 4)))
def gonI4 : CC := (.region [.op (some 91) none (.mv (.t 13)), .op (some 92) none (.bin .add false (.t 91) (.c (.int .i64 (.ofNat 1)))), .op (some 13) none (.mv (.t 92))])
def gonTK : CC := (.region [.op (some 93) none (.mv (.t 12)), .op (some 94) none (.mv (.t 5)), .op (some 95) none (.build [(.int .i64 (.ofNat 0)), (.int .u32 (.ofNat 0)), (.int .i64 (.ofNat 0)), (.slc none 0 (.known 0)), (.int .i64 (.ofNat 0)), (.int .i64 (.ofNat 0)), (.int .i64 (.ofNat 0)), (.slc none 0 (.known 0)), (.int .i64 (.ofNat 0)), (.int .i64 (.ofNat 0)), (.bool false), (.int .u8 (.ofNat 0))] [(0, 1, (.c (.int .i64 (.ofNat 2))))]), .call (some 96) none 11 [(.t 94), (.t 95)], .op (some 97) none (.part none 1 (.t 96)), .op (some 98) none (.append 42 4 48 (.t 93) (.t 97)), .op (some 12) none (.mv (.t 98))])
def gonQL : CC := (.region [.op (some 99) none (.mv (.t 5)), .call (some 100) none 13 [(.t 99), (.c (.bool false))], .op (some 14) none (.mv (.t 100))])
def gonT6 : CC := (.seq (.region [.op (some 101) none (.mv (.t 14)), .op (some 102) none (.bin .gtr false (.t 101) (.c (.int .i64 (.ofNat 0))))])
 (.cond (.t 102) .skip (.exit 6)))
def gonI6 : CC := (.region [.op (some 103) none (.mv (.t 14)), .op (some 104) none (.bin .sub false (.t 103) (.c (.int .i64 (.ofNat 1)))), .op (some 14) none (.mv (.t 104))])
def gonDel : CC := (.seq (.region [.op (some 106) none (.mv (.t 5)), .call (some 107) none 17 [(.t 106), (.c (.bool false)), (.c (.int .i64 (.ofNat 0)))], .op (some 105) none (.mv (.t 107)), .op (some 108) none (.ext 0 (.t 105)), .op (some 109) none (.ext 1 (.t 105)), .op (some 15) none (.mv (.t 108)), .op (some 16) none (.mv (.t 109))])
 (.seq (.region [.op (some 111) none (.mv (.t 15)), .call (some 112) none 18 [(.t 111)], .op (some 110) none (.mv (.t 112)), .op (some 113) none (.ext 0 (.t 110)), .op (some 114) none (.ext 1 (.t 110)), .op (some 17) none (.alloc [(.int .i64 (.ofNat 0)), (.int .u16 (.ofNat 0)), (.int .u16 (.ofNat 0)), (.int .u32 (.ofNat 0)), (.int .u16 (.ofNat 0)), (.slc none 0 (.known 0)), (.int .u64 (.ofNat 0)), (.int .u32 (.ofNat 0)), (.int .u32 (.ofNat 0)), (.int .u16 (.ofNat 0)), (.int .u16 (.ofNat 0)), (.int .u32 (.ofNat 0)), (.int .u16 (.ofNat 0))] 66), .op none none (.store 13 (.t 17) (.t 113)), .op (some 18) none (.mv (.t 114))])
 (.seq (.region [.op (some 19) none (.mv (.c (.int .i64 (.ofNat 3))))])
 (.seq (.seq (.region [.op (some 115) none (.off 1 (.t 17)), .op (some 116) none (.off 2 (.t 115)), .op (some 117) none (.load none (.t 116)), .op (some 118) none (.mv (.t 7)), .op (some 119) none (.bin .add false (.t 118) (.c (.int .i64 (.ofNat 1)))), .op (some 120) none (.conv .u32 (.t 119)), .op (some 121) none (.bin .eql false (.t 117) (.t 120))])
 (.cond (.t 121) (.region [.op (some 19) none (.mv (.c (.int .i64 (.ofNat 4))))]) .skip))
 (.region [.op (some 122) none (.mv (.t 5)), .op (some 123) none (.mv (.t 19)), .op (some 124) none (.build [(.int .i64 (.ofNat 0)), (.int .u32 (.ofNat 0)), (.int .i64 (.ofNat 0)), (.slc none 0 (.known 0)), (.int .i64 (.ofNat 0)), (.int .i64 (.ofNat 0)), (.int .i64 (.ofNat 0)), (.slc none 0 (.known 0)), (.int .i64 (.ofNat 0)), (.int .i64 (.ofNat 0)), (.bool false), (.int .u8 (.ofNat 0))] [(0, 1, (.t 123))]), .call (some 125) none 11 [(.t 122), (.t 124)]])))))
def gonP9 : CC := (.seq (.region [.op (some 126) none (.mv (.t 12)), .op (some 127) none (.lenS (.t 126)), .op (some 128) none (.bin .neq false (.t 127) (.c (.int .i64 (.ofNat 6))))])
 (.cond (.t 128) (.seq (.region [.op (some 4) none (.mv (.c (.bool false)))])
 .ret) .skip))
def gonTail : CC := (.seq (.region [.op (some 4) none (.mv (.c (.bool true)))])
 .ret)
def gonI20 : CC := (.region [.op (some 20) none (.mv (.c (.int .i64 (.ofNat 0))))])
def gonT8 : CC := (.seq (.region [.op (some 129) none (.mv (.t 20)), .op (some 130) none (.bin .lss false (.t 129) (.c (.int .i64 (.ofNat 6))))])
 (.cond (.t 130) .skip (.exit 8)))
def gonI8 : CC := (.region [.op (some 131) none (.mv (.t 20)), .op (some 132) none (.bin .add false (.t 131) (.c (.int .i64 (.ofNat 1)))), .op (some 20) none (.mv (.t 132))])
def gonW1 : CC := (.region [.op (some 21) none (.mv (.c (.int .i64 (.ofNat 1))))])
def gonW2 : CC := (.seq (.region [.op (some 133) none (.mv (.t 20)), .op (some 134) none (.mv (.t 7)), .op (some 135) none (.bin .eql false (.t 133) (.t 134))])
 (.cond (.t 135) (.region [.op (some 21) none (.mv (.c (.int .i64 (.ofNat 2))))]) .skip))
def gonAB : CC := (.region [.op (some 136) none (.mv (.t 8)), .op (some 137) none (.mv (.t 8)), .op (some 138) none (.mv (.t 20)), .op (some 139) none (.idxS 6 (.t 137) (.t 138)), .op (some 140) none (.off 0 (.t 139)), .op (some 141) none (.load none (.t 140)), .call (some 142) none 19 [(.t 136), (.t 141)], .op (some 22) none (.mv (.t 142))])
def gonI23 : CC := (.region [.op (some 23) none (.mv (.c (.int .i64 (.ofNat 0))))])
def gonB10 : CC := (.seq (.seq (.region [.op (some 143) none (.mv (.t 23)), .op (some 144) none (.mv (.t 22)), .op (some 145) none (.lenS (.t 144)), .op (some 146) none (.bin .lss false (.t 143) (.t 145))])
 (.cond (.t 146) .skip (.exit 10)))
 (.seq (.block 11 (.seq (.region [.op (some 149) none (.mv (.t 22)), .op (some 150) none (.mv (.t 23)), .op (some 151) none (.idxS 1 (.t 149) (.t 150)), .op (some 152) none (.load none (.t 151)), .op (some 153) none (.mv (.t 7)), .op (some 154) none (.bin .add false (.t 153) (.c (.int .i64 (.ofNat 1)))), .op (some 155) none (.conv .u32 (.t 154)), .op (some 156) none (.bin .eql false (.t 152) (.t 155))])
 (.cond (.t 156) (.region [.op (some 21) none (.mv (.c (.int .i64 (.ofNat 2))))]) .skip)))
 (.region [.op (some 147) none (.mv (.t 23)), .op (some 148) none (.bin .add false (.t 147) (.c (.int .i64 (.ofNat 1)))), .op (some 23) none (.mv (.t 148))])))
def gonCk : CC := (.seq (.region [.op (some 24) none (.mv (.c (.int .i64 (.ofNat 5))))])
 (.seq (.seq (.region [.op (some 157) none (.mv (.t 20)), .op (some 158) none (.mv (.t 7)), .op (some 159) none (.bin .geq false (.t 157) (.t 158))])
 (.cond (.t 159) (.region [.op (some 24) none (.mv (.c (.int .i64 (.ofNat 10))))]) .skip))
 (.seq (.region [.op (some 160) none (.mv (.t 12)), .op (some 161) none (.mv (.t 20)), .op (some 162) none (.idxS 4 (.t 160) (.t 161)), .op (some 163) none (.off 1 (.t 162)), .op (some 164) none (.load none (.t 163)), .op (some 165) none (.mv (.t 20)), .op (some 166) none (.bin .add false (.t 165) (.c (.int .i64 (.ofNat 1)))), .op (some 167) none (.conv .u32 (.t 166)), .op (some 168) none (.bin .neq false (.t 164) (.t 167)), .op (some 169) none (.mv (.t 168)), .op (some 170) (some (169, false)) (.mv (.t 12)), .op (some 171) (some (169, false)) (.mv (.t 20)), .op (some 172) (some (169, false)) (.idxS 4 (.t 170) (.t 171)), .op (some 173) (some (169, false)) (.off 0 (.t 172)), .op (some 174) (some (169, false)) (.load none (.t 173)), .op (some 175) (some (169, false)) (.mv (.t 21)), .op (some 176) (some (169, false)) (.bin .neq false (.t 174) (.t 175)), .op (some 177) none (.pick (.t 169) (.c (.bool true)) (.t 176)), .op (some 178) none (.mv (.t 177)), .op (some 179) (some (178, false)) (.mv (.t 12)), .op (some 180) (some (178, false)) (.mv (.t 20)), .op (some 181) (some (178, false)) (.idxS 4 (.t 179) (.t 180)), .op (some 182) (some (178, false)) (.off 2 (.t 181)), .op (some 183) (some (178, false)) (.load none (.t 182)), .op (some 184) (some (178, false)) (.mv (.t 24)), .op (some 185) (some (178, false)) (.bin .neq false (.t 183) (.t 184)), .op (some 186) none (.pick (.t 178) (.c (.bool true)) (.t 185))])
 (.cond (.t 186) (.seq (.region [.op (some 4) none (.mv (.c (.bool false)))])
 .ret) .skip))))
def gonB2 : CC := .seq gonT2 (.seq (.block 3 (.seq gonRB gonC)) gonI2)
def gonIn : CC := .seq gonR6 (.seq (.seq gonI11 (.block 2 (.loop gonB2))) (.seq gonS gonA))
def gonBody : CC := .seq gonT (.seq (.block 1 gonIn) gonI)
def gonB6 : CC := .seq gonT6 (.seq (.block 7 gonDel) gonI6)
def gonB4 : CC := .seq gonT4 (.seq (.block 5 (.seq gonTK (.seq gonQL (.block 6 (.loop gonB6))))) gonI4)
def gonB8 : CC := .seq gonT8 (.seq (.block 9 (.seq gonW1 (.seq gonW2 (.seq gonAB (.seq (.seq gonI23 (.block 10 (.loop gonB10))) gonCk))))) gonI8)
def gonAll2 : CC := .seq gonP7 (.seq (.seq gonI13 (.block 4 (.loop gonB4))) (.seq gonP9 (.seq (.seq gonI20 (.block 8 (.loop gonB8))) gonTail)))
def gonAll : CC := .seq gonP0 (.seq gonP1 (.seq gonP2 (.seq gonP3 (.seq gonGA (.seq gonP5 (.seq (.seq gonI9 (.block 0 (.loop gonBody))) gonAll2))))))
theorem gon_code : ∃ c, Tryz.f7.body = some c ∧ cCode Tryz.prog (cDraw Tryz.prog) c = some gonAll := ⟨_, rfl, by kernel_rfl⟩

noncomputable def at7A (c : CC) (t : Tr AV) (aw : AW) : Option Out := kCode cTop c (nat_lit 1000) t (nat_lit 187) [] aw
noncomputable def at7 (c : CC) (t : Tr AV) (aw : AW) : Option Out := kCode cOrd c (nat_lit 1000) t (nat_lit 187) [] aw
noncomputable def atExit (id n0 : Nat) (r : Option Out) (f : Tr AV → AW → Bool) : Bool :=
  Option.rec (motive := fun _ => Bool) false (fun o => Out.rec (motive := fun _ => Bool) (fun x act aw => AX.rec (motive := fun _ => Bool) false (fun j => bb2 (Nat.beq j id) (AAct.rec (motive := fun _ => Bool) (fun t n ds => List.rec (motive := fun _ => Bool) (bb2 (Nat.beq n n0) (f t aw) false) (fun _ _ _ => false) ds) act) false) false (fun _ => false) x) o) r
theorem atExit_ok {id n0 : Nat} {r : Option Out} {f : Tr AV → AW → Bool} (h : atExit id n0 r f = true) : ∃ t aw, r = some ⟨.exit id, ⟨t, n0, []⟩, aw⟩ ∧ f t aw = true := by
  cases r with
  | none => cases h
  | some o =>
    obtain ⟨x, ⟨t, n, ds⟩, aw⟩ := o
    cases x with
    | norm => cases h
    | exit j =>
      have h : bb2 (Nat.beq j id) (List.rec (motive := fun _ => Bool) (bb2 (Nat.beq n n0) (f t aw) false) (fun _ _ _ => false) ds) false = true := h
      rw [bb2_eq] at h
      cases hj : Nat.beq j id <;> simp only [hj, cond_true, cond_false, Bool.false_eq_true] at h
      cases ds with
      | nil =>
        have h : bb2 (Nat.beq n n0) (f t aw) false = true := h
        rw [bb2_eq] at h
        cases hn : Nat.beq n n0 <;> simp only [hn, cond_true, cond_false, Bool.false_eq_true] at h
        rw [Nat.eq_of_beq_eq_true hn, Nat.eq_of_beq_eq_true hj]
        exact ⟨t, aw, rfl, h⟩
      | cons d l => cases h
    | ret => cases h
    | panic _ => cases h
/-- it goes on, or it is left -/
noncomputable def atEither (id n0 : Nat) (r : Option Out) (f g : Tr AV → AW → Bool) : Bool :=
  Option.rec (motive := fun _ => Bool) false (fun o => Out.rec (motive := fun _ => Bool) (fun x act aw => AAct.rec (motive := fun _ => Bool) (fun t n ds => List.rec (motive := fun _ => Bool) (bb2 (Nat.beq n n0) (AX.rec (motive := fun _ => Bool) (f t aw) (fun j => bb2 (Nat.beq j id) (g t aw) false) false (fun _ => false) x) false) (fun _ _ _ => false) ds) act) o) r
theorem atEither_ok {id n0 : Nat} {r : Option Out} {f g : Tr AV → AW → Bool} (h : atEither id n0 r f g = true) : (∃ t aw, r = some ⟨.norm, ⟨t, n0, []⟩, aw⟩ ∧ f t aw = true) ∨ ∃ t aw, r = some ⟨.exit id, ⟨t, n0, []⟩, aw⟩ ∧ g t aw = true := by
  cases r with
  | none => cases h
  | some o =>
    obtain ⟨x, ⟨t, n, ds⟩, aw⟩ := o
    cases ds with
    | cons d l => cases h
    | nil =>
      have h : bb2 (Nat.beq n n0) (AX.rec (motive := fun _ => Bool) (f t aw) (fun j => bb2 (Nat.beq j id) (g t aw) false) false (fun _ => false) x) false = true := h
      rw [bb2_eq] at h
      cases hn : Nat.beq n n0 <;> simp only [hn, cond_true, cond_false, Bool.false_eq_true] at h
      rw [Nat.eq_of_beq_eq_true hn]
      cases x with
      | norm => exact .inl ⟨t, aw, rfl, h⟩
      | exit j =>
        have h : bb2 (Nat.beq j id) (g t aw) false = true := h
        rw [bb2_eq] at h
        cases hj : Nat.beq j id <;> simp only [hj, cond_true, cond_false, Bool.false_eq_true] at h
        rw [Nat.eq_of_beq_eq_true hj]
        exact .inr ⟨t, aw, rfl, h⟩
      | ret => cases h
      | panic _ => cases h
def box6 : List AV := [.sym .u8 0, .sym .u8 2, .sym .u8 4, .sym .u8 6, .sym .u8 8, .sym .u8 10]
noncomputable def isI64 : Option AV → Nat → Bool
  | some (.int .i64 (.ofNat m)), n => Nat.beq m n
  | _, _ => false
noncomputable def isBoxP : Option AV → Bool
  | some (.ptr (some (0, 0))) => true
  | _ => false
noncomputable def isBox : Option AO → Bool
  | some (.cells [.sym .u8 a, .sym .u8 b, .sym .u8 c, .sym .u8 d, .sym .u8 e, .sym .u8 f] _ _) => bb2 (Nat.beq a 0) (bb2 (Nat.beq b 2) (bb2 (Nat.beq c 4) (bb2 (Nat.beq d 6) (bb2 (Nat.beq e 8) (Nat.beq f 10) false) false) false) false) false
  | _ => false
/-- does the frame, the memory stand so, that bit kk of number i is read? -/
noncomputable def rbOK (i kk : Nat) (t : Tr AV) (aw : AW) : Bool := bb2 (isI64 (trGet t (nat_lit 9)) i) (bb2 (isI64 (trGet t (nat_lit 11)) kk) (bb2 (isBoxP (trGet t (nat_lit 3))) (isBox (awGet aw (nat_lit 0))) false) false) false
/-- the frame behind it -/
noncomputable def rbPut (b : Bool) (t : Tr AV) : Tr AV := trSet (trSet (trSet (trSet (trSet (trSet (trSet t (nat_lit 60) .undef) (nat_lit 61) .undef) (nat_lit 62) .undef) (nat_lit 63) .undef) (nat_lit 64) .undef) (nat_lit 65) .undef) (nat_lit 66) (.bool b)

/-! ### the states between the frames: of each frame that is known, does it hang on some? -/
abbrev vI (n : Nat) : AV := .int .i64 (.ofNat n)
abbrev vB (n : Nat) : AV := .int .u8 (.ofNat n)
abbrev vW (n : Nat) : AV := .int .u32 (.ofNat n)
abbrev vQ (n : Nat) : AV := .int .u64 (.ofNat n)
abbrev vH (n : Nat) : AV := .int .u16 (.ofNat n)
abbrev vP (n : Nat) : AV := .ptr (some (n, 0))
abbrev vM (n : Nat) : AV := .map (some n)
abbrev vN : AV := .slc none 0 (.known 0)
noncomputable def frL (bs : List Bool) : Nat → List AV := List.rec (motive := fun _ => Nat → List AV) (fun _ => []) (fun b _ ih q => vW (Nat.succ q) :: vI (bb2 b (nat_lit 2) (nat_lit 1)) :: bb2 b (.sl q) vN :: vI 3 :: vI 5 :: vI 10 :: ih (Nat.succ q)) bs
noncomputable def itL (bs : List Bool) : Nat → List AV := List.rec (motive := fun _ => Nat → List AV) (fun _ => []) (fun b _ ih q => vW (Nat.succ q) :: vI 0 :: vI (bb2 b (nat_lit 1) (nat_lit 0)) :: vI 19 :: vI 10 :: ih (Nat.succ q)) bs
noncomputable def txL (bs : List Bool) : Nat → List AO → List AO := List.rec (motive := fun _ => Nat → List AO → List AO) (fun _ l => l) (fun b _ ih q l => .cells [vB q, vB 1, vB 2] 5 true :: ih (Nat.succ q) l) bs
noncomputable def tmL (bs : List Bool) : Nat → List AEnt := List.rec (motive := fun _ => Nat → List AEnt) (fun _ => []) (fun b _ ih q => ⟨vW (Nat.succ q), .slc (some (Nat.add (nat_lit 18) q, 0)) 3 (.upto 1 3), q⟩ :: ih (Nat.succ q)) bs
noncomputable def leL (bs : List Bool) : Nat → List AEnt := List.rec (motive := fun _ => Nat → List AEnt) (fun _ => []) (fun b _ ih q => ⟨vW (Nat.succ q), .agg [vI 1, vI 65], q⟩ :: ih (Nat.succ q)) bs
noncomputable def cntB (bs : List Bool) : Nat := List.rec (motive := fun _ => Nat) (nat_lit 0) (fun _ _ ih => Nat.succ ih) bs
noncomputable def gSt1 (bs : List Bool) (k : Nat) : List AO := [.cells box6 56 false,
  .cells [vI 4, vI 190, vI 8, vI 200, vI 1000, vP 3, vP 4, vP 5, vP 6, vI 0, vN, vQ 0, vQ 0, vQ 0, vQ 0, vQ 0, vQ 0] 91 false,
  .cells (frL bs 0) 31 true,
  .cells [vI 4, vI 190, vI 8, vI 200, vI 1000, vP 7, .slc (some (8, 0)) k (.upto 6 k), vM 9, vP 10, vP 11, vP 12, vP 13, vI 0, vH 0] 131 false,
  .cells [vI 4, vI 190, vI 8, vI 200, vI 1000, vP 14, vP 15, vP 16, vP 17, vQ 0, vQ 0] 142 false,
  .cells [vN] 144 false,
  .cells [vN] 144 false,
  .cells fieldCells 177 false,
  .cells (frL bs 0) 31 true,
  .map (tmL bs 0) k,
  .cells [.slc (some (Nat.add 18 k, 0)) k (.upto 5 k)] 181 false,
  .cells [vM (Nat.add 19 k)] 184 false,
  .cells [vQ 0, .bool false] 186 false,
  .cells [vI 0, .bool false] 188 false,
  .cells [vP (Nat.add 20 k), vI 8, vI 200, vI 4, vM (Nat.add 21 k)] 191 false,
  .cells [.slc (some (Nat.add 22 k, 0)) k (.upto 6 k), vN] 194 false,
  .cells [vP (Nat.add 23 k), vM (Nat.add 24 k), vQ 0, .bool false, vQ 0, vQ 0] 199 false,
  .cells [vH 0, .bool false, vI 0] 201 false] ++
  txL bs 0 [.cells (itL bs 0) 217 true,
  .map (leL bs 0) k,
  .cells fieldCells 177 false,
  .map [] 0,
  .cells (frL bs 0) 31 true,
  .cells [vQ 0, .bool false] 267 false,
  .map [] 0]
noncomputable def gSt0 : List AO := [.cells box6 56 false,
  .cells [vI 4, vI 190, vI 8, vI 200, vI 1000, vP 2, vP 3, vP 4, vP 5, vI 0, vN, vQ 0, vQ 0, vQ 0, vQ 0, vQ 0, vQ 0] 91 false,
  .cells [vI 4, vI 190, vI 8, vI 200, vI 1000, vP 6, vN, vM 7, vP 8, vP 9, vP 10, vP 11, vI 0, vH 0] 131 false,
  .cells [vI 4, vI 190, vI 8, vI 200, vI 1000, vP 12, vP 13, vP 14, vP 15, vQ 0, vQ 0] 142 false,
  .cells [vN] 144 false,
  .cells [vN] 144 false,
  .cells fieldCells 177 false,
  .map [] 0,
  .cells [vN] 181 false,
  .cells [vM 16] 184 false,
  .cells [vQ 0, .bool false] 186 false,
  .cells [vI 0, .bool false] 188 false,
  .cells [vP 17, vI 8, vI 200, vI 4, vM 18] 191 false,
  .cells [vN, vN] 194 false,
  .cells [vP 19, vM 20, vQ 0, .bool false, vQ 0, vQ 0] 199 false,
  .cells [vH 0, .bool false, vI 0] 201 false,
  .map [] 0,
  .cells fieldCells 177 false,
  .map [] 0,
  .cells [vQ 0, .bool false] 267 false,
  .map [] 0]
noncomputable def gTm0 : List (Nat × AV) := [(3, vP 0), (5, vP 1), (7, .sym .i64 12), (8, vN), (9, vI 0)]
noncomputable def gTm1 (k : Nat) : List (Nat × AV) := [(3, vP 0), (5, vP 1), (7, .sym .i64 12), (8, .slc (some (2, 0)) k (.upto 6 k)), (9, vI k)]
noncomputable def gSt (bs : List Bool) : List AO := List.rec (motive := fun _ => List AO) gSt0 (fun _ _ _ => gSt1 bs (cntB bs)) bs
noncomputable def gTm (bs : List Bool) : List (Nat × AV) := List.rec (motive := fun _ => List (Nat × AV)) gTm0 (fun _ _ _ => gTm1 (cntB bs)) bs

/-! ### a frame is handed in -/
noncomputable def ptrOf : Option AV → Nat
  | some (.ptr (some (q, 0))) => q
  | _ => 0
noncomputable def slcOf : Option AV → Nat
  | some (.slc (some (q, 0)) _ _) => q
  | _ => 0
noncomputable def cellOf (aw : AW) (q o : Nat) : Option AV := match awGet aw q with
  | some (.cells l _ _) => nthF l o
  | _ => none
noncomputable def ob1 {α : Type} (x : Option α) (f : α → Bool) : Bool := Option.rec (motive := fun _ => Bool) false f x
/-- the list is forgotten where it lies: in the law's frames, the sender's, the gate's -/
noncomputable def forg3 (k : Nat) (R : List Nat) (t : Tr AV) (aw : AW) (f : AW → Bool) : Bool :=
  (fun s o => ob1 (forg (slcOf (trGet t (nat_lit 8))) o k R aw) fun aw => ob1 (forg (slcOf (cellOf aw (ptrOf (cellOf aw s (nat_lit 5))) (nat_lit 6))) o k R aw) fun aw =>
    ob1 (forg (slcOf (cellOf aw (ptrOf (cellOf aw (ptrOf (cellOf aw s (nat_lit 6))) (nat_lit 6))) (nat_lit 0))) o k R aw) f) (ptrOf (trGet t (nat_lit 5))) (Nat.add (Nat.mul (nat_lit 6) k) (nat_lit 2))
noncomputable def appB (bs : List Bool) (b : Bool) : List Bool := List.rec (motive := fun _ => List Bool) [b] (fun a _ ih => a :: ih) bs
noncomputable def snocN (bs : List Nat) (b : Nat) : List Nat := List.rec (motive := fun _ => List Nat) [b] (fun a _ ih => a :: ih) bs
noncomputable def someN (R : List Nat) : Bool := List.rec (motive := fun _ => Bool) false (fun _ _ _ => true) R
noncomputable def fin7 (k : Nat) (bs : List Bool) (R : List Nat) (t : Tr AV) (aw : AW) : Bool :=
  atNorm (nat_lit 187) (at7 gonS t aw) fun t aw => atNorm (nat_lit 187) (at7 gonA t aw) fun t aw =>
    (fun g => bb2 (someN R) (forg3 k R t aw g) (g aw)) fun aw => atNorm (nat_lit 187) (at7 gonI t aw) fun t aw =>
      (fun bs => told (lenA (gSt bs)) (gSt bs) (gTm bs) t aw) (appB bs (someN R))
/-- no more is read -/
noncomputable def fullB (k kk : Nat) (R : List Nat) : Bool := bb2 (Nat.beq kk k) true (Nat.beq (cntN R) (nat_lit 4))
/-- d: so many bits may still be read; pre: the first of them are so -/
noncomputable def bitT (k : Nat) (bs : List Bool) (d : Nat) : Nat → List Nat → List Bool → Tr AV → AW → Bool :=
  Nat.rec (motive := fun _ => Nat → List Nat → List Bool → Tr AV → AW → Bool)
    (fun _ R _ t aw => atExit (nat_lit 2) (nat_lit 187) (at7 gonT2 t aw) (fin7 k bs R))
    (fun _ ih kk R pre t aw => atEither (nat_lit 2) (nat_lit 187) (at7 gonT2 t aw) (fun t aw => bb2 (fullB k kk R) false (bb2 (rbOK k kk t aw)
      ((fun go : List Bool → Bool → Bool => List.rec (motive := fun _ => Bool) (bb2 (go [] true) (go [] false) false) (fun b l _ => go l b) pre)
        (fun l b => atNorm (nat_lit 187) (at7 gonC (rbPut b t) aw) fun t aw => atNorm (nat_lit 187) (at7 gonI2 t aw) fun t aw => ih (Nat.succ kk) (bb2 b (snocN R (Nat.succ kk)) R) l t aw)) false))
      (fun t aw => bb2 (fullB k kk R) (fin7 k bs R t aw) false)) d
/-- at that state the next frame is handed in; the first bits are so -/
noncomputable def subT (bs : List Bool) (pre : List Bool) : Bool :=
  atNorm (nat_lit 187) (at7 gonT (tmOf (gTm bs) .leaf) (ofObjs (gSt bs) (lenA (gSt bs)))) fun t aw => atNorm (nat_lit 187) (at7 gonR6 t aw) fun t aw => atNorm (nat_lit 187) (at7 gonI11 t aw) fun t aw =>
    bitT (cntB bs) bs (cntB bs) (nat_lit 0) [] pre t aw
end Go.Proofs.YtbilacojhmohmaaGreat.Ae

namespace Go.Proofs.YtbilacojhmohmaaGreat.Ae
open Go
set_option linter.unusedVariables false
set_option linter.unusedSimpArgs false
/-- all frames are handed in; who is lost is known -/
noncomputable def gTmG (g : Nat) : List (Nat × AV) := [(3, vP 0), (5, vP 1), (7, vI g), (8, .slc (some (2, 0)) 6 (.upto 6 6)), (9, vI 6)]
noncomputable def rounds (n : Nat) (f : Tr AV → AW → Bool) : Tr AV → AW → Bool := Nat.rec (motive := fun _ => Tr AV → AW → Bool) f (fun _ ih t aw => atNorm (nat_lit 187) (at7 gonB4 t aw) ih) n
/-- behind the last tick: of what kind is each event? -/
noncomputable def trL (ks : List Nat) (g : Nat) : Nat → List AV := List.rec (motive := fun _ => Nat → List AV) (fun _ => []) (fun k _ ih q => vI k :: vW (Nat.succ q) :: vI (bb2 (Nat.ble (Nat.succ q) g) (nat_lit 5) (nat_lit 10)) :: .undef :: ih (Nat.succ q)) ks
noncomputable def fSt (bs : List Bool) (ks : List Nat) (g : Nat) : List AO := [.cells (frL bs 0) 31 true, .cells (trL ks g 0) 42 true]
noncomputable def fTm (g : Nat) : List (Nat × AV) := [(7, vI g), (8, .slc (some (0, 0)) 6 (.upto 6 6)), (12, .slc (some (1, 0)) 6 (.upto 4 6)), (20, vI 0)]
noncomputable def fin10 (bs : List Bool) (g : Nat) (t : Tr AV) (ks : List Nat) (aw : AW) : Bool :=
  atNorm (nat_lit 187) (at7 gonB4 t aw) fun t aw => atExit (nat_lit 4) (nat_lit 187) (at7 gonT4 t aw) fun t aw => atNorm (nat_lit 187) (at7 gonP9 t aw) fun t aw => atNorm (nat_lit 187) (at7 gonI20 t aw) fun t aw =>
    told (nat_lit 2) (fSt bs ks g) (fTm g) t aw
/-- where the gate's frames lie -/
noncomputable def gateRow (t : Tr AV) (aw : AW) : Nat := slcOf (cellOf aw (ptrOf (cellOf aw (ptrOf (cellOf aw (ptrOf (trGet t (nat_lit 5))) (nat_lit 6))) (nat_lit 6))) (nat_lit 0))
/-- who hangs on one that is concealed is told, both ways; pre: the first of them are so -/
noncomputable def retA (lq g : Nat) (f : List Nat → AW → Bool) (bs : List Bool) : Nat → Nat → List Nat → List Bool → AW → Bool :=
  List.rec (motive := fun _ => Nat → Nat → List Nat → List Bool → AW → Bool) (fun _ _ ks _ aw => f ks aw)
    (fun b _ ih q mask ks pre aw => bb2 (Nat.beq q g) (ih (Nat.succ q) (Nat.add mask (Nat.pow (nat_lit 2) (Nat.succ q))) (snocN ks (nat_lit 2)) pre aw)
      (bb2 (bb2 b (Nat.ble (Nat.succ g) q) false)
        ((fun go : List Bool → Bool → Bool => List.rec (motive := fun _ => Bool) (bb2 (go [] true) (go [] false) false) (fun b l _ => go l b) pre)
          (fun l b => ob1 (retok lq (Nat.add (Nat.mul (nat_lit 6) q) (nat_lit 2)) q (Nat.add (Nat.add q (bb2 b (nat_lit 16) (nat_lit 8))) (Nat.mul (nat_lit 32) mask)) aw) fun aw =>
            ih (Nat.succ q) (bb2 b (Nat.add mask (Nat.pow (nat_lit 2) (Nat.succ q))) mask) (snocN ks (bb2 b (nat_lit 2) (nat_lit 1))) l aw))
        (ih (Nat.succ q) mask (snocN ks (nat_lit 1)) pre aw))) bs
noncomputable def tickB (bs : List Bool) (g n : Nat) (f : Tr AV → AW → Bool) : Bool :=
  atExit (nat_lit 0) (nat_lit 187) (at7 gonT (tmOf (gTmG g) .leaf) (ofObjs (gSt1 bs (nat_lit 6)) (lenA (gSt1 bs (nat_lit 6))))) fun t aw => atNorm (nat_lit 187) (at7 gonP7 t aw) fun t aw => atNorm (nat_lit 187) (at7 gonI13 t aw) fun t aw => rounds n f t aw
noncomputable def tickA (bs : List Bool) (g : Nat) (pre : List Bool) : Bool :=
  tickB bs g (nat_lit 9) fun t aw => retA (gateRow t aw) g (fin10 bs g t) bs (nat_lit 0) (nat_lit 0) [] pre aw
end Go.Proofs.YtbilacojhmohmaaGreat.Ae
