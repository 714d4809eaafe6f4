/- The code of TopMost in pieces; its states. No condition. -/
import Derived.Test.YtbilacojhmohmaaGreatAeTop
namespace Go.Proofs.YtbilacojhmohmaaGreat.Ae
open Go
set_option linter.unusedVariables false
def mostP0 : CC := (.region [.op (some 4) none (.mv (.c (.bool false)))])
def mostP1 : CC := (.seq (.region [.call (some 13) none 9 [], .op (some 14) none (.bnot (.t 13))])
 (.cond (.t 14) (.seq (.region [.op (some 4) none (.mv (.c (.bool false)))])
 .ret) .skip))
def mostP2 : CC := (.region [.op (some 16) none (.build [(.int .i64 (.ofNat 0)), (.int .i64 (.ofNat 0)), (.int .i64 (.ofNat 0)), (.int .i64 (.ofNat 0)), (.int .i64 (.ofNat 0))] [(0, 1, (.c (.int .i64 (.ofNat 4)))), (1, 1, (.c (.int .i64 (.ofNat 19)))), (2, 1, (.c (.int .i64 (.ofNat 2)))), (3, 1, (.c (.int .i64 (.ofNat 8)))), (4, 1, (.c (.int .i64 (.ofNat 1000))))]), .call (some 17) none 10 [(.t 16)], .op (some 15) none (.mv (.t 17)), .op (some 18) none (.ext 0 (.t 15)), .op (some 19) none (.ext 1 (.t 15)), .op (some 5) none (.mv (.t 18)), .op (some 6) none (.mv (.t 19))])
def mostP3 : CC := (.seq (.region [.op (some 20) none (.mv (.t 6)), .op (some 21) none (.bnot (.t 20)), .op (some 22) none (.mv (.t 21)), .op (some 23) (some (22, false)) (.mv (.t 5)), .op (some 24) (some (22, false)) (.nileq 0 false (.t 23)), .op (some 25) none (.pick (.t 22) (.c (.bool true)) (.t 24))])
 (.cond (.t 25) (.seq (.region [.op (some 4) none (.mv (.c (.bool false)))])
 .ret) .skip))
def mostP4 : CC := (.region [.op (some 26) none (.mv (.t 0)), .op (some 27) none (.bin .rem false (.t 26) (.c (.int .u8 (.ofNat 110)))), .op (some 28) none (.conv .i64 (.t 27)), .op (some 7) none (.mv (.t 28))])
def mostI8 : CC := (.region [.op (some 8) none (.mv (.c (.int .i64 (.ofNat 0))))])
def mostTR : CC := (.region [.op (some 29) none (.mv (.t 8)), .op (some 30) none (.mv (.t 7)), .op (some 31) none (.bin .lss false (.t 29) (.t 30))])
def mostTC : CC := (.cond (.t 31) .skip (.exit 0))
def mostR : CC := (.seq (.block 1 (.seq (.region [.op (some 34) none (.mv (.t 8)), .op (some 35) none (.bin .add false (.t 34) (.c (.int .i64 (.ofNat 1)))), .op (some 36) none (.conv .u32 (.t 35)), .op (some 37) none (.mv (.t 8)), .op (some 38) none (.mv (.t 8)), .op (some 39) none (.bin .add false (.t 38) (.c (.int .i64 (.ofNat 2)))), .op (some 40) none (.build [(.int .u32 (.ofNat 0)), (.int .i64 (.ofNat 0)), (.slc none 0 (.known 0)), (.int .i64 (.ofNat 0)), (.int .i64 (.ofNat 0)), (.int .i64 (.ofNat 0))] [(0, 1, (.t 36)), (1, 1, (.c (.int .i64 (.ofNat 1)))), (3, 1, (.c (.int .i64 (.ofNat 2)))), (4, 1, (.t 37)), (5, 1, (.t 39))]), .op (some 9) none (.alloc [(.int .u32 (.ofNat 0)), (.int .i64 (.ofNat 0)), (.slc none 0 (.known 0)), (.int .i64 (.ofNat 0)), (.int .i64 (.ofNat 0)), (.int .i64 (.ofNat 0))] 31), .op none none (.store 6 (.t 9) (.t 40))])
 (.seq (.region [.op (some 41) none (.mv (.t 5)), .op (some 42) none (.load (some 6) (.t 9)), .op (some 43) none (.mv (.t 1)), .op (some 44) none (.mv (.t 8)), .op (some 45) none (.conv .u8 (.t 44)), .op (some 46) none (.mkslc 5 2 [(.int .u8 (.ofNat 0)), (.int .u8 (.ofNat 0))] [(0, 1, (.t 43)), (1, 1, (.t 45))]), .op (some 47) none (.build [(.int .i64 (.ofNat 0)), (.int .u32 (.ofNat 0)), (.int .i64 (.ofNat 0)), (.slc none 0 (.known 0)), (.int .i64 (.ofNat 0)), (.int .i64 (.ofNat 0)), (.int .i64 (.ofNat 0)), (.slc none 0 (.known 0)), (.int .i64 (.ofNat 0)), (.int .i64 (.ofNat 0)), (.bool false), (.int .u8 (.ofNat 0))] [(0, 1, (.c (.int .i64 (.ofNat 1)))), (1, 6, (.t 42)), (7, 1, (.t 46))]), .call (some 48) none 11 [(.t 41), (.t 47)], .op (some 49) none (.part none 0 (.t 48)), .op (some 10) none (.mv (.t 49))])
 (.seq (.seq (.region [.op (some 50) none (.mv (.t 8)), .op (some 51) none (.bin .lss false (.t 50) (.c (.int .i64 (.ofNat 100)))), .op (some 52) none (.mv (.t 51)), .op (some 53) (some (52, true)) (.mv (.t 10)), .op (some 54) (some (52, true)) (.bin .neq false (.t 53) (.c (.int .i64 (.ofNat 0)))), .op (some 55) none (.pick (.t 52) (.t 54) (.c (.bool false))), .op (some 56) none (.mv (.t 55)), .op (some 57) (some (56, false)) (.mv (.t 8)), .op (some 58) (some (56, false)) (.bin .geq false (.t 57) (.c (.int .i64 (.ofNat 100)))), .op (some 59) (some (56, false)) (.mv (.t 58)), .op (some 60) (some (59, true)) (.mv (.t 10)), .op (some 61) (some (59, true)) (.bin .neq false (.t 60) (.c (.int .i64 (.ofNat 8)))), .op (some 62) (some (56, false)) (.pick (.t 59) (.t 61) (.c (.bool false))), .op (some 63) none (.pick (.t 56) (.c (.bool true)) (.t 62))])
 (.cond (.t 63) (.seq (.region [.op (some 4) none (.mv (.c (.bool false)))])
 .ret) .skip))
 (.seq (.region [.op (some 64) none (.mv (.t 5)), .op (some 65) none (.build [(.int .i64 (.ofNat 0)), (.int .u32 (.ofNat 0)), (.int .i64 (.ofNat 0)), (.slc none 0 (.known 0)), (.int .i64 (.ofNat 0)), (.int .i64 (.ofNat 0)), (.int .i64 (.ofNat 0)), (.slc none 0 (.known 0)), (.int .i64 (.ofNat 0)), (.int .i64 (.ofNat 0)), (.bool false), (.int .u8 (.ofNat 0))] [(0, 1, (.c (.int .i64 (.ofNat 2))))]), .call (some 66) none 11 [(.t 64), (.t 65)]])
 (.region [.op (some 67) none (.mv (.t 5)), .op (some 68) none (.build [(.int .i64 (.ofNat 0)), (.int .u32 (.ofNat 0)), (.int .i64 (.ofNat 0)), (.slc none 0 (.known 0)), (.int .i64 (.ofNat 0)), (.int .i64 (.ofNat 0)), (.int .i64 (.ofNat 0)), (.slc none 0 (.known 0)), (.int .i64 (.ofNat 0)), (.int .i64 (.ofNat 0)), (.bool false), (.int .u8 (.ofNat 0))] [(0, 1, (.c (.int .i64 (.ofNat 3))))]), .call (some 69) none 11 [(.t 67), (.t 68)]]))))))
 (.region [.op (some 32) none (.mv (.t 8)), .op (some 33) none (.bin .add false (.t 32) (.c (.int .i64 (.ofNat 1)))), .op (some 8) none (.mv (.t 33))]))
def mostTail : CC := (.seq (.region [.op (some 70) none (.mv (.t 5)), .op (some 71) none (.build [(.int .i64 (.ofNat 0)), (.int .u32 (.ofNat 0)), (.int .i64 (.ofNat 0)), (.slc none 0 (.known 0)), (.int .i64 (.ofNat 0)), (.int .i64 (.ofNat 0)), (.int .i64 (.ofNat 0)), (.slc none 0 (.known 0)), (.int .i64 (.ofNat 0)), (.int .i64 (.ofNat 0)), (.bool false), (.int .u8 (.ofNat 0))] [(0, 1, (.c (.int .i64 (.ofNat 2))))]), .call (some 72) none 11 [(.t 70), (.t 71)]])
 (.seq (.region [.op (some 73) none (.mv (.t 5)), .call (some 74) none 12 [(.t 73)], .op (some 11) none (.mv (.t 74))])
 (.seq (.seq (.region [.op (some 75) none (.mv (.t 11)), .op (some 76) none (.lenS (.t 75)), .op (some 77) none (.mv (.t 7)), .op (some 78) none (.mn (.t 77) (.c (.int .i64 (.ofNat 100)))), .op (some 79) none (.bin .neq false (.t 76) (.t 78))])
 (.cond (.t 79) (.seq (.region [.op (some 4) none (.mv (.c (.bool false)))])
 .ret) .skip))
 (.seq (.seq (.region [.op (some 12) none (.mv (.c (.int .i64 (.ofNat 0))))])
 (.block 2 (.loop (.seq (.seq (.region [.op (some 80) none (.mv (.t 12)), .op (some 81) none (.mv (.t 11)), .op (some 82) none (.lenS (.t 81)), .op (some 83) none (.bin .lss false (.t 80) (.t 82))])
 (.cond (.t 83) .skip (.exit 2)))
 (.seq (.block 3 (.seq (.draw [.op (some 86) none (.mv (.t 11)), .op (some 87) none (.mv (.t 12)), .op (some 88) none (.idxS 4 (.t 86) (.t 87)), .op (some 89) none (.off 0 (.t 88)), .op (some 90) none (.load none (.t 89)), .op (some 91) none (.bin .neq false (.t 90) (.c (.int .i64 (.ofNat 1)))), .op (some 92) none (.mv (.t 91)), .op (some 93) (some (92, false)) (.mv (.t 11)), .op (some 94) (some (92, false)) (.mv (.t 12)), .op (some 95) (some (92, false)) (.idxS 4 (.t 93) (.t 94)), .op (some 96) (some (92, false)) (.off 1 (.t 95)), .op (some 97) (some (92, false)) (.load none (.t 96)), .op (some 98) (some (92, false)) (.mv (.t 12)), .op (some 99) (some (92, false)) (.bin .add false (.t 98) (.c (.int .i64 (.ofNat 1)))), .op (some 100) (some (92, false)) (.conv .u32 (.t 99)), .op (some 101) (some (92, false)) (.bin .neq false (.t 97) (.t 100)), .op (some 102) none (.pick (.t 92) (.c (.bool true)) (.t 101)), .op (some 103) none (.mv (.t 102)), .op (some 104) (some (103, false)) (.mv (.t 11)), .op (some 105) (some (103, false)) (.mv (.t 12)), .op (some 106) (some (103, false)) (.idxS 4 (.t 104) (.t 105)), .op (some 107) (some (103, false)) (.off 2 (.t 106)), .op (some 108) (some (103, false)) (.load none (.t 107)), .op (some 109) (some (103, false)) (.mv (.t 12)), .op (some 110) (some (103, false)) (.bin .add false (.t 109) (.c (.int .i64 (.ofNat 2)))), .op (some 111) (some (103, false)) (.bin .neq false (.t 108) (.t 110)), .op (some 112) none (.pick (.t 103) (.c (.bool true)) (.t 111)), .op (some 113) none (.mv (.t 112)), .op (some 114) (some (113, false)) (.mv (.t 11)), .op (some 115) (some (113, false)) (.mv (.t 12)), .op (some 116) (some (113, false)) (.idxS 4 (.t 114) (.t 115)), .op (some 117) (some (113, false)) (.off 3 (.t 116)), .op (some 118) (some (113, false)) (.load none (.t 117)), .op (some 119) (some (113, false)) (.b2s (.t 118)), .op (some 120) (some (113, false)) (.mv (.t 1)), .op (some 121) (some (113, false)) (.mv (.t 12)), .op (some 122) (some (113, false)) (.conv .u8 (.t 121)), .op (some 123) (some (113, false)) (.mkslc 5 2 [(.int .u8 (.ofNat 0)), (.int .u8 (.ofNat 0))] [(0, 1, (.t 120)), (1, 1, (.t 122))]), .chk 119 (some (113, false)) (.b2s (.t 118)), .chk 118 (some (113, false)) (.load none (.t 117)), .op (some 124) (some (113, false)) (.b2s (.t 123)), .op (some 125) (some (113, false)) (.seq true (.t 119) (.t 124)), .op (some 126) none (.pick (.t 113) (.c (.bool true)) (.t 125))] [])
 (.cond (.t 126) (.seq (.region [.op (some 4) none (.mv (.c (.bool false)))])
 .ret) .skip)))
 (.region [.op (some 84) none (.mv (.t 12)), .op (some 85) none (.bin .add false (.t 84) (.c (.int .i64 (.ofNat 1)))), .op (some 12) none (.mv (.t 85))]))))))
 (.seq (.region [.op (some 4) none (.mv (.c (.bool true)))])
 .ret)))))
def mostT : CC := .seq mostTR mostTC
def mostBody : CC := .seq mostT mostR
def mostAll : CC := .seq mostP0 (.seq mostP1 (.seq mostP2 (.seq mostP3 (.seq mostP4 (.seq (.seq mostI8 (.block 0 (.loop mostBody))) mostTail)))))
theorem most_code : ∃ c, Tryz.f3.body = some c ∧ cCode Tryz.prog (cDraw Tryz.prog) c = some mostAll := ⟨_, rfl, by kernel_rfl⟩

/-! the states -/
noncomputable def mk (f : Nat → List AV) (n : Nat) : List AV := Nat.rec (motive := fun _ => List AV → List AV) (fun acc => acc) (fun j ih acc => ih (appF (f j) acc)) n []
noncomputable def mkEn (f : Nat → AEnt) (n : Nat) : List AEnt := Nat.rec (motive := fun _ => List AEnt → List AEnt) (fun acc => acc) (fun j ih acc => ih (f j :: acc)) n []
noncomputable def mkOb (f : Nat → AO) (n : Nat) (tl : List AO) : List AO := Nat.rec (motive := fun _ => List AO → List AO) (fun acc => acc) (fun j ih acc => ih (f j :: acc)) n tl
def vI (n : Nat) : AV := .int .i64 (.ofNat n)
def vB (n : Nat) : AV := .int .u8 (.ofNat n)
def vH (n : Nat) : AV := .int .u16 (.ofNat n)
def vW (n : Nat) : AV := .int .u32 (.ofNat n)
def vQ (n : Nat) : AV := .int .u64 (.ofNat n)
def vP (n : Nat) : AV := .ptr (some (n, 0))
def vN : AV := .slc none 0 (.known 0)
def vM (n : Nat) : AV := .map (some n)
/-- a slice of so many elements of so many cells, capacity enough -/
def vS (id n sz : Nat) : AV := .slc (some (id, 0)) n (.upto sz n)
def s0 : AV := .sym .u8 0
noncomputable def frames (m : Nat) : AO := .cells (mk (fun j => [vW (Nat.succ j), vI 1, vN, vI 2, vI j, vI (Nat.add j 2)]) m) 31 true
/-- i: the clock; m: how many frames; e: how many events; q: how many were sent; tr: the first number that is free behind the fixed ones; pend: is one on the shelf? -/
noncomputable def layFix (i m : Nat) (tr wh : AV) (sh : List AEnt) (q T0 : Nat) : List AO → List AO := fun tl =>
  .cells [vI 4, vI 19, vI 2, vI 8, vI 1000, vP 1, vP 2, vP 3, vP 4, vI i, tr, vQ m, vQ (Nat.mul 19 m), vQ 0, vQ 0, vQ 0, vQ 0] 91 false ::
  .cells [vI 4, vI 19, vI 2, vI 8, vI 1000, vP 5, vS 20 m 6, vM 6, vP 7, vP 8, vP 9, vP 10, vI i, vH m] 131 false ::
  .cells [vI 4, vI 19, vI 2, vI 8, vI 1000, vP 11, vP 12, vP 13, vP 14, vQ 0, vQ 0] 142 false ::
  .cells [.slc (some (21, 0)) 0 (.upto 1 1)] 144 false ::
  .cells [vN] 144 false ::
  .cells fieldCells 177 false ::
  .map (mkEn (fun j => ⟨vW (Nat.succ j), vS (Nat.add T0 j) 2 1, j⟩) m) m ::
  .cells [vN] 181 false ::
  .cells [vM 15] 184 false ::
  .cells [vQ 0, .bool false] 186 false ::
  .cells [vI 0, .bool false] 188 false ::
  .cells [vP 16, vI 2, vI 8, vI 4, vM 17] 191 false ::
  .cells [vS 22 m 6, wh] 194 false ::
  .cells [vP 18, vM 19, vQ 65535, .bool true, vQ 0, vQ 0] 199 false ::
  .cells [vH 0, .bool true, vI 0] 201 false ::
  .map (mkEn (fun j => ⟨vW (Nat.succ j), .agg [vI 1, vI 65], j⟩) m) m ::
  .cells fieldCells 177 false ::
  .map sh m ::
  .cells [vQ (Nat.add 65535 m), .bool true] 267 false ::
  .map (mkEn (fun j => ⟨vQ (Nat.add 65536 j), .bool true, j⟩) m) m ::
  frames m ::
  .cells [vN] 37 true ::
  frames m :: tl
noncomputable def text (j : Nat) : AO := .cells [s0, vB j] 5 true
noncomputable def events (e B0 : Nat) : AO := .cells (mk (fun j => [vI 1, vW (Nat.succ j), vI (Nat.add j 2), vS (Nat.add B0 j) 2 1]) e) 42 true
noncomputable def pend (i b : Nat) (tl : List AO) : List AO :=
  .cells [vP (Nat.add b 1), vW i, vI 1, vI 2, vI 4] 357 false :: .cells [vP 16, vI 1, vI 4, vM (Nat.add b 2)] 418 false :: .map [⟨vI 0, vS (Nat.add b 3) 5 1, 0⟩] 1 :: .cells [vB 1, s0, vB (Nat.pred i), vB 0, vB 0] 5 true :: tl
/-- nothing has been submitted -/
noncomputable def lay0 : List AO := [
  .cells [vI 4, vI 19, vI 2, vI 8, vI 1000, vP 1, vP 2, vP 3, vP 4, vI 0, vN, vQ 0, vQ 0, vQ 0, vQ 0, vQ 0, vQ 0] 91 false,
  .cells [vI 4, vI 19, vI 2, vI 8, vI 1000, vP 5, vN, vM 6, vP 7, vP 8, vP 9, vP 10, vI 0, vH 0] 131 false,
  .cells [vI 4, vI 19, vI 2, vI 8, vI 1000, vP 11, vP 12, vP 13, vP 14, vQ 0, vQ 0] 142 false,
  .cells [vN] 144 false, .cells [vN] 144 false, .cells fieldCells 177 false, .map [] 0, .cells [vN] 181 false, .cells [vM 15] 184 false, .cells [vQ 0, .bool false] 186 false, .cells [vI 0, .bool false] 188 false,
  .cells [vP 16, vI 2, vI 8, vI 4, vM 17] 191 false, .cells [vN, vN] 194 false, .cells [vP 18, vM 19, vQ 0, .bool false, vQ 0, vQ 0] 199 false, .cells [vH 0, .bool false, vI 0] 201 false, .map [] 0, .cells fieldCells 177 false, .map [] 0, .cells [vQ 0, .bool false] 267 false, .map [] 0]
noncomputable def lay1 : List AO := layFix 1 1 vN vN [⟨vW 1, .agg [vP 23, vI 0], 0⟩] 1 27 (pend 1 23 [text 0])
noncomputable def layM (i : Nat) : List AO := layFix i i (vS 23 (Nat.pred i) 4) (vS 24 (Nat.pred i) 1) [⟨vW i, .agg [vP 25, vI 0], Nat.pred i⟩] i 29
  (events (Nat.pred i) (Nat.add 29 i) :: .cells (mk (fun _ => [vI 1]) (Nat.pred i)) 3 true :: pend i 25 (mkOb text i (mkOb text (Nat.pred i) [])))
noncomputable def layE (i : Nat) : List AO := layFix i 100 (vS 23 100 4) (vS 24 100 1) [] 100 25
  (events 100 125 :: .cells (mk (fun _ => [vI 1]) 100) 3 true :: mkOb text 100 (mkOb text 100 []))
noncomputable def lay (i : Nat) : List AO := bb2 (Nat.beq i 0) lay0 (bb2 (Nat.beq i 1) lay1 (bb2 (Nat.ble i 100) (layM i) (layE i)))
noncomputable def layTm (i : Nat) : List (Nat × AV) := [(1, s0), (5, vP 0), (7, .sym .i64 2), (8, vI i)]
noncomputable def at3 (c : CC) (t : Tr AV) (aw : AW) : Option Out := kCode cTop c (nat_lit 1000) t (nat_lit 127) [] aw
noncomputable def roundOK (i : Nat) : Bool := atNorm 127 (at3 mostR (tmOf (layTm i) .leaf) (ofObjs (lay i) (lenA (lay i)))) (fun t aw => told (lenA (lay (Nat.succ i))) (lay (Nat.succ i)) (layTm (Nat.succ i)) t aw)
noncomputable def tailTm (k : Nat) : List (Nat × AV) := [(1, s0), (5, vP 0), (7, vI k), (8, vI k)]
noncomputable def isTrue (v : Option AV) : Bool := Option.rec (motive := fun _ => Bool) false (fun v => vBool v (fun b => b) false) v
noncomputable def atRet (r : Option Out) : Bool :=
  Option.rec (motive := fun _ => Bool) false (fun o => Out.rec (motive := fun _ => Bool) (fun x act _ => AX.rec (motive := fun _ => Bool) false (fun _ => false) (AAct.rec (motive := fun _ => Bool) (fun t _ ds => List.rec (motive := fun _ => Bool) (isTrue (trGet t (nat_lit 4))) (fun _ _ _ => false) ds) act) (fun _ => false) x) o) r
noncomputable def tailOK (k : Nat) : Bool := atRet (at3 mostTail (tmOf (tailTm k) .leaf) (ofObjs (lay k) (lenA (lay k))))
noncomputable def preOK : Bool := atNorm 127 (at3 mostP0 (tmOf [(0, .sym .u8 4), (1, s0)] .leaf) (ofObjs [] 0)) (fun t aw => atNorm 127 (at3 mostP1 t aw) (fun t aw => atNorm 127 (at3 mostP2 t aw) (fun t aw => atNorm 127 (at3 mostP3 t aw) (fun t aw => told (lenA lay0) lay0 [(0, .sym .u8 4), (1, s0), (5, vP 0)] t aw))))
end Go.Proofs.YtbilacojhmohmaaGreat.Ae
