/- Summaries: the field's tables; products; sums of bytes; keys of a map. No condition. -/
import Derived.Test.YtbilacojhmohmaaGreatBeKt0
import Derived.Test.YtbilacojhmohmaaGreatBeCrc
import Derived.Test.YtbilacojhmohmaaGreatBeRen
import Derived.Test.YtbilacojhmohmaaGreatAeSeq
namespace Go.Proofs.YtbilacojhmohmaaGreat.Ae
open Go
set_option linter.unusedVariables false
set_option linter.unusedSimpArgs false

theorem noDef_ok (P : Program) : DefOK P ds0 := fun f g m args aw m' aw' h => by cases h
theorem noSum_ok (P : Program) : SumOK P sm0 := fun f g h => by cases h
noncomputable def cAny : Call := callK FK sm0 ds0 (nat_lit 1000) (nat_lit 20)
theorem cAny_ok : CallOK Tryz.prog cAny := callK_ok (noSum_ok _) (noDef_ok _) _ _

/-! ### are they the same? -/
noncomputable def sameInt (a b : AV) : Bool := vInt a (fun k n => vInt b (fun k' m => bb2 (Nat.beq (kcF k) (kcF k')) (ieqF n m) false) false) false
theorem sameInt_eq {a b : AV} (h : sameInt a b = true) : a = b := by
  cases a <;> first | cases h | skip
  rename_i k n
  cases b <;> first | cases h | skip
  rename_i k' m
  have h : bb2 (Nat.beq (kcF k) (kcF k')) (ieqF n m) false = true := h
  rw [bb2_eq, kcF_eq, kcF_eq] at h
  cases hk : Nat.beq (kc k) (kc k') <;> simp only [hk, cond_true, cond_false, Bool.false_eq_true] at h
  rw [kc_inj hk]
  rw [ieqF_eq, ieq_eq] at h
  rw [eq_of_beq h]
noncomputable def sameInts (l : List AV) : List AV → Bool := List.rec (motive := fun _ => List AV → Bool) (fun m => List.rec (motive := fun _ => Bool) true (fun _ _ _ => false) m) (fun a _ ih m => List.rec (motive := fun _ => Bool) false (fun b m _ => bb2 (sameInt a b) (ih m) false) m) l
theorem sameInts_eq : ∀ {l m : List AV}, sameInts l m = true → l = m
  | [], [], _ => rfl
  | [], _ :: _, h => by cases h
  | _ :: _, [], h => by cases h
  | a :: l, b :: m, h => by
    have h : bb2 (sameInt a b) (sameInts l m) false = true := h
    rw [bb2_eq] at h
    cases hk : sameInt a b <;> simp only [hk, cond_true, cond_false, Bool.false_eq_true] at h
    rw [sameInt_eq hk, sameInts_eq h]

/-! ### the field's tables -/
def fieldCells : List AV := [.int .u8 (.ofNat 1), .int .u8 (.ofNat 2), .int .u8 (.ofNat 4), .int .u8 (.ofNat 8), .int .u8 (.ofNat 16), .int .u8 (.ofNat 32), .int .u8 (.ofNat 64), .int .u8 (.ofNat 128), .int .u8 (.ofNat 29), .int .u8 (.ofNat 58), .int .u8 (.ofNat 116), .int .u8 (.ofNat 232), .int .u8 (.ofNat 205), .int .u8 (.ofNat 135), .int .u8 (.ofNat 19), .int .u8 (.ofNat 38), .int .u8 (.ofNat 76), .int .u8 (.ofNat 152), .int .u8 (.ofNat 45), .int .u8 (.ofNat 90), .int .u8 (.ofNat 180), .int .u8 (.ofNat 117), .int .u8 (.ofNat 234), .int .u8 (.ofNat 201), .int .u8 (.ofNat 143), .int .u8 (.ofNat 3), .int .u8 (.ofNat 6), .int .u8 (.ofNat 12), .int .u8 (.ofNat 24), .int .u8 (.ofNat 48), .int .u8 (.ofNat 96), .int .u8 (.ofNat 192), .int .u8 (.ofNat 157), .int .u8 (.ofNat 39), .int .u8 (.ofNat 78), .int .u8 (.ofNat 156), .int .u8 (.ofNat 37), .int .u8 (.ofNat 74), .int .u8 (.ofNat 148), .int .u8 (.ofNat 53), .int .u8 (.ofNat 106), .int .u8 (.ofNat 212), .int .u8 (.ofNat 181), .int .u8 (.ofNat 119), .int .u8 (.ofNat 238), .int .u8 (.ofNat 193), .int .u8 (.ofNat 159), .int .u8 (.ofNat 35), .int .u8 (.ofNat 70), .int .u8 (.ofNat 140), .int .u8 (.ofNat 5), .int .u8 (.ofNat 10), .int .u8 (.ofNat 20), .int .u8 (.ofNat 40), .int .u8 (.ofNat 80), .int .u8 (.ofNat 160), .int .u8 (.ofNat 93), .int .u8 (.ofNat 186), .int .u8 (.ofNat 105), .int .u8 (.ofNat 210), .int .u8 (.ofNat 185), .int .u8 (.ofNat 111), .int .u8 (.ofNat 222), .int .u8 (.ofNat 161), .int .u8 (.ofNat 95), .int .u8 (.ofNat 190), .int .u8 (.ofNat 97), .int .u8 (.ofNat 194), .int .u8 (.ofNat 153), .int .u8 (.ofNat 47), .int .u8 (.ofNat 94), .int .u8 (.ofNat 188), .int .u8 (.ofNat 101), .int .u8 (.ofNat 202), .int .u8 (.ofNat 137), .int .u8 (.ofNat 15), .int .u8 (.ofNat 30), .int .u8 (.ofNat 60), .int .u8 (.ofNat 120), .int .u8 (.ofNat 240), .int .u8 (.ofNat 253), .int .u8 (.ofNat 231), .int .u8 (.ofNat 211), .int .u8 (.ofNat 187), .int .u8 (.ofNat 107), .int .u8 (.ofNat 214), .int .u8 (.ofNat 177), .int .u8 (.ofNat 127), .int .u8 (.ofNat 254), .int .u8 (.ofNat 225), .int .u8 (.ofNat 223), .int .u8 (.ofNat 163), .int .u8 (.ofNat 91), .int .u8 (.ofNat 182), .int .u8 (.ofNat 113), .int .u8 (.ofNat 226), .int .u8 (.ofNat 217), .int .u8 (.ofNat 175), .int .u8 (.ofNat 67), .int .u8 (.ofNat 134), .int .u8 (.ofNat 17), .int .u8 (.ofNat 34), .int .u8 (.ofNat 68), .int .u8 (.ofNat 136), .int .u8 (.ofNat 13), .int .u8 (.ofNat 26), .int .u8 (.ofNat 52), .int .u8 (.ofNat 104), .int .u8 (.ofNat 208), .int .u8 (.ofNat 189), .int .u8 (.ofNat 103), .int .u8 (.ofNat 206), .int .u8 (.ofNat 129), .int .u8 (.ofNat 31), .int .u8 (.ofNat 62), .int .u8 (.ofNat 124), .int .u8 (.ofNat 248), .int .u8 (.ofNat 237), .int .u8 (.ofNat 199), .int .u8 (.ofNat 147), .int .u8 (.ofNat 59), .int .u8 (.ofNat 118), .int .u8 (.ofNat 236), .int .u8 (.ofNat 197), .int .u8 (.ofNat 151), .int .u8 (.ofNat 51), .int .u8 (.ofNat 102), .int .u8 (.ofNat 204), .int .u8 (.ofNat 133), .int .u8 (.ofNat 23), .int .u8 (.ofNat 46), .int .u8 (.ofNat 92), .int .u8 (.ofNat 184), .int .u8 (.ofNat 109), .int .u8 (.ofNat 218), .int .u8 (.ofNat 169), .int .u8 (.ofNat 79), .int .u8 (.ofNat 158), .int .u8 (.ofNat 33), .int .u8 (.ofNat 66), .int .u8 (.ofNat 132), .int .u8 (.ofNat 21), .int .u8 (.ofNat 42), .int .u8 (.ofNat 84), .int .u8 (.ofNat 168), .int .u8 (.ofNat 77), .int .u8 (.ofNat 154), .int .u8 (.ofNat 41), .int .u8 (.ofNat 82), .int .u8 (.ofNat 164), .int .u8 (.ofNat 85), .int .u8 (.ofNat 170), .int .u8 (.ofNat 73), .int .u8 (.ofNat 146), .int .u8 (.ofNat 57), .int .u8 (.ofNat 114), .int .u8 (.ofNat 228), .int .u8 (.ofNat 213), .int .u8 (.ofNat 183), .int .u8 (.ofNat 115), .int .u8 (.ofNat 230), .int .u8 (.ofNat 209), .int .u8 (.ofNat 191), .int .u8 (.ofNat 99), .int .u8 (.ofNat 198), .int .u8 (.ofNat 145), .int .u8 (.ofNat 63), .int .u8 (.ofNat 126), .int .u8 (.ofNat 252), .int .u8 (.ofNat 229), .int .u8 (.ofNat 215), .int .u8 (.ofNat 179), .int .u8 (.ofNat 123), .int .u8 (.ofNat 246), .int .u8 (.ofNat 241), .int .u8 (.ofNat 255), .int .u8 (.ofNat 227), .int .u8 (.ofNat 219), .int .u8 (.ofNat 171), .int .u8 (.ofNat 75), .int .u8 (.ofNat 150), .int .u8 (.ofNat 49), .int .u8 (.ofNat 98), .int .u8 (.ofNat 196), .int .u8 (.ofNat 149), .int .u8 (.ofNat 55), .int .u8 (.ofNat 110), .int .u8 (.ofNat 220), .int .u8 (.ofNat 165), .int .u8 (.ofNat 87), .int .u8 (.ofNat 174), .int .u8 (.ofNat 65), .int .u8 (.ofNat 130), .int .u8 (.ofNat 25), .int .u8 (.ofNat 50), .int .u8 (.ofNat 100), .int .u8 (.ofNat 200), .int .u8 (.ofNat 141), .int .u8 (.ofNat 7), .int .u8 (.ofNat 14), .int .u8 (.ofNat 28), .int .u8 (.ofNat 56), .int .u8 (.ofNat 112), .int .u8 (.ofNat 224), .int .u8 (.ofNat 221), .int .u8 (.ofNat 167), .int .u8 (.ofNat 83), .int .u8 (.ofNat 166), .int .u8 (.ofNat 81), .int .u8 (.ofNat 162), .int .u8 (.ofNat 89), .int .u8 (.ofNat 178), .int .u8 (.ofNat 121), .int .u8 (.ofNat 242), .int .u8 (.ofNat 249), .int .u8 (.ofNat 239), .int .u8 (.ofNat 195), .int .u8 (.ofNat 155), .int .u8 (.ofNat 43), .int .u8 (.ofNat 86), .int .u8 (.ofNat 172), .int .u8 (.ofNat 69), .int .u8 (.ofNat 138), .int .u8 (.ofNat 9), .int .u8 (.ofNat 18), .int .u8 (.ofNat 36), .int .u8 (.ofNat 72), .int .u8 (.ofNat 144), .int .u8 (.ofNat 61), .int .u8 (.ofNat 122), .int .u8 (.ofNat 244), .int .u8 (.ofNat 245), .int .u8 (.ofNat 247), .int .u8 (.ofNat 243), .int .u8 (.ofNat 251), .int .u8 (.ofNat 235), .int .u8 (.ofNat 203), .int .u8 (.ofNat 139), .int .u8 (.ofNat 11), .int .u8 (.ofNat 22), .int .u8 (.ofNat 44), .int .u8 (.ofNat 88), .int .u8 (.ofNat 176), .int .u8 (.ofNat 125), .int .u8 (.ofNat 250), .int .u8 (.ofNat 233), .int .u8 (.ofNat 207), .int .u8 (.ofNat 131), .int .u8 (.ofNat 27), .int .u8 (.ofNat 54), .int .u8 (.ofNat 108), .int .u8 (.ofNat 216), .int .u8 (.ofNat 173), .int .u8 (.ofNat 71), .int .u8 (.ofNat 142), .int .u8 (.ofNat 1), .int .u8 (.ofNat 2), .int .u8 (.ofNat 4), .int .u8 (.ofNat 8), .int .u8 (.ofNat 16), .int .u8 (.ofNat 32), .int .u8 (.ofNat 64), .int .u8 (.ofNat 128), .int .u8 (.ofNat 29), .int .u8 (.ofNat 58), .int .u8 (.ofNat 116), .int .u8 (.ofNat 232), .int .u8 (.ofNat 205), .int .u8 (.ofNat 135), .int .u8 (.ofNat 19), .int .u8 (.ofNat 38), .int .u8 (.ofNat 76), .int .u8 (.ofNat 152), .int .u8 (.ofNat 45), .int .u8 (.ofNat 90), .int .u8 (.ofNat 180), .int .u8 (.ofNat 117), .int .u8 (.ofNat 234), .int .u8 (.ofNat 201), .int .u8 (.ofNat 143), .int .u8 (.ofNat 3), .int .u8 (.ofNat 6), .int .u8 (.ofNat 12), .int .u8 (.ofNat 24), .int .u8 (.ofNat 48), .int .u8 (.ofNat 96), .int .u8 (.ofNat 192), .int .u8 (.ofNat 157), .int .u8 (.ofNat 39), .int .u8 (.ofNat 78), .int .u8 (.ofNat 156), .int .u8 (.ofNat 37), .int .u8 (.ofNat 74), .int .u8 (.ofNat 148), .int .u8 (.ofNat 53), .int .u8 (.ofNat 106), .int .u8 (.ofNat 212), .int .u8 (.ofNat 181), .int .u8 (.ofNat 119), .int .u8 (.ofNat 238), .int .u8 (.ofNat 193), .int .u8 (.ofNat 159), .int .u8 (.ofNat 35), .int .u8 (.ofNat 70), .int .u8 (.ofNat 140), .int .u8 (.ofNat 5), .int .u8 (.ofNat 10), .int .u8 (.ofNat 20), .int .u8 (.ofNat 40), .int .u8 (.ofNat 80), .int .u8 (.ofNat 160), .int .u8 (.ofNat 93), .int .u8 (.ofNat 186), .int .u8 (.ofNat 105), .int .u8 (.ofNat 210), .int .u8 (.ofNat 185), .int .u8 (.ofNat 111), .int .u8 (.ofNat 222), .int .u8 (.ofNat 161), .int .u8 (.ofNat 95), .int .u8 (.ofNat 190), .int .u8 (.ofNat 97), .int .u8 (.ofNat 194), .int .u8 (.ofNat 153), .int .u8 (.ofNat 47), .int .u8 (.ofNat 94), .int .u8 (.ofNat 188), .int .u8 (.ofNat 101), .int .u8 (.ofNat 202), .int .u8 (.ofNat 137), .int .u8 (.ofNat 15), .int .u8 (.ofNat 30), .int .u8 (.ofNat 60), .int .u8 (.ofNat 120), .int .u8 (.ofNat 240), .int .u8 (.ofNat 253), .int .u8 (.ofNat 231), .int .u8 (.ofNat 211), .int .u8 (.ofNat 187), .int .u8 (.ofNat 107), .int .u8 (.ofNat 214), .int .u8 (.ofNat 177), .int .u8 (.ofNat 127), .int .u8 (.ofNat 254), .int .u8 (.ofNat 225), .int .u8 (.ofNat 223), .int .u8 (.ofNat 163), .int .u8 (.ofNat 91), .int .u8 (.ofNat 182), .int .u8 (.ofNat 113), .int .u8 (.ofNat 226), .int .u8 (.ofNat 217), .int .u8 (.ofNat 175), .int .u8 (.ofNat 67), .int .u8 (.ofNat 134), .int .u8 (.ofNat 17), .int .u8 (.ofNat 34), .int .u8 (.ofNat 68), .int .u8 (.ofNat 136), .int .u8 (.ofNat 13), .int .u8 (.ofNat 26), .int .u8 (.ofNat 52), .int .u8 (.ofNat 104), .int .u8 (.ofNat 208), .int .u8 (.ofNat 189), .int .u8 (.ofNat 103), .int .u8 (.ofNat 206), .int .u8 (.ofNat 129), .int .u8 (.ofNat 31), .int .u8 (.ofNat 62), .int .u8 (.ofNat 124), .int .u8 (.ofNat 248), .int .u8 (.ofNat 237), .int .u8 (.ofNat 199), .int .u8 (.ofNat 147), .int .u8 (.ofNat 59), .int .u8 (.ofNat 118), .int .u8 (.ofNat 236), .int .u8 (.ofNat 197), .int .u8 (.ofNat 151), .int .u8 (.ofNat 51), .int .u8 (.ofNat 102), .int .u8 (.ofNat 204), .int .u8 (.ofNat 133), .int .u8 (.ofNat 23), .int .u8 (.ofNat 46), .int .u8 (.ofNat 92), .int .u8 (.ofNat 184), .int .u8 (.ofNat 109), .int .u8 (.ofNat 218), .int .u8 (.ofNat 169), .int .u8 (.ofNat 79), .int .u8 (.ofNat 158), .int .u8 (.ofNat 33), .int .u8 (.ofNat 66), .int .u8 (.ofNat 132), .int .u8 (.ofNat 21), .int .u8 (.ofNat 42), .int .u8 (.ofNat 84), .int .u8 (.ofNat 168), .int .u8 (.ofNat 77), .int .u8 (.ofNat 154), .int .u8 (.ofNat 41), .int .u8 (.ofNat 82), .int .u8 (.ofNat 164), .int .u8 (.ofNat 85), .int .u8 (.ofNat 170), .int .u8 (.ofNat 73), .int .u8 (.ofNat 146), .int .u8 (.ofNat 57), .int .u8 (.ofNat 114), .int .u8 (.ofNat 228), .int .u8 (.ofNat 213), .int .u8 (.ofNat 183), .int .u8 (.ofNat 115), .int .u8 (.ofNat 230), .int .u8 (.ofNat 209), .int .u8 (.ofNat 191), .int .u8 (.ofNat 99), .int .u8 (.ofNat 198), .int .u8 (.ofNat 145), .int .u8 (.ofNat 63), .int .u8 (.ofNat 126), .int .u8 (.ofNat 252), .int .u8 (.ofNat 229), .int .u8 (.ofNat 215), .int .u8 (.ofNat 179), .int .u8 (.ofNat 123), .int .u8 (.ofNat 246), .int .u8 (.ofNat 241), .int .u8 (.ofNat 255), .int .u8 (.ofNat 227), .int .u8 (.ofNat 219), .int .u8 (.ofNat 171), .int .u8 (.ofNat 75), .int .u8 (.ofNat 150), .int .u8 (.ofNat 49), .int .u8 (.ofNat 98), .int .u8 (.ofNat 196), .int .u8 (.ofNat 149), .int .u8 (.ofNat 55), .int .u8 (.ofNat 110), .int .u8 (.ofNat 220), .int .u8 (.ofNat 165), .int .u8 (.ofNat 87), .int .u8 (.ofNat 174), .int .u8 (.ofNat 65), .int .u8 (.ofNat 130), .int .u8 (.ofNat 25), .int .u8 (.ofNat 50), .int .u8 (.ofNat 100), .int .u8 (.ofNat 200), .int .u8 (.ofNat 141), .int .u8 (.ofNat 7), .int .u8 (.ofNat 14), .int .u8 (.ofNat 28), .int .u8 (.ofNat 56), .int .u8 (.ofNat 112), .int .u8 (.ofNat 224), .int .u8 (.ofNat 221), .int .u8 (.ofNat 167), .int .u8 (.ofNat 83), .int .u8 (.ofNat 166), .int .u8 (.ofNat 81), .int .u8 (.ofNat 162), .int .u8 (.ofNat 89), .int .u8 (.ofNat 178), .int .u8 (.ofNat 121), .int .u8 (.ofNat 242), .int .u8 (.ofNat 249), .int .u8 (.ofNat 239), .int .u8 (.ofNat 195), .int .u8 (.ofNat 155), .int .u8 (.ofNat 43), .int .u8 (.ofNat 86), .int .u8 (.ofNat 172), .int .u8 (.ofNat 69), .int .u8 (.ofNat 138), .int .u8 (.ofNat 9), .int .u8 (.ofNat 18), .int .u8 (.ofNat 36), .int .u8 (.ofNat 72), .int .u8 (.ofNat 144), .int .u8 (.ofNat 61), .int .u8 (.ofNat 122), .int .u8 (.ofNat 244), .int .u8 (.ofNat 245), .int .u8 (.ofNat 247), .int .u8 (.ofNat 243), .int .u8 (.ofNat 251), .int .u8 (.ofNat 235), .int .u8 (.ofNat 203), .int .u8 (.ofNat 139), .int .u8 (.ofNat 11), .int .u8 (.ofNat 22), .int .u8 (.ofNat 44), .int .u8 (.ofNat 88), .int .u8 (.ofNat 176), .int .u8 (.ofNat 125), .int .u8 (.ofNat 250), .int .u8 (.ofNat 233), .int .u8 (.ofNat 207), .int .u8 (.ofNat 131), .int .u8 (.ofNat 27), .int .u8 (.ofNat 54), .int .u8 (.ofNat 108), .int .u8 (.ofNat 216), .int .u8 (.ofNat 173), .int .u8 (.ofNat 71), .int .u8 (.ofNat 142), .int .i64 (.ofNat 0), .int .i64 (.ofNat 0), .int .i64 (.ofNat 1), .int .i64 (.ofNat 25), .int .i64 (.ofNat 2), .int .i64 (.ofNat 50), .int .i64 (.ofNat 26), .int .i64 (.ofNat 198), .int .i64 (.ofNat 3), .int .i64 (.ofNat 223), .int .i64 (.ofNat 51), .int .i64 (.ofNat 238), .int .i64 (.ofNat 27), .int .i64 (.ofNat 104), .int .i64 (.ofNat 199), .int .i64 (.ofNat 75), .int .i64 (.ofNat 4), .int .i64 (.ofNat 100), .int .i64 (.ofNat 224), .int .i64 (.ofNat 14), .int .i64 (.ofNat 52), .int .i64 (.ofNat 141), .int .i64 (.ofNat 239), .int .i64 (.ofNat 129), .int .i64 (.ofNat 28), .int .i64 (.ofNat 193), .int .i64 (.ofNat 105), .int .i64 (.ofNat 248), .int .i64 (.ofNat 200), .int .i64 (.ofNat 8), .int .i64 (.ofNat 76), .int .i64 (.ofNat 113), .int .i64 (.ofNat 5), .int .i64 (.ofNat 138), .int .i64 (.ofNat 101), .int .i64 (.ofNat 47), .int .i64 (.ofNat 225), .int .i64 (.ofNat 36), .int .i64 (.ofNat 15), .int .i64 (.ofNat 33), .int .i64 (.ofNat 53), .int .i64 (.ofNat 147), .int .i64 (.ofNat 142), .int .i64 (.ofNat 218), .int .i64 (.ofNat 240), .int .i64 (.ofNat 18), .int .i64 (.ofNat 130), .int .i64 (.ofNat 69), .int .i64 (.ofNat 29), .int .i64 (.ofNat 181), .int .i64 (.ofNat 194), .int .i64 (.ofNat 125), .int .i64 (.ofNat 106), .int .i64 (.ofNat 39), .int .i64 (.ofNat 249), .int .i64 (.ofNat 185), .int .i64 (.ofNat 201), .int .i64 (.ofNat 154), .int .i64 (.ofNat 9), .int .i64 (.ofNat 120), .int .i64 (.ofNat 77), .int .i64 (.ofNat 228), .int .i64 (.ofNat 114), .int .i64 (.ofNat 166), .int .i64 (.ofNat 6), .int .i64 (.ofNat 191), .int .i64 (.ofNat 139), .int .i64 (.ofNat 98), .int .i64 (.ofNat 102), .int .i64 (.ofNat 221), .int .i64 (.ofNat 48), .int .i64 (.ofNat 253), .int .i64 (.ofNat 226), .int .i64 (.ofNat 152), .int .i64 (.ofNat 37), .int .i64 (.ofNat 179), .int .i64 (.ofNat 16), .int .i64 (.ofNat 145), .int .i64 (.ofNat 34), .int .i64 (.ofNat 136), .int .i64 (.ofNat 54), .int .i64 (.ofNat 208), .int .i64 (.ofNat 148), .int .i64 (.ofNat 206), .int .i64 (.ofNat 143), .int .i64 (.ofNat 150), .int .i64 (.ofNat 219), .int .i64 (.ofNat 189), .int .i64 (.ofNat 241), .int .i64 (.ofNat 210), .int .i64 (.ofNat 19), .int .i64 (.ofNat 92), .int .i64 (.ofNat 131), .int .i64 (.ofNat 56), .int .i64 (.ofNat 70), .int .i64 (.ofNat 64), .int .i64 (.ofNat 30), .int .i64 (.ofNat 66), .int .i64 (.ofNat 182), .int .i64 (.ofNat 163), .int .i64 (.ofNat 195), .int .i64 (.ofNat 72), .int .i64 (.ofNat 126), .int .i64 (.ofNat 110), .int .i64 (.ofNat 107), .int .i64 (.ofNat 58), .int .i64 (.ofNat 40), .int .i64 (.ofNat 84), .int .i64 (.ofNat 250), .int .i64 (.ofNat 133), .int .i64 (.ofNat 186), .int .i64 (.ofNat 61), .int .i64 (.ofNat 202), .int .i64 (.ofNat 94), .int .i64 (.ofNat 155), .int .i64 (.ofNat 159), .int .i64 (.ofNat 10), .int .i64 (.ofNat 21), .int .i64 (.ofNat 121), .int .i64 (.ofNat 43), .int .i64 (.ofNat 78), .int .i64 (.ofNat 212), .int .i64 (.ofNat 229), .int .i64 (.ofNat 172), .int .i64 (.ofNat 115), .int .i64 (.ofNat 243), .int .i64 (.ofNat 167), .int .i64 (.ofNat 87), .int .i64 (.ofNat 7), .int .i64 (.ofNat 112), .int .i64 (.ofNat 192), .int .i64 (.ofNat 247), .int .i64 (.ofNat 140), .int .i64 (.ofNat 128), .int .i64 (.ofNat 99), .int .i64 (.ofNat 13), .int .i64 (.ofNat 103), .int .i64 (.ofNat 74), .int .i64 (.ofNat 222), .int .i64 (.ofNat 237), .int .i64 (.ofNat 49), .int .i64 (.ofNat 197), .int .i64 (.ofNat 254), .int .i64 (.ofNat 24), .int .i64 (.ofNat 227), .int .i64 (.ofNat 165), .int .i64 (.ofNat 153), .int .i64 (.ofNat 119), .int .i64 (.ofNat 38), .int .i64 (.ofNat 184), .int .i64 (.ofNat 180), .int .i64 (.ofNat 124), .int .i64 (.ofNat 17), .int .i64 (.ofNat 68), .int .i64 (.ofNat 146), .int .i64 (.ofNat 217), .int .i64 (.ofNat 35), .int .i64 (.ofNat 32), .int .i64 (.ofNat 137), .int .i64 (.ofNat 46), .int .i64 (.ofNat 55), .int .i64 (.ofNat 63), .int .i64 (.ofNat 209), .int .i64 (.ofNat 91), .int .i64 (.ofNat 149), .int .i64 (.ofNat 188), .int .i64 (.ofNat 207), .int .i64 (.ofNat 205), .int .i64 (.ofNat 144), .int .i64 (.ofNat 135), .int .i64 (.ofNat 151), .int .i64 (.ofNat 178), .int .i64 (.ofNat 220), .int .i64 (.ofNat 252), .int .i64 (.ofNat 190), .int .i64 (.ofNat 97), .int .i64 (.ofNat 242), .int .i64 (.ofNat 86), .int .i64 (.ofNat 211), .int .i64 (.ofNat 171), .int .i64 (.ofNat 20), .int .i64 (.ofNat 42), .int .i64 (.ofNat 93), .int .i64 (.ofNat 158), .int .i64 (.ofNat 132), .int .i64 (.ofNat 60), .int .i64 (.ofNat 57), .int .i64 (.ofNat 83), .int .i64 (.ofNat 71), .int .i64 (.ofNat 109), .int .i64 (.ofNat 65), .int .i64 (.ofNat 162), .int .i64 (.ofNat 31), .int .i64 (.ofNat 45), .int .i64 (.ofNat 67), .int .i64 (.ofNat 216), .int .i64 (.ofNat 183), .int .i64 (.ofNat 123), .int .i64 (.ofNat 164), .int .i64 (.ofNat 118), .int .i64 (.ofNat 196), .int .i64 (.ofNat 23), .int .i64 (.ofNat 73), .int .i64 (.ofNat 236), .int .i64 (.ofNat 127), .int .i64 (.ofNat 12), .int .i64 (.ofNat 111), .int .i64 (.ofNat 246), .int .i64 (.ofNat 108), .int .i64 (.ofNat 161), .int .i64 (.ofNat 59), .int .i64 (.ofNat 82), .int .i64 (.ofNat 41), .int .i64 (.ofNat 157), .int .i64 (.ofNat 85), .int .i64 (.ofNat 170), .int .i64 (.ofNat 251), .int .i64 (.ofNat 96), .int .i64 (.ofNat 134), .int .i64 (.ofNat 177), .int .i64 (.ofNat 187), .int .i64 (.ofNat 204), .int .i64 (.ofNat 62), .int .i64 (.ofNat 90), .int .i64 (.ofNat 203), .int .i64 (.ofNat 89), .int .i64 (.ofNat 95), .int .i64 (.ofNat 176), .int .i64 (.ofNat 156), .int .i64 (.ofNat 169), .int .i64 (.ofNat 160), .int .i64 (.ofNat 81), .int .i64 (.ofNat 11), .int .i64 (.ofNat 245), .int .i64 (.ofNat 22), .int .i64 (.ofNat 235), .int .i64 (.ofNat 122), .int .i64 (.ofNat 117), .int .i64 (.ofNat 44), .int .i64 (.ofNat 215), .int .i64 (.ofNat 79), .int .i64 (.ofNat 174), .int .i64 (.ofNat 213), .int .i64 (.ofNat 233), .int .i64 (.ofNat 230), .int .i64 (.ofNat 231), .int .i64 (.ofNat 173), .int .i64 (.ofNat 232), .int .i64 (.ofNat 116), .int .i64 (.ofNat 214), .int .i64 (.ofNat 244), .int .i64 (.ofNat 234), .int .i64 (.ofNat 168), .int .i64 (.ofNat 80), .int .i64 (.ofNat 88), .int .i64 (.ofNat 175)]
noncomputable def sees49 (r : Option ARes) : Bool := match r with
  | some (.ret (.ptr (some (0, 0))) aw) => match aw.get 0 with
    | some (.cells l e b) => sameInts l fieldCells && (Nat.beq e 177 && !b)
    | _ => false
  | _ => false
theorem run49 : sees49 (cAny 49 [] ⟨.leaf, 0, 0⟩) = true := by kernel_rfl
theorem plainField : plainL fieldCells = true := by kernel_rfl
noncomputable def g49 (args : List AV) (aw : AW) : Option ARes := match args with
  | [] => some (.ret (.ptr (some (aw.nx, 0))) (awAdd aw (.cells fieldCells 177 false)))
  | _ => none
theorem s49 : ∀ args aw res, g49 args aw = some res → callable Tryz.prog 49 = true ∧ ∀ E w cargs, LRel E args cargs → Rel E aw w →
    Calls Tryz.prog 49 cargs.toArray w fun e w' => ∃ E', E.Le E' ∧ ResRel E' res e w' := by
  intro args aw res h
  unfold g49 at h
  split at h <;> (try (cases h; done))
  simp only [Option.some.injEq] at h; subst h
  have hrun := run49
  unfold sees49 at hrun
  split at hrun <;> (try (cases hrun; done))
  rename_i aw0 h0
  split at hrun <;> (try (cases hrun; done))
  rename_i l e b hg
  simp only [Bool.and_eq_true, Bool.not_eq_true'] at hrun
  obtain ⟨h1, h2, h3⟩ := hrun
  have := sameInts_eq h1; subst this
  have := Nat.eq_of_beq_eq_true h2; subst this
  subst h3
  obtain ⟨a1, a2⟩ := sum_fresh cAny_ok (args := []) (by simp) h0 hg plainField
  rw [awAdd_eq]
  exact ⟨a1, fun E w cargs hr hR => a2 E aw w cargs hr hR⟩

/-! ### products -/
noncomputable def mulAt (n : Nat) : Bool := match cAny 350 [.ptr (some (0, 0)), .int .u8 (.ofNat 1), .int .u8 (.ofNat n)] (ofObjs [.cells fieldCells 177 false] 1) with
  | some (.ret (.int .u8 (.ofNat m)) aw) => Nat.beq m n && (match aw.get 0 with
    | some (.cells l e b) => sameInts l fieldCells && (Nat.beq e 177 && !b)
    | _ => false)
  | _ => false
noncomputable def allN (f : Nat → Bool) (n : Nat) : Bool := Nat.rec (motive := fun _ => Bool) true (fun i ih => bb2 (f i) ih false) n
theorem allN_ok {f : Nat → Bool} : ∀ {n : Nat}, allN f n = true → ∀ i, i < n → f i = true
  | 0, _, i, hi => by omega
  | n + 1, h, i, hi => by
    have h : bb2 (f n) (allN f n) false = true := h
    rw [bb2_eq] at h
    cases hf : f n <;> simp only [hf, cond_true, cond_false, Bool.false_eq_true] at h
    by_cases e : i = n
    · subst e; exact hf
    · exact allN_ok h i (by omega)
theorem mul_0 : allN (fun i => mulAt (Nat.add i (nat_lit 0))) (nat_lit 32) = true := by kernel_rfl
theorem mul_1 : allN (fun i => mulAt (Nat.add i (nat_lit 32))) (nat_lit 32) = true := by kernel_rfl
theorem mul_2 : allN (fun i => mulAt (Nat.add i (nat_lit 64))) (nat_lit 32) = true := by kernel_rfl
theorem mul_3 : allN (fun i => mulAt (Nat.add i (nat_lit 96))) (nat_lit 32) = true := by kernel_rfl
theorem mul_4 : allN (fun i => mulAt (Nat.add i (nat_lit 128))) (nat_lit 32) = true := by kernel_rfl
theorem mul_5 : allN (fun i => mulAt (Nat.add i (nat_lit 160))) (nat_lit 32) = true := by kernel_rfl
theorem mul_6 : allN (fun i => mulAt (Nat.add i (nat_lit 192))) (nat_lit 32) = true := by kernel_rfl
theorem mul_7 : allN (fun i => mulAt (Nat.add i (nat_lit 224))) (nat_lit 32) = true := by kernel_rfl
theorem mul_all (n : Nat) (h : n < 256) : mulAt n = true := by
  have key : ∀ b, allN (fun i => mulAt (Nat.add i b)) 32 = true → b ≤ n → n < b + 32 → mulAt n = true := fun b hb h1 h2 => by
    have := allN_ok hb (n - b) (by omega)
    have e : Nat.add (n - b) b = n := by show n - b + b = n; omega
    simpa only [e] using this
  rcases Nat.lt_or_ge n 32 with h0 | h0
  · exact key 0 mul_0 (by omega) h0
  rcases Nat.lt_or_ge n 64 with h1 | h1
  · exact key 32 mul_1 h0 (by omega)
  rcases Nat.lt_or_ge n 96 with h2 | h2
  · exact key 64 mul_2 h1 (by omega)
  rcases Nat.lt_or_ge n 128 with h3 | h3
  · exact key 96 mul_3 h2 (by omega)
  rcases Nat.lt_or_ge n 160 with h4 | h4
  · exact key 128 mul_4 h3 (by omega)
  rcases Nat.lt_or_ge n 192 with h5 | h5
  · exact key 160 mul_5 h4 (by omega)
  rcases Nat.lt_or_ge n 224 with h6 | h6
  · exact key 192 mul_6 h5 (by omega)
  exact key 224 mul_7 h6 (by omega)
/-- a byte that is not known -/
noncomputable def isSym (x : AV) : Bool := match x with
  | .sym .u8 _ => true
  | _ => false
noncomputable def g350 (args : List AV) (aw : AW) : Option ARes := match args with
  | [.ptr (some (id, 0)), .int .u8 (.ofNat 1), .sym .u8 j] => match awGet aw id with
    | some (.cells l e b) => bb2 (sameInts l fieldCells) (bb2 (Nat.beq e 177) (bb2 b none (some (.ret (.sym .u8 j) aw))) none) none
    | _ => none
  | args => cAny 350 args aw
theorem wrap_u8 {n : Int} (h : IntKind.u8.wrap n = n) : ∃ m : Nat, n = .ofNat m ∧ m < 256 := by
  have : 0 ≤ n ∧ n < 256 := by
    rw [← h]
    simp only [IntKind.wrap, IntKind.bits, IntKind.signed]
    simp
    omega
  exact ⟨n.toNat, by show n = ((n.toNat : Nat) : Int); omega, by omega⟩
theorem s350 : ∀ args aw res, g350 args aw = some res → callable Tryz.prog 350 = true ∧ ∀ E w cargs, LRel E args cargs → Rel E aw w →
    Calls Tryz.prog 350 cargs.toArray w fun e w' => ∃ E', E.Le E' ∧ ResRel E' res e w' := by
  intro args aw res h
  unfold g350 at h
  split at h
  · rename_i id j
    rw [awGet_eq] at h
    split at h <;> (try (cases h; done))
    rename_i l e b hg
    simp only [bb2_eq] at h
    cases h1 : sameInts l fieldCells <;> simp only [h1, cond_true, cond_false, reduceCtorEq] at h
    cases h2 : Nat.beq e 177 <;> simp only [h2, cond_true, cond_false, reduceCtorEq] at h
    cases b <;> simp only [cond_true, cond_false, reduceCtorEq, Option.some.injEq] at h
    subst h
    have := sameInts_eq h1; subst this
    have := Nat.eq_of_beq_eq_true h2; subst this
    have hcall : callable Tryz.prog 350 = true := by
      have := mul_all 0 (by decide)
      unfold mulAt at this
      split at this
      · rename_i h0; exact (cAny_ok _ _ _ _ h0).1
      · cases this
    refine ⟨hcall, fun E w cargs hr hR => ?_⟩
    cases hr with
    | cons r1 t1 => cases t1 with
      | cons r2 t2 => cases t2 with
        | cons r3 t3 =>
          cases t3
          cases r2
          cases r3 with
          | sym _ hs hw =>
            rename_i n
            obtain ⟨m, rfl, hm⟩ := wrap_u8 hw
            cases r1 with
            | ptr hL =>
              rename_i L
              have hrun := mul_all m hm
              unfold mulAt at hrun
              split at hrun <;> (try (cases hrun; done))
              rename_i m2 aw2 h0
              simp only [Bool.and_eq_true] at hrun
              obtain ⟨e1, e2⟩ := hrun
              have := Nat.eq_of_beq_eq_true e1; subst this
              split at e2 <;> (try (cases e2; done))
              rename_i l2 ee2 b2 hg2
              simp only [Bool.and_eq_true, Bool.not_eq_true'] at e2
              obtain ⟨q1, q2, q3⟩ := e2
              have := sameInts_eq q1; subst this
              have := Nat.eq_of_beq_eq_true q2; subst this
              subst q3
              obtain ⟨L', hL', ho⟩ := hR.obj id _ hg
              rw [hL] at hL'; injection hL' with hL'; subst hL'
              have hR0 := oneE_rel (L := L) hR (ho.plain plainField)
              refine ((cAny_ok _ _ _ _ h0).2 (oneE E w L) w _ (.cons (.ptr (L := L) rfl) (.cons (.int _ _) (.cons (.int _ _) .nil))) hR0).mono fun en w' hres => ?_
              obtain ⟨E1, hle, hres⟩ := hres
              cases en with
              | returned cv =>
                obtain ⟨hR1, hv⟩ := hres
                cases hv
                have hL0 : E1.loc[0]? = some L := hle.loc (i := 0) rfl
                obtain ⟨L2, hL2, ho2⟩ := hR1.obj 0 _ hg2
                rw [hL0] at hL2; injection hL2 with hL2; subst hL2
                exact ⟨E, .refl E, oneE_back hR hg rfl hL hle hR1 (ho2.plain plainField), .sym _ hs hw⟩
              | panicked ch => exact hres.elim
              | outgrown => exact hres.elim
  · exact cAny_ok _ _ _ _ h
end Go.Proofs.YtbilacojhmohmaaGreat.Ae
