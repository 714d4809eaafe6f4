/- Summaries: the field's tables; products; sums of bytes; keys of a map; Summaries: bytes and their sum. No condition. -/
import Derived.Test.YtbilacojhmohmaaGreatD07
import Derived.Test.YtbilacojhmohmaaGreatD08
import Derived.Maps.Range
set_option linter.unusedVariables false
set_option linter.unusedSimpArgs false
noncomputable section
namespace Go.Proofs.YtbilacojhmohmaaGreat.Ae
open Go
theorem noDef_ok (P : Program) : DefOK P ds0 := fun f g m args aw m' aw' h => by cases h
theorem noSum_ok (P : Program) : SumOK P sm0 := fun f g h => by cases h
def cAny : Call := callK FK sm0 ds0 (nat_lit 1000) (nat_lit 20)
theorem cAny_ok : CallOK Tryz.prog cAny := callK_ok (noSum_ok _) (noDef_ok _) _ _
def sameInt (a b : AV) : Bool := vInt a (fun k n => vInt b (fun k' m => bb2 (Nat.beq (kcF k) (kcF k')) (ieqF n m) false) false) false
theorem sameInt_eq {a b : AV} (h : sameInt a b = true) : a = b := by
 cases a <;> first | cases h | skip
 rename_i k n
 cases b <;> first | cases h | skip
 rename_i k' m
 have h : bb2 (Nat.beq (kcF k) (kcF k')) (ieqF n m) false = true := h
 rw [bb2_eq, kcF_eq, kcF_eq] at h
 cases hk : Nat.beq (kc k) (kc k') <;> simp only [hk, cond_true, cond_false, Bool.false_eq_true] at h
 rw [kc_inj hk]
 rw [ieqF_eq, ieq_eq] at h
 rw [eq_of_beq h]
def sameInts (l : List AV) : List AV → Bool := List.rec (motive := fun _ => List AV → Bool) (fun m => List.rec (motive := fun _ => Bool) true (fun _ _ _ => false) m) (fun a _ ih m => List.rec (motive := fun _ => Bool) false (fun b m _ => bb2 (sameInt a b) (ih m) false) m) l
theorem sameInts_eq : ∀ {l m : List AV}, sameInts l m = true → l = m
 | [], [], _ => rfl
 | [], _ :: _, h => by cases h
 | _ :: _, [], h => by cases h
 | a :: l, b :: m, h => by
  have h : bb2 (sameInt a b) (sameInts l m) false = true := h
  rw [bb2_eq] at h
  cases hk : sameInt a b <;> simp only [hk, cond_true, cond_false, Bool.false_eq_true] at h
  rw [sameInt_eq hk, sameInts_eq h]
def fieldCells : List AV := [.int .u8 (.ofNat 1), .int .u8 (.ofNat 2), .int .u8 (.ofNat 4), .int .u8 (.ofNat 8), .int .u8 (.ofNat 16), .int .u8 (.ofNat 32), .int .u8 (.ofNat 64), .int .u8 (.ofNat 128), .int .u8 (.ofNat 29), .int .u8 (.ofNat 58), .int .u8 (.ofNat 116), .int .u8 (.ofNat 232), .int .u8 (.ofNat 205), .int .u8 (.ofNat 135), .int .u8 (.ofNat 19), .int .u8 (.ofNat 38), .int .u8 (.ofNat 76), .int .u8 (.ofNat 152), .int .u8 (.ofNat 45), .int .u8 (.ofNat 90), .int .u8 (.ofNat 180), .int .u8 (.ofNat 117), .int .u8 (.ofNat 234), .int .u8 (.ofNat 201), .int .u8 (.ofNat 143), .int .u8 (.ofNat 3), .int .u8 (.ofNat 6), .int .u8 (.ofNat 12), .int .u8 (.ofNat 24), .int .u8 (.ofNat 48), .int .u8 (.ofNat 96), .int .u8 (.ofNat 192), .int .u8 (.ofNat 157), .int .u8 (.ofNat 39), .int .u8 (.ofNat 78), .int .u8 (.ofNat 156), .int .u8 (.ofNat 37), .int .u8 (.ofNat 74), .int .u8 (.ofNat 148), .int .u8 (.ofNat 53), .int .u8 (.ofNat 106), .int .u8 (.ofNat 212), .int .u8 (.ofNat 181), .int .u8 (.ofNat 119), .int .u8 (.ofNat 238), .int .u8 (.ofNat 193), .int .u8 (.ofNat 159), .int .u8 (.ofNat 35), .int .u8 (.ofNat 70), .int .u8 (.ofNat 140), .int .u8 (.ofNat 5), .int .u8 (.ofNat 10), .int .u8 (.ofNat 20), .int .u8 (.ofNat 40), .int .u8 (.ofNat 80), .int .u8 (.ofNat 160), .int .u8 (.ofNat 93), .int .u8 (.ofNat 186), .int .u8 (.ofNat 105), .int .u8 (.ofNat 210), .int .u8 (.ofNat 185), .int .u8 (.ofNat 111), .int .u8 (.ofNat 222), .int .u8 (.ofNat 161), .int .u8 (.ofNat 95), .int .u8 (.ofNat 190), .int .u8 (.ofNat 97), .int .u8 (.ofNat 194), .int .u8 (.ofNat 153), .int .u8 (.ofNat 47), .int .u8 (.ofNat 94), .int .u8 (.ofNat 188), .int .u8 (.ofNat 101), .int .u8 (.ofNat 202), .int .u8 (.ofNat 137), .int .u8 (.ofNat 15), .int .u8 (.ofNat 30), .int .u8 (.ofNat 60), .int .u8 (.ofNat 120), .int .u8 (.ofNat 240), .int .u8 (.ofNat 253), .int .u8 (.ofNat 231), .int .u8 (.ofNat 211), .int .u8 (.ofNat 187), .int .u8 (.ofNat 107), .int .u8 (.ofNat 214), .int .u8 (.ofNat 177), .int .u8 (.ofNat 127), .int .u8 (.ofNat 254), .int .u8 (.ofNat 225), .int .u8 (.ofNat 223), .int .u8 (.ofNat 163), .int .u8 (.ofNat 91), .int .u8 (.ofNat 182), .int .u8 (.ofNat 113), .int .u8 (.ofNat 226), .int .u8 (.ofNat 217), .int .u8 (.ofNat 175), .int .u8 (.ofNat 67), .int .u8 (.ofNat 134), .int .u8 (.ofNat 17), .int .u8 (.ofNat 34), .int .u8 (.ofNat 68), .int .u8 (.ofNat 136), .int .u8 (.ofNat 13), .int .u8 (.ofNat 26), .int .u8 (.ofNat 52), .int .u8 (.ofNat 104), .int .u8 (.ofNat 208), .int .u8 (.ofNat 189), .int .u8 (.ofNat 103), .int .u8 (.ofNat 206), .int .u8 (.ofNat 129), .int .u8 (.ofNat 31), .int .u8 (.ofNat 62), .int .u8 (.ofNat 124), .int .u8 (.ofNat 248), .int .u8 (.ofNat 237), .int .u8 (.ofNat 199), .int .u8 (.ofNat 147), .int .u8 (.ofNat 59), .int .u8 (.ofNat 118), .int .u8 (.ofNat 236), .int .u8 (.ofNat 197), .int .u8 (.ofNat 151), .int .u8 (.ofNat 51), .int .u8 (.ofNat 102), .int .u8 (.ofNat 204), .int .u8 (.ofNat 133), .int .u8 (.ofNat 23), .int .u8 (.ofNat 46), .int .u8 (.ofNat 92), .int .u8 (.ofNat 184), .int .u8 (.ofNat 109), .int .u8 (.ofNat 218), .int .u8 (.ofNat 169), .int .u8 (.ofNat 79), .int .u8 (.ofNat 158), .int .u8 (.ofNat 33), .int .u8 (.ofNat 66), .int .u8 (.ofNat 132), .int .u8 (.ofNat 21), .int .u8 (.ofNat 42), .int .u8 (.ofNat 84), .int .u8 (.ofNat 168), .int .u8 (.ofNat 77), .int .u8 (.ofNat 154), .int .u8 (.ofNat 41), .int .u8 (.ofNat 82), .int .u8 (.ofNat 164), .int .u8 (.ofNat 85), .int .u8 (.ofNat 170), .int .u8 (.ofNat 73), .int .u8 (.ofNat 146), .int .u8 (.ofNat 57), .int .u8 (.ofNat 114), .int .u8 (.ofNat 228), .int .u8 (.ofNat 213), .int .u8 (.ofNat 183), .int .u8 (.ofNat 115), .int .u8 (.ofNat 230), .int .u8 (.ofNat 209), .int .u8 (.ofNat 191), .int .u8 (.ofNat 99), .int .u8 (.ofNat 198), .int .u8 (.ofNat 145), .int .u8 (.ofNat 63), .int .u8 (.ofNat 126), .int .u8 (.ofNat 252), .int .u8 (.ofNat 229), .int .u8 (.ofNat 215), .int .u8 (.ofNat 179), .int .u8 (.ofNat 123), .int .u8 (.ofNat 246), .int .u8 (.ofNat 241), .int .u8 (.ofNat 255), .int .u8 (.ofNat 227), .int .u8 (.ofNat 219), .int .u8 (.ofNat 171), .int .u8 (.ofNat 75), .int .u8 (.ofNat 150), .int .u8 (.ofNat 49), .int .u8 (.ofNat 98), .int .u8 (.ofNat 196), .int .u8 (.ofNat 149), .int .u8 (.ofNat 55), .int .u8 (.ofNat 110), .int .u8 (.ofNat 220), .int .u8 (.ofNat 165), .int .u8 (.ofNat 87), .int .u8 (.ofNat 174), .int .u8 (.ofNat 65), .int .u8 (.ofNat 130), .int .u8 (.ofNat 25), .int .u8 (.ofNat 50), .int .u8 (.ofNat 100), .int .u8 (.ofNat 200), .int .u8 (.ofNat 141), .int .u8 (.ofNat 7), .int .u8 (.ofNat 14), .int .u8 (.ofNat 28), .int .u8 (.ofNat 56), .int .u8 (.ofNat 112), .int .u8 (.ofNat 224), .int .u8 (.ofNat 221), .int .u8 (.ofNat 167), .int .u8 (.ofNat 83), .int .u8 (.ofNat 166), .int .u8 (.ofNat 81), .int .u8 (.ofNat 162), .int .u8 (.ofNat 89), .int .u8 (.ofNat 178), .int .u8 (.ofNat 121), .int .u8 (.ofNat 242), .int .u8 (.ofNat 249), .int .u8 (.ofNat 239), .int .u8 (.ofNat 195), .int .u8 (.ofNat 155), .int .u8 (.ofNat 43), .int .u8 (.ofNat 86), .int .u8 (.ofNat 172), .int .u8 (.ofNat 69), .int .u8 (.ofNat 138), .int .u8 (.ofNat 9), .int .u8 (.ofNat 18), .int .u8 (.ofNat 36), .int .u8 (.ofNat 72), .int .u8 (.ofNat 144), .int .u8 (.ofNat 61), .int .u8 (.ofNat 122), .int .u8 (.ofNat 244), .int .u8 (.ofNat 245), .int .u8 (.ofNat 247), .int .u8 (.ofNat 243), .int .u8 (.ofNat 251), .int .u8 (.ofNat 235), .int .u8 (.ofNat 203), .int .u8 (.ofNat 139), .int .u8 (.ofNat 11), .int .u8 (.ofNat 22), .int .u8 (.ofNat 44), .int .u8 (.ofNat 88), .int .u8 (.ofNat 176), .int .u8 (.ofNat 125), .int .u8 (.ofNat 250), .int .u8 (.ofNat 233), .int .u8 (.ofNat 207), .int .u8 (.ofNat 131), .int .u8 (.ofNat 27), .int .u8 (.ofNat 54), .int .u8 (.ofNat 108), .int .u8 (.ofNat 216), .int .u8 (.ofNat 173), .int .u8 (.ofNat 71), .int .u8 (.ofNat 142), .int .u8 (.ofNat 1), .int .u8 (.ofNat 2), .int .u8 (.ofNat 4), .int .u8 (.ofNat 8), .int .u8 (.ofNat 16), .int .u8 (.ofNat 32), .int .u8 (.ofNat 64), .int .u8 (.ofNat 128), .int .u8 (.ofNat 29), .int .u8 (.ofNat 58), .int .u8 (.ofNat 116), .int .u8 (.ofNat 232), .int .u8 (.ofNat 205), .int .u8 (.ofNat 135), .int .u8 (.ofNat 19), .int .u8 (.ofNat 38), .int .u8 (.ofNat 76), .int .u8 (.ofNat 152), .int .u8 (.ofNat 45), .int .u8 (.ofNat 90), .int .u8 (.ofNat 180), .int .u8 (.ofNat 117), .int .u8 (.ofNat 234), .int .u8 (.ofNat 201), .int .u8 (.ofNat 143), .int .u8 (.ofNat 3), .int .u8 (.ofNat 6), .int .u8 (.ofNat 12), .int .u8 (.ofNat 24), .int .u8 (.ofNat 48), .int .u8 (.ofNat 96), .int .u8 (.ofNat 192), .int .u8 (.ofNat 157), .int .u8 (.ofNat 39), .int .u8 (.ofNat 78), .int .u8 (.ofNat 156), .int .u8 (.ofNat 37), .int .u8 (.ofNat 74), .int .u8 (.ofNat 148), .int .u8 (.ofNat 53), .int .u8 (.ofNat 106), .int .u8 (.ofNat 212), .int .u8 (.ofNat 181), .int .u8 (.ofNat 119), .int .u8 (.ofNat 238), .int .u8 (.ofNat 193), .int .u8 (.ofNat 159), .int .u8 (.ofNat 35), .int .u8 (.ofNat 70), .int .u8 (.ofNat 140), .int .u8 (.ofNat 5), .int .u8 (.ofNat 10), .int .u8 (.ofNat 20), .int .u8 (.ofNat 40), .int .u8 (.ofNat 80), .int .u8 (.ofNat 160), .int .u8 (.ofNat 93), .int .u8 (.ofNat 186), .int .u8 (.ofNat 105), .int .u8 (.ofNat 210), .int .u8 (.ofNat 185), .int .u8 (.ofNat 111), .int .u8 (.ofNat 222), .int .u8 (.ofNat 161), .int .u8 (.ofNat 95), .int .u8 (.ofNat 190), .int .u8 (.ofNat 97), .int .u8 (.ofNat 194), .int .u8 (.ofNat 153), .int .u8 (.ofNat 47), .int .u8 (.ofNat 94), .int .u8 (.ofNat 188), .int .u8 (.ofNat 101), .int .u8 (.ofNat 202), .int .u8 (.ofNat 137), .int .u8 (.ofNat 15), .int .u8 (.ofNat 30), .int .u8 (.ofNat 60), .int .u8 (.ofNat 120), .int .u8 (.ofNat 240), .int .u8 (.ofNat 253), .int .u8 (.ofNat 231), .int .u8 (.ofNat 211), .int .u8 (.ofNat 187), .int .u8 (.ofNat 107), .int .u8 (.ofNat 214), .int .u8 (.ofNat 177), .int .u8 (.ofNat 127), .int .u8 (.ofNat 254), .int .u8 (.ofNat 225), .int .u8 (.ofNat 223), .int .u8 (.ofNat 163), .int .u8 (.ofNat 91), .int .u8 (.ofNat 182), .int .u8 (.ofNat 113), .int .u8 (.ofNat 226), .int .u8 (.ofNat 217), .int .u8 (.ofNat 175), .int .u8 (.ofNat 67), .int .u8 (.ofNat 134), .int .u8 (.ofNat 17), .int .u8 (.ofNat 34), .int .u8 (.ofNat 68), .int .u8 (.ofNat 136), .int .u8 (.ofNat 13), .int .u8 (.ofNat 26), .int .u8 (.ofNat 52), .int .u8 (.ofNat 104), .int .u8 (.ofNat 208), .int .u8 (.ofNat 189), .int .u8 (.ofNat 103), .int .u8 (.ofNat 206), .int .u8 (.ofNat 129), .int .u8 (.ofNat 31), .int .u8 (.ofNat 62), .int .u8 (.ofNat 124), .int .u8 (.ofNat 248), .int .u8 (.ofNat 237), .int .u8 (.ofNat 199), .int .u8 (.ofNat 147), .int .u8 (.ofNat 59), .int .u8 (.ofNat 118), .int .u8 (.ofNat 236), .int .u8 (.ofNat 197), .int .u8 (.ofNat 151), .int .u8 (.ofNat 51), .int .u8 (.ofNat 102), .int .u8 (.ofNat 204), .int .u8 (.ofNat 133), .int .u8 (.ofNat 23), .int .u8 (.ofNat 46), .int .u8 (.ofNat 92), .int .u8 (.ofNat 184), .int .u8 (.ofNat 109), .int .u8 (.ofNat 218), .int .u8 (.ofNat 169), .int .u8 (.ofNat 79), .int .u8 (.ofNat 158), .int .u8 (.ofNat 33), .int .u8 (.ofNat 66), .int .u8 (.ofNat 132), .int .u8 (.ofNat 21), .int .u8 (.ofNat 42), .int .u8 (.ofNat 84), .int .u8 (.ofNat 168), .int .u8 (.ofNat 77), .int .u8 (.ofNat 154), .int .u8 (.ofNat 41), .int .u8 (.ofNat 82), .int .u8 (.ofNat 164), .int .u8 (.ofNat 85), .int .u8 (.ofNat 170), .int .u8 (.ofNat 73), .int .u8 (.ofNat 146), .int .u8 (.ofNat 57), .int .u8 (.ofNat 114), .int .u8 (.ofNat 228), .int .u8 (.ofNat 213), .int .u8 (.ofNat 183), .int .u8 (.ofNat 115), .int .u8 (.ofNat 230), .int .u8 (.ofNat 209), .int .u8 (.ofNat 191), .int .u8 (.ofNat 99), .int .u8 (.ofNat 198), .int .u8 (.ofNat 145), .int .u8 (.ofNat 63), .int .u8 (.ofNat 126), .int .u8 (.ofNat 252), .int .u8 (.ofNat 229), .int .u8 (.ofNat 215), .int .u8 (.ofNat 179), .int .u8 (.ofNat 123), .int .u8 (.ofNat 246), .int .u8 (.ofNat 241), .int .u8 (.ofNat 255), .int .u8 (.ofNat 227), .int .u8 (.ofNat 219), .int .u8 (.ofNat 171), .int .u8 (.ofNat 75), .int .u8 (.ofNat 150), .int .u8 (.ofNat 49), .int .u8 (.ofNat 98), .int .u8 (.ofNat 196), .int .u8 (.ofNat 149), .int .u8 (.ofNat 55), .int .u8 (.ofNat 110), .int .u8 (.ofNat 220), .int .u8 (.ofNat 165), .int .u8 (.ofNat 87), .int .u8 (.ofNat 174), .int .u8 (.ofNat 65), .int .u8 (.ofNat 130), .int .u8 (.ofNat 25), .int .u8 (.ofNat 50), .int .u8 (.ofNat 100), .int .u8 (.ofNat 200), .int .u8 (.ofNat 141), .int .u8 (.ofNat 7), .int .u8 (.ofNat 14), .int .u8 (.ofNat 28), .int .u8 (.ofNat 56), .int .u8 (.ofNat 112), .int .u8 (.ofNat 224), .int .u8 (.ofNat 221), .int .u8 (.ofNat 167), .int .u8 (.ofNat 83), .int .u8 (.ofNat 166), .int .u8 (.ofNat 81), .int .u8 (.ofNat 162), .int .u8 (.ofNat 89), .int .u8 (.ofNat 178), .int .u8 (.ofNat 121), .int .u8 (.ofNat 242), .int .u8 (.ofNat 249), .int .u8 (.ofNat 239), .int .u8 (.ofNat 195), .int .u8 (.ofNat 155), .int .u8 (.ofNat 43), .int .u8 (.ofNat 86), .int .u8 (.ofNat 172), .int .u8 (.ofNat 69), .int .u8 (.ofNat 138), .int .u8 (.ofNat 9), .int .u8 (.ofNat 18), .int .u8 (.ofNat 36), .int .u8 (.ofNat 72), .int .u8 (.ofNat 144), .int .u8 (.ofNat 61), .int .u8 (.ofNat 122), .int .u8 (.ofNat 244), .int .u8 (.ofNat 245), .int .u8 (.ofNat 247), .int .u8 (.ofNat 243), .int .u8 (.ofNat 251), .int .u8 (.ofNat 235), .int .u8 (.ofNat 203), .int .u8 (.ofNat 139), .int .u8 (.ofNat 11), .int .u8 (.ofNat 22), .int .u8 (.ofNat 44), .int .u8 (.ofNat 88), .int .u8 (.ofNat 176), .int .u8 (.ofNat 125), .int .u8 (.ofNat 250), .int .u8 (.ofNat 233), .int .u8 (.ofNat 207), .int .u8 (.ofNat 131), .int .u8 (.ofNat 27), .int .u8 (.ofNat 54), .int .u8 (.ofNat 108), .int .u8 (.ofNat 216), .int .u8 (.ofNat 173), .int .u8 (.ofNat 71), .int .u8 (.ofNat 142), .int .i64 (.ofNat 0), .int .i64 (.ofNat 0), .int .i64 (.ofNat 1), .int .i64 (.ofNat 25), .int .i64 (.ofNat 2), .int .i64 (.ofNat 50), .int .i64 (.ofNat 26), .int .i64 (.ofNat 198), .int .i64 (.ofNat 3), .int .i64 (.ofNat 223), .int .i64 (.ofNat 51), .int .i64 (.ofNat 238), .int .i64 (.ofNat 27), .int .i64 (.ofNat 104), .int .i64 (.ofNat 199), .int .i64 (.ofNat 75), .int .i64 (.ofNat 4), .int .i64 (.ofNat 100), .int .i64 (.ofNat 224), .int .i64 (.ofNat 14), .int .i64 (.ofNat 52), .int .i64 (.ofNat 141), .int .i64 (.ofNat 239), .int .i64 (.ofNat 129), .int .i64 (.ofNat 28), .int .i64 (.ofNat 193), .int .i64 (.ofNat 105), .int .i64 (.ofNat 248), .int .i64 (.ofNat 200), .int .i64 (.ofNat 8), .int .i64 (.ofNat 76), .int .i64 (.ofNat 113), .int .i64 (.ofNat 5), .int .i64 (.ofNat 138), .int .i64 (.ofNat 101), .int .i64 (.ofNat 47), .int .i64 (.ofNat 225), .int .i64 (.ofNat 36), .int .i64 (.ofNat 15), .int .i64 (.ofNat 33), .int .i64 (.ofNat 53), .int .i64 (.ofNat 147), .int .i64 (.ofNat 142), .int .i64 (.ofNat 218), .int .i64 (.ofNat 240), .int .i64 (.ofNat 18), .int .i64 (.ofNat 130), .int .i64 (.ofNat 69), .int .i64 (.ofNat 29), .int .i64 (.ofNat 181), .int .i64 (.ofNat 194), .int .i64 (.ofNat 125), .int .i64 (.ofNat 106), .int .i64 (.ofNat 39), .int .i64 (.ofNat 249), .int .i64 (.ofNat 185), .int .i64 (.ofNat 201), .int .i64 (.ofNat 154), .int .i64 (.ofNat 9), .int .i64 (.ofNat 120), .int .i64 (.ofNat 77), .int .i64 (.ofNat 228), .int .i64 (.ofNat 114), .int .i64 (.ofNat 166), .int .i64 (.ofNat 6), .int .i64 (.ofNat 191), .int .i64 (.ofNat 139), .int .i64 (.ofNat 98), .int .i64 (.ofNat 102), .int .i64 (.ofNat 221), .int .i64 (.ofNat 48), .int .i64 (.ofNat 253), .int .i64 (.ofNat 226), .int .i64 (.ofNat 152), .int .i64 (.ofNat 37), .int .i64 (.ofNat 179), .int .i64 (.ofNat 16), .int .i64 (.ofNat 145), .int .i64 (.ofNat 34), .int .i64 (.ofNat 136), .int .i64 (.ofNat 54), .int .i64 (.ofNat 208), .int .i64 (.ofNat 148), .int .i64 (.ofNat 206), .int .i64 (.ofNat 143), .int .i64 (.ofNat 150), .int .i64 (.ofNat 219), .int .i64 (.ofNat 189), .int .i64 (.ofNat 241), .int .i64 (.ofNat 210), .int .i64 (.ofNat 19), .int .i64 (.ofNat 92), .int .i64 (.ofNat 131), .int .i64 (.ofNat 56), .int .i64 (.ofNat 70), .int .i64 (.ofNat 64), .int .i64 (.ofNat 30), .int .i64 (.ofNat 66), .int .i64 (.ofNat 182), .int .i64 (.ofNat 163), .int .i64 (.ofNat 195), .int .i64 (.ofNat 72), .int .i64 (.ofNat 126), .int .i64 (.ofNat 110), .int .i64 (.ofNat 107), .int .i64 (.ofNat 58), .int .i64 (.ofNat 40), .int .i64 (.ofNat 84), .int .i64 (.ofNat 250), .int .i64 (.ofNat 133), .int .i64 (.ofNat 186), .int .i64 (.ofNat 61), .int .i64 (.ofNat 202), .int .i64 (.ofNat 94), .int .i64 (.ofNat 155), .int .i64 (.ofNat 159), .int .i64 (.ofNat 10), .int .i64 (.ofNat 21), .int .i64 (.ofNat 121), .int .i64 (.ofNat 43), .int .i64 (.ofNat 78), .int .i64 (.ofNat 212), .int .i64 (.ofNat 229), .int .i64 (.ofNat 172), .int .i64 (.ofNat 115), .int .i64 (.ofNat 243), .int .i64 (.ofNat 167), .int .i64 (.ofNat 87), .int .i64 (.ofNat 7), .int .i64 (.ofNat 112), .int .i64 (.ofNat 192), .int .i64 (.ofNat 247), .int .i64 (.ofNat 140), .int .i64 (.ofNat 128), .int .i64 (.ofNat 99), .int .i64 (.ofNat 13), .int .i64 (.ofNat 103), .int .i64 (.ofNat 74), .int .i64 (.ofNat 222), .int .i64 (.ofNat 237), .int .i64 (.ofNat 49), .int .i64 (.ofNat 197), .int .i64 (.ofNat 254), .int .i64 (.ofNat 24), .int .i64 (.ofNat 227), .int .i64 (.ofNat 165), .int .i64 (.ofNat 153), .int .i64 (.ofNat 119), .int .i64 (.ofNat 38), .int .i64 (.ofNat 184), .int .i64 (.ofNat 180), .int .i64 (.ofNat 124), .int .i64 (.ofNat 17), .int .i64 (.ofNat 68), .int .i64 (.ofNat 146), .int .i64 (.ofNat 217), .int .i64 (.ofNat 35), .int .i64 (.ofNat 32), .int .i64 (.ofNat 137), .int .i64 (.ofNat 46), .int .i64 (.ofNat 55), .int .i64 (.ofNat 63), .int .i64 (.ofNat 209), .int .i64 (.ofNat 91), .int .i64 (.ofNat 149), .int .i64 (.ofNat 188), .int .i64 (.ofNat 207), .int .i64 (.ofNat 205), .int .i64 (.ofNat 144), .int .i64 (.ofNat 135), .int .i64 (.ofNat 151), .int .i64 (.ofNat 178), .int .i64 (.ofNat 220), .int .i64 (.ofNat 252), .int .i64 (.ofNat 190), .int .i64 (.ofNat 97), .int .i64 (.ofNat 242), .int .i64 (.ofNat 86), .int .i64 (.ofNat 211), .int .i64 (.ofNat 171), .int .i64 (.ofNat 20), .int .i64 (.ofNat 42), .int .i64 (.ofNat 93), .int .i64 (.ofNat 158), .int .i64 (.ofNat 132), .int .i64 (.ofNat 60), .int .i64 (.ofNat 57), .int .i64 (.ofNat 83), .int .i64 (.ofNat 71), .int .i64 (.ofNat 109), .int .i64 (.ofNat 65), .int .i64 (.ofNat 162), .int .i64 (.ofNat 31), .int .i64 (.ofNat 45), .int .i64 (.ofNat 67), .int .i64 (.ofNat 216), .int .i64 (.ofNat 183), .int .i64 (.ofNat 123), .int .i64 (.ofNat 164), .int .i64 (.ofNat 118), .int .i64 (.ofNat 196), .int .i64 (.ofNat 23), .int .i64 (.ofNat 73), .int .i64 (.ofNat 236), .int .i64 (.ofNat 127), .int .i64 (.ofNat 12), .int .i64 (.ofNat 111), .int .i64 (.ofNat 246), .int .i64 (.ofNat 108), .int .i64 (.ofNat 161), .int .i64 (.ofNat 59), .int .i64 (.ofNat 82), .int .i64 (.ofNat 41), .int .i64 (.ofNat 157), .int .i64 (.ofNat 85), .int .i64 (.ofNat 170), .int .i64 (.ofNat 251), .int .i64 (.ofNat 96), .int .i64 (.ofNat 134), .int .i64 (.ofNat 177), .int .i64 (.ofNat 187), .int .i64 (.ofNat 204), .int .i64 (.ofNat 62), .int .i64 (.ofNat 90), .int .i64 (.ofNat 203), .int .i64 (.ofNat 89), .int .i64 (.ofNat 95), .int .i64 (.ofNat 176), .int .i64 (.ofNat 156), .int .i64 (.ofNat 169), .int .i64 (.ofNat 160), .int .i64 (.ofNat 81), .int .i64 (.ofNat 11), .int .i64 (.ofNat 245), .int .i64 (.ofNat 22), .int .i64 (.ofNat 235), .int .i64 (.ofNat 122), .int .i64 (.ofNat 117), .int .i64 (.ofNat 44), .int .i64 (.ofNat 215), .int .i64 (.ofNat 79), .int .i64 (.ofNat 174), .int .i64 (.ofNat 213), .int .i64 (.ofNat 233), .int .i64 (.ofNat 230), .int .i64 (.ofNat 231), .int .i64 (.ofNat 173), .int .i64 (.ofNat 232), .int .i64 (.ofNat 116), .int .i64 (.ofNat 214), .int .i64 (.ofNat 244), .int .i64 (.ofNat 234), .int .i64 (.ofNat 168), .int .i64 (.ofNat 80), .int .i64 (.ofNat 88), .int .i64 (.ofNat 175)]
def sees49 (r : Option ARes) : Bool := match r with
 | some (.ret (.ptr (some (0, 0))) aw) => match aw.get 0 with
  | some (.cells l e b) => sameInts l fieldCells && (Nat.beq e 177 && !b)
  | _ => false
 | _ => false
theorem run49 : sees49 (cAny 49 [] ⟨.leaf, 0, 0⟩) = true := by kernel_rfl
theorem plainField : plainL fieldCells = true := by kernel_rfl
def g49 (args : List AV) (aw : AW) : Option ARes := match args with
 | [] => some (.ret (.ptr (some (aw.nx, 0))) (awAdd aw (.cells fieldCells 177 false)))
 | _ => none
theorem s49 : ∀ args aw res, g49 args aw = some res → callable Tryz.prog 49 = true ∧ ∀ E w cargs, LRel E args cargs → Rel E aw w →
  Calls Tryz.prog 49 cargs.toArray w fun e w' => ∃ E', E.Le E' ∧ ResRel E' res e w' := by
 intro args aw res h
 unfold g49 at h
 split at h <;> (try (cases h; done))
 simp only [sI] at h; subst h
 have hrun := run49
 unfold sees49 at hrun
 split at hrun <;> (try (cases hrun; done))
 rename_i aw0 h0
 split at hrun <;> (try (cases hrun; done))
 rename_i l e b hg
 simp only [Bool.and_eq_true, Bool.not_eq_true'] at hrun
 obtain ⟨h1, h2, h3⟩ := hrun
 have := sameInts_eq h1; subst this
 have := nbt h2; subst this
 subst h3
 obtain ⟨a1, a2⟩ := sum_fresh cAny_ok (args := []) (by simp) h0 hg plainField
 rw [awAdd_eq]
 exact ⟨a1, fun E w cargs hr hR => a2 E aw w cargs hr hR⟩
def mulAt (n : Nat) : Bool := match cAny 350 [.ptr (some (0, 0)), .int .u8 (.ofNat 1), .int .u8 (.ofNat n)] (ofObjs [.cells fieldCells 177 false] 1) with
 | some (.ret (.int .u8 (.ofNat m)) aw) => Nat.beq m n && (match aw.get 0 with
  | some (.cells l e b) => sameInts l fieldCells && (Nat.beq e 177 && !b)
  | _ => false)
 | _ => false
def allN (f : Nat → Bool) (n : Nat) : Bool := Nat.rec (motive := fun _ => Bool) true (fun i ih => bb2 (f i) ih false) n
theorem allN_ok {f : Nat → Bool} : ∀ {n : Nat}, allN f n = true → ∀ i, i < n → f i = true
 | 0, _, i, hi => by omega
 | n + 1, h, i, hi => by
  have h : bb2 (f n) (allN f n) false = true := h
  rw [bb2_eq] at h
  cases hf : f n <;> simp only [hf, cond_true, cond_false, Bool.false_eq_true] at h
  by_cases e : i = n
  ·subst e; exact hf
  ·exact allN_ok h i (by omega)
theorem mul_0 : allN (fun i => mulAt (Nat.add i (nat_lit 0))) (nat_lit 32) = true := by kernel_rfl
theorem mul_1 : allN (fun i => mulAt (Nat.add i (nat_lit 32))) (nat_lit 32) = true := by kernel_rfl
theorem mul_2 : allN (fun i => mulAt (Nat.add i (nat_lit 64))) (nat_lit 32) = true := by kernel_rfl
theorem mul_3 : allN (fun i => mulAt (Nat.add i (nat_lit 96))) (nat_lit 32) = true := by kernel_rfl
theorem mul_4 : allN (fun i => mulAt (Nat.add i (nat_lit 128))) (nat_lit 32) = true := by kernel_rfl
theorem mul_5 : allN (fun i => mulAt (Nat.add i (nat_lit 160))) (nat_lit 32) = true := by kernel_rfl
theorem mul_6 : allN (fun i => mulAt (Nat.add i (nat_lit 192))) (nat_lit 32) = true := by kernel_rfl
theorem mul_7 : allN (fun i => mulAt (Nat.add i (nat_lit 224))) (nat_lit 32) = true := by kernel_rfl
theorem mul_all (n : Nat) (h : n < 256) : mulAt n = true := by
 have key : ∀ b, allN (fun i => mulAt (Nat.add i b)) 32 = true → b ≤ n → n < b + 32 → mulAt n = true := fun b hb h1 h2 => by
  have := allN_ok hb (n - b) (by omega)
  have e : Nat.add (n - b) b = n := by show n - b + b = n; omega
  simpa only [e] using this
 rcases Nat.lt_or_ge n 32 with h0 | h0
 ·exact key 0 mul_0 (by omega) h0
 rcases Nat.lt_or_ge n 64 with h1 | h1
 ·exact key 32 mul_1 h0 (by omega)
 rcases Nat.lt_or_ge n 96 with h2 | h2
 ·exact key 64 mul_2 h1 (by omega)
 rcases Nat.lt_or_ge n 128 with h3 | h3
 ·exact key 96 mul_3 h2 (by omega)
 rcases Nat.lt_or_ge n 160 with h4 | h4
 ·exact key 128 mul_4 h3 (by omega)
 rcases Nat.lt_or_ge n 192 with h5 | h5
 ·exact key 160 mul_5 h4 (by omega)
 rcases Nat.lt_or_ge n 224 with h6 | h6
 ·exact key 192 mul_6 h5 (by omega)
 exact key 224 mul_7 h6 (by omega)
def g350 (args : List AV) (aw : AW) : Option ARes := match args with
 | [.ptr (some (id, 0)), .int .u8 (.ofNat 1), .sym .u8 j] => match awGet aw id with
  | some (.cells l e b) => bb2 (sameInts l fieldCells) (bb2 (Nat.beq e 177) (bb2 b none (some (.ret (.sym .u8 j) aw))) none) none
  | _ => none
 | args => cAny 350 args aw
theorem wrap_u8 {n : Int} (h : IntKind.u8.wrap n = n) : ∃ m : Nat, n = .ofNat m ∧ m < 256 := by
 have : 0 ≤ n ∧ n < 256 := by
  rw [← h]
  simp only [IntKind.wrap, IntKind.bits, IntKind.signed]
  simp
  omega
 exact ⟨n.toNat, by show n = ((n.toNat : Nat) : Int); omega, by omega⟩
theorem s350 : ∀ args aw res, g350 args aw = some res → callable Tryz.prog 350 = true ∧ ∀ E w cargs, LRel E args cargs → Rel E aw w →
  Calls Tryz.prog 350 cargs.toArray w fun e w' => ∃ E', E.Le E' ∧ ResRel E' res e w' := by
 intro args aw res h
 unfold g350 at h
 split at h
 ·rename_i id j
  rw [awGet_eq] at h
  split at h <;> (try (cases h; done))
  rename_i l e b hg
  simp only [bb2_eq] at h
  cases h1 : sameInts l fieldCells <;> simp only [h1, cond_true, cond_false, reduceCtorEq] at h
  cases h2 : Nat.beq e 177 <;> simp only [h2, cond_true, cond_false, reduceCtorEq] at h
  cases b <;> simp only [cond_true, cond_false, reduceCtorEq, sI] at h
  subst h
  have := sameInts_eq h1; subst this
  have := nbt h2; subst this
  have hcall : callable Tryz.prog 350 = true := by
   have := mul_all 0 (by decide)
   unfold mulAt at this
   split at this
   ·rename_i h0; exact (cAny_ok _ _ _ _ h0).1
   ·cases this
  refine ⟨hcall, fun E w cargs hr hR => ?_⟩
  cases hr with
  | cons r1 t1 => cases t1 with
   | cons r2 t2 => cases t2 with
    | cons r3 t3 =>
     cases t3
     cases r2
     cases r3 with
     | sym _ hs hw =>
      rename_i n
      obtain ⟨m, rfl, hm⟩ := wrap_u8 hw
      cases r1 with
      | ptr hL =>
       rename_i L
       have hrun := mul_all m hm
       unfold mulAt at hrun
       split at hrun <;> (try (cases hrun; done))
       rename_i m2 aw2 h0
       simp only [Bool.and_eq_true] at hrun
       obtain ⟨e1, e2⟩ := hrun
       have := nbt e1; subst this
       split at e2 <;> (try (cases e2; done))
       rename_i l2 ee2 b2 hg2
       simp only [Bool.and_eq_true, Bool.not_eq_true'] at e2
       obtain ⟨q1, q2, q3⟩ := e2
       have := sameInts_eq q1; subst this
       have := nbt q2; subst this
       subst q3
       obtain ⟨L', hL', ho⟩ := hR.obj id _ hg
       rw [hL] at hL'; injection hL' with hL'; subst hL'
       have hR0 := oneE_rel (L := L) hR (ho.plain plainField)
       refine ((cAny_ok _ _ _ _ h0).2 (oneE E w L) w _ (.cons (.ptr (L := L) rfl) (.cons (.int _ _) (.cons (.int _ _) .nil))) hR0).mono fun en w' hres => ?_
       obtain ⟨E1, hle, hres⟩ := hres
       cases en with
       | returned cv =>
        obtain ⟨hR1, hv⟩ := hres
        cases hv
        have hL0 : E1.loc[0]? = some L := hle.loc (i := 0) rfl
        obtain ⟨L2, hL2, ho2⟩ := hR1.obj 0 _ hg2
        rw [hL0] at hL2; injection hL2 with hL2; subst hL2
        exact ⟨E, .refl E, oneE_back hR hg rfl hL hle hR1 (ho2.plain plainField), .sym _ hs hw⟩
       | panicked ch => exact hres.elim
       | outgrown => exact hres.elim
 ·exact cAny_ok _ _ _ _ h
def partsG (R : Int) : List AV := [partG 0 R, partG 1 R, partG 2 R, partG 3 R]
def foldR (cs : List Int) : Int := cs.foldl stepG (.ofNat (nat_lit 4294967295))
def SealRun (n : Nat) : Prop := ∀ (cs : List Int), cs.length = n → ∀ (rest : List AV) (e : TypeId) (opn : Bool) (cap : Cap), see (cSeal 233 [.slc (some (0, 0)) n cap] (ofObjs [.cells (cs.map (AV.int .u8) ++ rest) e opn] 1)) =
 some (3, n + 4, .upto 1 (n + 4), some (.cells (cs.map (AV.int .u8) ++ rest) e opn), some (.cells (cs.map (AV.int .u8) ++ partsG (foldR cs)) 5 true))
theorem sealRun5 : SealRun 5 := by
 intro cs h rest e opn cap
 rcases cs with _ | ⟨x0, cs⟩
 ·simp at h
 rcases cs with _ | ⟨x1, cs⟩
 ·simp at h
 rcases cs with _ | ⟨x2, cs⟩
 ·simp at h
 rcases cs with _ | ⟨x3, cs⟩
 ·simp at h
 rcases cs with _ | ⟨x4, cs⟩
 ·simp at h
 rcases cs with _ | ⟨z, cs⟩
 rotate_left
 ·simp at h
 exact seal5 x0 x1 x2 x3 x4 rest e opn cap
theorem sealRun13 : SealRun 13 := by
 intro cs h rest e opn cap
 rcases cs with _ | ⟨x0, cs⟩
 ·simp at h
 rcases cs with _ | ⟨x1, cs⟩
 ·simp at h
 rcases cs with _ | ⟨x2, cs⟩
 ·simp at h
 rcases cs with _ | ⟨x3, cs⟩
 ·simp at h
 rcases cs with _ | ⟨x4, cs⟩
 ·simp at h
 rcases cs with _ | ⟨x5, cs⟩
 ·simp at h
 rcases cs with _ | ⟨x6, cs⟩
 ·simp at h
 rcases cs with _ | ⟨x7, cs⟩
 ·simp at h
 rcases cs with _ | ⟨x8, cs⟩
 ·simp at h
 rcases cs with _ | ⟨x9, cs⟩
 ·simp at h
 rcases cs with _ | ⟨x10, cs⟩
 ·simp at h
 rcases cs with _ | ⟨x11, cs⟩
 ·simp at h
 rcases cs with _ | ⟨x12, cs⟩
 ·simp at h
 rcases cs with _ | ⟨z, cs⟩
 rotate_left
 ·simp at h
 exact seal13 x0 x1 x2 x3 x4 x5 x6 x7 x8 x9 x10 x11 x12 rest e opn cap
theorem sealRun15 : SealRun 15 := by
 intro cs h rest e opn cap
 rcases cs with _ | ⟨x0, cs⟩
 ·simp at h
 rcases cs with _ | ⟨x1, cs⟩
 ·simp at h
 rcases cs with _ | ⟨x2, cs⟩
 ·simp at h
 rcases cs with _ | ⟨x3, cs⟩
 ·simp at h
 rcases cs with _ | ⟨x4, cs⟩
 ·simp at h
 rcases cs with _ | ⟨x5, cs⟩
 ·simp at h
 rcases cs with _ | ⟨x6, cs⟩
 ·simp at h
 rcases cs with _ | ⟨x7, cs⟩
 ·simp at h
 rcases cs with _ | ⟨x8, cs⟩
 ·simp at h
 rcases cs with _ | ⟨x9, cs⟩
 ·simp at h
 rcases cs with _ | ⟨x10, cs⟩
 ·simp at h
 rcases cs with _ | ⟨x11, cs⟩
 ·simp at h
 rcases cs with _ | ⟨x12, cs⟩
 ·simp at h
 rcases cs with _ | ⟨x13, cs⟩
 ·simp at h
 rcases cs with _ | ⟨x14, cs⟩
 ·simp at h
 rcases cs with _ | ⟨z, cs⟩
 rotate_left
 ·simp at h
 exact seal15 x0 x1 x2 x3 x4 x5 x6 x7 x8 x9 x10 x11 x12 x13 x14 rest e opn cap
def isLen (n : Nat) : Bool := bb2 (Nat.beq n 5) true (bb2 (Nat.beq n 13) true (Nat.beq n 15))
theorem sealRun {n : Nat} (h : isLen n = true) : SealRun n := by
 unfold isLen at h
 simp only [bb2_eq] at h
 cases h1 : Nat.beq n 5 with
 | true => rw [nbt h1]; exact sealRun5
 | false =>
  cases h2 : Nat.beq n 13 with
  | true => rw [nbt h2]; exact sealRun13
  | false =>
   simp only [h1, h2, cond_false] at h
   rw [nbt h]; exact sealRun15
theorem stepS_ok : SumOK Tryz.prog sm1 := by
 intro f g hf args aw res hg
 unfold sm1 at hf
 cases hq : Nat.beq f 351 with
 | false =>
  have hf : (bif Nat.beq f 351 then some stepS else none) = some g := hf
  rw [hq] at hf; cases hf
 | true =>
  have hf : (bif Nat.beq f 351 then some stepS else none) = some g := hf
  rw [hq] at hf; injection hf with hf; subst hf
  rw [nbt hq]
  unfold stepS at hg
  split at hg <;> (try (cases hg; done))
  rename_i x c
  simp only [sI] at hg; subst hg
  exact callK_ok (noSum_ok _) (noDef_ok _) _ _ 351 _ aw _ (step_run x c aw)
theorem cSeal_ok : CallOK Tryz.prog cSeal := callK_ok stepS_ok (noDef_ok _) _ _
def codeOf (x : AV) : Option Nat := match x with
 | .int .u8 (.ofNat v) => bb2 (Nat.ble v 255) (some (Nat.succ (Nat.mul 2 v))) none
 | .sym .u8 j => match Nat.mod j 2 with
  | 0 => bb2 (Nat.ble j 1000000) (some (Nat.add j 2)) none
  | _ => none
 | _ => none
def knownOf (x : AV) : Option Nat := match x with
 | .int .u8 (.ofNat v) => bb2 (Nat.ble v 255) (some v) none
 | _ => none
def mapO (f : AV → Option Nat) (l : List AV) : Option (List Nat) := List.rec (motive := fun _ => Option (List Nat)) (some []) (fun a _ ih => Option.rec (motive := fun _ => Option (List Nat)) none (fun x => Option.rec (motive := fun _ => Option (List Nat)) none (fun xs => some (x :: xs)) ih) (f a)) l
theorem mapO_ok {f : AV → Option Nat} : ∀ {l : List AV} {xs : List Nat}, mapO f l = some xs → xs.length = l.length ∧ ∀ (i : Nat) (a : AV), l[i]? = some a → ∃ x, xs[i]? = some x ∧ f a = some x
 | [], xs, h => by
  have h : some [] = some xs := h
  injection h with h; subst h
  exact ⟨rfl, fun i a hi => by simp at hi⟩
 | a :: l, xs, h => by
  have h : Option.rec (motive := fun _ => Option (List Nat)) none (fun x => Option.rec (motive := fun _ => Option (List Nat)) none (fun xs => some (x :: xs)) (mapO f l)) (f a) = some xs := h
  cases ha : f a with
  | none => rw [ha] at h; cases h
  | some x =>
   simp only [ha] at h
   cases hl : mapO f l with
   | none => simp only [hl] at h; cases h
   | some ys =>
    simp only [hl, sI] at h
    subst h
    obtain ⟨h1, h2⟩ := mapO_ok hl
    refine ⟨by simp [h1], fun i b hi => ?_⟩
    cases i with
    | zero => simp at hi; subst hi; exact ⟨x, by simp, ha⟩
    | succ i => simp at hi; simpa using h2 i b hi
def sumK (l : List Nat) : Nat → Nat := List.rec (motive := fun _ => Nat → Nat) (fun r => r) (fun c _ ih r => ih (crcByte r c)) l
theorem sumK_eq : ∀ (l : List Nat) (r : Nat), sumK l r = l.foldl crcByte r
 | [], r => rfl
 | c :: l, r => sumK_eq l (crcByte r c)
def encF (l : List Nat) : Nat := List.rec (motive := fun _ => Nat) (nat_lit 0) (fun e _ ih => Nat.add e (Nat.mul (nat_lit 4294967296) ih)) l
theorem encF_eq : ∀ l : List Nat, encF l = encL l
 | [] => rfl
 | e :: l => congrArg (fun x => Nat.add e (Nat.mul 4294967296 x)) (encF_eq l)
def sumBytes (l : List AV) : Option (List AV) :=
 Option.rec (motive := fun _ => Option (List AV))
  (Option.rec (motive := fun _ => Option (List AV)) none (fun es => some ((fun d => [.sym .u8 (Nat.succ (Nat.mul 2 (Nat.mul 4 d))), .sym .u8 (Nat.succ (Nat.mul 2 (Nat.succ (Nat.mul 4 d)))), .sym .u8 (Nat.succ (Nat.mul 2 (Nat.add (Nat.mul 4 d) 2))), .sym .u8 (Nat.succ (Nat.mul 2 (Nat.add (Nat.mul 4 d) 3)))]) (encF es))) (mapO codeOf l))
  (fun vs => some ((fun r => [.int .u8 (.ofNat (Nat.mod (Nat.div r 16777216) 256)), .int .u8 (.ofNat (Nat.mod (Nat.div r 65536) 256)), .int .u8 (.ofNat (Nat.mod (Nat.div r 256) 256)), .int .u8 (.ofNat (Nat.mod r 256))]) (sumK vs (nat_lit 4294967295)))) (mapO knownOf l)
def okByte (x : AV) : Option Nat := match x with
 | .int .u8 (.ofNat v) => bb2 (Nat.ble v 255) (some 0) none
 | .sym .u8 j => some 0
 | _ => none
def g233 (args : List AV) (aw : AW) : Option ARes := match args with
 | [.slc (some (id, 0)) n cap] => bb2 (isLen n) (match awGet aw id with
  | some (.cells l e b) => bb2 (Nat.ble n (lenF l)) (Option.rec (motive := fun _ => Option ARes) none (fun _ => Option.rec (motive := fun _ => Option ARes) none (fun ps => some (.ret (.slc (some (aw.nx, 0)) (Nat.add n 4) (.upto 1 (Nat.add n 4))) (awAdd aw (.cells (appF (takeF l n) ps) 5 true)))) (sumBytes (takeF l n))) (mapO okByte l)) none
  | _ => none) (cAny 233 args aw)
 | args => cAny 233 args aw
theorem decL_enc : ∀ (l : List Nat) (f : Nat), l.length ≤ f → (∀ e ∈ l, 0 < e ∧ e < 4294967296) → decL f (encL l) = l
 | [], f, _, _ => by cases f <;> rfl
 | e :: l, f, hf, hl => by
  cases f with
  | zero => simp at hf
  | succ f =>
   obtain ⟨h0, h1⟩ := hl e (by simp)
   have henc : encL (e :: l) = e + 4294967296 * encL l := rfl
   have hne : encL (e :: l) ≠ 0 := by omega
   have hm : Nat.mod (encL (e :: l)) 4294967296 = e := by rw [henc]; show (e + 4294967296 * encL l) % 4294967296 = e; omega
   have hd : Nat.div (encL (e :: l)) 4294967296 = encL l := by rw [henc]; show (e + 4294967296 * encL l) / 4294967296 = encL l; omega
   have ih := decL_enc l f (by simpa using hf) fun x hx => hl x (by simp [hx])
   unfold decL
   split
   ·rename_i h; exact (hne h).elim
   ·rw [hm, hd, ih]
theorem codeOf_ok {E : Env} {ρ : Nat → Nat} (hρ : E.sym.f = symVal ρ) {x : AV} {e : Nat} (h : codeOf x = some e) : 0 < e ∧ e < 4294967296 ∧ ∀ v, VRel E x v → ∃ c : Nat, v = .int .u8 (.ofNat c) ∧ c < 256 ∧ evalE ρ e = c := by
 unfold codeOf at h
 split at h <;> (try (cases h; done))
 ·rename_i v
  rw [bb2_eq] at h
  cases hb : Nat.ble v 255 <;> simp only [hb, cond_true, cond_false, reduceCtorEq, sI] at h
  have hb := nbl hb
  have he : e = 2 * v + 1 := h.symm
  subst he
  refine ⟨by omega, by omega, fun w hw => ?_⟩
  cases hw
  refine ⟨v, rfl, by omega, ?_⟩
  unfold evalE
  have h2 : Nat.mod (2 * v + 1) 2 = 1 := by show (2 * v + 1) % 2 = 1; omega
  rw [h2]
  show (2 * v + 1) / 2 = v
  omega
 ·rename_i j
  split at h <;> (try (cases h; done))
  rename_i hj
  rw [bb2_eq] at h
  cases hb : Nat.ble j 1000000 <;> simp only [hb, cond_true, cond_false, reduceCtorEq, sI] at h
  have hb := nbl hb
  have he : e = j + 2 := h.symm
  subst he
  have hj : j % 2 = 0 := hj
  refine ⟨by omega, by omega, fun w hw => ?_⟩
  cases hw with
  | sym _ hs hw =>
   rename_i n
   rw [hρ] at hs
   unfold symVal at hs
   have hj' : Nat.mod j 2 = 0 := hj
   rw [hj'] at hs
   simp only [sI] at hs
   refine ⟨ρ (Nat.div j 2) % 256, by rw [← hs], Nat.mod_lt _ (by decide), ?_⟩
   unfold evalE
   have h2 : Nat.mod (j + 2) 2 = 0 := by show (j + 2) % 2 = 0; omega
   rw [h2]
   show ρ ((j + 2) / 2 - 1) % 256 = ρ (j / 2) % 256
   rw [show (j + 2) / 2 - 1 = j / 2 by omega]
theorem knownOf_ok {E : Env} {x : AV} {c : Nat} (h : knownOf x = some c) : ∀ v, VRel E x v → v = .int .u8 (.ofNat c) ∧ c < 256 := by
 unfold knownOf at h
 split at h <;> (try (cases h; done))
 rename_i v
 rw [bb2_eq] at h
 cases hb : Nat.ble v 255 <;> simp only [hb, cond_true, cond_false, reduceCtorEq, sI] at h
 have hb := nbl hb
 subst h
 intro w hw
 cases hw
 exact ⟨rfl, by omega⟩
theorem okByte_ok {E : Env} {x : AV} {c : Nat} (h : okByte x = some c) (hns : ∃ ρ, E.sym.f = symVal ρ) : (∀ v, VRel E x v → ∃ c : Nat, v = .int .u8 (.ofNat c) ∧ c < 256) ∧ ∀ E' v, E'.sym = E.sym → VRel E' x v → VRel E x v := by
 unfold okByte at h
 split at h <;> (try (cases h; done))
 ·rename_i v
  rw [bb2_eq] at h
  cases hb : Nat.ble v 255 <;> simp only [hb, cond_true, cond_false, reduceCtorEq, sI] at h
  have hb := nbl hb
  exact ⟨fun w hw => by cases hw; exact ⟨v, rfl, by omega⟩, fun E' w _ hw => by cases hw; exact .int _ _⟩
 ·exact ⟨fun w hw => by
   cases hw with
   | sym _ hs hw => obtain ⟨m, rfl, hm⟩ := wrap_u8 hw; exact ⟨m, rfl, hm⟩, fun E' w he hw => by
   cases hw with
   | sym _ hs hw => exact .sym _ (by rw [← he]; exact hs) hw⟩
theorem wrapG_u8 (m : Nat) : wrapG .u8 (.ofNat m) = .ofNat (m % 256) := by
 show bb2 (Nat.ble m (topF .u8)) _ _ = _
 rw [bb2_eq]
 cases h : Nat.ble m (topF .u8) with
 | true =>
  have h : m ≤ 255 := nbl h
  rw [Nat.mod_eq_of_lt (by omega)]; rfl
 | false => rfl
theorem partG_eq (r : Nat) : partsG (.ofNat r) = [.int .u8 (.ofNat (crcPart 0 r)), .int .u8 (.ofNat (crcPart 1 r)), .int .u8 (.ofNat (crcPart 2 r)), .int .u8 (.ofNat (crcPart 3 r))] := by
 have e24 : shr2F (.ofNat r) (minF 24 (bitsF .u32)) = .ofNat (r / 16777216) := by rw [shr2F_eq]; rfl
 have e16 : shr2F (.ofNat r) (minF 16 (bitsF .u32)) = .ofNat (r / 65536) := by rw [shr2F_eq]; rfl
 have e8 : shr2F (.ofNat r) (minF 8 (bitsF .u32)) = .ofNat (r / 256) := by rw [shr2F_eq]; rfl
 show [AV.int .u8 (wrapG .u8 (shr2F (.ofNat r) (minF 24 (bitsF .u32)))), .int .u8 (wrapG .u8 (shr2F (.ofNat r) (minF 16 (bitsF .u32)))), .int .u8 (wrapG .u8 (shr2F (.ofNat r) (minF 8 (bitsF .u32)))), .int .u8 (wrapG .u8 (.ofNat r))] = _
 rw [e24, e16, e8, wrapG_u8, wrapG_u8, wrapG_u8, wrapG_u8]
 have h1 : crcPart 3 r = r % 256 := by show (r / 1) % 256 = r % 256; rw [Nat.div_one]
 rw [h1]
 rfl
theorem sumBytes_ok {E : Env} {ρ : Nat → Nat} (hρ : E.sym.f = symVal ρ) {l ps : List AV} (h : sumBytes l = some ps) (hlen : l.length ≤ 4096) {cs : List Nat} (hl : LRel E l (cs.map fun c => Value.int .u8 (.ofNat c))) (hc : ∀ c ∈ cs, c < 256) :
  LRel E ps [.int .u8 (.ofNat (crcPart 0 (crcSum cs))), .int .u8 (.ofNat (crcPart 1 (crcSum cs))), .int .u8 (.ofNat (crcPart 2 (crcSum cs))), .int .u8 (.ofNat (crcPart 3 (crcSum cs)))] := by
 have hll := hl.length
 simp only [List.length_map] at hll
 unfold sumBytes at h
 cases hk : mapO knownOf l with
 | some vs =>
  simp only [hk, sI] at h
  obtain ⟨k1, k2⟩ := mapO_ok hk
  have hvs : vs = cs := by
   apply List.ext_getElem?
   intro i
   by_cases hi : i < l.length
   ·obtain ⟨x, hx, hkx⟩ := k2 i l[i] (lge hi)
    obtain ⟨v, hv, hr⟩ := hl.get (lge hi)
    obtain ⟨e1, e2⟩ := knownOf_ok hkx v hr
    rw [hx]
    rw [List.getElem?_map, lge (by omega)] at hv
    simp only [Option.map_some, sI] at hv
    rw [lge (by omega)]
    rw [← hv] at e1
    have e1 : cs[i]'(by omega) = x := by injection e1 with _ e; injection e
    rw [e1]
   ·rw [List.getElem?_eq_none (by omega), List.getElem?_eq_none (by omega)]
  subst hvs
  rw [← h, sumK_eq]
  have h3 : Nat.mod (List.foldl crcByte 4294967295 vs) 256 = crcPart 3 (crcSum vs) := by show _ = (crcSum vs / 1) % 256; rw [Nat.div_one]; rfl
  rw [h3]
  exact .cons (.int _ _) (.cons (.int _ _) (.cons (.int _ _) (.cons (.int _ _) .nil)))
 | none =>
  simp only [hk] at h
  cases hm : mapO codeOf l with
  | none => simp only [hm] at h; cases h
  | some es =>
   simp only [hm, sI] at h
   obtain ⟨k1, k2⟩ := mapO_ok hm
   have hes : ∀ e ∈ es, 0 < e ∧ e < 4294967296 := fun e he => by
    obtain ⟨i, hi, rfl⟩ := List.mem_iff_getElem.1 he
    obtain ⟨x, hx, hkx⟩ := k2 i (l[i]'(by omega)) (lge _)
    rw [lge hi] at hx
    injection hx with hx
    rw [hx]
    obtain ⟨a, b, _⟩ := codeOf_ok hρ hkx
    exact ⟨a, b⟩
   have hev : es.map (evalE ρ) = cs := by
    apply List.ext_getElem?
    intro i
    by_cases hi : i < l.length
    ·obtain ⟨x, hx, hkx⟩ := k2 i l[i] (lge hi)
     obtain ⟨v, hv, hr⟩ := hl.get (lge hi)
     obtain ⟨_, _, q⟩ := codeOf_ok hρ hkx
     obtain ⟨c, e1, e2, e3⟩ := q v hr
     rw [List.getElem?_map, hx]
     rw [List.getElem?_map, lge (by omega)] at hv
     simp only [Option.map_some, sI] at hv
     rw [lge (by omega)]
     rw [← hv] at e1
     have e1 : cs[i]'(by omega) = c := by injection e1 with _ e; injection e
     simp only [Option.map_some]
     rw [e3, e1]
    ·rw [List.getElem?_eq_none (by simp; omega), List.getElem?_eq_none (by omega)]
   have hdec : decL 4096 (encL es) = es := decL_enc es 4096 (by omega) hes
   have hs : ∀ q, q < 4 → symVal ρ (2 * (4 * encL es + q) + 1) = some (Int.ofNat (crcPart q (crcSum cs))) := fun q hq => by
    unfold symVal
    have h1 : Nat.mod (2 * (4 * encL es + q) + 1) 2 = 1 := by show (2 * (4 * encL es + q) + 1) % 2 = 1; omega
    rw [h1]
    have h2 : Nat.div (2 * (4 * encL es + q) + 1) 2 = 4 * encL es + q := by show (2 * (4 * encL es + q) + 1) / 2 = _; omega
    have h3 : Nat.mod (4 * encL es + q) 4 = q := by show (4 * encL es + q) % 4 = q; omega
    have h4 : Nat.div (4 * encL es + q) 4 = encL es := by show (4 * encL es + q) / 4 = _; omega
    simp only [h2, h3, h4, hdec, hev]
   have hw : ∀ q r, IntKind.u8.wrap (Int.ofNat (crcPart q r)) = Int.ofNat (crcPart q r) := fun q r => by
    have : crcPart q r < 256 := Nat.mod_lt _ (by decide)
    have e : (Int.ofNat (crcPart q r) : Int) = (crcPart q r : Int) := rfl
    rw [e]
    simp only [IntKind.wrap, IntKind.bits, IntKind.signed]
    simp
    omega
   rw [← h, encF_eq]
   exact .cons (.sym _ (by rw [hρ]; exact hs 0 (by omega)) (hw _ _)) (.cons (.sym _ (by rw [hρ]; exact hs 1 (by omega)) (hw _ _)) (.cons (.sym _ (by rw [hρ]; exact hs 2 (by omega)) (hw _ _)) (.cons (.sym _ (by rw [hρ]; exact hs 3 (by omega)) (hw _ _)) .nil)))
theorem take_all {α : Type} (l : List α) {n : Nat} (h : n ≤ l.length) : (l.take n).length = n := by simp; omega
theorem s233 : ∀ args aw res, g233 args aw = some res → callable Tryz.prog 233 = true ∧ ∀ E w cargs, LRel E args cargs → Rel E aw w →
  Calls Tryz.prog 233 cargs.toArray w fun e w' => ∃ E', E.Le E' ∧ ResRel E' res e w' := by
 intro args aw res h
 unfold g233 at h
 split at h
 ·rename_i id n cap
  rw [bb2_eq] at h
  cases hn : isLen n <;> simp only [hn, cond_true, cond_false] at h
  ·exact cAny_ok _ _ _ _ h
  rw [awGet_eq] at h
  split at h <;> (try (cases h; done))
  rename_i l e b hg
  rw [bb2_eq, lenF_eq] at h
  cases hb : Nat.ble n l.length <;> simp only [hb, cond_true, cond_false, reduceCtorEq] at h
  have hb := nbl hb
  cases hok : mapO okByte l with
  | none => simp only [hok] at h; cases h
  | some ks =>
   simp only [hok] at h
   rw [takeF_eq] at h
   cases hps : sumBytes (l.take n) with
   | none => simp only [hps] at h; cases h
   | some ps =>
    simp only [hps, sI] at h
    rw [appF_eq, awAdd_eq] at h
    subst h
    obtain ⟨_, hok2⟩ := mapO_ok hok
    have run := sealRun hn
    have hcall : callable Tryz.prog 233 = true := by
     have := run (List.replicate n 0) (by simp) [] 0 true (.known 0)
     unfold see at this
     split at this
     ·rename_i h0; exact (cSeal_ok _ _ _ _ h0).1
     ·cases this
    refine ⟨hcall, fun E w cargs hr hR => ?_⟩
    obtain ⟨ρ, hρ⟩ := hR.ns.1
    cases hr with
    | cons r1 t1 =>
     cases t1
     rename_i cv0
     obtain ⟨L, hL, ho⟩ := hR.obj id _ hg
     obtain ⟨c, fz, g1, g2, g3, g4, g5⟩ := ho
     have each : ∀ (i : Nat) (a : AV), l[i]? = some a → ∃ m : Nat, c[L.base + i]? = some (.int .u8 (.ofNat m)) ∧ m < 256 ∧ VRel E a (.int .u8 (.ofNat m)) := fun i a hi => by
      obtain ⟨v, hv, hra⟩ := g5 i a hi
      obtain ⟨x, _, hx⟩ := hok2 i a hi
      obtain ⟨m, rfl, hm⟩ := (okByte_ok (E := E) hx ⟨ρ, hρ⟩).1 v hra
      exact ⟨m, hv, hm, hra⟩
     let bs : List Nat := (List.range n).map fun i => match c[L.base + i]? with | some (.int _ (.ofNat m)) => m | _ => 0
     have hbl : bs.length = n := by simp [bs]
     have hbs : ∀ i, i < n → ∀ m, c[L.base + i]? = some (.int .u8 (.ofNat m)) → bs[i]? = some m := fun i hi m hm => by
      simp only [bs, List.getElem?_map, List.getElem?_range hi, Option.map_some, hm]
     have h256 : ∀ x ∈ bs, x < 256 := fun x hx => by
      obtain ⟨i, hi, rfl⟩ := List.mem_iff_getElem.1 hx
      obtain ⟨m, e1, e2, _⟩ := each i (l[i]'(by omega)) (lge _)
      have := hbs i (by omega) m e1
      rw [lge hi] at this
      injection this with this
      rw [this]; exact e2
     have hrel : LRel E (l.take n) (bs.map fun m => Value.int .u8 (.ofNat m)) := by
      refine LRel.of_get (by simp [hbl]; omega) fun i a ha => ?_
      rw [List.getElem?_take] at ha
      split at ha <;> (try (cases ha; done))
      rename_i hi
      obtain ⟨m, e1, e2, e3⟩ := each i a ha
      exact ⟨_, by rw [List.getElem?_map, hbs i hi m e1]; rfl, e3⟩
     have hR0 : Rel (oneE E w L) (ofObjs [.cells ((bs.map Int.ofNat).map (AV.int .u8) ++ l.drop n) e b] 1) w := by
      refine oneE_rel hR ⟨c, fz, g1, g2, by simp [hbl]; omega, fun q => ?_, fun i a ha => ?_⟩
      ·obtain ⟨q1, q2⟩ := g4 q
       exact ⟨q1, by simp [hbl]; omega⟩
      ·by_cases hi : i < n
       ·rw [lal (by simp [hbl]; omega)] at ha
        obtain ⟨m, e1, e2, e3⟩ := each i (l[i]'(by omega)) (lge _)
        simp only [List.map_map, List.getElem?_map, hbs i hi m e1, Option.map_some, sI, Function.comp] at ha
        subst ha
        exact ⟨_, e1, .int _ _⟩
       ·rw [lar (by simp [hbl]; omega)] at ha
        simp only [List.length_map, hbl, List.getElem?_drop] at ha
        rw [show n + (i - n) = i by omega] at ha
        obtain ⟨v, hv, hra⟩ := g5 i a ha
        obtain ⟨x, _, hx⟩ := hok2 i a ha
        exact ⟨v, hv, (okByte_ok (E := oneE E w L) hx ⟨ρ, hρ⟩).2 E v rfl hra⟩
     have hrun := run (bs.map Int.ofNat) (by simp [hbl]) (l.drop n) e b cap
     have hfold : foldR (bs.map Int.ofNat) = .ofNat (crcSum bs) := (foldG_eq bs (by decide) h256).1
     rw [hfold, partG_eq] at hrun
     unfold see at hrun
     split at hrun <;> (try (cases hrun; done))
     rename_i k n2 cap2 aw2 h0
     simp only [sI, pmi] at hrun
     obtain ⟨rfl, rfl, rfl, hg0, hg3⟩ := hrun
     have r1' : VRel (oneE E w L) (.slc (some (0, 0)) n cap) cv0 := by
      cases r1 with
      | slc hL2 ha =>
       rw [hL] at hL2; injection hL2 with hL2; subst hL2
       exact .slc (L := L) rfl ha
      | slcUp hL2 q1 q2 q3 =>
       rw [hL] at hL2; injection hL2 with hL2; subst hL2
       exact .slcUp (L := L) rfl q1 q2 q3
     refine ((cSeal_ok _ _ _ _ h0).2 (oneE E w L) w _ (.cons r1' .nil) hR0).mono fun en w' hres => ?_
     obtain ⟨E1, hle, hres⟩ := hres
     cases en with
     | returned cv =>
      obtain ⟨hR1, hv⟩ := hres
      have hsym : E1.sym = E.sym := hle.2.1
      have hL0 : E1.loc[0]? = some L := hle.loc (i := 0) rfl
      obtain ⟨L2, hL2, c2, fz2, k1, k2, k3, k4, k5⟩ := hR1.obj 0 _ hg0
      rw [hL0] at hL2; injection hL2 with hL2; subst hL2
      have hback : Rel E aw w' := oneE_back hR hg rfl hL hle hR1 ⟨c2, fz2, k1, k2, by simp [hbl] at k3; omega, fun q => by
       obtain ⟨q1, q2⟩ := k4 q
       exact ⟨q1, by simp [hbl] at q2; omega⟩, fun i a ha => by
       by_cases hi : i < n
       ·obtain ⟨m, e1, e2, e3⟩ := each i a ha
        obtain ⟨v, hv, hr⟩ := k5 i (.int .u8 (.ofNat m)) (by
         rw [lal (by simp [hbl]; omega)]
         simp only [List.map_map, List.getElem?_map, hbs i hi m e1, Option.map_some, Function.comp])
        cases hr
        exact ⟨_, hv, e3⟩
       ·obtain ⟨v, hv, hr⟩ := k5 i a (by
         rw [lar (by simp [hbl]; omega)]
         simp only [List.length_map, hbl, List.getElem?_drop]
         rw [show n + (i - n) = i by omega]
         exact ha)
        obtain ⟨x, _, hx⟩ := hok2 i a ha
        exact ⟨v, hv, (okByte_ok (E := E) hx ⟨ρ, hρ⟩).2 E1 v hsym hr⟩⟩
      obtain ⟨L3, hL3, ho3⟩ := hR1.obj 3 _ hg3
      obtain ⟨hne, hfr, htk⟩ := oneE_new hR hg rfl hL hle hR1 hg0 rfl hg3 rfl (by decide) hL3
      have hps2 := sumBytes_ok hρ hps (by rw [take_all l hb]; unfold isLen at hn; simp only [bb2_eq] at hn; cases q1 : Nat.beq n 5 <;> cases q2 : Nat.beq n 13 <;> simp only [q1, q2, cond_true, cond_false] at hn <;> simp only [Nat.beq_eq] at * <;> omega) hrel h256
      have hnew : ORel (E.put L3) L3 w' (.cells (l.take n ++ ps) 5 true) := by
       obtain ⟨c3, fz3, m1, m2, m3, m4, m5⟩ := ho3
       have hlp := hps2.length
       refine ⟨c3, fz3, m1, m2, (by simp [hbl] at m3; simp at hlp; simp [hlp]; omega), (fun q => by cases q), fun i a ha => ?_⟩
       have conv : LRel E (l.take n ++ ps) (((bs.map fun m => Value.int .u8 (.ofNat m))) ++ [.int .u8 (.ofNat (crcPart 0 (crcSum bs))), .int .u8 (.ofNat (crcPart 1 (crcSum bs))), .int .u8 (.ofNat (crcPart 2 (crcSum bs))), .int .u8 (.ofNat (crcPart 3 (crcSum bs)))]) := LRel.append hrel hps2
       obtain ⟨v, hv, hr⟩ := conv.get ha
       have hx : ∃ x, ((bs.map Int.ofNat).map (AV.int .u8) ++ [AV.int .u8 (.ofNat (crcPart 0 (crcSum bs))), .int .u8 (.ofNat (crcPart 1 (crcSum bs))), .int .u8 (.ofNat (crcPart 2 (crcSum bs))), .int .u8 (.ofNat (crcPart 3 (crcSum bs)))])[i]? = some x ∧ ∀ u, VRel E1 x u → u = v := by
        by_cases hi : i < n
        ·rw [lal (by simp [hbl]; omega)] at hv
         rw [List.getElem?_map, lge (by omega)] at hv
         simp only [Option.map_some, sI] at hv
         subst hv
         refine ⟨.int .u8 (.ofNat (bs[i]'(by omega))), ?_, fun u hu => by cases hu; rfl⟩
         rw [lal (by simp [hbl]; omega)]
         simp only [List.map_map, List.getElem?_map, lge (show i < bs.length by omega), Option.map_some, Function.comp]
        ·rw [lar (by simp [hbl]; omega)] at hv
         rw [lar (by simp [hbl]; omega)]
         simp only [List.length_map, hbl] at hv ⊢
         rcases hq : i - n with _ | _ | _ | _ | q <;> rw [hq] at hv <;> simp at hv
         all_goals subst hv; exact ⟨_, rfl, fun u hu => by cases hu; rfl⟩
       obtain ⟨x, hx1, hx2⟩ := hx
       obtain ⟨u, hu, hur⟩ := m5 i x hx1
       rw [hx2 u hur] at hu
       exact ⟨v, hu, hr.mono (E.put_le L3)⟩
      refine ⟨E.put L3, E.put_le L3, hback.addAt hne hfr htk hnew, ?_⟩
      cases hv with
      | slcUp hL4 q1 q2 q3 =>
       rw [hL3] at hL4; injection hL4 with hL4; subst hL4
       exact .slcUp (by rw [hback.nx]; exact E.put_new L3) q1 q2 q3
     | panicked ch => exact hres.elim
     | outgrown => exact hres.elim
 ·exact cAny_ok _ _ _ _ h
end Go.Proofs.YtbilacojhmohmaaGreat.Ae
namespace Go.Proofs.YtbilacojhmohmaaGreat.Ae
open Go Go.Maps Go.RowKit
open Go.WideElems (Fit rd rg)
def anyR : Value → Option (DataW Unit × List MemPlace) := fun _ => some (.lit (.bool true), [])
theorem ERel.get2 {E : Env} : ∀ {l : List AEnt} {m : List MapEntry}, ERel E l m → l.length = m.length ∧ ∀ (i : Nat) (e : AEnt), l[i]? = some e → ∃ f, m[i]? = some f ∧ VRel E e.key f.key ∧ VRel E e.val f.val ∧ e.born = f.born
 | _, _, .nil => ⟨rfl, fun i e h => by simp at h⟩
 | _, _, .cons hk hv hb t => by
  obtain ⟨h1, h2⟩ := ERel.get2 t
  refine ⟨by simp [h1], fun i e h => ?_⟩
  cases i with
  | zero => simp at h; subst h; exact ⟨_, rfl, hk, hv, hb⟩
  | succ i => simp at h; simpa using h2 i e h
set_option maxRecDepth 100000 in
theorem map_own {E : Env} {w : World} {L : Loc} {es : List AEnt} {clock : Nat} (h : ORel E L w (.map es clock)) (hlen : es.length ≤ 1000) (hk : ∀ e ∈ es, ∃ n : Nat, e.key = .int .u32 (.ofNat n) ∧ n < 4294967296) (hn : (es.map fun e => e.key).Nodup) (hb : (es.map fun e => e.born).Nodup) (hc : ∀ e ∈ es, e.born < clock) :
  ∃ D0, w.ownsMap Tryz.prog 28 anyR L.block es.length D0 ∧ Maps.size D0 = es.length ∧ ∀ x : Int, has D0 (.int .u32 x) = true ↔ ∃ e ∈ es, e.key = .int .u32 x := by
 obtain ⟨_, ces, hh, hr⟩ := h
 obtain ⟨hl, hg⟩ := hr.get2
 have back : ∀ f ∈ ces.toList, ∃ e ∈ es, ∃ n : Nat, e.key = .int .u32 (.ofNat n) ∧ n < 4294967296 ∧ f.key = .int .u32 (.ofNat n) ∧ e.born = f.born := fun f hf => by
  obtain ⟨i, hi, rfl⟩ := List.mem_iff_getElem.1 hf
  obtain ⟨f', h1, h2, h3, h4⟩ := hg i (es[i]'(by omega)) (lge _)
  rw [lge hi] at h1; injection h1 with h1; subst h1
  obtain ⟨n, h5, h6⟩ := hk (es[i]'(by omega)) (List.getElem_mem (by omega))
  rw [h5] at h2
  generalize hq : (ces.toList[i]).key = q at h2
  cases h2
  exact ⟨es[i]'(by omega), List.getElem_mem (by omega), n, h5, h6, rfl, h4⟩
 have hrd : ∀ f ∈ ces.toList, ∃ n : Nat, f.key = .int .u32 (.ofNat n) ∧ rd Tryz.prog 28 anyR f = some (.int .u32 (.ofNat n), .lit (.bool true)) := fun f hf => by
  obtain ⟨e, _, n, _, h2, h3, _⟩ := back f hf
  refine ⟨n, h3, ?_⟩
  have hw : (Lit.int .u32 (.ofNat n)).wf = true := by
   have e : (Int.ofNat n : Int) = (n : Int) := rfl
   rw [e]
   have h1 : IntKind.min .u32 = 0 := rfl
   have h2 : IntKind.max .u32 = 4294967295 := rfl
   simp only [Lit.wf, h1, h2]
   simp
   omega
  have : keyOf Tryz.prog 28 f.key = some (.int .u32 (.ofNat n)) := by
   rw [h3]
   have hw2 : (Lit.int .u32 (n : Int)).wf = true := hw
   simp [keyOf, Tryz.underlying28, mapKey, hw2]
  simp [rd, this, anyR]
 have hst : MapKept.Stamped ces clock := by
  have e1 : ces.toList.map (·.born) = es.map (·.born) := by
   apply List.ext_getElem?
   intro i
   by_cases hi : i < es.length
   ·obtain ⟨f, h1, _, _, h4⟩ := hg i es[i] (lge hi)
    rw [List.getElem?_map, List.getElem?_map, h1, lge hi]
    simp [h4]
   ·rw [List.getElem?_eq_none (by simp at hl ⊢; omega), List.getElem?_eq_none (by simp; omega)]
  have e2 : (ces.toList.map (·.key)).Nodup := by
   refine List.pairwise_iff_getElem.2 fun i j hi hj hij => ?_
   simp only [List.length_map] at hi hj
   have := List.pairwise_iff_getElem.1 hn i j (by simp; omega) (by simp; omega) hij
   obtain ⟨f, h1, h2, _, _⟩ := hg i (es[i]'(by omega)) (lge _)
   obtain ⟨f', h1', h2', _, _⟩ := hg j (es[j]'(by omega)) (lge _)
   obtain ⟨n, h5, _⟩ := hk (es[i]'(by omega)) (List.getElem_mem (by omega))
   obtain ⟨n', h5', _⟩ := hk (es[j]'(by omega)) (List.getElem_mem (by omega))
   simp only [List.getElem_map, h5, h5'] at this
   rw [lge hi] at h1; injection h1 with h1
   rw [lge hj] at h1'; injection h1' with h1'
   rw [List.getElem_map, List.getElem_map, h1, h1']
   rw [h5] at h2; rw [h5'] at h2'
   obtain ⟨k1, v1, b1⟩ := f; obtain ⟨k2, v2, b2⟩ := f'
   simp only at h2 h2'
   cases h2; cases h2'
   intro e
   injection e with _ e
   exact this (by rw [e])
  refine ⟨fun f hf => ?_, by rw [e1]; exact hb, e2⟩
  obtain ⟨e, he, _, _, _, _, h4⟩ := back f hf
  rw [← h4]; exact hc e he
 have hlc : ces.toList.length = es.length := hl.symm
 have hfit : Fit Tryz.prog 28 anyR ces clock := ⟨by
   have h1 : 1000 ≤ maxLen := by decide
   have h2 : ces.size = es.length := by rw [← hlc, Array.length_toList]
   omega, hst, fun f hf => let ⟨n, _, h⟩ := hrd f hf; ⟨_, h⟩⟩
 refine ⟨_, ⟨ces, clock, hh, hfit, (by rw [← hlc, Array.length_toList]; exact Nat.le_refl _), rfl⟩, by show (List.foldr DataW.insert [] (ces.toList.map _)).length = _; rw [length_sorted, List.length_map]; exact hlc, fun x => ?_⟩
 rw [has_eq, List.any_eq_true]
 constructor
 ·rintro ⟨p, hp, hs⟩
  rw [mem_sorted] at hp
  obtain ⟨f, hf, rfl⟩ := List.mem_map.1 hp
  obtain ⟨n, h3, h4⟩ := hrd f hf
  obtain ⟨e, he, n', h5, _, h6, _⟩ := back f hf
  rw [WideElems.rg_of h4] at hs
  have hx : Int.ofNat n = x := by simpa [Lit.sameKey] using hs
  rw [h3] at h6
  have : n = n' := by injection h6 with _ q; injection q
  subst this
  exact ⟨e, he, by rw [h5, hx]⟩
 ·rintro ⟨e, he, hx⟩
  obtain ⟨i, hi, rfl⟩ := List.mem_iff_getElem.1 he
  obtain ⟨f, h1, h2, _, _⟩ := hg i es[i] (lge hi)
  have hf : f ∈ ces.toList := List.mem_of_getElem? h1
  obtain ⟨n, h3, h4⟩ := hrd f hf
  refine ⟨rg Tryz.prog 28 anyR f, mem_sorted.2 (List.mem_map.2 ⟨f, hf, rfl⟩), ?_⟩
  rw [WideElems.rg_of h4]
  rw [hx, h3] at h2
  have : x = Int.ofNat n := by cases h2; rfl
  subst this
  simp [Lit.sameKey]
def g358 (args : List AV) (aw : AW) : Option ARes := match args with
 | [.slc none 0 (.known 0), .func (.func 319) [] [.ptr (some (q, 0))]] => match awGet aw q with
  | some (.cells [.map (some m)] _ false) => match awGet aw m with
   | some (.map [] _) => some (.ret (.slc none 0 (.known 0)) aw)
   | some (.map [⟨.int .u32 (.ofNat n), _, b⟩] clock) => bb2 (Nat.ble n 4294967295) (bb2 (Nat.ble (Nat.succ b) clock) (some (.ret (.slc (some (aw.nx, 0)) 1 (.upto 1 1)) (awAdd aw (.cells [.int .u32 (.ofNat n)] 28 true)))) none) none
   | _ => none
  | _ => none
 | _ => none
theorem s358 : ∀ args aw res, g358 args aw = some res → callable Tryz.prog 358 = true ∧ ∀ E w cargs, LRel E args cargs → Rel E aw w →
  Calls Tryz.prog 358 cargs.toArray w fun e w' => ∃ E', E.Le E' ∧ ResRel E' res e w' := by
 intro args aw res h
 unfold g358 at h
 split at h <;> (try (cases h; done))
 rename_i q
 rw [awGet_eq] at h
 split at h <;> (try (cases h; done))
 rename_i m et hq
 rw [awGet_eq] at h
 refine ⟨by kernel_rfl, fun E w cargs hr hR => ?_⟩
 cases hr with
 | cons r1 t1 => cases t1 with
  | cons r2 t2 =>
   cases t2
   cases r1
   cases r2 with
   | func _ hf hc =>
    rename_i f' c'
    have ef : f' = #[] := by
     generalize hq2 : f'.toList = fl at hf
     cases hf
     exact Array.toList_inj.1 (by rw [hq2])
    subst ef
    generalize hq3 : c'.toList = cl at hc
    cases hc with
    | cons p1 t1 =>
     cases t1
     cases p1 with
     | ptr hLq =>
      rename_i Lq
      have ec : c' = #[.pointer (some ⟨Lq.block, Lq.base + 0, none⟩)] := Array.toList_inj.1 (by rw [hq3])
      subst ec
      obtain ⟨L', hL', c, fz, ⟨g1, _⟩, g2, g3, g4, g5⟩ := hR.obj q _ hq
      rw [hLq] at hL'; injection hL' with hL'; subst hL'
      obtain ⟨g4a, g4b⟩ := g4 rfl
      obtain ⟨v, hv, hvr⟩ := g5 0 _ rfl
      cases hvr with
      | map hLm hbm =>
       rename_i Lm
       have hcell : w.cell? ⟨Lq.block, 0, none⟩ = some (.map (some Lm.block)) := by
        rw [g4a] at hv
        simpa [World.cell?, g1] using hv
       have hlt : Lq.block < w.heap.size := (agz.1 g1).1
       rw [g4a]
       have main : ∀ es clock, aw.get m = some (.map es clock) → es.length ≤ 1 → (∀ e ∈ es, ∃ n : Nat, e.key = .int .u32 (.ofNat n) ∧ n < 4294967296) → (∀ e ∈ es, e.born < clock) →
         Calls Tryz.prog 358 #[.slice none 0 0, .func (.func 319) #[] #[.pointer (some ⟨Lq.block, 0, none⟩)]] w fun e W' => ∃ v ss, e = .returned v ∧ (ss.Nodup ∧ ∀ x, x ∈ ss ↔ ∃ e ∈ es, e.key = .int .u32 x) ∧ W'.ownsRow w.heap.size 28 1 v ss.length (ss.map encU) ∧ (v = .slice none 0 0 ↔ ss = []) ∧ Below w.heap.size w W' := fun es clock hm hle hk hc => by
        obtain ⟨Lm', hLm', ho⟩ := hR.obj m _ hm
        rw [hLm] at hLm'; injection hLm' with hLm'; subst hLm'
        have hnd : ∀ {β : Type} (f : AEnt → β), (es.map f).Nodup := fun f => by
         rcases es with _ | ⟨e, _ | ⟨e2, es⟩⟩
         ·simp
         ·simp
         ·simp at hle
        obtain ⟨D0, d1, d2, d3⟩ := map_own ho (by omega) hk (hnd _) (hnd _) hc
        refine (append358 Lq.block Lm.block es.length D0 w hlt hcell d1 (by omega)).mono fun e W' ⟨v, ss, e1, e2, e3, e4, e5⟩ => ⟨v, ss, e1, ⟨e2.1, fun x => ?_⟩, e3, e4, e5⟩
        rw [e2.2 x, ← d3 x]; simp
       have stay : ∀ {W' : World}, Below w.heap.size w W' → Rel E aw W' := fun hb => hR.move ((show Same w _ from ⟨hb.os, hb.output⟩).ns hR.ns) (fun j x Lj hj hLj ho hx => ho.heap (hb.block _ (ho.lt hx))) (fun b o hbo => by
        have := hR.frame b o hbo
        rw [hb.block b (agz.1 this).1]; exact this) (fun b x hbx => let q := (hR.tok.1 b x hbx).1; q.heap (hb.block b q.lt))
       split at h <;> (try (cases h; done))
       ·rename_i clock hm
        simp only [sI] at h; subst h
        refine (main [] clock hm (by simp) (by simp) (by simp)).mono fun e W' ⟨v, ss, e1, e2, e3, e4, e5⟩ => ?_
        have : ss = [] := by
         cases ss with
         | nil => rfl
         | cons x ss => have := (e2.2 x).1 (by simp); simp at this
        have := e4.2 this; subst this; subst e1
        exact ⟨E, .refl E, stay e5, .nilSlc⟩
       ·rename_i n val b clock hm
        simp only [bb2_eq] at h
        cases hb1 : Nat.ble n 4294967295 <;> simp only [hb1, cond_true, cond_false, reduceCtorEq] at h
        cases hb2 : Nat.ble (Nat.succ b) clock <;> simp only [hb2, cond_true, cond_false, reduceCtorEq, sI] at h
        have hb1 := nbl hb1
        have hb2 := nbl hb2
        subst h
        rw [awAdd_eq]
        refine (main [⟨.int .u32 (.ofNat n), val, b⟩] clock hm (by simp) (fun e he => by simp at he; subst he; exact ⟨n, rfl, by omega⟩) (fun e he => by simp at he; subst he; exact hb2)).mono fun e W' ⟨v, ss, e1, e2, e3, e4, e5⟩ => ?_
        have hss : ss = [Int.ofNat n] := by
         have hmem : Int.ofNat n ∈ ss := (e2.2 _).2 ⟨⟨.int .u32 (.ofNat n), val, b⟩, List.mem_singleton.2 rfl, rfl⟩
         have hall : ∀ x ∈ ss, x = Int.ofNat n := fun x hx => by
          obtain ⟨e, he, hk⟩ := (e2.2 x).1 hx
          simp at he; subst he
          injection hk with _ hk; exact hk.symm
         rcases ss with _ | ⟨a, _ | ⟨b', ss⟩⟩
         ·simp at hmem
         ·rw [hall a (by simp)]
         ·have h1 := hall a (by simp)
          have h2 := hall b' (by simp)
          have := e2.1
          rw [h1, h2] at this
          simp at this
        subst hss; subst e1
        rcases e3.2 with ⟨rfl, h0⟩ | ⟨gb, cap, cur, rfl, q1, q2, q3, q4, q5, q6⟩
        ·simp at h0
        ·have hcur : cur[0]? = some (.int .u32 (.ofNat n)) := by
          have : (cur.toList.take (1 * 1))[0]? = ([encU (Int.ofNat n)] : List Value)[0]? := by
           have q6' : cur.toList.take (1 * 1) = [encU (Int.ofNat n)] := q6
           rw [q6']
          simpa using this
         have hcap : 1 ≤ cap := q3
         refine ⟨E.put ⟨gb, 0, cap⟩, E.put_le _, (stay e5).addAt (fun j x Lj hj hx hLj e => ?_) ?_ ?_ ⟨cur, (0, 0), ⟨q2, .inl rfl⟩, by simp [q5], by simp [q5]; omega, (fun q => by cases q), fun i a ha => ?_⟩, ?_⟩
         ·obtain ⟨L', hL', ho⟩ := hR.obj j x hj
          rw [hLj] at hL'; injection hL' with hL'; subst hL'
          have := ho.lt hx
          rw [e] at this
          simp only at this
          omega
         ·cases hq7 : E.fr gb with
          | none => rfl
          | some ob =>
           have := (agz.1 (hR.frame _ _ hq7)).1
           omega
         ·cases hq7 : E.tk gb with
          | none => rfl
          | some ob =>
           have := (hR.tok.1 _ _ hq7).1.lt
           omega
         ·cases i with
          | zero => simp at ha; subst ha; exact ⟨_, by simpa using hcur, .int _ _⟩
          | succ i => simp at ha
         ·refine .slcUp (L := ⟨gb, 0, cap⟩) (by rw [hR.nx]; exact E.put_new _) hcap hcap (.inr ⟨rfl, by simp⟩)
end Go.Proofs.YtbilacojhmohmaaGreat.Ae
end
