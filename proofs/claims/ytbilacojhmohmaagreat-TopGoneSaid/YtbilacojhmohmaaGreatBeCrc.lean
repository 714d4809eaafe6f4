/- The sum of bytes: what its code comes to, for bytes that are not known. No condition. -/
import Derived.Test.YtbilacojhmohmaaGreatBeKf1
import Derived.Test.YtbilacojhmohmaaGreatBeRen
import Derived.KernelRfl
namespace Go.Proofs.YtbilacojhmohmaaGreat.Ae
open Go
set_option linter.unusedVariables false
noncomputable def ds0 : DSum := fun _ => none
noncomputable def sm0 : Summ := fun _ => none
noncomputable def c0 : Call := callK (fun f => trGet kfTree f) sm0 ds0 (nat_lit 100) (nat_lit 3)
noncomputable def bitG (x : Int) : Int := wrapG .u32 (.ofNat (Nat.xor (bitsOfF .u32 (wrapG .u32 (pow2F x (minF (nat_lit 1) (bitsF .u32))))) (bitsOfF .u32 (wrapG .u32 (iMul (shr2F x (minF (nat_lit 31) (bitsF .u32))) (.ofNat (nat_lit 79764919)))))))
noncomputable def firstG (x c : Int) : Int := wrapG .u32 (.ofNat (Nat.xor (bitsOfF .u32 x) (bitsOfF .u32 (wrapG .u32 (pow2F (wrapG .u32 c) (minF (nat_lit 24) (bitsF .u32)))))))
noncomputable def stepG (x c : Int) : Int := bitG (bitG (bitG (bitG (bitG (bitG (bitG (bitG (firstG x c))))))))
theorem step_run (x c : Int) (aw : AW) : c0 351 [.int .u32 x, .int .u8 c] aw = some (.ret (.int .u32 (stepG x c)) aw) := by kernel_rfl

/-! the code's numbers as plain ones -/
theorem xor_lt32 {a b : Nat} (ha : a < 4294967296) (hb : b < 4294967296) : Nat.xor a b < 4294967296 := Nat.xor_lt_two_pow (n := 32) ha hb
theorem wrapG_small {m : Nat} (h : m < 4294967296) : wrapG .u32 (.ofNat m) = .ofNat m := by
  show bb2 (Nat.ble m (topF .u32)) _ _ = _
  rw [bb2_eq, show Nat.ble m (topF .u32) = true from Nat.ble_eq_true_of_le (show m ≤ 4294967295 by omega)]; rfl
theorem wrapG_mod (m : Nat) : wrapG .u32 (.ofNat m) = .ofNat (m % 4294967296) := by
  show bb2 (Nat.ble m (topF .u32)) _ _ = _
  rw [bb2_eq]
  cases h : Nat.ble m (topF .u32) with
  | true =>
    have h : m ≤ 4294967295 := Nat.le_of_ble_eq_true h
    rw [Nat.mod_eq_of_lt (by omega)]; rfl
  | false => rfl
theorem bits_small {m : Nat} (h : m < 4294967296) : bitsOfF .u32 (.ofNat m) = m := by
  show bb2 (Nat.ble m (topF .u32)) _ _ = _
  rw [bb2_eq, show Nat.ble m (topF .u32) = true from Nat.ble_eq_true_of_le (show m ≤ 4294967295 by omega)]; rfl
theorem bitG_eq {r : Nat} (h : r < 4294967296) : bitG (.ofNat r) = .ofNat (crcBit r) ∧ crcBit r < 4294967296 := by
  have h31 : r / 2147483648 < 2 := by omega
  have e1 : pow2F (.ofNat r) (minF 1 (bitsF .u32)) = .ofNat (r * 2) := by rw [pow2F_eq]; rfl
  have e2 : shr2F (.ofNat r) (minF 31 (bitsF .u32)) = .ofNat (r / 2147483648) := by rw [shr2F_eq]; rfl
  have e3 : iMul (.ofNat (r / 2147483648)) (.ofNat 79764919) = .ofNat (r / 2147483648 * 79764919) := rfl
  have b1 : r * 2 % 4294967296 < 4294967296 := Nat.mod_lt _ (by decide)
  have b2 : r / 2147483648 * 79764919 < 4294967296 := by omega
  have b3 := xor_lt32 b1 b2
  refine ⟨?_, b3⟩
  show wrapG .u32 (.ofNat (Nat.xor (bitsOfF .u32 (wrapG .u32 (pow2F (.ofNat r) (minF 1 (bitsF .u32))))) (bitsOfF .u32 (wrapG .u32 (iMul (shr2F (.ofNat r) (minF 31 (bitsF .u32))) (.ofNat 79764919)))))) = _
  rw [e1, e2, e3, wrapG_mod (r * 2), wrapG_small b2, bits_small b1, bits_small b2, wrapG_small b3]
  rfl
theorem stepG_eq {r c : Nat} (h : r < 4294967296) (hc : c < 256) : stepG (.ofNat r) (.ofNat c) = .ofNat (crcByte r c) ∧ crcByte r c < 4294967296 := by
  have e0 : wrapG .u32 (.ofNat c) = .ofNat c := wrapG_small (by omega)
  have e1 : pow2F (.ofNat c) (minF 24 (bitsF .u32)) = .ofNat (c * 16777216) := by rw [pow2F_eq]; rfl
  have b1 : c * 16777216 < 4294967296 := by omega
  have b2 := xor_lt32 h b1
  have e2 : firstG (.ofNat r) (.ofNat c) = .ofNat (Nat.xor r (c * 16777216)) := by
    show wrapG .u32 (.ofNat (Nat.xor (bitsOfF .u32 (.ofNat r)) (bitsOfF .u32 (wrapG .u32 (pow2F (wrapG .u32 (.ofNat c)) (minF 24 (bitsF .u32))))))) = _
    rw [e0, e1, wrapG_small b1, bits_small h, bits_small b1, wrapG_small b2]
  unfold stepG
  rw [e2]
  obtain ⟨f1, l1⟩ := bitG_eq b2
  obtain ⟨f2, l2⟩ := bitG_eq l1
  obtain ⟨f3, l3⟩ := bitG_eq l2
  obtain ⟨f4, l4⟩ := bitG_eq l3
  obtain ⟨f5, l5⟩ := bitG_eq l4
  obtain ⟨f6, l6⟩ := bitG_eq l5
  obtain ⟨f7, l7⟩ := bitG_eq l6
  obtain ⟨f8, l8⟩ := bitG_eq l7
  rw [f1, f2, f3, f4, f5, f6, f7, f8]
  exact ⟨rfl, l8⟩
theorem foldG_eq : ∀ (l : List Nat) {r : Nat}, r < 4294967296 → (∀ c ∈ l, c < 256) → (l.map Int.ofNat).foldl stepG (.ofNat r) = .ofNat (l.foldl crcByte r) ∧ l.foldl crcByte r < 4294967296
  | [], r, h, _ => ⟨rfl, h⟩
  | c :: l, r, h, hl => by
    obtain ⟨e1, h1⟩ := stepG_eq h (hl c (by simp))
    simp only [List.map_cons, List.foldl_cons, e1]
    exact foldG_eq l h1 fun c hc => hl c (by simp [hc])

/-! the code of Seal, on a block of its own -/
noncomputable def stepS (args : List AV) (aw : AW) : Option ARes := match args with
  | [.int .u32 x, .int .u8 c] => some (.ret (.int .u32 (stepG x c)) aw)
  | _ => none
noncomputable def sm1 : Summ := fun f => bif Nat.beq f (nat_lit 351) then some stepS else none
noncomputable def cSeal : Call := callK (fun f => trGet kfTree f) sm1 ds0 (nat_lit 200) (nat_lit 12)
/-- what is yielded, the first object, the one that is yielded -/
noncomputable def see (r : Option ARes) : Option (Nat × Nat × Cap × Option AO × Option AO) := match r with
  | some (.ret (.slc (some (k, 0)) n cap) aw) => some (k, n, cap, aw.get 0, aw.get k)
  | _ => none
noncomputable def partG (q : Nat) (x : Int) : AV := match q with
  | 0 => .int .u8 (wrapG .u8 (shr2F x (minF (nat_lit 24) (bitsF .u32))))
  | 1 => .int .u8 (wrapG .u8 (shr2F x (minF (nat_lit 16) (bitsF .u32))))
  | 2 => .int .u8 (wrapG .u8 (shr2F x (minF (nat_lit 8) (bitsF .u32))))
  | _ => .int .u8 (wrapG .u8 x)
theorem seal5 (x0 x1 x2 x3 x4 : Int) (rest : List AV) (e : TypeId) (opn : Bool) (cap : Cap) : see (cSeal 233 [.slc (some (0, 0)) 5 cap] (ofObjs [.cells (.int .u8 x0 :: .int .u8 x1 :: .int .u8 x2 :: .int .u8 x3 :: .int .u8 x4 :: rest) e opn] 1)) =
    some (3, 9, .upto 1 9, some (.cells (.int .u8 x0 :: .int .u8 x1 :: .int .u8 x2 :: .int .u8 x3 :: .int .u8 x4 :: rest) e opn), some (.cells (.int .u8 x0 :: .int .u8 x1 :: .int .u8 x2 :: .int .u8 x3 :: .int .u8 x4 :: [partG 0 (([x0, x1, x2, x3, x4] : List Int).foldl stepG (.ofNat (nat_lit 4294967295))), partG 1 (([x0, x1, x2, x3, x4] : List Int).foldl stepG (.ofNat (nat_lit 4294967295))), partG 2 (([x0, x1, x2, x3, x4] : List Int).foldl stepG (.ofNat (nat_lit 4294967295))), partG 3 (([x0, x1, x2, x3, x4] : List Int).foldl stepG (.ofNat (nat_lit 4294967295)))]) 5 true)) := by kernel_rfl
theorem seal13 (x0 x1 x2 x3 x4 x5 x6 x7 x8 x9 x10 x11 x12 : Int) (rest : List AV) (e : TypeId) (opn : Bool) (cap : Cap) : see (cSeal 233 [.slc (some (0, 0)) 13 cap] (ofObjs [.cells (.int .u8 x0 :: .int .u8 x1 :: .int .u8 x2 :: .int .u8 x3 :: .int .u8 x4 :: .int .u8 x5 :: .int .u8 x6 :: .int .u8 x7 :: .int .u8 x8 :: .int .u8 x9 :: .int .u8 x10 :: .int .u8 x11 :: .int .u8 x12 :: rest) e opn] 1)) =
    some (3, 17, .upto 1 17, some (.cells (.int .u8 x0 :: .int .u8 x1 :: .int .u8 x2 :: .int .u8 x3 :: .int .u8 x4 :: .int .u8 x5 :: .int .u8 x6 :: .int .u8 x7 :: .int .u8 x8 :: .int .u8 x9 :: .int .u8 x10 :: .int .u8 x11 :: .int .u8 x12 :: rest) e opn), some (.cells (.int .u8 x0 :: .int .u8 x1 :: .int .u8 x2 :: .int .u8 x3 :: .int .u8 x4 :: .int .u8 x5 :: .int .u8 x6 :: .int .u8 x7 :: .int .u8 x8 :: .int .u8 x9 :: .int .u8 x10 :: .int .u8 x11 :: .int .u8 x12 :: [partG 0 (([x0, x1, x2, x3, x4, x5, x6, x7, x8, x9, x10, x11, x12] : List Int).foldl stepG (.ofNat (nat_lit 4294967295))), partG 1 (([x0, x1, x2, x3, x4, x5, x6, x7, x8, x9, x10, x11, x12] : List Int).foldl stepG (.ofNat (nat_lit 4294967295))), partG 2 (([x0, x1, x2, x3, x4, x5, x6, x7, x8, x9, x10, x11, x12] : List Int).foldl stepG (.ofNat (nat_lit 4294967295))), partG 3 (([x0, x1, x2, x3, x4, x5, x6, x7, x8, x9, x10, x11, x12] : List Int).foldl stepG (.ofNat (nat_lit 4294967295)))]) 5 true)) := by kernel_rfl
theorem seal15 (x0 x1 x2 x3 x4 x5 x6 x7 x8 x9 x10 x11 x12 x13 x14 : Int) (rest : List AV) (e : TypeId) (opn : Bool) (cap : Cap) : see (cSeal 233 [.slc (some (0, 0)) 15 cap] (ofObjs [.cells (.int .u8 x0 :: .int .u8 x1 :: .int .u8 x2 :: .int .u8 x3 :: .int .u8 x4 :: .int .u8 x5 :: .int .u8 x6 :: .int .u8 x7 :: .int .u8 x8 :: .int .u8 x9 :: .int .u8 x10 :: .int .u8 x11 :: .int .u8 x12 :: .int .u8 x13 :: .int .u8 x14 :: rest) e opn] 1)) =
    some (3, 19, .upto 1 19, some (.cells (.int .u8 x0 :: .int .u8 x1 :: .int .u8 x2 :: .int .u8 x3 :: .int .u8 x4 :: .int .u8 x5 :: .int .u8 x6 :: .int .u8 x7 :: .int .u8 x8 :: .int .u8 x9 :: .int .u8 x10 :: .int .u8 x11 :: .int .u8 x12 :: .int .u8 x13 :: .int .u8 x14 :: rest) e opn), some (.cells (.int .u8 x0 :: .int .u8 x1 :: .int .u8 x2 :: .int .u8 x3 :: .int .u8 x4 :: .int .u8 x5 :: .int .u8 x6 :: .int .u8 x7 :: .int .u8 x8 :: .int .u8 x9 :: .int .u8 x10 :: .int .u8 x11 :: .int .u8 x12 :: .int .u8 x13 :: .int .u8 x14 :: [partG 0 (([x0, x1, x2, x3, x4, x5, x6, x7, x8, x9, x10, x11, x12, x13, x14] : List Int).foldl stepG (.ofNat (nat_lit 4294967295))), partG 1 (([x0, x1, x2, x3, x4, x5, x6, x7, x8, x9, x10, x11, x12, x13, x14] : List Int).foldl stepG (.ofNat (nat_lit 4294967295))), partG 2 (([x0, x1, x2, x3, x4, x5, x6, x7, x8, x9, x10, x11, x12, x13, x14] : List Int).foldl stepG (.ofNat (nat_lit 4294967295))), partG 3 (([x0, x1, x2, x3, x4, x5, x6, x7, x8, x9, x10, x11, x12, x13, x14] : List Int).foldl stepG (.ofNat (nat_lit 4294967295)))]) 5 true)) := by kernel_rfl
end Go.Proofs.YtbilacojhmohmaaGreat.Ae
