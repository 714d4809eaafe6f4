/- DERIVED: THE SHELF's CONTRACTS AT THIS DUMP, IN PLAIN WORDS (tools/lay-plain.mjs out of 'YtbilacojhmohmaaGreatShelf.lean', which tools/lay-shelf.mjs wrote): THE SAME DECLARATIONS UNDER THE SAME NAMES: 'import', 'namespace', 'open', 'def', 'theorem' AND NOTHING ELSE: no command of the shelf's: FOR A HAND-IN. Each laying: the table of numbers ('.._ren') and one theorem, a field a fact of the dump's own or the kernel's comparison; each contract: ONE APPLICATION. SortFunc of wants ends, whatever their ranks are. No condition. -/
import Derived.Shelf.SlSortCmp.SmallK
import Derived.Shelf.Small.Bits
import Derived.Test.YtbilacojhmohmaaGreatProg
import Derived.Test.YtbilacojhmohmaaGreatAeRoom
import Derived.Test.YtbilacojhmohmaaGreatBeSnd
import Derived.KernelRfl
namespace Go.Proofs
open Go.Shelf
def Tryz.sortW_ren : Go.Shelf.Ren := ⟨fun | 6 => 158 | 15 => 228 | 14 => 227 | 28 => 302 | 29 => 303 | 20 => 294 | 21 => 295 | 22 => 296 | 23 => 297 | 24 => 298 | 25 => 299 | 26 => 300 | 27 => 301 | 46 => 345 | 47 => 346 | 48 => 347 | 49 => 348 | 50 => 349 | 57 => 366 | n => n, fun | 22 => 213 | 24 => 222 | 25 => 292 | 3 => 3 | 39 => 178 | 0 => 0 | 53 => 28 | 55 => 62 | 4 => 4 | 46 => 397 | 45 => 396 | 50 => 204 | 5 => 5 | 9 => 9 | 66 => 436 | 70 => 440 | 76 => 455 | 77 => 456 | n => n, fun | n => n⟩
theorem Tryz.sortW : Go.Proofs.SlLaysF0.n6 Tryz.prog Tryz.sortW_ren := {
  mixed := by kernel_rfl
  f6 := ⟨Tryz.f158.name, by decide, Tryz.func158.trans (congrArg some (by kernel_rfl))⟩
  f14 := ⟨Tryz.f227.name, by decide, Tryz.func227.trans (congrArg some (by kernel_rfl))⟩
  f15 := Tryz.func228.trans (congrArg some (by kernel_rfl))
  f20 := ⟨Tryz.f294.name, by decide, Tryz.func294.trans (congrArg some (by kernel_rfl))⟩
  f21 := ⟨Tryz.f295.name, by decide, Tryz.func295.trans (congrArg some (by kernel_rfl))⟩
  f22 := ⟨Tryz.f296.name, by decide, Tryz.func296.trans (congrArg some (by kernel_rfl))⟩
  f23 := ⟨Tryz.f297.name, by decide, Tryz.func297.trans (congrArg some (by kernel_rfl))⟩
  f24 := ⟨Tryz.f298.name, by decide, Tryz.func298.trans (congrArg some (by kernel_rfl))⟩
  f25 := ⟨Tryz.f299.name, by decide, Tryz.func299.trans (congrArg some (by kernel_rfl))⟩
  f26 := ⟨Tryz.f300.name, by decide, Tryz.func300.trans (congrArg some (by kernel_rfl))⟩
  f27 := ⟨Tryz.f301.name, by decide, Tryz.func301.trans (congrArg some (by kernel_rfl))⟩
  f28 := Tryz.func302.trans (congrArg some (by kernel_rfl))
  f29 := Tryz.func303.trans (congrArg some (by kernel_rfl))
  f46 := ⟨Tryz.f345.name, by decide, Tryz.func345.trans (congrArg some (by kernel_rfl))⟩
  f47 := Tryz.func346.trans (congrArg some (by kernel_rfl))
  f48 := Tryz.func347.trans (congrArg some (by kernel_rfl))
  f49 := ⟨Tryz.f348.name, by decide, Tryz.func348.trans (congrArg some (by kernel_rfl))⟩
  f50 := ⟨Tryz.f349.name, by decide, Tryz.func349.trans (congrArg some (by kernel_rfl))⟩
  f57 := ⟨Tryz.f366.name, by decide, Tryz.func366.trans (congrArg some (by kernel_rfl))⟩
  t0 := Tryz.underlying0
  a0 := Tryz.isAgg0
  z0 := Tryz.sizeOf0
  v0 := Tryz.zeroValue0
  t3 := Tryz.underlying3
  a3 := Tryz.isAgg3
  z3 := Tryz.sizeOf3
  v3 := Tryz.zeroValue3
  t4 := Tryz.underlying4
  a4 := Tryz.isAgg4
  z4 := Tryz.sizeOf4
  v4 := Tryz.zeroValue4
  t5 := Tryz.underlying5
  a5 := Tryz.isAgg5
  z5 := Tryz.sizeOf5
  v5 := Tryz.zeroValue5
  t9 := Tryz.underlying9
  a9 := Tryz.isAgg9
  z9 := Tryz.sizeOf9
  v9 := Tryz.zeroValue9
  t22 := Tryz.underlying213
  a22 := Tryz.isAgg213
  z22 := Tryz.sizeOf213
  v22 := Tryz.zeroValue213
  t25 := Tryz.underlying292
  a25 := Tryz.isAgg292
  z25 := Tryz.sizeOf292
  v25 := Tryz.zeroValue292
  t39 := Tryz.underlying178
  a39 := Tryz.isAgg178
  z39 := Tryz.sizeOf178
  v39 := Tryz.zeroValue178
  t45 := Tryz.underlying396
  a45 := Tryz.isAgg396
  z45 := Tryz.sizeOf396
  v45 := Tryz.zeroValue396
  t46 := Tryz.underlying397
  a46 := Tryz.isAgg397
  z46 := Tryz.sizeOf397
  v46 := Tryz.zeroValue397
  t50 := Tryz.underlying204
  a50 := Tryz.isAgg204
  z50 := Tryz.sizeOf204
  v50 := Tryz.zeroValue204
  t53 := Tryz.underlying28
  a53 := Tryz.isAgg28
  z53 := Tryz.sizeOf28
  v53 := Tryz.zeroValue28
  t55 := Tryz.underlying62
  a55 := Tryz.isAgg62
  z55 := Tryz.sizeOf62
  v55 := Tryz.zeroValue62
  t66 := Tryz.underlying436
  a66 := Tryz.isAgg436
  z66 := Tryz.sizeOf436
  v66 := Tryz.zeroValue436
  t70 := Tryz.underlying440
  a70 := Tryz.isAgg440
  z70 := Tryz.sizeOf440
  v70 := Tryz.zeroValue440
  t76 := Tryz.underlying455
  a76 := Tryz.isAgg455
  z76 := Tryz.sizeOf455
  v76 := Tryz.zeroValue455
  t77 := Tryz.underlying456
  a77 := Tryz.isAgg456
  z77 := Tryz.sizeOf456
  v77 := Tryz.zeroValue456 }
def Tryz.bitsLen2_ren : Go.Shelf.Ren := ⟨fun | 125 => 228 | 128 => 302 | 129 => 303 | n => n, fun | 46 => 178 | 3 => 3 | 51 => 28 | 53 => 62 | 4 => 4 | 5 => 5 | 9 => 9 | n => n, fun | n => n⟩
theorem Tryz.bitsLen2 : Go.Proofs.Lays.n125 Tryz.prog Tryz.bitsLen2_ren := {
  mixed := by kernel_rfl
  f125 := Tryz.func228.trans (congrArg some (by kernel_rfl))
  f128 := Tryz.func302.trans (congrArg some (by kernel_rfl))
  f129 := Tryz.func303.trans (congrArg some (by kernel_rfl))
  t3 := Tryz.underlying3
  a3 := Tryz.isAgg3
  z3 := Tryz.sizeOf3
  v3 := Tryz.zeroValue3
  t4 := Tryz.underlying4
  a4 := Tryz.isAgg4
  z4 := Tryz.sizeOf4
  v4 := Tryz.zeroValue4
  t5 := Tryz.underlying5
  a5 := Tryz.isAgg5
  z5 := Tryz.sizeOf5
  v5 := Tryz.zeroValue5
  t9 := Tryz.underlying9
  a9 := Tryz.isAgg9
  z9 := Tryz.sizeOf9
  v9 := Tryz.zeroValue9
  t46 := Tryz.underlying178
  a46 := Tryz.isAgg178
  z46 := Tryz.sizeOf178
  v46 := Tryz.zeroValue178
  t51 := Tryz.underlying28
  a51 := Tryz.isAgg28
  z51 := Tryz.sizeOf28
  v51 := Tryz.zeroValue28
  t53 := Tryz.underlying62
  a53 := Tryz.isAgg62
  z53 := Tryz.sizeOf62
  v53 := Tryz.zeroValue62 }
end Go.Proofs

namespace Go.Proofs
open Go.Shelf Go.RowKit Go.Lib Go.Sort
set_option linter.unusedVariables false
set_option linter.unusedSimpArgs false

/-- a want's cells: who, of which rank, how many bytes -/
def Tryz.encW (x : Int × Int × Int) : List Value := [.int .u32 x.1, .int .i64 x.2.1, .int .i64 x.2.2]
def Tryz.cfW (x y : Int × Int × Int) : Int := if x.2.1 > y.2.1 ∨ (x.2.1 = y.2.1 ∧ x.1 > y.1) then -1 else 1
set_option maxHeartbeats 1000000 in
theorem Tryz.closure264 (x y : Int × Int × Int) (W : World) : Calls Tryz.prog 264 #[.agg #[.int .u32 x.1, .int .i64 x.2.1, .int .i64 x.2.2], .agg #[.int .u32 y.1, .int .i64 y.2.1, .int .i64 y.2.2]] W fun e w' => e = .returned (.int .i64 (Tryz.cfW x y)) ∧ ∃ q os', w' = grow (W.drewN q) os' := by
  go_enter Tryz.func264, Tryz.ntmps264
  go_wp2
  all_goals go_ret
  all_goals refine ⟨?_, 0, _, by rw [alloc_eq_grow, alloc_eq_grow, alloc_eq_grow, alloc_eq_grow, grow_grow, grow_grow, grow_grow]; rfl⟩
  all_goals first | (have e : Tryz.cfW x y = -1 := if_pos (by omega)
                     rw [e]; rfl) | (have e : Tryz.cfW x y = 1 := if_neg (by omega)
                                     rw [e]; rfl)
theorem Tryz.cmp264 (blk off size : Nat) (w : World) : CmpLays Tryz.prog 264 #[] Tryz.encW 3 Tryz.cfW blk off size w :=
  fun _ _ _ _ x y => Tryz.closure264 x y _
theorem Tryz.hlenW (n : Nat) (W : World) (h : n ≤ 12) : Calls Tryz.prog 228 #[.int .u64 n] W fun e w' => (∃ l : Int, e = .returned (.int .i64 l)) ∧ w' = W :=
  (Any.bits_Len Tryz.bitsLen2 n W (by omega) (by omega)).mono fun _ _ ⟨he, hw⟩ => ⟨⟨_, he⟩, hw⟩
theorem Tryz.agg222 : YtbilacojhmohmaaGreat.Ae.aggP Tryz.prog 222 = some (some 3) := by kernel_rfl
theorem Tryz.isAggW (w : World) : (isAgg 222).run Tryz.prog w = .ok true w := (YtbilacojhmohmaaGreat.Ae.aggP_some Tryz.agg222).1 w
theorem Tryz.sizeW (w : World) : (Go.sizeOf 222).run Tryz.prog w = .ok 3 w := by
  obtain ⟨_, i, hi, e⟩ := YtbilacojhmohmaaGreat.Ae.aggP_some Tryz.agg222
  have := YtbilacojhmohmaaGreat.Ae.run_sizeOf' hi (w := w)
  rw [this, e]
set_option maxHeartbeats 1000000 in
/-- SortFunc of twelve wants at most -/
theorem Tryz.sortWants (blk off cap : Nat) (d : Array (Int × Int × Int)) (w : World) (hH : HoldsK Tryz.encW 3 w blk off d) (hblk : blk < w.heap.size) (h12 : d.size ≤ 12) :
    Calls Tryz.prog 158 #[.slice (some ⟨blk, off, none⟩) d.size cap, .func (.func 264) #[] #[]] w fun e w' => e = .returned (.tuple #[]) ∧ ∃ n os d', w' = sortWorldK Tryz.encW 3 w blk off n d' os := by
  have eg : ∀ args w, (callFunc 264 args).run Tryz.prog w = .ok (.enter 264 args) w := enters_of Tryz.func264 (by kernel_rfl) rfl
  have hcon := AnyQ.slices_SortFunc_small Tryz.sortW 3 Tryz.isAggW Tryz.sizeW Tryz.encW (fun _ => rfl) (fun x v hv => by simp [Tryz.encW] at hv; rcases hv with rfl | rfl | rfl <;> rfl) Tryz.cfW 264 #[] blk off cap d w eg (Tryz.cmp264 blk off d.size w) hH hblk h12 Tryz.hlenW
  exact hcon.mono fun e w' ⟨h1, n, os, h2⟩ => ⟨h1, n, os, _, h2⟩
end Go.Proofs
