/- A packet heard, as a step of the receiver's part; a packet's three steps; A tick, over the law's memory. No condition. -/
import Derived.Test.YtbilacojhmohmaaGreatD21
import Derived.Test.YtbilacojhmohmaaGreatD22
import Derived.Test.YtbilacojhmohmaaGreatD23
import Derived.Test.YtbilacojhmohmaaGreatD24
import Derived.Test.YtbilacojhmohmaaGreatD25
import Derived.Test.YtbilacojhmohmaaGreatD26
set_option linter.unusedVariables false
set_option linter.unusedSimpArgs false
noncomputable section
namespace Go.Proofs.YtbilacojhmohmaaGreat.Ae
open Go
structure Hears (len i now : Nat) (R R'' : List AO) : Prop where
 l1 : R.length = 14
 l2 : R''.length = 14
 st : ∀ p, ∀ x ∈ R, Still (fB p) 46 x
 ok : ∀ x ∈ R'', okO 46 x = true
 go : ∃ R' tl A, R'.length = 14 ∧ (∀ O : Nat → AO, CallsAt 65 [vP 3, pkV 52, .int .i64 (.ofNat now)] (ofObjs (m65 O R len i) 53) (.ret (vI 0) (ofObjs (m65 O R' len i ++ tl) (53 + tl.length)))) ∧
  ∀ p (u : Nat) (x : AO), R''[u]? = some x → x = .dead ∨ (∃ u', fD p A (3 + u) = 3 + u' ∧ R'[u']? = some (renO (fD p A) x)) ∨ ∃ v, fD p A (3 + u) = 53 + v ∧ tl[v]? = some (renO (fD p A) x)
theorem hear_calls {len i nx : Nat} {now : Int} {O : Nat → AO} {R R' tl : List AO} {ids : List Nat} {os2 : List (Option AO)} (hR' : R'.length = 14) (h : hear len i O R now (idsH ++ ids) = some (vI 0, wantH O R' len i ++ os2, nx)) (hn : nx = 53 + tl.length)
  (ht : ∀ aw : AW, ids.map (awGet aw) = os2 → ∀ (v : Nat) (x : AO), tl[v]? = some x → x = .dead ∨ aw.get (53 + v) = some x) :
  CallsAt 65 [vP 3, pkV 52, .int .i64 now] (ofObjs (m65 O R len i) 53) (.ret (vI 0) (ofObjs (m65 O R' len i ++ tl) (53 + tl.length))) := by
 unfold hear see65 at h
 split at h <;> (try (cases h; done))
 rename_i v aw1 hc
 simp only [sI, pmi] at h
 obtain ⟨rfl, hm, hnx⟩ := h
 obtain ⟨g1, g2⟩ := see_split (m := 53) (m65_len hR') hm
 have hcl := CallsAt.of (cLat_ok len) hc
 refine CallsAt.ends hcl (by rw [hnx, hn]; rfl) fun j x hj => ?_
 rw [ofObjs_get] at hj
 have hlt := (lgs.1 hj).1
 rw [List.length_append, m65_len hR'] at hlt
 by_cases h53 : j < 53
 ·rw [lal (by rw [m65_len hR']; exact h53)] at hj
  exact .inr (g1 j x hj)
 ·rw [lar (by rw [m65_len hR']; omega), m65_len hR'] at hj
  rcases ht aw1 g2 (j - 53) x hj with e | e
  ·exact .inl ⟨e, by rw [hnx, hn]; omega⟩
  ·rw [show 53 + (j - 53) = j by omega] at e; exact .inr e
theorem rcvX_ok {len : Nat} {what : AV} {m9 o13 o14 o15 o16 : AO} (hw : okV 46 what = true) (h9 : okO 46 m9 = true) (h13 : okO 46 o13 = true) (h14 : okO 46 o14 = true) (h15 : okO 46 o15 = true) (h16 : okO 46 o16 = true) : ∀ x ∈ rcvX len what m9 o13 o14 o15 o16, okO 46 x = true := by
 intro x hx
 simp only [rcvX, List.mem_cons, List.not_mem_nil, or_false] at hx
 rcases hx with rfl | rfl | rfl | rfl | rfl | rfl | rfl | rfl | rfl | rfl | rfl | rfl | rfl | rfl
 ·rfl
 ·rfl
 ·show (okV 46 (.slc (some (10, 0)) 1 (.upto 6 1)) && (okV 46 what && true)) = true
  rw [hw]; rfl
 ·rfl
 ·rfl
 ·exact all_scal fieldCells_scal
 ·exact h9
 ·rfl
 ·rfl
 ·rfl
 ·exact h13
 ·exact h14
 ·exact h15
 ·exact h16
theorem rcvX_still {f : Nat → Nat} (hf : ∀ q, 3 ≤ q → q < 17 → f q = q) {len : Nat} {what : AV} {m9 o13 o14 o15 o16 : AO} (hw : renV f what = what ∧ okV 46 what = true) (h9 : Still f 46 m9) (h13 : Still f 46 o13) (h14 : Still f 46 o14) (h15 : Still f 46 o15) (h16 : Still f 46 o16) : ∀ x ∈ rcvX len what m9 o13 o14 o15 o16, Still f 46 x := by
 intro x hx
 refine ⟨?_, rcvX_ok hw.2 h9.2 h13.2 h14.2 h15.2 h16.2 x hx⟩
 simp only [rcvX, List.mem_cons, List.not_mem_nil, or_false] at hx
 rcases hx with rfl | rfl | rfl | rfl | rfl | rfl | rfl | rfl | rfl | rfl | rfl | rfl | rfl | rfl
 ·show AO.cells [vI 2, vI 170, vI 2, vI 100, vI 1000, vP (f 4), vP (f 5), vP (f 6), vP (f 7), vQ 0, vQ 0] 142 false = _
  rw [hf 4 (by decide) (by decide), hf 5 (by decide) (by decide), hf 6 (by decide) (by decide), hf 7 (by decide) (by decide)]
 ·show AO.cells [vP (f 8), vI 2, vI 100, vI 2, .map (some (f 9))] 191 false = _
  rw [hf 8 (by decide) (by decide), hf 9 (by decide) (by decide)]
 ·show AO.cells [.slc (some (f 10, 0)) 1 (.upto 6 1), renV f what] 194 false = _
  rw [hf 10 (by decide) (by decide), hw.1]
 ·show AO.gen (.ty [.av (vP (f 11)), .av (.map (some (f 12))), .anyI .u64, .anyB, .anyI .u64, .anyI .u64] 199) = _
  rw [hf 11 (by decide) (by decide), hf 12 (by decide) (by decide)]
 ·rfl
 ·show AO.cells (fieldCells.map (renV f)) 177 false = _
  rw [map_scal fieldCells_scal]
 ·exact h9.1
 ·rfl
 ·rfl
 ·rfl
 ·exact h13.1
 ·exact h14.1
 ·exact h15.1
 ·exact h16.1
theorem still_dead {f : Nat → Nat} : Still f 46 .dead := ⟨rfl, rfl⟩
theorem fB_rcv (p : Nat) : ∀ q, 3 ≤ q → q < 17 → fB p q = q := fun q h1 h2 => fB_lo (by omega) (by omega)
theorem mapB_still {f : Nat → Nat} (h : f 13 = 13) : Still f 46 (mapB 13) := ⟨by show AO.map [⟨vW 1, .agg [vP (f 13), vI 0], 0⟩] 1 = _; rw [h]; rfl, rfl⟩
theorem basin_still {f : Nat → Nat} {len : Nat} (h : f 14 = 14) : Still f 46 (basinO len 14) := ⟨by show AO.cells [vP (f 14), vW 1, vI (kOf len), vI len, vI 2] 357 false = _; rw [h]; rfl, rfl⟩
theorem basis_still {f : Nat → Nat} {len : Nat} (h : f 8 = 8) (h2 : f 15 = 15) : Still f 46 (basisO len 15) := ⟨by show AO.cells [vP (f 8), vI (kOf len), vI 2, .map (some (f 15))] 418 false = _; rw [h, h2]; rfl, rfl⟩
theorem rcvA_still {f : Nat → Nat} (hf : ∀ q, 3 ≤ q → q < 17 → f q = q) {len : Nat} : ∀ x ∈ rcvA len, Still f 46 x := rcvX_still hf ⟨rfl, rfl⟩ ⟨rfl, rfl⟩ still_dead still_dead still_dead still_dead
theorem rcvB_still {f : Nat → Nat} (hf : ∀ q, 3 ≤ q → q < 17 → f q = q) {len n : Nat} {β : Nat → Bool} : ∀ x ∈ rcvB len n β, Still f 46 x := rcvX_still hf ⟨rfl, rfl⟩ (mapB_still (hf 13 (by decide) (by decide))) (basin_still (hf 14 (by decide) (by decide))) (basis_still (hf 8 (by decide) (by decide)) (hf 15 (by decide) (by decide))) ⟨rfl, rfl⟩ still_dead
theorem rcvT_still {f : Nat → Nat} (hf : ∀ q, 3 ≤ q → q < 17 → f q = q) {len c w : Nat} : ∀ x ∈ rcvT len c w, Still f 46 x := rcvX_still hf ⟨by show AV.slc (some (f 16, 0)) 1 (.upto 1 1) = _; rw [hf 16 (by decide) (by decide)], rfl⟩ ⟨rfl, rfl⟩ still_dead still_dead still_dead ⟨rfl, rfl⟩
theorem rep_dead {n v : Nat} {x : AO} (h : (List.replicate n AO.dead)[v]? = some x) : x = .dead := by
 have := List.mem_of_getElem? h
 exact (List.mem_replicate.1 this).2
theorem hears_A {len i now : Nat} (hl : len ∈ lens) (hi : i < kOf len) : Hears len i now (rcvA len) (rcvB len 1 fun j => bb2 (Nat.beq j i) true false) := by
 refine ⟨rfl, rfl, fun p => rcvA_still (fB_rcv p), rcvX_ok rfl rfl rfl rfl rfl rfl, rcvX len vN (mapB 100) .dead .dead .dead .dead, List.replicate 45 .dead ++ [linG len 1 fun j => bb2 (Nat.beq j i) true false, basisO len 98, basinO len 99, .dead, .dead, .dead, .dead], true, rfl, fun O => ?_, fun p u x hx => ?_⟩
 ·have e := List.map_inj_left.1 (hr_A O (.ofNat now)) (len, i) (adLI_mem hl hi)
  refine hear_calls rfl e rfl fun aw hx v x hv => ?_
  simp only [List.map_cons, List.map_nil, List.cons.injEq, and_true, awGet_eq] at hx
  by_cases h45 : v < 45
  ·rw [lal (by simpa using h45)] at hv
   exact .inl (rep_dead hv)
  ·rw [lar (by simp; omega), List.length_replicate] at hv
   obtain ⟨u, rfl⟩ : ∃ u, v = 45 + u := ⟨v - 45, by omega⟩
   rw [show 45 + u - 45 = u by omega] at hv
   match u, hv with
   | 0, hv => injection hv with hv; subst hv; exact .inr hx.1
   | 1, hv => injection hv with hv; subst hv; exact .inr hx.2.1
   | 2, hv => injection hv with hv; subst hv; exact .inr hx.2.2
   | 3, hv => injection hv with hv; subst hv; exact .inl rfl
   | 4, hv => injection hv with hv; subst hv; exact .inl rfl
   | 5, hv => injection hv with hv; subst hv; exact .inl rfl
   | 6, hv => injection hv with hv; subst hv; exact .inl rfl
   | u + 7, hv => cases hv
 ·match u, hx with
  | 0, hx => injection hx with hx; subst hx; exact .inr (.inl ⟨0, rfl, rfl⟩)
  | 1, hx => injection hx with hx; subst hx; exact .inr (.inl ⟨1, rfl, rfl⟩)
  | 2, hx => injection hx with hx; subst hx; exact .inr (.inl ⟨2, rfl, rfl⟩)
  | 3, hx => injection hx with hx; subst hx; exact .inr (.inl ⟨3, rfl, rfl⟩)
  | 4, hx => injection hx with hx; subst hx; exact .inr (.inl ⟨4, rfl, rfl⟩)
  | 5, hx => injection hx with hx; subst hx; exact .inr (.inl ⟨5, rfl, by show _ = some (AO.cells (fieldCells.map (renV _)) 177 false); rw [map_scal fieldCells_scal]; rfl⟩)
  | 6, hx => injection hx with hx; subst hx; exact .inr (.inl ⟨6, rfl, rfl⟩)
  | 7, hx => injection hx with hx; subst hx; exact .inr (.inl ⟨7, rfl, rfl⟩)
  | 8, hx => injection hx with hx; subst hx; exact .inr (.inl ⟨8, rfl, rfl⟩)
  | 9, hx => injection hx with hx; subst hx; exact .inr (.inl ⟨9, rfl, rfl⟩)
  | 10, hx => injection hx with hx; subst hx; exact .inr (.inr ⟨47, rfl, rfl⟩)
  | 11, hx => injection hx with hx; subst hx; exact .inr (.inr ⟨46, rfl, rfl⟩)
  | 12, hx => injection hx with hx; subst hx; exact .inr (.inr ⟨45, rfl, rfl⟩)
  | 13, hx => injection hx with hx; subst hx; exact .inl rfl
  | u + 14, hx => cases hx
theorem hears_B {len i now n : Nat} {β : Nat → Bool} (hl : len ∈ lens) (hi : i < kOf len) (hβ : β i = false) : Hears len i now (rcvB len n β) (rcvB len (n + 1) fun j => bb2 (Nat.beq j i) true (β j)) := by
 have hb : betaNo β i = β := by
  funext j
  unfold betaNo
  cases hj : Nat.beq j i with
  | true => rw [nbt hj, hβ]; rfl
  | false => rfl
 refine ⟨rfl, rfl, fun p => rcvB_still (fB_rcv p), rcvX_ok rfl rfl rfl rfl rfl rfl, rcvB len (n + 1) fun j => bb2 (Nat.beq j i) true (β j), List.replicate 46 .dead, false, rfl, fun O => ?_, fun p u x hx => ?_⟩
 ·have e := List.map_inj_left.1 (hr_B O (.ofNat now) n β) (len, i) (adLI_mem hl hi)
  dsimp only at e
  rw [hb] at e
  exact hear_calls (ids := []) (os2 := []) rfl (by rw [List.append_nil, List.append_nil]; exact e) (by simp) fun aw _ v x hv => .inl (rep_dead hv)
 ·match u, hx with
  | 0, hx => injection hx with hx; subst hx; exact .inr (.inl ⟨0, rfl, rfl⟩)
  | 1, hx => injection hx with hx; subst hx; exact .inr (.inl ⟨1, rfl, rfl⟩)
  | 2, hx => injection hx with hx; subst hx; exact .inr (.inl ⟨2, rfl, rfl⟩)
  | 3, hx => injection hx with hx; subst hx; exact .inr (.inl ⟨3, rfl, rfl⟩)
  | 4, hx => injection hx with hx; subst hx; exact .inr (.inl ⟨4, rfl, rfl⟩)
  | 5, hx => injection hx with hx; subst hx; exact .inr (.inl ⟨5, rfl, by show _ = some (AO.cells (fieldCells.map (renV _)) 177 false); rw [map_scal fieldCells_scal]; rfl⟩)
  | 6, hx => injection hx with hx; subst hx; exact .inr (.inl ⟨6, rfl, rfl⟩)
  | 7, hx => injection hx with hx; subst hx; exact .inr (.inl ⟨7, rfl, rfl⟩)
  | 8, hx => injection hx with hx; subst hx; exact .inr (.inl ⟨8, rfl, rfl⟩)
  | 9, hx => injection hx with hx; subst hx; exact .inr (.inl ⟨9, rfl, rfl⟩)
  | 10, hx => injection hx with hx; subst hx; exact .inr (.inl ⟨10, rfl, rfl⟩)
  | 11, hx => injection hx with hx; subst hx; exact .inr (.inl ⟨11, rfl, rfl⟩)
  | 12, hx => injection hx with hx; subst hx; exact .inr (.inl ⟨12, rfl, rfl⟩)
  | 13, hx => injection hx with hx; subst hx; exact .inl rfl
  | u + 14, hx => cases hx
theorem hears_C {len i now n : Nat} {β : Nat → Bool} (hl : len ∈ lens) (hi : i < kOf len) (hβ : β i = true) : Hears len i now (rcvB len n β) (rcvB len n β) := by
 have hb : betaYes β i = β := by
  funext j
  unfold betaYes
  rw [bb2_eq]
  cases hj : Nat.beq j i with
  | true => rw [nbt hj, hβ]; rfl
  | false => rfl
 refine ⟨rfl, rfl, fun p => rcvB_still (fB_rcv p), rcvX_ok rfl rfl rfl rfl rfl rfl, rcvB len n β, List.replicate 46 .dead, false, rfl, fun O => ?_, fun p u x hx => ?_⟩
 ·have e := List.map_inj_left.1 (hr_C O (.ofNat now) n β) (len, i) (adLI_mem hl hi)
  dsimp only at e
  rw [hb] at e
  exact hear_calls (ids := []) (os2 := []) rfl (by rw [List.append_nil, List.append_nil]; exact e) (by simp) fun aw _ v x hv => .inl (rep_dead hv)
 ·match u, hx with
  | 0, hx => injection hx with hx; subst hx; exact .inr (.inl ⟨0, rfl, rfl⟩)
  | 1, hx => injection hx with hx; subst hx; exact .inr (.inl ⟨1, rfl, rfl⟩)
  | 2, hx => injection hx with hx; subst hx; exact .inr (.inl ⟨2, rfl, rfl⟩)
  | 3, hx => injection hx with hx; subst hx; exact .inr (.inl ⟨3, rfl, rfl⟩)
  | 4, hx => injection hx with hx; subst hx; exact .inr (.inl ⟨4, rfl, rfl⟩)
  | 5, hx => injection hx with hx; subst hx; exact .inr (.inl ⟨5, rfl, by show _ = some (AO.cells (fieldCells.map (renV _)) 177 false); rw [map_scal fieldCells_scal]; rfl⟩)
  | 6, hx => injection hx with hx; subst hx; exact .inr (.inl ⟨6, rfl, rfl⟩)
  | 7, hx => injection hx with hx; subst hx; exact .inr (.inl ⟨7, rfl, rfl⟩)
  | 8, hx => injection hx with hx; subst hx; exact .inr (.inl ⟨8, rfl, rfl⟩)
  | 9, hx => injection hx with hx; subst hx; exact .inr (.inl ⟨9, rfl, rfl⟩)
  | 10, hx => injection hx with hx; subst hx; exact .inr (.inl ⟨10, rfl, rfl⟩)
  | 11, hx => injection hx with hx; subst hx; exact .inr (.inl ⟨11, rfl, rfl⟩)
  | 12, hx => injection hx with hx; subst hx; exact .inr (.inl ⟨12, rfl, rfl⟩)
  | 13, hx => injection hx with hx; subst hx; exact .inl rfl
  | u + 14, hx => cases hx
theorem hears_T {len i now c w : Nat} (hl : len ∈ lens) (hi : i < kOf len) (hw : w = 1 ∨ w = 2) : Hears len i now (rcvT len c w) (rcvT len c w) := by
 refine ⟨rfl, rfl, fun p => rcvT_still (fB_rcv p), rcvX_ok rfl rfl rfl rfl rfl rfl, rcvT len c w, List.replicate 36 .dead, false, rfl, fun O => ?_, fun p u x hx => ?_⟩
 ·rcases hw with rfl | rfl
  ·have e := List.map_inj_left.1 (hr_T1 O (.ofNat now) c) (len, i) (adLI_mem hl hi)
   exact hear_calls (ids := []) (os2 := []) rfl (by rw [List.append_nil, List.append_nil]; exact e) (by simp) fun aw _ v x hv => .inl (rep_dead hv)
  ·have e := List.map_inj_left.1 (hr_T2 O (.ofNat now) c) (len, i) (adLI_mem hl hi)
   exact hear_calls (ids := []) (os2 := []) rfl (by rw [List.append_nil, List.append_nil]; exact e) (by simp) fun aw _ v x hv => .inl (rep_dead hv)
 ·match u, hx with
  | 0, hx => injection hx with hx; subst hx; exact .inr (.inl ⟨0, rfl, rfl⟩)
  | 1, hx => injection hx with hx; subst hx; exact .inr (.inl ⟨1, rfl, rfl⟩)
  | 2, hx => injection hx with hx; subst hx; exact .inr (.inl ⟨2, rfl, rfl⟩)
  | 3, hx => injection hx with hx; subst hx; exact .inr (.inl ⟨3, rfl, rfl⟩)
  | 4, hx => injection hx with hx; subst hx; exact .inr (.inl ⟨4, rfl, rfl⟩)
  | 5, hx => injection hx with hx; subst hx; exact .inr (.inl ⟨5, rfl, by show _ = some (AO.cells (fieldCells.map (renV _)) 177 false); rw [map_scal fieldCells_scal]; rfl⟩)
  | 6, hx => injection hx with hx; subst hx; exact .inr (.inl ⟨6, rfl, rfl⟩)
  | 7, hx => injection hx with hx; subst hx; exact .inr (.inl ⟨7, rfl, rfl⟩)
  | 8, hx => injection hx with hx; subst hx; exact .inr (.inl ⟨8, rfl, rfl⟩)
  | 9, hx => injection hx with hx; subst hx; exact .inr (.inl ⟨9, rfl, rfl⟩)
  | 10, hx => injection hx with hx; subst hx; exact .inl rfl
  | 11, hx => injection hx with hx; subst hx; exact .inl rfl
  | 12, hx => injection hx with hx; subst hx; exact .inl rfl
  | 13, hx => injection hx with hx; subst hx; exact .inr (.inl ⟨13, rfl, rfl⟩)
  | u + 14, hx => cases hx
def bodO (len : Nat) : AO := .cells ((List.range len).map fun q => .sym .u8 (2 * q)) 5 true
def nb0 : AO := .cells [vN] 144 false
def mT (len now : Nat) (ev : AV) (R Z : List AO) (O : Nat → AO) : List AO := [sesL len now ev, O 1, O 2] ++ (R ++ (Z ++ (List.range 11).map fun q => O (35 + q)))
def zT (len now : Nat) (nb e31 e32 : AO) (O : Nat → AO) : List AO := zL len now (bodO len) nb (O 28) (O 29) (O 30) e31 e32
def evV : AV := .slc (some (31, 0)) 1 (.upto 4 1)
def evC : AO := .cells [vI 2, vW 1, vI 8, vN] 42 true
def evR (len at' : Nat) : AO := .cells [vI 1, vW 1, vI at', .slc (some (32, 0)) len (.upto 1 len)] 42 true
def opIds : List Nat := [1, 2, 28, 29, 30, 35, 36, 37, 38, 39, 40, 41, 42, 43, 44, 45]
def idsA : List Nat := [0, 3, 4, 5, 6, 7, 8, 9, 10, 11, 12, 17, 18, 19, 20, 21, 22, 23, 24, 25, 26, 27]
def idsB : List Nat := [0, 3, 4, 5, 6, 7, 8, 9, 10, 11, 12, 13, 14, 15, 17, 18, 19, 20, 21, 22, 23, 24, 25, 26, 27]
def idsT : List Nat := [0, 3, 4, 5, 6, 7, 8, 9, 10, 11, 12, 16, 17, 19, 20, 21, 22, 23, 24, 25, 26, 27]
def fT (a b c q : Nat) : Nat := bif Nat.beq q 16 then a else bif Nat.beq q 31 then b else bif Nat.beq q 32 then c else q
def seeT (f : Nat → Nat) (ids : List Nat) (r : Option ARes) : Option (AV × List (Option AO) × List (Option AO) × Nat) := match r with
 | some (.ret v aw) => some (v, ids.map (fun j => awGet aw (f j)), opIds.map (awGet aw), aw.nx)
 | _ => none
def tickAt (len : Nat) (f : Nat → Nat) (ids : List Nat) (m : List AO) : Option (AV × List (Option AO) × List (Option AO) × Nat) := seeT f ids (cLat len 11 [vP 0, stepV 2 0] (ofObjs m (nat_lit 46)))
def wantT (v : AV) (f : Nat → Nat) (ids : List Nat) (B : List AO) (nx : Nat) : Option (AV × List (Option AO) × List (Option AO) × Nat) := some (v, ids.map (fun j => (B[j]?).map (renO f)), opIds.map (fun j => B[j]?), nx)
def same (q : Nat) : Nat := q
def nowsL (ns : List Nat) : List (Nat × Nat) := lens.flatMap fun len => ns.map fun now => (len, now)
def partL (ns : List Nat) : List (Nat × Nat × Nat) := lens.flatMap fun len => (List.range (kOf len - 1)).flatMap fun n => ns.map fun now => (len, n + 1, now)
def ans0 : AV := .agg [vI 0, vN]
def ansE (q : Nat) : AV := .agg [vI 0, .slc (some (q, 0)) 1 (.upto 4 1)]
def lw0 : CC := (.region [.op (some 4) none (.mv (.c (.bool false)))])
def lw3 : CC := (.region [.op (some 33) none (.build [(.int .i64 (.ofNat 0)), (.int .i64 (.ofNat 0)), (.int .i64 (.ofNat 0)), (.int .i64 (.ofNat 0)), (.int .i64 (.ofNat 0))] [(0, 1, (.c (.int .i64 (.ofNat 2)))), (1, 1, (.c (.int .i64 (.ofNat 170)))), (2, 1, (.c (.int .i64 (.ofNat 2)))), (3, 1, (.c (.int .i64 (.ofNat 100)))), (4, 1, (.c (.int .i64 (.ofNat 1000))))]), .call (some 34) none 10 [(.t 33)], .op (some 32) none (.mv (.t 34)), .op (some 35) none (.ext 0 (.t 32)), .op (some 36) none (.ext 1 (.t 32)), .op (some 5) none (.mv (.t 35)), .op (some 6) none (.mv (.t 36))])
def lw5 : CC := (.region [.op (some 43) none (.mv (.t 0)), .op (some 44) none (.lenS (.t 43)), .op (some 45) none (.build [(.int .u32 (.ofNat 0)), (.int .i64 (.ofNat 0)), (.slc none 0 (.known 0)), (.int .i64 (.ofNat 0)), (.int .i64 (.ofNat 0)), (.int .i64 (.ofNat 0))] [(0, 1, (.c (.int .u32 (.ofNat 1)))), (1, 1, (.c (.int .i64 (.ofNat 1)))), (3, 1, (.t 44)), (4, 1, (.c (.int .i64 (.ofNat 3)))), (5, 1, (.c (.int .i64 (.ofNat 8))))]), .op (some 7) none (.alloc [(.int .u32 (.ofNat 0)), (.int .i64 (.ofNat 0)), (.slc none 0 (.known 0)), (.int .i64 (.ofNat 0)), (.int .i64 (.ofNat 0)), (.int .i64 (.ofNat 0))] 31), .op none none (.store 6 (.t 7) (.t 45))])
def lw6 : CC := (.region [.op (some 46) none (.mv (.t 5)), .op (some 47) none (.load (some 6) (.t 7)), .op (some 48) none (.mv (.t 0)), .op (some 49) none (.build [(.int .i64 (.ofNat 0)), (.int .u32 (.ofNat 0)), (.int .i64 (.ofNat 0)), (.slc none 0 (.known 0)), (.int .i64 (.ofNat 0)), (.int .i64 (.ofNat 0)), (.int .i64 (.ofNat 0)), (.slc none 0 (.known 0)), (.int .i64 (.ofNat 0)), (.int .i64 (.ofNat 0)), (.bool false), (.int .u8 (.ofNat 0))] [(0, 1, (.c (.int .i64 (.ofNat 1)))), (1, 6, (.t 47)), (7, 1, (.t 48))]), .call (some 50) none 11 [(.t 46), (.t 49)]])
def lw7 : CC := (.region [.op (some 51) none (.mv (.t 5)), .op (some 52) none (.build [(.int .i64 (.ofNat 0)), (.int .u32 (.ofNat 0)), (.int .i64 (.ofNat 0)), (.slc none 0 (.known 0)), (.int .i64 (.ofNat 0)), (.int .i64 (.ofNat 0)), (.int .i64 (.ofNat 0)), (.slc none 0 (.known 0)), (.int .i64 (.ofNat 0)), (.int .i64 (.ofNat 0)), (.bool false), (.int .u8 (.ofNat 0))] [(0, 1, (.c (.int .i64 (.ofNat 2))))]), .call (some 53) none 11 [(.t 51), (.t 52)]])
def lw8 : CC := (.region [.op (some 54) none (.mv (.t 0)), .op (some 55) none (.lenS (.t 54)), .op (some 56) none (.bin .add false (.t 55) (.c (.int .i64 (.ofNat 1)))), .op (some 57) none (.bin .quo false (.t 56) (.c (.int .i64 (.ofNat 2)))), .op (some 8) none (.mv (.t 57))])
def lw10 : CC := (.region [.op (some 9) none (.mv (.c (.int .i64 (.ofNat 0))))])
def lw12 : CC := (.region [.op (some 75) none (.mv (.t 8)), .op (some 76) none (.mkslice 4 [(.bool false)] 1 (.t 75) (.t 75)), .op (some 11) none (.mv (.t 76))])
def lw14 : CC := (.region [.op (some 118) none (.mv (.t 9)), .op (some 119) none (.bin .add false (.t 118) (.c (.int .i64 (.ofNat 2)))), .op (some 120) none (.mx (.t 119) (.c (.int .i64 (.ofNat 3)))), .op (some 15) none (.mv (.t 120))])
def lw15 : CC := (.region [.op (some 121) none (.mv (.t 5)), .call (some 122) none 12 [(.t 121)], .op (some 16) none (.mv (.t 122))])
def lw18 : CC := (.draw [.op (some 147) none (.mv (.t 16)), .op (some 148) none (.idxS 4 (.t 147) (.c (.int .i64 (.ofNat 0)))), .op (some 149) none (.off 0 (.t 148)), .op (some 150) none (.load none (.t 149)), .op (some 151) none (.bin .eql false (.t 150) (.c (.int .i64 (.ofNat 1)))), .op (some 152) none (.mv (.t 151)), .op (some 153) (some (152, true)) (.mv (.t 16)), .op (some 154) (some (152, true)) (.idxS 4 (.t 153) (.c (.int .i64 (.ofNat 0)))), .op (some 155) (some (152, true)) (.off 2 (.t 154)), .op (some 156) (some (152, true)) (.load none (.t 155)), .op (some 157) (some (152, true)) (.mv (.t 15)), .op (some 158) (some (152, true)) (.bin .eql false (.t 156) (.t 157)), .op (some 159) none (.pick (.t 152) (.t 158) (.c (.bool false))), .op (some 160) none (.mv (.t 159)), .op (some 161) (some (160, true)) (.mv (.t 16)), .op (some 162) (some (160, true)) (.idxS 4 (.t 161) (.c (.int .i64 (.ofNat 0)))), .op (some 163) (some (160, true)) (.off 3 (.t 162)), .op (some 164) (some (160, true)) (.load none (.t 163)), .op (some 165) (some (160, true)) (.b2s (.t 164)), .op (some 166) (some (160, true)) (.mv (.t 0)), .op (some 167) (some (160, true)) (.b2s (.t 166)), .op (some 168) (some (160, true)) (.seq false (.t 165) (.t 167)), .op (some 169) none (.pick (.t 160) (.t 168) (.c (.bool false)))] [.op (some 4) none (.mv (.t 169))])
def lw1d : CC := (.region [.call (some 17) none 9 [], .op (some 18) none (.bnot (.t 17))])
def lw1t : CC := (.seq (.region [.op (some 4) none (.mv (.c (.bool false)))])  .ret)
def lw1 : CC := .seq lw1d (.cond (.t 18) lw1t .skip)
def lw2d : CC := (.region [.op (some 19) none (.mv (.t 0)), .op (some 20) none (.lenS (.t 19)), .op (some 21) none (.bin .lss false (.t 20) (.c (.int .i64 (.ofNat 1)))), .op (some 22) none (.mv (.t 21)), .op (some 23) (some (22, false)) (.mv (.t 0)), .op (some 24) (some (22, false)) (.lenS (.t 23)), .op (some 25) (some (22, false)) (.bin .gtr false (.t 24) (.c (.int .i64 (.ofNat 20)))), .op (some 26) none (.pick (.t 22) (.c (.bool true)) (.t 25)), .op (some 27) none (.mv (.t 26)), .op (some 28) (some (27, false)) (.mv (.t 1)), .op (some 29) (some (27, false)) (.lenS (.t 28)), .op (some 30) (some (27, false)) (.bin .lss false (.t 29) (.c (.int .i64 (.ofNat 10)))), .op (some 31) none (.pick (.t 27) (.c (.bool true)) (.t 30))])
def lw2t : CC := (.seq (.region [.op (some 4) none (.mv (.c (.bool true)))])  .ret)
def lw2 : CC := .seq lw2d (.cond (.t 31) lw2t .skip)
def lw4d : CC := (.region [.op (some 37) none (.mv (.t 6)), .op (some 38) none (.bnot (.t 37)), .op (some 39) none (.mv (.t 38)), .op (some 40) (some (39, false)) (.mv (.t 5)), .op (some 41) (some (39, false)) (.nileq 0 false (.t 40)), .op (some 42) none (.pick (.t 39) (.c (.bool true)) (.t 41))])
def lw4t : CC := (.seq (.region [.op (some 4) none (.mv (.c (.bool false)))])  .ret)
def lw4 : CC := .seq lw4d (.cond (.t 42) lw4t .skip)
def lw9d : CC := (.region [.op (some 58) none (.mv (.t 5)), .call (some 59) none 13 [(.t 58), (.c (.bool false))], .op (some 60) none (.mv (.t 8)), .op (some 61) none (.bin .neq false (.t 59) (.t 60))])
def lw9t : CC := (.seq (.region [.op (some 4) none (.mv (.c (.bool false)))])  .ret)
def lw9 : CC := .seq lw9d (.cond (.t 61) lw9t .skip)
def lw16d : CC := (.region [.op (some 123) none (.mv (.t 16)), .op (some 124) none (.lenS (.t 123)), .op (some 125) none (.bin .neq false (.t 124) (.c (.int .i64 (.ofNat 1)))), .op (some 126) none (.mv (.t 125)), .op (some 127) (some (126, false)) (.mv (.t 16)), .op (some 128) (some (126, false)) (.idxS 4 (.t 127) (.c (.int .i64 (.ofNat 0)))), .op (some 129) (some (126, false)) (.off 1 (.t 128)), .op (some 130) (some (126, false)) (.load none (.t 129)), .op (some 131) (some (126, false)) (.bin .neq false (.t 130) (.c (.int .u32 (.ofNat 1)))), .op (some 132) none (.pick (.t 126) (.c (.bool true)) (.t 131))])
def lw16t : CC := (.seq (.region [.op (some 4) none (.mv (.c (.bool false)))])  .ret)
def lw16 : CC := .seq lw16d (.cond (.t 132) lw16t .skip)
def lw17d : CC := (.region [.op (some 133) none (.mv (.t 15)), .op (some 134) none (.bin .gtr false (.t 133) (.c (.int .i64 (.ofNat 8))))])
def lw17t : CC := (.seq (.region [.op (some 135) none (.mv (.t 16)), .op (some 136) none (.idxS 4 (.t 135) (.c (.int .i64 (.ofNat 0)))), .op (some 137) none (.off 0 (.t 136)), .op (some 138) none (.load none (.t 137)), .op (some 139) none (.bin .eql false (.t 138) (.c (.int .i64 (.ofNat 2)))), .op (some 140) none (.mv (.t 139)), .op (some 141) (some (140, true)) (.mv (.t 16)), .op (some 142) (some (140, true)) (.idxS 4 (.t 141) (.c (.int .i64 (.ofNat 0)))), .op (some 143) (some (140, true)) (.off 2 (.t 142)), .op (some 144) (some (140, true)) (.load none (.t 143)), .op (some 145) (some (140, true)) (.bin .eql false (.t 144) (.c (.int .i64 (.ofNat 8)))), .op (some 146) none (.pick (.t 140) (.t 145) (.c (.bool false))), .op (some 4) none (.mv (.t 146))])  .ret)
def lw17 : CC := .seq lw17d (.cond (.t 134) lw17t .skip)
def lf0 : CC := (.region [.op (some 10) none (.mv (.c (.int .i64 (.ofNat 0))))])
def lfT : CC := (.region [.op (some 62) none (.mv (.t 10)), .op (some 63) none (.mv (.t 8)), .op (some 64) none (.bin .lss false (.t 62) (.t 63))])
def lfB : CC := (.region [.op (some 67) none (.mv (.t 9)), .op (some 68) none (.mv (.t 1)), .op (some 69) none (.mv (.t 10)), .op (some 70) none (.idxS 1 (.t 68) (.t 69)), .op (some 71) none (.load none (.t 70)), .op (some 72) none (.bin .rem false (.t 71) (.c (.int .u8 (.ofNat 12)))), .op (some 73) none (.conv .i64 (.t 72)), .op (some 74) none (.mx (.t 67) (.t 73)), .op (some 9) none (.mv (.t 74))])
def lfN : CC := (.region [.op (some 65) none (.mv (.t 10)), .op (some 66) none (.bin .add false (.t 65) (.c (.int .i64 (.ofNat 1)))), .op (some 10) none (.mv (.t 66))])
def lfA : CC := .seq (.seq lfT (.cond (.t 64) .skip (.exit 0))) (.seq (.block 1 lfB) lfN)
def lw11 : CC := .seq lf0 (.block 0 (.loop lfA))
def lt0 : CC := (.region [.op (some 12) none (.mv (.c (.int .i64 (.ofNat 0))))])
def ltT : CC := (.region [.op (some 77) none (.mv (.t 12)), .op (some 78) none (.bin .lss false (.t 77) (.c (.int .i64 (.ofNat 14))))])
def ltP : CC := (.region [.op (some 13) none (.mv (.c (.int .i64 (.ofNat 0))))])
def ltK : CC := (.region [.op (some 115) none (.mv (.t 5)), .op (some 116) none (.build [(.int .i64 (.ofNat 0)), (.int .u32 (.ofNat 0)), (.int .i64 (.ofNat 0)), (.slc none 0 (.known 0)), (.int .i64 (.ofNat 0)), (.int .i64 (.ofNat 0)), (.int .i64 (.ofNat 0)), (.slc none 0 (.known 0)), (.int .i64 (.ofNat 0)), (.int .i64 (.ofNat 0)), (.bool false), (.int .u8 (.ofNat 0))] [(0, 1, (.c (.int .i64 (.ofNat 2))))]), .call (some 117) none 11 [(.t 115), (.t 116)]])
def ltN : CC := (.region [.op (some 79) none (.mv (.t 12)), .op (some 80) none (.bin .add false (.t 79) (.c (.int .i64 (.ofNat 1)))), .op (some 12) none (.mv (.t 80))])
def li0 : CC := (.region [.op (some 14) none (.mv (.c (.int .i64 (.ofNat 0))))])
def liT : CC := (.region [.op (some 81) none (.mv (.t 14)), .op (some 82) none (.mv (.t 8)), .op (some 83) none (.bin .lss false (.t 81) (.t 82))])
def liD : CC := (.region [.op (some 86) none (.mv (.t 11)), .op (some 87) none (.mv (.t 14)), .op (some 88) none (.idxS 1 (.t 86) (.t 87)), .op (some 89) none (.load none (.t 88))])
def liW : CC := (.region [.op (some 90) none (.mv (.t 1)), .op (some 91) none (.mv (.t 14)), .op (some 92) none (.idxS 1 (.t 90) (.t 91)), .op (some 93) none (.load none (.t 92)), .op (some 94) none (.bin .rem false (.t 93) (.c (.int .u8 (.ofNat 12)))), .op (some 95) none (.conv .i64 (.t 94)), .op (some 96) none (.mv (.t 12)), .op (some 97) none (.bin .leq false (.t 95) (.t 96))])
def liS0 : CC := (.region [.op (some 98) none (.mv (.t 5)), .op (some 99) none (.mv (.t 13)), .op (some 100) none (.build [(.int .i64 (.ofNat 0)), (.int .u32 (.ofNat 0)), (.int .i64 (.ofNat 0)), (.slc none 0 (.known 0)), (.int .i64 (.ofNat 0)), (.int .i64 (.ofNat 0)), (.int .i64 (.ofNat 0)), (.slc none 0 (.known 0)), (.int .i64 (.ofNat 0)), (.int .i64 (.ofNat 0)), (.bool false), (.int .u8 (.ofNat 0))] [(0, 1, (.c (.int .i64 (.ofNat 5)))), (8, 1, (.t 99))]), .call (some 101) none 11 [(.t 98), (.t 100)]])
def liS1 : CC := (.region [.op (some 102) none (.mv (.t 5)), .op (some 103) none (.mv (.t 13)), .op (some 104) none (.build [(.int .i64 (.ofNat 0)), (.int .u32 (.ofNat 0)), (.int .i64 (.ofNat 0)), (.slc none 0 (.known 0)), (.int .i64 (.ofNat 0)), (.int .i64 (.ofNat 0)), (.int .i64 (.ofNat 0)), (.slc none 0 (.known 0)), (.int .i64 (.ofNat 0)), (.int .i64 (.ofNat 0)), (.bool false), (.int .u8 (.ofNat 0))] [(0, 1, (.c (.int .i64 (.ofNat 3)))), (8, 1, (.t 103))]), .call (some 105) none 11 [(.t 102), (.t 104)]])
def liS2 : CC := (.region [.op (some 106) none (.mv (.t 5)), .op (some 107) none (.mv (.t 13)), .op (some 108) none (.build [(.int .i64 (.ofNat 0)), (.int .u32 (.ofNat 0)), (.int .i64 (.ofNat 0)), (.slc none 0 (.known 0)), (.int .i64 (.ofNat 0)), (.int .i64 (.ofNat 0)), (.int .i64 (.ofNat 0)), (.slc none 0 (.known 0)), (.int .i64 (.ofNat 0)), (.int .i64 (.ofNat 0)), (.bool false), (.int .u8 (.ofNat 0))] [(0, 1, (.c (.int .i64 (.ofNat 3)))), (8, 1, (.t 107))]), .call (some 109) none 11 [(.t 106), (.t 108)]])
def liS3 : CC := (.region [.op (some 110) none (.mv (.t 11)), .op (some 111) none (.mv (.t 14)), .op (some 112) none (.idxS 1 (.t 110) (.t 111)), .op none none (.store 1 (.t 112) (.c (.bool true)))])
def liS : CC := .seq liS0 (.seq liS1 (.seq liS2 (.seq liS3 (.exit 5))))
def liP : CC := (.region [.op (some 113) none (.mv (.t 13)), .op (some 114) none (.bin .add false (.t 113) (.c (.int .i64 (.ofNat 1)))), .op (some 13) none (.mv (.t 114))])
def liN : CC := (.region [.op (some 84) none (.mv (.t 14)), .op (some 85) none (.bin .add false (.t 84) (.c (.int .i64 (.ofNat 1)))), .op (some 14) none (.mv (.t 85))])
def liB : CC := .seq (.seq liD (.cond (.t 89) (.exit 5) .skip)) (.seq (.seq liW (.cond (.t 97) liS .skip)) liP)
def liA : CC := .seq (.seq liT (.cond (.t 83) .skip (.exit 4))) (.seq (.block 5 liB) liN)
def ltB : CC := .seq ltP (.seq (.seq li0 (.block 4 (.loop liA))) ltK)
def ltA : CC := .seq (.seq ltT (.cond (.t 78) .skip (.exit 2))) (.seq (.block 3 ltB) ltN)
def lw13 : CC := .seq lt0 (.block 2 (.loop ltA))
def lwAll : CC := .seq lw0 (.seq lw1 (.seq lw2 (.seq lw3 (.seq lw4 (.seq lw5 (.seq lw6 (.seq lw7 (.seq lw8 (.seq lw9 (.seq lw10 (.seq lw11 (.seq lw12 (.seq lw13 (.seq lw14 (.seq lw15 (.seq lw16 (.seq lw17 (.seq lw18 .ret))))))))))))))))))
theorem lw_code : ∃ c, Tryz.f5.body = some c ∧ cCode Tryz.prog (cDraw Tryz.prog) c = some lwAll := ⟨_, rfl, by kernel_rfl⟩
def at170 (c : CC) (t : Tr AV) (aw : AW) : Option Out := kCode cAny c (nat_lit 1000) t (nat_lit 170) [] aw
theorem at170_eq (c : CC) (t : Tr AV) (aw : AW) : at170 c t aw = xcode cAny 1000 c ⟨t, 170, []⟩ aw := kCode_eq cAny c 1000 t 170 [] aw
def mW (O : Nat → AO) (w d : AO) : List AO := (List.range 46).map fun q => bif Nat.beq q 29 then w else bif Nat.beq q 30 then d else O q
theorem mW_len {O : Nat → AO} {w d : AO} : (mW O w d).length = 46 := by simp [mW]
theorem mW_eq {M : List AO} {w d : AO} (hl : M.length = 46) (h1 : M[29]? = some w) (h2 : M[30]? = some d) : mW (fun q => M.getD q .dead) w d = M := by
 refine List.ext_getElem? fun j => ?_
 by_cases h : j < 46
 ·unfold mW
  rw [List.getElem?_map, List.getElem?_range h, Option.map_some]
  cases hb : Nat.beq j 29 with
  | true => rw [nbt hb, h1]; rfl
  | false =>
   cases hb2 : Nat.beq j 30 with
   | true => rw [nbt hb2, h2]; rfl
   | false =>
    rw [cond_false, cond_false]
    show some (M.getD j .dead) = _
    rw [List.getD_eq_getElem?_getD, lge (by omega)]; rfl
 ·rw [List.getElem?_eq_none (by rw [mW_len]; omega), List.getElem?_eq_none (by omega)]
def wO (u : Nat → Nat) : AO := .rom ((List.range 10).map fun j => .int .u8 (.ofNat (u j))) 5
def dO (len : Nat) (d : Nat → Bool) : AO := .cells ((List.range (kOf len)).map fun j => .bool (d j)) 4 false
def bO (len : Nat) : AO := .rom ((List.range len).map fun q => .sym .u8 (2 * q)) 5
def bV (len : Nat) : AV := .slc (some (28, 0)) len (.upto 1 len)
def wV (m : Nat) : AV := .slc (some (29, 0)) (m + 10) (.upto 1 (m + 10))
def dV (len : Nat) : AV := .slc (some (30, 0)) (kOf len) (.known (kOf len))
def tmI (len m : Nat) (last : Int) (t p i : Nat) : List (Nat × AV) := [(0, bV len), (1, wV m), (5, vP 0), (8, vI (kOf len)), (9, .int .i64 last), (11, dV len), (12, vI t), (13, vI p), (14, vI i)]
def tmT (len m : Nat) (last : Int) (t : Nat) : List (Nat × AV) := [(0, bV len), (1, wV m), (5, vP 0), (8, vI (kOf len)), (9, .int .i64 last), (11, dV len), (12, vI t)]
def pieceR (c : CC) (tm tm' : List (Nat × AV)) (M : List AO) : Option SeenD := bNn (nat_lit 170) (at170 c (tmOf tm .leaf) (ofObjs M (nat_lit 46))) (seeD (tm'.map (·.1)) (List.range 46))
def pieceW (tm' : List (Nat × AV)) (M' : List AO) : Option SeenD := some (tm'.map fun x => some x.2, M'.map some, 46)
theorem slots_of : ∀ {tm : List (Nat × AV)} {t : Tr AV}, (tm.map (·.1)).map (trGet t) = tm.map (fun x => some x.2) → ∀ s v, (s, v) ∈ tm → t.get s s = some v
 | [], t, _, s, v, h => by cases h
 | x :: tm, t, he, s, v, h => by
  simp only [List.map_cons, List.cons.injEq] at he
  rcases List.mem_cons.1 h with e | h
  ·subst e
   rw [← he.1, trGet_eq]
  ·exact slots_of he.2 s v h
theorem pieceR_ok {c : CC} {tm tm' : List (Nat × AV)} {M M' : List AO} (hl : M'.length = 46) (h : pieceR c tm tm' M = pieceW tm' M') : ∃ t aw, xcode cAny 1000 c ⟨tmOf tm .leaf, 170, []⟩ (ofObjs M 46) = some ⟨.norm, ⟨t, 170, []⟩, aw⟩ ∧ (∀ s v, (s, v) ∈ tm' → t.get s s = some v) ∧ aw.nx = M'.length ∧ ∀ (j : Nat) (x : AO), M'[j]? = some x → aw.get j = some x := by
 unfold pieceR pieceW at h
 obtain ⟨t, aw, e, h⟩ := bNn_ok h
 simp only [seeD, sI, pmi] at h
 obtain ⟨h1, h2, h3⟩ := h
 rw [at170_eq] at e
 obtain ⟨g1, _⟩ := see_split (ids2 := []) (os2 := []) hl (by rw [List.append_nil, List.append_nil]; exact h2)
 exact ⟨t, aw, e, slots_of h1, by rw [h3, hl], g1⟩
section
variable {K : Env → Prop} (hK : ∀ E E', K E → E.Le E' → K E') {Q : Post'} {tm tm' : List (Nat × AV)} {M M' : List AO} {c y : CC}
include hK
theorem GoodK.piece (hl : M'.length = 46) (h : pieceR c tm tm' M = pieceW tm' M') (hy : GoodK Tryz.prog (cDraw Tryz.prog) K y Q ⟨tmOf tm' .leaf, 170, []⟩ (ofObjs M' 46)) : GoodK Tryz.prog (cDraw Tryz.prog) K (.seq c y) Q ⟨tmOf tm .leaf, 170, []⟩ (ofObjs M 46) := by
 obtain ⟨t, aw, e, h1, h2, h3⟩ := pieceR_ok hl h
 refine GoodK.seq hK cAny_ok drAny e (GoodK.canon h1 h2 h3 ?_)
 rw [hl]; exact hy
theorem GoodK.pieceEnd (hl : M'.length = 46) (h : pieceR c tm tm' M = pieceW tm' M') (hq : ∀ E ca w, K E → ActRel E ⟨tmOf tm' .leaf, 170, []⟩ ca → Rel E (ofObjs M' 46) w → Q .normal ca w) : GoodK Tryz.prog (cDraw Tryz.prog) K c Q ⟨tmOf tm .leaf, 170, []⟩ (ofObjs M 46) := by
 obtain ⟨t, aw, e, h1, h2, h3⟩ := pieceR_ok hl h
 refine GoodK.run hK cAny_ok drAny e fun E x ca w hE hR hA hX => ?_
 cases x <;> simp only [XRel] at hX
 refine hq E ca w hE (act_less h1 hA) (hR.less (by rw [h2, hl]; rfl) fun j x hj => ?_)
 rw [ofObjs_get] at hj
 exact h3 j x hj
theorem GoodK.skipTo {a : AAct} {aw : AW} (hy : GoodK Tryz.prog (cDraw Tryz.prog) K y Q a aw) : GoodK Tryz.prog (cDraw Tryz.prog) K .skip (thenC Tryz.prog (cDraw Tryz.prog) y Q) a aw :=
 GoodK.skip hK cAny_ok drAny fun E ca w hE hR hA c hc => hy c hc E ca w hE hA hR
theorem GoodK.exitTo {a : AAct} {aw : AW} {id : Nat} (hq : ∀ E ca w, K E → ActRel E a ca → Rel E aw w → Q (.exit id) ca w) : GoodK Tryz.prog (cDraw Tryz.prog) K (.exit id) Q a aw :=
 GoodK.run (n := 1) hK cAny_ok drAny (o := ⟨.exit id, a, aw⟩) rfl fun E e ca w hE hR hA hX => by
  cases e <;> simp only [XRel] at hX
  subst hX
  exact hq E ca w hE hA hR
end
def liX : List (Nat × Nat) := lens.flatMap fun len => (List.range (kOf len + 1)).map fun i => (len, i)
theorem liX_mem {len i : Nat} (hl : len ∈ lens) (hi : i ≤ kOf len) : (len, i) ∈ liX := List.mem_flatMap.2 ⟨len, hl, List.mem_map.2 ⟨i, List.mem_range.2 (by omega), rfl⟩⟩
theorem liT_all : ∀ (O : Nat → AO) (w d : AO) (m : Nat) (last : Int) (t p : Nat), (liX.map fun x => pieceR liT (tmI x.1 m last t p x.2) (tmI x.1 m last t p x.2 ++ [(83, .bool (Nat.blt x.2 (kOf x.1)))]) (mW O w d)) = liX.map fun x => pieceW (tmI x.1 m last t p x.2 ++ [(83, .bool (Nat.blt x.2 (kOf x.1)))]) (mW O w d) := by
 intro O w d m last t p
 kernel_rfl
theorem liD_all : ∀ (O : Nat → AO) (w : AO) (d : Nat → Bool) (m : Nat) (last : Int) (t p : Nat), (adLI.map fun x => pieceR liD (tmI x.1 m last t p x.2) (tmI x.1 m last t p x.2 ++ [(89, .bool (d x.2))]) (mW O w (dO x.1 d))) = adLI.map fun x => pieceW (tmI x.1 m last t p x.2 ++ [(89, .bool (d x.2))]) (mW O w (dO x.1 d)) := by
 intro O w d m last t p
 kernel_rfl
def uAt (X : Nat → AV) (i u : Nat) : AO := .rom ((List.range 10).map fun j => bif Nat.beq j i then .int .u8 (.ofNat u) else X j) 5
def leW (u t : Nat) : Bool := notF (Nat.ble (Nat.succ t) (Nat.mod u 12))
def mxW (last : Int) (u : Nat) : Int := bif ilt last (.ofNat (Nat.mod u 12)) then .ofNat (Nat.mod u 12) else last
def iuL : List (Nat × Nat) := (List.range 10).flatMap fun i => (List.range 256).map fun u => (i, u)
theorem iuL_mem {i u : Nat} (hi : i < 10) (hu : u < 256) : (i, u) ∈ iuL := List.mem_flatMap.2 ⟨i, List.mem_range.2 hi, List.mem_map.2 ⟨u, List.mem_range.2 hu, rfl⟩⟩
theorem liW_all : ∀ (O : Nat → AO) (d : AO) (X : Nat → AV) (len m : Nat) (last : Int) (t p : Nat), (iuL.map fun x => pieceR liW (tmI len m last t p x.1) (tmI len m last t p x.1 ++ [(97, .bool (leW x.2 t))]) (mW O (uAt X x.1 x.2) d)) = iuL.map fun x => pieceW (tmI len m last t p x.1 ++ [(97, .bool (leW x.2 t))]) (mW O (uAt X x.1 x.2) d) := by
 intro O d X len m last t p
 kernel_rfl
theorem liS3_all : ∀ (O : Nat → AO) (w : AO) (d : Nat → Bool) (m : Nat) (last : Int) (t p : Nat), (adLI.map fun x => pieceR liS3 (tmI x.1 m last t p x.2) (tmI x.1 m last t p x.2) (mW O w (dO x.1 d))) = adLI.map fun x => pieceW (tmI x.1 m last t p x.2) (mW O w (dO x.1 fun j => bb2 (Nat.beq j x.2) true (d j))) := by
 intro O w d m last t p
 kernel_rfl
theorem liP_all : ∀ (O : Nat → AO) (w d : AO) (len m : Nat) (last : Int) (t i : Nat), ((List.range 11).map fun p => pieceR liP (tmI len m last t p i) (tmI len m last t (p + 1) i) (mW O w d)) = (List.range 11).map fun p => pieceW (tmI len m last t (p + 1) i) (mW O w d) := by
 intro O w d len m last t i
 kernel_rfl
theorem liN_all : ∀ (O : Nat → AO) (w d : AO) (len m : Nat) (last : Int) (t p : Nat), ((List.range 11).map fun i => pieceR liN (tmI len m last t p i) (tmI len m last t p (i + 1)) (mW O w d)) = (List.range 11).map fun i => pieceW (tmI len m last t p (i + 1)) (mW O w d) := by
 intro O w d len m last t p
 kernel_rfl
theorem ltT_all : ∀ (O : Nat → AO) (w d : AO) (len m : Nat) (last : Int), ((List.range 15).map fun t => pieceR ltT (tmT len m last t) (tmT len m last t ++ [(78, .bool (Nat.blt t 14))]) (mW O w d)) = (List.range 15).map fun t => pieceW (tmT len m last t ++ [(78, .bool (Nat.blt t 14))]) (mW O w d) := by
 intro O w d len m last
 kernel_rfl
theorem ltP_all : ∀ (O : Nat → AO) (w d : AO) (len m : Nat) (last : Int) (t : Nat), pieceR ltP (tmT len m last t) (tmT len m last t ++ [(13, vI 0)]) (mW O w d) = pieceW (tmT len m last t ++ [(13, vI 0)]) (mW O w d) := by
 intro O w d len m last t
 kernel_rfl
theorem li0_all : ∀ (O : Nat → AO) (w d : AO) (len m : Nat) (last : Int) (t : Nat), pieceR li0 (tmT len m last t ++ [(13, vI 0)]) (tmI len m last t 0 0) (mW O w d) = pieceW (tmI len m last t 0 0) (mW O w d) := by
 intro O w d len m last t
 kernel_rfl
theorem ltN_all : ∀ (O : Nat → AO) (w d : AO) (len m : Nat) (last : Int), ((List.range 14).map fun t => pieceR ltN (tmT len m last t) (tmT len m last (t + 1)) (mW O w d)) = (List.range 14).map fun t => pieceW (tmT len m last (t + 1)) (mW O w d) := by
 intro O w d len m last
 kernel_rfl
def tmF (len m : Nat) (last : Int) : List (Nat × AV) := [(0, bV len), (1, wV m), (5, vP 0), (8, vI (kOf len)), (9, .int .i64 last)]
def tmG (len m : Nat) (last : Int) (i : Nat) : List (Nat × AV) := [(0, bV len), (1, wV m), (5, vP 0), (8, vI (kOf len)), (9, .int .i64 last), (10, vI i)]
theorem lf0_all : ∀ (O : Nat → AO) (w d : AO) (len m : Nat) (last : Int), pieceR lf0 (tmF len m last) (tmG len m last 0) (mW O w d) = pieceW (tmG len m last 0) (mW O w d) := by
 intro O w d len m last
 kernel_rfl
theorem lfT_all : ∀ (O : Nat → AO) (w d : AO) (m : Nat) (last : Int), (liX.map fun x => pieceR lfT (tmG x.1 m last x.2) (tmG x.1 m last x.2 ++ [(64, .bool (Nat.blt x.2 (kOf x.1)))]) (mW O w d)) = liX.map fun x => pieceW (tmG x.1 m last x.2 ++ [(64, .bool (Nat.blt x.2 (kOf x.1)))]) (mW O w d) := by
 intro O w d m last
 kernel_rfl
theorem lfB_all : ∀ (O : Nat → AO) (d : AO) (X : Nat → AV) (len m : Nat) (last : Int), (iuL.map fun x => pieceR lfB (tmG len m last x.1) (tmG len m (mxW last x.2) x.1) (mW O (uAt X x.1 x.2) d)) = iuL.map fun x => pieceW (tmG len m (mxW last x.2) x.1) (mW O (uAt X x.1 x.2) d) := by
 intro O d X len m last
 kernel_rfl
theorem lfN_all : ∀ (O : Nat → AO) (w d : AO) (len m : Nat) (last : Int), ((List.range 11).map fun i => pieceR lfN (tmG len m last i) (tmG len m last (i + 1)) (mW O w d)) = (List.range 11).map fun i => pieceW (tmG len m last (i + 1)) (mW O w d) := by
 intro O w d len m last
 kernel_rfl
theorem lt0_all : ∀ (O : Nat → AO) (w d : AO) (len m : Nat) (last : Int), pieceR lt0 (tmF len m last ++ [(11, dV len)]) (tmT len m last 0) (mW O w d) = pieceW (tmT len m last 0) (mW O w d) := by
 intro O w d len m last
 kernel_rfl
def okP (P : Nat → Bool) : AV → Bool
 | .int _ _ => true
 | .bool _ => true
 | .ptr (some (q, _)) => P q
 | .slc (some (q, _)) _ _ => P q
 | _ => false
theorem VRel.keepP {E E' : Env} {P : Nat → Bool} (hl : ∀ q, P q = true → ∀ L, E.loc[q]? = some L → E'.loc[q]? = some L) {a : AV} {v : Value} (hk : okP P a = true) (h : VRel E a v) : VRel E' a v := by
 cases a with
 | int k n => cases h; exact .int _ _
 | bool b => cases h; exact .bool _
 | ptr a =>
  cases a with
  | none => cases hk
  | some p => cases h with | ptr hL => exact .ptr (hl _ hk _ hL)
 | slc a n c =>
  cases a with
  | none => cases hk
  | some p =>
   obtain ⟨q, o⟩ := p
   cases h with
   | slc hL a => exact .slc (hl _ hk _ hL) a
   | slcUp hL a b c => exact .slcUp (hl _ hk _ hL) a b c
 | _ => cases hk
def lawP (q : Nat) : Bool := bb2 (Nat.beq q 0) true (bb2 (Nat.ble 28 q) (Nat.ble q 30) false)
theorem lawP_ok {q : Nat} (h : lawP q = true) : q = 0 ∨ (28 ≤ q ∧ q ≤ 30) := by
 unfold lawP at h
 rw [bb2_eq, bb2_eq] at h
 cases h0 : Nat.beq q 0 with
 | true => exact .inl (nbt h0)
 | false =>
  rw [h0, cond_false] at h
  cases h1 : Nat.ble 28 q with
  | false => rw [h1] at h; cases h
  | true => rw [h1, cond_true] at h; exact .inr ⟨nbl h1, nbl h⟩
section
variable {fr : Nat → Option Obj} {sy : SymW} {tk : Nat → Option Tok}
theorem do_step {y : CC} {Q : Post'} {tm : List (Nat × AV)} {M M' : List AO} {k n : Nat} {a b c d : Nat} {z : List AV} {ps : List (Nat × Nat × Opd)} {awR : AW} {v : AV} {x : Opd}
  (ha : Nat.blt a 170 = true) (hb : Nat.blt b 170 = true) (hc : Nat.blt c 170 = true) (hd : Nat.blt d 170 = true) (hab : a ≠ b) (hac : a ≠ c) (hbc : b ≠ c)
  (htm : ∀ s v, (s, v) ∈ tm → (tmOf tm .leaf).get s s = some v ∧ s ≠ a ∧ s ≠ b ∧ s ≠ c ∧ s ≠ d ∧ okP lawP v = true)
  (h5 : (5, vP 0) ∈ tm) (hx : x.ev ((tmOf tm .leaf).set a a (vP 0)) = some (vI n)) (hfill : ∀ t : Tr AV, t.get b b = some (vI n) → xfill t z ps = some [vI k, vW 0, vI 0, vN, vI 0, vI 0, vI 0, vN, vI n, vI 0, .bool false, .int .u8 (.ofNat 0)])
  (hcall : CallsAt 11 [vP 0, stepV k n] (ofObjs M 46) (.ret v awR)) (hcl : callable Tryz.prog 11 = true)
  (hturn : ∀ E w, LawK fr sy tk E → Rel E awR w → ∃ E', LawK fr sy tk E' ∧ Rel E' (ofObjs M' 46) w ∧ ∀ q, lawP q = true → ∀ L, E.loc[q]? = some L → E'.loc[q]? = some L)
  (hy : GoodK Tryz.prog (cDraw Tryz.prog) (LawK fr sy tk) y Q ⟨tmOf tm .leaf, 170, []⟩ (ofObjs M' 46)) :
  GoodK Tryz.prog (cDraw Tryz.prog) (LawK fr sy tk) (.seq (.region [.op (some a) none (.mv (.t 5)), .op (some b) none (.mv x), .op (some c) none (.build z ps), .call (some d) none 11 [.t a, .t c]]) y) Q ⟨tmOf tm .leaf, 170, []⟩ (ofObjs M 46) := by
 obtain ⟨g5, n5a, n5b, n5c, _, _⟩ := htm _ _ h5
 refine GoodK.items (GoodI.op (v := vP 0) (aw1 := ofObjs M 46) LawK.le cAny_ok (by simp only [xop, Opd.ev, g5]) ha ?_)
 refine GoodI.op (v := vI n) (aw1 := ofObjs M 46) LawK.le cAny_ok (by simp only [xop, hx]) hb ?_
 refine GoodI.op (v := stepV k n) (aw1 := ofObjs M 46) LawK.le cAny_ok (by simp only [xop, hfill _ (Tr.get_set_same ..)]; rfl) hc ?_
 refine GoodI.calls (α := Unit) (p := fun _ => True) (v := fun _ => v) (aw2 := fun _ => awR) (vs := [vP 0, stepV k n]) LawK.le ?_ hcl (fun E w cargs hE hr hR => (hcall E w cargs hr hR).mono fun e w' h => ⟨(), trivial, h⟩) hd fun _ _ => ?_
 ·have e1 : Opd.ev ((((tmOf tm .leaf).set a a (vP 0)).set b b (vI n)).set c c (stepV k n)) (.t a) = some (vP 0) := (tgo hac).trans ((tgo hab).trans (Tr.get_set_same ..))
  have e2 : Opd.ev ((((tmOf tm .leaf).set a a (vP 0)).set b b (vI n)).set c c (stepV k n)) (.t c) = some (stepV k n) := Tr.get_set_same ..
  simp only [evs, e1, e2]
 ·refine GoodI.turn (tm := tm) (aw' := ofObjs M' 46) (fun E w hE hR => ?_) (GoodI.last hy)
  obtain ⟨E', h1, h2, h3⟩ := hturn E w hE hR
  refine ⟨E', h1, h2, fun s u hsu => ?_⟩
  obtain ⟨q1, q2, q3, q4, q5, q6⟩ := htm s u hsu
  exact ⟨u, (tgo q5).trans ((tgo q4).trans ((tgo q3).trans ((tgo q2).trans q1))), fun cv hcv => hcv.keepP h3 q6⟩
theorem tmI_ok {len m t p i : Nat} {last : Int} {a b c d : Nat} (h : 14 < a ∧ 14 < b ∧ 14 < c ∧ 14 < d) : ∀ s v, (s, v) ∈ tmI len m last t p i → (tmOf (tmI len m last t p i) .leaf).get s s = some v ∧ s ≠ a ∧ s ≠ b ∧ s ≠ c ∧ s ≠ d ∧ okP lawP v = true := by
 intro s v hsv
 simp only [tmI, List.mem_cons, List.not_mem_nil, or_false, pmi] at hsv
 rcases hsv with ⟨rfl, rfl⟩ | ⟨rfl, rfl⟩ | ⟨rfl, rfl⟩ | ⟨rfl, rfl⟩ | ⟨rfl, rfl⟩ | ⟨rfl, rfl⟩ | ⟨rfl, rfl⟩ | ⟨rfl, rfl⟩ | ⟨rfl, rfl⟩ <;> exact ⟨rfl, by omega, by omega, by omega, by omega, rfl⟩
structure StillZ (Z : List AO) (ev : AV) : Prop where
 len : Z.length = 18
 z : ∀ f : Nat → Nat, (∀ q, 17 ≤ q → q < 35 → f q = q) → ∀ x ∈ Z, Still f 46 x
 ev : ∀ f : Nat → Nat, (∀ q, 17 ≤ q → q < 35 → f q = q) → renV f ev = ev ∧ okV 46 ev = true
theorem fD_Z (p : Nat) (A : Bool) : ∀ q, 17 ≤ q → q < 35 → fD p A q = q := fun q h1 h2 => fD_lo h2 (.inr (by omega))
theorem fB_Z (p : Nat) : ∀ q, 17 ≤ q → q < 35 → fB p q = q := fun q h1 h2 => fB_lo h2 (by omega)
variable {len now i p m t : Nat} {last : Int} {ev : AV} {S : List Nat} {R R1 Z : List AO} {y : CC} {Q : Post'}
theorem doubl_step (hR : R.length = 14) (hRs : ∀ p, ∀ x ∈ R, Still (fB p) 46 x) (hZ : StillZ Z ev) (hS : S.length ≤ 10) (hp : S[p]? = some i)
  (hy : GoodK Tryz.prog (cDraw Tryz.prog) (LawK fr sy tk) y Q ⟨tmOf (tmI len m last t p i) .leaf, 170, []⟩ (ofObjs (lawM len now ev (S.insertIdx p i) R Z) 46)) :
  GoodK Tryz.prog (cDraw Tryz.prog) (LawK fr sy tk) (.seq liS0 y) Q ⟨tmOf (tmI len m last t p i) .leaf, 170, []⟩ (ofObjs (lawM len now ev S R Z) 46) := by
 obtain ⟨aw1, hcall, hn, g0, g1, g52, g54, gl⟩ := dbl11 (len := len) (now := now) (ev := ev) hR hZ.len hS hp
 refine do_step (k := 5) (n := p) (M' := lawM len now ev (S.insertIdx p i) R Z) (x := .t 13) rfl rfl rfl rfl (by decide) (by decide) (by decide) (tmI_ok ⟨by decide, by decide, by decide, by decide⟩) (by simp [tmI]) rfl (fun t h => by simp only [xfill, Opd.ev, h]; rfl) hcall (by kernel_rfl) (fun E w hE hR2 => ?_) hy
 obtain ⟨E', h1, h2, h3⟩ := law_doubl hE hR hZ.len hS hp (hZ.ev _ (fB_Z p)) (hZ.z _ (fB_Z p)) (hRs p) g0 g1 g52 g54 gl hR2
 exact ⟨E', h1, h2, fun q hq => by rcases lawP_ok hq with rfl | ⟨a, b⟩ <;> exact h3 _ (by omega) (by omega)⟩
theorem deliv_call (hh : Hears len i now R R1) (hZ : StillZ Z ev) (hS : S.length ≤ 11) (hp : S[p]? = some i) : ∃ awR, CallsAt 11 [vP 0, stepV 3 p] (ofObjs (lawM len now ev S R Z) 46) (.ret (.agg [vI 0, vN]) awR) ∧
  ∀ E w, LawK fr sy tk E → Rel E awR w → ∃ E', LawK fr sy tk E' ∧ Rel E' (ofObjs (lawM len now ev (S.eraseIdx p) R1 Z) 46) w ∧ ∀ q, lawP q = true → ∀ L, E.loc[q]? = some L → E'.loc[q]? = some L := by
 obtain ⟨R', tl, A, hR', h65, hRr⟩ := hh.go
 have hpl : p < S.length := (lgs.1 hp).1
 have hd := (del11 (g := gL len ev) (now := .ofNat now) (O := fun q => (lawM len now ev S R Z).getD q .dead) hpl hS hh.l1 hR' h65).2
 rw [← lawM_mQ hh.l1 hZ.len hS hp] at hd
 refine ⟨_, hd, fun E w hE hR2 => ?_⟩
 obtain ⟨E', h1, h2, h3⟩ := law_deliv (R'' := R1) (A := A) hE hh.l1 hR' hh.l2 hZ.len hS hp (hZ.ev _ (fD_Z p A)) (hZ.z _ (fD_Z p A)) hh.ok (hRr p) hR2
 exact ⟨E', h1, h2, fun q hq => by rcases lawP_ok hq with rfl | ⟨a, b⟩ <;> exact h3 _ (by omega) (by omega)⟩
theorem deliv1_step (hh : Hears len i now R R1) (hZ : StillZ Z ev) (hS : S.length ≤ 11) (hp : S[p]? = some i)
  (hy : GoodK Tryz.prog (cDraw Tryz.prog) (LawK fr sy tk) y Q ⟨tmOf (tmI len m last t p i) .leaf, 170, []⟩ (ofObjs (lawM len now ev (S.eraseIdx p) R1 Z) 46)) :
  GoodK Tryz.prog (cDraw Tryz.prog) (LawK fr sy tk) (.seq liS1 y) Q ⟨tmOf (tmI len m last t p i) .leaf, 170, []⟩ (ofObjs (lawM len now ev S R Z) 46) := by
 obtain ⟨awR, hcall, hturn⟩ := deliv_call (fr := fr) (sy := sy) (tk := tk) hh hZ hS hp
 exact do_step (k := 3) (n := p) (M' := lawM len now ev (S.eraseIdx p) R1 Z) (x := .t 13) rfl rfl rfl rfl (by decide) (by decide) (by decide) (tmI_ok ⟨by decide, by decide, by decide, by decide⟩) (by simp [tmI]) rfl (fun t h => by simp only [xfill, Opd.ev, h]; rfl) hcall (by kernel_rfl) hturn hy
theorem deliv2_step (hh : Hears len i now R R1) (hZ : StillZ Z ev) (hS : S.length ≤ 11) (hp : S[p]? = some i)
  (hy : GoodK Tryz.prog (cDraw Tryz.prog) (LawK fr sy tk) y Q ⟨tmOf (tmI len m last t p i) .leaf, 170, []⟩ (ofObjs (lawM len now ev (S.eraseIdx p) R1 Z) 46)) :
  GoodK Tryz.prog (cDraw Tryz.prog) (LawK fr sy tk) (.seq liS2 y) Q ⟨tmOf (tmI len m last t p i) .leaf, 170, []⟩ (ofObjs (lawM len now ev S R Z) 46) := by
 obtain ⟨awR, hcall, hturn⟩ := deliv_call (fr := fr) (sy := sy) (tk := tk) hh hZ hS hp
 exact do_step (k := 3) (n := p) (M' := lawM len now ev (S.eraseIdx p) R1 Z) (x := .t 13) rfl rfl rfl rfl (by decide) (by decide) (by decide) (tmI_ok ⟨by decide, by decide, by decide, by decide⟩) (by simp [tmI]) rfl (fun t h => by simp only [xfill, Opd.ev, h]; rfl) hcall (by kernel_rfl) hturn hy
end
theorem filt_at : ∀ {k i : Nat} {f : Nat → Bool}, i < k → f i = true → ((List.range k).filter f)[((List.range i).filter f).length]? = some i
 | 0, i, f, h, _ => by omega
 | k + 1, i, f, h, hf => by
  rw [List.range_succ, List.filter_append]
  by_cases hi : i < k
  ·have := filt_at hi hf
   rw [lal (lgs.1 this).1]; exact this
  ·have : i = k := by omega
   subst this
   rw [lar (Nat.le_refl _)]
   simp [hf]
theorem filt_erase : ∀ {k i : Nat} {f : Nat → Bool}, i < k → f i = true → ((List.range k).filter f).eraseIdx ((List.range i).filter f).length = (List.range k).filter fun j => f j && !(Nat.beq j i)
 | 0, i, f, h, _ => by omega
 | k + 1, i, f, h, hf => by
  rw [List.range_succ, List.filter_append, List.filter_append]
  by_cases hi : i < k
  ·have h1 := filt_at hi hf
   rw [List.eraseIdx_append_of_lt_length (lgs.1 h1).1, filt_erase hi hf]
   congr 1
   have hk : Nat.beq k i = false := by
    cases hq : Nat.beq k i with
    | true => have := nbt hq; omega
    | false => rfl
   simp [List.filter_cons, hk]
  ·have : i = k := by omega
   subst this
   rw [List.eraseIdx_append_of_length_le (Nat.le_refl _), Nat.sub_self]
   have hii : Nat.beq i i = true := by simp
   have e1 : [i].filter f = [i] := by simp [hf]
   have e2 : [i].filter (fun j => f j && !(Nat.beq j i)) = [] := by simp [hii]
   rw [e1, e2]
   simp only [List.eraseIdx_cons_zero, List.append_nil]
   refine List.filter_congr fun j hj => ?_
   have := List.mem_range.1 hj
   have hq : Nat.beq j i = false := by
    cases hq : Nat.beq j i with
    | true => have := nbt hq; omega
    | false => rfl
   simp [hq]
def dn (w : Nat → Nat) (t i : Nat) : Nat → Bool := fun j => bif Nat.blt j i then Nat.ble (w j) t else Nat.blt (w j) t
def put1 (d : Nat → Bool) (i : Nat) : Nat → Bool := fun j => bb2 (Nat.beq j i) true (d j)
theorem blt_iff {a b : Nat} : Nat.blt a b = decide (a < b) := by
 cases h : Nat.blt a b with
 | true => exact (decide_eq_true (nbl h)).symm
 | false => exact (decide_eq_false fun h2 => by
   have : Nat.blt a b = true := Nat.ble_eq_true_of_le h2
   rw [h] at this; cases this).symm
theorem ble_iff {a b : Nat} : Nat.ble a b = decide (a ≤ b) := by
 cases h : Nat.ble a b with
 | true => exact (decide_eq_true (nbl h)).symm
 | false => exact (decide_eq_false fun h2 => by
   have : Nat.ble a b = true := Nat.ble_eq_true_of_le h2
   rw [h] at this; cases this).symm
theorem dn_at {w : Nat → Nat} {t i : Nat} : dn w t i i = Nat.blt (w i) t := by
 unfold dn
 rw [blt_iff (a := i), decide_eq_false (Nat.lt_irrefl i)]; rfl
theorem dn_next {w : Nat → Nat} {t i j : Nat} : dn w t (i + 1) j = bif Nat.beq j i then Nat.ble (w i) t else dn w t i j := by
 unfold dn
 cases hj : Nat.beq j i with
 | true =>
  have := nbt hj
  subst this
  rw [blt_iff (a := j) (b := j + 1), decide_eq_true (by omega)]; rfl
 | false =>
  have hne := ne_of_beq hj
  rw [blt_iff (a := j), blt_iff (a := j), cond_false]
  by_cases h : j < i
  ·rw [decide_eq_true h, decide_eq_true (by omega : j < i + 1)]
  ·rw [decide_eq_false h, decide_eq_false (by omega : ¬ j < i + 1)]
theorem dn_same {w : Nat → Nat} {t i : Nat} (h : Nat.ble (w i) t = Nat.blt (w i) t) : dn w t (i + 1) = dn w t i := by
 funext j
 rw [dn_next]
 cases hj : Nat.beq j i with
 | true => rw [nbt hj, cond_true, h, dn_at]
 | false => rfl
theorem dn_put {w : Nat → Nat} {t i : Nat} (h : Nat.ble (w i) t = true) : dn w t (i + 1) = put1 (dn w t i) i := by
 funext j
 rw [dn_next]
 unfold put1
 rw [bb2_eq, h]
def qS (k : Nat) (d : Nat → Bool) : List Nat := (List.range k).filter fun j => !(d j)
def pl (d : Nat → Bool) (i : Nat) : Nat := ((List.range i).filter fun j => !(d j)).length
theorem qS_len {k : Nat} {d : Nat → Bool} : (qS k d).length ≤ k := by
 have := List.length_filter_le (fun j => !(d j)) (List.range k)
 simpa [qS] using this
theorem qS_put {k i : Nat} {d : Nat → Bool} (hi : i < k) (hd : d i = false) : (qS k d)[pl d i]? = some i ∧ (qS k d).eraseIdx (pl d i) = qS k (put1 d i) := by
 refine ⟨filt_at hi (by simp [hd]), ?_⟩
 unfold qS pl
 rw [filt_erase hi (by simp [hd])]
 refine List.filter_congr fun j _ => ?_
 unfold put1
 rw [bb2_eq]
 cases Nat.beq j i <;> cases d j <;> rfl
theorem pl_next {d : Nat → Bool} {i : Nat} : pl d (i + 1) = pl d i + (bif d i then 0 else 1) := by
 unfold pl
 rw [List.range_succ, List.filter_append, List.length_append]
 cases hd : d i <;> simp [hd]
theorem pl_put {d : Nat → Bool} {i : Nat} : pl (put1 d i) i = pl d i := by
 unfold pl
 congr 1
 refine List.filter_congr fun j hj => ?_
 have := List.mem_range.1 hj
 have hq : Nat.beq j i = false := by
  cases hq : Nat.beq j i with
  | true => have := nbt hq; omega
  | false => rfl
 unfold put1
 rw [hq]; rfl
theorem put1_at {d : Nat → Bool} {i : Nat} : put1 d i i = true := by
 unfold put1
 rw [bb2_eq]; simp
def zW (len now : Nat) (bd nb : AO) (u : Nat → Nat) (d : Nat → Bool) (e31 e32 : AO) : List AO := zL len now bd nb (bO len) (wO u) (dO len d) e31 e32
def Phase (len now : Nat) (Rf : (Nat → Bool) → List AO) : Prop := ∀ (d : Nat → Bool) (i : Nat), (∀ j, kOf len ≤ j → d j = false) → i < kOf len → d i = false → Hears len i now (Rf d) (Rf (put1 d i)) ∧ Hears len i now (Rf (put1 d i)) (Rf (put1 d i))
theorem leW_eq {u t : Nat} : leW u t = Nat.ble (u % 12) t := by
 unfold leW
 rw [notF_eq]
 show (!(Nat.ble (t + 1) (u % 12))) = _
 rw [ble_iff, ble_iff]
 by_cases h : t + 1 ≤ u % 12
 ·rw [decide_eq_true h, decide_eq_false (by omega : ¬ u % 12 ≤ t)]; rfl
 ·rw [decide_eq_false h, decide_eq_true (by omega : u % 12 ≤ t)]; rfl
theorem wO_at {u : Nat → Nat} {i : Nat} : wO u = uAt (fun j => .int .u8 (.ofNat (u j))) i (u i) := by
 unfold wO uAt
 congr 1
 refine List.map_congr_left fun j _ => ?_
 cases hj : Nat.beq j i with
 | true => rw [nbt hj]; rfl
 | false => rfl
theorem kOf_le {len : Nat} (h : len ∈ lens) : kOf len ≤ 10 := by
 have : lens.all (fun len => Nat.ble (kOf len) 10) = true := by kernel_rfl
 exact nbl (List.all_eq_true.1 this len h)
section
variable {fr : Nat → Option Obj} {sy : SymW} {tk : Nat → Option Tok} {len now m t : Nat} {last : Int} {ev : AV} {bd nb e31 e32 : AO} {u w : Nat → Nat} {Rf : (Nat → Bool) → List AO}
theorem lawM_w {S : List Nat} {R : List AO} {d : Nat → Bool} (hR : R.length = 14) : (lawM len now ev S R (zW len now bd nb u d e31 e32))[29]? = some (wO u) ∧ (lawM len now ev S R (zW len now bd nb u d e31 e32))[30]? = some (dO len d) := ⟨lawM_Z (u := 12) hR rfl (by omega), lawM_Z (u := 13) hR rfl (by omega)⟩
theorem lawM_mW {S : List Nat} {R : List AO} {d : Nat → Bool} (hR : R.length = 14) : ∃ O, ∀ d' : Nat → Bool, lawM len now ev S R (zW len now bd nb u d' e31 e32) = mW O (wO u) (dO len d') := by
 refine ⟨fun q => (lawM len now ev S R (zW len now bd nb u d e31 e32)).getD q .dead, fun d' => ?_⟩
 rw [← mW_eq (lawM_len hR rfl) (lawM_w (d := d') hR).1 (lawM_w hR).2]
 unfold mW
 refine List.map_congr_left fun q hq => ?_
 cases h29 : Nat.beq q 29 with
 | true => rfl
 | false =>
  cases h30 : Nat.beq q 30 with
  | true => rfl
  | false =>
   rw [cond_false, cond_false, cond_false, cond_false]
   have n29 := ne_of_beq h29
   have n30 := ne_of_beq h30
   show (lawM len now ev S R (zW len now bd nb u d' e31 e32)).getD q .dead = (lawM len now ev S R (zW len now bd nb u d e31 e32)).getD q .dead
   rw [List.getD_eq_getElem?_getD, List.getD_eq_getElem?_getD]
   congr 1
   have hq := List.mem_range.1 hq
   by_cases h3 : q < 3
   ·match q, h3 with
    | 0, _ => rfl
    | 1, _ => rfl
    | 2, _ => rfl
   ·by_cases h17 : q < 17
    ·obtain ⟨v, rfl⟩ : ∃ v, q = 3 + v := ⟨q - 3, by omega⟩
     rw [lawM_R hR (by omega), lawM_R hR (by omega)]
    ·by_cases h35 : q < 35
     ·obtain ⟨v, rfl⟩ : ∃ v, q = 17 + v := ⟨q - 17, by omega⟩
      rw [lawM_Z hR rfl (by omega), lawM_Z hR rfl (by omega)]
      match v, n29, n30 with
      | 0, _, _ => rfl
      | 1, _, _ => rfl
      | 2, _, _ => rfl
      | 3, _, _ => rfl
      | 4, _, _ => rfl
      | 5, _, _ => rfl
      | 6, _, _ => rfl
      | 7, _, _ => rfl
      | 8, _, _ => rfl
      | 9, _, _ => rfl
      | 10, _, _ => rfl
      | 11, _, _ => rfl
      | 12, h, _ => exact (h rfl).elim
      | 13, _, h => exact (h rfl).elim
      | v + 14, _, _ => rfl
     ·obtain ⟨v, rfl⟩ : ∃ v, q = 35 + v := ⟨q - 35, by omega⟩
      rw [lawM_Q hR rfl (by omega), lawM_Q hR rfl (by omega)]
end
end Go.Proofs.YtbilacojhmohmaaGreat.Ae
end
