/- TopGone, called with a byte and six bytes: true, and nothing else is touched. No condition. -/
import Derived.Test.YtbilacojhmohmaaGreatBeGonAm
import Derived.Test.YtbilacojhmohmaaGreatBeGonGd
import Derived.Test.YtbilacojhmohmaaGreatBeGonS0
import Derived.Test.YtbilacojhmohmaaGreatBeGonK0
import Derived.Test.YtbilacojhmohmaaGreatBeGonK1
import Derived.Test.YtbilacojhmohmaaGreatBeGonK2
import Derived.Test.YtbilacojhmohmaaGreatBeGonK3
import Derived.Test.YtbilacojhmohmaaGreatBeGonK4
import Derived.Test.YtbilacojhmohmaaGreatBeGonK5
import Derived.Test.YtbilacojhmohmaaGreatBeGonK6
import Derived.Test.YtbilacojhmohmaaGreatBeGonK7
import Derived.Test.YtbilacojhmohmaaGreatBeGonK8
import Derived.Test.YtbilacojhmohmaaGreatBeGonK9
import Derived.Test.YtbilacojhmohmaaGreatBeGonK10
import Derived.Test.YtbilacojhmohmaaGreatBeGonK11
namespace Go.Proofs.YtbilacojhmohmaaGreat.Ae
open Go
set_option linter.unusedVariables false
set_option linter.unusedSimpArgs false
theorem sub_all2 : ∀ b1 : Bool, subT [false, b1] [] = true
  | false => sub_2_0
  | true => sub_2_1
theorem sub_all3 : ∀ b1 b2 : Bool, subT [false, b1, b2] [] = true
  | false, false => sub_3_0
  | true, false => sub_3_1
  | false, true => sub_3_2
  | true, true => sub_3_3
theorem sub_all4 : ∀ b1 b2 b3 : Bool, subT [false, b1, b2, b3] [] = true
  | false, false, false => sub_4_0
  | true, false, false => sub_4_1
  | false, true, false => sub_4_2
  | true, true, false => sub_4_3
  | false, false, true => sub_4_4
  | true, false, true => sub_4_5
  | false, true, true => sub_4_6
  | true, true, true => sub_4_7
theorem sub_all5 : ∀ b1 b2 b3 b4 : Bool, subT [false, b1, b2, b3, b4] [] = true
  | false, false, false, false => sub_5_0
  | true, false, false, false => sub_5_1
  | false, true, false, false => sub_5_2
  | true, true, false, false => sub_5_3
  | false, false, true, false => sub_5_4
  | true, false, true, false => sub_5_5
  | false, true, true, false => sub_5_6
  | true, true, true, false => sub_5_7
  | false, false, false, true => sub_5_8
  | true, false, false, true => sub_5_9
  | false, true, false, true => sub_5_10
  | true, true, false, true => sub_5_11
  | false, false, true, true => sub_5_12
  | true, false, true, true => sub_5_13
  | false, true, true, true => sub_5_14
  | true, true, true, true => sub_5_15
theorem tk_all : ∀ (b1 b2 b3 b4 b5 : Bool) (g : Nat), g < 6 → tickA [false, b1, b2, b3, b4, b5] g [] = true
  | false, false, false, false, false, 0, _ => tk_0_0
  | false, false, false, false, false, 1, _ => tk_0_1
  | false, false, false, false, false, 2, _ => tk_0_2
  | false, false, false, false, false, 3, _ => tk_0_3
  | false, false, false, false, false, 4, _ => tk_0_4
  | false, false, false, false, false, 5, _ => tk_0_5
  | true, false, false, false, false, 0, _ => tk_1_0
  | true, false, false, false, false, 1, _ => tk_1_1
  | true, false, false, false, false, 2, _ => tk_1_2
  | true, false, false, false, false, 3, _ => tk_1_3
  | true, false, false, false, false, 4, _ => tk_1_4
  | true, false, false, false, false, 5, _ => tk_1_5
  | false, true, false, false, false, 0, _ => tk_2_0
  | false, true, false, false, false, 1, _ => tk_2_1
  | false, true, false, false, false, 2, _ => tk_2_2
  | false, true, false, false, false, 3, _ => tk_2_3
  | false, true, false, false, false, 4, _ => tk_2_4
  | false, true, false, false, false, 5, _ => tk_2_5
  | true, true, false, false, false, 0, _ => tk_3_0
  | true, true, false, false, false, 1, _ => tk_3_1
  | true, true, false, false, false, 2, _ => tk_3_2
  | true, true, false, false, false, 3, _ => tk_3_3
  | true, true, false, false, false, 4, _ => tk_3_4
  | true, true, false, false, false, 5, _ => tk_3_5
  | false, false, true, false, false, 0, _ => tk_4_0
  | false, false, true, false, false, 1, _ => tk_4_1
  | false, false, true, false, false, 2, _ => tk_4_2
  | false, false, true, false, false, 3, _ => tk_4_3
  | false, false, true, false, false, 4, _ => tk_4_4
  | false, false, true, false, false, 5, _ => tk_4_5
  | true, false, true, false, false, 0, _ => tk_5_0
  | true, false, true, false, false, 1, _ => tk_5_1
  | true, false, true, false, false, 2, _ => tk_5_2
  | true, false, true, false, false, 3, _ => tk_5_3
  | true, false, true, false, false, 4, _ => tk_5_4
  | true, false, true, false, false, 5, _ => tk_5_5
  | false, true, true, false, false, 0, _ => tk_6_0
  | false, true, true, false, false, 1, _ => tk_6_1
  | false, true, true, false, false, 2, _ => tk_6_2
  | false, true, true, false, false, 3, _ => tk_6_3
  | false, true, true, false, false, 4, _ => tk_6_4
  | false, true, true, false, false, 5, _ => tk_6_5
  | true, true, true, false, false, 0, _ => tk_7_0
  | true, true, true, false, false, 1, _ => tk_7_1
  | true, true, true, false, false, 2, _ => tk_7_2
  | true, true, true, false, false, 3, _ => tk_7_3
  | true, true, true, false, false, 4, _ => tk_7_4
  | true, true, true, false, false, 5, _ => tk_7_5
  | false, false, false, true, false, 0, _ => tk_8_0
  | false, false, false, true, false, 1, _ => tk_8_1
  | false, false, false, true, false, 2, _ => tk_8_2
  | false, false, false, true, false, 3, _ => tk_8_3
  | false, false, false, true, false, 4, _ => tk_8_4
  | false, false, false, true, false, 5, _ => tk_8_5
  | true, false, false, true, false, 0, _ => tk_9_0
  | true, false, false, true, false, 1, _ => tk_9_1
  | true, false, false, true, false, 2, _ => tk_9_2
  | true, false, false, true, false, 3, _ => tk_9_3
  | true, false, false, true, false, 4, _ => tk_9_4
  | true, false, false, true, false, 5, _ => tk_9_5
  | false, true, false, true, false, 0, _ => tk_10_0
  | false, true, false, true, false, 1, _ => tk_10_1
  | false, true, false, true, false, 2, _ => tk_10_2
  | false, true, false, true, false, 3, _ => tk_10_3
  | false, true, false, true, false, 4, _ => tk_10_4
  | false, true, false, true, false, 5, _ => tk_10_5
  | true, true, false, true, false, 0, _ => tk_11_0
  | true, true, false, true, false, 1, _ => tk_11_1
  | true, true, false, true, false, 2, _ => tk_11_2
  | true, true, false, true, false, 3, _ => tk_11_3
  | true, true, false, true, false, 4, _ => tk_11_4
  | true, true, false, true, false, 5, _ => tk_11_5
  | false, false, true, true, false, 0, _ => tk_12_0
  | false, false, true, true, false, 1, _ => tk_12_1
  | false, false, true, true, false, 2, _ => tk_12_2
  | false, false, true, true, false, 3, _ => tk_12_3
  | false, false, true, true, false, 4, _ => tk_12_4
  | false, false, true, true, false, 5, _ => tk_12_5
  | true, false, true, true, false, 0, _ => tk_13_0
  | true, false, true, true, false, 1, _ => tk_13_1
  | true, false, true, true, false, 2, _ => tk_13_2
  | true, false, true, true, false, 3, _ => tk_13_3
  | true, false, true, true, false, 4, _ => tk_13_4
  | true, false, true, true, false, 5, _ => tk_13_5
  | false, true, true, true, false, 0, _ => tk_14_0
  | false, true, true, true, false, 1, _ => tk_14_1
  | false, true, true, true, false, 2, _ => tk_14_2
  | false, true, true, true, false, 3, _ => tk_14_3
  | false, true, true, true, false, 4, _ => tk_14_4
  | false, true, true, true, false, 5, _ => tk_14_5
  | true, true, true, true, false, 0, _ => tk_15_0
  | true, true, true, true, false, 1, _ => tk_15_1
  | true, true, true, true, false, 2, _ => tk_15_2
  | true, true, true, true, false, 3, _ => tk_15_3
  | true, true, true, true, false, 4, _ => tk_15_4
  | true, true, true, true, false, 5, _ => tk_15_5
  | false, false, false, false, true, 0, _ => tk_16_0
  | false, false, false, false, true, 1, _ => tk_16_1
  | false, false, false, false, true, 2, _ => tk_16_2
  | false, false, false, false, true, 3, _ => tk_16_3
  | false, false, false, false, true, 4, _ => tk_16_4
  | false, false, false, false, true, 5, _ => tk_16_5
  | true, false, false, false, true, 0, _ => tk_17_0
  | true, false, false, false, true, 1, _ => tk_17_1
  | true, false, false, false, true, 2, _ => tk_17_2
  | true, false, false, false, true, 3, _ => tk_17_3
  | true, false, false, false, true, 4, _ => tk_17_4
  | true, false, false, false, true, 5, _ => tk_17_5
  | false, true, false, false, true, 0, _ => tk_18_0
  | false, true, false, false, true, 1, _ => tk_18_1
  | false, true, false, false, true, 2, _ => tk_18_2
  | false, true, false, false, true, 3, _ => tk_18_3
  | false, true, false, false, true, 4, _ => tk_18_4
  | false, true, false, false, true, 5, _ => tk_18_5
  | true, true, false, false, true, 0, _ => tk_19_0
  | true, true, false, false, true, 1, _ => tk_19_1
  | true, true, false, false, true, 2, _ => tk_19_2
  | true, true, false, false, true, 3, _ => tk_19_3
  | true, true, false, false, true, 4, _ => tk_19_4
  | true, true, false, false, true, 5, _ => tk_19_5
  | false, false, true, false, true, 0, _ => tk_20_0
  | false, false, true, false, true, 1, _ => tk_20_1
  | false, false, true, false, true, 2, _ => tk_20_2
  | false, false, true, false, true, 3, _ => tk_20_3
  | false, false, true, false, true, 4, _ => tk_20_4
  | false, false, true, false, true, 5, _ => tk_20_5
  | true, false, true, false, true, 0, _ => tk_21_0
  | true, false, true, false, true, 1, _ => tk_21_1
  | true, false, true, false, true, 2, _ => tk_21_2
  | true, false, true, false, true, 3, _ => tk_21_3
  | true, false, true, false, true, 4, _ => tk_21_4
  | true, false, true, false, true, 5, _ => tk_21_5
  | false, true, true, false, true, 0, _ => tk_22_0
  | false, true, true, false, true, 1, _ => tk_22_1
  | false, true, true, false, true, 2, _ => tk_22_2
  | false, true, true, false, true, 3, _ => tk_22_3
  | false, true, true, false, true, 4, _ => tk_22_4
  | false, true, true, false, true, 5, _ => tk_22_5
  | true, true, true, false, true, 0, _ => tk_23_0
  | true, true, true, false, true, 1, _ => tk_23_1
  | true, true, true, false, true, 2, _ => tk_23_2
  | true, true, true, false, true, 3, _ => tk_23_3
  | true, true, true, false, true, 4, _ => tk_23_4
  | true, true, true, false, true, 5, _ => tk_23_5
  | false, false, false, true, true, 0, _ => tk_24_0
  | false, false, false, true, true, 1, _ => tk_24_1
  | false, false, false, true, true, 2, _ => tk_24_2
  | false, false, false, true, true, 3, _ => tk_24_3
  | false, false, false, true, true, 4, _ => tk_24_4
  | false, false, false, true, true, 5, _ => tk_24_5
  | true, false, false, true, true, 0, _ => tk_25_0
  | true, false, false, true, true, 1, _ => tk_25_1
  | true, false, false, true, true, 2, _ => tk_25_2
  | true, false, false, true, true, 3, _ => tk_25_3
  | true, false, false, true, true, 4, _ => tk_25_4
  | true, false, false, true, true, 5, _ => tk_25_5
  | false, true, false, true, true, 0, _ => tk_26_0
  | false, true, false, true, true, 1, _ => tk_26_1
  | false, true, false, true, true, 2, _ => tk_26_2
  | false, true, false, true, true, 3, _ => tk_26_3
  | false, true, false, true, true, 4, _ => tk_26_4
  | false, true, false, true, true, 5, _ => tk_26_5
  | true, true, false, true, true, 0, _ => tk_27_0
  | true, true, false, true, true, 1, _ => tk_27_1
  | true, true, false, true, true, 2, _ => tk_27_2
  | true, true, false, true, true, 3, _ => tk_27_3
  | true, true, false, true, true, 4, _ => tk_27_4
  | true, true, false, true, true, 5, _ => tk_27_5
  | false, false, true, true, true, 0, _ => tk_28_0
  | false, false, true, true, true, 1, _ => tk_28_1
  | false, false, true, true, true, 2, _ => tk_28_2
  | false, false, true, true, true, 3, _ => tk_28_3
  | false, false, true, true, true, 4, _ => tk_28_4
  | false, false, true, true, true, 5, _ => tk_28_5
  | true, false, true, true, true, 0, _ => tk_29_0
  | true, false, true, true, true, 1, _ => tk_29_1
  | true, false, true, true, true, 2, _ => tk_29_2
  | true, false, true, true, true, 3, _ => tk_29_3
  | true, false, true, true, true, 4, _ => tk_29_4
  | true, false, true, true, true, 5, _ => tk_29_5
  | false, true, true, true, true, 0, _ => tk_30_0
  | false, true, true, true, true, 1, _ => tk_30_1
  | false, true, true, true, true, 2, _ => tk_30_2
  | false, true, true, true, true, 3, _ => tk_30_3
  | false, true, true, true, true, 4, _ => tk_30_4
  | false, true, true, true, true, 5, _ => tk_30_5
  | true, true, true, true, true, 0, _ => tk_31_0
  | true, true, true, true, true, 1, _ => tk_31_1
  | true, true, true, true, true, 2, _ => tk_31_2
  | true, true, true, true, true, 3, _ => tk_31_3
  | true, true, true, true, true, 4, _ => tk_31_4
  | true, true, true, true, true, 5, _ => tk_31_5
section
variable {fr : Nat → Option Obj} {ρ : Nat → Nat} {os : Os} {out : Array (Nat × ByteArray)}
theorem gone_good (h67 : ρ 6 % 256 = ρ 7 % 256 % 6) : G fr ρ os out (fun j => refsAt ρ (j % 8)) gonAll (TrueQ fr os out 4) ⟨tmOf [(0, .sym .u8 14), (1, .agg box6)] .leaf, 187, []⟩ (ofObjs [] 0) := by
  have hg : ρ 6 % 256 < 6 := h67 ▸ Nat.mod_lt _ (by decide)
  have hR : ∀ i, i < 6 → refsAt ρ i = [] ∨ refsAt ρ i ∈ optsN i := fun i hi => refs_ok ρ hi
  have hle : ∀ i, i < 6 → ∀ x ∈ refsAt ρ i, 1 ≤ x ∧ x ≤ i := fun i hi => opts_le (hR i hi)
  have hls : ∀ q, q < 6 → refsAt ρ q ≠ [] → (fun j => refsAt ρ (j % 8)) q = refsAt ρ q := fun q hq _ => by
    show refsAt ρ (q % 8) = refsAt ρ q
    rw [Nat.mod_eq_of_lt (by omega)]
  have hz : someN (refsAt ρ 0) = false := by
    have h : refsAt ρ 0 = [] := by
      rcases hR 0 (by omega) with h | h
      · exact h
      · have e : optsN 0 = [] := by kernel_rfl
        rw [e] at h; cases h
    rw [h]; rfl
  have hbs : ∀ j b, [someN (refsAt ρ 0), someN (refsAt ρ 1), someN (refsAt ρ 2), someN (refsAt ρ 3), someN (refsAt ρ 4), someN (refsAt ρ 5)][j]? = some b → j < 6 ∧ b = someN (refsAt ρ j) := fun j b hj => by
    match j, hj with
    | 0, hj => injection hj with hj; exact ⟨by omega, hj.symm⟩
    | 1, hj => injection hj with hj; exact ⟨by omega, hj.symm⟩
    | 2, hj => injection hj with hj; exact ⟨by omega, hj.symm⟩
    | 3, hj => injection hj with hj; exact ⟨by omega, hj.symm⟩
    | 4, hj => injection hj with hj; exact ⟨by omega, hj.symm⟩
    | 5, hj => injection hj with hj; exact ⟨by omega, hj.symm⟩
    | j + 6, hj => cases hj
  obtain ⟨k1, k2⟩ := kinds_get (Rs := refsAt ρ) (ls := fun j => refsAt ρ (j % 8)) hg hle hls [someN (refsAt ρ 0), someN (refsAt ρ 1), someN (refsAt ρ 2), someN (refsAt ρ 3), someN (refsAt ρ 4), someN (refsAt ρ 5)] 0 0 [] (by simp)
    (fun j b hj => by rw [Nat.zero_add]; exact (hbs j b hj).2) (by decide) (fun x => ⟨fun h => by simp at h, fun ⟨p, hp, _⟩ => by omega⟩) rfl (fun i hi => by omega)
  have hF := last_good (fr := fr) (ρ := ρ) (os := os) (out := out) (ls := fun j => refsAt ρ (j % 8)) hg (bs := [someN (refsAt ρ 0), someN (refsAt ρ 1), someN (refsAt ρ 2), someN (refsAt ρ 3), someN (refsAt ρ 4), someN (refsAt ρ 5)]) rfl k1 (above_ok hR hls) (fun i hi => anc_sub hR hi) (fun i hi => k2 i (by simpa using hi))
  have h6 := tick_good (bs := [someN (refsAt ρ 0), someN (refsAt ρ 1), someN (refsAt ρ 2), someN (refsAt ρ 3), someN (refsAt ρ 4), someN (refsAt ρ 5)]) rfl (by rw [hz]; exact tk_all _ _ _ _ _ _ hg) rfl (fun j => by show refsAt ρ (j % 8) = refsAt ρ (j % 8 % 8); rw [Nat.mod_mod]) (fun j hj => by
    obtain ⟨hj6, e⟩ := hbs j _ hj
    show refsAt ρ (j % 8) ∈ optsN j
    rw [Nat.mod_eq_of_lt (by omega)]
    exact (hR j hj6).resolve_left (someN_iff.1 e.symm)) hF
  have h5 := sub_good (ls := fun j => refsAt ρ (j % 8)) (bs := [someN (refsAt ρ 0), someN (refsAt ρ 1), someN (refsAt ρ 2), someN (refsAt ρ 3), someN (refsAt ρ 4)]) (pre := []) (by rw [cntB_eq]; simp) (by rw [hz]; exact sub_all5 _ _ _ _) (fun j b hj => by cases hj) (hls 5 (by omega)) h6
  have h4 := sub_good (ls := fun j => refsAt ρ (j % 8)) (bs := [someN (refsAt ρ 0), someN (refsAt ρ 1), someN (refsAt ρ 2), someN (refsAt ρ 3)]) (pre := []) (by rw [cntB_eq]; simp) (by rw [hz]; exact sub_all4 _ _ _) (fun j b hj => by cases hj) (hls 4 (by omega)) h5
  have h3 := sub_good (ls := fun j => refsAt ρ (j % 8)) (bs := [someN (refsAt ρ 0), someN (refsAt ρ 1), someN (refsAt ρ 2)]) (pre := []) (by rw [cntB_eq]; simp) (by rw [hz]; exact sub_all3 _ _) (fun j b hj => by cases hj) (hls 3 (by omega)) h4
  have h2 := sub_good (ls := fun j => refsAt ρ (j % 8)) (bs := [someN (refsAt ρ 0), someN (refsAt ρ 1)]) (pre := []) (by rw [cntB_eq]; simp) (by rw [hz]; exact sub_all2 _) (fun j b hj => by cases hj) (hls 2 (by omega)) h3
  have h1 := sub_good (ls := fun j => refsAt ρ (j % 8)) (bs := [someN (refsAt ρ 0)]) (pre := []) (by rw [cntB_eq]; simp) (by rw [hz]; exact sub_1_0) (fun j b hj => by cases hj) (hls 1 (by omega)) h2
  have h0 := sub_good (ls := fun j => refsAt ρ (j % 8)) (bs := []) (pre := []) (by rw [cntB_eq]; simp) sub_0 (fun j b hj => by cases hj) (hls 0 (by omega)) h1
  exact pre_good h67 h0
end
theorem gone_call (n : Nat) (ns : List Nat) (hn : n < 256) (hns : ns.length = 6) (hb : ∀ n ∈ ns, n < 256) (w : World) :
    Calls Tryz.prog 7 #[.int .u8 (.ofNat n), .agg (ns.map fun n => Value.int .u8 (.ofNat n)).toArray] w fun e w' => e = .returned (.bool true) ∧ w'.os = w.os ∧ w'.output = w.output ∧ ∀ i, i < w.heap.size → w'.heap[i]? = w.heap[i]? := by
  obtain ⟨c, hbody, hc⟩ := gon_code
  refine calls_of_wp Tryz.func7 hbody ?_
  let ρ : Nat → Nat := fun i => if i < 6 then ns.getD i 0 else if i = 6 then n % 6 else n
  have hρ : ∀ i, i < 6 → ρ i = ns.getD i 0 := fun i hi => if_pos hi
  have hρ6 : ∀ i, i < 6 → ρ i < 256 := fun i hi => by
    rw [hρ i hi, List.getD_eq_getElem?_getD]
    cases hq : ns[i]? with
    | none => simp
    | some x => exact hb x (List.mem_of_getElem? hq)
  have h6 : ρ 6 = n % 6 := rfl
  have h7 : ρ 7 = n := rfl
  let E : Env := ⟨[], sy ρ w.os w.output (fun j => refsAt ρ (j % 8)), fun i => w.heap[i]?, fun _ => none⟩
  have hg := gone_good (fr := fun i => w.heap[i]?) (ρ := ρ) (os := w.os) (out := w.output) (by rw [h6, h7]; omega)
  have hs0 : VRel E (.sym .u8 14) (.int .u8 (.ofNat n)) := (sym_iff (ρ := ρ) (os := w.os) (out := w.output) (ls := fun j => refsAt ρ (j % 8)) rfl 7 _).2 (by rw [h7, Nat.mod_eq_of_lt hn]; exact .int _ _)
  have hs : VRel E (.agg box6) (.agg (ns.map fun n => Value.int .u8 (.ofNat n)).toArray) := by
    refine .agg (LRel.of_get (by simp [box6, hns]) fun i a ha => ?_)
    obtain ⟨hi, rfl⟩ := box_get i a ha
    refine ⟨.int .u8 (.ofNat (ρ i)), ?_, (sym_iff (ρ := ρ) (os := w.os) (out := w.output) (ls := fun j => refsAt ρ (j % 8)) rfl i _).2 (by rw [Nat.mod_eq_of_lt (hρ6 i hi)]; exact .int _ _)⟩
    have hlt : i < ns.length := by omega
    have e : ρ i = ns[i] := by rw [hρ i hi]; simp [List.getD_eq_getElem?_getD, hlt]
    simp [hlt, e]
  have hinit := init_rel (E := E) (args := [.sym .u8 14, .agg box6]) (cargs := [.int .u8 (.ofNat n), .agg (ns.map fun n => Value.int .u8 (.ofNat n)).toArray]) (n := 187) (.cons hs0 (.cons hs .nil)) (by decide)
  have hA : ActRel E ⟨tmOf [(0, .sym .u8 14), (1, .agg box6)] .leaf, 187, []⟩ { tmps := #[.int .u8 (.ofNat n), .agg (ns.map fun n => Value.int .u8 (.ofNat n)).toArray] ++ Array.replicate (Tryz.f7.ntmps - (#[.int .u8 (.ofNat n), .agg (ns.map fun n => Value.int .u8 (.ofNat n)).toArray] : Array Value).size) undef, defers := [] } := by
    refine ⟨?_, fun t v hv => ?_, .nil⟩
    · rw [Tryz.ntmps7]; simp
    · have e : tmOf [(0, .sym .u8 14), (1, .agg box6)] .leaf = slots [.sym .u8 14, .agg box6] 0 .leaf := by kernel_rfl
      rw [e] at hv
      rw [Tryz.ntmps7]
      exact hinit.tmps t v hv
  have hR : Rel E (ofObjs [] 0) w := ⟨rfl, ⟨⟨ρ, rfl⟩, rfl, rfl⟩, fun j x hj => by rw [ofObjs_get] at hj; simp at hj, fun i j oi oj Li Lj hi => by rw [ofObjs_get] at hi; simp at hi, fun _ _ h => h, fun i oi Li hi => by rw [ofObjs_get] at hi; simp at hi, ⟨fun b x hb => (by cases hb), fun i oi Li hi => by rw [ofObjs_get] at hi; simp at hi⟩⟩
  refine wp_mono (hg c hc E _ w rfl rfl hA hR) fun e a w' ⟨h1, h2, h3, h4, h5, h6⟩ => ?_
  subst h1
  refine ⟨h2, .bool true, ?_, rfl, h4, h5, fun i hi => ?_⟩
  · have : a.tmps.getD 4 undef = .bool true := by simp [Array.getD_eq_getD_getElem?, h3]
    rw [← this]
    exact results_tmp (t := 4) rfl _ _ _
  · rw [h6 i w.heap[i] (Array.getElem?_eq_getElem hi), Array.getElem?_eq_getElem hi]
end Go.Proofs.YtbilacojhmohmaaGreat.Ae
