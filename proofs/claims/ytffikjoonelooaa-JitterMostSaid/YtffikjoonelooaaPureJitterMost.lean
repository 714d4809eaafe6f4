/- The jitter is never more than the most uneven step. No condition. -/
import Derived.Test.YtffikjoonelooaaPJitterMostx1
import Derived.Test.YtffikjoonelooaaHelp
namespace Go.Proofs.Ytffikjoonelooaa.Pure
set_option linter.unusedVariables false
open Go.RowKit Go.Proofs.Ytffikjoonelooaa.PJitterMost Go.Proofs.YtffikjoonelooaaW.PrintWords Go.Proofs.YtffikjoonelooaaW.PrintLast Go.Proofs.YtffikjoonelooaaW.PrintMore
namespace JitterMosts
open Go.Proofs.Ytffikjoonelooaa.Help

/-- how far b is behind a -/
def dif (a b : Int) : Int := (b - a + 32768) % 65536 - 32768
theorem wi16 (n : Int) : IntKind.i16.wrap n = (n + 32768) % 65536 - 32768 := by
  simp only [IntKind.wrap, IntKind.bits, IntKind.signed]; simp; split <;> omega
theorem diff_ev (a b : Int) (a0 : 0 ≤ a) (a1 : a < 65536) (b0 : 0 ≤ b) (b1 : b < 65536) : serial_Diff.f a b = some (dif a b) := by
  unfold serial_Diff.f dif
  rw [wu16, wi16, w64 (by omega) (by omega)]
  congr 1
  omega
theorem bg : girandolelaw19_begun.f = some true := by decide +kernel
theorem new_ev : jitter_New.f = some (0, false, 0) := by unfold jitter_New.f; simp

/-- the way of a packet -/
theorem way_ev (stamp now : Int) : IntKind.u16.wrap ((IntKind.u16.wrap now) - stamp) = (now - stamp) % 65536 := by
  rw [wu16, wu16]; omega

theorem add_first (last sum stamp now : Int) : jitter_Jitter_Add.f last false sum stamp now = some ((now - stamp) % 65536, true, sum) := by
  unfold jitter_Jitter_Add.f
  rw [way_ev, if_neg Bool.false_ne_true]

/-- without its sign -/
def far (d : Int) : Int := if d < 0 then -d else d

theorem add_next (last sum stamp now : Int) (l0 : 0 ≤ last) (l1 : last < 65536) (s0 : 0 ≤ sum) (s1 : sum < 100000000) :
    jitter_Jitter_Add.f last true sum stamp now = some ((now - stamp) % 65536, true, sum + far (dif last ((now - stamp) % 65536)) - (sum + 8) / 16) := by
  unfold jitter_Jitter_Add.f
  rw [way_ev, if_pos rfl, diff_ev _ _ l0 l1 (by omega) (by omega), bs]
  have d0 : -32768 ≤ dif last ((now - stamp) % 65536) ∧ dif last ((now - stamp) % 65536) ≤ 32767 := by unfold dif; omega
  generalize dif last ((now - stamp) % 65536) = d at *
  have e : mx d (wrap64 (-d)) = far d := by
    rw [w64 (n := -d) (by omega) (by omega)]; unfold mx far; split <;> split <;> omega
  have f0 : 0 ≤ far d ∧ far d ≤ 32768 := by unfold far; split <;> omega
  rw [e, w64 (n := sum + 8) (by omega) (by omega), Int.tdiv_eq_ediv_of_nonneg (by omega), w64 (n := (sum + 8) / 16) (by omega) (by omega), w64 (n := far d - (sum + 8) / 16) (by omega) (by omega), w64 (n := sum + (far d - (sum + 8) / 16)) (by omega) (by omega)]
  rw [show sum + (far d - (sum + 8) / 16) = sum + far d - (sum + 8) / 16 by omega]

theorem val_ev (last : Int) (has : Bool) (sum : Int) (s0 : 0 ≤ sum) (s1 : sum < 1000000) : jitter_Jitter_Value.f last has sum = some (sum / 16, last, has, sum) := by
  unfold jitter_Jitter_Value.f
  rw [Int.tdiv_eq_ediv_of_nonneg s0, w64 (n := sum / 16) (by omega) (by omega), wu16]
  have e : mn (sum / 16) 65535 = sum / 16 := by unfold mn; split <;> omega
  rw [e, Int.emod_eq_of_lt (by omega) (by omega)]

theorem u8_rd (xs : List Int) (hx : ∀ x ∈ xs, (Lit.int .u8 x).wf = true) (i : Int) (h0 : 0 ≤ i) (h : i < xs.length) : (Lit.int .u8 (rd xs i)).wf = true := by
  unfold rd
  have h1 : i.toNat < xs.length := by omega
  rw [List.getD_eq_getElem?_getD, List.getElem?_eq_getElem h1]
  exact hx _ (List.getElem_mem h1)

theorem dif_small (a b : Int) (a0 : 0 ≤ a) (a1 : a < 256) (b0 : 0 ≤ b) (b1 : b < 256) : dif a b = b - a := by unfold dif; omega

/-- the sum stays below sixteen times the most uneven one, and a half -/
theorem sum_step (sum most d : Int) (s0 : 0 ≤ sum) (s1 : sum ≤ 16 * most + 7) (d0 : 0 ≤ d) (d1 : d ≤ most) : 0 ≤ sum + d - (sum + 8) / 16 ∧ sum + d - (sum + 8) / 16 ≤ 16 * most + 7 := by omega

theorem rounds (xs : List Int) (hx : ∀ x ∈ xs, (Lit.int .u8 x).wf = true) (hlen : xs.length ≤ 60) (d : Nat) : ∀ (k i : Nat) (most last : Int) (has : Bool) (sum : Int), i + d = xs.length → d < k → 0 ≤ most → most ≤ 255 →
    (i = 0 → has = false ∧ sum = 0) → (0 < i → has = true ∧ last = rd xs ((i : Int) - 1)) → 0 ≤ sum → sum ≤ 16 * most + 7 →
    girandolelaw19_JitterMost.l0 k xs most i last has sum = some true := by
  induction d with
  | zero =>
    intro k i most last has sum hi hk m0 m1 h0 h1 s0 s1
    obtain ⟨k, rfl⟩ : ∃ m, k = m + 1 := ⟨k - 1, by omega⟩
    simp only [girandolelaw19_JitterMost.l0]
    rw [if_neg (by omega)]
  | succ d ih =>
    intro k i most last has sum hi hk m0 m1 h0 h1 s0 s1
    obtain ⟨k, rfl⟩ : ∃ m, k = m + 1 := ⟨k - 1, by omega⟩
    obtain ⟨p0, p1⟩ := u8_bd (u8_rd xs hx i (by omega) (by omega))
    simp only [girandolelaw19_JitterMost.l0]
    rw [if_pos (by omega), if_pos (by omega), w64 (n := 100 * (i : Int)) (by omega) (by omega), wu16, Int.emod_eq_of_lt (a := 100 * (i : Int)) (by omega) (by omega), w64 (n := rd xs (i : Int)) (by omega) (by omega), w64 (n := 100 * (i : Int) + rd xs (i : Int)) (by omega) (by omega), w64 (n := (i : Int) + 1) (by omega) (by omega), w64 (n := (i : Int) - 1) (by omega) (by omega)]
    have e : (100 * (i : Int) + rd xs (i : Int) - 100 * (i : Int)) % 65536 = rd xs (i : Int) := by omega
    by_cases hi0 : i = 0
    · obtain ⟨rfl, rfl⟩ := h0 hi0
      subst hi0
      have g := ih k 1 most (rd xs ((0 : Nat) : Int)) true 0 (by omega) (by omega) m0 m1 (by omega) (fun _ => ⟨rfl, rfl⟩) s0 s1
      rw [Int.natCast_one] at g
      rw [add_first, e, bs, if_neg (by omega), val_ev _ _ 0 (by omega) (by omega), bs, w64 (n := 0 / 16) (by omega) (by omega), if_neg (by omega)]
      exact g
    · obtain ⟨rfl, hl⟩ := h1 (by omega)
      obtain ⟨q0, q1⟩ := u8_bd (u8_rd xs hx ((i : Int) - 1) (by omega) (by omega))
      rw [w64 (n := rd xs ((i : Int) - 1)) (by omega) (by omega)]
      have hl2 : rd xs (((i + 1 : Nat) : Int) - 1) = rd xs (i : Int) := by congr 1; omega
      subst hl
      generalize rd xs ((i : Int) - 1) = last at *
      generalize rd xs (i : Int) = x at *
      rw [w64 (n := x - last) (by omega) (by omega), w64 (n := -(x - last)) (by omega) (by omega)]
      have em : mx (mx most (x - last)) (-(x - last)) = mx most (far (x - last)) := by
        unfold mx far; repeat' split
        all_goals omega
      have f0 : 0 ≤ far (x - last) ∧ far (x - last) ≤ 255 := by unfold far; split <;> omega
      have mm : 0 ≤ mx most (far (x - last)) ∧ mx most (far (x - last)) ≤ 255 ∧ most ≤ mx most (far (x - last)) ∧ far (x - last) ≤ mx most (far (x - last)) := by unfold mx; split <;> omega
      have ss := sum_step sum (mx most (far (x - last))) (far (x - last)) s0 (by omega) f0.1 mm.2.2.2
      have g := ih k (i + 1) (mx most (far (x - last))) x true (sum + far (x - last) - (sum + 8) / 16) (by omega) (by omega) mm.1 mm.2.1 (by omega) (fun _ => ⟨rfl, hl2.symm⟩) ss.1 ss.2
      rw [Int.natCast_add, Int.natCast_one] at g
      rw [add_next last sum _ _ q0 (by omega) s0 (by omega), e, dif_small last x q0 q1 p0 p1, bs, em]
      rw [if_pos (by omega), if_pos (by omega), if_pos (by omega)]
      generalize mx most (far (x - last)) = most2 at *
      generalize far (x - last) = dd at *
      generalize sum + dd - (sum + 8) / 16 = sum2 at *
      rw [val_ev _ _ sum2 (by omega) (by omega), bs, w64 (n := sum2 / 16) (by omega) (by omega), if_neg (by omega)]
      exact g

end JitterMosts

open JitterMosts Go.Proofs.Ytffikjoonelooaa.Help in
theorem JitterMost : girandolelaw19_JitterMost.Pure := by
  intro xs _ _ hx
  refine ⟨xs.length + 1, ?_⟩
  unfold girandolelaw19_JitterMost.f
  rw [bg, bs, if_pos rfl]
  by_cases h1 : (xs.length : Int) > 60
  · rw [if_pos h1]
  · rw [if_neg h1, new_ev, bs]
    have g := rounds xs hx (by omega) xs.length (xs.length + 1) 0 0 0 false 0 (by omega) (by omega) (by omega) (by omega) (fun _ => ⟨rfl, rfl⟩) (by omega) (by omega) (by omega)
    rw [Int.natCast_zero] at g
    exact g

end Go.Proofs.Ytffikjoonelooaa.Pure
