/- What comes evenly has no jitter, however long its way is. No condition. -/
import Derived.Test.YtffikjoonelooaaPJitterEvenx1
import Derived.Test.YtffikjoonelooaaHelp
namespace Go.Proofs.Ytffikjoonelooaa.Pure
set_option linter.unusedVariables false
open Go.RowKit Go.Proofs.Ytffikjoonelooaa.PJitterEven Go.Proofs.YtffikjoonelooaaW.PrintWords Go.Proofs.YtffikjoonelooaaW.PrintLast Go.Proofs.YtffikjoonelooaaW.PrintMore
namespace JitterEvens
open Go.Proofs.Ytffikjoonelooaa.Help

/-- how far b is behind a -/
def dif (a b : Int) : Int := (b - a + 32768) % 65536 - 32768
theorem wi16 (n : Int) : IntKind.i16.wrap n = (n + 32768) % 65536 - 32768 := by
  simp only [IntKind.wrap, IntKind.bits, IntKind.signed]; simp; split <;> omega
theorem diff_ev (a b : Int) (a0 : 0 ≤ a) (a1 : a < 65536) (b0 : 0 ≤ b) (b1 : b < 65536) : serial_Diff.f a b = some (dif a b) := by
  unfold serial_Diff.f dif
  rw [wu16, wi16, w64 (by omega) (by omega)]
  congr 1
  omega
theorem bg : girandolelaw19_begun.f = some true := by decide +kernel
theorem new_ev : jitter_New.f = some (0, false, 0) := by unfold jitter_New.f; simp

/-- the way of a packet -/
theorem way_ev (stamp now : Int) : IntKind.u16.wrap ((IntKind.u16.wrap now) - stamp) = (now - stamp) % 65536 := by
  rw [wu16, wu16]; omega

theorem add_first (last sum stamp now : Int) : jitter_Jitter_Add.f last false sum stamp now = some ((now - stamp) % 65536, true, sum) := by
  unfold jitter_Jitter_Add.f
  rw [way_ev, if_neg Bool.false_ne_true]

/-- without its sign -/
def far (d : Int) : Int := if d < 0 then -d else d

theorem add_next (last sum stamp now : Int) (l0 : 0 ≤ last) (l1 : last < 65536) (s0 : 0 ≤ sum) (s1 : sum < 100000000) :
    jitter_Jitter_Add.f last true sum stamp now = some ((now - stamp) % 65536, true, sum + far (dif last ((now - stamp) % 65536)) - (sum + 8) / 16) := by
  unfold jitter_Jitter_Add.f
  rw [way_ev, if_pos rfl, diff_ev _ _ l0 l1 (by omega) (by omega), bs]
  have d0 : -32768 ≤ dif last ((now - stamp) % 65536) ∧ dif last ((now - stamp) % 65536) ≤ 32767 := by unfold dif; omega
  generalize dif last ((now - stamp) % 65536) = d at *
  have e : mx d (wrap64 (-d)) = far d := by
    rw [w64 (n := -d) (by omega) (by omega)]; unfold mx far; split <;> split <;> omega
  have f0 : 0 ≤ far d ∧ far d ≤ 32768 := by unfold far; split <;> omega
  rw [e, w64 (n := sum + 8) (by omega) (by omega), Int.tdiv_eq_ediv_of_nonneg (by omega), w64 (n := (sum + 8) / 16) (by omega) (by omega), w64 (n := far d - (sum + 8) / 16) (by omega) (by omega), w64 (n := sum + (far d - (sum + 8) / 16)) (by omega) (by omega)]
  rw [show sum + (far d - (sum + 8) / 16) = sum + far d - (sum + 8) / 16 by omega]

theorem val_ev (last : Int) (has : Bool) (sum : Int) (s0 : 0 ≤ sum) (s1 : sum < 1000000) : jitter_Jitter_Value.f last has sum = some (sum / 16, last, has, sum) := by
  unfold jitter_Jitter_Value.f
  rw [Int.tdiv_eq_ediv_of_nonneg s0, w64 (n := sum / 16) (by omega) (by omega), wu16]
  have e : mn (sum / 16) 65535 = sum / 16 := by unfold mn; split <;> omega
  rw [e, Int.emod_eq_of_lt (by omega) (by omega)]

theorem u32_rd (xs : List Int) (hx : ∀ x ∈ xs, (Lit.int .u32 x).wf = true) (i : Int) (h0 : 0 ≤ i) (h : i < xs.length) : (Lit.int .u32 (rd xs i)).wf = true := by
  unfold rd
  have h1 : i.toNat < xs.length := by omega
  rw [List.getD_eq_getElem?_getD, List.getElem?_eq_getElem h1]
  exact hx _ (List.getElem_mem h1)

theorem mod16 (x : Int) (h0 : 0 ≤ x) (h1 : x < 1000000000000) : IntKind.u16.wrap (Int.tmod x 65536) = x % 65536 := by
  rw [wu16, Int.tmod_eq_emod_of_nonneg h0]; omega
theorem far_zero (w : Int) : far (dif w w) = 0 := by unfold far dif; rw [Int.sub_self]; decide

theorem rounds (w : Int) (w0 : 0 ≤ w) (w1 : w < 65536) (xs : List Int) (hx : ∀ x ∈ xs, (Lit.int .u32 x).wf = true) (hlen : xs.length ≤ 60) (d : Nat) : ∀ (k i : Nat) (last : Int) (has : Bool), i + d = xs.length → d < k → (has = true → last = w) →
    girandolelaw19_JitterEven.l0 k w xs i last has 0 = some true := by
  induction d with
  | zero =>
    intro k i last has hi hk hl
    obtain ⟨k, rfl⟩ : ∃ m, k = m + 1 := ⟨k - 1, by omega⟩
    simp only [girandolelaw19_JitterEven.l0]
    rw [if_neg (by omega)]
  | succ d ih =>
    intro k i last has hi hk hl
    obtain ⟨k, rfl⟩ : ∃ m, k = m + 1 := ⟨k - 1, by omega⟩
    obtain ⟨p0, p1⟩ := u32_bd (u32_rd xs hx i (by omega) (by omega))
    simp only [girandolelaw19_JitterEven.l0]
    rw [if_pos (by omega), if_pos (by omega)]
    generalize rd xs (i : Int) = t at *
    have e : (t + w - t % 65536) % 65536 = w := by omega
    have g := ih k (i + 1) w true (by omega) (by omega) (fun _ => rfl)
    rw [Int.natCast_add, Int.natCast_one] at g
    rw [mod16 t p0 (by omega), w64 (n := t) (by omega) (by omega), w64 (n := w) (by omega) (by omega), w64 (n := t + w) (by omega) (by omega), w64 (n := (i : Int) + 1) (by omega) (by omega)]
    have A : jitter_Jitter_Add.f last has 0 (t % 65536) (t + w) = some (w, true, 0) := by
      cases has with
      | false => rw [add_first, e]
      | true =>
        rw [hl rfl, add_next w 0 _ _ w0 w1 (by omega) (by omega), e, far_zero]
        rfl
    rw [A, bs, val_ev w true 0 (by omega) (by omega), bs, if_pos (show (0 : Int) / 16 = 0 by decide)]
    exact g

end JitterEvens

open JitterEvens Go.Proofs.Ytffikjoonelooaa.Help in
theorem JitterEven : girandolelaw19_JitterEven.Pure := by
  intro w xs ww _ _ hx
  obtain ⟨w0, w1⟩ := u16_bd ww
  refine ⟨xs.length + 1, ?_⟩
  unfold girandolelaw19_JitterEven.f
  rw [bg, bs, if_pos rfl]
  by_cases h1 : (xs.length : Int) > 60
  · rw [if_pos h1]
  · rw [if_neg h1, new_ev, bs]
    have g := rounds w w0 w1 xs hx (by omega) xs.length (xs.length + 1) 0 0 false (by omega) (by omega) (fun h => by cases h)
    rw [Int.natCast_zero] at g
    exact g

end Go.Proofs.Ytffikjoonelooaa.Pure
