/- How unevenly it comes is what the document says, for any packets (60 at most). No condition. -/
import Derived.Test.YtffikjoonelooaaPJitterAllx3
import Derived.Test.YtffikjoonelooaaHelp
namespace Go.Proofs.Ytffikjoonelooaa.Pure
set_option linter.unusedVariables false
open Go.RowKit Go.Proofs.Ytffikjoonelooaa.PJitterAll Go.Proofs.YtffikjoonelooaaW.PrintWords Go.Proofs.YtffikjoonelooaaW.PrintLast Go.Proofs.YtffikjoonelooaaW.PrintMore
namespace JitterAlls
open Go.Proofs.Ytffikjoonelooaa.Help

/-- how far b is behind a -/
def dif (a b : Int) : Int := (b - a + 32768) % 65536 - 32768
theorem wi16 (n : Int) : IntKind.i16.wrap n = (n + 32768) % 65536 - 32768 := by
  simp only [IntKind.wrap, IntKind.bits, IntKind.signed]; simp; split <;> omega
theorem diff_ev (a b : Int) (a0 : 0 ≤ a) (a1 : a < 65536) (b0 : 0 ≤ b) (b1 : b < 65536) : serial_Diff.f a b = some (dif a b) := by
  unfold serial_Diff.f dif
  rw [wu16, wi16, w64 (by omega) (by omega)]
  congr 1
  omega
theorem bg : girandolelaw19_begun.f = some true := by decide +kernel
theorem new_ev : jitter_New.f = some (0, false, 0) := by unfold jitter_New.f; simp

/-- the way of a packet -/
theorem way_ev (stamp now : Int) : IntKind.u16.wrap ((IntKind.u16.wrap now) - stamp) = (now - stamp) % 65536 := by
  rw [wu16, wu16]; omega

theorem add_first (last sum stamp now : Int) : jitter_Jitter_Add.f last false sum stamp now = some ((now - stamp) % 65536, true, sum) := by
  unfold jitter_Jitter_Add.f
  rw [way_ev, if_neg Bool.false_ne_true]

/-- without its sign -/
def far (d : Int) : Int := if d < 0 then -d else d

theorem add_next (last sum stamp now : Int) (l0 : 0 ≤ last) (l1 : last < 65536) (s0 : 0 ≤ sum) (s1 : sum < 100000000) :
    jitter_Jitter_Add.f last true sum stamp now = some ((now - stamp) % 65536, true, sum + far (dif last ((now - stamp) % 65536)) - (sum + 8) / 16) := by
  unfold jitter_Jitter_Add.f
  rw [way_ev, if_pos rfl, diff_ev _ _ l0 l1 (by omega) (by omega), bs]
  have d0 : -32768 ≤ dif last ((now - stamp) % 65536) ∧ dif last ((now - stamp) % 65536) ≤ 32767 := by unfold dif; omega
  generalize dif last ((now - stamp) % 65536) = d at *
  have e : mx d (wrap64 (-d)) = far d := by
    rw [w64 (n := -d) (by omega) (by omega)]; unfold mx far; split <;> split <;> omega
  have f0 : 0 ≤ far d ∧ far d ≤ 32768 := by unfold far; split <;> omega
  rw [e, w64 (n := sum + 8) (by omega) (by omega), Int.tdiv_eq_ediv_of_nonneg (by omega), w64 (n := (sum + 8) / 16) (by omega) (by omega), w64 (n := far d - (sum + 8) / 16) (by omega) (by omega), w64 (n := sum + (far d - (sum + 8) / 16)) (by omega) (by omega)]
  rw [show sum + (far d - (sum + 8) / 16) = sum + far d - (sum + 8) / 16 by omega]

theorem val_ev (last : Int) (has : Bool) (sum : Int) (s0 : 0 ≤ sum) (s1 : sum < 1000000) : jitter_Jitter_Value.f last has sum = some (sum / 16, last, has, sum) := by
  unfold jitter_Jitter_Value.f
  rw [Int.tdiv_eq_ediv_of_nonneg s0, w64 (n := sum / 16) (by omega) (by omega), wu16]
  have e : mn (sum / 16) 65535 = sum / 16 := by unfold mn; split <;> omega
  rw [e, Int.emod_eq_of_lt (by omega) (by omega)]

theorem u16_rd (xs : List Int) (hx : ∀ x ∈ xs, (Lit.int .u16 x).wf = true) (i : Int) (h0 : 0 ≤ i) (h : i < xs.length) : (Lit.int .u16 (rd xs i)).wf = true := by
  unfold rd
  have h1 : i.toNat < xs.length := by omega
  rw [List.getD_eq_getElem?_getD, List.getElem?_eq_getElem h1]
  exact hx _ (List.getElem_mem h1)

theorem i64_rd (xs : List Int) (hx : ∀ x ∈ xs, (Lit.int .i64 x).wf = true) (i : Int) (h0 : 0 ≤ i) (h : i < xs.length) : (Lit.int .i64 (rd xs i)).wf = true := by
  unfold rd
  have h1 : i.toNat < xs.length := by omega
  rw [List.getD_eq_getElem?_getD, List.getElem?_eq_getElem h1]
  exact hx _ (List.getElem_mem h1)

theorem refdiff_ev (a b : Int) (a0 : 0 ≤ a) (a1 : a < 65536) (b0 : 0 ≤ b) (b1 : b < 65536) : girandoleref7_Diff.f a b = some (dif a b) := by
  unfold girandoleref7_Diff.f dif
  rw [w64 (n := a) (by omega) (by omega), w64 (n := b) (by omega) (by omega), w64 (n := b - a) (by omega) (by omega), w64 (n := b - a + 65536) (by omega) (by omega), Int.tmod_eq_emod_of_nonneg (by omega)]
  split
  · rw [w64 (by omega) (by omega)]; congr 1; omega
  · congr 1; omega

theorem refway_ev (n stamp : Int) (n0 : 0 ≤ n) (n1 : n < 65536) (s0 : 0 ≤ stamp) (s1 : stamp < 65536) :
    IntKind.u16.wrap (Int.tmod (wrap64 ((wrap64 (n - (wrap64 stamp))) + 65536)) 65536) = (n - stamp) % 65536 := by
  rw [w64 (n := stamp) (by omega) (by omega), w64 (n := n - stamp) (by omega) (by omega), w64 (n := n - stamp + 65536) (by omega) (by omega), Int.tmod_eq_emod_of_nonneg (by omega), wu16]
  omega

theorem j0_first (k : Nat) (stamp n last sum : Int) (n0 : 0 ≤ n) (n1 : n < 65536) (s0 : 0 ≤ stamp) (s1 : stamp < 65536) :
    girandoleref12_Jitter_Add.j0 (k + 1) stamp n false last sum = some (true, (n - stamp) % 65536, sum) := by
  simp only [girandoleref12_Jitter_Add.j0]
  rw [refway_ev n stamp n0 n1 s0 s1, if_neg Bool.false_ne_true]

theorem j0_next (k : Nat) (stamp n last sum : Int) (n0 : 0 ≤ n) (n1 : n < 65536) (s0 : 0 ≤ stamp) (s1 : stamp < 65536) (l0 : 0 ≤ last) (l1 : last < 65536) (u0 : 0 ≤ sum) (u1 : sum < 100000000) :
    girandoleref12_Jitter_Add.j0 (k + 1) stamp n true last sum = some (true, (n - stamp) % 65536, sum + far (dif last ((n - stamp) % 65536)) - (sum + 8) / 16) := by
  simp only [girandoleref12_Jitter_Add.j0]
  rw [refway_ev n stamp n0 n1 s0 s1, if_pos trivial, refdiff_ev _ _ l0 l1 (by omega) (by omega), bs]
  have d0 : -32768 ≤ dif last ((n - stamp) % 65536) ∧ dif last ((n - stamp) % 65536) ≤ 32767 := by unfold dif; omega
  generalize dif last ((n - stamp) % 65536) = d at *
  rw [w64 (n := sum + 8) (by omega) (by omega), Int.tdiv_eq_ediv_of_nonneg (by omega), w64 (n := (sum + 8) / 16) (by omega) (by omega), w64 (n := -d) (by omega) (by omega)]
  unfold far
  split
  · rw [w64 (n := sum + -d) (by omega) (by omega), w64 (n := sum + -d - (sum + 8) / 16) (by omega) (by omega)]
  · rw [w64 (n := sum + d) (by omega) (by omega), w64 (n := sum + d - (sum + 8) / 16) (by omega) (by omega)]

theorem ref_ev (k : Nat) (has : Bool) (stamp now last sum : Int) (h0 : -9223372036854775808 ≤ now) (h1 : now < 9223372036854775808) (s0 : 0 ≤ stamp) (s1 : stamp < 65536) (l0 : 0 ≤ last) (l1 : last < 65536) (u0 : 0 ≤ sum) (u1 : sum < 100000000) :
    girandoleref12_Jitter_Add.f (k + 1) has last sum stamp now = some (true, (now - stamp) % 65536, if has then sum + far (dif last ((now - stamp) % 65536)) - (sum + 8) / 16 else sum) := by
  have e : ∃ n, (if (Int.tmod now 65536) < 0 then Int.tmod now 65536 + 65536 else Int.tmod now 65536) = n ∧ 0 ≤ n ∧ n < 65536 ∧ (n - stamp) % 65536 = (now - stamp) % 65536 := by
    by_cases hp : 0 ≤ now
    · rw [Int.tmod_eq_emod_of_nonneg hp, if_neg (by omega)]; exact ⟨_, rfl, by omega, by omega, by omega⟩
    · have e2 : Int.tmod now 65536 = -((-now) % 65536) := by
        rw [← Int.tmod_eq_emod_of_nonneg (by omega), Int.neg_tmod, Int.neg_neg]
      rw [e2]
      split
      · exact ⟨_, rfl, by omega, by omega, by omega⟩
      · exact ⟨_, rfl, by omega, by omega, by omega⟩
  obtain ⟨n, hn, n0, n1, hw⟩ := e
  have F : girandoleref12_Jitter_Add.f (k + 1) has last sum stamp now = girandoleref12_Jitter_Add.j0 (k + 1) stamp n has last sum := by
    unfold girandoleref12_Jitter_Add.f
    split at hn
    · rename_i hneg
      rw [if_pos hneg, hn, w64 (n := n) (by omega) (by omega)]
    · rename_i hneg
      rw [if_neg hneg, hn]
  rw [F]
  cases has with
  | false => rw [j0_first k stamp n last sum n0 n1 s0 s1, hw, if_neg Bool.false_ne_true]
  | true => rw [j0_next k stamp n last sum n0 n1 s0 s1 l0 l1 u0 u1, hw, if_pos rfl]

theorem refval_ev (last : Int) (has : Bool) (sum : Int) : girandoleref12_Jitter_Value.f has last sum = some (IntKind.u16.wrap (mn (wrap64 (Int.tdiv sum 16)) 65535), has, last, sum) := by
  unfold girandoleref12_Jitter_Value.f; simp

theorem step (k : Nat) (has : Bool) (stamp now last sum : Int) (h0 : -9223372036854775808 ≤ now) (h1 : now < 9223372036854775808) (s0 : 0 ≤ stamp) (s1 : stamp < 65536) (l0 : 0 ≤ last) (l1 : last < 65536) (u0 : 0 ≤ sum) (u1 : sum < 50000000) :
    ∃ last' sum', jitter_Jitter_Add.f last has sum stamp now = some (last', true, sum') ∧ girandoleref12_Jitter_Add.f (k + 1) has last sum stamp now = some (true, last', sum') ∧ 0 ≤ last' ∧ last' < 65536 ∧ 0 ≤ sum' ∧ sum' ≤ sum + 32768 := by
  have r := ref_ev k has stamp now last sum h0 h1 s0 s1 l0 l1 u0 (by omega)
  cases has with
  | false =>
    rw [if_neg Bool.false_ne_true] at r
    exact ⟨_, _, add_first last sum stamp now, r, by omega, by omega, u0, by omega⟩
  | true =>
    rw [if_pos rfl] at r
    have d0 : -32768 ≤ dif last ((now - stamp) % 65536) ∧ dif last ((now - stamp) % 65536) ≤ 32767 := by unfold dif; omega
    have f0 : 0 ≤ far (dif last ((now - stamp) % 65536)) ∧ far (dif last ((now - stamp) % 65536)) ≤ 32768 := by unfold far; split <;> omega
    exact ⟨_, _, add_next last sum stamp now l0 l1 u0 (by omega), r, by omega, by omega, by omega, by omega⟩

theorem rounds (xs ys : List Int) (hx : ∀ x ∈ xs, (Lit.int .u16 x).wf = true) (hy : ∀ x ∈ ys, (Lit.int .i64 x).wf = true) (hlen : xs.length ≤ 60) (hle : xs.length ≤ ys.length) (d : Nat) : ∀ (k i : Nat) (last sum : Int) (has : Bool), i + d = xs.length → d + 1 < k → 0 ≤ last → last < 65536 → 0 ≤ sum → sum ≤ 32768 * i →
    girandolelaw19_JitterAll.l0 k xs ys i last has sum has last sum = some true := by
  induction d with
  | zero =>
    intro k i last sum has hi hk l0 l1 u0 u1
    obtain ⟨k, rfl⟩ : ∃ m, k = m + 1 := ⟨k - 1, by omega⟩
    simp only [girandolelaw19_JitterAll.l0]
    rw [if_neg (by omega)]
    rfl
  | succ d ih =>
    intro k i last sum has hi hk l0 l1 u0 u1
    obtain ⟨k, rfl⟩ : ∃ m, k = m + 1 := ⟨k - 1, by omega⟩
    obtain ⟨p0, p1⟩ := u16_bd (u16_rd xs hx i (by omega) (by omega))
    obtain ⟨q0, q1⟩ := i64_bd (i64_rd ys hy i (by omega) (by omega))
    simp only [girandolelaw19_JitterAll.l0]
    rw [if_pos (by omega), if_pos (by omega), if_pos (by omega)]
    generalize rd xs (i : Int) = p at *
    generalize rd ys (i : Int) = q at *
    obtain ⟨k, rfl⟩ : ∃ m, k = m + 1 := ⟨k - 1, by omega⟩
    obtain ⟨last', sum', e1, e2, a0, a1, b0, b1⟩ := step k has p q last sum q0 q1 p0 p1 l0 l1 u0 (by omega)
    have g := ih (k + 1) (i + 1) last' sum' true (by omega) (by omega) a0 a1 b0 (by omega)
    rw [Int.natCast_add, Int.natCast_one] at g
    rw [e1, bs, e2, bs, refval_ev, w64 (n := (i : Int) + 1) (by omega) (by omega)]
    unfold jitter_Jitter_Value.f
    rw [bs, bs, if_pos rfl]
    exact g

end JitterAlls

open JitterAlls Go.Proofs.Ytffikjoonelooaa.Help in
theorem JitterAll : girandolelaw19_JitterAll.Pure := by
  intro xs ys _ _ hx _ _ hy
  refine ⟨xs.length + 3, ?_⟩
  unfold girandolelaw19_JitterAll.f
  have BG : girandolelaw19_begun.f = some true := bg
  rw [BG, bs, if_pos rfl]
  by_cases h1 : (xs.length : Int) > 60
  · rw [if_pos h1]
    simp only [girandolelaw19_JitterAll.j0]
    rw [if_pos trivial]
  · rw [if_neg h1]
    by_cases h2 : (ys.length : Int) < (xs.length : Int)
    · rw [decide_eq_true h2]
      simp only [girandolelaw19_JitterAll.j0]
      rw [if_pos trivial]
    · rw [decide_eq_false h2]
      generalize hk : xs.length + 2 = k
      show girandolelaw19_JitterAll.j0 ((xs.length + 2) + 1) xs ys false = some true
      rw [hk]
      simp only [girandolelaw19_JitterAll.j0]
      rw [if_neg Bool.false_ne_true, new_ev, bs]
      have g := rounds xs ys hx hy (by omega) (by omega) xs.length k 0 0 0 false (by omega) (by omega) (by omega) (by omega) (by omega) (by omega)
      rw [Int.natCast_zero] at g
      exact g

end Go.Proofs.Ytffikjoonelooaa.Pure
