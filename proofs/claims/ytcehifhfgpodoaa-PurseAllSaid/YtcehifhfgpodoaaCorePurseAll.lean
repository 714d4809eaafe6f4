/- What 'Split' tells, by plain laws. No condition. -/
import Derived.Test.YtcehifhfgpodoaaPPurseAllx6
import Derived.Test.YtcehifhfgpodoaaPlain
namespace Go.Proofs.Ytcehifhfgpodoaa.CorePurseAll
set_option linter.unusedVariables false
set_option linter.unusedSectionVars false
open Go.RowKit Go.Proofs.Ytcehifhfgpodoaa.PPurseAll Go.Proofs.Ytcehifhfgpodoaa.Plain Go.Proofs.Ytcehifhfgpodoaa.Help Go.Proofs.YtcehifhfgpodoaaW.PrintWords Go.Proofs.YtcehifhfgpodoaaW.PrintLast Go.Proofs.YtcehifhfgpodoaaW.PrintMore

theorem cmpI (a b : Int) : cmp_Compare_int.f a b = some (cp a b) := by
  unfold cmp_Compare_int.f cmp_isNaN_int.f cp
  rw [bs, bs, show (a != a) = false from by simp, show (b != b) = false from by simp, if_neg Bool.false_ne_true, if_neg Bool.false_ne_true]
  split
  · rfl
  · split <;> rfl
theorem cmpU (a b : Int) : cmp_Compare_uint32.f a b = some (cp a b) := by
  unfold cmp_Compare_uint32.f cmp_isNaN_uint32.f cp
  rw [bs, bs, show (a != a) = false from by simp, show (b != b) = false from by simp, if_neg Bool.false_ne_true, if_neg Bool.false_ne_true]
  split
  · rfl
  · split <;> rfl
theorem orI (k : Nat) (s t : Int) : cmp_Or_int.f (k + 3) [s, t] = some (if s = 0 then t else s) := by
  unfold cmp_Or_int.f
  rw [show (([s, t] : List Int).length : Int) = 2 from rfl]
  simp only [cmp_Or_int.l0]
  rw [show wrap64 (0 + 1) = 1 from by decide +kernel, show wrap64 (1 + 1) = 2 from by decide +kernel, show rd [s, t] 0 = s from rfl, show rd [s, t] 1 = t from rfl, show (([s, t] : List Int).length : Int) = 2 from rfl]
  rw [if_pos (by omega), if_pos (by omega), if_pos (by omega)]
  by_cases h : s = 0
  · rw [if_pos h, if_pos h, if_pos (by omega), if_pos (by omega), if_pos (by omega)]
    by_cases h2 : t = 0
    · rw [if_pos h2, if_neg (by omega), h2]
    · rw [if_neg h2]
  · rw [if_neg h, if_neg h]

section
variable (ws : List S46)
def rk (i : Nat) : Int := (rd_T46 ws (i : Int)).f1
def nr (i : Nat) : Int := (rd_T46 ws (i : Int)).f0
def by_ (i : Nat) : Int := clip (rd_T46 ws (i : Int)).f2
def we (i : Nat) : Int := weigh (rk ws i)

theorem cmpS (k a b : Nat) (hk : 3 ≤ k) (ha : a < ws.length) (hb : b < ws.length) : purse_Split_1.f k (a : Int) (b : Int) ws = some (lx (rk ws) (nr ws) a b) := by
  obtain ⟨k, rfl⟩ : ∃ m, k = m + 3 := ⟨k - 3, by omega⟩
  unfold purse_Split_1.f
  rw [if_pos (by omega), if_pos (by omega), if_pos (by omega), if_pos (by omega), cmpI, bs, cmpU, bs, orI, bs]
  rfl

variable (hn : ws.length ≤ 1000)
include hn

/-- one is brought to its place -/
theorem inner {p0 : Nat → Nat} {a i b : Nat} (hib : i < ws.length) (e : Nat) : ∀ (j : Nat) (p : Nat → Nat), j = a + e → Inn (rk ws) (nr ws) p0 p a i j →
    ∃ p' s, s ≤ e + 1 ∧ Srt (rk ws) (nr ws) p0 p' a (i + 1) ∧ ∀ k, 3 ≤ k → slices_insertionSortCmpFunc_int.l1 (k + s) (IL ws.length p) a b ws i j = slices_insertionSortCmpFunc_int.l0 k (IL ws.length p') a b ws ((i : Int) + 1) := by
  induction e with
  | zero =>
    intro j p hj h
    refine ⟨p, 1, by omega, h.stop (.inl (by omega)), fun k hk => ?_⟩
    simp only [slices_insertionSortCmpFunc_int.l1]
    rw [if_neg (by omega), w64 (n := (i : Int) + 1) (by omega) (by omega)]
  | succ e ih =>
    intro j p hj h
    have hji := h.ji
    obtain ⟨m, rfl⟩ : ∃ m, j = m + 1 := ⟨j - 1, by omega⟩
    have hl := h.lo m (by omega) (by omega) (by omega)
    have hi := h.itself
    have hw : wrap64 (((m + 1 : Nat) : Int) - 1) = (m : Int) := by
      rw [show ((m + 1 : Nat) : Int) - 1 = (m : Int) by omega]
      exact w64 (by omega) (by omega)
    have hc : ∀ k, 3 ≤ k → purse_Split_1.f k (rd (IL ws.length p) ((m + 1 : Nat) : Int)) (rd (IL ws.length p) (m : Int)) ws = some (lx (rk ws) (nr ws) i (p m)) := fun k hk => by
      rw [IL_rd _ _ _ (by omega), IL_rd _ _ _ (by omega), hi]
      exact cmpS ws k i (p m) hk hib (by omega)
    have hx := lx_lt (rk := rk ws) (nr := nr ws) (a := i) (b := p m) (by omega)
    by_cases hs : lt (rk ws) (nr ws) i (p m)
    · have h2 : Inn (rk ws) (nr ws) p0 (sw p (m + 1) m) a i m := h.swap (by omega) hs
      obtain ⟨p', s, h3, h4, h5⟩ := ih m _ (by omega) h2
      refine ⟨p', s + 1, by omega, h4, fun k hk => ?_⟩
      have g := h5 k hk
      generalize hks : k + s = ks at g
      rw [show k + (s + 1) = ks + 1 by omega]
      simp only [slices_insertionSortCmpFunc_int.l1]
      rw [hw, IL_len, if_pos (by omega), if_pos (by omega), if_pos (by omega), if_pos (by omega), if_pos (by omega), hc ks (by omega), bs, if_pos (hx.mpr hs), Int.toNat_natCast, Int.toNat_natCast, IL_sw _ _ _ _ (by omega) (by omega)]
      exact g
    · refine ⟨p, 1, by omega, h.stop (.inr hs), fun k hk => ?_⟩
      simp only [slices_insertionSortCmpFunc_int.l1]
      rw [hw, IL_len, if_pos (by omega), if_pos (by omega), if_pos (by omega), if_pos (by omega), if_pos (by omega), hc k hk, bs, if_neg (fun h => hs (hx.mp h)), w64 (n := (i : Int) + 1) (by omega) (by omega)]

/-- all of them -/
theorem outer {p0 : Nat → Nat} {a b : Nat} (hb : b ≤ ws.length) (h0 : ∀ t, a ≤ t → t < b → p0 t = t) (d : Nat) : ∀ (i : Nat) (p : Nat → Nat), a ≤ i → i + d = b → Srt (rk ws) (nr ws) p0 p a i →
    ∃ p' s, s ≤ d * 1002 + 1 ∧ Srt (rk ws) (nr ws) p0 p' a b ∧ ∀ k, 3 ≤ k → slices_insertionSortCmpFunc_int.l0 (k + s) (IL ws.length p) a b ws i = some (IL ws.length p') := by
  induction d with
  | zero =>
    intro i p hai hi h
    obtain rfl : i = b := by omega
    refine ⟨p, 1, by omega, h, fun k hk => ?_⟩
    simp only [slices_insertionSortCmpFunc_int.l0]
    rw [if_neg (by omega)]
  | succ d ih =>
    intro i p hai hi h
    obtain ⟨p1, s1, h1, h2, h3⟩ := inner ws hn (b := b) (by omega) (i - a) i p (by omega) (h.start hai (h0 i hai (by omega)))
    obtain ⟨p2, s2, h4, h5, h6⟩ := ih (i + 1) p1 (by omega) (by omega) h2
    refine ⟨p2, s2 + s1 + 1, by omega, h5, fun k hk => ?_⟩
    have g := h6 k hk
    rw [Int.natCast_add, Int.natCast_one] at g
    have g2 := h3 (k + s2) (by omega)
    rw [g] at g2
    generalize hks : k + s2 + s1 = ks at g2
    rw [show k + (s2 + s1 + 1) = ks + 1 by omega]
    simp only [slices_insertionSortCmpFunc_int.l0]
    rw [if_pos (by omega)]
    exact g2

theorem insertion (p0 : Nat → Nat) (a b : Nat) (hab : a ≤ b) (hb : b ≤ ws.length) (h0 : ∀ t, a ≤ t → t < b → p0 t = t) :
    ∃ p', Srt (rk ws) (nr ws) p0 p' a b ∧ ∀ k, 1003 * (b - a) + 10 ≤ k → slices_insertionSortCmpFunc_int.f k (IL ws.length p0) a b ws = some (IL ws.length p') := by
  by_cases e : a = b
  · subst e
    refine ⟨p0, Srt.none, fun k hk => ?_⟩
    obtain ⟨k, rfl⟩ : ∃ m, k = m + 1 := ⟨k - 1, by omega⟩
    unfold slices_insertionSortCmpFunc_int.f
    rw [w64 (n := (a : Int) + 1) (by omega) (by omega)]
    simp only [slices_insertionSortCmpFunc_int.l0]
    rw [if_neg (by omega)]
  · obtain ⟨p', s, h1, h2, h3⟩ := outer ws hn hb h0 (b - (a + 1)) (a + 1) p0 (by omega) (by omega) (Srt.one (h0 a (by omega) (by omega)))
    refine ⟨p', h2, fun k hk => ?_⟩
    have g := h3 (k - s) (by omega)
    rw [show k - s + s = k by omega, Int.natCast_add, Int.natCast_one] at g
    unfold slices_insertionSortCmpFunc_int.f
    rw [w64 (n := (a : Int) + 1) (by omega) (by omega)]
    exact g

/-- the first loop: what all weigh -/
theorem weighed (b B : Int) (d : Nat) : ∀ (k i : Nat), i + d = ws.length → purse_Split.l0 (k + d + 1) b ws B (sm (we ws) i) ws ws.length i = purse_Split.l1 k b ws B (sm (we ws) ws.length) (L ws.length fun _ => (0 : Int)) (L ws.length fun _ => (0 : Int)) ws ws.length 0 := by
  induction d with
  | zero =>
    intro k i hi
    obtain rfl : i = ws.length := by omega
    simp only [purse_Split.l0]
    rw [if_neg (by omega), if_pos (by omega), Int.toNat_natCast, if_pos (by omega), L_rep]
  | succ d ih =>
    intro k i hi
    have g := ih k (i + 1) (by omega)
    rw [Int.natCast_add, Int.natCast_one] at g
    generalize hks : k + d + 1 = ks at g
    simp only [purse_Split.l0]
    have s0 := sm_nonneg (f := we ws) i (fun t ht => by have := weigh1 (rk ws t); unfold we; omega)
    have s1 := sm_bd (f := we ws) 8 i (fun t ht => weigh8 _)
    have s2 := weigh1 (rk ws i)
    have s3 := weigh8 (rk ws i)
    rw [if_pos (by omega), if_pos (by omega), if_pos (by omega)]
    unfold purse_weight.f
    rw [weigh_eq, bs, w64 (n := (i : Int) + 1) (by omega) (by omega)]
    have e : sm (we ws) (i + 1) = sm (we ws) i + weigh (rd_T46 ws (i : Int)).f1 := rfl
    rw [w64 (n := sm (we ws) i + weigh (rd_T46 ws (i : Int)).f1) (by show _ ≤ sm (we ws) i + weigh (rk ws i); omega) (by show sm (we ws) i + weigh (rk ws i) < _; omega), ← e]
    exact g

/-- what each has at first -/
def o (b : Int) (t : Nat) : Int := out (clip b) (we ws) (by_ ws) ws.length t
omit hn in
theorem o_bd (b : Int) (t : Nat) (ht : t < ws.length) : 0 ≤ o ws b t ∧ o ws b t ≤ by_ ws t ∧ by_ ws t ≤ 65536 :=
  ⟨out0 (clip0 b) (fun t _ => weigh1 _) (fun t _ => clip0 _) t ht, out_le t, clip1 _⟩
omit hn in
theorem o_sum (b : Int) (i : Nat) (hi : i ≤ ws.length) : 0 ≤ sm (o ws b) i ∧ sm (o ws b) i ≤ clip b :=
  ⟨sm_nonneg i fun t ht => (o_bd ws b t (by omega)).1, outs_le (clip0 b) (fun t _ => weigh1 _) (fun t _ => clip0 _) i hi⟩

/-- the second loop -/
theorem first (b : Int) (d : Nat) : ∀ (k i : Nat), i + d = ws.length →
    purse_Split.l1 (k + d + 1) b ws (clip b - sm (o ws b) i) (sm (we ws) ws.length) (L ws.length fun t => if t < i then o ws b t else 0) (L ws.length fun t => if t < i then (t : Int) else 0) ws ws.length i
      = (slices_SortStableFunc_int_int.f k (IL ws.length fun t => t) ws).bind fun od => purse_Split.l2 k ws (clip b - sm (o ws b) ws.length) (L ws.length (o ws b)) od ws.length 0 := by
  induction d with
  | zero =>
    intro k i hi
    obtain rfl : i = ws.length := by omega
    simp only [purse_Split.l1]
    rw [if_neg (by omega), L_len, L_congr (f := fun t => if t < ws.length then o ws b t else 0) (g := o ws b) (fun t ht => if_pos ht), L_congr (f := fun t => if t < ws.length then (t : Int) else 0) (g := fun t => (t : Int)) (fun t ht => if_pos ht)]
    rfl
  | succ d ih =>
    intro k i hi
    have g := ih k (i + 1) (by omega)
    rw [Int.natCast_add, Int.natCast_one] at g
    generalize hks : k + d + 1 = ks at g
    have s0 := sm_nonneg (f := we ws) ws.length (fun t ht => by have := weigh1 (rk ws t); unfold we; omega)
    have s1 := sm_mono (f := we ws) (i + 1) (ws.length - (i + 1)) (fun t ht => by have := weigh1 (rk ws t); unfold we; omega)
    rw [show i + 1 + (ws.length - (i + 1)) = ws.length by omega] at s1
    have s2 := sm_nonneg (f := we ws) i (fun t ht => by have := weigh1 (rk ws t); unfold we; omega)
    have s3 : 1 ≤ we ws i := weigh1 _
    have s4 : we ws i ≤ 8 := weigh8 _
    have s5 : sm (we ws) (i + 1) = sm (we ws) i + we ws i := rfl
    have s6 := sm_bd (f := we ws) 8 ws.length (fun t ht => weigh8 _)
    have b0 := clip0 b
    have b1 := clip1 b
    have m0 : 0 ≤ clip b * we ws i := Int.mul_nonneg b0 (by omega)
    have m1 : clip b * we ws i ≤ clip b * 8 := Int.mul_le_mul_of_nonneg_left s4 b0
    have o1 := o_bd ws b i (by omega)
    have o2 := o_sum ws b i (by omega)
    have o3 := o_sum ws b (i + 1) (by omega)
    have o4 : sm (o ws b) (i + 1) = sm (o ws b) i + o ws b i := rfl
    have q0 : 0 ≤ clip b * we ws i / sm (we ws) ws.length := Int.ediv_nonneg m0 (by omega)
    have q1 : clip b * we ws i / sm (we ws) ws.length ≤ clip b * we ws i := Int.ediv_le_self _ m0
    have ev : mn (wrap64 (Int.tdiv (wrap64 (clip b * we ws i)) (sm (we ws) ws.length))) (by_ ws i) = o ws b i := by
      rw [w64 (n := clip b * we ws i) (by omega) (by omega), Int.tdiv_eq_ediv_of_nonneg m0, w64 (by omega) (by omega)]
      rfl
    simp only [purse_Split.l1]
    rw [if_pos (by omega), if_pos (by omega), if_pos (by omega)]
    unfold purse_clip.f purse_weight.f
    rw [bs, weigh_eq, bs, if_neg (by omega), bs, L_len, if_pos (by omega), bs]
    have l2 : ((L ws.length fun t => if t < i then (t : Int) else 0).length : Int) = ws.length := by rw [L_len]
    rw [l2, if_pos (by omega)]
    show purse_Split.l1 ks b ws (wrap64 (clip b - sm (o ws b) i - rd ((L ws.length fun t => if t < i then o ws b t else 0).set ((i : Int)).toNat (mn (wrap64 (Int.tdiv (wrap64 (clip b * we ws i)) (sm (we ws) ws.length))) (by_ ws i))) (i : Int))) (sm (we ws) ws.length) ((L ws.length fun t => if t < i then o ws b t else 0).set ((i : Int)).toNat (mn (wrap64 (Int.tdiv (wrap64 (clip b * we ws i)) (sm (we ws) ws.length))) (by_ ws i))) ((L ws.length fun t => if t < i then (t : Int) else 0).set ((i : Int)).toNat (i : Int)) ws ws.length (wrap64 ((i : Int) + 1)) = _
    rw [ev, Int.toNat_natCast, L_set, L_set, L_rd _ _ _ (by omega), if_pos rfl, w64 (n := (i : Int) + 1) (by omega) (by omega), w64 (n := clip b - sm (o ws b) i - o ws b i) (by omega) (by omega)]
    rw [show clip b - sm (o ws b) i - o ws b i = clip b - sm (o ws b) (i + 1) by omega]
    rw [L_congr (n := ws.length) (f := fun t => if t = i then o ws b i else if t < i then o ws b t else 0) (g := fun t => if t < i + 1 then o ws b t else 0) (fun t ht => by
      show (if t = i then o ws b i else if t < i then o ws b t else 0) = if t < i + 1 then o ws b t else 0
      by_cases e : t = i
      · rw [if_pos e, if_pos (by omega), e]
      · rw [if_neg e]
        by_cases e2 : t < i
        · rw [if_pos e2, if_pos (by omega)]
        · rw [if_neg e2, if_neg (by omega)])]
    rw [L_congr (n := ws.length) (f := fun t => if t = i then (i : Int) else if t < i then (t : Int) else 0) (g := fun t => if t < i + 1 then (t : Int) else 0) (fun t ht => by
      show (if t = i then (i : Int) else if t < i then (t : Int) else 0) = if t < i + 1 then (t : Int) else 0
      by_cases e : t = i
      · rw [if_pos e, if_pos (by omega), e]
      · rw [if_neg e]
        by_cases e2 : t < i
        · rw [if_pos e2, if_pos (by omega)]
        · rw [if_neg e2, if_neg (by omega)])]
    exact g

/-- the third loop -/
theorem second (b : Int) (p : Nat → Nat) (hp : ∀ s t, s < ws.length → t < ws.length → p s = p t → s = t) (hr : ∀ s, s < ws.length → p s < ws.length) (B : Int) (hB : 0 ≤ B) (hB2 : B ≤ 65536) (d : Nat) : ∀ (k j : Nat), j + d = ws.length →
    purse_Split.l2 (k + d + 1) ws (st (by_ ws) (o ws b) B p j).2 (L ws.length (st (by_ ws) (o ws b) B p j).1) (IL ws.length p) ws.length j = some (L ws.length (st (by_ ws) (o ws b) B p ws.length).1) := by
  have ho : ∀ t, t < ws.length → 0 ≤ o ws b t ∧ o ws b t ≤ by_ ws t := fun t ht => ⟨(o_bd ws b t ht).1, (o_bd ws b t ht).2.1⟩
  induction d with
  | zero =>
    intro k j hj
    obtain rfl : j = ws.length := by omega
    simp only [purse_Split.l2]
    rw [if_neg (by omega)]
  | succ d ih =>
    intro k j hj
    have g := ih k (j + 1) (by omega)
    rw [Int.natCast_add, Int.natCast_one] at g
    generalize hks : k + d + 1 = ks at g
    have hj2 : j < ws.length := by omega
    have a1 := st_left0 (c := by_ ws) (o := o ws b) hp hr ho hB j (by omega)
    have a2 := st_not (c := by_ ws) (o := o ws b) (B := B) hp j (by omega) j hj2 (Nat.le_refl _)
    have a3 := gv0 (c := by_ ws) (o := o ws b) hp hr ho hB j hj2
    have a4 := st_left (c := by_ ws) (o := o ws b) (B := B) hp j hj2
    have a5 := st_left0 (c := by_ ws) (o := o ws b) hp hr ho hB (j + 1) (by omega)
    have a6 := o_bd ws b (p j) (hr j hj2)
    have e1 : mn (wrap64 (by_ ws (p j) - rd (L ws.length (st (by_ ws) (o ws b) B p j).1) (p j : Int))) (st (by_ ws) (o ws b) B p j).2 = gv (by_ ws) (o ws b) B p j := by
      rw [L_rd _ _ _ (hr j hj2), a2, w64 (by omega) (by omega)]
      rfl
    simp only [purse_Split.l2]
    rw [if_pos (by omega), if_pos (by omega), IL_len, if_pos (by omega), IL_rd _ _ _ hj2, if_pos (by omega), if_pos (by have := hr j hj2; omega)]
    unfold purse_clip.f
    rw [bs, L_len, if_pos (by have := hr j hj2; omega), Int.toNat_natCast]
    show purse_Split.l2 ks ws (wrap64 ((st (by_ ws) (o ws b) B p j).2 - mn (wrap64 (by_ ws (p j) - rd (L ws.length (st (by_ ws) (o ws b) B p j).1) (p j : Int))) (st (by_ ws) (o ws b) B p j).2)) ((L ws.length (st (by_ ws) (o ws b) B p j).1).set (p j) (wrap64 (rd (L ws.length (st (by_ ws) (o ws b) B p j).1) (p j : Int) + mn (wrap64 (by_ ws (p j) - rd (L ws.length (st (by_ ws) (o ws b) B p j).1) (p j : Int))) (st (by_ ws) (o ws b) B p j).2))) (IL ws.length p) ws.length (wrap64 ((j : Int) + 1)) = _
    rw [e1, L_rd _ _ _ (hr j hj2), a2, w64 (n := o ws b (p j) + gv (by_ ws) (o ws b) B p j) (by omega) (by omega), w64 (n := (st (by_ ws) (o ws b) B p j).2 - gv (by_ ws) (o ws b) B p j) (by omega) (by omega), w64 (n := (j : Int) + 1) (by omega) (by omega), ← a4, L_set]
    rw [show (fun t => if t = p j then o ws b (p j) + gv (by_ ws) (o ws b) B p j else (st (by_ ws) (o ws b) B p j).1 t) = (st (by_ ws) (o ws b) B p (j + 1)).1 from by
      have a7 := st_at (c := by_ ws) (o := o ws b) (B := B) hp j hj2
      rw [← a7]
      funext t
      by_cases e : t = p j
      · rw [if_pos e, e]
      · rw [if_neg e]
        show _ = if t = p j then _ else (st (by_ ws) (o ws b) B p j).1 t
        rw [if_neg e]]
    exact g

/-- who has how much in the end, p telling who is asked when -/
def fin (b : Int) (p : Nat → Nat) : Nat → Int := (st (by_ ws) (o ws b) (clip b - sm (o ws b) ws.length) p ws.length).1

/-- Split, where the sort is known -/
theorem split (b : Int) (p : Nat → Nat) (hs : Srt (rk ws) (nr ws) (fun t => t) p 0 ws.length) (K : Nat) (hK : ∀ k, K ≤ k → slices_SortStableFunc_int_int.f k (IL ws.length fun t => t) ws = some (IL ws.length p)) (k : Nat) (hk : K + 3 * ws.length + 3 ≤ k) :
    purse_Split.f k b ws = some (L ws.length (fin ws b p)) := by
  obtain ⟨k, rfl⟩ : ∃ m, k = m + ws.length + 1 + ws.length + 1 + ws.length + 1 := ⟨k - 3 * ws.length - 3, by omega⟩
  have b0 := clip0 b
  have b1 := clip1 b
  unfold purse_Split.f purse_clip.f
  rw [bs]
  have g1 := weighed ws hn b (clip b) ws.length (k + ws.length + 1 + ws.length + 1) 0 (by omega)
  have g2 := first ws hn b ws.length (k + ws.length + 1) 0 (by omega)
  rw [hK (k + ws.length + 1) (by omega), bs] at g2
  have o2 := o_sum ws b ws.length (Nat.le_refl _)
  have g3 := second ws hn b p (fun s t h1 h2 => hs.inj s t (by omega) h1 (by omega) h2) (fun s h1 => (hs.lo s (by omega) h1).2) (clip b - sm (o ws b) ws.length) (by omega) (by omega) ws.length k 0 (by omega)
  rw [Int.natCast_zero] at g1 g2 g3
  refine g1.trans ?_
  have e1 : (L ws.length fun t => if t < 0 then o ws b t else 0) = L ws.length fun _ => (0 : Int) := L_congr fun t ht => if_neg (by omega)
  have e2 : (L ws.length fun t => if t < 0 then (t : Int) else 0) = L ws.length fun _ => (0 : Int) := L_congr fun t ht => if_neg (by omega)
  rw [e1, e2, show clip b - sm (o ws b) 0 = clip b from by show clip b - 0 = clip b; omega] at g2
  exact g2.trans g3
end

/-- the sort of at most 20: by insertion alone -/
theorem sorted20 (ws : List S46) (hn : ws.length ≤ 20) : ∃ p, Srt (rk ws) (nr ws) (fun t => t) p 0 ws.length ∧ ∀ k, 30000 ≤ k → slices_SortStableFunc_int_int.f k (IL ws.length fun t => t) ws = some (IL ws.length p) := by
  obtain ⟨p, h1, h2⟩ := insertion ws (by omega) (fun t => t) 0 ws.length (by omega) (by omega) (fun t _ _ => rfl)
  refine ⟨p, h1, fun k hk => ?_⟩
  obtain ⟨k, rfl⟩ : ∃ m, k = m + 3 := ⟨k - 3, by omega⟩
  unfold slices_SortStableFunc_int_int.f slices_stableCmpFunc_int.f
  rw [IL_len]
  have h3 := fun k hk => h2 k hk
  simp only [Int.natCast_zero] at h3
  by_cases e : ws.length = 20
  · generalize hk2 : k + 2 = k2
    rw [show k + 3 = k2 + 1 by omega]
    simp only [slices_stableCmpFunc_int.l0]
    rw [if_pos (by omega), show (20 : Int) = ((ws.length : Nat) : Int) by omega, h3 k2 (by omega), bs]
    obtain ⟨q, hq1, hq2⟩ := insertion ws (by omega) p ws.length ws.length (Nat.le_refl _) (Nat.le_refl _) (fun t a b => by omega)
    obtain ⟨k3, rfl⟩ : ∃ m, k2 = m + 1 := ⟨k2 - 1, by omega⟩
    simp only [slices_stableCmpFunc_int.l0]
    rw [w64 (by omega) (by omega), if_neg (by omega), hq2 k3 (by omega), bs]
    obtain ⟨k4, rfl⟩ : ∃ m, k3 = m + 1 := ⟨k3 - 1, by omega⟩
    simp only [slices_stableCmpFunc_int.l1]
    rw [if_neg (by omega), bs]
    have e2 : IL ws.length q = IL ws.length p := L_congr fun t ht => by rw [hq1.rest t (.inl ht)]
    rw [e2]
  · generalize hk2 : k + 2 = k2
    rw [show k + 3 = k2 + 1 by omega]
    simp only [slices_stableCmpFunc_int.l0]
    rw [if_neg (by omega), h3 k2 (by omega), bs]
    obtain ⟨k3, rfl⟩ : ∃ m, k2 = m + 1 := ⟨k2 - 1, by omega⟩
    simp only [slices_stableCmpFunc_int.l1]
    rw [if_neg (by omega), bs]

end Go.Proofs.Ytcehifhfgpodoaa.CorePurseAll
