/- The sort of at most 40: two stretches by insertion, and one merge. No condition. -/
import Derived.Test.YtcehifhfgpodoaaCorePurseAll
import Derived.Test.YtcehifhfgpodoaaMerge
namespace Go.Proofs.Ytcehifhfgpodoaa.CorePurseAll
set_option linter.unusedVariables false
set_option linter.unusedSectionVars false
open Go.RowKit Go.Proofs.Ytcehifhfgpodoaa.PPurseAll Go.Proofs.Ytcehifhfgpodoaa.Plain Go.Proofs.Ytcehifhfgpodoaa.Help Go.Proofs.YtcehifhfgpodoaaW.PrintWords Go.Proofs.YtcehifhfgpodoaaW.PrintLast Go.Proofs.YtcehifhfgpodoaaW.PrintMore

theorem addN (x y : Nat) (h : x ≤ 100000) (h2 : y ≤ 100000) : wrap64 ((x : Int) + (y : Int)) = ((x + y : Nat) : Int) := by rw [w64 (by omega) (by omega)]; omega
theorem subN (x y : Nat) (h : y ≤ x) (h2 : x ≤ 100000) : wrap64 ((x : Int) - (y : Int)) = ((x - y : Nat) : Int) := by rw [w64 (by omega) (by omega)]; omega
theorem oneN (x : Nat) (h : x ≤ 100000) : wrap64 ((x : Int) + 1) = ((x + 1 : Nat) : Int) := by rw [w64 (by omega) (by omega)]; omega
theorem preN (x : Nat) (h : 1 ≤ x) (h2 : x ≤ 100000) : wrap64 ((x : Int) - 1) = ((x - 1 : Nat) : Int) := by rw [w64 (by omega) (by omega)]; omega

section
variable (ws : List S46) (hn : ws.length ≤ 1000)
include hn

theorem swapR (p : Nat → Nat) (x y m : Nat) (h : x + m ≤ y) (hy : y + m ≤ ws.length) (d : Nat) : ∀ (k i : Nat), i + d = m → slices_swapRangeCmpFunc_int.l0 (k + d + 1) (IL ws.length fun t => p (sx x y i t)) x y m i = some (IL ws.length fun t => p (sx x y m t)) := by
  induction d with
  | zero =>
    intro k i hi
    obtain rfl : i = m := by omega
    simp only [slices_swapRangeCmpFunc_int.l0]
    rw [if_neg (by omega)]
  | succ d ih =>
    intro k i hi
    have g := ih k (i + 1) (by omega)
    generalize hks : k + d + 1 = ks at g
    simp only [slices_swapRangeCmpFunc_int.l0]
    rw [if_pos (by omega), addN y i (by omega) (by omega), addN x i (by omega) (by omega), IL_len, if_pos (by omega), if_pos (by omega), if_pos (by omega), if_pos (by omega), Int.toNat_natCast, Int.toNat_natCast, IL_sw _ _ _ _ (by omega) (by omega), sx_step p x y i (by omega), oneN i (by omega)]
    exact g
theorem swapRange (p : Nat → Nat) (x y m : Nat) (h : x + m ≤ y) (hy : y + m ≤ ws.length) (k : Nat) (hk : m + 1 ≤ k) : slices_swapRangeCmpFunc_int.f k (IL ws.length p) x y m ws = some (IL ws.length fun t => p (sx x y m t)) := by
  have g := swapR ws hn p x y m h hy m (k - m - 1) 0 (by omega)
  rw [sx_none, show k - m - 1 + m + 1 = k by omega] at g
  exact g

theorem rotL (m N : Nat) : ∀ (i j : Nat) (p : Nat → Nat), i + j ≤ N → 1 ≤ i → i ≤ m → 1 ≤ j → m + j ≤ ws.length → ∀ k, N + ws.length + 2 ≤ k → slices_rotateCmpFunc_int.l0 k (IL ws.length p) m ws i j = some (IL ws.length fun t => p (ro (m - i) m (m + j) t)) := by
  induction N with
  | zero => intro i j p h; omega
  | succ N ih =>
    intro i j p h hi him hj hmj k hk
    obtain ⟨k, rfl⟩ : ∃ m, k = m + 1 := ⟨k - 1, by omega⟩
    simp only [slices_rotateCmpFunc_int.l0]
    by_cases e : i = j
    · subst e
      rw [if_pos rfl, subN m i him (by omega), swapRange ws hn p (m - i) m i (by omega) (by omega) k (by omega), bs]
      exact congrArg some (L_congr fun t ht => by show ((p _ : Nat) : Int) = ((p _ : Nat) : Int); rw [ro_eq m i t him])
    · rw [if_neg (by omega)]
      by_cases e2 : j < i
      · rw [if_pos (by omega), subN m i him (by omega), swapRange ws hn p (m - i) m j (by omega) (by omega) k (by omega), bs, subN i j (by omega) (by omega)]
        rw [ih (i - j) j _ (by omega) (by omega) (by omega) hj hmj k (by omega)]
        exact congrArg some (L_congr fun t ht => by show ((p _ : Nat) : Int) = ((p _ : Nat) : Int); rw [ro_gt m i j t e2 him])
      · rw [if_neg (by omega), subN m i him (by omega), addN m j (by omega) (by omega), subN (m + j) i (by omega) (by omega), swapRange ws hn p (m - i) (m + j - i) i (by omega) (by omega) k (by omega), bs, subN j i (by omega) (by omega)]
        rw [ih i (j - i) _ (by omega) hi him (by omega) (by omega) k (by omega)]
        exact congrArg some (L_congr fun t ht => by show ((p _ : Nat) : Int) = ((p _ : Nat) : Int); rw [ro_lt m i j t (by omega) him])
theorem rotate (p : Nat → Nat) (a m b : Nat) (h1 : a < m) (h2 : m < b) (hb : b ≤ ws.length) (k : Nat) (hk : 2 * ws.length + 2 ≤ k) : slices_rotateCmpFunc_int.f k (IL ws.length p) a m b ws = some (IL ws.length fun t => p (ro a m b t)) := by
  unfold slices_rotateCmpFunc_int.f
  rw [subN m a (by omega) (by omega), subN b m (by omega) (by omega), rotL ws hn m (b - a) (m - a) (b - m) p (by omega) (by omega) (by omega) (by omega) (by omega) k (by omega), show m - (m - a) = a by omega, show m + (b - m) = b by omega]

/-- where the one of the left belongs among the right -/
theorem find1 (a b : Nat) (p : Nat → Nat) (hb : b ≤ ws.length) (hab : a < b) (o2 : Od (rk ws) (nr ws) p (a + 1) b) (hx : ∀ t, a + 1 ≤ t → t < b → p a < p t) (hr : ∀ t, a ≤ t → t < b → p t < ws.length) (e : Nat) :
    ∀ i j, j ≤ i + e → a + 1 ≤ i → i ≤ j → j ≤ b → (∀ t, a + 1 ≤ t → t < i → lt (rk ws) (nr ws) (p t) (p a)) → (∀ t, j ≤ t → t < b → lt (rk ws) (nr ws) (p a) (p t)) →
    ∃ c s, a + 1 ≤ c ∧ c ≤ b ∧ (∀ t, a + 1 ≤ t → t < c → lt (rk ws) (nr ws) (p t) (p a)) ∧ (∀ t, c ≤ t → t < b → lt (rk ws) (nr ws) (p a) (p t)) ∧ ∀ k, 3 ≤ k → slices_symMergeCmpFunc_int.l0 (k + s) (IL ws.length p) a ws i j = slices_symMergeCmpFunc_int.l1 k (IL ws.length p) c a := by
  induction e with
  | zero =>
    intro i j h1 h2 h3 h4 h5 h6
    obtain rfl : i = j := by omega
    refine ⟨i, 1, h2, h4, h5, h6, fun k hk => ?_⟩
    simp only [slices_symMergeCmpFunc_int.l0]
    rw [if_neg (by omega)]
  | succ e ih =>
    intro i j h1 h2 h3 h4 h5 h6
    by_cases hij : i < j
    · have hx1 := lx_lt (rk := rk ws) (nr := nr ws) (hx ((i + j) / 2) (by omega) (by omega))
      have hc : ∀ k, 3 ≤ k → purse_Split_1.f k (rd (IL ws.length p) (((i + j) / 2 : Nat) : Int)) (rd (IL ws.length p) (a : Int)) ws = some (lx (rk ws) (nr ws) (p ((i + j) / 2)) (p a)) := fun k hk => by
        rw [IL_rd _ _ _ (by omega), IL_rd _ _ _ (by omega)]
        exact cmpS ws k _ _ hk (hr _ (by omega) (by omega)) (hr _ (by omega) (by omega))
      by_cases hs : lt (rk ws) (nr ws) (p ((i + j) / 2)) (p a)
      · obtain ⟨c, s, g1, g2, g3, g4, g5⟩ := ih ((i + j) / 2 + 1) j (by omega) (by omega) (by omega) h4 (fun t t1 t2 => by
          by_cases et : t = (i + j) / 2
          · rw [et]; exact hs
          · exact lt_trans (o2 t _ t1 (by omega) (by omega)) hs) h6
        refine ⟨c, s + 1, g1, g2, g3, g4, fun k hk => ?_⟩
        have g := g5 k hk
        generalize hks : k + s = ks at g
        rw [show k + (s + 1) = ks + 1 by omega]
        simp only [slices_symMergeCmpFunc_int.l0]
        rw [if_pos (by omega), half i j (by omega) (by omega), IL_len, if_pos (by omega), if_pos (by omega), if_pos (by omega), if_pos (by omega), hc ks (by omega), bs, if_pos (hx1.mpr hs), oneN _ (by omega)]
        exact g
      · have hs2 : lt (rk ws) (nr ws) (p a) (p ((i + j) / 2)) := by
          rcases lt_total (rk := rk ws) (nr := nr ws) (a := p a) (b := p ((i + j) / 2)) (by have := hx ((i + j) / 2) (by omega) (by omega); omega) with k | k
          · exact k
          · exact absurd k hs
        obtain ⟨c, s, g1, g2, g3, g4, g5⟩ := ih i ((i + j) / 2) (by omega) h2 (by omega) (by omega) h5 (fun t t1 t2 => by
          by_cases et : t = (i + j) / 2
          · rw [et]; exact hs2
          · exact lt_trans hs2 (o2 _ t (by omega) (by omega) t2))
        refine ⟨c, s + 1, g1, g2, g3, g4, fun k hk => ?_⟩
        have g := g5 k hk
        generalize hks : k + s = ks at g
        rw [show k + (s + 1) = ks + 1 by omega]
        simp only [slices_symMergeCmpFunc_int.l0]
        rw [if_pos (by omega), half i j (by omega) (by omega), IL_len, if_pos (by omega), if_pos (by omega), if_pos (by omega), if_pos (by omega), hc ks (by omega), bs, if_neg (fun h => hs (hx1.mp h))]
        exact g
    · obtain rfl : i = j := by omega
      refine ⟨i, 1, h2, h4, h5, h6, fun k hk => ?_⟩
      simp only [slices_symMergeCmpFunc_int.l0]
      rw [if_neg (by omega)]
theorem carry1 (a c : Nat) (p : Nat → Nat) (hc : c ≤ ws.length) (d : Nat) : ∀ (k t : Nat), a ≤ t → t + 1 + d = c → slices_symMergeCmpFunc_int.l1 (k + d + 1) (IL ws.length fun u => p (ro a (a + 1) (t + 1) u)) c t = some (IL ws.length fun u => p (ro a (a + 1) c u)) := by
  induction d with
  | zero =>
    intro k t h1 h2
    obtain rfl : t + 1 = c := by omega
    simp only [slices_symMergeCmpFunc_int.l1]
    rw [preN (t + 1) (by omega) (by omega), if_neg (by omega)]
  | succ d ih =>
    intro k t h1 h2
    have g := ih k (t + 1) (by omega) (by omega)
    generalize hks : k + d + 1 = ks at g
    simp only [slices_symMergeCmpFunc_int.l1]
    rw [preN c (by omega) (by omega), oneN t (by omega), IL_len, if_pos (by omega), if_pos (by omega), if_pos (by omega), if_pos (by omega), if_pos (by omega), Int.toNat_natCast, Int.toNat_natCast, IL_sw _ _ _ _ (by omega) (by omega), ro_up p a t h1]
    exact g

/-- where the one of the right belongs among the left -/
theorem find2 (a m : Nat) (p : Nat → Nat) (hb : m + 1 ≤ ws.length) (o1 : Od (rk ws) (nr ws) p a m) (hx : ∀ t, a ≤ t → t < m → p t < p m) (hr : ∀ t, a ≤ t → t < m + 1 → p t < ws.length) (e : Nat) :
    ∀ i j, j ≤ i + e → a ≤ i → i ≤ j → j ≤ m → (∀ t, a ≤ t → t < i → lt (rk ws) (nr ws) (p t) (p m)) → (∀ t, j ≤ t → t < m → lt (rk ws) (nr ws) (p m) (p t)) →
    ∃ c s, a ≤ c ∧ c ≤ m ∧ (∀ t, a ≤ t → t < c → lt (rk ws) (nr ws) (p t) (p m)) ∧ (∀ t, c ≤ t → t < m → lt (rk ws) (nr ws) (p m) (p t)) ∧ ∀ k, 3 ≤ k → slices_symMergeCmpFunc_int.l2 (k + s) (IL ws.length p) m ws i j = slices_symMergeCmpFunc_int.l3 k (IL ws.length p) c m := by
  induction e with
  | zero =>
    intro i j h1 h2 h3 h4 h5 h6
    obtain rfl : i = j := by omega
    refine ⟨i, 1, h2, h4, h5, h6, fun k hk => ?_⟩
    simp only [slices_symMergeCmpFunc_int.l2]
    rw [if_neg (by omega)]
  | succ e ih =>
    intro i j h1 h2 h3 h4 h5 h6
    by_cases hij : i < j
    · have hx1 := lx_lt (rk := rk ws) (nr := nr ws) (hx ((i + j) / 2) (by omega) (by omega))
      have hc : ∀ k, 3 ≤ k → purse_Split_1.f k (rd (IL ws.length p) (m : Int)) (rd (IL ws.length p) (((i + j) / 2 : Nat) : Int)) ws = some (lx (rk ws) (nr ws) (p m) (p ((i + j) / 2))) := fun k hk => by
        rw [IL_rd _ _ _ (by omega), IL_rd _ _ _ (by omega)]
        exact cmpS ws k _ _ hk (hr _ (by omega) (by omega)) (hr _ (by omega) (by omega))
      by_cases hs : lt (rk ws) (nr ws) (p m) (p ((i + j) / 2))
      · obtain ⟨c, s, g1, g2, g3, g4, g5⟩ := ih i ((i + j) / 2) (by omega) h2 (by omega) (by omega) h5 (fun t t1 t2 => by
          by_cases et : t = (i + j) / 2
          · rw [et]; exact hs
          · exact lt_trans hs (o1 _ t (by omega) (by omega) t2))
        refine ⟨c, s + 1, g1, g2, g3, g4, fun k hk => ?_⟩
        have g := g5 k hk
        generalize hks : k + s = ks at g
        rw [show k + (s + 1) = ks + 1 by omega]
        simp only [slices_symMergeCmpFunc_int.l2]
        rw [if_pos (by omega), half i j (by omega) (by omega), IL_len, if_pos (by omega), if_pos (by omega), if_pos (by omega), if_pos (by omega), hc ks (by omega), bs, if_pos (hx1.mpr hs)]
        exact g
      · have hs2 : lt (rk ws) (nr ws) (p ((i + j) / 2)) (p m) := by
          rcases lt_total (rk := rk ws) (nr := nr ws) (a := p m) (b := p ((i + j) / 2)) (by have := hx ((i + j) / 2) (by omega) (by omega); omega) with k | k
          · exact absurd k hs
          · exact k
        obtain ⟨c, s, g1, g2, g3, g4, g5⟩ := ih ((i + j) / 2 + 1) j (by omega) (by omega) (by omega) h4 (fun t t1 t2 => by
          by_cases et : t = (i + j) / 2
          · rw [et]; exact hs2
          · exact lt_trans (o1 t _ t1 (by omega) (by omega)) hs2) h6
        refine ⟨c, s + 1, g1, g2, g3, g4, fun k hk => ?_⟩
        have g := g5 k hk
        generalize hks : k + s = ks at g
        rw [show k + (s + 1) = ks + 1 by omega]
        simp only [slices_symMergeCmpFunc_int.l2]
        rw [if_pos (by omega), half i j (by omega) (by omega), IL_len, if_pos (by omega), if_pos (by omega), if_pos (by omega), if_pos (by omega), hc ks (by omega), bs, if_neg (fun h => hs (hx1.mp h)), oneN _ (by omega)]
        exact g
    · obtain rfl : i = j := by omega
      refine ⟨i, 1, h2, h4, h5, h6, fun k hk => ?_⟩
      simp only [slices_symMergeCmpFunc_int.l2]
      rw [if_neg (by omega)]
theorem carry2 (c m : Nat) (p : Nat → Nat) (hm : m + 1 ≤ ws.length) (d : Nat) : ∀ (k t : Nat), t ≤ m → c + d = t → slices_symMergeCmpFunc_int.l3 (k + d + 1) (IL ws.length fun u => p (ro t m (m + 1) u)) c t = some (IL ws.length fun u => p (ro c m (m + 1) u)) := by
  induction d with
  | zero =>
    intro k t h1 h2
    obtain rfl : c = t := by omega
    simp only [slices_symMergeCmpFunc_int.l3]
    rw [if_neg (by omega)]
  | succ d ih =>
    intro k t h1 h2
    obtain ⟨u, rfl⟩ : ∃ u, t = u + 1 := ⟨t - 1, by omega⟩
    have g := ih k u (by omega) (by omega)
    generalize hks : k + d + 1 = ks at g
    simp only [slices_symMergeCmpFunc_int.l3]
    rw [preN (u + 1) (by omega) (by omega), show u + 1 - 1 = u by omega, IL_len, if_pos (by omega), if_pos (by omega), if_pos (by omega), if_pos (by omega), if_pos (by omega), Int.toNat_natCast, Int.toNat_natCast, IL_sw _ _ _ _ (by omega) (by omega), ro_down p m u h1]
    exact g

/-- how far the two stretches are exchanged -/
theorem find3 (a m b mid s0 r0 : Nat) (p : Nat → Nat) (hb : b ≤ ws.length) (o1 : Od (rk ws) (nr ws) p a m) (o2 : Od (rk ws) (nr ws) p m b) (hx : ∀ s t, a ≤ s → s < m → m ≤ t → t < b → p s < p t) (hr : ∀ t, a ≤ t → t < b → p t < ws.length)
    (hm : mid ≤ 1000) (hm2 : m ≤ 1000) (hc : ∀ t, s0 ≤ t → t < r0 → a ≤ t ∧ t < m ∧ m ≤ mid + m - 1 - t ∧ mid + m - 1 - t < b) (hr0 : r0 ≤ 1000) (e : Nat) :
    ∀ i j, j ≤ i + e → s0 ≤ i → i ≤ j → j ≤ r0 → (∀ t, s0 ≤ t → t < i → lt (rk ws) (nr ws) (p t) (p (mid + m - 1 - t))) → (∀ t, j ≤ t → t < r0 → lt (rk ws) (nr ws) (p (mid + m - 1 - t)) (p t)) →
    ∃ c s, s0 ≤ c ∧ c ≤ r0 ∧ (∀ t, s0 ≤ t → t < c → lt (rk ws) (nr ws) (p t) (p (mid + m - 1 - t))) ∧ (∀ t, c ≤ t → t < r0 → lt (rk ws) (nr ws) (p (mid + m - 1 - t)) (p t)) ∧
      ∀ k, 3 ≤ k → slices_symMergeCmpFunc_int.l4 (k + s) (IL ws.length p) a m b ws mid (mid + m : Nat) i j (mid + m - 1 : Nat) = (if (c : Int) < (m : Int) then slices_symMergeCmpFunc_int.j6 k (IL ws.length p) a m b ws mid c (wrap64 (((mid + m : Nat) : Int) - (c : Int))) (decide ((m : Int) < wrap64 (((mid + m : Nat) : Int) - (c : Int)))) else slices_symMergeCmpFunc_int.j6 k (IL ws.length p) a m b ws mid c (wrap64 (((mid + m : Nat) : Int) - (c : Int))) false) := by
  induction e with
  | zero =>
    intro i j h1 h2 h3 h4 h5 h6
    obtain rfl : i = j := by omega
    refine ⟨i, 1, h2, h4, h5, h6, fun k hk => ?_⟩
    simp only [slices_symMergeCmpFunc_int.l4]
    rw [if_neg (by omega)]
  | succ e ih =>
    intro i j h1 h2 h3 h4 h5 h6
    by_cases hij : i < j
    · obtain ⟨q1, q2, q3, q4⟩ := hc ((i + j) / 2) (by omega) (by omega)
      have hx1 := lx_lt (rk := rk ws) (nr := nr ws) (hx _ _ q1 q2 q3 q4)
      have hcm : ∀ k, 3 ≤ k → purse_Split_1.f k (rd (IL ws.length p) ((mid + m - 1 - (i + j) / 2 : Nat) : Int)) (rd (IL ws.length p) (((i + j) / 2 : Nat) : Int)) ws = some (lx (rk ws) (nr ws) (p (mid + m - 1 - (i + j) / 2)) (p ((i + j) / 2))) := fun k hk => by
        rw [IL_rd _ _ _ (by omega), IL_rd _ _ _ (by omega)]
        exact cmpS ws k _ _ hk (hr _ (by omega) (by omega)) (hr _ (by omega) (by omega))
      by_cases hs : lt (rk ws) (nr ws) (p (mid + m - 1 - (i + j) / 2)) (p ((i + j) / 2))
      · obtain ⟨c, s, g1, g2, g3, g4, g5⟩ := ih i ((i + j) / 2) (by omega) h2 (by omega) (by omega) h5 (fun t t1 t2 => by
          by_cases et : t = (i + j) / 2
          · rw [et]; exact hs
          · obtain ⟨q5, q6, q7, q8⟩ := hc t (by omega) t2
            exact lt_trans (lt_trans (o2 _ _ q7 (by omega) q4) hs) (o1 _ t q1 (by omega) q6))
        refine ⟨c, s + 1, g1, g2, g3, g4, fun k hk => ?_⟩
        have g := g5 k hk
        generalize hks : k + s = ks at g
        rw [show k + (s + 1) = ks + 1 by omega]
        simp only [slices_symMergeCmpFunc_int.l4]
        rw [if_pos (by omega), half i j (by omega) (by omega), subN (mid + m - 1) ((i + j) / 2) (by omega) (by omega), IL_len, if_pos (by omega), if_pos (by omega), if_pos (by omega), if_pos (by omega), hcm ks (by omega), bs, if_pos (hx1.mpr hs)]
        exact g
      · have hs2 : lt (rk ws) (nr ws) (p ((i + j) / 2)) (p (mid + m - 1 - (i + j) / 2)) := by
          rcases lt_total (rk := rk ws) (nr := nr ws) (a := p (mid + m - 1 - (i + j) / 2)) (b := p ((i + j) / 2)) (by have := hx _ _ q1 q2 q3 q4; omega) with k | k
          · exact absurd k hs
          · exact k
        obtain ⟨c, s, g1, g2, g3, g4, g5⟩ := ih ((i + j) / 2 + 1) j (by omega) (by omega) (by omega) h4 (fun t t1 t2 => by
          by_cases et : t = (i + j) / 2
          · rw [et]; exact hs2
          · obtain ⟨q5, q6, q7, q8⟩ := hc t t1 (by omega)
            exact lt_trans (lt_trans (o1 t _ q5 (by omega) q2) hs2) (o2 _ _ q3 (by omega) q8)) h6
        refine ⟨c, s + 1, g1, g2, g3, g4, fun k hk => ?_⟩
        have g := g5 k hk
        generalize hks : k + s = ks at g
        rw [show k + (s + 1) = ks + 1 by omega]
        simp only [slices_symMergeCmpFunc_int.l4]
        rw [if_pos (by omega), half i j (by omega) (by omega), subN (mid + m - 1) ((i + j) / 2) (by omega) (by omega), IL_len, if_pos (by omega), if_pos (by omega), if_pos (by omega), if_pos (by omega), hcm ks (by omega), bs, if_neg (fun h => hs (hx1.mp h)), oneN _ (by omega)]
        exact g
    · obtain rfl : i = j := by omega
      refine ⟨i, 1, h2, h4, h5, h6, fun k hk => ?_⟩
      simp only [slices_symMergeCmpFunc_int.l4]
      rw [if_neg (by omega)]

/-- what a merge brings about -/
def Merges (a m b : Nat) : Prop := ∀ p : Nat → Nat, Od (rk ws) (nr ws) p a m → Od (rk ws) (nr ws) p m b → (∀ s t, a ≤ s → s < m → m ≤ t → t < b → p s < p t) → (∀ t, a ≤ t → t < b → p t < ws.length) →
  ∃ q, Pm a b p q ∧ Od (rk ws) (nr ws) q a b ∧ ∃ K, ∀ k, K ≤ k → slices_symMergeCmpFunc_int.f k (IL ws.length p) a m b ws = some (IL ws.length q)
omit hn in
/-- .. or nothing, where one of the two stretches is empty -/
theorem part (a m b : Nat) (h1 : a ≤ m) (h2 : m ≤ b) (H : a < m → m < b → Merges ws a m b) (p : Nat → Nat) (o1 : Od (rk ws) (nr ws) p a m) (o2 : Od (rk ws) (nr ws) p m b) (hx : ∀ s t, a ≤ s → s < m → m ≤ t → t < b → p s < p t) (hr : ∀ t, a ≤ t → t < b → p t < ws.length) :
    ∃ q, Pm a b p q ∧ Od (rk ws) (nr ws) q a b ∧ ∃ K, (a < m → m < b → ∀ k, K ≤ k → slices_symMergeCmpFunc_int.f k (IL ws.length p) a m b ws = some (IL ws.length q)) ∧ (¬ (a < m ∧ m < b) → q = p) := by
  by_cases e : a < m ∧ m < b
  · obtain ⟨q, g1, g2, K, g3⟩ := H e.1 e.2 p o1 o2 hx hr
    exact ⟨q, g1, g2, K, fun _ _ => g3, fun h => absurd e h⟩
  · refine ⟨p, Pm.refl _ _ _, fun s t s1 s2 s3 => ?_, 0, fun h k => absurd ⟨h, k⟩ e, fun _ => rfl⟩
    by_cases e2 : a = m
    · exact o2 s t (by omega) s2 s3
    · exact o1 s t s1 s2 (by omega)

theorem merges (N : Nat) : ∀ a m b, b - a ≤ N → a < m → m < b → b ≤ ws.length → Merges ws a m b := by
  induction N with
  | zero => intro a m b h1 h2 h3; omega
  | succ N ih =>
    intro a m b hN ham hmb hb p o1 o2 hx hr
    by_cases c1 : m - a = 1
    · obtain rfl : m = a + 1 := by omega
      obtain ⟨c, s, g1, g2, g3, g4, g5⟩ := find1 ws hn a b p hb (by omega) o2 (fun t t1 t2 => hx a t (Nat.le_refl _) (by omega) t1 t2) hr (b - (a + 1)) (a + 1) b (by omega) (Nat.le_refl _) (by omega) (Nat.le_refl _) (fun t t1 t2 => by omega) (fun t t1 t2 => by omega)
      refine ⟨fun u => p (ro a (a + 1) c u), ⟨_, (ro_sg a (a + 1) c (by omega) g1).wider (Nat.le_refl _) g2, rfl⟩, od_ro (Nat.le_refl _) (by omega) g1 g2 o1 o2 (fun x y x1 x2 y1 y2 => ?_) (fun x y x1 x2 y1 y2 => by omega) (fun x y x1 x2 y1 y2 => ?_) (fun x y x1 x2 y1 y2 => by omega), 3 + s + c + 10, fun k hk => ?_⟩
      · rw [show y = a by omega]; exact g3 x x1 x2
      · rw [show x = a by omega]; exact g4 y y1 y2
      · obtain ⟨k, rfl⟩ : ∃ j, k = j + (c - (a + 1)) + 1 + s + 1 := ⟨k - (c - (a + 1)) - s - 2, by omega⟩
        have h1 := g5 (k + (c - (a + 1)) + 1) (by omega)
        have h2 := carry1 ws hn a c p (by omega) (c - (a + 1)) k a (Nat.le_refl _) (by omega)
        rw [show (fun u => p (ro a (a + 1) (a + 1) u)) = p from by rw [ro_right]] at h2
        generalize hks : k + (c - (a + 1)) + 1 + s = ks at h1
        simp only [slices_symMergeCmpFunc_int.f]
        rw [subN (a + 1) a (by omega) (by omega), if_pos (by omega)]
        exact h1.trans h2
    · by_cases c2 : b - m = 1
      · obtain rfl : b = m + 1 := by omega
        obtain ⟨c, s, g1, g2, g3, g4, g5⟩ := find2 ws hn a m p hb o1 (fun t t1 t2 => hx t m t1 t2 (Nat.le_refl _) (by omega)) hr (m - a) a m (by omega) (Nat.le_refl _) (by omega) (Nat.le_refl _) (fun t t1 t2 => by omega) (fun t t1 t2 => by omega)
        refine ⟨fun u => p (ro c m (m + 1) u), ⟨_, (ro_sg c m (m + 1) g2 (by omega)).wider g1 (Nat.le_refl _), rfl⟩, od_ro g1 g2 (by omega) (Nat.le_refl _) o1 o2 (fun x y x1 x2 y1 y2 => ?_) (fun x y x1 x2 y1 y2 => ?_) (fun x y x1 x2 y1 y2 => by omega) (fun x y x1 x2 y1 y2 => by omega), 3 + s + m + 10, fun k hk => ?_⟩
        · rw [show x = m by omega]; exact g4 y y1 y2
        · rw [show y = m by omega]; exact g3 x x1 x2
        · obtain ⟨k, rfl⟩ : ∃ j, k = j + (m - c) + 1 + s + 1 := ⟨k - (m - c) - s - 2, by omega⟩
          have h1 := g5 (k + (m - c) + 1) (by omega)
          have h2 := carry2 ws hn c m p hb (m - c) k m (Nat.le_refl _) (by omega)
          rw [show (fun u => p (ro m m (m + 1) u)) = p from by rw [ro_left]] at h2
          generalize hks : k + (m - c) + 1 + s = ks at h1
          simp only [slices_symMergeCmpFunc_int.f]
          rw [subN m a (by omega) (by omega), if_neg (by omega), subN (m + 1) m (by omega) (by omega), if_pos (by omega)]
          exact h1.trans h2
      · -- the middle
        obtain ⟨mid, hmid⟩ : ∃ x, x = (a + b) / 2 := ⟨_, rfl⟩
        obtain ⟨s0, hs0⟩ : ∃ x, x = (if mid < m then mid + m - b else a) := ⟨_, rfl⟩
        obtain ⟨r0, hr0⟩ : ∃ x, x = (if mid < m then mid else m) := ⟨_, rfl⟩
        have hsr : a ≤ s0 ∧ s0 ≤ r0 ∧ r0 ≤ m ∧ r0 ≤ mid := by
          rw [hs0, hr0]
          by_cases e : mid < m
          · rw [if_pos e, if_pos e]; omega
          · rw [if_neg e, if_neg e]; omega
        have hin : ∀ t, s0 ≤ t → t < r0 → a ≤ t ∧ t < m ∧ m ≤ mid + m - 1 - t ∧ mid + m - 1 - t < b := fun t t1 t2 => by
          rw [hs0] at t1
          rw [hr0] at t2
          by_cases e : mid < m
          · rw [if_pos e] at t1 t2; omega
          · rw [if_neg e] at t1 t2; omega
        obtain ⟨c, s, g1, g2, g3, g4, g5⟩ := find3 ws hn a m b mid s0 r0 p hb o1 o2 hx hr (by omega) (by omega) hin (by omega) (r0 - s0) s0 r0 (by omega) (Nat.le_refl _) hsr.2.1 (Nat.le_refl _) (fun t t1 t2 => by omega) (fun t t1 t2 => by omega)
        obtain ⟨e, he⟩ : ∃ x, x = mid + m - c := ⟨_, rfl⟩
        have hce : a ≤ c ∧ c ≤ m ∧ c ≤ mid ∧ m ≤ e ∧ mid ≤ e ∧ e ≤ b ∧ a ≤ mid ∧ mid ≤ b ∧ c + (e - m) = mid := by
          have : e ≤ b := by
            rw [he]
            by_cases k : mid < m
            · rw [if_pos k] at hs0; omega
            · omega
          omega
        obtain ⟨k1, k2, k3, k4, k5, k6, k7, k8, k9⟩ := hce
        -- all of the lower half ahead of all of the upper half
        have X1 : Ah (rk ws) (nr ws) p a c c m := fun x y x1 x2 y1 y2 => o1 x y x1 (by omega) y2
        have X2 : Ah (rk ws) (nr ws) p a c e b := fun x y x1 x2 y1 y2 => by
          by_cases q : s0 < c
          · have h := g3 (c - 1) (by omega) (by omega)
            rw [show mid + m - 1 - (c - 1) = e by omega] at h
            have h7 : lt (rk ws) (nr ws) (p x) (p e) := by
              by_cases u : x = c - 1
              · rw [u]; exact h
              · exact lt_trans (o1 x (c - 1) x1 (by omega) (by omega)) h
            by_cases v : y = e
            · rw [v]; exact h7
            · exact lt_trans h7 (o2 e y k4 (by omega) y2)
          · exfalso
            by_cases k : mid < m
            · rw [if_pos k] at hs0; omega
            · rw [if_neg k] at hs0; omega
        have X3 : Ah (rk ws) (nr ws) p m e c m := fun x y x1 x2 y1 y2 => by
          by_cases q : c < r0
          · have h := g4 c (Nat.le_refl _) q
            rw [show mid + m - 1 - c = e - 1 by omega] at h
            have h7 : lt (rk ws) (nr ws) (p x) (p c) := by
              by_cases u : x = e - 1
              · rw [u]; exact h
              · exact lt_trans (o2 x (e - 1) x1 (by omega) (by omega)) h
            by_cases v : y = c
            · rw [v]; exact h7
            · exact lt_trans h7 (o1 c y k1 (by omega) y2)
          · exfalso
            by_cases k : mid < m
            · rw [if_pos k] at hr0; omega
            · rw [if_neg k] at hr0; omega
        have X4 : Ah (rk ws) (nr ws) p m e e b := fun x y x1 x2 y1 y2 => o2 x y x1 (by omega) y2
        obtain ⟨q0, hq0⟩ : ∃ q : Nat → Nat, q = fun t => p (ro c m e t) := ⟨_, rfl⟩
        have f1 : ∀ t, t < c → q0 t = p t := fun t h => by rw [hq0]; show p (ro c m e t) = _; rw [ro1 c m e t (.inl h)]
        have f2 : ∀ t, c ≤ t → t < mid → q0 t = p (t + (m - c)) := fun t h h2 => by rw [hq0]; show p (ro c m e t) = _; rw [ro2 c m e t h (by omega)]
        have f3 : ∀ t, mid ≤ t → t < e → q0 t = p (t - (e - m)) := fun t h h2 => by rw [hq0]; show p (ro c m e t) = _; rw [ro3 c m e t (by omega) h2]
        have f4 : ∀ t, e ≤ t → q0 t = p t := fun t h => by rw [hq0]; show p (ro c m e t) = _; rw [ro1 c m e t (.inr ⟨h, k2, k4⟩)]
        have hP0 : Pm a b p q0 := ⟨_, (ro_sg c m e k2 k4).wider k1 k6, hq0⟩
        have hAh : Ah (rk ws) (nr ws) q0 a mid mid b := fun x y x1 x2 y1 y2 => by
          by_cases ex : x < c
          · rw [f1 x ex]
            by_cases ey : y < e
            · rw [f3 y y1 ey]; exact X1 _ _ x1 ex (by omega) (by omega)
            · rw [f4 y (by omega)]; exact X2 _ _ x1 ex (by omega) y2
          · rw [f2 x (by omega) x2]
            by_cases ey : y < e
            · rw [f3 y y1 ey]; exact X3 _ _ (by omega) (by omega) (by omega) (by omega)
            · rw [f4 y (by omega)]; exact X4 _ _ (by omega) (by omega) (by omega) y2
        have hr0' : ∀ t, a ≤ t → t < b → q0 t < ws.length := fun t t1 t2 => by
          obtain ⟨u, u1, u2, u3⟩ := hP0.from_ t t1 t2
          rw [u3]; exact hr u u1 u2
        -- the lower half
        obtain ⟨q1, m1, m2, K1, m3, m4⟩ := part ws a c mid k1 k3 (fun u v => ih a c mid (by omega) u v (by omega)) q0
          (fun x y x1 x2 x3 => by rw [f1 x (by omega), f1 y x3]; exact o1 x y x1 x2 (by omega))
          (fun x y x1 x2 x3 => by rw [f2 x x1 (by omega), f2 y (by omega) x3]; exact o2 _ _ (by omega) (by omega) (by omega))
          (fun x y x1 x2 y1 y2 => by rw [f1 x x2, f2 y y1 y2]; exact hx _ _ x1 (by omega) (by omega) (by omega))
          (fun t t1 t2 => hr0' t t1 (by omega))
        have n1 : ∀ t, mid ≤ t → q1 t = q0 t := fun t h => m1.out t (.inr h)
        -- the upper half
        obtain ⟨q2, l1, l2, K2, l3, l4⟩ := part ws mid e b k5 k6 (fun u v => ih mid e b (by omega) u v hb) q1
          (fun x y x1 x2 x3 => by rw [n1 x x1, n1 y (by omega), f3 x x1 (by omega), f3 y (by omega) x3]; exact o1 _ _ (by omega) (by omega) (by omega))
          (fun x y x1 x2 x3 => by rw [n1 x (by omega), n1 y (by omega), f4 x x1, f4 y (by omega)]; exact o2 _ _ (by omega) x2 x3)
          (fun x y x1 x2 y1 y2 => by rw [n1 x x1, n1 y (by omega), f3 x x1 x2, f4 y y1]; exact hx _ _ (by omega) (by omega) (by omega) y2)
          (fun t t1 t2 => by rw [n1 t t1]; exact hr0' t (by omega) t2)
        refine ⟨q2, hP0.trans ((m1.wider (Nat.le_refl _) k8).trans (l1.wider k7 (Nat.le_refl _))), fun x y x1 x2 x3 => ?_, 2 * ws.length + K1 + K2 + s + 100, fun k hk => ?_⟩
        · by_cases ex : y < mid
          · rw [l1.out x (.inl (by omega)), l1.out y (.inl ex)]; exact m2 x y x1 x2 ex
          · by_cases ey : mid ≤ x
            · exact l2 x y ey x2 x3
            · obtain ⟨u, u1, u2, u3⟩ := m1.from_ x x1 (by omega)
              obtain ⟨v, v1, v2, v3⟩ := l1.from_ y (by omega) x3
              rw [l1.out x (.inl (by omega)), u3, v3, n1 v v1]
              exact hAh u v u1 u2 v1 v2
        · obtain ⟨k, rfl⟩ : ∃ j, k = j + 1 + 1 + 1 + s + 1 + 1 := ⟨k - s - 5, by omega⟩
          have h1 := g5 (k + 1 + 1 + 1) (by omega)
          have h8 : wrap64 (((mid + m : Nat) : Int) - (c : Int)) = (e : Int) := by rw [subN (mid + m) c (by omega) (by omega), he]
          rw [h8] at h1
          -- behind the exchange
          have h2 : slices_symMergeCmpFunc_int.j7 (k + 1 + 1) (IL ws.length q0) a b ws mid c e = some (IL ws.length q2) := by
            have h3 : ∀ fl : Bool, (fl = true ↔ (a < c ∧ c < mid)) → slices_symMergeCmpFunc_int.j8 (k + 1) (IL ws.length q0) a b ws mid c e fl = some (IL ws.length q2) := fun fl hfl => by
              have tail : ∀ z : Nat → Nat, z = q1 → (if (mid : Int) < (e : Int) then (if (e : Int) < (b : Int) then ((slices_symMergeCmpFunc_int.f k (IL ws.length z) mid e b ws).bind fun t => some t) else some (IL ws.length z)) else some (IL ws.length z)) = some (IL ws.length q2) := fun z hz => by
                subst hz
                by_cases y1 : mid < e
                · rw [if_pos (by omega)]
                  by_cases y2 : e < b
                  · rw [if_pos (by omega), l3 y1 y2 k (by omega), bs]
                  · rw [if_neg (by omega), l4 (by omega)]
                · rw [if_neg (by omega), l4 (by omega)]
              simp only [slices_symMergeCmpFunc_int.j8]
              by_cases y : fl = true
              · rw [if_pos y]
                have y2 := hfl.mp y
                rw [m3 y2.1 y2.2 k (by omega), bs]
                exact tail q1 rfl
              · rw [if_neg y]
                exact tail q0 (m4 (fun h => y (hfl.mpr h))).symm
            simp only [slices_symMergeCmpFunc_int.j7]
            by_cases y : a < c
            · rw [if_pos (by omega)]
              exact h3 _ (by rw [decide_eq_true_iff]; omega)
            · rw [if_neg (by omega)]
              exact h3 false ⟨fun h => absurd h (by decide), fun h => absurd h.1 y⟩
          have h4 : ∀ fl : Bool, (fl = true ↔ (c < m ∧ m < e)) → slices_symMergeCmpFunc_int.j6 (k + 1 + 1 + 1) (IL ws.length p) a m b ws mid c e fl = some (IL ws.length q2) := fun fl hfl => by
            generalize hkk : k + 1 + 1 = kk at h2 ⊢
            simp only [slices_symMergeCmpFunc_int.j6]
            by_cases y : fl = true
            · have y2 := hfl.mp y
              rw [if_pos y, rotate ws hn p c m e y2.1 y2.2 (by omega) kk (by omega), bs]
              rw [hq0] at h2
              exact h2
            · rw [if_neg y]
              have e0 : q0 = p := by
                rw [hq0]
                by_cases z : c = m
                · rw [z, ro_left]
                · have : m = e := by
                    rcases Nat.lt_or_ge m e with w | w
                    · exact absurd (hfl.mpr ⟨by omega, w⟩) y
                    · omega
                  rw [← this, ro_right]
              rw [e0] at h2
              exact h2
          have h5 : slices_symMergeCmpFunc_int.l4 (k + 1 + 1 + 1 + s) (IL ws.length p) a m b ws mid (mid + m : Nat) s0 r0 (mid + m - 1 : Nat) = some (IL ws.length q2) := by
            rw [h1]
            by_cases y : c < m
            · rw [if_pos (by omega)]
              exact h4 _ (by rw [decide_eq_true_iff]; omega)
            · rw [if_neg (by omega)]
              exact h4 false ⟨fun h => absurd h (by decide), fun h => absurd h.1 y⟩
          generalize hks : k + 1 + 1 + 1 + s = ks at h5
          have h6 : slices_symMergeCmpFunc_int.j4 (ks + 1) (IL ws.length p) a m b ws mid (mid + m : Nat) s0 r0 = some (IL ws.length q2) := by
            simp only [slices_symMergeCmpFunc_int.j4]
            rw [preN (mid + m) (by omega) (by omega)]
            exact h5
          generalize hkt : ks + 1 = kt at h6
          simp only [slices_symMergeCmpFunc_int.f]
          rw [subN m a (by omega) (by omega), if_neg (by omega), subN b m (by omega) (by omega), if_neg (by omega), half a b (by omega) (by omega), ← hmid, addN mid m (by omega) (by omega)]
          by_cases y : mid < m
          · rw [if_pos (by omega), subN (mid + m) b (by omega) (by omega)]
            rw [hs0, if_pos y, hr0, if_pos y] at h6
            exact h6
          · rw [if_neg (by omega)]
            rw [hs0, if_neg y, hr0, if_neg y] at h6
            exact h6
end

/-- the sort of at most 40 -/
theorem sorted40 (ws : List S46) (hn : ws.length ≤ 40) : ∃ p, Srt (rk ws) (nr ws) (fun t => t) p 0 ws.length ∧ ∃ K, ∀ k, K ≤ k → slices_SortStableFunc_int_int.f k (IL ws.length fun t => t) ws = some (IL ws.length p) := by
  by_cases h20 : ws.length ≤ 20
  · obtain ⟨p, h1, h2⟩ := sorted20 ws h20
    exact ⟨p, h1, 30000, h2⟩
  · obtain ⟨p1, a1, a2⟩ := insertion ws (by omega) (fun t => t) 0 20 (by omega) (by omega) (fun t _ _ => rfl)
    have r1 : ∀ t, 20 ≤ t → p1 t = t := fun t h => a1.rest t (.inr h)
    obtain ⟨p2, b1, b2⟩ := insertion ws (by omega) p1 20 ws.length (by omega) (by omega) (fun t h _ => r1 t h)
    have r2 : ∀ t, t < 20 → p2 t = p1 t := fun t h => b1.rest t (.inl h)
    have cross : ∀ s t, 0 ≤ s → s < 20 → 20 ≤ t → t < ws.length → p2 s < p2 t := fun s t _ h2 h3 h4 => by
      have u := a1.lo s (by omega) h2
      have v := b1.lo t h3 h4
      rw [r2 s h2]; omega
    have low : ∀ t, 0 ≤ t → t < ws.length → p2 t < ws.length := fun t _ h2 => by
      by_cases e : t < 20
      · rw [r2 t e]; have := a1.lo t (by omega) e; omega
      · exact (b1.lo t (by omega) h2).2
    obtain ⟨q, c1, c2, K, c3⟩ := merges ws (by omega) ws.length 0 20 ws.length (by omega) (by omega) (by omega) (Nat.le_refl _) p2
      (fun s t h1 h2 h3 => by rw [r2 s (by omega), r2 t h3]; exact a1.srt s t h1 h2 h3) (fun s t h1 h2 h3 => b1.srt s t h1 h2 h3) cross low
    have e20 : ((20 : Nat) : Int) = 20 := rfl
    have e0 : ((0 : Nat) : Int) = 0 := rfl
    refine ⟨q, ⟨fun t h1 h2 => ?_, fun s t h1 h2 h3 h4 e => ?_, c2, fun t ht => ?_⟩, K + 100000, fun k hk => ?_⟩
    · obtain ⟨s, s1, s2, s3⟩ := c1.from_ t h1 h2
      rw [s3]; exact ⟨by omega, low s s1 s2⟩
    · obtain ⟨g, hg, rfl⟩ := c1
      have is := hg.ins s h1 h2
      have it := hg.ins t h3 h4
      have inj2 : ∀ x y, x < ws.length → y < ws.length → p2 x = p2 y → x = y := fun x y hx hy e => by
        by_cases u : x < 20
        · by_cases v : y < 20
          · rw [r2 x u, r2 y v] at e; exact a1.inj x y (by omega) u (by omega) v e
          · have := cross x y (by omega) u (by omega) hy; omega
        · by_cases v : y < 20
          · have := cross y x (by omega) v (by omega) hx; omega
          · exact b1.inj x y (by omega) hx (by omega) hy e
      exact hg.inj s t (inj2 _ _ is.2 it.2 e)
    · rw [c1.out t (by omega), b1.rest t (by omega), r1 t (by omega)]
    · obtain ⟨k, rfl⟩ : ∃ m, k = m + 10 := ⟨k - 10, by omega⟩
      unfold slices_SortStableFunc_int_int.f slices_stableCmpFunc_int.f
      rw [IL_len]
      have i1 := fun k hk => a2 k hk
      have i2 := fun k hk => b2 k hk
      have i3 := fun k hk => c3 k hk
      simp only [e0, e20] at i1 i2 i3
      have w1 : wrap64 (20 + 20) = 40 := by decide +kernel
      have w2 : wrap64 (2 * 20) = 40 := by decide +kernel
      have w3 : wrap64 (0 + 20) = 20 := by decide +kernel
      have w4 : wrap64 (20 * 2) = 40 := by decide +kernel
      have w5 : wrap64 (40 + 20) = 60 := by decide +kernel
      have w6 : wrap64 (40 + 40) = 80 := by decide +kernel
      generalize hk9 : k + 9 = k9
      rw [show k + 10 = k9 + 1 by omega]
      simp only [slices_stableCmpFunc_int.l0]
      rw [if_pos (by omega), i1 k9 (by omega), bs, w1]
      obtain ⟨k8, rfl⟩ : ∃ m, k9 = m + 1 := ⟨k9 - 1, by omega⟩
      simp only [slices_stableCmpFunc_int.l0]
      by_cases e40 : ws.length = 40
      · have e : (40 : Int) = ((ws.length : Nat) : Int) := by omega
        rw [if_pos (by omega), w5]
        rw [e, i2 k8 (by omega), bs, ← e]
        obtain ⟨k7, rfl⟩ : ∃ m, k8 = m + 1 := ⟨k8 - 1, by omega⟩
        obtain ⟨p3, d1, d2⟩ := insertion ws (by omega) p2 ws.length ws.length (Nat.le_refl _) (Nat.le_refl _) (fun t a b => by omega)
        have e3 : IL ws.length p3 = IL ws.length p2 := L_congr fun t ht => by rw [d1.rest t (.inl ht)]
        simp only [slices_stableCmpFunc_int.l0]
        rw [if_neg (by omega)]
        have d3 := d2 k7 (by omega)
        rw [← e] at d3
        rw [d3, bs, e3]
        obtain ⟨k6, rfl⟩ : ∃ m, k7 = m + 1 := ⟨k7 - 1, by omega⟩
        simp only [slices_stableCmpFunc_int.l1]
        rw [if_pos (by omega), w2]
        obtain ⟨k5, rfl⟩ : ∃ m, k6 = m + 1 := ⟨k6 - 1, by omega⟩
        simp only [slices_stableCmpFunc_int.l2]
        have d4 := i3 k5 (by omega)
        rw [← e] at d4
        rw [if_pos (by omega), w3, d4, bs, w2, w6]
        obtain ⟨k4, rfl⟩ : ∃ m, k5 = m + 1 := ⟨k5 - 1, by omega⟩
        simp only [slices_stableCmpFunc_int.l2]
        rw [if_neg (by omega), w5, if_neg (by omega), w4]
        obtain ⟨k3, rfl⟩ : ∃ m, k4 = m + 1 := ⟨k4 - 1, by omega⟩
        simp only [slices_stableCmpFunc_int.l1]
        rw [if_neg (by omega), bs]
      · rw [if_neg (by omega), i2 k8 (by omega), bs]
        obtain ⟨k6, rfl⟩ : ∃ m, k8 = m + 1 := ⟨k8 - 1, by omega⟩
        simp only [slices_stableCmpFunc_int.l1]
        rw [if_pos (by omega), w2]
        obtain ⟨k5, rfl⟩ : ∃ m, k6 = m + 1 := ⟨k6 - 1, by omega⟩
        simp only [slices_stableCmpFunc_int.l2]
        rw [if_neg (by omega), w3, if_pos (by omega), i3 k5 (by omega), bs, w4]
        obtain ⟨k3, rfl⟩ : ∃ m, k5 = m + 1 := ⟨k5 - 1, by omega⟩
        simp only [slices_stableCmpFunc_int.l1]
        rw [if_neg (by omega), bs]

end Go.Proofs.Ytcehifhfgpodoaa.CorePurseAll
