/- Who gets how much: as the document's answer has it. No condition. -/
import Derived.Test.YtcehifhfgpodoaaPPurseAllx9
import Derived.Test.YtcehifhfgpodoaaCoreMPurseAll
namespace Go.Proofs.Ytcehifhfgpodoaa.Pure
open Go.RowKit Go.Proofs.Ytcehifhfgpodoaa.PPurseAll Go.Proofs.Ytcehifhfgpodoaa.CorePurseAll Go.Proofs.Ytcehifhfgpodoaa.Plain Go.Proofs.Ytcehifhfgpodoaa.Help Go.Proofs.YtcehifhfgpodoaaW.PrintWords Go.Proofs.YtcehifhfgpodoaaW.PrintLast Go.Proofs.YtcehifhfgpodoaaW.PrintMore
set_option linter.unusedVariables false
namespace PAll

theorem weight_eq (a : Int) : girandoleref21_weight.f a = some (weigh a) := by
  unfold girandoleref21_weight.f
  rw [bs, show (([8, 4, 2, 1] : List Int).length : Int) = 4 from rfl]
  unfold weigh
  by_cases h0 : a ≤ 0
  · rw [if_pos h0, show mx a 0 = 0 by unfold mx; split <;> omega]; decide +kernel
  · rw [if_neg h0]
    by_cases h1 : a = 1
    · subst h1; decide +kernel
    · rw [if_neg h1]
      by_cases h2 : a = 2
      · subst h2; decide +kernel
      · rw [if_neg h2, show mx a 0 = a by unfold mx; split <;> omega, show mn a 3 = 3 by unfold mn; split <;> omega]; decide +kernel
theorem mn_comm (a b : Int) : mn a b = mn b a := by unfold mn; split <;> split <;> omega

/-- who was asked in the first j rounds -/
def dn (p : Nat → Nat) (j t : Nat) : Bool := (List.range j).any fun s => p s == t
theorem dn_iff (p : Nat → Nat) (j t : Nat) : dn p j t = true ↔ ∃ s, s < j ∧ p s = t := by unfold dn; simp
section
variable (ws : List S46)
theorem better_eq (i a : Nat) : girandoleref21_better.f (rd_T46 ws (i : Int)).f0 (rd_T46 ws (i : Int)).f1 (rd_T46 ws (i : Int)).f2 (rd_T46 ws (a : Int)).f0 (rd_T46 ws (a : Int)).f1 (rd_T46 ws (a : Int)).f2 i a = some true ∧ lt (rk ws) (nr ws) i a ∨
    girandoleref21_better.f (rd_T46 ws (i : Int)).f0 (rd_T46 ws (i : Int)).f1 (rd_T46 ws (i : Int)).f2 (rd_T46 ws (a : Int)).f0 (rd_T46 ws (a : Int)).f1 (rd_T46 ws (a : Int)).f2 i a = some false ∧ ¬ lt (rk ws) (nr ws) i a := by
  unfold girandoleref21_better.f
  show (if rk ws i = rk ws a then (if nr ws i = nr ws a then some (decide ((i : Int) < (a : Int))) else some (decide (nr ws i < nr ws a))) else some (decide (rk ws i < rk ws a))) = _ ∧ _ ∨ (if rk ws i = rk ws a then (if nr ws i = nr ws a then some (decide ((i : Int) < (a : Int))) else some (decide (nr ws i < nr ws a))) else some (decide (rk ws i < rk ws a))) = _ ∧ _
  unfold lt
  by_cases e1 : rk ws i = rk ws a
  · rw [if_pos e1]
    by_cases e2 : nr ws i = nr ws a
    · rw [if_pos e2]
      by_cases e3 : i < a
      · exact .inl ⟨by rw [decide_eq_true (by omega)], by omega⟩
      · exact .inr ⟨by rw [decide_eq_false (by omega)], by omega⟩
    · rw [if_neg e2]
      by_cases e3 : nr ws i < nr ws a
      · exact .inl ⟨by rw [decide_eq_true e3], by omega⟩
      · exact .inr ⟨by rw [decide_eq_false e3], by omega⟩
  · rw [if_neg e1]
    by_cases e3 : rk ws i < rk ws a
    · exact .inl ⟨by rw [decide_eq_true e3], by omega⟩
    · exact .inr ⟨by rw [decide_eq_false e3], by omega⟩

variable (hn : ws.length ≤ 1000)
include hn
theorem ref0 (b B : Int) (d : Nat) : ∀ (k i : Nat), i + d = ws.length → girandoleref21_Split.l0 (k + d + 1) B ws (sm (we ws) i) i = girandoleref21_Split.l1 k B ws (sm (we ws) ws.length) B [] 0 := by
  induction d with
  | zero =>
    intro k i hi
    obtain rfl : i = ws.length := by omega
    simp only [girandoleref21_Split.l0]
    rw [if_neg (by omega)]
  | succ d ih =>
    intro k i hi
    have g := ih k (i + 1) (by omega)
    rw [Int.natCast_add, Int.natCast_one] at g
    generalize hks : k + d + 1 = ks at g
    have s0 := sm_nonneg (f := we ws) i (fun t ht => by have := weigh1 (rk ws t); unfold we; omega)
    have s1 := sm_bd (f := we ws) 8 i (fun t ht => weigh8 _)
    have s2 := weigh1 (rk ws i)
    have s3 := weigh8 (rk ws i)
    simp only [girandoleref21_Split.l0]
    rw [if_pos (by omega), if_pos (by omega), weight_eq, bs, w64 (n := (i : Int) + 1) (by omega) (by omega)]
    have e : sm (we ws) (i + 1) = sm (we ws) i + weigh (rd_T46 ws (i : Int)).f1 := rfl
    rw [w64 (n := sm (we ws) i + weigh (rd_T46 ws (i : Int)).f1) (by show _ ≤ sm (we ws) i + weigh (rk ws i); omega) (by show sm (we ws) i + weigh (rk ws i) < _; omega), ← e]
    exact g

theorem ref1 (b : Int) (d : Nat) : ∀ (k i : Nat), i + d = ws.length →
    girandoleref21_Split.l1 (k + d + 1) (clip b) ws (sm (we ws) ws.length) (clip b - sm (o ws b) i) (L i (o ws b)) i = girandoleref21_Split.l2 k ws (clip b - sm (o ws b) ws.length) (L ws.length (o ws b)) (L ws.length fun _ => false) 0 := by
  induction d with
  | zero =>
    intro k i hi
    obtain rfl : i = ws.length := by omega
    simp only [girandoleref21_Split.l1]
    rw [if_neg (by omega), if_pos (by omega), Int.toNat_natCast, if_pos (by omega), L_rep]
  | succ d ih =>
    intro k i hi
    have g := ih k (i + 1) (by omega)
    rw [Int.natCast_add, Int.natCast_one] at g
    generalize hks : k + d + 1 = ks at g
    have s0 := sm_nonneg (f := we ws) ws.length (fun t ht => by have := weigh1 (rk ws t); unfold we; omega)
    have s1 := sm_mono (f := we ws) (i + 1) (ws.length - (i + 1)) (fun t ht => by have := weigh1 (rk ws t); unfold we; omega)
    rw [show i + 1 + (ws.length - (i + 1)) = ws.length by omega] at s1
    have s2 := sm_nonneg (f := we ws) i (fun t ht => by have := weigh1 (rk ws t); unfold we; omega)
    have s3 : 1 ≤ we ws i := weigh1 _
    have s4 : we ws i ≤ 8 := weigh8 _
    have s5 : sm (we ws) (i + 1) = sm (we ws) i + we ws i := rfl
    have b0 := clip0 b
    have b1 := clip1 b
    have m0 : 0 ≤ clip b * we ws i := Int.mul_nonneg b0 (by omega)
    have m1 : clip b * we ws i ≤ clip b * 8 := Int.mul_le_mul_of_nonneg_left s4 b0
    have o1 := o_bd ws b i (by omega)
    have o2 := o_sum ws b i (by omega)
    have o3 := o_sum ws b (i + 1) (by omega)
    have o4 : sm (o ws b) (i + 1) = sm (o ws b) i + o ws b i := rfl
    have q0 : 0 ≤ clip b * we ws i / sm (we ws) ws.length := Int.ediv_nonneg m0 (by omega)
    have q1 : clip b * we ws i / sm (we ws) ws.length ≤ clip b * we ws i := Int.ediv_le_self _ m0
    have ev : mn (wrap64 (Int.tdiv (wrap64 (clip b * we ws i)) (sm (we ws) ws.length))) (by_ ws i) = o ws b i := by
      rw [w64 (n := clip b * we ws i) (by omega) (by omega), Int.tdiv_eq_ediv_of_nonneg m0, w64 (by omega) (by omega)]
      rfl
    simp only [girandoleref21_Split.l1]
    rw [if_pos (by omega), if_pos (by omega), weight_eq, bs, if_neg (by omega)]
    unfold girandoleref21_want.f
    rw [bs, L_len, if_pos (by omega)]
    show girandoleref21_Split.l1 ks (clip b) ws (sm (we ws) ws.length) (wrap64 (clip b - sm (o ws b) i - mn (wrap64 (Int.tdiv (wrap64 (clip b * we ws i)) (sm (we ws) ws.length))) (by_ ws i))) (L i (o ws b) ++ [mn (wrap64 (Int.tdiv (wrap64 (clip b * we ws i)) (sm (we ws) ws.length))) (by_ ws i)]) (wrap64 ((i : Int) + 1)) = _
    rw [ev, L_push, w64 (n := (i : Int) + 1) (by omega) (by omega), w64 (n := clip b - sm (o ws b) i - o ws b i) (by omega) (by omega), show clip b - sm (o ws b) i - o ws b i = clip b - sm (o ws b) (i + 1) by omega]
    exact g

/-- the best one so far -/
def Best (p : Nat → Nat) (j i : Nat) (x : Int) : Prop := (x = -1 ∧ ∀ t, t < i → dn p j t = true) ∨ ∃ m : Nat, x = m ∧ m < i ∧ dn p j m = false ∧ ∀ t, t < i → dn p j t = false → t = m ∨ lt (rk ws) (nr ws) m t
theorem search (p : Nat → Nat) (hs : Srt (rk ws) (nr ws) (fun t => t) p 0 ws.length) (j : Nat) (hj : j < ws.length) (X : Int) (F : Nat → Int) (d : Nat) : ∀ (k i : Nat) (x : Int), i + d = ws.length → Best ws p j i x →
    girandoleref21_Split.l3 (k + d + 1) ws X (L ws.length F) (L ws.length (dn p j)) j x i = girandoleref21_Split.l3 (k + 1) ws X (L ws.length F) (L ws.length (dn p j)) j (p j) ws.length := by
  induction d with
  | zero =>
    intro k i x hi h
    obtain rfl : i = ws.length := by omega
    have hpj : dn p j (p j) = false := by
      rw [Bool.eq_false_iff]
      intro h
      obtain ⟨s, s1, s2⟩ := (dn_iff p j (p j)).mp h
      have := hs.inj s j (by omega) (by omega) (by omega) hj s2
      omega
    have hlt := (hs.lo j (by omega) hj).2
    have e : x = (p j : Int) := by
      rcases h with ⟨h1, h2⟩ | ⟨m, h1, h2, h3, h4⟩
      · have := h2 (p j) hlt; rw [hpj] at this; exact absurd this (by decide)
      · rcases h4 (p j) hlt hpj with e | e
        · rw [h1, e]
        · exfalso
          obtain ⟨s, s1, s2⟩ := onto ws.length p (fun s t a b => hs.inj s t (by omega) a (by omega) b) (fun s a => (hs.lo s (by omega) a).2) m h2
          have hsj : ¬ s < j := fun h => by rw [(dn_iff p j m).mpr ⟨s, h, s2⟩] at h3; exact absurd h3 (by decide)
          by_cases e2 : s = j
          · rw [← s2, e2] at e; exact lt_irrefl _ e
          · have := hs.srt j s (by omega) (by omega) s1
            rw [s2] at this
            exact lt_irrefl _ (lt_trans e this)
    rw [e]
  | succ d ih =>
    intro k i x hi h
    have hi2 : i < ws.length := by omega
    have step : ∀ y, Best ws p j (i + 1) y → girandoleref21_Split.l3 (k + d + 1) ws X (L ws.length F) (L ws.length (dn p j)) j y ((i : Int) + 1) = girandoleref21_Split.l3 (k + 1) ws X (L ws.length F) (L ws.length (dn p j)) j (p j) ws.length := fun y hy => by
      have g := ih k (i + 1) y (by omega) hy
      rw [Int.natCast_add, Int.natCast_one] at g
      exact g
    have hrd : rdOf false (L ws.length (dn p j)) (i : Int) = dn p j i := by
      unfold rdOf
      rw [Int.toNat_natCast]
      exact L_getD _ _ _ i hi2
    generalize hks : k + d + 1 = ks at step
    rw [girandoleref21_Split.l3, if_pos (by omega), if_pos (by omega), L_len, if_pos (by omega), hrd, w64 (n := (i : Int) + 1) (by omega) (by omega)]
    by_cases hd : dn p j i = true
    · rw [if_pos hd]
      refine step x ?_
      rcases h with ⟨h1, h2⟩ | ⟨m, h1, h2, h3, h4⟩
      · exact .inl ⟨h1, fun t ht => by
          by_cases e : t = i
          · rw [e]; exact hd
          · exact h2 t (by omega)⟩
      · exact .inr ⟨m, h1, by omega, h3, fun t ht hdt => by
          by_cases e : t = i
          · rw [e, hd] at hdt; exact absurd hdt (by decide)
          · exact h4 t (by omega) hdt⟩
    · rw [if_neg hd]
      have hd' : dn p j i = false := by simpa using hd
      rcases h with ⟨h1, h2⟩ | ⟨m, h1, h2, h3, h4⟩
      · rw [if_pos (by omega)]
        exact step i (.inr ⟨i, rfl, by omega, hd', fun t ht hdt => by
          by_cases e : t = i
          · exact .inl e
          · have := h2 t (by omega); rw [hdt] at this; exact absurd this (by decide)⟩)
      · subst h1
        rw [if_neg (by omega), if_pos (by omega), if_pos (by omega)]
        rcases better_eq ws i m with ⟨e1, e2⟩ | ⟨e1, e2⟩
        · rw [e1, bs, if_pos rfl]
          exact step i (.inr ⟨i, rfl, by omega, hd', fun t ht hdt => by
            by_cases e : t = i
            · exact .inl e
            · rcases h4 t (by omega) hdt with u | u
              · rw [u]; exact .inr e2
              · exact .inr (lt_trans e2 u)⟩)
        · rw [e1, bs, if_neg Bool.false_ne_true]
          exact step m (.inr ⟨m, rfl, by omega, h3, fun t ht hdt => by
            by_cases e : t = i
            · rw [e]
              rcases lt_total (rk := rk ws) (nr := nr ws) (a := m) (b := i) (by omega) with u | u
              · exact .inr u
              · exact absurd u e2
            · exact h4 t (by omega) hdt⟩)

theorem ref2 (b : Int) (p : Nat → Nat) (hs : Srt (rk ws) (nr ws) (fun t => t) p 0 ws.length) (d : Nat) : ∀ (k j : Nat), j + d = ws.length → (ws.length + 2) * d < k →
    girandoleref21_Split.l2 k ws (st (by_ ws) (o ws b) (clip b - sm (o ws b) ws.length) p j).2 (L ws.length (st (by_ ws) (o ws b) (clip b - sm (o ws b) ws.length) p j).1) (L ws.length (dn p j)) j = some (L ws.length (fin ws b p)) := by
  have hp : ∀ s t, s < ws.length → t < ws.length → p s = p t → s = t := fun s t h1 h2 => hs.inj s t (by omega) h1 (by omega) h2
  have hr : ∀ s, s < ws.length → p s < ws.length := fun s h1 => (hs.lo s (by omega) h1).2
  have ho : ∀ t, t < ws.length → 0 ≤ o ws b t ∧ o ws b t ≤ by_ ws t := fun t ht => ⟨(o_bd ws b t ht).1, (o_bd ws b t ht).2.1⟩
  have hB : 0 ≤ clip b - sm (o ws b) ws.length := by have := o_sum ws b ws.length (Nat.le_refl _); omega
  have hB2 : clip b - sm (o ws b) ws.length ≤ 65536 := by have := o_sum ws b ws.length (Nat.le_refl _); have := clip1 b; omega
  induction d with
  | zero =>
    intro k j hj hk
    obtain rfl : j = ws.length := by omega
    obtain ⟨k, rfl⟩ : ∃ m, k = m + 1 := ⟨k - 1, by omega⟩
    simp only [girandoleref21_Split.l2]
    rw [if_neg (by omega)]
    rfl
  | succ d ih =>
    intro k j hj hk
    have hj2 : j < ws.length := by omega
    rw [Nat.mul_succ] at hk
    obtain ⟨k, rfl⟩ : ∃ m, k = m + ws.length + 1 + 1 := ⟨k - ws.length - 2, by omega⟩
    have g := ih k (j + 1) (by omega) (by omega)
    rw [Int.natCast_add, Int.natCast_one] at g
    have sr := search ws hn p hs j hj2 (st (by_ ws) (o ws b) (clip b - sm (o ws b) ws.length) p j).2 (st (by_ ws) (o ws b) (clip b - sm (o ws b) ws.length) p j).1 ws.length k 0 (-1) (by omega) (.inl ⟨rfl, fun t ht => by omega⟩)
    rw [Int.natCast_zero] at sr
    generalize hks : k + ws.length + 1 = ks at sr
    have a1 := st_left0 (c := by_ ws) (o := o ws b) hp hr ho hB j (by omega)
    have a2 := st_not (c := by_ ws) (o := o ws b) (B := clip b - sm (o ws b) ws.length) hp j (by omega) j hj2 (Nat.le_refl _)
    have a3 := gv0 (c := by_ ws) (o := o ws b) hp hr ho hB j hj2
    have a4 := st_left (c := by_ ws) (o := o ws b) (B := clip b - sm (o ws b) ws.length) hp j hj2
    have a5 := st_left0 (c := by_ ws) (o := o ws b) hp hr ho hB (j + 1) (by omega)
    have a6 := o_bd ws b (p j) (hr j hj2)
    have e1 : mn (st (by_ ws) (o ws b) (clip b - sm (o ws b) ws.length) p j).2 (wrap64 (by_ ws (p j) - rd (L ws.length (st (by_ ws) (o ws b) (clip b - sm (o ws b) ws.length) p j).1) (p j : Int))) = gv (by_ ws) (o ws b) (clip b - sm (o ws b) ws.length) p j := by
      rw [L_rd _ _ _ (hr j hj2), a2, w64 (by omega) (by omega), mn_comm]
      rfl
    simp only [girandoleref21_Split.l2]
    rw [if_pos (by omega), sr, girandoleref21_Split.l3, if_neg (by omega), if_pos (by omega), L_len, if_pos (by have := hr j hj2; omega), if_pos (by have := hr j hj2; omega)]
    unfold girandoleref21_want.f
    rw [bs, L_len, if_pos (by have := hr j hj2; omega), Int.toNat_natCast]
    show girandoleref21_Split.l2 k ws (wrap64 ((st (by_ ws) (o ws b) (clip b - sm (o ws b) ws.length) p j).2 - mn (st (by_ ws) (o ws b) (clip b - sm (o ws b) ws.length) p j).2 (wrap64 (by_ ws (p j) - rd (L ws.length (st (by_ ws) (o ws b) (clip b - sm (o ws b) ws.length) p j).1) (p j : Int))))) ((L ws.length (st (by_ ws) (o ws b) (clip b - sm (o ws b) ws.length) p j).1).set (p j) (wrap64 (rd (L ws.length (st (by_ ws) (o ws b) (clip b - sm (o ws b) ws.length) p j).1) (p j : Int) + mn (st (by_ ws) (o ws b) (clip b - sm (o ws b) ws.length) p j).2 (wrap64 (by_ ws (p j) - rd (L ws.length (st (by_ ws) (o ws b) (clip b - sm (o ws b) ws.length) p j).1) (p j : Int)))))) ((L ws.length (dn p j)).set (p j) true) (wrap64 ((j : Int) + 1)) = _
    rw [e1, L_rd _ _ _ (hr j hj2), a2, w64 (n := o ws b (p j) + gv (by_ ws) (o ws b) (clip b - sm (o ws b) ws.length) p j) (by omega) (by omega), w64 (n := (st (by_ ws) (o ws b) (clip b - sm (o ws b) ws.length) p j).2 - gv (by_ ws) (o ws b) (clip b - sm (o ws b) ws.length) p j) (by omega) (by omega), w64 (n := (j : Int) + 1) (by omega) (by omega), ← a4, L_set, L_set]
    rw [show (fun t => if t = p j then o ws b (p j) + gv (by_ ws) (o ws b) (clip b - sm (o ws b) ws.length) p j else (st (by_ ws) (o ws b) (clip b - sm (o ws b) ws.length) p j).1 t) = (st (by_ ws) (o ws b) (clip b - sm (o ws b) ws.length) p (j + 1)).1 from by
      have a7 := st_at (c := by_ ws) (o := o ws b) (B := clip b - sm (o ws b) ws.length) hp j hj2
      rw [← a7]
      funext t
      by_cases e : t = p j
      · rw [if_pos e, e]
      · rw [if_neg e]
        show _ = if t = p j then _ else (st (by_ ws) (o ws b) (clip b - sm (o ws b) ws.length) p j).1 t
        rw [if_neg e]]
    rw [show (fun t => if t = p j then true else dn p j t) = dn p (j + 1) from by
      funext t
      by_cases e : t = p j
      · rw [if_pos e]; exact ((dn_iff p (j + 1) t).mpr ⟨j, by omega, e.symm⟩).symm
      · rw [if_neg e]
        rw [Bool.eq_iff_iff, dn_iff, dn_iff]
        exact ⟨fun ⟨s, s1, s2⟩ => ⟨s, by omega, s2⟩, fun ⟨s, s1, s2⟩ => ⟨s, by
          by_cases e2 : s = j
          · rw [e2] at s2; exact absurd s2.symm e
          · omega, s2⟩⟩]
    exact g

theorem ref (b : Int) (p : Nat → Nat) (hs : Srt (rk ws) (nr ws) (fun t => t) p 0 ws.length) (k : Nat) (hk : (ws.length + 2) * ws.length + 2 * ws.length + 10 ≤ k) : girandoleref21_Split.f k b ws = some (L ws.length (fin ws b p)) := by
  obtain ⟨k, rfl⟩ : ∃ m, k = m + ws.length + 1 + ws.length + 1 := ⟨k - 2 * ws.length - 2, by omega⟩
  unfold girandoleref21_Split.f
  have g1 := ref0 ws hn b (clip b) ws.length (k + ws.length + 1) 0 (by omega)
  have g2 := ref1 ws hn b ws.length k 0 (by omega)
  have g3 := ref2 ws hn b p hs ws.length k 0 (by omega) (by omega)
  rw [Int.natCast_zero] at g1 g2 g3
  refine g1.trans ?_
  rw [show clip b - sm (o ws b) 0 = clip b from by show clip b - 0 = clip b; omega] at g2
  refine g2.trans ?_
  have e : L ws.length (dn p 0) = L ws.length fun _ => false := L_congr fun t ht => rfl
  rw [e] at g3
  exact g3
end

theorem same (F : Nat → Int) (n : Nat) (hn : n ≤ 1000) (d : Nat) : ∀ (k i : Nat), i + d = n → girandolelaw21_PurseAll.l0 (k + d + 1) (L n F) (L n F) i = some true := by
  induction d with
  | zero =>
    intro k i hi
    simp only [girandolelaw21_PurseAll.l0]
    rw [L_len, if_neg (by omega)]
  | succ d ih =>
    intro k i hi
    have g := ih k (i + 1) (by omega)
    rw [Int.natCast_add, Int.natCast_one] at g
    generalize hks : k + d + 1 = ks at g
    simp only [girandolelaw21_PurseAll.l0]
    rw [L_len, if_pos (by omega), if_pos (by omega), if_pos (by omega), if_pos trivial, w64 (n := (i : Int) + 1) (by omega) (by omega)]
    exact g

end PAll

open PAll in
theorem PurseAll (b : Int) (ws : List S46) : ∃ k, girandolelaw21_PurseAll.f k b ws = some true := by
  have hbg : girandolelaw21_begun.f 60 = some true := by decide +kernel
  by_cases h : (ws.length : Int) > 40
  · refine ⟨60, ?_⟩
    unfold girandolelaw21_PurseAll.f
    rw [hbg, bs, if_pos rfl, if_pos h]
  · have hn : ws.length ≤ 40 := by omega
    obtain ⟨p, h1, K, h2⟩ := sorted40 ws hn
    have hq : (ws.length + 2) * ws.length ≤ 42 * 40 := Nat.mul_le_mul (by omega) hn
    refine ⟨60 + (K + 10000), ?_⟩
    unfold girandolelaw21_PurseAll.f
    rw [lift girandolelaw21_begun.mono hbg (K + 10000), bs, if_pos rfl, if_neg h, split ws (by omega) b p h1 K h2 _ (by omega), bs, ref ws (by omega) b p h1 _ (by omega), bs, if_pos rfl]
    have g := same (fin ws b p) ws.length (by omega) ws.length (60 + (K + 10000) - ws.length - 1) 0 (by omega)
    rw [show 60 + (K + 10000) - ws.length - 1 + ws.length + 1 = 60 + (K + 10000) by omega, Int.natCast_zero] at g
    exact g

end Go.Proofs.Ytcehifhfgpodoaa.Pure
