/- Of two that want alike the one that matters more never gets less, nor, of one rank, the earlier one. No condition. -/
import Derived.Test.YtcehifhfgpodoaaPPurseRanksx5
import Derived.Test.YtcehifhfgpodoaaCorePurseRanks
namespace Go.Proofs.Ytcehifhfgpodoaa.Pure
open Go.RowKit Go.Proofs.Ytcehifhfgpodoaa.PPurseRanks Go.Proofs.Ytcehifhfgpodoaa.CorePurseRanks Go.Proofs.Ytcehifhfgpodoaa.Plain Go.Proofs.Ytcehifhfgpodoaa.Help Go.Proofs.YtcehifhfgpodoaaW.PrintWords Go.Proofs.YtcehifhfgpodoaaW.PrintLast Go.Proofs.YtcehifhfgpodoaaW.PrintMore
namespace Ranks

def one (xs : List Int) (y : Int) (t : Nat) : S46 := ⟨(t : Int) % 4294967296, wrap64 (Int.tmod (rd xs t) 4), wrap64 y⟩
def WS (xs : List Int) (y : Int) : List S46 := L xs.length (one xs y)
theorem WS_len (xs : List Int) (y : Int) : (WS xs y).length = xs.length := L_len _ _
theorem WS_at (xs : List Int) (y : Int) (t : Nat) (h : t < xs.length) : rd_T46 (WS xs y) (t : Int) = one xs y t := by
  unfold rd_T46
  rw [Int.toNat_natCast]
  exact L_getD _ _ _ t h

/-- the plain law -/
theorem law (ws : List S46) (b Y : Int) (p : Nat → Nat) (hs : Srt (rk ws) (nr ws) (fun t => t) p 0 ws.length) (hY : ∀ t, t < ws.length → by_ ws t = Y) (hN : ∀ s t, s < t → t < ws.length → nr ws s ≤ nr ws t)
    (i j : Nat) (hi : i < ws.length) (hj : j < ws.length) (h : rk ws i < rk ws j ∨ rk ws i = rk ws j ∧ i < j) : fin ws b p j ≤ fin ws b p i := by
  have hp : ∀ s t, s < ws.length → t < ws.length → p s = p t → s = t := fun s t h1 h2 => hs.inj s t (by omega) h1 (by omega) h2
  have hr : ∀ s, s < ws.length → p s < ws.length := fun s h1 => (hs.lo s (by omega) h1).2
  obtain ⟨s, hs1, hs2⟩ := onto _ p hp hr i hi
  obtain ⟨t, ht1, ht2⟩ := onto _ p hp hr j hj
  have hlt : lt (rk ws) (nr ws) (p s) (p t) := by
    rw [hs2, ht2]
    unfold lt
    rcases h with h | h
    · exact .inl h
    · have := hN i j h.2 hj; exact .inr ⟨h.1, by omega⟩
  have hst : s < t := by
    rcases Nat.lt_trichotomy s t with h1 | h1 | h1
    · exact h1
    · rw [h1] at hlt; exact absurd hlt (lt_irrefl _)
    · exact absurd (lt_trans hlt (hs.srt t s (by omega) h1 hs1)) (lt_irrefl _)
  have ho : ∀ t, t < ws.length → 0 ≤ o ws b t ∧ o ws b t ≤ by_ ws t := fun t ht => ⟨(o_bd ws b t ht).1, (o_bd ws b t ht).2.1⟩
  have hB : 0 ≤ clip b - sm (o ws b) ws.length := by have := o_sum ws b ws.length (Nat.le_refl _); omega
  have a1 := st_end (c := by_ ws) (o := o ws b) (B := clip b - sm (o ws b) ws.length) hp s hs1
  have a2 := st_end (c := by_ ws) (o := o ws b) (B := clip b - sm (o ws b) ws.length) hp t ht1
  have g1 := gv0 (c := by_ ws) (o := o ws b) hp hr ho hB s hs1
  have g2 := gv0 (c := by_ ws) (o := o ws b) hp hr ho hB t ht1
  have oo : o ws b (p t) ≤ o ws b (p s) := by
    rw [hs2, ht2]
    have w : we ws j ≤ we ws i := weigh_le (by omega)
    have s1 := sm_mono (f := we ws) (i + 1) (ws.length - (i + 1)) (fun t ht => by have := weigh1 (rk ws t); unfold we; omega)
    rw [show i + 1 + (ws.length - (i + 1)) = ws.length by omega] at s1
    have s2 := sm_nonneg (f := we ws) i (fun t ht => by have := weigh1 (rk ws t); unfold we; omega)
    have s3 : 1 ≤ we ws i := weigh1 _
    have s5 : sm (we ws) (i + 1) = sm (we ws) i + we ws i := rfl
    show mn (clip b * we ws j / sm (we ws) ws.length) (by_ ws j) ≤ mn (clip b * we ws i / sm (we ws) ws.length) (by_ ws i)
    rw [hY i hi, hY j hj]
    exact mn_mono (Int.ediv_le_ediv (by omega) (Int.mul_le_mul_of_nonneg_left w (clip0 b))) (Int.le_refl _)
  rw [hY (p s) (hr s hs1)] at g1
  rw [hY (p t) (hr t ht1)] at g2
  have y1 := hY (p s) (hr s hs1)
  have e : fin ws b p j = o ws b (p t) + gv (by_ ws) (o ws b) (clip b - sm (o ws b) ws.length) p t := by rw [← ht2]; exact a2
  have e' : fin ws b p i = o ws b (p s) + gv (by_ ws) (o ws b) (clip b - sm (o ws b) ws.length) p s := by rw [← hs2]; exact a1
  rw [e, e']
  by_cases full : gv (by_ ws) (o ws b) (clip b - sm (o ws b) ws.length) p s < by_ ws (p s) - o ws b (p s)
  · have z := st_zero hp hr ho hB (s + 1) (gv_short hp hr ho hB s hs1 full) (t - (s + 1)) (by omega)
    rw [show s + 1 + (t - (s + 1)) = t by omega] at z
    have g3 : gv (by_ ws) (o ws b) (clip b - sm (o ws b) ws.length) p t ≤ 0 := by
      unfold gv
      rw [z]
      exact mn_le_r _ _
    omega
  · omega

section
variable (xs : List Int) (b y : Int) (hx : xs.length ≤ 20)
include hx

theorem build (d : Nat) : ∀ (k i : Nat), i + d = xs.length → girandolelaw21_PurseRanks.l0 (k + d + 1) b y xs (L i (one xs y)) i =
    (purse_Split.f k (wrap64 b) (WS xs y)).bind fun r => if (r.length : Int) = ((WS xs y).length : Int) then girandolelaw21_PurseRanks.l1 k b (WS xs y) r 0 else some false := by
  induction d with
  | zero =>
    intro k i hi
    obtain rfl : i = xs.length := by omega
    simp only [girandolelaw21_PurseRanks.l0]
    rw [if_neg (by omega)]
    rfl
  | succ d ih =>
    intro k i hi
    have g := ih k (i + 1) (by omega)
    rw [Int.natCast_add, Int.natCast_one] at g
    generalize hks : k + d + 1 = ks at g
    simp only [girandolelaw21_PurseRanks.l0]
    rw [if_pos (by omega), if_pos (by omega), L_len, if_pos (by omega), w64 (n := (i : Int) + 1) (by omega) (by omega)]
    rw [show (⟨(i : Int) % 4294967296, wrap64 (Int.tmod (rd xs (i : Int)) 4), wrap64 y⟩ : S46) = one xs y i from rfl, L_push]
    exact g
end

section
variable (ws : List S46) (b : Int) (F : Nat → Int) (hn : ws.length ≤ 20) (hF : ∀ i j, i < ws.length → j < ws.length → rk ws i < rk ws j ∨ rk ws i = rk ws j ∧ i < j → F j ≤ F i)
include hn hF

theorem inner (i : Nat) (hi : i < ws.length) (d : Nat) : ∀ (k j : Nat), j + d = ws.length → girandolelaw21_PurseRanks.l2 (k + d + 1) b ws (L ws.length F) i j = girandolelaw21_PurseRanks.l1 k b ws (L ws.length F) ((i : Int) + 1) := by
  induction d with
  | zero =>
    intro k j hj
    simp only [girandolelaw21_PurseRanks.l2]
    rw [L_len, if_neg (by omega), w64 (n := (i : Int) + 1) (by omega) (by omega)]
  | succ d ih =>
    intro k j hj
    have g := ih k (j + 1) (by omega)
    rw [Int.natCast_add, Int.natCast_one] at g
    generalize hks : k + d + 1 = ks at g
    have hj2 : j < ws.length := by omega
    have f := hF i j hi hj2
    simp only [girandolelaw21_PurseRanks.l2]
    rw [L_len, if_pos (by omega), if_pos (by omega), if_pos (by omega), if_pos (by omega), if_pos (by omega), L_rd _ _ _ hi, L_rd _ _ _ hj2, w64 (n := (j : Int) + 1) (by omega) (by omega)]
    show (if rk ws i < rk ws j then _ else if rk ws i = rk ws j then _ else _) = _
    by_cases a : rk ws i < rk ws j
    · rw [if_pos a, if_pos (by omega), if_neg (by have := f (.inl a); omega)]; exact g
    · rw [if_neg a]
      by_cases c : rk ws i = rk ws j
      · rw [if_pos c]
        by_cases e : i < j
        · rw [if_pos (by omega), if_pos (by omega), if_neg (by have := f (.inr ⟨c, e⟩); omega)]; exact g
        · rw [if_neg (by omega)]; exact g
      · rw [if_neg c]; exact g

theorem outer (hE : ∀ k, 40000 ≤ k → (purse_Split.f k (wrap64 b) ([] : List S46)).bind (fun r => some ((r.length : Int) == 0)) = some true) (d : Nat) : ∀ (k i : Nat), i + d = ws.length → 40000 + 30 * d < k → girandolelaw21_PurseRanks.l1 k b ws (L ws.length F) i = some true := by
  induction d with
  | zero =>
    intro k i hi hk
    obtain ⟨k, rfl⟩ : ∃ m, k = m + 1 := ⟨k - 1, by omega⟩
    simp only [girandolelaw21_PurseRanks.l1]
    rw [L_len, if_neg (by omega)]
    exact hE k (by omega)
  | succ d ih =>
    intro k i hi hk
    obtain ⟨k, rfl⟩ : ∃ m, k = m + ws.length + 1 + 1 := ⟨k - ws.length - 2, by omega⟩
    have g := inner ws b F hn hF i (by omega) ws.length k 0 (by omega)
    have g2 := ih k (i + 1) (by omega) (by omega)
    rw [Int.natCast_zero] at g
    rw [Int.natCast_add, Int.natCast_one] at g2
    generalize hks : k + ws.length + 1 = ks at g
    simp only [girandolelaw21_PurseRanks.l1]
    rw [L_len, if_pos (by omega)]
    exact g.trans g2
end

end Ranks

open Ranks in
theorem PurseRanks : girandolelaw21_PurseRanks.Pure := by
  intro b y xs _ _ _ _ _
  have hb : girandolelaw21_begun.f 60 = some true := by decide +kernel
  refine ⟨60 + 60000, ?_⟩
  unfold girandolelaw21_PurseRanks.f
  rw [lift girandolelaw21_begun.mono hb 60000, bs, if_pos rfl]
  by_cases h : (xs.length : Int) > 20
  · rw [if_pos h]
  · rw [if_neg h]
    have hx : xs.length ≤ 20 := by omega
    have hl := WS_len xs y
    obtain ⟨p, h1, h2⟩ := sorted20 (WS xs y) (by omega)
    have hsp : ∀ k, 40000 ≤ k → purse_Split.f k (wrap64 b) (WS xs y) = some (L (WS xs y).length (fin (WS xs y) (wrap64 b) p)) := fun k hk => split (WS xs y) (by omega) (wrap64 b) p h1 30000 h2 k (by omega)
    have hE : ∀ k, 40000 ≤ k → (purse_Split.f k (wrap64 b) ([] : List S46)).bind (fun r => some ((r.length : Int) == 0)) = some true := fun k hk => by
      obtain ⟨q, h3, h4⟩ := sorted20 [] (by show 0 ≤ 20; omega)
      rw [split [] (by show 0 ≤ 1000; omega) (wrap64 b) q h3 30000 h4 k (by show 30000 + 3 * 0 + 3 ≤ k; omega), bs, L_len]
      rfl
    have hF := law (WS xs y) (wrap64 b) (clip (wrap64 y)) p h1 (fun t ht => by unfold by_; rw [WS_at xs y t (by omega)]; rfl) (fun s t hs ht => by
      unfold nr
      rw [WS_at xs y t (by omega), WS_at xs y s (by omega)]
      show (s : Int) % 4294967296 ≤ (t : Int) % 4294967296
      omega)
    have g := build xs b y hx xs.length (60059 - xs.length) 0 (by omega)
    rw [show 60059 - xs.length + xs.length + 1 = 60 + 60000 by omega, hsp _ (by omega), bs, L_len, if_pos rfl] at g
    have g2 := outer (WS xs y) b (fin (WS xs y) (wrap64 b) p) (by omega) hF hE (WS xs y).length (60059 - xs.length) 0 (by omega) (by omega)
    rw [Int.natCast_zero] at g g2
    exact g.trans g2

end Go.Proofs.Ytcehifhfgpodoaa.Pure
