/- No more is given than there is, nobody gets more than one wants, nothing is kept back that is wanted. No condition. -/
import Derived.Test.YtcehifhfgpodoaaPPurseWholex7
import Derived.Test.YtcehifhfgpodoaaCoreMPurseWhole
namespace Go.Proofs.Ytcehifhfgpodoaa.Pure
open Go.RowKit Go.Proofs.Ytcehifhfgpodoaa.PPurseWhole Go.Proofs.Ytcehifhfgpodoaa.CorePurseWhole Go.Proofs.Ytcehifhfgpodoaa.Plain Go.Proofs.Ytcehifhfgpodoaa.Help Go.Proofs.YtcehifhfgpodoaaW.PrintWords Go.Proofs.YtcehifhfgpodoaaW.PrintLast Go.Proofs.YtcehifhfgpodoaaW.PrintMore
namespace Whole

theorem sm_put (f : Nat → Int) (i : Nat) (m : Int) : ∀ n, sm (fun t => if t = i then f t + m else f t) n = sm f n + (if i < n then m else 0)
  | 0 => by rw [if_neg (by omega)]; rfl
  | n + 1 => by
    have h := sm_put f i m n
    simp only [sm]
    rw [h]
    by_cases e : n = i
    · rw [if_pos e, if_neg (by omega), if_pos (by omega)]; omega
    · rw [if_neg e]
      by_cases e2 : i < n
      · rw [if_pos e2, if_pos (by omega)]; omega
      · rw [if_neg e2, if_neg (by omega)]; omega
theorem kept {c o : Nat → Int} {B : Int} {p : Nat → Nat} {n : Nat} (hr : ∀ s, s < n → p s < n) : ∀ j, j ≤ n → sm (st c o B p j).1 n + (st c o B p j).2 = sm o n + B
  | 0, _ => rfl
  | j + 1, h => by
    have a := kept (c := c) (o := o) (B := B) hr j (by omega)
    have b := sm_put (st c o B p j).1 (p j) (mn (c (p j) - (st c o B p j).1 (p j)) (st c o B p j).2) n
    rw [if_pos (hr j (by omega))] at b
    have e : (st c o B p (j + 1)).1 = fun t => if t = p j then (st c o B p j).1 t + mn (c (p j) - (st c o B p j).1 (p j)) (st c o B p j).2 else (st c o B p j).1 t := rfl
    have e2 : (st c o B p (j + 1)).2 = (st c o B p j).2 - mn (c (p j) - (st c o B p j).1 (p j)) (st c o B p j).2 := rfl
    rw [e, e2, b]
    omega

theorem law (ws : List S46) (b : Int) (p : Nat → Nat) (hs : Srt (rk ws) (nr ws) (fun t => t) p 0 ws.length) : (∀ t, t < ws.length → 0 ≤ fin ws b p t ∧ fin ws b p t ≤ by_ ws t) ∧ sm (fin ws b p) ws.length = mn (sm (by_ ws) ws.length) (clip b) := by
  have hp : ∀ s t, s < ws.length → t < ws.length → p s = p t → s = t := fun s t h1 h2 => hs.inj s t (by omega) h1 (by omega) h2
  have hr : ∀ s, s < ws.length → p s < ws.length := fun s h1 => (hs.lo s (by omega) h1).2
  have ho : ∀ t, t < ws.length → 0 ≤ o ws b t ∧ o ws b t ≤ by_ ws t := fun t ht => ⟨(o_bd ws b t ht).1, (o_bd ws b t ht).2.1⟩
  have hB : 0 ≤ clip b - sm (o ws b) ws.length := by have := o_sum ws b ws.length (Nat.le_refl _); omega
  have h1 : ∀ t, t < ws.length → 0 ≤ fin ws b p t ∧ fin ws b p t ≤ by_ ws t := fun t ht => by
    obtain ⟨s, hs1, hs2⟩ := onto _ p hp hr t ht
    have a1 := st_end (c := by_ ws) (o := o ws b) (B := clip b - sm (o ws b) ws.length) hp s hs1
    have g1 := gv0 (c := by_ ws) (o := o ws b) hp hr ho hB s hs1
    have e : fin ws b p t = o ws b (p s) + gv (by_ ws) (o ws b) (clip b - sm (o ws b) ws.length) p s := by rw [← hs2]; exact a1
    have y := ho (p s) (hr s hs1)
    rw [e, ← hs2]; omega
  have k := kept (c := by_ ws) (o := o ws b) (B := clip b - sm (o ws b) ws.length) hr ws.length (Nat.le_refl _)
  have l0 := st_left0 (c := by_ ws) (o := o ws b) hp hr ho hB ws.length (Nat.le_refl _)
  have k2 : sm (fin ws b p) ws.length = clip b - (st (by_ ws) (o ws b) (clip b - sm (o ws b) ws.length) p ws.length).2 := by show sm (st _ _ _ _ _).1 _ = _; omega
  have le := sm_le (f := fin ws b p) (g := by_ ws) ws.length (fun t ht => (h1 t ht).2)
  refine ⟨h1, ?_⟩
  by_cases z : (st (by_ ws) (o ws b) (clip b - sm (o ws b) ws.length) p ws.length).2 = 0
  · unfold mn; split <;> omega
  · have eq : sm (fin ws b p) ws.length = sm (by_ ws) ws.length := sm_congr _ fun t ht => by
      obtain ⟨s, hs1, hs2⟩ := onto _ p hp hr t ht
      have a1 := st_end (c := by_ ws) (o := o ws b) (B := clip b - sm (o ws b) ws.length) hp s hs1
      have g1 := gv0 (c := by_ ws) (o := o ws b) hp hr ho hB s hs1
      have e : fin ws b p t = o ws b (p s) + gv (by_ ws) (o ws b) (clip b - sm (o ws b) ws.length) p s := by rw [← hs2]; exact a1
      by_cases full : gv (by_ ws) (o ws b) (clip b - sm (o ws b) ws.length) p s < by_ ws (p s) - o ws b (p s)
      · have z2 := st_zero hp hr ho hB (s + 1) (gv_short hp hr ho hB s hs1 full) (ws.length - (s + 1)) (by omega)
        rw [show s + 1 + (ws.length - (s + 1)) = ws.length by omega] at z2
        exact absurd z2 z
      · rw [e, ← hs2]; omega
    unfold mn; split <;> omega

theorem added (ws : List S46) (b : Int) (F : Nat → Int) (hn : ws.length ≤ 40) (hb0 : 0 ≤ b) (hb1 : b < 65536) (h1 : ∀ t, t < ws.length → 0 ≤ F t ∧ F t ≤ by_ ws t) (h2 : sm F ws.length = mn (sm (by_ ws) ws.length) b) (d : Nat) : ∀ (k i : Nat), i + d = ws.length → girandolelaw21_PurseWhole.l0 (k + d + 1) b ws (L ws.length F) (sm F i) (sm (by_ ws) i) i = some true := by
  induction d with
  | zero =>
    intro k i hi
    obtain rfl : i = ws.length := by omega
    simp only [girandolelaw21_PurseWhole.l0]
    rw [L_len, if_neg (by omega), w64 (n := b) (by omega) (by omega), ← h2, beq_self_eq_true]
  | succ d ih =>
    intro k i hi
    have g := ih k (i + 1) (by omega)
    rw [Int.natCast_add, Int.natCast_one] at g
    generalize hks : k + d + 1 = ks at g
    have hi2 : i < ws.length := by omega
    have f := h1 i hi2
    have c1 : by_ ws i ≤ 65536 := clip1 _
    have s0 := sm_nonneg (f := F) i (fun t ht => (h1 t (by omega)).1)
    have s1 := sm_nonneg (f := by_ ws) i (fun t ht => clip0 _)
    have s2 := sm_bd (f := by_ ws) 65536 i (fun t ht => clip1 _)
    have s3 := sm_le (f := F) (g := by_ ws) i (fun t ht => (h1 t (by omega)).2)
    simp only [girandolelaw21_PurseWhole.l0]
    rw [L_len, if_pos (by omega), if_pos (by omega), if_pos (by omega), L_rd _ _ _ hi2, if_neg (by omega)]
    show (if F i > by_ ws i then _ else girandolelaw21_PurseWhole.l0 ks b ws (L ws.length F) (wrap64 (sm F i + F i)) (wrap64 (sm (by_ ws) i + by_ ws i)) (wrap64 ((i : Int) + 1))) = _
    rw [if_neg (by omega), w64 (n := sm F i + F i) (by omega) (by omega), w64 (n := sm (by_ ws) i + by_ ws i) (by omega) (by omega), w64 (n := (i : Int) + 1) (by omega) (by omega)]
    exact g

end Whole

open Whole in
theorem PurseWhole (b : Int) (ws : List S46) (hb : (Lit.int .u16 b).wf = true) : ∃ k, girandolelaw21_PurseWhole.f k b ws = some true := by
  obtain ⟨b0, b1⟩ := u16_bd hb
  have hbg : girandolelaw21_begun.f 60 = some true := by decide +kernel
  by_cases h : (ws.length : Int) > 40
  · refine ⟨60, ?_⟩
    unfold girandolelaw21_PurseWhole.f
    rw [hbg, bs, if_pos rfl, if_pos h]
  · have hn : ws.length ≤ 40 := by omega
    obtain ⟨p, h1, K, h2⟩ := sorted40 ws hn
    refine ⟨60 + (K + 1000), ?_⟩
    unfold girandolelaw21_PurseWhole.f
    rw [lift girandolelaw21_begun.mono hbg (K + 1000), bs, if_pos rfl, if_neg h, w64 (n := b) (by omega) (by omega), split ws (by omega) b p h1 K h2 _ (by omega), bs, L_len, if_pos rfl]
    obtain ⟨l1, l2⟩ := law ws b p h1
    have hc : clip b = b := by unfold clip mn mx; split <;> split <;> omega
    rw [hc] at l2
    have g := added ws b (fin ws b p) hn b0 b1 l1 l2 ws.length (60 + (K + 1000) - ws.length - 1) 0 (by omega)
    rw [show 60 + (K + 1000) - ws.length - 1 + ws.length + 1 = 60 + (K + 1000) by omega, Int.natCast_zero] at g
    exact g

end Go.Proofs.Ytcehifhfgpodoaa.Pure
