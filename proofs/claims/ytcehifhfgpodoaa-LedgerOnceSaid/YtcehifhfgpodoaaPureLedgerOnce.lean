/- Each symbol is told once, one behind the other, till there are none, whatever is told of another frame between. No condition. -/
import Derived.Test.YtcehifhfgpodoaaPLedgerOncex1
import Derived.Test.YtcehifhfgpodoaaHelp
namespace Go.Proofs.Ytcehifhfgpodoaa.Pure
set_option linter.unusedVariables false
open Go.RowKit Go.Proofs.Ytcehifhfgpodoaa.PLedgerOnce Go.Proofs.YtcehifhfgpodoaaW.PrintWords Go.Proofs.YtcehifhfgpodoaaW.PrintLast Go.Proofs.Ytcehifhfgpodoaa.Ledger
namespace Once
open Go.Proofs.Ytcehifhfgpodoaa.Help

theorem next_ev (s : LM) (fr p q : Int) (hw : (Lit.int .u32 fr).wf = true) (h : s.m fr = some (p, q)) (h0 : 0 ≤ p) (h1 : p < q) (h2 : p < 1000000) (hn : s.n < 1000000) :
    ledger_Next.f s fr = some (p, true, ⟨putM s.m fr (p + 1, q), s.n + 1⟩) := by
  unfold ledger_Next.f
  rw [if_pos hw, h]
  simp only
  rw [if_neg (by omega), if_pos h0, if_pos h2, if_pos hn]
theorem next_end (s : LM) (fr p q : Int) (hw : (Lit.int .u32 fr).wf = true) (h : s.m fr = some (p, q)) (h1 : q ≤ p) :
    ledger_Next.f s fr = some (0, false, s) := by
  unfold ledger_Next.f
  rw [if_pos hw, h]
  simp only
  rw [if_pos h1]
theorem left_ev (s : LM) (fr p q : Int) (hw : (Lit.int .u32 fr).wf = true) (h : s.m fr = some (p, q)) : ledger_Left.f s fr = some (wrap64 (q - p), s) := by
  unfold ledger_Left.f
  rw [if_pos hw, h]
  rfl
theorem open_ev (s : LM) (fr k : Int) (hw : (Lit.int .u32 fr).wf = true) (h : s.m fr = none) (h1 : 1 ≤ k) (h2 : k ≤ 32) (hn : s.n < 1000000) : ledger_Open.f s fr k = some (true, ⟨putM s.m fr (k, k + 64), s.n + 1⟩) := by
  unfold ledger_Open.f
  rw [if_pos hw, if_neg (by rw [h]; decide), if_neg (by omega), if_neg (by omega), if_pos hn]
theorem close_ev (s : LM) (fr : Int) (hw : (Lit.int .u32 fr).wf = true) (h : (s.m fr).isSome = true) : ledger_Close.f s fr = some (true, ⟨delM s.m fr, s.n⟩) := by
  unfold ledger_Close.f
  rw [if_pos hw, if_pos h]
theorem put_same (m : Int → Option (Int × Int)) (k : Int) (r : Int × Int) : putM m k r k = some r := by unfold putM; rw [if_pos rfl]
theorem put_other (m : Int → Option (Int × Int)) (k j : Int) (r : Int × Int) (h : j ≠ k) : putM m k r j = m j := by unfold putM; rw [if_neg h]
theorem del_same (m : Int → Option (Int × Int)) (k : Int) : delM m k k = none := by unfold delM; rw [if_pos rfl]
theorem st_same (m : Int → Option (Int × Int)) (n : Nat) (k : Int) (r : Int × Int) : (LM.mk (putM m k r) n).m k = some r := put_same m k r
theorem st_other (m : Int → Option (Int × Int)) (n : Nat) (k j : Int) (r : Int × Int) (h : j ≠ k) : (LM.mk (putM m k r) n).m j = m j := put_other m k j r h
theorem w7 : (Lit.int .u32 7).wf = true := by decide
theorem w8 : (Lit.int .u32 8).wf = true := by decide
theorem bg : girandolelaw23_begun.f = some true := by decide +kernel

/-- what holds at each round's head -/
def Inv (n : Int) (i : Nat) (s : LM) : Prop := s.m 7 = some (n + i, n + 64) ∧ (∃ p, s.m 8 = some (p, 65) ∧ 0 ≤ p ∧ p ≤ 65) ∧ s.n ≤ 2 + 2 * i

theorem last (n : Int) (n1 : 1 ≤ n) (n2 : n ≤ 32) (xs : List Bool) (k : Nat) (s : LM) (hs : Inv n 64 s) : girandolelaw23_LedgerOnce.l0 (k + 1) xs n 64 s = some true := by
  obtain ⟨h1, _, h3⟩ := hs
  simp only [girandolelaw23_LedgerOnce.l0]
  rw [if_neg (by omega), next_end s 7 _ _ w7 h1 (by omega), bs, if_neg Bool.false_ne_true, close_ev s 7 w7 (by rw [h1]; rfl), bs, if_pos rfl]
  rw [open_ev ⟨delM s.m 7, s.n⟩ 7 n w7 (del_same s.m 7) n1 n2 (by show s.n < 1000000; omega), bs, if_pos rfl, left_ev ⟨putM (delM s.m 7) 7 (n, n + 64), s.n + 1⟩ 7 n (n + 64) w7 (st_same _ _ _ _), bs]
  rw [show n + 64 - n = 64 by omega, w64 (n := 64) (by omega) (by omega)]
  rfl

theorem mid (n : Int) (n1 : 1 ≤ n) (n2 : n ≤ 32) (xs : List Bool) (k i : Nat) (hi : i < 64) (s : LM) (h1 : s.m 7 = some (n + i, n + 64)) (h2 : ∃ p, s.m 8 = some (p, 65) ∧ 0 ≤ p ∧ p ≤ 65) (h3 : s.n ≤ 3 + 2 * i)
    (ih : ∀ s, Inv n (i + 1) s → girandolelaw23_LedgerOnce.l0 k xs n ((i : Int) + 1) s = some true) : girandolelaw23_LedgerOnce.j3 (k + 1) xs n i s = some true := by
  simp only [girandolelaw23_LedgerOnce.j3]
  rw [next_ev s 7 _ _ w7 h1 (by omega) (by omega) (by omega) (by omega), bs, if_pos rfl, w64 (n := n + (i : Int)) (by omega) (by omega), if_pos rfl, left_ev ⟨putM s.m 7 (n + (i : Int) + 1, n + 64), s.n + 1⟩ 7 (n + (i : Int) + 1) (n + 64) w7 (st_same _ _ _ _), bs]
  rw [show n + 64 - (n + (i : Int) + 1) = 63 - (i : Int) by omega, if_pos rfl, w64 (n := (i : Int) + 1) (by omega) (by omega)]
  refine ih _ ⟨?_, ?_, ?_⟩
  · rw [st_same, Int.natCast_add, Int.natCast_one, Int.add_assoc]
  · obtain ⟨p, h, h4, h5⟩ := h2
    exact ⟨p, by rw [st_other _ _ _ _ _ (by decide)]; exact h, h4, h5⟩
  · show s.n + 1 ≤ 2 + 2 * (i + 1); omega

theorem round (n : Int) (n1 : 1 ≤ n) (n2 : n ≤ 32) (xs : List Bool) (k i : Nat) (hi : i < 64) (s : LM) (b : Bool) (hs : Inv n i s)
    (ih : ∀ s, Inv n (i + 1) s → girandolelaw23_LedgerOnce.l0 k xs n ((i : Int) + 1) s = some true) : girandolelaw23_LedgerOnce.j2 (k + 2) xs n i b s = some true := by
  obtain ⟨h1, h2, h3⟩ := hs
  generalize hk : k + 1 = k1
  show girandolelaw23_LedgerOnce.j2 ((k + 1) + 1) xs n i b s = some true
  rw [hk]
  simp only [girandolelaw23_LedgerOnce.j2]
  subst hk
  cases b with
  | false =>
    rw [if_neg Bool.false_ne_true]
    exact mid n n1 n2 xs k i hi s h1 h2 (by omega) ih
  | true =>
    obtain ⟨p, h, h4, h5⟩ := h2
    rw [if_pos rfl]
    by_cases hp : p < 65
    · rw [next_ev s 8 p 65 w8 h h4 hp (by omega) (by omega), bs]
      refine mid n n1 n2 xs k i hi ⟨putM s.m 8 (p + 1, 65), s.n + 1⟩ ?_ ⟨p + 1, st_same s.m _ 8 (p + 1, 65), by omega, by omega⟩ (by show s.n + 1 ≤ 3 + 2 * i; omega) ih
      rw [st_other _ _ _ _ _ (by decide)]
      exact h1
    · rw [next_end s 8 p 65 w8 h (by omega), bs]
      exact mid n n1 n2 xs k i hi s h1 ⟨p, h, h4, h5⟩ (by omega) ih

theorem rounds (n : Int) (n1 : 1 ≤ n) (n2 : n ≤ 32) (xs : List Bool) (d : Nat) : ∀ (k i : Nat) (s : LM), i + d = 64 → 3 * d < k → Inv n i s → girandolelaw23_LedgerOnce.l0 k xs n i s = some true := by
  induction d with
  | zero =>
    intro k i s hi hk hs
    obtain ⟨k, rfl⟩ : ∃ m, k = m + 1 := ⟨k - 1, by omega⟩
    obtain rfl : i = 64 := by omega
    exact last n n1 n2 xs k s hs
  | succ d ih =>
    intro k i s hi hk hs
    obtain ⟨k, rfl⟩ : ∃ m, k = m + 3 := ⟨k - 3, by omega⟩
    have R : ∀ b, girandolelaw23_LedgerOnce.j2 (k + 2) xs n i b s = some true := fun b => round n n1 n2 xs k i (by omega) s b hs (fun s' hs' => by
      have g := ih k (i + 1) s' (by omega) (by omega) hs'
      rw [Int.natCast_add, Int.natCast_one] at g
      exact g)
    generalize hk2 : k + 2 = k2 at R
    show girandolelaw23_LedgerOnce.l0 ((k + 2) + 1) xs n i s = some true
    rw [hk2]
    simp only [girandolelaw23_LedgerOnce.l0]
    rw [if_pos (by omega)]
    by_cases hl : (i : Int) < (xs.length : Int)
    · rw [if_pos hl, if_pos (by omega)]
      exact R _
    · rw [if_neg hl]
      exact R _

end Once

open Once Go.Proofs.Ytcehifhfgpodoaa.Help in
theorem LedgerOnce : girandolelaw23_LedgerOnce.Pure := by
  intro a xs wa _ _
  obtain ⟨a0, a1⟩ := u8_bd wa
  refine ⟨200, ?_⟩
  unfold girandolelaw23_LedgerOnce.f
  rw [bg, bs, if_pos rfl, w64 (n := a) (by omega) (by omega), Int.tmod_eq_emod_of_nonneg a0]
  obtain ⟨n, hn, n1, n2⟩ : ∃ n, 1 + a % 32 = n ∧ 1 ≤ n ∧ n ≤ 32 := ⟨_, rfl, by omega, by omega⟩
  rw [hn, w64 (n := n) (by omega) (by omega)]
  rw [show ledger_New.f = some ⟨fun _ => none, 0⟩ by unfold ledger_New.f; simp, bs]
  generalize hk : 199 = k
  have J : ∀ x b s, girandolelaw23_LedgerOnce.j0 200 xs x b s = girandolelaw23_LedgerOnce.j0 (k + 1) xs x b s := fun x b s => by rw [← hk]
  by_cases h1 : (xs.length : Int) > 70
  · rw [if_pos h1, J]
    simp only [girandolelaw23_LedgerOnce.j0]
    rw [if_pos trivial, decide_eq_true h1]
  · rw [if_neg h1, open_ev ⟨fun _ => none, 0⟩ 7 n w7 rfl n1 n2 (by show (0 : Nat) < 1000000; omega), bs, if_pos rfl, open_ev ⟨putM (fun _ => none) 7 (n, n + 64), 0 + 1⟩ 8 1 w8 (by rw [st_other _ _ _ _ _ (by decide)]) (by omega) (by omega) (by show (0 + 1 : Nat) < 1000000; omega), bs, J]
    rw [show (!true) = false from rfl]
    simp only [girandolelaw23_LedgerOnce.j0]
    rw [if_neg Bool.false_ne_true]
    have g := rounds n n1 n2 xs 64 k 0 ⟨putM (putM (fun _ => none) 7 (n, n + 64)) 8 (1, 1 + 64), 0 + 1 + 1⟩ (by omega) (by omega) ⟨?_, ⟨1, ?_, by omega, by omega⟩, ?_⟩
    · rw [Int.natCast_zero] at g
      exact g
    · rw [st_other _ _ _ _ _ (by decide), put_same, Int.natCast_zero, Int.add_zero]
    · exact st_same _ _ 8 (1, 1 + 64)
    · show 0 + 1 + 1 ≤ 2 + 2 * 0; omega

end Go.Proofs.Ytcehifhfgpodoaa.Pure
