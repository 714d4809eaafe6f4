/- One frame's symbols do not hang on another one's, whosever turn it is (60 turns at most). No condition. -/
import Derived.Test.YtcehifhfgpodoaaPLedgerApartx2
import Derived.Test.YtcehifhfgpodoaaHelp
namespace Go.Proofs.Ytcehifhfgpodoaa.Pure
set_option linter.unusedVariables false
open Go.RowKit Go.Proofs.Ytcehifhfgpodoaa.PLedgerApart Go.Proofs.YtcehifhfgpodoaaW.PrintWords Go.Proofs.YtcehifhfgpodoaaW.PrintLast Go.Proofs.Ytcehifhfgpodoaa.Ledger
namespace Apart
open Go.Proofs.Ytcehifhfgpodoaa.Help

theorem next_ev (s : LM) (fr p q : Int) (hw : (Lit.int .u32 fr).wf = true) (h : s.m fr = some (p, q)) (h0 : 0 ≤ p) (h1 : p < q) (h2 : p < 1000000) (hn : s.n < 1000000) :
    ledger_Next.f s fr = some (p, true, ⟨putM s.m fr (p + 1, q), s.n + 1⟩) := by
  unfold ledger_Next.f
  rw [if_pos hw, h]
  simp only
  rw [if_neg (by omega), if_pos h0, if_pos h2, if_pos hn]
theorem next_end (s : LM) (fr p q : Int) (hw : (Lit.int .u32 fr).wf = true) (h : s.m fr = some (p, q)) (h1 : q ≤ p) :
    ledger_Next.f s fr = some (0, false, s) := by
  unfold ledger_Next.f
  rw [if_pos hw, h]
  simp only
  rw [if_pos h1]
theorem left_ev (s : LM) (fr p q : Int) (hw : (Lit.int .u32 fr).wf = true) (h : s.m fr = some (p, q)) : ledger_Left.f s fr = some (wrap64 (q - p), s) := by
  unfold ledger_Left.f
  rw [if_pos hw, h]
  rfl
theorem open_ev (s : LM) (fr k : Int) (hw : (Lit.int .u32 fr).wf = true) (h : s.m fr = none) (h1 : 1 ≤ k) (h2 : k ≤ 32) (hn : s.n < 1000000) : ledger_Open.f s fr k = some (true, ⟨putM s.m fr (k, k + 64), s.n + 1⟩) := by
  unfold ledger_Open.f
  rw [if_pos hw, if_neg (by rw [h]; decide), if_neg (by omega), if_neg (by omega), if_pos hn]
theorem close_ev (s : LM) (fr : Int) (hw : (Lit.int .u32 fr).wf = true) (h : (s.m fr).isSome = true) : ledger_Close.f s fr = some (true, ⟨delM s.m fr, s.n⟩) := by
  unfold ledger_Close.f
  rw [if_pos hw, if_pos h]
theorem put_same (m : Int → Option (Int × Int)) (k : Int) (r : Int × Int) : putM m k r k = some r := by unfold putM; rw [if_pos rfl]
theorem put_other (m : Int → Option (Int × Int)) (k j : Int) (r : Int × Int) (h : j ≠ k) : putM m k r j = m j := by unfold putM; rw [if_neg h]
theorem del_same (m : Int → Option (Int × Int)) (k : Int) : delM m k k = none := by unfold delM; rw [if_pos rfl]
theorem st_same (m : Int → Option (Int × Int)) (n : Nat) (k : Int) (r : Int × Int) : (LM.mk (putM m k r) n).m k = some r := put_same m k r
theorem st_other (m : Int → Option (Int × Int)) (n : Nat) (k j : Int) (r : Int × Int) (h : j ≠ k) : (LM.mk (putM m k r) n).m j = m j := put_other m k j r h
theorem st_del (m : Int → Option (Int × Int)) (n : Nat) (k j : Int) (h : j ≠ k) : (LM.mk (delM m k) n).m j = m j := by show delM m k j = m j; unfold delM; rw [if_neg h]
theorem w0_ : (Lit.int .u32 0).wf = true := by decide
theorem w1_ : (Lit.int .u32 1).wf = true := by decide
theorem bg : girandolelaw23_begun.f = some true := by decide +kernel

/-- what holds at each round's head -/
def Inv (a b n0 n1 : Int) (i : Nat) (s : LM) : Prop := s.m 0 = some (a + n0, a + 64) ∧ s.m 1 = some (b + n1, b + 64) ∧ s.n ≤ 2 + i ∧ 0 ≤ n0 ∧ 0 ≤ n1 ∧ n0 + n1 = i

theorem rounds (a b : Int) (a1 : 1 ≤ a) (a2 : a ≤ 32) (b1 : 1 ≤ b) (b2 : b ≤ 32) (xs : List Bool) (hlen : xs.length ≤ 60) (d : Nat) : ∀ (k i : Nat) (s : LM) (n0 n1 : Int), i + d = xs.length → d < k → Inv a b n0 n1 i s → girandolelaw23_LedgerApart.l0 k xs i a b s n0 n1 = some true := by
  induction d with
  | zero =>
    intro k i s n0 n1 hi hk hs
    obtain ⟨k, rfl⟩ : ∃ m, k = m + 1 := ⟨k - 1, by omega⟩
    obtain ⟨h0, h1, hn, p0, p1, hsum⟩ := hs
    simp only [girandolelaw23_LedgerApart.l0]
    rw [if_neg (by omega), close_ev s 0 w0_ (by rw [h0]; rfl), bs, if_pos rfl, left_ev ⟨delM s.m 0, s.n⟩ 1 (b + n1) (b + 64) w1_ (by rw [st_del _ _ _ _ (by decide)]; exact h1), bs]
    rw [show b + 64 - (b + n1) = 64 - n1 by omega]
    simp
  | succ d ih =>
    intro k i s n0 n1 hi hk hs
    obtain ⟨k, rfl⟩ : ∃ m, k = m + 1 := ⟨k - 1, by omega⟩
    obtain ⟨h0, h1, hn, p0, p1, hsum⟩ := hs
    simp only [girandolelaw23_LedgerApart.l0]
    rw [if_pos (by omega), if_pos (by omega), w64 (n := (i : Int) + 1) (by omega) (by omega), w64 (n := n0 + 1) (by omega) (by omega), w64 (n := n1 + 1) (by omega) (by omega), w64 (n := a + n0) (by omega) (by omega), w64 (n := b + n1) (by omega) (by omega)]
    by_cases hb : rdOf false xs (i : Int) = true
    · have g := ih k (i + 1) ⟨putM s.m 1 (b + n1 + 1, b + 64), s.n + 1⟩ n0 (n1 + 1) (by omega) (by omega)
        ⟨by rw [st_other _ _ _ _ _ (by decide)]; exact h0, by rw [st_same, Int.add_assoc], by show s.n + 1 ≤ 2 + (i + 1); omega, p0, by omega, by omega⟩
      rw [Int.natCast_add, Int.natCast_one] at g
      rw [if_pos hb, next_ev s 1 (b + n1) (b + 64) w1_ h1 (by omega) (by omega) (by omega) (by omega), bs, if_pos rfl, if_pos rfl]
      rw [left_ev ⟨putM s.m 1 (b + n1 + 1, b + 64), s.n + 1⟩ 0 (a + n0) (a + 64) w0_ (by rw [st_other _ _ _ _ _ (by decide)]; exact h0), bs, if_pos (by show wrap64 _ = wrap64 _; rw [show a + 64 - (a + n0) = 64 - n0 by omega])]
      rw [left_ev ⟨putM s.m 1 (b + n1 + 1, b + 64), s.n + 1⟩ 1 (b + n1 + 1) (b + 64) w1_ (st_same _ _ _ _), bs, if_pos (by show wrap64 _ = wrap64 _; rw [show b + 64 - (b + n1 + 1) = 64 - (n1 + 1) by omega])]
      exact g
    · have g := ih k (i + 1) ⟨putM s.m 0 (a + n0 + 1, a + 64), s.n + 1⟩ (n0 + 1) n1 (by omega) (by omega)
        ⟨by rw [st_same, Int.add_assoc], by rw [st_other _ _ _ _ _ (by decide)]; exact h1, by show s.n + 1 ≤ 2 + (i + 1); omega, by omega, p1, by omega⟩
      rw [Int.natCast_add, Int.natCast_one] at g
      rw [if_neg hb, next_ev s 0 (a + n0) (a + 64) w0_ h0 (by omega) (by omega) (by omega) (by omega), bs, if_pos rfl, if_pos rfl]
      rw [left_ev ⟨putM s.m 0 (a + n0 + 1, a + 64), s.n + 1⟩ 0 (a + n0 + 1) (a + 64) w0_ (st_same _ _ _ _), bs, if_pos (by show wrap64 _ = wrap64 _; rw [show a + 64 - (a + n0 + 1) = 64 - (n0 + 1) by omega])]
      rw [left_ev ⟨putM s.m 0 (a + n0 + 1, a + 64), s.n + 1⟩ 1 (b + n1) (b + 64) w1_ (by rw [st_other _ _ _ _ _ (by decide)]; exact h1), bs, if_pos (by show wrap64 _ = wrap64 _; rw [show b + 64 - (b + n1) = 64 - n1 by omega])]
      exact g

theorem open_state (fr k : Int) (hw : (Lit.int .u32 fr).wf = true) (h1 : 1 ≤ k) (h2 : k ≤ 32) (m : Int → Option (Int × Int)) (n : Nat) (hm : m fr = none) (hn : n < 1000000) : ledger_Open.f ⟨m, n⟩ fr k = some (true, ⟨putM m fr (k, k + 64), n + 1⟩) := open_ev ⟨m, n⟩ fr k hw hm h1 h2 hn

end Apart

open Apart Go.Proofs.Ytcehifhfgpodoaa.Help in
theorem LedgerApart : girandolelaw23_LedgerApart.Pure := by
  intro a b xs wa wb _ _
  obtain ⟨a0, a1⟩ := u8_bd wa
  obtain ⟨b0, b1⟩ := u8_bd wb
  refine ⟨xs.length + 1, ?_⟩
  unfold girandolelaw23_LedgerApart.f
  rw [bg, bs, if_pos rfl]
  by_cases h1 : (xs.length : Int) > 60
  · rw [if_pos h1]
  · rw [if_neg h1, Int.tmod_eq_emod_of_nonneg a0, Int.tmod_eq_emod_of_nonneg b0, w64 (n := a % 32) (by omega) (by omega), w64 (n := b % 32) (by omega) (by omega)]
    obtain ⟨x, hx, x1, x2⟩ : ∃ n, 1 + a % 32 = n ∧ 1 ≤ n ∧ n ≤ 32 := ⟨_, rfl, by omega, by omega⟩
    obtain ⟨y, hy, y1, y2⟩ : ∃ n, 1 + b % 32 = n ∧ 1 ≤ n ∧ n ≤ 32 := ⟨_, rfl, by omega, by omega⟩
    rw [hx, hy, w64 (n := x) (by omega) (by omega), w64 (n := y) (by omega) (by omega)]
    rw [show ledger_New.f = some ⟨fun _ => none, 0⟩ by unfold ledger_New.f; simp, bs]
    rw [open_state 0 x w0_ x1 x2 (fun _ => none) 0 rfl (by omega), bs, if_pos rfl]
    rw [open_state 1 y w1_ y1 y2 (putM (fun _ => none) 0 (x, x + 64)) (0 + 1) (by rw [put_other _ _ _ _ (by decide)]) (by omega), bs, if_pos rfl]
    have g := rounds x y x1 x2 y1 y2 xs (by omega) xs.length (xs.length + 1) 0 ⟨putM (putM (fun _ => none) 0 (x, x + 64)) 1 (y, y + 64), 0 + 1 + 1⟩ 0 0 (by omega) (by omega)
      ⟨by rw [st_other _ _ _ _ _ (by decide), put_same, Int.add_zero], by rw [st_same, Int.add_zero], by show 0 + 1 + 1 ≤ 2 + 0; omega, by omega, by omega, by omega⟩
    rw [Int.natCast_zero] at g
    exact g

end Go.Proofs.Ytcehifhfgpodoaa.Pure
