/- Whatever row of deeds comes in, the ledger and the reference tell the same (80 deeds at most). No condition. -/
import Derived.Test.YtcehifhfgpodoaaPLedgerAllx2
import Derived.Test.YtcehifhfgpodoaaHelp
namespace Go.Proofs.Ytcehifhfgpodoaa.Pure
set_option linter.unusedVariables false
open Go.RowKit Go.Proofs.Ytcehifhfgpodoaa.PLedgerAll Go.Proofs.YtcehifhfgpodoaaW.PrintWords Go.Proofs.YtcehifhfgpodoaaW.PrintLast Go.Proofs.Ytcehifhfgpodoaa.Ledger
namespace All
open Go.Proofs.Ytcehifhfgpodoaa.Help

theorem and_bd (x : Int) (m : Nat) (hm : m < 16) : 0 ≤ Go.bits .and .i64 x (m : Int) ∧ Go.bits .and .i64 x (m : Int) ≤ m := by
  have h1 : (BitVec.ofInt IntKind.i64.bits x &&& BitVec.ofInt IntKind.i64.bits (m : Int)).toNat ≤ m := by
    rw [BitVec.toNat_and]
    refine Nat.le_trans Nat.and_le_right ?_
    rw [BitVec.ofInt_natCast, BitVec.toNat_ofNat]
    exact Nat.mod_le _ _
  unfold Go.bits
  simp only
  rw [Help.wi64 (by omega) (by omega)]
  omega
theorem wf32 (x : Int) : (Lit.int .u32 (x % 4294967296)).wf = true := by
  simp [Lit.wf, show IntKind.u32.min = 0 from by decide, show IntKind.u32.max = 4294967295 from by decide]
  omega
theorem bg : girandolelaw23_begun.f = some true := by decide +kernel

/-- what the two ledgers tell of one frame agrees -/
def Same (a : Option (Int × Int)) (K N : Int) : Prop := (a = none ∧ K = 0) ∨ (a = some (K + N, K + 64) ∧ 1 ≤ K ∧ K ≤ 32 ∧ 0 ≤ N ∧ N ≤ 64)
def Inv (B : Nat) (s : LM) (r : RM) : Prop := (∀ j, Same (s.m j) (r.K j) (r.N j)) ∧ s.n ≤ B ∧ r.n ≤ B
theorem Inv.up {B B' : Nat} {s : LM} {r : RM} (h : Inv B s r) (hB : B ≤ B') : Inv B' s r := ⟨h.1, Nat.le_trans h.2.1 hB, Nat.le_trans h.2.2 hB⟩

theorem left_pair {B : Nat} {s : LM} {r : RM} (h : Inv B s r) (fr : Int) (hw : (Lit.int .u32 fr).wf = true) : ∃ v, ledger_Left.f s fr = some (v, s) ∧ refl_Left.f r fr = some (v, r) := by
  rcases h.1 fr with ⟨h1, h2⟩ | ⟨h1, h2, h3, h4, h5⟩
  · refine ⟨0, ?_, ?_⟩
    · unfold ledger_Left.f
      rw [if_pos hw, h1]
      have e : wrap64 (((none : Option (Int × Int)).getD (0, 0)).2 - ((none : Option (Int × Int)).getD (0, 0)).1) = 0 := w64 (n := 0 - 0) (by omega) (by omega)
      rw [e]
    · unfold refl_Left.f
      rw [if_pos hw, if_pos h2]
  · refine ⟨wrap64 (64 - r.N fr), ?_, ?_⟩
    · unfold ledger_Left.f
      rw [if_pos hw, h1]
      have e : ((some (r.K fr + r.N fr, r.K fr + 64)).getD ((0 : Int), (0 : Int))).2 - ((some (r.K fr + r.N fr, r.K fr + 64)).getD ((0 : Int), (0 : Int))).1 = 64 - r.N fr := by
        show r.K fr + 64 - (r.K fr + r.N fr) = _
        omega
      rw [e]
    · unfold refl_Left.f
      rw [if_pos hw, if_neg (by omega)]

theorem close_pair {B : Nat} {s : LM} {r : RM} (h : Inv B s r) (fr : Int) (hw : (Lit.int .u32 fr).wf = true) : ∃ b s' r', ledger_Close.f s fr = some (b, s') ∧ refl_Close.f r fr = some (b, r') ∧ Inv B s' r' := by
  obtain ⟨hI, hn, hm⟩ := h
  rcases hI fr with ⟨h1, h2⟩ | ⟨h1, h2, h3, h4, h5⟩
  · refine ⟨false, s, ⟨putN r.K fr 0, r.N, r.n⟩, ?_, ?_, fun j => ?_, hn, hm⟩
    · unfold ledger_Close.f
      rw [if_pos hw, if_neg (by rw [h1]; decide)]
    · unfold refl_Close.f
      rw [if_pos hw, h2]
      rfl
    · show Same (s.m j) (putN r.K fr 0 j) (r.N j)
      unfold putN
      by_cases e : j = fr
      · rw [if_pos e, e]; exact .inl ⟨h1, rfl⟩
      · rw [if_neg e]; exact hI j
  · refine ⟨true, ⟨delM s.m fr, s.n⟩, ⟨putN r.K fr 0, r.N, r.n⟩, ?_, ?_, fun j => ?_, hn, hm⟩
    · unfold ledger_Close.f
      rw [if_pos hw, if_pos (by rw [h1]; rfl)]
    · unfold refl_Close.f
      rw [if_pos hw, decide_eq_true (by omega)]
    · show Same (delM s.m fr j) (putN r.K fr 0 j) (r.N j)
      unfold putN delM
      by_cases e : j = fr
      · rw [if_pos e, if_pos e]; exact .inl ⟨rfl, rfl⟩
      · rw [if_neg e, if_neg e]; exact hI j

theorem open_pair {B : Nat} {s : LM} {r : RM} (h : Inv B s r) (hB : B < 999999) (fr k : Int) (hw : (Lit.int .u32 fr).wf = true) : ∃ b s' r', ledger_Open.f s fr k = some (b, s') ∧ refl_Open.f r fr k = some (b, r') ∧ Inv (B + 2) s' r' := by
  have h0 := h
  obtain ⟨hI, hn, hm⟩ := h
  unfold ledger_Open.f refl_Open.f
  rw [if_pos hw, if_pos hw]
  rcases hI fr with ⟨h1, h2⟩ | ⟨h1, h2, h3, h4, h5⟩
  · rw [if_neg (show ¬ (s.m fr).isSome = true by rw [h1]; decide), if_neg (show ¬ 0 < r.K fr by omega)]
    by_cases k1 : k < 1
    · rw [if_pos k1, if_pos k1]; exact ⟨_, _, _, rfl, rfl, h0.up (by omega)⟩
    · rw [if_neg k1, if_neg k1]
      by_cases k2 : 32 < k
      · rw [if_pos k2, if_pos k2]; exact ⟨_, _, _, rfl, rfl, h0.up (by omega)⟩
      · rw [if_neg k2, if_neg k2, if_pos (by omega), if_pos (by omega)]
        refine ⟨_, _, _, rfl, rfl, fun j => ?_, by show s.n + 1 ≤ B + 2; omega, by show r.n + 2 ≤ B + 2; omega⟩
        show Same (putM s.m fr (k, k + 64) j) (putN r.K fr k j) (putN r.N fr 0 j)
        unfold putM putN
        by_cases e : j = fr
        · rw [if_pos e, if_pos e, if_pos e]; exact .inr ⟨by rw [Int.add_zero], by omega, by omega, by omega, by omega⟩
        · rw [if_neg e, if_neg e, if_neg e]; exact hI j
  · rw [if_pos (show (s.m fr).isSome = true by rw [h1]; rfl), if_pos (show 0 < r.K fr by omega)]
    exact ⟨_, _, _, rfl, rfl, h0.up (by omega)⟩

theorem next_pair {B : Nat} {s : LM} {r : RM} (h : Inv B s r) (hB : B < 999999) (fr : Int) (hw : (Lit.int .u32 fr).wf = true) : ∃ v b s' r', ledger_Next.f s fr = some (v, b, s') ∧ refl_Next.f r fr = some (v, b, r') ∧ Inv (B + 1) s' r' := by
  have h0 := h
  obtain ⟨hI, hn, hm⟩ := h
  unfold ledger_Next.f refl_Next.f
  rw [if_pos hw, if_pos hw]
  rcases hI fr with ⟨h1, h2⟩ | ⟨h1, h2, h3, h4, h5⟩
  · rw [h1, if_pos h2]
    exact ⟨_, _, _, _, rfl, rfl, h0.up (by omega)⟩
  · rw [h1, if_neg (show ¬ r.K fr = 0 by omega)]
    simp only
    by_cases e : r.N fr = 64
    · rw [if_pos (by omega), if_pos e]
      exact ⟨_, _, _, _, rfl, rfl, h0.up (by omega)⟩
    · rw [if_neg (by omega), if_neg e, if_pos (by omega), if_pos (by omega), if_pos (by omega), if_pos h2, if_pos h3, if_pos h4, if_pos (by omega), if_pos (by omega)]
      refine ⟨_, _, _, _, rfl, rfl, fun j => ?_, by show s.n + 1 ≤ B + 1; omega, by show r.n + 1 ≤ B + 1; omega⟩
      show Same (putM s.m fr (r.K fr + r.N fr + 1, r.K fr + 64) j) (r.K j) (putN r.N fr (r.N fr + 1) j)
      unfold putM putN
      by_cases e : j = fr
      · rw [if_pos e, if_pos e, e]; exact .inr ⟨by rw [Int.add_assoc], by omega, by omega, by omega, by omega⟩
      · rw [if_neg e, if_neg e]; exact hI j

section
variable (xs : List S29) (i d : Nat) (hi : i + 1 + d = xs.length) (hl : xs.length ≤ 80)
  (ih : ∀ k s r, 20 * d < k → Inv (18 * (i + 1)) s r → girandolelaw23_LedgerAll.l0 k xs ((i : Int) + 1) s r = some true)
include hi hl ih

theorem told (fr : Int) (hw : (Lit.int .u32 fr).wf = true) (k : Nat) (s : LM) (r : RM) (hk : 20 * d + 1 < k) (h : Inv (18 * (i + 1)) s r) : girandolelaw23_LedgerAll.j3 k xs i fr s r = some true := by
  obtain ⟨k, rfl⟩ : ∃ m, k = m + 1 := ⟨k - 1, by omega⟩
  obtain ⟨v, e1, e2⟩ := left_pair h fr hw
  simp only [girandolelaw23_LedgerAll.j3]
  rw [e1, bs, e2, bs, if_pos rfl, w64 (n := (i : Int) + 1) (by omega) (by omega)]
  exact ih k s r (by omega) h

theorem spun (fr c : Int) (hw : (Lit.int .u32 fr).wf = true) (hc : wrap64 (1 + Go.bits .and .i64 ((rd_T29 xs i).f2) 15) = c) (hc1 : c ≤ 16) (e : Nat) :
    ∀ (k j : Nat) (s : LM) (r : RM), (j : Int) + e = c → 20 * d + 2 + e < k → Inv (18 * i + j) s r → girandolelaw23_LedgerAll.l1 k xs i fr j s r = some true := by
  induction e with
  | zero =>
    intro k j s r hj hk h
    obtain ⟨k, rfl⟩ : ∃ m, k = m + 1 := ⟨k - 1, by omega⟩
    simp only [girandolelaw23_LedgerAll.l1]
    rw [if_pos (by omega), if_pos (by omega), hc, if_neg (by omega)]
    exact told xs i d hi hl ih fr hw k s r (by omega) (h.up (by omega))
  | succ e ih2 =>
    intro k j s r hj hk h
    obtain ⟨k, rfl⟩ : ∃ m, k = m + 1 := ⟨k - 1, by omega⟩
    obtain ⟨v, b, s', r', e1, e2, h'⟩ := next_pair h (by omega) fr hw
    have g := ih2 k (j + 1) s' r' (by omega) (by omega) (h'.up (by omega))
    rw [Int.natCast_add, Int.natCast_one] at g
    simp only [girandolelaw23_LedgerAll.l1]
    rw [if_pos (by omega), if_pos (by omega), hc, if_pos (by omega), e1, bs, e2, bs, if_pos rfl, if_neg (by simp), w64 (n := (j : Int) + 1) (by omega) (by omega)]
    exact g

theorem done (fr x : Int) (b : Bool) (hw : (Lit.int .u32 fr).wf = true) (k : Nat) (s : LM) (r : RM) (hk : 20 * d + 19 < k) (h : Inv (18 * i) s r) : girandolelaw23_LedgerAll.j1 k xs i fr x b s r = some true := by
  obtain ⟨k, rfl⟩ : ∃ m, k = m + 1 := ⟨k - 1, by omega⟩
  simp only [girandolelaw23_LedgerAll.j1]
  by_cases hb : b = true
  · obtain ⟨b', s', r', e1, e2, h'⟩ := open_pair h (by omega) fr (rd_T29 xs i).f2 hw
    rw [if_pos hb, if_pos (by omega), if_pos (by omega), e1, bs, e2, bs, if_neg (by simp)]
    exact told xs i d hi hl ih fr hw k s' r' (by omega) (h'.up (by omega))
  · rw [if_neg hb]
    by_cases hx : x = 2
    · obtain ⟨b', s', r', e1, e2, h'⟩ := close_pair h fr hw
      rw [if_pos hx, e1, bs, e2, bs, if_neg (by simp)]
      exact told xs i d hi hl ih fr hw k s' r' (by omega) (h'.up (by omega))
    · rw [if_neg hx]
      have hb : 0 ≤ Go.bits .and .i64 ((rd_T29 xs i).f2) 15 ∧ Go.bits .and .i64 ((rd_T29 xs i).f2) 15 ≤ 15 := and_bd ((rd_T29 xs i).f2) 15 (by omega)
      have hc : wrap64 (1 + Go.bits .and .i64 ((rd_T29 xs i).f2) 15) = 1 + Go.bits .and .i64 ((rd_T29 xs i).f2) 15 := w64 (by omega) (by omega)
      have g := spun xs i d hi hl ih fr _ hw hc (by omega) (1 + Go.bits .and .i64 ((rd_T29 xs i).f2) 15).toNat k 0 s r (by omega) (by omega) (h.up (by omega))
      rw [Int.natCast_zero] at g
      exact g
end

theorem deeds (xs : List S29) (hl : xs.length ≤ 80) (d : Nat) : ∀ (k i : Nat) (s : LM) (r : RM), i + d = xs.length → 20 * d < k → Inv (18 * i) s r → girandolelaw23_LedgerAll.l0 k xs i s r = some true := by
  induction d with
  | zero =>
    intro k i s r hi hk h
    obtain ⟨k, rfl⟩ : ∃ m, k = m + 1 := ⟨k - 1, by omega⟩
    simp only [girandolelaw23_LedgerAll.l0]
    rw [if_neg (by omega)]
    rfl
  | succ d ih =>
    intro k i s r hi hk h
    obtain ⟨k, rfl⟩ : ∃ m, k = m + 1 := ⟨k - 1, by omega⟩
    have ih' : ∀ k s r, 20 * d < k → Inv (18 * (i + 1)) s r → girandolelaw23_LedgerAll.l0 k xs ((i : Int) + 1) s r = some true := fun k s r hk h => by
      have g := ih k (i + 1) s r (by omega) hk h
      rw [Int.natCast_add, Int.natCast_one] at g
      exact g
    simp only [girandolelaw23_LedgerAll.l0]
    rw [if_pos (by omega), if_pos (by omega)]
    split
    · exact done xs i d (by omega) hl ih' _ _ _ (wf32 _) k s r (by omega) h
    · exact done xs i d (by omega) hl ih' _ _ _ (wf32 _) k s r (by omega) h

end All

open All Go.Proofs.Ytcehifhfgpodoaa.Help in
theorem LedgerAll (xs : List S29) : ∃ k, girandolelaw23_LedgerAll.f k xs = some true := by
  refine ⟨20 * xs.length + 1, ?_⟩
  unfold girandolelaw23_LedgerAll.f
  rw [bg, bs, if_pos rfl]
  by_cases h1 : (xs.length : Int) > 80
  · rw [if_pos h1]
  · rw [if_neg h1, show ledger_New.f = some ⟨fun _ => none, 0⟩ from rfl, bs, show refl_New.f = some ⟨fun _ => 0, fun _ => 0, 0⟩ from rfl, bs]
    have g := deeds xs (by omega) xs.length (20 * xs.length + 1) 0 ⟨fun _ => none, 0⟩ ⟨fun _ => 0, fun _ => 0, 0⟩ (by omega) (by omega) ⟨fun j => .inl ⟨rfl, rfl⟩, Nat.le_refl _, Nat.le_refl _⟩
    rw [Int.natCast_zero] at g
    exact g

end Go.Proofs.Ytcehifhfgpodoaa.Pure
