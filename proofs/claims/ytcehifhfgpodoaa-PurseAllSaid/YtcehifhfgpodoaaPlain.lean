/- Rows told by their places; an order; who gets how much: plain law, no program in sight. No condition. -/
import Derived.Test.YtcehifhfgpodoaaHelp
namespace Go.Proofs.Ytcehifhfgpodoaa.Plain
set_option linter.unusedSectionVars false
set_option linter.unusedVariables false
open Go.RowKit Go.Proofs.YtcehifhfgpodoaaW.PrintWords Go.Proofs.YtcehifhfgpodoaaW.PrintMore

/-- a row told by its places -/
def L {α : Type} (n : Nat) (f : Nat → α) : List α := (List.range n).map f
theorem L_len {α : Type} (n : Nat) (f : Nat → α) : (L n f).length = n := by simp [L]
theorem L_get {α : Type} (n : Nat) (f : Nat → α) (i : Nat) (h : i < n) : (L n f)[i]? = some (f i) := by simp [L, h]
theorem L_ext {α : Type} {n : Nat} {f : Nat → α} {xs : List α} (h0 : xs.length = n) (h : ∀ i, i < n → xs[i]? = some (f i)) : xs = L n f := by
  refine List.ext_getElem? fun i => ?_
  by_cases hi : i < n
  · rw [h i hi, L_get n f i hi]
  · rw [List.getElem?_eq_none (by omega), List.getElem?_eq_none (by rw [L_len]; omega)]
theorem L_congr {α : Type} {n : Nat} {f g : Nat → α} (h : ∀ i, i < n → f i = g i) : L n f = L n g := L_ext (L_len n f) fun i hi => by rw [L_get n f i hi, h i hi]
theorem L_set {α : Type} (n : Nat) (f : Nat → α) (i : Nat) (v : α) : (L n f).set i v = L n (fun t => if t = i then v else f t) := by
  refine L_ext (by rw [List.length_set, L_len]) fun j hj => ?_
  rw [List.getElem?_set]
  by_cases e : i = j
  · rw [if_pos e, if_pos (by rw [L_len]; omega), if_pos e.symm]
  · rw [if_neg e, L_get n f j hj, if_neg (fun h => e h.symm)]
theorem L_rep {α : Type} (n : Nat) (v : α) : List.replicate n v = L n (fun _ => v) := L_ext (by simp) fun i hi => by simp [hi]
theorem L_getD {α : Type} (n : Nat) (f : Nat → α) (d : α) (i : Nat) (h : i < n) : (L n f).getD i d = f i := by
  rw [List.getD_eq_getElem?_getD, L_get n f i h]; rfl
theorem L_rd (n : Nat) (f : Nat → Int) (i : Nat) (h : i < n) : rd (L n f) (i : Int) = f i := by
  unfold rd
  rw [Int.toNat_natCast, L_getD n f 0 i h]
theorem L_of {α : Type} (xs : List α) (d : α) : xs = L xs.length (fun i => xs.getD i d) := L_ext rfl fun i hi => by
  rw [List.getD_eq_getElem?_getD, List.getElem?_eq_getElem hi]; rfl

/-- more rounds tell the same -/
theorem lift {α : Type} {F : Nat → Option α} (h : ∀ k, LeO (F k) (F (k + 1))) {k : Nat} {r : α} (e : F k = some r) : ∀ d, F (k + d) = some r
  | 0 => e
  | d + 1 => h _ _ (lift h e d)

theorem L_push {α : Type} (n : Nat) (f : Nat → α) : L n f ++ [f n] = L (n + 1) f := by simp [L, List.range_succ]

/-- n places, n numbers: each one stands somewhere -/
theorem onto : ∀ (n : Nat) (p : Nat → Nat), (∀ s t, s < n → t < n → p s = p t → s = t) → (∀ s, s < n → p s < n) → ∀ y, y < n → ∃ x, x < n ∧ p x = y
  | 0, _, _, _, y, hy => by omega
  | n + 1, p, hi, hr, y, hy => by
    have h1 := hr n (by omega)
    have key : ∀ x, x < n → p x = n → p n < n := fun x hx e => by
      have : p n ≠ n := fun e2 => by have := hi x n (by omega) (by omega) (e.trans e2.symm); omega
      omega
    have ih := onto n (fun x => if p x = n then p n else p x) (fun s t hs ht e => by
      by_cases a : p s = n
      · by_cases b : p t = n
        · exact hi s t (by omega) (by omega) (a.trans b.symm)
        · have e2 : p n = p t := by simpa [a, b] using e
          have := hi n t (by omega) (by omega) e2
          omega
      · by_cases b : p t = n
        · have e2 : p s = p n := by simpa [a, b] using e
          have := hi s n (by omega) (by omega) e2
          omega
        · have e2 : p s = p t := by simpa [a, b] using e
          exact hi s t (by omega) (by omega) e2) (fun s hs => by
      show (if p s = n then p n else p s) < n
      by_cases a : p s = n
      · rw [if_pos a]; exact key s hs a
      · rw [if_neg a]; have := hr s (by omega); omega)
    by_cases e : y = p n
    · exact ⟨n, by omega, e.symm⟩
    · by_cases e2 : y = n
      · obtain ⟨x, hx, hx2⟩ := ih (p n) (by omega)
        by_cases a : p x = n
        · exact ⟨x, by omega, by omega⟩
        · have e3 : p x = p n := by simpa [a] using hx2
          have := hi x n (by omega) (by omega) e3
          omega
      · obtain ⟨x, hx, hx2⟩ := ih y (by omega)
        by_cases a : p x = n
        · have e3 : p n = y := by simpa [a] using hx2
          omega
        · have e3 : p x = y := by simpa [a] using hx2
          exact ⟨x, by omega, e3⟩

/-- the sum of the first i -/
def sm (f : Nat → Int) : Nat → Int
  | 0 => 0
  | i + 1 => sm f i + f i
theorem sm_le {f g : Nat → Int} : ∀ n, (∀ t, t < n → f t ≤ g t) → sm f n ≤ sm g n
  | 0, _ => Int.le_refl _
  | n + 1, h => by have := sm_le n (fun t ht => h t (by omega)); have := h n (by omega); simp only [sm]; omega
theorem sm_congr {f g : Nat → Int} : ∀ n, (∀ t, t < n → f t = g t) → sm f n = sm g n
  | 0, _ => rfl
  | n + 1, h => by have := sm_congr n (fun t ht => h t (by omega)); have := h n (by omega); simp only [sm]; omega
theorem sm_nonneg {f : Nat → Int} : ∀ n, (∀ t, t < n → 0 ≤ f t) → 0 ≤ sm f n
  | 0, _ => Int.le_refl _
  | n + 1, h => by have := sm_nonneg n (fun t ht => h t (by omega)); have := h n (by omega); simp only [sm]; omega
theorem sm_mono {f : Nat → Int} (n : Nat) : ∀ d, (∀ t, t < n + d → 0 ≤ f t) → sm f n ≤ sm f (n + d)
  | 0, _ => Int.le_refl _
  | d + 1, h => by have := sm_mono n d (fun t ht => h t (by omega)); have := h (n + d) (by omega); show sm f n ≤ sm f (n + d) + f (n + d); omega
theorem sm_bd {f : Nat → Int} (m : Int) : ∀ n : Nat, (∀ t, t < n → f t ≤ m) → sm f n ≤ m * n
  | 0, _ => by simp [sm]
  | n + 1, h => by
    have a := sm_bd m n (fun t ht => h t (by omega))
    have b := h n (by omega)
    simp only [sm]
    rw [show ((n + 1 : Nat) : Int) = (n : Int) + 1 from rfl, Int.mul_add, Int.mul_one]
    omega
theorem sm_add (f g : Nat → Int) : ∀ n, sm (fun t => f t + g t) n = sm f n + sm g n
  | 0 => rfl
  | n + 1 => by have := sm_add f g n; simp only [sm]; omega
theorem sm_mul (c : Int) (f : Nat → Int) : ∀ n, sm (fun t => c * f t) n = c * sm f n
  | 0 => by simp [sm]
  | n + 1 => by have := sm_mul c f n; simp only [sm]; rw [Int.mul_add]; omega

theorem mn_le_l (a b : Int) : mn a b ≤ a := by unfold mn; split <;> omega
theorem mn_le_r (a b : Int) : mn a b ≤ b := by unfold mn; split <;> omega
theorem mn_ge (a b c : Int) (h : c ≤ a) (h2 : c ≤ b) : c ≤ mn a b := by unfold mn; split <;> assumption
theorem mn_or (a b : Int) : mn a b = a ∨ mn a b = b := by unfold mn; split <;> simp

def clip (b : Int) : Int := mn (mx b 0) 65536
theorem clip0 (b : Int) : 0 ≤ clip b := by unfold clip mn mx; split <;> split <;> omega
theorem clip1 (b : Int) : clip b ≤ 65536 := by unfold clip mn mx; split <;> split <;> omega
def weigh (r : Int) : Int := if r ≤ 0 then 8 else if r = 1 then 4 else if r = 2 then 2 else 1
theorem weigh1 (r : Int) : 1 ≤ weigh r := by unfold weigh; split; omega; split; omega; split <;> omega
theorem weigh8 (r : Int) : weigh r ≤ 8 := by unfold weigh; split; omega; split; omega; split <;> omega
theorem weigh_le {a b : Int} (h : a ≤ b) : weigh b ≤ weigh a := by
  unfold weigh
  by_cases h1 : a ≤ 0
  · rw [if_pos h1]; split; omega; split; omega; split <;> omega
  · rw [if_neg h1, if_neg (show ¬ b ≤ 0 by omega)]
    by_cases h2 : a = 1
    · rw [if_pos h2]; split; omega; split <;> omega
    · rw [if_neg h2, if_neg (show ¬ b = 1 by omega)]
      by_cases h3 : a = 2
      · rw [if_pos h3]; split <;> omega
      · rw [if_neg h3, if_neg (show ¬ b = 2 by omega)]; omega
theorem mn_mono {a b c d : Int} (h : a ≤ c) (h2 : b ≤ d) : mn a b ≤ mn c d := by unfold mn; split <;> split <;> omega
theorem weigh_eq (a : Int) : wrap64 (2 ^ (3 - (mn (mx a 0) 3)).toNat) = weigh a := by
  unfold weigh
  by_cases h0 : a ≤ 0
  · rw [if_pos h0, show mx a 0 = 0 by unfold mx; split <;> omega]; decide +kernel
  · rw [if_neg h0]
    by_cases h1 : a = 1
    · subst h1; decide +kernel
    · rw [if_neg h1]
      by_cases h2 : a = 2
      · subst h2; decide +kernel
      · rw [if_neg h2, show mx a 0 = a by unfold mx; split <;> omega, show mn a 3 = 3 by unfold mn; split <;> omega]; decide +kernel

/-! ### the parts -/
section
variable (B : Int) (W c : Nat → Int) (n : Nat)
/-- what each one has at first -/
def out (t : Nat) : Int := mn (B * W t / sm W n) (c t)
variable {B W c n} (hB : 0 ≤ B) (hW : ∀ t, t < n → 1 ≤ W t) (hc : ∀ t, t < n → 0 ≤ c t)
include hB hW hc
theorem out0 (t : Nat) (ht : t < n) : 0 ≤ out B W c n t := by
  refine mn_ge _ _ _ (Int.ediv_nonneg (Int.mul_nonneg hB (by have := hW t ht; omega)) (sm_nonneg n fun t ht => by have := hW t ht; omega)) (hc t ht)
omit hB hW hc in
theorem out_le (t : Nat) : out B W c n t ≤ c t := mn_le_r _ _
theorem outs : ∀ i, i ≤ n → sm (out B W c n) i * sm W n ≤ B * sm W i
  | 0, _ => by simp [sm]
  | i + 1, h => by
    have a := outs i (by omega)
    have hp : 0 < sm W n := by
      have := sm_mono (f := W) (i + 1) (n - (i + 1)) (fun t ht => by have := hW t (by omega); omega)
      rw [show i + 1 + (n - (i + 1)) = n by omega] at this
      have h1 := hW i (by omega)
      have h2 := sm_nonneg (f := W) i (fun t ht => by have := hW t (by omega); omega)
      simp only [sm] at this
      omega
    have b : out B W c n i * sm W n ≤ B * W i := by
      have h1 : out B W c n i ≤ B * W i / sm W n := mn_le_l _ _
      have h2 : out B W c n i * sm W n ≤ B * W i / sm W n * sm W n := Int.mul_le_mul_of_nonneg_right h1 (by omega)
      have h3 := Int.ediv_mul_le (B * W i) (show sm W n ≠ 0 by omega)
      omega
    simp only [sm]
    rw [Int.add_mul, Int.mul_add]
    omega
theorem outs_le (i : Nat) (hi : i ≤ n) : sm (out B W c n) i ≤ B := by
  cases i with
  | zero => exact hB
  | succ i =>
    have a := outs hB hW hc (i + 1) hi
    have m := sm_mono (f := W) (i + 1) (n - (i + 1)) (fun t ht => by have := hW t (by omega); omega)
    rw [show i + 1 + (n - (i + 1)) = n by omega] at m
    have h1 := hW i (by omega)
    have h2 := sm_nonneg (f := W) i (fun t ht => by have := hW t (by omega); omega)
    have hp : 0 < sm W n := by simp only [sm] at m; omega
    have b : sm (out B W c n) (i + 1) * sm W n ≤ B * sm W n := Int.le_trans a (Int.mul_le_mul_of_nonneg_left m hB)
    exact Int.le_of_mul_le_mul_right b hp
end

/-- the second round: p tells who is at which place; (what each has, what is left) -/
def st (c o : Nat → Int) (B : Int) (p : Nat → Nat) : Nat → (Nat → Int) × Int
  | 0 => (o, B)
  | j + 1 => (fun t => if t = p j then (st c o B p j).1 t + mn (c (p j) - (st c o B p j).1 (p j)) (st c o B p j).2 else (st c o B p j).1 t, (st c o B p j).2 - mn (c (p j) - (st c o B p j).1 (p j)) (st c o B p j).2)
section
variable {c o : Nat → Int} {B : Int} {p : Nat → Nat} {n : Nat} (hp : ∀ s t, s < n → t < n → p s = p t → s = t)
include hp
/-- who has not been asked yet has what one had -/
theorem st_not : ∀ j, j ≤ n → ∀ s, s < n → j ≤ s → (st c o B p j).1 (p s) = o (p s)
  | 0, _, _, _, _ => rfl
  | j + 1, hj, s, hs, hjs => by
    show (if p s = p j then _ else (st c o B p j).1 (p s)) = _
    rw [if_neg (fun e => by have := hp s j hs (by omega) e; omega)]
    exact st_not j (by omega) s hs (by omega)
/-- what the one at place j is given -/
def gv (c o : Nat → Int) (B : Int) (p : Nat → Nat) (j : Nat) : Int := mn (c (p j) - o (p j)) (st c o B p j).2
theorem st_at (j : Nat) (hj : j < n) : (st c o B p (j + 1)).1 (p j) = o (p j) + gv c o B p j := by
  show (if p j = p j then (st c o B p j).1 (p j) + _ else _) = _
  rw [if_pos rfl, st_not hp j (by omega) j hj (Nat.le_refl _)]
  rfl
theorem st_left (j : Nat) (hj : j < n) : (st c o B p (j + 1)).2 = (st c o B p j).2 - gv c o B p j := by
  show (st c o B p j).2 - mn (c (p j) - (st c o B p j).1 (p j)) (st c o B p j).2 = _
  rw [st_not hp j (by omega) j hj (Nat.le_refl _)]
  rfl
theorem st_done (s : Nat) (hs : s < n) : ∀ d, s + 1 + d ≤ n → (st c o B p (s + 1 + d)).1 (p s) = o (p s) + gv c o B p s
  | 0, _ => st_at hp s hs
  | d + 1, hd => by
    show (if p s = p (s + 1 + d) then _ else (st c o B p (s + 1 + d)).1 (p s)) = _
    rw [if_neg (fun e => by have := hp s (s + 1 + d) hs (by omega) e; omega)]
    exact st_done s hs d (by omega)
/-- what one has in the end -/
theorem st_end (s : Nat) (hs : s < n) : (st c o B p n).1 (p s) = o (p s) + gv c o B p s := by
  have := st_done (c := c) (o := o) (B := B) hp s hs (n - (s + 1)) (by omega)
  rwa [show s + 1 + (n - (s + 1)) = n by omega] at this
variable (hr : ∀ s, s < n → p s < n) (ho : ∀ t, t < n → 0 ≤ o t ∧ o t ≤ c t) (hB : 0 ≤ B)
include hr ho hB
theorem st_left0 : ∀ j, j ≤ n → 0 ≤ (st c o B p j).2 ∧ (st c o B p j).2 ≤ B
  | 0, _ => ⟨hB, Int.le_refl _⟩
  | j + 1, hj => by
    have a := st_left0 j (by omega)
    have b := ho (p j) (hr j (by omega))
    rw [st_left hp j (by omega)]
    have h1 : gv c o B p j ≤ (st c o B p j).2 := mn_le_r _ _
    have h2 : 0 ≤ gv c o B p j := mn_ge _ _ _ (by omega) a.1
    omega
theorem gv0 (j : Nat) (hj : j < n) : 0 ≤ gv c o B p j ∧ gv c o B p j ≤ c (p j) - o (p j) := by
  have a := st_left0 hp hr ho hB j (by omega)
  have b := ho (p j) (hr j hj)
  exact ⟨mn_ge _ _ _ (by omega) a.1, mn_le_l _ _⟩
/-- behind one that is not given all, there is nothing left -/
theorem gv_short (j : Nat) (hj : j < n) (h : gv c o B p j < c (p j) - o (p j)) : (st c o B p (j + 1)).2 = 0 := by
  rw [st_left hp j hj]
  rcases mn_or (c (p j) - o (p j)) (st c o B p j).2 with e | e
  · unfold gv at h; omega
  · unfold gv; omega
theorem st_zero (j : Nat) (hj : (st c o B p j).2 = 0) : ∀ d, j + d ≤ n → (st c o B p (j + d)).2 = 0
  | 0, _ => hj
  | d + 1, hd => by
    have a := st_zero j hj d (by omega)
    have b := st_left0 hp hr ho hB (j + d + 1) (by omega)
    have e := st_left (c := c) (o := o) (B := B) hp (j + d) (by omega)
    have g := gv0 hp hr ho hB (j + d) (by omega)
    show (st c o B p (j + d + 1)).2 = 0
    omega
end

/-! ### who is ahead of whom -/
def cp (a b : Int) : Int := if a < b then -1 else if a > b then 1 else 0
theorem cp_neg (a b : Int) : cp a b < 0 ↔ a < b := by unfold cp; split; omega; split <;> omega
theorem cp_zero (a b : Int) : cp a b = 0 ↔ a = b := by unfold cp; split; omega; split <;> omega
section
variable (rk nr : Nat → Int)
def lx (a b : Nat) : Int := if cp (rk a) (rk b) = 0 then cp (nr a) (nr b) else cp (rk a) (rk b)
def lt (a b : Nat) : Prop := rk a < rk b ∨ rk a = rk b ∧ (nr a < nr b ∨ nr a = nr b ∧ a < b)
variable {rk nr}
theorem lx_lt {a b : Nat} (h : b < a) : lx rk nr a b < 0 ↔ lt rk nr a b := by
  unfold lx lt
  by_cases e : rk a = rk b
  · rw [if_pos ((cp_zero _ _).mpr e), cp_neg]; omega
  · rw [if_neg (fun h => e ((cp_zero _ _).mp h)), cp_neg]; omega
theorem lt_irrefl (a : Nat) : ¬ lt rk nr a a := by unfold lt; omega
theorem lt_trans {a b c : Nat} (h : lt rk nr a b) (k : lt rk nr b c) : lt rk nr a c := by unfold lt at *; omega
theorem lt_total {a b : Nat} (h : a ≠ b) : lt rk nr a b ∨ lt rk nr b a := by unfold lt; omega
end

/-! ### a row of numbers of places; one is brought to its place -/
def IL (n : Nat) (p : Nat → Nat) : List Int := L n (fun t => (p t : Int))
theorem IL_len (n : Nat) (p : Nat → Nat) : (IL n p).length = n := L_len _ _
theorem IL_rd (n : Nat) (p : Nat → Nat) (i : Nat) (h : i < n) : rd (IL n p) (i : Int) = (p i : Int) := L_rd n _ i h
def sw (p : Nat → Nat) (i j : Nat) : Nat → Nat := fun t => if t = j then p i else if t = i then p j else p t
theorem IL_sw (n : Nat) (p : Nat → Nat) (i j : Nat) (hi : i < n) (hj : j < n) : ((IL n p).set i (rd (IL n p) (j : Int))).set j (rd (IL n p) (i : Int)) = IL n (sw p i j) := by
  rw [IL_rd n p i hi, IL_rd n p j hj]
  unfold IL
  rw [L_set, L_set]
  refine L_congr fun t ht => ?_
  unfold sw
  by_cases e : t = j
  · rw [if_pos e, if_pos e]
  · rw [if_neg e, if_neg e]
    by_cases e2 : t = i
    · rw [if_pos e2, if_pos e2]
    · rw [if_neg e2, if_neg e2]

/-- the places from a to i in order, the rest as it was -/
structure Srt (rk nr : Nat → Int) (p0 p : Nat → Nat) (a i : Nat) : Prop where
  lo : ∀ t, a ≤ t → t < i → a ≤ p t ∧ p t < i
  inj : ∀ s t, a ≤ s → s < i → a ≤ t → t < i → p s = p t → s = t
  srt : ∀ s t, a ≤ s → s < t → t < i → lt rk nr (p s) (p t)
  rest : ∀ t, t < a ∨ i ≤ t → p t = p0 t
/-- the same, but for the one at place j, which is i -/
structure Inn (rk nr : Nat → Int) (p0 p : Nat → Nat) (a i j : Nat) : Prop where
  aj : a ≤ j
  ji : j ≤ i
  itself : p j = i
  lo : ∀ t, a ≤ t → t ≤ i → t ≠ j → a ≤ p t ∧ p t < i
  inj : ∀ s t, a ≤ s → s ≤ i → a ≤ t → t ≤ i → p s = p t → s = t
  srt : ∀ s t, a ≤ s → s < t → t ≤ i → s ≠ j → t ≠ j → lt rk nr (p s) (p t)
  big : ∀ t, j < t → t ≤ i → lt rk nr i (p t)
  rest : ∀ t, t < a ∨ i < t → p t = p0 t
section
variable {rk nr : Nat → Int} {p0 p : Nat → Nat} {a i j : Nat}
theorem Srt.start (h : Srt rk nr p0 p a i) (hai : a ≤ i) (h0 : p0 i = i) : Inn rk nr p0 p a i i where
  aj := hai
  ji := Nat.le_refl _
  itself := (h.rest i (.inr (Nat.le_refl _))).trans h0
  lo t h1 h2 h3 := h.lo t h1 (by omega)
  inj s t h1 h2 h3 h4 e := by
    have hi : p i = i := (h.rest i (.inr (Nat.le_refl _))).trans h0
    by_cases es : s = i
    · by_cases et : t = i
      · omega
      · have := h.lo t h3 (by omega); rw [es, hi] at e; omega
    · by_cases et : t = i
      · have := h.lo s h1 (by omega); rw [et, hi] at e; omega
      · exact h.inj s t h1 (by omega) h3 (by omega) e
  srt s t h1 h2 h3 h4 h5 := h.srt s t h1 h2 (by omega)
  big t h1 h2 := by omega
  rest t ht := h.rest t (by omega)
theorem Inn.stop (h : Inn rk nr p0 p a i j) (hs : j = a ∨ ¬ lt rk nr i (p (j - 1))) : Srt rk nr p0 p a (i + 1) where
  lo t h1 h2 := by
    by_cases e : t = j
    · rw [e, h.itself]; exact ⟨Nat.le_trans h.aj h.ji, by omega⟩
    · have := h.lo t h1 (by omega) e; omega
  inj s t h1 h2 h3 h4 e := h.inj s t h1 (by omega) h3 (by omega) e
  srt s t h1 h2 h3 := by
    by_cases es : s = j
    · rw [es, h.itself]; exact h.big t (by omega) (by omega)
    · by_cases et : t = j
      · rw [et, h.itself]
        have hj : a < j := by omega
        have hl := h.lo (j - 1) (by omega) (by have := h.ji; omega) (by omega)
        have h6 : lt rk nr (p (j - 1)) i := by
          rcases lt_total (rk := rk) (nr := nr) (a := p (j - 1)) (b := i) (by omega) with k | k
          · exact k
          · rcases hs with h7 | h7
            · omega
            · exact absurd k h7
        by_cases e6 : s = j - 1
        · rw [e6]; exact h6
        · exact lt_trans (h.srt s (j - 1) h1 (by omega) (by have := h.ji; omega) es (by omega)) h6
      · exact h.srt s t h1 h2 (by omega) es et
  rest t ht := h.rest t (by omega)
theorem Inn.swap (h : Inn rk nr p0 p a i j) (hj : a < j) (hs : lt rk nr i (p (j - 1))) : Inn rk nr p0 (sw p j (j - 1)) a i (j - 1) := by
  have hji := h.ji
  have e1 : sw p j (j - 1) (j - 1) = p j := by unfold sw; rw [if_pos rfl]
  have e2 : sw p j (j - 1) j = p (j - 1) := by unfold sw; rw [if_neg (by omega), if_pos rfl]
  have e3 : ∀ t, t ≠ j → t ≠ j - 1 → sw p j (j - 1) t = p t := fun t h1 h2 => by unfold sw; rw [if_neg h2, if_neg h1]
  have hi := h.itself
  have hl := h.lo (j - 1) (by omega) (by omega) (by omega)
  refine ⟨by omega, by omega, e1.trans hi, fun t h1 h2 h3 => ?_, fun s t h1 h2 h3 h4 e => ?_, fun s t h1 h2 h3 h4 h5 => ?_, fun t h1 h2 => ?_, fun t ht => ?_⟩
  · by_cases e : t = j
    · rw [e, e2]; exact hl
    · rw [e3 t e h3]; exact h.lo t h1 h2 e
  · have key : ∀ u, a ≤ u → u ≤ i → sw p j (j - 1) u = p (if u = j then j - 1 else if u = j - 1 then j else u) := fun u _ _ => by
      by_cases a1 : u = j
      · rw [if_pos a1, a1, e2]
      · rw [if_neg a1]
        by_cases a2 : u = j - 1
        · rw [if_pos a2, a2, e1]
        · rw [if_neg a2, e3 u a1 a2]
    rw [key s h1 h2, key t h3 h4] at e
    have g := h.inj _ _ (by split; omega; split <;> omega) (by split; omega; split <;> omega) (by split; omega; split <;> omega) (by split; omega; split <;> omega) e
    repeat' (split at g)
    all_goals omega
  · by_cases es : s = j
    · rw [es, e2, e3 t (by omega) h5]
      exact h.srt (j - 1) t (by omega) (by omega) h3 (by omega) (by omega)
    · rw [e3 s es h4]
      by_cases et : t = j
      · rw [et, e2]; exact h.srt s (j - 1) h1 (by omega) (by omega) es (by omega)
      · rw [e3 t et h5]; exact h.srt s t h1 h2 h3 es et
  · by_cases et : t = j
    · rw [et, e2]; exact hs
    · rw [e3 t et (by omega)]; exact h.big t (by omega) h2
  · rw [e3 t (by have := h.aj; omega) (by omega)]; exact h.rest t ht
theorem Srt.one (h0 : p a = a) : Srt rk nr p p a (a + 1) where
  lo t h1 h2 := by rw [show t = a by omega, h0]; omega
  inj s t h1 h2 h3 h4 e := by omega
  srt s t h1 h2 h3 := by omega
  rest t ht := rfl
theorem Srt.none : Srt rk nr p p a a where
  lo t h1 h2 := by omega
  inj s t h1 h2 h3 h4 e := by omega
  srt s t h1 h2 h3 := by omega
  rest t ht := rfl
end

end Go.Proofs.Ytcehifhfgpodoaa.Plain
