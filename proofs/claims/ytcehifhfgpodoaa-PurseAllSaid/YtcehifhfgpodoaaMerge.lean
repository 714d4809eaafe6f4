/- Turning rows of places: plain law, no program in sight. No condition. -/
import Derived.Test.YtcehifhfgpodoaaPlain
namespace Go.Proofs.Ytcehifhfgpodoaa.Plain
set_option linter.unusedSectionVars false
set_option linter.unusedVariables false
open Go.RowKit Go.Proofs.Ytcehifhfgpodoaa.Help Go.Proofs.YtcehifhfgpodoaaW.PrintWords Go.Proofs.YtcehifhfgpodoaaW.PrintMore

/-- s turns the places from a to b among themselves, and no other -/
structure Sg (a b : Nat) (s : Nat → Nat) : Prop where
  inj : ∀ x y, s x = s y → x = y
  ins : ∀ t, a ≤ t → t < b → a ≤ s t ∧ s t < b
  out : ∀ t, t < a ∨ b ≤ t → s t = t
theorem Sg.id (a b : Nat) : Sg a b (fun t => t) := ⟨fun _ _ h => h, fun _ h k => ⟨h, k⟩, fun _ _ => rfl⟩
theorem Sg.comp {a b : Nat} {s r : Nat → Nat} (h : Sg a b s) (k : Sg a b r) : Sg a b (fun t => s (r t)) :=
  ⟨fun x y e => k.inj x y (h.inj _ _ e), fun t h1 h2 => by have := k.ins t h1 h2; exact h.ins _ this.1 this.2, fun t ht => by rw [k.out t ht]; exact h.out t ht⟩
theorem Sg.wider {a b a' b' : Nat} {s : Nat → Nat} (h : Sg a b s) (h1 : a' ≤ a) (h2 : b ≤ b') : Sg a' b' s :=
  ⟨h.inj, fun t h3 h4 => by
    by_cases e : a ≤ t ∧ t < b
    · have := h.ins t e.1 e.2; omega
    · rw [h.out t (by omega)]; exact ⟨h3, h4⟩, fun t ht => h.out t (by omega)⟩
def Pm (a b : Nat) (p q : Nat → Nat) : Prop := ∃ s, Sg a b s ∧ q = fun t => p (s t)
theorem Pm.refl (a b : Nat) (p : Nat → Nat) : Pm a b p p := ⟨fun t => t, Sg.id a b, rfl⟩
theorem Pm.trans {a b : Nat} {p q r : Nat → Nat} (h : Pm a b p q) (k : Pm a b q r) : Pm a b p r := by
  obtain ⟨s, hs, rfl⟩ := h
  obtain ⟨u, hu, rfl⟩ := k
  exact ⟨fun t => s (u t), hs.comp hu, rfl⟩
theorem Pm.wider {a b a' b' : Nat} {p q : Nat → Nat} (h : Pm a b p q) (h1 : a' ≤ a) (h2 : b ≤ b') : Pm a' b' p q := by
  obtain ⟨s, hs, e⟩ := h
  exact ⟨s, hs.wider h1 h2, e⟩
theorem Pm.from_ {a b : Nat} {p q : Nat → Nat} (h : Pm a b p q) (t : Nat) (h1 : a ≤ t) (h2 : t < b) : ∃ s, a ≤ s ∧ s < b ∧ q t = p s := by
  obtain ⟨s, hs, rfl⟩ := h
  exact ⟨s t, (hs.ins t h1 h2).1, (hs.ins t h1 h2).2, rfl⟩
theorem Pm.out {a b : Nat} {p q : Nat → Nat} (h : Pm a b p q) (t : Nat) (ht : t < a ∨ b ≤ t) : q t = p t := by
  obtain ⟨s, hs, rfl⟩ := h
  show p (s t) = p t
  rw [hs.out t ht]

/-- two neighbouring stretches change their places -/
def ro (a m b : Nat) : Nat → Nat := fun t => if a ≤ t ∧ t < a + (b - m) then t + (m - a) else if a + (b - m) ≤ t ∧ t < b then t - (b - m) else t
theorem ro1 (a m b t : Nat) (h : t < a ∨ (b ≤ t ∧ a ≤ m ∧ m ≤ b)) : ro a m b t = t := by unfold ro; rw [if_neg (by omega), if_neg (by omega)]
theorem ro2 (a m b t : Nat) (h : a ≤ t) (h2 : t < a + (b - m)) : ro a m b t = t + (m - a) := by unfold ro; rw [if_pos ⟨h, h2⟩]
theorem ro3 (a m b t : Nat) (h : a + (b - m) ≤ t) (h2 : t < b) : ro a m b t = t - (b - m) := by unfold ro; rw [if_neg (by omega), if_pos ⟨h, h2⟩]
theorem ro_sg (a m b : Nat) (h : a ≤ m) (h2 : m ≤ b) : Sg a b (ro a m b) where
  inj x y e := by unfold ro at e; (repeat' (split at e)) <;> omega
  ins t h1 h2 := by unfold ro; (repeat' split) <;> omega
  out t ht := ro1 a m b t (by omega)
theorem ro_left (m b : Nat) : ro m m b = fun t => t := by funext t; unfold ro; (repeat' split) <;> omega
theorem ro_right (a m : Nat) : ro a m m = fun t => t := by funext t; unfold ro; (repeat' split) <;> omega

/-- two stretches of n places are exchanged -/
def sx (x y n : Nat) : Nat → Nat := fun t => if x ≤ t ∧ t < x + n then t - x + y else if y ≤ t ∧ t < y + n then t - y + x else t
theorem sx_none (x y : Nat) : sx x y 0 = fun t => t := by funext t; unfold sx; (repeat' split) <;> omega
theorem sx_step (p : Nat → Nat) (x y i : Nat) (h : x + i < y) : sw (fun t => p (sx x y i t)) (x + i) (y + i) = fun t => p (sx x y (i + 1) t) := by
  funext t
  unfold sw
  by_cases e : t = y + i
  · rw [if_pos e]
    show p (sx x y i (x + i)) = p (sx x y (i + 1) t)
    refine congrArg p ?_
    rw [e]
    unfold sx
    (repeat' split) <;> omega
  · rw [if_neg e]
    by_cases e2 : t = x + i
    · rw [if_pos e2]
      show p (sx x y i (y + i)) = p (sx x y (i + 1) t)
      refine congrArg p ?_
      rw [e2]
      unfold sx
      (repeat' split) <;> omega
    · rw [if_neg e2]
      refine congrArg p ?_
      unfold sx
      (repeat' split) <;> omega
theorem ro_gt (m i j t : Nat) (h : j < i) (h2 : i ≤ m) : sx (m - i) m j (ro (m - (i - j)) m (m + j) t) = ro (m - i) m (m + j) t := by
  unfold sx ro
  (repeat' split) <;> omega
theorem ro_lt (m i j t : Nat) (h : i < j) (h2 : i ≤ m) : sx (m - i) (m + j - i) i (ro (m - i) m (m + (j - i)) t) = ro (m - i) m (m + j) t := by
  unfold sx ro
  (repeat' split) <;> omega
theorem ro_eq (m i t : Nat) (h2 : i ≤ m) : sx (m - i) m i t = ro (m - i) m (m + i) t := by
  unfold sx ro
  (repeat' split) <;> omega
/-- one is carried upwards, or downwards -/
theorem ro_up (p : Nat → Nat) (a t : Nat) (h : a ≤ t) : sw (fun u => p (ro a (a + 1) (t + 1) u)) t (t + 1) = fun u => p (ro a (a + 1) (t + 2) u) := by
  funext u
  unfold sw
  by_cases e : u = t + 1
  · rw [if_pos e, e]
    refine congrArg p ?_
    unfold ro
    (repeat' split) <;> omega
  · rw [if_neg e]
    by_cases e2 : u = t
    · rw [if_pos e2, e2]
      refine congrArg p ?_
      unfold ro
      (repeat' split) <;> omega
    · rw [if_neg e2]
      refine congrArg p ?_
      unfold ro
      (repeat' split) <;> omega
theorem ro_down (p : Nat → Nat) (m t : Nat) (h : t + 1 ≤ m) : sw (fun u => p (ro (t + 1) m (m + 1) u)) (t + 1) t = fun u => p (ro t m (m + 1) u) := by
  funext u
  unfold sw
  by_cases e : u = t
  · rw [if_pos e, e]
    refine congrArg p ?_
    unfold ro
    (repeat' split) <;> omega
  · rw [if_neg e]
    by_cases e2 : u = t + 1
    · rw [if_pos e2, e2]
      refine congrArg p ?_
      unfold ro
      (repeat' split) <;> omega
    · rw [if_neg e2]
      refine congrArg p ?_
      unfold ro
      (repeat' split) <;> omega

/-- in order from a to b -/
def Od (rk nr : Nat → Int) (p : Nat → Nat) (a b : Nat) : Prop := ∀ s t, a ≤ s → s < t → t < b → lt rk nr (p s) (p t)
/-- all of one stretch ahead of all of another one -/
def Ah (rk nr : Nat → Int) (p : Nat → Nat) (a b c d : Nat) : Prop := ∀ s t, a ≤ s → s < b → c ≤ t → t < d → lt rk nr (p s) (p t)
theorem od_ro {rk nr : Nat → Int} {p : Nat → Nat} {a s m e b : Nat} (h1 : a ≤ s) (h2 : s ≤ m) (h3 : m ≤ e) (h4 : e ≤ b) (o1 : Od rk nr p a m) (o2 : Od rk nr p m b)
    (x : Ah rk nr p m e s m) (y : Ah rk nr p a s m e) (z : Ah rk nr p s m e b) (v : Ah rk nr p a s e b) : Od rk nr (fun t => p (ro s m e t)) a b := by
  intro i j hi hij hj
  show lt rk nr (p (ro s m e i)) (p (ro s m e j))
  by_cases i1 : i < s
  · rw [ro1 s m e i (.inl i1)]
    by_cases j1 : j < s
    · rw [ro1 s m e j (.inl j1)]; exact o1 i j hi hij (by omega)
    · by_cases j2 : j < s + (e - m)
      · rw [ro2 s m e j (by omega) j2]; exact y i _ hi i1 (by omega) (by omega)
      · by_cases j3 : j < e
        · rw [ro3 s m e j (by omega) j3]; exact o1 i _ hi (by omega) (by omega)
        · rw [ro1 s m e j (.inr ⟨by omega, h2, h3⟩)]; exact v i j hi i1 (by omega) hj
  · by_cases i2 : i < s + (e - m)
    · rw [ro2 s m e i (by omega) i2]
      by_cases j2 : j < s + (e - m)
      · rw [ro2 s m e j (by omega) j2]; exact o2 _ _ (by omega) (by omega) (by omega)
      · by_cases j3 : j < e
        · rw [ro3 s m e j (by omega) j3]; exact x _ _ (by omega) (by omega) (by omega) (by omega)
        · rw [ro1 s m e j (.inr ⟨by omega, h2, h3⟩)]; exact o2 _ _ (by omega) (by omega) (by omega)
    · by_cases i3 : i < e
      · rw [ro3 s m e i (by omega) i3]
        by_cases j3 : j < e
        · rw [ro3 s m e j (by omega) j3]; exact o1 _ _ (by omega) (by omega) (by omega)
        · rw [ro1 s m e j (.inr ⟨by omega, h2, h3⟩)]; exact z _ _ (by omega) (by omega) (by omega) (by omega)
      · rw [ro1 s m e i (.inr ⟨by omega, h2, h3⟩), ro1 s m e j (.inr ⟨by omega, h2, h3⟩)]; exact o2 i j (by omega) hij hj

/-- half of a sum -/
theorem half (i j : Nat) (hi : i ≤ 100000) (hj : j ≤ 100000) : wrap64 (IntKind.u64.wrap (wrap64 ((i : Int) + (j : Int))) / 2) = (((i + j) / 2 : Nat) : Int) := by
  rw [w64 (n := (i : Int) + (j : Int)) (by omega) (by omega), wu64 (by omega) (by omega), w64 (by omega) (by omega)]
  omega

end Go.Proofs.Ytcehifhfgpodoaa.Plain
