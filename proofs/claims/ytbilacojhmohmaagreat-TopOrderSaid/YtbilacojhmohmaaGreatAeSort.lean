/- The sort of whole numbers of 32 bits, run at every order of some few. No condition. -/
import Derived.Test.YtbilacojhmohmaaGreatAeKeys
import Derived.KernelRfl
namespace Go.Proofs.YtbilacojhmohmaaGreat.Ae
open Go
set_option linter.unusedVariables false
set_option linter.unusedSimpArgs false

noncomputable def memS (x : Nat) (l : List Nat) : Bool := List.rec (motive := fun _ => Bool) false (fun y _ ih => bb2 (Nat.beq x y) true ih) l
noncomputable def delN (x : Nat) (l : List Nat) : List Nat := List.rec (motive := fun _ => List Nat) [] (fun y t ih => bb2 (Nat.beq x y) t (y :: ih)) l
noncomputable def onlyN (l : List Nat) (u : List Nat) : List Nat := List.rec (motive := fun _ => List Nat) [] (fun y _ ih => bb2 (memS y l) (y :: ih) ih) u
noncomputable def cellsN (l : List Nat) : List AV := List.rec (motive := fun _ => List AV) [] (fun y _ ih => .int .u32 (.ofNat y) :: ih) l
noncomputable def countN (l : List Nat) : Nat := List.rec (motive := fun _ => Nat) 0 (fun _ _ ih => Nat.succ ih) l
noncomputable def appN (l m : List Nat) : List Nat := List.rec (motive := fun _ => List Nat) m (fun y _ ih => y :: ih) l
/-- the order of l, as the code's Sort leaves it: as in u -/
noncomputable def sortAt (u l : List Nat) : Bool := match cAny 318 [.slc (some (0, 0)) (countN l) (.upto 1 (countN l))] (ofObjs [.cells (cellsN l) 28 true] 1) with
  | some (.ret (.tuple []) aw) => (match aw.get 0 with
    | some (.cells l' e true) => bb2 (Nat.beq e 28) (sameInts l' (cellsN (onlyN l u))) false
    | _ => false)
  | _ => false
/-- every order that begins so and goes on with some of the rest -/
noncomputable def orders (f : List Nat → Bool) (n : Nat) : List Nat → List Nat → Bool :=
  Nat.rec (motive := fun _ => List Nat → List Nat → Bool) (fun _ _ => false) (fun _ ih pre rest => bb2 (f pre)
    (List.rec (motive := fun _ => Bool) true (fun x _ more => bb2 (ih (appN pre (x :: [])) (delN x rest)) more false) rest) false) n
theorem memS_iff {x : Nat} : ∀ {l : List Nat}, memS x l = true ↔ x ∈ l
  | [] => ⟨fun h => (by cases h), fun h => (by cases h)⟩
  | y :: l => by
    have e : memS x (y :: l) = bb2 (Nat.beq x y) true (memS x l) := rfl
    rw [e, bb2_eq, List.mem_cons, ← memS_iff (l := l)]
    cases h : Nat.beq x y with
    | true => simp [Nat.eq_of_beq_eq_true h]
    | false => simp [ne_of_beq h]
theorem appN_eq (l m : List Nat) : appN l m = l ++ m := by induction l with | nil => rfl | cons x l ih => show x :: appN l m = _; rw [ih]; rfl
theorem mem_delN {x y : Nat} : ∀ {l : List Nat}, y ∈ l → y ≠ x → y ∈ delN x l
  | z :: l, h, hne => by
    have e : delN x (z :: l) = bb2 (Nat.beq x z) l (z :: delN x l) := rfl
    rw [e, bb2_eq]
    cases hz : Nat.beq x z with
    | true =>
      have := Nat.eq_of_beq_eq_true hz; subst this
      rcases List.mem_cons.1 h with h | h
      · exact (hne h).elim
      · simpa using h
    | false =>
      rcases List.mem_cons.1 h with h | h
      · simp [h]
      · simp [mem_delN h hne]
theorem length_delN {x : Nat} : ∀ {l : List Nat}, x ∈ l → (delN x l).length + 1 = l.length
  | z :: l, h => by
    have e : delN x (z :: l) = bb2 (Nat.beq x z) l (z :: delN x l) := rfl
    rw [e, bb2_eq]
    cases hz : Nat.beq x z with
    | true => rfl
    | false =>
      rcases List.mem_cons.1 h with h | h
      · exact (ne_of_beq hz h).elim
      · have := length_delN h; simp; omega
theorem orders_ok {f : List Nat → Bool} : ∀ {n : Nat} {pre rest : List Nat}, orders f n pre rest = true → ∀ l : List Nat, l.Nodup → (∀ x ∈ l, x ∈ rest) → f (pre ++ l) = true
  | 0, _, _, h, _, _, _ => by cases h
  | n + 1, pre, rest, h, l, hn, hl => by
    have h : bb2 (f pre) (List.rec (motive := fun _ => Bool) true (fun x _ more => bb2 (orders f n (appN pre (x :: [])) (delN x rest)) more false) rest) false = true := h
    rw [bb2_eq] at h
    cases hp : f pre <;> simp only [hp, cond_true, cond_false, reduceCtorEq] at h
    cases l with
    | nil => simpa using hp
    | cons x l =>
      have all : ∀ (R r : List Nat), List.rec (motive := fun _ => Bool) true (fun x _ more => bb2 (orders f n (appN pre (x :: [])) (delN x R)) more false) r = true → ∀ x ∈ r, orders f n (pre ++ [x]) (delN x R) = true := fun R r => by
        induction r with
        | nil => intro _ x hx; cases hx
        | cons y r ih =>
          intro h x hx
          have h : bb2 (orders f n (appN pre (y :: [])) (delN y R)) (List.rec (motive := fun _ => Bool) true (fun x _ more => bb2 (orders f n (appN pre (x :: [])) (delN x R)) more false) r) false = true := h
          rw [bb2_eq] at h
          cases hy : orders f n (appN pre (y :: [])) (delN y R) <;> simp only [hy, cond_true, cond_false, reduceCtorEq] at h
          rcases List.mem_cons.1 hx with rfl | hx
          · rw [← appN_eq]; exact hy
          · exact ih h x hx
      have hx := all rest rest h x (hl x (by simp))
      obtain ⟨h1, h2⟩ := List.nodup_cons.1 hn
      have := orders_ok hx l h2 fun y hy => mem_delN (hl y (by simp [hy])) fun e => h1 (e ▸ hy)
      simpa using this

/-! frames 10, 20, .., 60 -/
noncomputable def tens : List Nat := [10, 20, 30, 40, 50, 60]
theorem tens_10_20 : orders (sortAt tens) 5 [10, 20] [30, 40, 50, 60] = true := by kernel_rfl
theorem tens_10_30 : orders (sortAt tens) 5 [10, 30] [20, 40, 50, 60] = true := by kernel_rfl
theorem tens_10_40 : orders (sortAt tens) 5 [10, 40] [20, 30, 50, 60] = true := by kernel_rfl
theorem tens_10_50 : orders (sortAt tens) 5 [10, 50] [20, 30, 40, 60] = true := by kernel_rfl
theorem tens_10_60 : orders (sortAt tens) 5 [10, 60] [20, 30, 40, 50] = true := by kernel_rfl
theorem tens_20_10 : orders (sortAt tens) 5 [20, 10] [30, 40, 50, 60] = true := by kernel_rfl
theorem tens_20_30 : orders (sortAt tens) 5 [20, 30] [10, 40, 50, 60] = true := by kernel_rfl
theorem tens_20_40 : orders (sortAt tens) 5 [20, 40] [10, 30, 50, 60] = true := by kernel_rfl
theorem tens_20_50 : orders (sortAt tens) 5 [20, 50] [10, 30, 40, 60] = true := by kernel_rfl
theorem tens_20_60 : orders (sortAt tens) 5 [20, 60] [10, 30, 40, 50] = true := by kernel_rfl
theorem tens_30_10 : orders (sortAt tens) 5 [30, 10] [20, 40, 50, 60] = true := by kernel_rfl
theorem tens_30_20 : orders (sortAt tens) 5 [30, 20] [10, 40, 50, 60] = true := by kernel_rfl
theorem tens_30_40 : orders (sortAt tens) 5 [30, 40] [10, 20, 50, 60] = true := by kernel_rfl
theorem tens_30_50 : orders (sortAt tens) 5 [30, 50] [10, 20, 40, 60] = true := by kernel_rfl
theorem tens_30_60 : orders (sortAt tens) 5 [30, 60] [10, 20, 40, 50] = true := by kernel_rfl
theorem tens_40_10 : orders (sortAt tens) 5 [40, 10] [20, 30, 50, 60] = true := by kernel_rfl
theorem tens_40_20 : orders (sortAt tens) 5 [40, 20] [10, 30, 50, 60] = true := by kernel_rfl
theorem tens_40_30 : orders (sortAt tens) 5 [40, 30] [10, 20, 50, 60] = true := by kernel_rfl
theorem tens_40_50 : orders (sortAt tens) 5 [40, 50] [10, 20, 30, 60] = true := by kernel_rfl
theorem tens_40_60 : orders (sortAt tens) 5 [40, 60] [10, 20, 30, 50] = true := by kernel_rfl
theorem tens_50_10 : orders (sortAt tens) 5 [50, 10] [20, 30, 40, 60] = true := by kernel_rfl
theorem tens_50_20 : orders (sortAt tens) 5 [50, 20] [10, 30, 40, 60] = true := by kernel_rfl
theorem tens_50_30 : orders (sortAt tens) 5 [50, 30] [10, 20, 40, 60] = true := by kernel_rfl
theorem tens_50_40 : orders (sortAt tens) 5 [50, 40] [10, 20, 30, 60] = true := by kernel_rfl
theorem tens_50_60 : orders (sortAt tens) 5 [50, 60] [10, 20, 30, 40] = true := by kernel_rfl
theorem tens_60_10 : orders (sortAt tens) 5 [60, 10] [20, 30, 40, 50] = true := by kernel_rfl
theorem tens_60_20 : orders (sortAt tens) 5 [60, 20] [10, 30, 40, 50] = true := by kernel_rfl
theorem tens_60_30 : orders (sortAt tens) 5 [60, 30] [10, 20, 40, 50] = true := by kernel_rfl
theorem tens_60_40 : orders (sortAt tens) 5 [60, 40] [10, 20, 30, 50] = true := by kernel_rfl
theorem tens_60_50 : orders (sortAt tens) 5 [60, 50] [10, 20, 30, 40] = true := by kernel_rfl
theorem tens_10 : sortAt tens [10] = true := by kernel_rfl
theorem tens_20 : sortAt tens [20] = true := by kernel_rfl
theorem tens_30 : sortAt tens [30] = true := by kernel_rfl
theorem tens_40 : sortAt tens [40] = true := by kernel_rfl
theorem tens_50 : sortAt tens [50] = true := by kernel_rfl
theorem tens_60 : sortAt tens [60] = true := by kernel_rfl
theorem tens_0 : sortAt tens [] = true := by kernel_rfl
theorem tens_all (l : List Nat) (hn : l.Nodup) (hl : ∀ x ∈ l, x ∈ tens) : sortAt tens l = true := by
  have two : ∀ a ∈ tens, ∀ b ∈ tens, a ≠ b → orders (sortAt tens) 5 [a, b] (delN b (delN a tens)) = true := fun a ha b hb hab => by
    simp only [tens, List.mem_cons, List.not_mem_nil, or_false] at ha hb
    rcases ha with rfl | rfl | rfl | rfl | rfl | rfl
    · rcases hb with rfl | rfl | rfl | rfl | rfl | rfl
      · exact (hab rfl).elim
      · exact tens_10_20
      · exact tens_10_30
      · exact tens_10_40
      · exact tens_10_50
      · exact tens_10_60
    · rcases hb with rfl | rfl | rfl | rfl | rfl | rfl
      · exact tens_20_10
      · exact (hab rfl).elim
      · exact tens_20_30
      · exact tens_20_40
      · exact tens_20_50
      · exact tens_20_60
    · rcases hb with rfl | rfl | rfl | rfl | rfl | rfl
      · exact tens_30_10
      · exact tens_30_20
      · exact (hab rfl).elim
      · exact tens_30_40
      · exact tens_30_50
      · exact tens_30_60
    · rcases hb with rfl | rfl | rfl | rfl | rfl | rfl
      · exact tens_40_10
      · exact tens_40_20
      · exact tens_40_30
      · exact (hab rfl).elim
      · exact tens_40_50
      · exact tens_40_60
    · rcases hb with rfl | rfl | rfl | rfl | rfl | rfl
      · exact tens_50_10
      · exact tens_50_20
      · exact tens_50_30
      · exact tens_50_40
      · exact (hab rfl).elim
      · exact tens_50_60
    · rcases hb with rfl | rfl | rfl | rfl | rfl | rfl
      · exact tens_60_10
      · exact tens_60_20
      · exact tens_60_30
      · exact tens_60_40
      · exact tens_60_50
      · exact (hab rfl).elim
  match l with
  | [] => exact tens_0
  | [a] =>
    have ha := hl a (by simp)
    simp only [tens, List.mem_cons, List.not_mem_nil, or_false] at ha
    rcases ha with rfl | rfl | rfl | rfl | rfl | rfl
    · exact tens_10
    · exact tens_20
    · exact tens_30
    · exact tens_40
    · exact tens_50
    · exact tens_60
  | a :: b :: l =>
    obtain ⟨h1, h2⟩ := List.nodup_cons.1 hn
    obtain ⟨h3, h4⟩ := List.nodup_cons.1 h2
    have hab : a ≠ b := fun e => h1 (by simp [e])
    exact orders_ok (two a (hl a (by simp)) b (hl b (by simp)) hab) l h4 fun x hx => mem_delN (mem_delN (hl x (by simp [hx])) fun e => h1 (by simp [← e, hx])) fun e => h3 (e ▸ hx)
end Go.Proofs.YtbilacojhmohmaaGreat.Ae
