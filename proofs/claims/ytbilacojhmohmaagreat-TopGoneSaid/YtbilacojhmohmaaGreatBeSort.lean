/- The sort of whole numbers of 32 bits, run at every order of some few. No condition. -/
import Derived.Test.YtbilacojhmohmaaGreatBeKeys
import Derived.KernelRfl
namespace Go.Proofs.YtbilacojhmohmaaGreat.Ae
open Go
set_option linter.unusedVariables false
set_option linter.unusedSimpArgs false

noncomputable def memS (x : Nat) (l : List Nat) : Bool := List.rec (motive := fun _ => Bool) false (fun y _ ih => bb2 (Nat.beq x y) true ih) l
noncomputable def delN (x : Nat) (l : List Nat) : List Nat := List.rec (motive := fun _ => List Nat) [] (fun y t ih => bb2 (Nat.beq x y) t (y :: ih)) l
noncomputable def onlyN (l : List Nat) (u : List Nat) : List Nat := List.rec (motive := fun _ => List Nat) [] (fun y _ ih => bb2 (memS y l) (y :: ih) ih) u
noncomputable def cellsN (l : List Nat) : List AV := List.rec (motive := fun _ => List AV) [] (fun y _ ih => .int .u32 (.ofNat y) :: ih) l
noncomputable def countN (l : List Nat) : Nat := List.rec (motive := fun _ => Nat) 0 (fun _ _ ih => Nat.succ ih) l
noncomputable def appN (l m : List Nat) : List Nat := List.rec (motive := fun _ => List Nat) m (fun y _ ih => y :: ih) l
/-- the order of l, as the code's Sort leaves it: as in u -/
noncomputable def sortAt (u l : List Nat) : Bool := match cAny 318 [.slc (some (0, 0)) (countN l) (.upto 1 (countN l))] (ofObjs [.cells (cellsN l) 28 true] 1) with
  | some (.ret (.tuple []) aw) => (match aw.get 0 with
    | some (.cells l' e true) => bb2 (Nat.beq e 28) (sameInts l' (cellsN (onlyN l u))) false
    | _ => false)
  | _ => false
/-- every order that begins so and goes on with some of the rest -/
noncomputable def orders (f : List Nat → Bool) (n : Nat) : List Nat → List Nat → Bool :=
  Nat.rec (motive := fun _ => List Nat → List Nat → Bool) (fun _ _ => false) (fun _ ih pre rest => bb2 (f pre)
    (List.rec (motive := fun _ => Bool) true (fun x _ more => bb2 (ih (appN pre (x :: [])) (delN x rest)) more false) rest) false) n
theorem memS_iff {x : Nat} : ∀ {l : List Nat}, memS x l = true ↔ x ∈ l
  | [] => ⟨fun h => (by cases h), fun h => (by cases h)⟩
  | y :: l => by
    have e : memS x (y :: l) = bb2 (Nat.beq x y) true (memS x l) := rfl
    rw [e, bb2_eq, List.mem_cons, ← memS_iff (l := l)]
    cases h : Nat.beq x y with
    | true => simp [Nat.eq_of_beq_eq_true h]
    | false => simp [ne_of_beq h]
theorem appN_eq (l m : List Nat) : appN l m = l ++ m := by induction l with | nil => rfl | cons x l ih => show x :: appN l m = _; rw [ih]; rfl
theorem mem_delN {x y : Nat} : ∀ {l : List Nat}, y ∈ l → y ≠ x → y ∈ delN x l
  | z :: l, h, hne => by
    have e : delN x (z :: l) = bb2 (Nat.beq x z) l (z :: delN x l) := rfl
    rw [e, bb2_eq]
    cases hz : Nat.beq x z with
    | true =>
      have := Nat.eq_of_beq_eq_true hz; subst this
      rcases List.mem_cons.1 h with h | h
      · exact (hne h).elim
      · simpa using h
    | false =>
      rcases List.mem_cons.1 h with h | h
      · simp [h]
      · simp [mem_delN h hne]
theorem length_delN {x : Nat} : ∀ {l : List Nat}, x ∈ l → (delN x l).length + 1 = l.length
  | z :: l, h => by
    have e : delN x (z :: l) = bb2 (Nat.beq x z) l (z :: delN x l) := rfl
    rw [e, bb2_eq]
    cases hz : Nat.beq x z with
    | true => rfl
    | false =>
      rcases List.mem_cons.1 h with h | h
      · exact (ne_of_beq hz h).elim
      · have := length_delN h; simp; omega
theorem orders_ok {f : List Nat → Bool} : ∀ {n : Nat} {pre rest : List Nat}, orders f n pre rest = true → ∀ l : List Nat, l.Nodup → (∀ x ∈ l, x ∈ rest) → f (pre ++ l) = true
  | 0, _, _, h, _, _, _ => by cases h
  | n + 1, pre, rest, h, l, hn, hl => by
    have h : bb2 (f pre) (List.rec (motive := fun _ => Bool) true (fun x _ more => bb2 (orders f n (appN pre (x :: [])) (delN x rest)) more false) rest) false = true := h
    rw [bb2_eq] at h
    cases hp : f pre <;> simp only [hp, cond_true, cond_false, reduceCtorEq] at h
    cases l with
    | nil => simpa using hp
    | cons x l =>
      have all : ∀ (R r : List Nat), List.rec (motive := fun _ => Bool) true (fun x _ more => bb2 (orders f n (appN pre (x :: [])) (delN x R)) more false) r = true → ∀ x ∈ r, orders f n (pre ++ [x]) (delN x R) = true := fun R r => by
        induction r with
        | nil => intro _ x hx; cases hx
        | cons y r ih =>
          intro h x hx
          have h : bb2 (orders f n (appN pre (y :: [])) (delN y R)) (List.rec (motive := fun _ => Bool) true (fun x _ more => bb2 (orders f n (appN pre (x :: [])) (delN x R)) more false) r) false = true := h
          rw [bb2_eq] at h
          cases hy : orders f n (appN pre (y :: [])) (delN y R) <;> simp only [hy, cond_true, cond_false, reduceCtorEq] at h
          rcases List.mem_cons.1 hx with rfl | hx
          · rw [← appN_eq]; exact hy
          · exact ih h x hx
      have hx := all rest rest h x (hl x (by simp))
      obtain ⟨h1, h2⟩ := List.nodup_cons.1 hn
      have := orders_ok hx l h2 fun y hy => mem_delN (hl y (by simp [hy])) fun e => h1 (e ▸ hy)
      simpa using this

/-! frames 1, 2, .., 6 -/
noncomputable def tens : List Nat := [1, 2, 3, 4, 5, 6]
theorem tens_1_2 : orders (sortAt tens) 5 [1, 2] [3, 4, 5, 6] = true := by kernel_rfl
theorem tens_1_3 : orders (sortAt tens) 5 [1, 3] [2, 4, 5, 6] = true := by kernel_rfl
theorem tens_1_4 : orders (sortAt tens) 5 [1, 4] [2, 3, 5, 6] = true := by kernel_rfl
theorem tens_1_5 : orders (sortAt tens) 5 [1, 5] [2, 3, 4, 6] = true := by kernel_rfl
theorem tens_1_6 : orders (sortAt tens) 5 [1, 6] [2, 3, 4, 5] = true := by kernel_rfl
theorem tens_2_1 : orders (sortAt tens) 5 [2, 1] [3, 4, 5, 6] = true := by kernel_rfl
theorem tens_2_3 : orders (sortAt tens) 5 [2, 3] [1, 4, 5, 6] = true := by kernel_rfl
theorem tens_2_4 : orders (sortAt tens) 5 [2, 4] [1, 3, 5, 6] = true := by kernel_rfl
theorem tens_2_5 : orders (sortAt tens) 5 [2, 5] [1, 3, 4, 6] = true := by kernel_rfl
theorem tens_2_6 : orders (sortAt tens) 5 [2, 6] [1, 3, 4, 5] = true := by kernel_rfl
theorem tens_3_1 : orders (sortAt tens) 5 [3, 1] [2, 4, 5, 6] = true := by kernel_rfl
theorem tens_3_2 : orders (sortAt tens) 5 [3, 2] [1, 4, 5, 6] = true := by kernel_rfl
theorem tens_3_4 : orders (sortAt tens) 5 [3, 4] [1, 2, 5, 6] = true := by kernel_rfl
theorem tens_3_5 : orders (sortAt tens) 5 [3, 5] [1, 2, 4, 6] = true := by kernel_rfl
theorem tens_3_6 : orders (sortAt tens) 5 [3, 6] [1, 2, 4, 5] = true := by kernel_rfl
theorem tens_4_1 : orders (sortAt tens) 5 [4, 1] [2, 3, 5, 6] = true := by kernel_rfl
theorem tens_4_2 : orders (sortAt tens) 5 [4, 2] [1, 3, 5, 6] = true := by kernel_rfl
theorem tens_4_3 : orders (sortAt tens) 5 [4, 3] [1, 2, 5, 6] = true := by kernel_rfl
theorem tens_4_5 : orders (sortAt tens) 5 [4, 5] [1, 2, 3, 6] = true := by kernel_rfl
theorem tens_4_6 : orders (sortAt tens) 5 [4, 6] [1, 2, 3, 5] = true := by kernel_rfl
theorem tens_5_1 : orders (sortAt tens) 5 [5, 1] [2, 3, 4, 6] = true := by kernel_rfl
theorem tens_5_2 : orders (sortAt tens) 5 [5, 2] [1, 3, 4, 6] = true := by kernel_rfl
theorem tens_5_3 : orders (sortAt tens) 5 [5, 3] [1, 2, 4, 6] = true := by kernel_rfl
theorem tens_5_4 : orders (sortAt tens) 5 [5, 4] [1, 2, 3, 6] = true := by kernel_rfl
theorem tens_5_6 : orders (sortAt tens) 5 [5, 6] [1, 2, 3, 4] = true := by kernel_rfl
theorem tens_6_1 : orders (sortAt tens) 5 [6, 1] [2, 3, 4, 5] = true := by kernel_rfl
theorem tens_6_2 : orders (sortAt tens) 5 [6, 2] [1, 3, 4, 5] = true := by kernel_rfl
theorem tens_6_3 : orders (sortAt tens) 5 [6, 3] [1, 2, 4, 5] = true := by kernel_rfl
theorem tens_6_4 : orders (sortAt tens) 5 [6, 4] [1, 2, 3, 5] = true := by kernel_rfl
theorem tens_6_5 : orders (sortAt tens) 5 [6, 5] [1, 2, 3, 4] = true := by kernel_rfl
theorem tens_1 : sortAt tens [1] = true := by kernel_rfl
theorem tens_2 : sortAt tens [2] = true := by kernel_rfl
theorem tens_3 : sortAt tens [3] = true := by kernel_rfl
theorem tens_4 : sortAt tens [4] = true := by kernel_rfl
theorem tens_5 : sortAt tens [5] = true := by kernel_rfl
theorem tens_6 : sortAt tens [6] = true := by kernel_rfl
theorem tens_0 : sortAt tens [] = true := by kernel_rfl
theorem tens_all (l : List Nat) (hn : l.Nodup) (hl : ∀ x ∈ l, x ∈ tens) : sortAt tens l = true := by
  have two : ∀ a ∈ tens, ∀ b ∈ tens, a ≠ b → orders (sortAt tens) 5 [a, b] (delN b (delN a tens)) = true := fun a ha b hb hab => by
    simp only [tens, List.mem_cons, List.not_mem_nil, or_false] at ha hb
    rcases ha with rfl | rfl | rfl | rfl | rfl | rfl
    · rcases hb with rfl | rfl | rfl | rfl | rfl | rfl
      · exact (hab rfl).elim
      · exact tens_1_2
      · exact tens_1_3
      · exact tens_1_4
      · exact tens_1_5
      · exact tens_1_6
    · rcases hb with rfl | rfl | rfl | rfl | rfl | rfl
      · exact tens_2_1
      · exact (hab rfl).elim
      · exact tens_2_3
      · exact tens_2_4
      · exact tens_2_5
      · exact tens_2_6
    · rcases hb with rfl | rfl | rfl | rfl | rfl | rfl
      · exact tens_3_1
      · exact tens_3_2
      · exact (hab rfl).elim
      · exact tens_3_4
      · exact tens_3_5
      · exact tens_3_6
    · rcases hb with rfl | rfl | rfl | rfl | rfl | rfl
      · exact tens_4_1
      · exact tens_4_2
      · exact tens_4_3
      · exact (hab rfl).elim
      · exact tens_4_5
      · exact tens_4_6
    · rcases hb with rfl | rfl | rfl | rfl | rfl | rfl
      · exact tens_5_1
      · exact tens_5_2
      · exact tens_5_3
      · exact tens_5_4
      · exact (hab rfl).elim
      · exact tens_5_6
    · rcases hb with rfl | rfl | rfl | rfl | rfl | rfl
      · exact tens_6_1
      · exact tens_6_2
      · exact tens_6_3
      · exact tens_6_4
      · exact tens_6_5
      · exact (hab rfl).elim
  match l with
  | [] => exact tens_0
  | [a] =>
    have ha := hl a (by simp)
    simp only [tens, List.mem_cons, List.not_mem_nil, or_false] at ha
    rcases ha with rfl | rfl | rfl | rfl | rfl | rfl
    · exact tens_1
    · exact tens_2
    · exact tens_3
    · exact tens_4
    · exact tens_5
    · exact tens_6
  | a :: b :: l =>
    obtain ⟨h1, h2⟩ := List.nodup_cons.1 hn
    obtain ⟨h3, h4⟩ := List.nodup_cons.1 h2
    have hab : a ≠ b := fun e => h1 (by simp [e])
    exact orders_ok (two a (hl a (by simp)) b (hl b (by simp)) hab) l h4 fun x hx => mem_delN (mem_delN (hl x (by simp [hx])) fun e => h1 (by simp [← e, hx])) fun e => h3 (e ▸ hx)
end Go.Proofs.YtbilacojhmohmaaGreat.Ae
