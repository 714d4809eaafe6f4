/- A call over one block of any world. SortFunc of wants in a row that is owned, whatever their ranks are. No condition. -/
import Derived.Test.YtbilacojhmohmaaGreatBeSort
import Derived.Test.YtbilacojhmohmaaGreatBeRoom
import Derived.KernelRfl
import Derived.Test.YtbilacojhmohmaaGreatBeSortF
namespace Go.Proofs.YtbilacojhmohmaaGreat.Ae
open Go
set_option linter.unusedVariables false
set_option linter.unusedSimpArgs false

/-- of any world one block is known, the others stay -/
def soloE (w : World) (L : Loc) : Env := ⟨[L], ⟨symVal fun _ => 0, w.os, w.output, fun _ => []⟩, fun b => bif Nat.beq b L.block then none else w.heap[b]?, fun _ => none⟩
theorem soloE_rel {w : World} {L : Loc} {o : AO} (ho : ORel (soloE w L) L w o) : Rel (soloE w L) (ofObjs [o] 1) w := by
  refine ⟨rfl, ⟨⟨fun _ => 0, rfl⟩, rfl, rfl⟩, fun j x hj => ?_, fun i j oi oj Li Lj hi hj _ _ _ _ _ => ?_, fun b ob hb => ?_, fun i oi Li hi _ hL => ?_, ⟨fun b o hb => (by cases hb), fun _ _ _ _ _ _ => rfl⟩⟩
  · rw [ofObjs_get] at hj
    cases j with
    | zero => simp at hj; subst hj; exact ⟨L, rfl, ho⟩
    | succ j => simp at hj
  · rw [ofObjs_get] at hi hj
    cases i with
    | zero => cases j with
      | zero => rfl
      | succ j => simp at hj
    | succ i => simp at hi
  · simp only [soloE] at hb
    cases hq : Nat.beq b L.block <;> simp [hq] at hb
    exact hb
  · rw [ofObjs_get] at hi
    cases i with
    | zero =>
      have : L = Li := by simpa [soloE] using hL
      subst this
      simp [soloE, Nat.beq_refl]
    | succ i => simp at hi
theorem soloE_frame {E1 : Env} {aw1 : AW} {w w' : World} {L : Loc} (hle : (soloE w L).Le E1) (h : Rel E1 aw1 w') : w'.os = w.os ∧ w'.output = w.output ∧ ∀ b, b ≠ L.block → b < w.heap.size → w'.heap[b]? = w.heap[b]? := by
  refine ⟨by rw [h.ns.2.1, hle.2.1]; rfl, by rw [h.ns.2.2, hle.2.1]; rfl, fun b hb hlt => ?_⟩
  have : (soloE w L).fr b = some w.heap[b] := by
    simp only [soloE]
    cases hq : Nat.beq b L.block with
    | true => exact (hb (Nat.eq_of_beq_eq_true hq)).elim
    | false => simp [hlt]
  rw [h.frame b _ (by rw [hle.2.2.1]; exact this), Array.getElem?_eq_getElem hlt]
theorem solo_run {call : Call} (hcall : CallOK Tryz.prog call) {f : FuncId} {args : List AV} {cargs : List Value} {o : AO} {v : AV} {aw1 : AW} (h : call f args (ofObjs [o] 1) = some (.ret v aw1)) {w : World} {L : Loc} (ho : ORel (soloE w L) L w o) (ha : LRel (soloE w L) args cargs) :
    Calls Tryz.prog f cargs.toArray w fun e w' => ∃ E1 cv, (soloE w L).Le E1 ∧ Rel E1 aw1 w' ∧ e = .returned cv ∧ VRel E1 v cv ∧ (w'.os = w.os ∧ w'.output = w.output ∧ ∀ b, b ≠ L.block → b < w.heap.size → w'.heap[b]? = w.heap[b]?) := by
  refine ((hcall _ _ _ _ h).2 _ w cargs ha (soloE_rel ho)).mono fun e w' ⟨E1, hle, hr⟩ => ?_
  cases e with
  | returned cv => exact ⟨E1, cv, hle, hr.1, rfl, hr.2, soloE_frame hle hr.1⟩
  | panicked _ => exact hr.elim
  | outgrown => exact hr.elim


/-- no block is known -/
def noneE (w : World) : Env := ⟨[], ⟨symVal fun _ => 0, w.os, w.output, fun _ => []⟩, fun b => w.heap[b]?, fun _ => none⟩
theorem noneE_rel (w : World) : Rel (noneE w) ⟨.leaf, 0, 0⟩ w := by
  refine ⟨rfl, ⟨⟨fun _ => 0, rfl⟩, rfl, rfl⟩, fun j x hj => ?_, fun i j oi oj Li Lj hi hj _ _ _ _ _ => ?_, fun b ob hb => hb, fun i oi Li hi _ hL => ?_, ⟨fun b o hb => (by cases hb), fun _ _ _ _ _ _ => rfl⟩⟩
  · cases hj
  · cases hi
  · cases hi
theorem none_run {call : Call} (hcall : CallOK Tryz.prog call) {f : FuncId} {args : List AV} {cargs : List Value} {v : AV} {aw1 : AW} (h : call f args ⟨.leaf, 0, 0⟩ = some (.ret v aw1)) {w : World} (ha : LRel (noneE w) args cargs) :
    Calls Tryz.prog f cargs.toArray w fun e w' => ∃ E1 cv, (noneE w).Le E1 ∧ Rel E1 aw1 w' ∧ e = .returned cv ∧ VRel E1 v cv ∧ w'.os = w.os ∧ w'.output = w.output ∧ ∀ b, b < w.heap.size → w'.heap[b]? = w.heap[b]? := by
  refine ((hcall _ _ _ _ h).2 _ w cargs ha (noneE_rel w)).mono fun e w' ⟨E1, hle, hr⟩ => ?_
  cases e with
  | returned cv =>
    refine ⟨E1, cv, hle, hr.1, rfl, hr.2, by rw [hr.1.ns.2.1, hle.2.1]; rfl, by rw [hr.1.ns.2.2, hle.2.1]; rfl, fun b hb => ?_⟩
    rw [hr.1.frame b w.heap[b] (by rw [hle.2.2.1]; exact Array.getElem?_eq_getElem hb), Array.getElem?_eq_getElem hb]
  | panicked _ => exact hr.elim
  | outgrown => exact hr.elim
theorem size_of {w w' : World} (L : Nat) (h : ∀ b, b ≠ L → b < w.heap.size → w'.heap[b]? = w.heap[b]?) (hL : L < w'.heap.size) : w.heap.size ≤ w'.heap.size := by
  by_cases h0 : w.heap.size = 0
  · omega
  · by_cases h1 : w.heap.size - 1 = L
    · omega
    · have := h (w.heap.size - 1) h1 (by omega)
      have hs := this.trans (Array.getElem?_eq_getElem (show w.heap.size - 1 < w.heap.size by omega))
      have := (Array.getElem?_eq_some_iff.1 hs).1
      omega
theorem size_all {w w' : World} (h : ∀ b, b < w.heap.size → w'.heap[b]? = w.heap[b]?) : w.heap.size ≤ w'.heap.size := by
  by_cases h0 : w.heap.size = 0
  · omega
  · have hs := (h (w.heap.size - 1) (by omega)).trans (Array.getElem?_eq_getElem (show w.heap.size - 1 < w.heap.size by omega))
    have := (Array.getElem?_eq_some_iff.1 hs).1
    omega
theorem countN_eq (l : List Nat) : countN l = l.length := by induction l with | nil => rfl | cons x l ih => show Nat.succ (countN l) = _; rw [ih]; rfl
theorem cellsN_rel (E : Env) : ∀ l : List Nat, LRel E (cellsN l) ((l.map Int.ofNat).map encU)
  | [] => .nil
  | x :: l => .cons (.int _ _) (cellsN_rel E l)
/-- a row that is owned, as an object -/
theorem row_obj {E : Env} {W : World} {sz g cap : Nat} {e : TypeId} {cur : Array Value} {xs : List Value} {l : List AV} {n : Nat} (hg : W.heap[g]? = some (.cells cur e (0, 0))) (hn : n ≤ cap) (hc : cur.size = cap * sz) (hx : cur.toList.take (n * sz) = xs) (hl : LRel E l xs) :
    ORel E ⟨g, 0, cap * sz⟩ W (.cells l e true) := by
  have hlen : xs.length ≤ cap * sz := by rw [← hx, List.length_take, Array.length_toList, hc]; exact Nat.min_le_right _ _
  refine ⟨cur, (0, 0), ⟨hg, .inl rfl⟩, hc, by rw [hl.length, hc]; simpa using hlen, (fun h => by cases h), fun i a ha => ?_⟩
  obtain ⟨v, hv, hr⟩ := hl.get ha
  refine ⟨v, ?_, hr⟩
  rw [← hx, List.getElem?_take] at hv
  split at hv
  · simpa using hv
  · cases hv

noncomputable def retT (r : Option ARes) : Bool := match r with
  | some (.ret (.tuple []) _) => true
  | _ => false
theorem wants_nil : retT (cAny 158 [.slc none 0 (.known 0), .func (.func 264) [] []] ⟨.leaf, 0, 0⟩) = true := by kernel_rfl
end Go.Proofs.YtbilacojhmohmaaGreat.Ae

namespace Go.Proofs.YtbilacojhmohmaaGreat.Ae
open Go Go.Proofs Go.RowKit Go.Shelf Go.Maps Go.Sort
set_option linter.unusedVariables false
set_option linter.unusedSimpArgs false

theorem sortW_facts {α : Type} [Inhabited α] (enc : α → List Value) (k : Nat) (w : World) (blk off n : Nat) (d : Array α) (os : Array Obj) : (sortWorldK enc k w blk off n d os).os = w.os ∧ (sortWorldK enc k w blk off n d os).output = w.output ∧ w.heap.size ≤ (sortWorldK enc k w blk off n d os).heap.size ∧ ∀ b, b < w.heap.size → b ≠ blk → (sortWorldK enc k w blk off n d os).heap[b]? = w.heap[b]? := by
  refine ⟨rfl, rfl, size_sortWorldK_c enc k w blk off n d os, fun b hb hne => ?_⟩
  unfold sortWorldK grow putRowK putRow mapBlock Sort.ahead
  simp only [Array.getElem?_append]
  rw [if_pos (by simpa using hb)]
  simp [Array.getElem?_modify, Ne.symm hne]
def tri (p : Int × Int) : Int × Int × Int := (p.1, p.2, 4)
theorem flat_get : ∀ (ss : List (Int × Int)) (j : Nat), j < ss.length * 3 → (wantsT ss)[j]? = some ((Tryz.encW ((ss.map tri).toArray[j / 3]!))[j % 3]!)
  | [], j, h => by simp at h
  | p :: ss, j, h => by
    have e : wantsT (p :: ss) = [encU p.1, .int .i64 p.2, .int .i64 4] ++ wantsT ss := by simp [wantsT]
    rw [e]
    by_cases h3 : j < 3
    · match j, h3 with
      | 0, _ => rfl
      | 1, _ => rfl
      | 2, _ => rfl
    · obtain ⟨i, rfl⟩ : ∃ i, j = i + 3 := ⟨j - 3, by omega⟩
      have hi : i < ss.length * 3 := by simp at h; omega
      rw [List.getElem?_append_right (by simp)]
      simp only [List.length_cons, List.length_nil, Nat.add_sub_cancel]
      rw [flat_get ss i hi, show (i + 3) / 3 = i / 3 + 1 by omega, show (i + 3) % 3 = i % 3 by omega]
      have hlt : i / 3 < ss.length := by omega
      congr 2
      simp [hlt]
theorem sort158R (base : Nat) (W : World) (v : Value) (ss : List (Int × Int)) (h12 : ss.length ≤ 12) (hbase : base ≤ W.heap.size) (hrow : W.ownsRow base 222 3 v ss.length (wantsT ss)) :
    Calls Tryz.prog 158 #[v, .func (.func 264) #[] #[]] W fun e W' => e = .returned (.tuple #[]) ∧ W'.os = W.os ∧ W'.output = W.output ∧ W.heap.size ≤ W'.heap.size ∧ ∀ k, k < base → W'.heap[k]? = W.heap[k]? := by
  rcases hrow.2 with ⟨rfl, h0⟩ | ⟨g, cap, cur, rfl, q1, q2, q3, q4, q5, q6⟩
  · have tup : ∀ {E : Env} {cv : Value}, VRel E (.tuple []) cv → cv = .tuple #[] := fun h => by
      cases h with
      | tuple hl =>
        rename_i cs
        generalize hq : cs.toList = q at hl
        cases hl
        rw [Array.toList_inj.1 (by rw [hq] : cs.toList = (#[] : Array Value).toList)]
    have hw := wants_nil
    unfold retT at hw
    split at hw <;> (try (cases hw; done))
    rename_i aw1 h1
    refine (none_run cAny_ok h1 (cargs := [.slice none 0 0, .func (.func 264) #[] #[]]) (.cons .nilSlc (.cons (.func _ .nil .nil) .nil))).mono fun e W' ⟨E1, cv, a1, a2, a3, a4, a5, a6, a7⟩ => ?_
    have hsz : W.heap.size ≤ W'.heap.size := size_all a7
    exact ⟨by rw [a3, tup a4], a5, a6, hsz, fun k hk => a7 k (by omega)⟩
  · have hH : HoldsK Tryz.encW 3 W g 0 (ss.map tri).toArray := by
      intro j hj
      simp at hj
      have hx := flat_get ss j hj
      rw [← q6, List.getElem?_take, if_pos hj] at hx
      have hf : (flatK Tryz.encW 3 (ss.map tri).toArray)[j]! = (Tryz.encW ((ss.map tri).toArray[j / 3]!))[j % 3]! := get_flatK _ _ _ _ (by simpa using hj)
      refine ⟨?_, ?_⟩
      · show W.cell? ⟨g, 0 + j, none⟩ = some (id _)
        rw [hf, Nat.zero_add]
        simp only [World.cell?, q2]
        simpa using hx
      · simp [World.frozen?, q2]
    have := Tryz.sortWants g 0 cap (ss.map tri).toArray W hH (Array.getElem?_eq_some_iff.1 q2).1 (by simpa using h12)
    have e : (ss.map tri).toArray.size = ss.length := by simp
    rw [e] at this
    refine this.mono fun e W' ⟨h1, n, os, d', h2⟩ => ?_
    obtain ⟨f1, f2, f3, f4⟩ := sortW_facts Tryz.encW 3 W g 0 n d' os
    rw [h2]
    exact ⟨h1, f1, f2, f3, fun k hk => f4 k (by have := (Array.getElem?_eq_some_iff.1 q2).1; omega) (by omega)⟩
end Go.Proofs.YtbilacojhmohmaaGreat.Ae
