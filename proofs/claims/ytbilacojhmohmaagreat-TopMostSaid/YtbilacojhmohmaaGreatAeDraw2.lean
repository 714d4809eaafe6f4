/- Regions that draw their order: who waits for whom; what an item does, and what of it stands when the frame grows. No condition. -/
import Derived.Test.YtbilacojhmohmaaGreatAeDraw
namespace Go.Proofs.YtbilacojhmohmaaGreat.Ae
open Go
set_option linter.unusedVariables false
set_option linter.unusedSimpArgs false

theorem memN_iff {n : Nat} : ∀ {l : List Nat}, memN n l = true ↔ n ∈ l
  | [] => by simp [memN]
  | m :: l => by
    simp only [memN, Bool.or_eq_true, List.mem_cons, memN_iff (l := l)]
    constructor
    · rintro (h | h)
      · exact .inl (Nat.eq_of_beq_eq_true h)
      · exact .inr h
    · rintro (rfl | h)
      · exact .inl (Nat.beq_refl _)
      · exact .inr h

section
variable {ops : Array Oper}

/-- who is listed waits for listed ones -/
def Down (ops : Array Oper) (X : Array Bool) : Prop := ∀ i o, X.getD i false = true → ops[i]? = some o → ∀ e ∈ o.after, Region.binds .any e = true → X.getD e.on false = true
def Ready (ops : Array Oper) (X : Array Bool) (i : Nat) : Prop := ∃ o, ops[i]? = some o ∧ ∀ e ∈ o.after, Region.binds .any e = true → X.getD e.on false = true

theorem masks_length : ∀ n, (masks ops n).length = n
  | 0 => rfl
  | n + 1 => by simp [masks, masks_length n]
theorem masks_prefix {n m i : Nat} (h : i < n) (hm : n ≤ m) : (masks ops m)[i]? = (masks ops n)[i]? := by
  induction m with
  | zero => omega
  | succ m ih =>
    by_cases e : n = m + 1
    · rw [e]
    · simp only [masks]
      rw [List.getElem?_append_left (by rw [masks_length]; omega)]
      exact ih (by omega)
theorem orEdges_bit {m : List Nat} {j : Nat} : ∀ {l : List Edge}, (orEdges m l).testBit j = true → ∃ e ∈ l, Region.binds .any e = true ∧ (e.on = j ∨ (m.getD e.on 0).testBit j = true)
  | [], h => by simp [orEdges] at h
  | e :: l, h => by
    simp only [orEdges] at h
    cases hb : Region.binds .any e with
    | false =>
      simp only [hb, cond_false] at h
      obtain ⟨e', he, h'⟩ := orEdges_bit h
      exact ⟨e', by simp [he], h'⟩
    | true =>
      simp only [hb, cond_true] at h
      have h : ((2 ^ e.on ||| m.getD e.on 0) ||| orEdges m l).testBit j = true := h
      rw [Nat.testBit_or, Nat.testBit_or, Bool.or_eq_true, Bool.or_eq_true] at h
      rcases h with (h | h) | h
      · rw [Nat.testBit_two_pow] at h
        exact ⟨e, by simp, hb, .inl (by simpa using h)⟩
      · exact ⟨e, by simp, hb, .inr h⟩
      · obtain ⟨e', he, h'⟩ := orEdges_bit h
        exact ⟨e', by simp [he], h'⟩
theorem bb_sound {X : Array Bool} (hD : Down ops X) : ∀ (i j : Nat), bb (masks ops ops.size) i j = true → (X.getD i false = true ∨ Ready ops X i) → X.getD j false = true := by
  intro i
  induction i using Nat.strongRecOn with
  | _ i ih =>
    intro j h hi
    unfold bb at h
    have hlt : i < ops.size := by
      rcases Nat.lt_or_ge i ops.size with h' | h'
      · exact h'
      · rw [List.getD_eq_getElem?_getD, List.getElem?_eq_none (by rw [masks_length]; exact h')] at h
        simp at h
    rw [List.getD_eq_getElem?_getD, masks_prefix (n := i + 1) (by omega) (by omega)] at h
    have hlast : (masks ops (i + 1))[i]? = some (match ops[i]? with | some o => orEdges (masks ops i) o.after.toList | none => 0) := by
      simp only [masks]
      rw [List.getElem?_append_right (by rw [masks_length]; exact Nat.le_refl _), masks_length, Nat.sub_self]
      rfl
    rw [hlast, Option.getD_some] at h
    have ho : ops[i]? = some ops[i] := Array.getElem?_eq_getElem hlt
    rw [ho] at h
    obtain ⟨e, he, hb, h'⟩ := orEdges_bit h
    have hX : X.getD e.on false = true := by
      rcases hi with hi | ⟨o, ho', hr⟩
      · exact hD i _ hi ho e (by simpa using he) hb
      · rw [ho] at ho'; injection ho' with ho'; subst ho'
        exact hr e (by simpa using he) hb
    rcases h' with rfl | h'
    · exact hX
    · have hlt2 : e.on < i := by
        rcases Nat.lt_or_ge e.on i with q | q
        · exact q
        · rw [List.getD_eq_getElem?_getD, List.getElem?_eq_none (by rw [masks_length]; exact q)] at h'
          simp at h'
      refine ih e.on hlt2 j ?_ (.inl hX)
      unfold bb
      rw [List.getD_eq_getElem?_getD] at h' ⊢
      rw [masks_prefix (n := i) hlt2 (by omega)]
      exact h'
end

/-! ### items -/
def Got (T : AAct) (d : Option Nat) (v : AV) : Prop :=
  match d with
  | none => True
  | some d => T.tmps.get d d = some v ∧ d < T.n
def ItemAt (call : Call) (T : AAct) (it : CR) (aw aw' : AW) : Prop :=
  match it with
  | .op d g c => (xguard T g = some true ∧ ∃ v, xop T.tmps aw c = some (v, aw') ∧ Got T d v) ∨ (xguard T g = some false ∧ aw' = aw ∧ Got T d (.tuple []))
  | .call d g f as => (xguard T g = some true ∧ ∃ vs v, evs T.tmps as = some vs ∧ call f vs aw = some (.ret v aw') ∧ Got T d v) ∨ (xguard T g = some false ∧ aw' = aw ∧ Got T d (.tuple []))
  | .callv d g f as => (xguard T g = some true ∧ ∃ ff first cap vs v, f.ev T.tmps = some (.func (.func ff) first cap) ∧ evs T.tmps as = some vs ∧ call ff (first ++ vs ++ cap) aw = some (.ret v aw') ∧ Got T d v) ∨ (xguard T g = some false ∧ aw' = aw ∧ Got T d (.tuple []))
  | _ => False

theorem xguard_congr {T T' : AAct} {g : Option (Nat × Bool)} (h : ∀ t ∈ guse g, T'.tmps.get t t = T.tmps.get t t) : xguard T' g = xguard T g := by
  cases g with
  | none => rfl
  | some p => simp only [xguard]; rw [h p.1 (by simp [guse])]
/-- the frame grows elsewhere -/
theorem ItemAt.mono {call : Call} {T T' : AAct} {it : CR} {aw aw' : AW} (h : ItemAt call T it aw aw') (hn : T'.n = T.n) (hu : ∀ t ∈ it.uses, T'.tmps.get t t = T.tmps.get t t) (hd : ∀ d, it.dst = some d → T'.tmps.get d d = T.tmps.get d d) : ItemAt call T' it aw aw' := by
  have got : ∀ d v, it.dst = d → Got T d v → Got T' d v := fun d v e hg => by
    cases d with
    | none => trivial
    | some d => exact ⟨by rw [hd d e]; exact hg.1, by rw [hn]; exact hg.2⟩
  cases it with
  | op d g c =>
    have hg := xguard_congr (g := g) fun t ht => hu t (by simp [CR.uses, ht])
    have hx : xop T'.tmps aw c = xop T.tmps aw c := xop_congr fun t ht => hu t (by simp [CR.uses, ht])
    rcases h with ⟨h1, v, h2, h3⟩ | ⟨h1, h2, h3⟩
    · exact .inl ⟨hg ▸ h1, v, hx ▸ h2, got d v rfl h3⟩
    · exact .inr ⟨hg ▸ h1, h2, got d _ rfl h3⟩
  | call d g f as =>
    have hg := xguard_congr (g := g) fun t ht => hu t (by simp [CR.uses, ht])
    have hx : evs T'.tmps as = evs T.tmps as := evs_congr fun t ht => hu t (by simp [CR.uses, ht])
    rcases h with ⟨h1, vs, v, h2, h3, h4⟩ | ⟨h1, h2, h3⟩
    · exact .inl ⟨hg ▸ h1, vs, v, hx ▸ h2, h3, got d v rfl h4⟩
    · exact .inr ⟨hg ▸ h1, h2, got d _ rfl h3⟩
  | callv d g f as =>
    have hg := xguard_congr (g := g) fun t ht => hu t (by simp [CR.uses, ht])
    have hx : evs T'.tmps as = evs T.tmps as := evs_congr fun t ht => hu t (by simp [CR.uses, ht])
    have hf : f.ev T'.tmps = f.ev T.tmps := ev_congr fun t ht => hu t (by simp [CR.uses, ht])
    rcases h with ⟨h1, ff, first, cap, vs, v, h0, h2, h3, h4⟩ | ⟨h1, h2, h3⟩
    · exact .inl ⟨hg ▸ h1, ff, first, cap, vs, v, hf ▸ h0, hx ▸ h2, h3, got d v rfl h4⟩
    · exact .inr ⟨hg ▸ h1, h2, got d _ rfl h3⟩
  | defer _ _ _ => exact h
  | panic _ => exact h
  | chk _ _ _ => exact h

/-- what a 'put' makes of the frame -/
theorem put_get {a a' : AAct} {d : Option Nat} {v : AV} (h : a.put d v = some a') : a'.n = a.n ∧ a'.defs = a.defs ∧ Got a' d v ∧ ∀ t, d ≠ some t → a'.tmps.get t t = a.tmps.get t t := by
  unfold AAct.put at h
  split at h
  · simp at h; subst h; exact ⟨rfl, rfl, trivial, fun _ _ => rfl⟩
  · rename_i d
    cases hb : Nat.blt d a.n <;> simp only [hb, cond_true, cond_false, reduceCtorEq, Option.some.injEq] at h
    subst h
    exact ⟨rfl, rfl, ⟨Tr.get_set_same _ _, Nat.le_of_ble_eq_true hb⟩, fun t ht => Tr.get_set_other (fun e => ht (by rw [e])) _ _ _⟩
end Go.Proofs.YtbilacojhmohmaaGreat.Ae
