/- What an operation of the evaluator looks at; what kind it is. No condition. -/
import Derived.Test.YtbilacojhmohmaaGreatAeCall
namespace Go.Proofs.YtbilacojhmohmaaGreat.Ae
open Go
set_option linter.unusedVariables false
set_option linter.unusedSimpArgs false

def Opd.uses : Opd → List Nat
  | .t n => [n]
  | .c _ => []
def usesL : List Opd → List Nat
  | [] => []
  | x :: l => x.uses ++ usesL l
def usesO : Option Opd → List Nat
  | none => []
  | some x => x.uses
def usesP : List (Nat × Nat × Opd) → List Nat
  | [] => []
  | (_, _, x) :: l => x.uses ++ usesP l
def COp.uses : COp → List Nat
  | .mv x | .box _ x | .load _ x | .nilck x | .nileq _ _ x | .bnot x | .neg x | .conv _ x | .b2s x | .iface _ x | .off _ x | .part _ _ x | .range x | .next x | .entry x | .assert _ x _ | .ext _ x | .lenS x | .lenM x | .capS x | .clear _ x | .s2s x => x.uses
  | .pick x y z | .mapset x y z => x.uses ++ (y.uses ++ z.uses)
  | .alloc _ _ | .mkmap => []
  | .build _ ps | .mkslc _ _ _ ps => usesP ps
  | .store _ x y | .bin _ _ x y | .beq _ x y | .seq _ x y | .mkslice _ _ _ x y | .idxS _ x y | .idxA _ _ x y | .idxT x y | .look _ _ x y | .del x y | .append _ _ _ x y | .appendZ _ _ _ x y | .copy _ x y | .mn x y | .mx x y => x.uses ++ y.uses
  | .func _ fs cs => usesL fs ++ usesL cs
  | .slice _ x lo hi m => x.uses ++ (usesO lo ++ (usesO hi ++ usesO m))

theorem ev_congr {a b : Tr AV} {x : Opd} (h : ∀ t ∈ x.uses, a.get t t = b.get t t) : x.ev a = x.ev b := by
  cases x with
  | t n => exact h n (by simp [Opd.uses])
  | c v => rfl
theorem evs_congr {a b : Tr AV} : ∀ {l : List Opd}, (∀ t ∈ usesL l, a.get t t = b.get t t) → evs a l = evs b l
  | [], _ => rfl
  | x :: l, h => by
    simp only [evs]
    rw [ev_congr fun t ht => h t (by simp [usesL, ht]), evs_congr fun t ht => h t (by simp [usesL, ht])]
theorem xfill_congr {a b : Tr AV} : ∀ {ps : List (Nat × Nat × Opd)} {l : List AV}, (∀ t ∈ usesP ps, a.get t t = b.get t t) → xfill a l ps = xfill b l ps
  | [], l, _ => rfl
  | (o, n, x) :: ps, l, h => by
    simp only [xfill]
    rw [ev_congr fun t ht => h t (by simp [usesP, ht])]
    split
    · split
      · have : ∀ l', xfill a l' ps = xfill b l' ps := fun l' => xfill_congr fun t ht => h t (by simp [usesP, ht])
        simp only [this]
      · rfl
    · rfl

theorem xop_congr {a b : Tr AV} {aw : AW} {c : COp} (h : ∀ t ∈ c.uses, a.get t t = b.get t t) : xop a aw c = xop b aw c := by
  cases c with
  | alloc cs e => rfl
  | mkmap => rfl
  | build z ps => simp only [xop]; rw [xfill_congr h]
  | mkslc e n z ps => simp only [xop]; rw [xfill_congr h]
  | func f fs cs =>
    simp only [xop]
    rw [evs_congr fun t ht => h t (by simp [COp.uses, ht]), evs_congr (l := cs) fun t ht => h t (by simp [COp.uses, ht])]
  | slice sz x lo hi m =>
    have h1 := ev_congr (x := x) fun t ht => h t (by simp [COp.uses, ht])
    have h2 : ∀ o, lo = some o → o.ev a = o.ev b := fun o e => ev_congr fun t ht => h t (by subst e; simp [COp.uses, usesO, ht])
    have h3 : ∀ o, hi = some o → o.ev a = o.ev b := fun o e => ev_congr fun t ht => h t (by subst e; simp [COp.uses, usesO, ht])
    have h4 : ∀ o, m = some o → o.ev a = o.ev b := fun o e => ev_congr fun t ht => h t (by subst e; simp [COp.uses, usesO, ht])
    simp only [xop, h1]
    cases lo <;> cases hi <;> cases m <;> simp at h2 h3 h4 <;> simp only [*]
  | pick x y z =>
    simp only [xop]
    rw [ev_congr (x := x) fun t ht => h t (by simp [COp.uses, ht]), ev_congr (x := y) fun t ht => h t (by simp [COp.uses, ht]), ev_congr (x := z) fun t ht => h t (by simp [COp.uses, ht])]
  | mapset x y z =>
    simp only [xop]
    rw [ev_congr (x := x) fun t ht => h t (by simp [COp.uses, ht]), ev_congr (x := y) fun t ht => h t (by simp [COp.uses, ht]), ev_congr (x := z) fun t ht => h t (by simp [COp.uses, ht])]
  | s2s x | mv x | box _ x | load _ x | nilck x | nileq _ _ x | bnot x | neg x | conv _ x | b2s x | iface _ x | off _ x | part _ _ x | range x | next x | entry x | assert _ x _ | ext _ x | lenS x | lenM x | capS x | clear _ x =>
    simp only [xop]
    rw [ev_congr (x := x) h]
  | idxT x y | store _ x y | bin _ _ x y | beq _ x y | seq _ x y | mkslice _ _ _ x y | idxS _ x y | idxA _ _ x y | look _ _ x y | del x y | append _ _ _ x y | appendZ _ _ _ x y | copy _ x y | mn x y | mx x y =>
    simp only [xop]
    rw [ev_congr (x := x) fun t ht => h t (by simp [COp.uses, ht]), ev_congr (x := y) fun t ht => h t (by simp [COp.uses, ht])]

/-- 0: hangs on the frame alone; 1: reads memory; 2: anything else -/
def COp.kind : COp → Nat
  | .mv _ | .pick _ _ _ | .build _ _ | .bin _ _ _ _ | .nileq _ _ _ | .beq _ _ _ | .seq _ _ _ | .bnot _ | .neg _ | .conv _ _ | .iface _ _ | .func _ _ _ | .slice _ _ _ _ _ | .off _ _ | .part _ _ _ | .idxS _ _ _ | .idxA _ _ _ _ | .idxT _ _ | .nilck _ | .assert _ _ _ | .ext _ _ | .lenS _ | .capS _ | .mn _ _ | .mx _ _ => 0
  | .load _ _ | .look _ _ _ _ | .b2s _ | .lenM _ | .entry _ => 1
  | _ => 2


theorem map_w {α : Type} (x : Option α) (f : α → Option AV) (aw : AW) : (match x with | some v => (match f v with | some r => some (r, aw) | none => none) | none => none) = (match x with | some v => f v | none => none).map fun r => (r, aw) := by
  cases x with
  | none => rfl
  | some v => simp only; cases f v <;> rfl
/-- an operation of kind 0 yields the same in whatever memory, and turns none -/
theorem kind0_eq {a : Tr AV} {aw aw2 : AW} {c : COp} (hk : c.kind = 0) : xop a aw2 c = (xop a aw c).map fun p => (p.1, aw2) := by
  cases c <;> first | (simp [COp.kind] at hk; done) | skip
  case mv x => simp only [xop]; cases x.ev a <;> rfl
  case pick x y z =>
    simp only [xop]
    split
    · rename_i b _
      cases (bif b then y.ev a else z.ev a) <;> rfl
    · rfl
  case build z ps => simp only [xop]; cases xfill a z ps <;> rfl
  case nilck x => simp only [xop]; split <;> rfl
  case bin op sh x y =>
    simp only [xop]
    cases x.ev a with
    | none => rfl
    | some u =>
      simp only
      cases y.ev a with
      | none => rfl
      | some v => simp only; cases xbin op sh u v <;> rfl
  case nileq kd neg x =>
    simp only [xop]
    cases x.ev a with
    | none => rfl
    | some u => simp only; cases isNil kd u <;> rfl
  case beq neg x y =>
    simp only [xop]
    split
    · split <;> rfl
    · rfl
  case seq neg x y =>
    simp only [xop]
    split
    · split
      · rename_i u _ _ v _
        cases sameBytes u v <;> rfl
      · rfl
    · rfl
  case bnot x => simp only [xop]; split <;> rfl
  case neg x => simp only [xop]; split <;> rfl
  case conv k x => simp only [xop]; split <;> rfl
  case iface t x => simp only [xop]; cases x.ev a <;> rfl
  case func f fs cs =>
    simp only [xop]
    cases evs a fs with
    | none => rfl
    | some u => simp only; cases evs a cs <;> rfl
  case slice sz x lo hi m =>
    simp only [xop]
    cases x.ev a with
    | none => rfl
    | some s =>
      simp only
      split
      · split
        · split
          · rename_i l _ _ h _ _ m _
            cases xslice sz s l h m <;> rfl
          · rfl
        · rfl
      · rfl
  case off n x => simp only [xop]; split <;> rfl
  case part n o x =>
    simp only [xop]
    split
    · split
      · rename_i l _ _
        cases l[o]? <;> rfl
      · rename_i l _ _ n
        cases Nat.beq ((l.drop o).take n).length n <;> rfl
    · rfl
  case idxS sz x i =>
    simp only [xop]
    split
    · cases i.ev a with
      | none => rfl
      | some iv =>
        simp only
        cases xnat iv with
        | none => rfl
        | some i => simp only; rename_i len _ _; cases Nat.blt i len <;> rfl
    · rfl
  case idxA n sz x i =>
    simp only [xop]
    split
    · cases i.ev a with
      | none => rfl
      | some iv =>
        simp only
        cases xnat iv with
        | none => rfl
        | some i => simp only; cases Nat.blt i n <;> rfl
    · rfl
  case idxT x i =>
    simp only [xop]
    split
    · cases i.ev a with
      | none => rfl
      | some iv =>
        simp only
        cases xnat iv with
        | none => rfl
        | some i => simp only; rename_i l _; cases l[i]? <;> rfl
    · rfl
  case assert t x z =>
    simp only [xop]
    split
    · rename_i t' v _
      cases Nat.beq t t' <;> rfl
    · rfl
  case ext i x =>
    simp only [xop]
    split
    · rename_i l _
      cases l[i]? <;> rfl
    · rfl
  case lenS x =>
    simp only [xop]
    cases x.ev a with
    | none => rfl
    | some v => simp only; cases xlen v <;> rfl
  case capS x => simp only [xop]; split <;> rfl
  case mn x y =>
    simp only [xop]
    split
    · split <;> rfl
    · rfl
  case mx x y =>
    simp only [xop]
    split
    · split <;> rfl
    · rfl
theorem kind0 {a : Tr AV} {aw aw' : AW} {c : COp} {v : AV} (hk : c.kind = 0) (h : xop a aw c = some (v, aw')) : aw' = aw ∧ ∀ aw2, xop a aw2 c = some (v, aw2) := by
  have h1 := kind0_eq (a := a) (aw := aw) (aw2 := aw) hk
  rw [h] at h1
  simp at h1
  refine ⟨h1, fun aw2 => ?_⟩
  rw [kind0_eq (aw := aw) hk, h]
  rfl
theorem kind1 {a : Tr AV} {aw aw' : AW} {c : COp} {v : AV} (hk : c.kind = 1) (h : xop a aw c = some (v, aw')) : aw' = aw := by
  cases c <;> first | (simp [COp.kind] at hk; done) | skip
  case load n x =>
    simp only [xop] at h
    split at h <;> (try (cases h; done))
    split at h <;> (try (cases h; done))
    simp at h; exact h.2.symm
  case look z ok m k =>
    simp only [xop] at h
    split at h <;> (try (cases h; done))
    split at h <;> (try (cases h; done))
    split at h <;> (try (cases h; done))
    split at h <;> (try (cases h; done)) <;> (simp at h; exact h.2.symm)
  case b2s x =>
    simp only [xop] at h
    split at h <;> (try (cases h; done))
    split at h <;> (try (cases h; done))
    rename_i l _
    cases hu : allU8 l <;> simp [hu] at h
    exact h.2.symm
  case lenM x =>
    simp only [xop] at h
    split at h <;> (try (cases h; done))
    · simp at h; exact h.2.symm
    · split at h <;> (try (cases h; done))
      simp at h; exact h.2.symm
  case entry x =>
    simp only [xop] at h
    split at h <;> (try (cases h; done))
    split at h <;> (try (cases h; done))
    split at h <;> (try (cases h; done))
    rename_i b st _ _ e clock _
    revert h
    generalize (Nat.beq clock st && Nat.beq b e.born) = q
    intro h
    cases q
    · cases h
    · simp at h; exact h.2.symm
end Go.Proofs.YtbilacojhmohmaaGreat.Ae
