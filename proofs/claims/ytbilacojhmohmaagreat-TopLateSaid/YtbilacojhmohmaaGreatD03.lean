/- Regions that draw their order, ahead of the run. Regions that draw their order: who waits for whom. No condition. -/
import Derived.Test.YtbilacojhmohmaaGreatD02
set_option linter.unusedVariables false
set_option linter.unusedSimpArgs false
noncomputable section
namespace Go.Proofs.YtbilacojhmohmaaGreat.Ae
open Go
def memN (n : Nat) : List Nat → Bool
 | [] => false
 | m :: l => Nat.beq n m || memN n l
def CR.dst : CR → Option Nat
 | .op d _ _ | .call d _ _ _ | .callv d _ _ _ => d
 | _ => none
def guse : Option (Nat × Bool) → List Nat
 | none => []
 | some (t, _) => [t]
def CR.uses : CR → List Nat
 | .op _ g c => guse g ++ c.uses
 | .call _ g _ as => guse g ++ usesL as
 | .callv _ g f as => guse g ++ (f.uses ++ usesL as)
 | _ => []
def CR.kind : CR → Nat
 | .op _ _ c => c.kind
 | .call .. | .callv .. => 2
 | _ => 3
def CR.late : CR → Bool
 | .op (some _) none (.alloc _ _) | .op (some _) none .mkmap | .op (some _) none (.mkslc _ 0 _ []) => true
 | _ => false
def adjB (ops : Array Oper) (i j : Nat) : Bool :=
 match ops[i]? with
 | some o => o.after.toList.any fun e => Region.binds .any e && Nat.beq e.on j
 | none => false
def orEdges (m : List Nat) : List Edge → Nat
 | [] => 0
 | e :: l => bif Region.binds .any e then Nat.lor (Nat.lor (2 ^ e.on) (m.getD e.on 0)) (orEdges m l) else orEdges m l
def masks (ops : Array Oper) : Nat → List Nat
 | 0 => []
 | n + 1 => masks ops n ++ [match ops[n]? with
  | some o => orEdges (masks ops n) o.after.toList
  | none => 0]
def bb (M : List Nat) (i j : Nat) : Bool := Nat.testBit (M.getD i 0) j
def okPair (M : List Nat) (i : Nat) (it : CR) (j : Nat) (jt : CR) : Bool :=
 !Nat.beq i j &&
 ((match jt.dst with | some d => !memN d it.uses || bb M i j | none => true) &&
  (match it.dst with | some d => !memN d jt.uses && (match jt.dst with | some d' => !Nat.beq d d' | none => true) | none => true))
def okNew (M : List Nat) (i : Nat) (it : CR) : List (Nat × CR) → Bool
 | [] => true
 | (j, jt) :: l => okPair M i it j jt && okNew M i it l
def okSelf (it : CR) : Bool := match it.dst with | some d => !memN d it.uses | none => Nat.beq it.kind 0 || Nat.beq it.kind 2
def afterEff (M : List Nat) (i : Nat) : List (Nat × CR) → Bool
 | [] => true
 | (j, jt) :: l => (!Nat.beq jt.kind 2 || bb M i j) && afterEff M i l
def usesLate (lt : Option Nat) (it : CR) : List (Nat × CR) → Bool
 | [] => false
 | (j, jt) :: l => (match lt, jt.dst with | some n, some d => Nat.beq n j && memN d it.uses | _, _ => false) || usesLate lt it l
def isLate (lt : Option Nat) (i : Nat) : Bool := match lt with | some n => Nat.beq n i | none => false
def okStage (M : List Nat) (lt : Option Nat) (i : Nat) (it : CR) (done : List (Nat × CR)) : Bool :=
 bif isLate lt i then it.late && okSelf it else (bif Nat.beq it.kind 0 && !usesLate lt it done then true else afterEff M i done)
def chks (M : List Nat) (e : Nat) : List (Nat × CR) → List CR
 | [] => []
 | (j, jt) :: l => match jt with
  | .op (some d) g c => bif Nat.beq c.kind 1 && !bb M e j then .chk d g c :: chks M e l else chks M e l
  | _ => chks M e l
def cDrawA (P : Program) (ops : Array Oper) (M : List Nat) (lt : Option Nat) : List Nat → List (Nat × CR) → Option (List CR × List (Nat × CR))
 | [], done => some ([], done)
 | i :: l, done => match ops[i]? with
  | some o => match cItem P ops o with
   | some it => bif Nat.ble it.kind 2 && (okNew M i it done && (okSelf it && okStage M lt i it done)) then (match cDrawA P ops M lt l ((i, it) :: done) with
    | some (r, dn) => some (it :: ((bif Nat.beq it.kind 2 then chks M i done else []) ++ r), dn)
    | none => none) else none
   | none => none
  | none => none
def allAdj (ops : Array Oper) (i : Nat) : Nat → Bool
 | 0 => true
 | j + 1 => adjB ops i j && allAdj ops i j
def tailFrom (ops : Array Oper) : Nat → Nat
 | 0 => 0
 | n + 1 => bif allAdj ops n n then tailFrom ops n else n + 1
def itemAt (P : Program) (ops : Array Oper) (i : Nat) : Option CR :=
 match ops[i]? with
 | some o => cItem P ops o
 | none => none
def greedy (P : Program) (ops : Array Oper) (lt : Option Nat) (s : Nat) : Nat → List Nat → List Nat
 | 0, _ => []
 | fuel + 1, done =>
  let ready := (List.range s).filter fun i => !memN i done && (List.range ops.size).all fun j => !adjB ops i j || memN j done
  match ready.find? (fun i => match itemAt P ops i with | some it => !Nat.beq it.kind 2 | none => false) with
  | some i => i :: greedy P ops lt s fuel (i :: done)
  | none => match ready.find? (fun i => !isLate lt i) with
   | some i => i :: greedy P ops lt s fuel (i :: done)
   | none => match ready with
    | i :: _ => i :: greedy P ops lt s fuel (i :: done)
    | [] => []
def allIn (s : Nat) (dn : List (Nat × CR)) : Bool := (List.range s).all fun i => dn.any fun p => Nat.beq p.1 i
def allLt (s : Nat) (dn : List (Nat × CR)) : Bool := dn.all fun p => Nat.blt p.1 s
def seqOK (ops : Array Oper) (s : Nat) : Bool := (List.range' s (ops.size - s)).all fun i => allAdj ops i i
def lateOp : Op → Bool
 | .alloc _ | .makeMap _ none | .buildSlice _ 0 ⟨[]⟩ => true
 | _ => false
def okLate (ops : Array Oper) : Option Nat → Bool
 | none => true
 | some i => match ops[i]? with
  | some o => lateOp o.op && (o.guard.isNone && o.dst.isSome)
  | none => false
def edgesOK (ops : Array Oper) : Nat → Bool
 | 0 => true
 | n + 1 => (match ops[n]? with
  | some o => o.after.toList.all fun e => !Region.binds .any e || Nat.blt e.on n
  | none => true) && edgesOK ops n
def cDrawAt (P : Program) (ops : Array Oper) (s : Nat) (lt : Option Nat) (ord : List Nat) : Option (List CR × List CR) :=
 match cDrawA P ops (masks ops ops.size) lt ord [] with
 | some (r, dn) => bif Nat.ble s ops.size && (allIn s dn && (allLt s dn && (seqOK ops s && (okLate ops lt && edgesOK ops ops.size)))) then (match cItems P ops (List.range' s (ops.size - s)) with
  | some b => some (r, b)
  | none => none) else none
 | none => none
def tryLate (P : Program) (ops : Array Oper) (s : Nat) : List Nat → Option (List CR × List CR)
 | [] => none
 | i :: l => match itemAt P ops i with
  | some it => bif it.late then (match cDrawAt P ops s (some i) (greedy P ops (some i) s s []) with
   | some r => some r
   | none => tryLate P ops s l) else tryLate P ops s l
  | none => none
def cDraw (P : Program) (ops : Array Oper) : Option (List CR × List CR) :=
 let s := tailFrom ops ops.size
 match cDrawAt P ops s none (greedy P ops none s s []) with
 | some r => some r
 | none => tryLate P ops s (List.range s)
theorem memN_iff {n : Nat} : ∀ {l : List Nat}, memN n l = true ↔ n ∈ l
 | [] => by simp [memN]
 | m :: l => by
  simp only [memN, Bool.or_eq_true, List.mem_cons, memN_iff (l := l)]
  constructor
  ·rintro (h | h)
   ·exact .inl (nbt h)
   ·exact .inr h
  ·rintro (rfl | h)
   ·exact .inl (Nat.beq_refl _)
   ·exact .inr h
section
variable {ops : Array Oper}
def Down (ops : Array Oper) (X : Array Bool) : Prop := ∀ i o, X.getD i false = true → ops[i]? = some o → ∀ e ∈ o.after, Region.binds .any e = true → X.getD e.on false = true
def Ready (ops : Array Oper) (X : Array Bool) (i : Nat) : Prop := ∃ o, ops[i]? = some o ∧ ∀ e ∈ o.after, Region.binds .any e = true → X.getD e.on false = true
theorem masks_length : ∀ n, (masks ops n).length = n
 | 0 => rfl
 | n + 1 => by simp [masks, masks_length n]
theorem masks_prefix {n m i : Nat} (h : i < n) (hm : n ≤ m) : (masks ops m)[i]? = (masks ops n)[i]? := by
 induction m with
 | zero => omega
 | succ m ih =>
  by_cases e : n = m + 1
  ·rw [e]
  ·simp only [masks]
   rw [lal (by rw [masks_length]; omega)]
   exact ih (by omega)
theorem orEdges_bit {m : List Nat} {j : Nat} : ∀ {l : List Edge}, (orEdges m l).testBit j = true → ∃ e ∈ l, Region.binds .any e = true ∧ (e.on = j ∨ (m.getD e.on 0).testBit j = true)
 | [], h => by simp [orEdges] at h
 | e :: l, h => by
  simp only [orEdges] at h
  cases hb : Region.binds .any e with
  | false =>
   simp only [hb, cond_false] at h
   obtain ⟨e', he, h'⟩ := orEdges_bit h
   exact ⟨e', by simp [he], h'⟩
  | true =>
   simp only [hb, cond_true] at h
   have h : ((2 ^ e.on ||| m.getD e.on 0) ||| orEdges m l).testBit j = true := h
   rw [Nat.testBit_or, Nat.testBit_or, Bool.or_eq_true, Bool.or_eq_true] at h
   rcases h with (h | h) | h
   ·rw [Nat.testBit_two_pow] at h
    exact ⟨e, by simp, hb, .inl (by simpa using h)⟩
   ·exact ⟨e, by simp, hb, .inr h⟩
   ·obtain ⟨e', he, h'⟩ := orEdges_bit h
    exact ⟨e', by simp [he], h'⟩
theorem bb_sound {X : Array Bool} (hD : Down ops X) : ∀ (i j : Nat), bb (masks ops ops.size) i j = true → (X.getD i false = true ∨ Ready ops X i) → X.getD j false = true := by
 intro i
 induction i using Nat.strongRecOn with
 | _ i ih =>
  intro j h hi
  unfold bb at h
  have hlt : i < ops.size := by
   rcases Nat.lt_or_ge i ops.size with h' | h'
   ·exact h'
   ·rw [List.getD_eq_getElem?_getD, List.getElem?_eq_none (by rw [masks_length]; exact h')] at h
    simp at h
  rw [List.getD_eq_getElem?_getD, masks_prefix (n := i + 1) (by omega) (by omega)] at h
  have hlast : (masks ops (i + 1))[i]? = some (match ops[i]? with | some o => orEdges (masks ops i) o.after.toList | none => 0) := by
   simp only [masks]
   rw [lar (by rw [masks_length]; exact Nat.le_refl _), masks_length, Nat.sub_self]
   rfl
  rw [hlast, Option.getD_some] at h
  have ho : ops[i]? = some ops[i] := age hlt
  rw [ho] at h
  obtain ⟨e, he, hb, h'⟩ := orEdges_bit h
  have hX : X.getD e.on false = true := by
   rcases hi with hi | ⟨o, ho', hr⟩
   ·exact hD i _ hi ho e (by simpa using he) hb
   ·rw [ho] at ho'; injection ho' with ho'; subst ho'
    exact hr e (by simpa using he) hb
  rcases h' with rfl | h'
  ·exact hX
  ·have hlt2 : e.on < i := by
    rcases Nat.lt_or_ge e.on i with q | q
    ·exact q
    ·rw [List.getD_eq_getElem?_getD, List.getElem?_eq_none (by rw [masks_length]; exact q)] at h'
     simp at h'
   refine ih e.on hlt2 j ?_ (.inl hX)
   unfold bb
   rw [List.getD_eq_getElem?_getD] at h' ⊢
   rw [masks_prefix (n := i) hlt2 (by omega)]
   exact h'
end
def Got (T : AAct) (d : Option Nat) (v : AV) : Prop :=
 match d with
 | none => True
 | some d => T.tmps.get d d = some v ∧ d < T.n
def ItemAt (call : Call) (T : AAct) (it : CR) (aw aw' : AW) : Prop :=
 match it with
 | .op d g c => (xguard T g = some true ∧ ∃ v, xop T.tmps aw c = some (v, aw') ∧ Got T d v) ∨ (xguard T g = some false ∧ aw' = aw ∧ Got T d (.tuple []))
 | .call d g f as => (xguard T g = some true ∧ ∃ vs v, evs T.tmps as = some vs ∧ call f vs aw = some (.ret v aw') ∧ Got T d v) ∨ (xguard T g = some false ∧ aw' = aw ∧ Got T d (.tuple []))
 | .callv d g f as => (xguard T g = some true ∧ ∃ ff first cap vs v, f.ev T.tmps = some (.func (.func ff) first cap) ∧ evs T.tmps as = some vs ∧ call ff (first ++ vs ++ cap) aw = some (.ret v aw') ∧ Got T d v) ∨ (xguard T g = some false ∧ aw' = aw ∧ Got T d (.tuple []))
 | _ => False
theorem xguard_congr {T T' : AAct} {g : Option (Nat × Bool)} (h : ∀ t ∈ guse g, T'.tmps.get t t = T.tmps.get t t) : xguard T' g = xguard T g := by
 cases g with
 | none => rfl
 | some p => simp only [xguard]; rw [h p.1 (by simp [guse])]
theorem ItemAt.mono {call : Call} {T T' : AAct} {it : CR} {aw aw' : AW} (h : ItemAt call T it aw aw') (hn : T'.n = T.n) (hu : ∀ t ∈ it.uses, T'.tmps.get t t = T.tmps.get t t) (hd : ∀ d, it.dst = some d → T'.tmps.get d d = T.tmps.get d d) : ItemAt call T' it aw aw' := by
 have got : ∀ d v, it.dst = d → Got T d v → Got T' d v := fun d v e hg => by
  cases d with
  | none => trivial
  | some d => exact ⟨by rw [hd d e]; exact hg.1, by rw [hn]; exact hg.2⟩
 cases it with
 | op d g c =>
  have hg := xguard_congr (g := g) fun t ht => hu t (by simp [CR.uses, ht])
  have hx : xop T'.tmps aw c = xop T.tmps aw c := xop_congr fun t ht => hu t (by simp [CR.uses, ht])
  rcases h with ⟨h1, v, h2, h3⟩ | ⟨h1, h2, h3⟩
  ·exact .inl ⟨hg ▸ h1, v, hx ▸ h2, got d v rfl h3⟩
  ·exact .inr ⟨hg ▸ h1, h2, got d _ rfl h3⟩
 | call d g f as =>
  have hg := xguard_congr (g := g) fun t ht => hu t (by simp [CR.uses, ht])
  have hx : evs T'.tmps as = evs T.tmps as := evs_congr fun t ht => hu t (by simp [CR.uses, ht])
  rcases h with ⟨h1, vs, v, h2, h3, h4⟩ | ⟨h1, h2, h3⟩
  ·exact .inl ⟨hg ▸ h1, vs, v, hx ▸ h2, h3, got d v rfl h4⟩
  ·exact .inr ⟨hg ▸ h1, h2, got d _ rfl h3⟩
 | callv d g f as =>
  have hg := xguard_congr (g := g) fun t ht => hu t (by simp [CR.uses, ht])
  have hx : evs T'.tmps as = evs T.tmps as := evs_congr fun t ht => hu t (by simp [CR.uses, ht])
  have hf : f.ev T'.tmps = f.ev T.tmps := ev_congr fun t ht => hu t (by simp [CR.uses, ht])
  rcases h with ⟨h1, ff, first, cap, vs, v, h0, h2, h3, h4⟩ | ⟨h1, h2, h3⟩
  ·exact .inl ⟨hg ▸ h1, ff, first, cap, vs, v, hf ▸ h0, hx ▸ h2, h3, got d v rfl h4⟩
  ·exact .inr ⟨hg ▸ h1, h2, got d _ rfl h3⟩
 | defer _ _ _ => exact h
 | panic _ => exact h
 | chk _ _ _ => exact h
theorem put_get {a a' : AAct} {d : Option Nat} {v : AV} (h : a.put d v = some a') : a'.n = a.n ∧ a'.defs = a.defs ∧ Got a' d v ∧ ∀ t, d ≠ some t → a'.tmps.get t t = a.tmps.get t t := by
 unfold AAct.put at h
 split at h
 ·simp at h; subst h; exact ⟨rfl, rfl, trivial, fun _ _ => rfl⟩
 ·rename_i d
  cases hb : Nat.blt d a.n <;> simp only [hb, cond_true, cond_false, reduceCtorEq, sI] at h
  subst h
  exact ⟨rfl, rfl, ⟨Tr.get_set_same _ _, nbl hb⟩, fun t ht => Tr.get_set_other (fun e => ht (by rw [e])) _ _ _⟩
def effL : List (Nat × CR) → List Nat
 | [] => []
 | (i, it) :: l => bif Nat.beq it.kind 2 then effL l ++ [i] else effL l
def Fact (call : Call) (M : List Nat) (T : AAct) (hs : List AW) (E : List Nat) (i : Nat) (it : CR) (c : Nat) : Prop :=
 (it.kind = 2 → ∃ h h', hs[c]? = some h ∧ hs[c + 1]? = some h' ∧ ItemAt call T it h h') ∧
 (it.kind = 0 → ∀ (m : Nat) h, hs[m]? = some h → ItemAt call T it h h) ∧
 (it.kind = 1 → ∀ (m : Nat) h, hs[m]? = some h → c ≤ m → (∀ (q : Nat) e, c ≤ q → q < m → E[q]? = some e → bb M e i = false) → ItemAt call T it h h)
def Facts (call : Call) (M : List Nat) (T : AAct) (hs : List AW) (dn : List (Nat × CR)) : Prop :=
 ∀ newer i it older, dn = newer ++ (i, it) :: older → it.kind ≤ 2 ∧ Fact call M T hs (effL dn) i it (effL older).length
def Beside (T0 T : AAct) (dn : List (Nat × CR)) : Prop :=
 T.n = T0.n ∧ T.defs = T0.defs ∧ ∀ t, (∀ p ∈ dn, p.2.dst ≠ some t) → T.tmps.get t t = T0.tmps.get t t
def OKL (M : List Nat) (lt : Option Nat) (dn : List (Nat × CR)) : Prop :=
 ∀ newer i it older, dn = newer ++ (i, it) :: older → it.kind ≤ 2 ∧ okNew M i it older = true ∧ okSelf it = true ∧ okStage M lt i it older = true
theorem okNew_mem {M : List Nat} {i : Nat} {it : CR} : ∀ {l : List (Nat × CR)}, okNew M i it l = true → ∀ j jt, (j, jt) ∈ l → okPair M i it j jt = true
 | [], _, j, jt, h => by simp at h
 | (k, kt) :: l, h, j, jt, hm => by
  simp only [okNew, Bool.and_eq_true] at h
  rcases List.mem_cons.1 hm with e | hm
  ·injection e with e1 e2; subst e1; subst e2; exact h.1
  ·exact okNew_mem h.2 j jt hm
theorem okPair_inv {M : List Nat} {i j : Nat} {it jt : CR} (h : okPair M i it j jt = true) : i ≠ j ∧ (∀ d, jt.dst = some d → d ∈ it.uses → bb M i j = true) ∧ (∀ d, it.dst = some d → d ∉ jt.uses ∧ jt.dst ≠ some d) := by
 unfold okPair at h
 simp only [Bool.and_eq_true, Bool.not_eq_true'] at h
 obtain ⟨h1, h2, h3⟩ := h
 refine ⟨ne_of_beq h1, fun d e hu => ?_, fun d e => ?_⟩
 ·rw [e] at h2
  simp only [Bool.or_eq_true, Bool.not_eq_true'] at h2
  exact h2.resolve_left fun q => by rw [memN_iff.2 hu] at q; cases q
 ·rw [e] at h3
  simp only [Bool.and_eq_true, Bool.not_eq_true'] at h3
  refine ⟨fun hu => (by rw [memN_iff.2 hu] at h3; cases h3.1), fun e' => ?_⟩
  rw [e'] at h3
  simp [Nat.beq_refl] at h3
theorem okSelf_inv {it : CR} (h : okSelf it = true) : (∀ d, it.dst = some d → d ∉ it.uses) ∧ (it.dst = none → it.kind ≠ 1) := by
 unfold okSelf at h
 refine ⟨fun d e hu => ?_, fun e hk => ?_⟩
 ·rw [e] at h; simp [memN_iff.2 hu] at h
 ·rw [e, hk] at h; simp at h
theorem item_step {call : Call} {it : CR} {l : List CR} {a : AAct} {aw : AW} {o : Out} (h : xitems call (it :: l) a aw = some o) (hn : o.x = .norm) (hk : it.kind ≤ 2) (hs : okSelf it = true) :
  ∃ a' aw', ItemAt call a' it aw aw' ∧ xitems call l a' aw' = some o ∧ a'.n = a.n ∧ a'.defs = a.defs ∧ ∀ t, it.dst ≠ some t → a'.tmps.get t t = a.tmps.get t t := by
 obtain ⟨hs1, _⟩ := okSelf_inv hs
 have use : ∀ {a' : AAct} {d : Option Nat} {v : AV}, it.dst = d → a.put d v = some a' → ∀ t ∈ it.uses, a.tmps.get t t = a'.tmps.get t t := fun hd hp t ht =>
  ((put_get hp).2.2.2 t fun e => hs1 t (hd.trans e) ht).symm
 cases it with
 | op d g c =>
  simp only [xitems] at h
  split at h <;> (try (cases h; done))
  ·rename_i hg
   split at h <;> (try (cases h; done))
   rename_i v aw' hv
   split at h <;> (try (cases h; done))
   rename_i a' ha
   have hu := use rfl ha
   obtain ⟨p1, p2, p3, p4⟩ := put_get ha
   refine ⟨a', aw', .inl ⟨?_, v, ?_, p3⟩, h, p1, p2, p4⟩
   ·rw [← hg]; exact (xguard_congr fun t ht => hu t (by simp [CR.uses, ht])).symm
   ·rw [← hv]; exact (xop_congr fun t ht => hu t (by simp [CR.uses, ht])).symm
  ·rename_i hg
   split at h <;> (try (cases h; done))
   rename_i a' ha
   have hu := use rfl ha
   obtain ⟨p1, p2, p3, p4⟩ := put_get ha
   refine ⟨a', aw, .inr ⟨?_, rfl, p3⟩, h, p1, p2, p4⟩
   rw [← hg]; exact (xguard_congr fun t ht => hu t (by simp [CR.uses, ht])).symm
 | call d g f as =>
  simp only [xitems] at h
  split at h <;> (try (cases h; done))
  ·rename_i hg
   split at h <;> (try (cases h; done))
   rename_i vs hvs
   cases hres : call f vs aw with
   | none => rw [hres] at h; cases h
   | some res =>
    rw [hres] at h
    cases res with
    | panic v aw' => simp only [xback, sI] at h; subst h; cases hn
    | ret v aw' =>
     simp only [xback] at h
     split at h <;> (try (cases h; done))
     rename_i a' ha
     have hu := use rfl ha
     obtain ⟨p1, p2, p3, p4⟩ := put_get ha
     refine ⟨a', aw', .inl ⟨?_, vs, v, ?_, hres, p3⟩, h, p1, p2, p4⟩
     ·rw [← hg]; exact (xguard_congr fun t ht => hu t (by simp [CR.uses, ht])).symm
     ·rw [← hvs]; exact (evs_congr fun t ht => hu t (by simp [CR.uses, ht])).symm
  ·rename_i hg
   split at h <;> (try (cases h; done))
   rename_i a' ha
   have hu := use rfl ha
   obtain ⟨p1, p2, p3, p4⟩ := put_get ha
   refine ⟨a', aw, .inr ⟨?_, rfl, p3⟩, h, p1, p2, p4⟩
   rw [← hg]; exact (xguard_congr fun t ht => hu t (by simp [CR.uses, ht])).symm
 | callv d g f as =>
  simp only [xitems] at h
  split at h <;> (try (cases h; done))
  ·rename_i hg
   split at h <;> (try (cases h; done))
   rename_i ff first cap hf
   split at h <;> (try (cases h; done))
   rename_i vs hvs
   cases hres : call ff (first ++ vs ++ cap) aw with
   | none => rw [hres] at h; cases h
   | some res =>
    rw [hres] at h
    cases res with
    | panic v aw' => simp only [xback, sI] at h; subst h; cases hn
    | ret v aw' =>
     simp only [xback] at h
     split at h <;> (try (cases h; done))
     rename_i a' ha
     have hu := use rfl ha
     obtain ⟨p1, p2, p3, p4⟩ := put_get ha
     refine ⟨a', aw', .inl ⟨?_, ff, first, cap, vs, v, ?_, ?_, hres, p3⟩, h, p1, p2, p4⟩
     ·rw [← hg]; exact (xguard_congr fun t ht => hu t (by simp [CR.uses, ht])).symm
     ·rw [← hf]; exact (ev_congr fun t ht => hu t (by simp [CR.uses, ht])).symm
     ·rw [← hvs]; exact (evs_congr fun t ht => hu t (by simp [CR.uses, ht])).symm
  ·rename_i hg
   split at h <;> (try (cases h; done))
   rename_i a' ha
   have hu := use rfl ha
   obtain ⟨p1, p2, p3, p4⟩ := put_get ha
   refine ⟨a', aw, .inr ⟨?_, rfl, p3⟩, h, p1, p2, p4⟩
   rw [← hg]; exact (xguard_congr fun t ht => hu t (by simp [CR.uses, ht])).symm
 | defer d f as => simp [CR.kind] at hk
 | panic x => simp [CR.kind] at hk
 | chk d g c => simp [CR.kind] at hk
theorem ItemAt.kind0 {call : Call} {T : AAct} {it : CR} {h h' h2 : AW} (hi : ItemAt call T it h h') (hk : it.kind = 0) : h' = h ∧ ItemAt call T it h2 h2 := by
 cases it with
 | op d g c =>
  rcases hi with ⟨h1, v, hx, h3⟩ | ⟨h1, rfl, h3⟩
  ·obtain ⟨e, hall⟩ := Ae.kind0 (c := c) hk hx
   exact ⟨e, .inl ⟨h1, v, hall h2, h3⟩⟩
  ·exact ⟨rfl, .inr ⟨h1, rfl, h3⟩⟩
 | _ => simp [CR.kind] at hk
theorem ItemAt.kind1 {call : Call} {T : AAct} {it : CR} {h h' : AW} (hi : ItemAt call T it h h') (hk : it.kind = 1) : h' = h := by
 cases it with
 | op d g c =>
  rcases hi with ⟨h1, v, hx, h3⟩ | ⟨h1, rfl, h3⟩
  ·exact Ae.kind1 (c := c) hk hx
  ·rfl
 | _ => simp [CR.kind] at hk
theorem chks_run {call : Call} {M : List Nat} {e : Nat} {a : AAct} {aw : AW} {o : Out} {l : List CR} : ∀ {done : List (Nat × CR)}, (∀ j jt, (j, jt) ∈ done → jt.kind = 1 → ∃ h, ItemAt call a jt h h) → (∀ j jt, (j, jt) ∈ done → okSelf jt = true) → xitems call (chks M e done ++ l) a aw = some o →
  xitems call l a aw = some o ∧ ∀ j jt, (j, jt) ∈ done → jt.kind = 1 → bb M e j = false → ItemAt call a jt aw aw
 | [], _, _, h => ⟨h, fun j jt hm => by simp at hm⟩
 | (k, kt) :: done, hf, hs, h => by
  have hf' : ∀ j jt, (j, jt) ∈ done → jt.kind = 1 → ∃ h, ItemAt call a jt h h := fun j jt hm => hf j jt (by simp [hm])
  have hs' : ∀ j jt, (j, jt) ∈ done → okSelf jt = true := fun j jt hm => hs j jt (by simp [hm])
  have skip : xitems call (chks M e done ++ l) a aw = some o → (kt.kind = 1 → bb M e k = false → ItemAt call a kt aw aw) →
    xitems call l a aw = some o ∧ ∀ j jt, (j, jt) ∈ (k, kt) :: done → jt.kind = 1 → bb M e j = false → ItemAt call a jt aw aw := fun h1 h2 => by
   obtain ⟨r1, r2⟩ := chks_run hf' hs' h1
   refine ⟨r1, fun j jt hm hk hb => ?_⟩
   rcases List.mem_cons.1 hm with q | hm
   ·injection q with q1 q2; subst q1; subst q2; exact h2 hk hb
   ·exact r2 j jt hm hk hb
  simp only [chks] at h
  split at h
  ·rename_i d g c
   cases hq : (Nat.beq c.kind 1 && !bb M e k) with
   | false =>
    simp only [hq, cond_false] at h
    refine skip h fun hk hb => ?_
    have hk' : c.kind = 1 := hk
    rw [hk', hb] at hq
    simp [Nat.beq_refl] at hq
   | true =>
    simp only [hq, cond_true, List.cons_append, xitems] at h
    simp only [Bool.and_eq_true] at hq
    have hk1 := nbt hq.1
    obtain ⟨h0, hi⟩ := hf k (.op (some d) g c) (by simp) hk1
    split at h <;> (try (cases h; done))
    ·rename_i hg
     split at h <;> (try (cases h; done))
     rename_i v aw2 hv
     split at h <;> (try (cases h; done))
     rename_i u hu
     cases hsame : AV.same 6 v u <;> simp only [hsame, cond_true, cond_false, reduceCtorEq] at h
     have := AV.same_eq 6 hsame; subst this
     have haw := Ae.kind1 hk1 hv; subst haw
     refine skip h fun _ _ => .inl ⟨hg, v, hv, ?_⟩
     rcases hi with ⟨_, v', _, h3⟩ | ⟨h1, _, _⟩
     ·exact ⟨hu, h3.2⟩
     ·rw [hg] at h1; cases h1
    ·rename_i hg
     refine skip h fun _ _ => .inr ⟨hg, rfl, ?_⟩
     rcases hi with ⟨h1, _⟩ | ⟨_, _, h3⟩
     ·rw [hg] at h1; cases h1
     ·exact h3
  ·rename_i hno
   refine skip h fun hk hb => ?_
   cases kt with
   | op d g c =>
    cases d with
    | some d => exact (hno d g c rfl).elim
    | none => exact ((okSelf_inv (hs k (.op none g c) (by simp))).2 rfl hk).elim
   | _ => simp [CR.kind] at hk
structure Known (call : Call) (M : List Nat) (lt : Option Nat) (T0 T : AAct) (hs : List AW) (dn : List (Nat × CR)) : Prop where
 len : hs.length = (effL dn).length + 1
 facts : Facts call M T hs dn
 beside : Beside T0 T dn
 ok : OKL M lt dn
theorem split_mem {dn : List (Nat × CR)} {p : Nat × CR} (h : p ∈ dn) : ∃ newer older, dn = newer ++ p :: older := List.append_of_mem h
theorem effL_sub {l : List (Nat × CR)} {e : Nat} (h : e ∈ effL l) : ∃ it, (e, it) ∈ l ∧ it.kind = 2 := by
 induction l with
 | nil => simp [effL] at h
 | cons p l ih =>
  obtain ⟨i, it⟩ := p
  simp only [effL] at h
  cases hk : Nat.beq it.kind 2 with
  | true =>
   simp only [hk, cond_true, List.mem_append, List.mem_singleton] at h
   rcases h with h | rfl
   ·obtain ⟨jt, h1, h2⟩ := ih h; exact ⟨jt, by simp [h1], h2⟩
   ·exact ⟨it, by simp, nbt hk⟩
  | false =>
   simp only [hk, cond_false] at h
   obtain ⟨jt, h1, h2⟩ := ih h; exact ⟨jt, by simp [h1], h2⟩
theorem effL_append (l m : List (Nat × CR)) : effL (l ++ m) = effL m ++ effL l := by
 induction l with
 | nil => simp [effL]
 | cons p l ih =>
  obtain ⟨i, it⟩ := p
  simp only [List.cons_append, effL, ih]
  cases Nat.beq it.kind 2 <;> simp
theorem drawA_run {P : Program} {call : Call} {ops : Array Oper} {M : List Nat} {lt : Option Nat} {T0 : AAct} {o : Out} (hn : o.x = .norm) : ∀ (ord : List Nat) (done : List (Nat × CR)) {r : List CR} {dn : List (Nat × CR)} {a : AAct} {aw : AW} {hs : List AW}, cDrawA P ops M lt ord done = some (r, dn) → xitems call r a aw = some o →
  Known call M lt T0 a hs done → hs[(effL done).length]? = some aw → ∃ hs', Known call M lt T0 o.act hs' dn ∧ hs'[(effL dn).length]? = some o.aw ∧ hs'[0]? = hs[0]? ∧ ∀ p ∈ dn, p ∈ done ∨ ∃ o, ops[p.1]? = some o ∧ cItem P ops o = some p.2
 | [], done, r, dn, a, aw, hs, hc, hx, hK, hl => by
  simp [cDrawA] at hc
  obtain ⟨rfl, rfl⟩ := hc
  simp [xitems] at hx; subst hx
  exact ⟨hs, hK, hl, rfl, fun p hp => .inl hp⟩
 | i :: ord, done, r, dn, a, aw, hs, hc, hx, hK, hl => by
  simp only [cDrawA] at hc
  split at hc <;> (try (cases hc; done))
  rename_i op hop
  split at hc <;> (try (cases hc; done))
  rename_i it hit
  cases hb : (Nat.ble it.kind 2 && (okNew M i it done && (okSelf it && okStage M lt i it done))) <;> simp only [hb, cond_true, cond_false, reduceCtorEq] at hc
  simp only [Bool.and_eq_true] at hb
  obtain ⟨b1, b2, b3, b4⟩ := hb
  have b1 := nbl b1
  split at hc <;> (try (cases hc; done))
  rename_i r' dn' hrec
  simp at hc; obtain ⟨rfl, rfl⟩ := hc
  have hself : ∀ j jt, (j, jt) ∈ done → okSelf jt = true := fun j jt hm => by
   obtain ⟨n, ol, e⟩ := split_mem hm
   exact (hK.ok n j jt ol e).2.2.1
  have hpair : ∀ j jt, (j, jt) ∈ done → okPair M i it j jt = true := okNew_mem b2
  obtain ⟨a', aw', hI, hx', hn', hd', hot⟩ := item_step hx hn b1 b3
  have stable : ∀ j jt h h', (j, jt) ∈ done → ItemAt call a jt h h' → ItemAt call a' jt h h' := fun j jt h h' hm hi => by
   obtain ⟨_, _, q3⟩ := okPair_inv (hpair j jt hm)
   refine hi.mono hn' (fun t ht => hot t fun e => (q3 t e).1 ht) fun d hd => hot d fun e => (q3 d e).2 hd
  have hbes : Beside T0 a' ((i, it) :: done) := by
   obtain ⟨c1, c2, c3⟩ := hK.beside
   exact ⟨hn'.trans c1, hd'.trans c2, fun t ht => by rw [hot t (ht (i, it) (by simp))]; exact c3 t fun p hp => ht p (by simp [hp])⟩
  have hokl : OKL M lt ((i, it) :: done) := fun newer j jt older e => by
   cases newer with
   | nil => simp at e; obtain ⟨⟨rfl, rfl⟩, rfl⟩ := e; exact ⟨b1, b2, b3, b4⟩
   | cons p newer => simp at e; exact hK.ok newer j jt older e.2
  have some1 : ∀ j jt, (j, jt) ∈ done → jt.kind = 1 → ∃ h, ItemAt call a' jt h h := fun j jt hm hk => by
   obtain ⟨n, ol, e⟩ := split_mem hm
   obtain ⟨_, _, _, f1⟩ := hK.facts n j jt ol e
   have hlt : (effL ol).length < hs.length := by
    rw [hK.len, e, effL_append]
    simp only [effL, List.length_append]
    cases Nat.beq jt.kind 2 <;> simp <;> omega
   exact ⟨_, stable j jt _ _ hm (f1 hk _ _ (lge hlt) (Nat.le_refl _) fun q e h1 h2 => by omega)⟩
  cases hk2 : Nat.beq it.kind 2 with
  | false =>
   rw [hk2] at hx'
   simp only [cond_false, List.nil_append] at hx'
   have hk2' : it.kind ≠ 2 := ne_of_beq hk2
   have haw : aw' = aw := by
    have : it.kind = 0 ∨ it.kind = 1 := by omega
    rcases this with hk | hk
    ·exact (hI.kind0 (h2 := aw) hk).1
    ·exact hI.kind1 hk
   subst haw
   have heff : effL ((i, it) :: done) = effL done := by simp [effL, hk2]
   have hK' : Known call M lt T0 a' hs ((i, it) :: done) := by
    refine ⟨by rw [heff]; exact hK.len, fun newer j jt older e => ?_, hbes, hokl⟩
    rw [heff]
    cases newer with
    | nil =>
     simp at e; obtain ⟨⟨rfl, rfl⟩, rfl⟩ := e
     refine ⟨b1, fun h => (hk2' h).elim, fun h m x hx => (hI.kind0 h).2, fun h m x hx hm _ => ?_⟩
     have hlt := (lgs.1 hx).1
     rw [hK.len] at hlt
     have : m = (effL done).length := by omega
     subst this
     rw [hl] at hx; injection hx with hx; subst hx
     exact hI
    | cons p newer =>
     simp at e
     obtain ⟨_, e⟩ := e
     have hm : (j, jt) ∈ done := by rw [e]; simp
     obtain ⟨f0, f2, f3, f4⟩ := hK.facts newer j jt older e
     refine ⟨f0, fun h => ?_, fun h m x hx => stable j jt _ _ hm (f3 h m x hx), fun h m x hx h1 h2 => stable j jt _ _ hm (f4 h m x hx h1 h2)⟩
     obtain ⟨x, x', g1, g2, g3⟩ := f2 h
     exact ⟨x, x', g1, g2, stable j jt _ _ hm g3⟩
   obtain ⟨hs', k1, k2, k3, k4⟩ := drawA_run hn ord ((i, it) :: done) hrec hx' hK' (by rw [heff]; exact hl)
   refine ⟨hs', k1, k2, k3, fun p hp => ?_⟩
   rcases k4 p hp with h | h
   ·rcases List.mem_cons.1 h with rfl | h
    ·exact .inr ⟨op, hop, hit⟩
    ·exact .inl h
   ·exact .inr h
  | true =>
   rw [hk2] at hx'
   simp only [cond_true] at hx'
   have hk2' := nbt hk2
   obtain ⟨hx2, hchk⟩ := chks_run some1 hself hx'
   have heff : effL ((i, it) :: done) = effL done ++ [i] := by simp [effL, hk2]
   have hlen : (effL ((i, it) :: done)).length = (effL done).length + 1 := by rw [heff]; simp
   have hold : ∀ (m : Nat) x, m < hs.length → (hs ++ [aw'])[m]? = some x → hs[m]? = some x := fun m x hm hx => by
    rw [lal hm] at hx; exact hx
   have hnew : ∀ (m : Nat) x, (hs ++ [aw'])[m]? = some x → m < hs.length ∨ (m = hs.length ∧ x = aw') := fun m x hx => by
    rcases Nat.lt_or_ge m hs.length with q | q
    ·exact .inl q
    ·rw [lar q] at hx
     have : m - hs.length = 0 := by
      rcases Nat.eq_zero_or_pos (m - hs.length) with z | z
      ·exact z
      ·rw [List.getElem?_eq_none (by simp; omega)] at hx; cases hx
     rw [this] at hx; simp at hx
     exact .inr ⟨by omega, hx.symm⟩
   have hK' : Known call M lt T0 a' (hs ++ [aw']) ((i, it) :: done) := by
    refine ⟨by rw [hlen]; simp [hK.len], fun newer j jt older e => ?_, hbes, hokl⟩
    cases newer with
    | nil =>
     simp at e; obtain ⟨⟨rfl, rfl⟩, rfl⟩ := e
     refine ⟨b1, fun _ => ⟨aw, aw', ?_, ?_, hI⟩, fun h => by omega, fun h => by omega⟩
     ·rw [lal (by rw [hK.len]; omega)]; exact hl
     ·rw [lar (by rw [hK.len]; omega), hK.len]; simp
    | cons p newer =>
     simp at e
     obtain ⟨_, e⟩ := e
     have hm : (j, jt) ∈ done := by rw [e]; simp
     obtain ⟨f0, f2, f3, f4⟩ := hK.facts newer j jt older e
     have hol : (effL older).length ≤ (effL done).length := by
      rw [e, effL_append]; simp only [effL, List.length_append]
      cases Nat.beq jt.kind 2 <;> simp <;> omega
     refine ⟨f0, fun h => ?_, fun h m x hx => ?_, fun h m x hx h1 h2 => ?_⟩
     ·obtain ⟨x, x', g1, g2, g3⟩ := f2 h
      refine ⟨x, x', ?_, ?_, stable j jt _ _ hm g3⟩
      ·rw [lal (lgs.1 g1).1]; exact g1
      ·rw [lal (lgs.1 g2).1]; exact g2
     ·have h0 : hs[0]? = some (hs[0]'(by rw [hK.len]; omega)) := lge _
      exact ((stable j jt _ _ hm (f3 h 0 _ h0)).kind0 h).2
     ·rcases hnew m x hx with q | ⟨rfl, rfl⟩
      ·refine stable j jt _ _ hm (f4 h m x (hold m x q hx) h1 fun q e h3 h4 h5 => h2 q e h3 h4 ?_)
       rw [heff, lal (lgs.1 h5).1]; exact h5
      ·refine hchk j jt hm h (h2 (effL done).length i hol ?_ ?_)
       ·rw [hK.len]; omega
       ·rw [heff, lar (Nat.le_refl _)]; simp
   obtain ⟨hs', k1, k2, k3, k4⟩ := drawA_run hn ord ((i, it) :: done) hrec hx2 hK' (by rw [hlen, lar (by rw [hK.len]; omega), hK.len]; simp)
   refine ⟨hs', k1, k2, ?_, fun p hp => ?_⟩
   ·rw [k3, lal (by rw [hK.len]; omega)]
   ·rcases k4 p hp with h | h
    ·rcases List.mem_cons.1 h with rfl | h
     ·exact .inr ⟨op, hop, hit⟩
     ·exact .inl h
    ·exact .inr h
mutual
theorem VRel.loc {l : List Loc} {s : SymW} {f f' : Nat → Option Obj} {k : Nat → Option Tok} : ∀ {a v}, VRel ⟨l, s, f, k⟩ a v → VRel ⟨l, s, f', k⟩ a v
 | _, _, .undef v => .undef v
 | _, _, .int k n => .int k n
 | _, _, .sym k h hw => .sym k h hw
 | _, _, .bool b => .bool b
 | _, _, .str h => .str (LRel.loc h)
 | _, _, .nilPtr => .nilPtr
 | _, _, .ptr h => .ptr h
 | _, _, .nilSlc => .nilSlc
 | _, _, .slc h ha => .slc h ha
 | _, _, .slcUp h hl hlo ha => .slcUp h hl hlo ha
 | _, _, .nilMap => .nilMap
 | _, _, .map h hb => .map h hb
 | _, _, .func fn hf hc => .func fn (LRel.loc hf) (LRel.loc hc)
 | _, _, .nilFunc => .nilFunc
 | _, _, .iface t h => .iface t (VRel.loc h)
 | _, _, .nilIface => .nilIface
 | _, _, .agg h => .agg (LRel.loc h)
 | _, _, .tuple h => .tuple (LRel.loc h)
 | _, _, .sl hk ha => .sl hk ha
theorem LRel.loc {l : List Loc} {s : SymW} {f f' : Nat → Option Obj} {k : Nat → Option Tok} : ∀ {a v}, LRel ⟨l, s, f, k⟩ a v → LRel ⟨l, s, f', k⟩ a v
 | _, _, .nil => .nil
 | _, _, .cons h t => .cons (VRel.loc h) (LRel.loc t)
end
theorem VRel.fr {E : Env} {f : Nat → Option Obj} {a : AV} {v : Value} (h : VRel E a v) : VRel { E with fr := f } a v := VRel.loc h
theorem LRel.fr {E : Env} {f : Nat → Option Obj} {a : List AV} {v : List Value} (h : LRel E a v) : LRel { E with fr := f } a v := LRel.loc h
theorem ERel.fr {E : Env} {f : Nat → Option Obj} : ∀ {l m}, ERel E l m → ERel { E with fr := f } l m
 | _, _, .nil => .nil
 | _, _, .cons hk hv hb t => .cons hk.fr hv.fr hb (ERel.fr t)
theorem DRel.fr {E : Env} {f : Nat → Option Obj} : ∀ {l m}, DRel E l m → DRel { E with fr := f } l m
 | _, _, .nil => .nil
 | _, _, .cons ht ha t => .cons ht ha.fr (DRel.fr t)
theorem ORel.fr {E : Env} {f : Nat → Option Obj} {L : Loc} {w : World} : ∀ {o : AO}, ORel E L w o → ORel { E with fr := f } L w o
 | .cells .., ⟨c, fz, h1, h2, h3, h4, h5⟩ => ⟨c, fz, h1, h2, h3, h4, fun i a hi => let ⟨v, hv, hr⟩ := h5 i a hi; ⟨v, hv, hr.fr⟩⟩
 | .map .., ⟨h0, c, h1, h2⟩ => ⟨h0, c, h1, h2.fr⟩
 | .iter .., ⟨h0, c, h1, h2⟩ => ⟨h0, c, h1, h2.fr⟩
 | .dead, _ => trivial
 | .rom .., .inl ⟨c, fz, h1, h2, h3, h5⟩ => .inl ⟨c, fz, h1, h2, h3, fun i a hi => let ⟨v, hv, hr⟩ := h5 i a hi; ⟨v, hv, hr.fr⟩⟩
 | .rom .., .inr h => .inr h
 | .gen (.ty ..), ⟨c, fz, h1, h2, h3, h4, h5⟩ => ⟨c, fz, h1, h2, h3, h4, fun i t ht => let ⟨v, hv, hr⟩ := h5 i t ht; ⟨v, hv, by cases t <;> first | exact VRel.fr hr | exact hr | (obtain ⟨a, ha, h⟩ := hr; exact ⟨a, ha, VRel.fr h⟩)⟩⟩
 | .gen (.tym ..), h => h
 | .gen (.lin ..), ⟨h0, ces, clock, h1, h2, h3, h4⟩ => ⟨h0, ces, clock, h1, h2, fun g hg => let ⟨i, q1, q2, q3, q4⟩ := h3 g hg; ⟨i, q1, q2, q3, let ⟨b, o, cap, c, fz, a1, a2, a3, a4, a5⟩ := q4; ⟨b, o, cap, c, fz, a1, a2, a3, a4, fun j a ha => let ⟨x, hx, hr⟩ := a5 j a ha; ⟨x, hx, hr.fr⟩⟩⟩, h4⟩
theorem Rel.ghost {E : Env} {aw : AW} {w : World} (h : Rel E aw w) (obj : Obj) : Rel { E with fr := fun x => if x = w.heap.size then some obj else E.fr x } aw (w.alloc obj) := by
 have hold : ∀ b, b < w.heap.size → (w.alloc obj).heap[b]? = w.heap[b]? := fun b hb => by
  show (w.heap.push _)[b]? = _
  rw [Array.getElem?_push, if_neg (Nat.ne_of_lt hb)]
 refine ⟨h.nx, (show Same w (w.alloc obj) from ⟨rfl, rfl⟩).ns h.ns, fun id o hg => ?_, h.inj, fun b o hb => ?_, fun i oi Li hi li ei => ?_, fun b o hb => ?_, fun i oi Li hi li ei => h.tok.2 i oi Li hi li ei⟩
 ·obtain ⟨L, hL, hr⟩ := h.obj id o hg
  refine ⟨L, hL, ?_⟩
  cases ho : o.live with
  | false => cases o <;> first | trivial | exact hr.fr | simp [AO.live] at ho
  | true => exact (hr.heap (hold _ (hr.lt ho))).fr
 ·simp only at hb
  by_cases e : b = w.heap.size
  ·rw [if_pos e] at hb; injection hb with hb; subst hb; subst e
   show (w.heap.push _)[w.heap.size]? = _
   simp
  ·rw [if_neg e] at hb
   rw [hold b (agz.1 (h.frame b o hb)).1]
   exact h.frame b o hb
 ·obtain ⟨L, hL, hr⟩ := h.obj i oi hi
  have ei' : E.loc[i]? = some Li := ei
  rw [hL] at ei'; injection ei' with ei'; subst ei'
  have := hr.lt li
  simp only
  rw [if_neg (by omega)]
  exact h.apart i oi _ hi li hL
 ·obtain ⟨h1, h2⟩ := h.tok.1 b o hb
  have hlt := h1.lt
  refine ⟨h1.heap (hold b hlt), ?_⟩
  simp only
  rw [if_neg (by omega)]
  exact h2
theorem Rel.unghost {E : Env} {aw : AW} {w : World} {f0 : Nat → Option Obj} {b n : Nat} {obj : Obj} {ao : AO} (h : Rel E aw w) (hf : E.fr = fun x => if x = b then some obj else f0 x) (h0 : f0 b = none)
  (ho : ∀ E w, w.heap[b]? = some obj → ORel E ⟨b, 0, n⟩ w ao) : Rel ({ E with fr := f0 }.put ⟨b, 0, n⟩) (aw.add ao) w := by
 have hb : w.heap[b]? = some obj := h.frame b obj (by rw [hf]; simp)
 have hap : ∀ i oi Li, aw.get i = some oi → oi.live = true → E.loc[i]? = some Li → Li.block ≠ b := fun i oi Li hi li ei e => by
  have := h.apart i oi Li hi li ei
  rw [hf] at this
  simp [e] at this
 have hle : ∀ {i : Nat} {L : Loc}, E.loc[i]? = some L → ({ E with fr := f0 }.put ⟨b, 0, n⟩).loc[i]? = some L := fun hi => get_append_of hi
 have new : ({ E with fr := f0 }.put ⟨b, 0, n⟩).loc[aw.nx]? = some ⟨b, 0, n⟩ := by
  rw [h.nx]; simp [Env.put]
 have old : ∀ k ok Lk, k ≠ aw.nx → aw.get k = some ok → ({ E with fr := f0 }.put ⟨b, 0, n⟩).loc[k]? = some Lk → E.loc[k]? = some Lk := fun k ok Lk hne hk ek => by
  obtain ⟨L', hL', _⟩ := h.obj k ok hk
  rw [hle hL'] at ek; injection ek with ek; subst ek; exact hL'
 have hmono : { E with fr := f0 }.Le ({ E with fr := f0 }.put ⟨b, 0, n⟩) := Env.put_le _ _
 refine ⟨by simp [AW.add, Env.put, h.nx], h.ns, fun j x hj => ?_, fun i j oi oj Li Lj hi hj li lj ei ej e => ?_, fun b' o hb' => ?_, fun i oi Li hi li ei => ?_, fun b' o hb' => ?_, fun i oi Li hi li ei => ?_⟩
 ·rcases AW.get_add hj with ⟨rfl, rfl⟩ | ⟨hne, hj⟩
  ·exact ⟨_, new, ho _ w hb⟩
  ·obtain ⟨L', hL', hr⟩ := h.obj j x hj
   exact ⟨L', hle hL', hr.fr.mono hmono⟩
 ·rcases AW.get_add hi with ⟨e1, e2⟩ | ⟨hni, hi2⟩ <;> rcases AW.get_add hj with ⟨e3, e4⟩ | ⟨hnj, hj2⟩
  ·rw [e1, e3]
  ·rw [e1, new] at ei; injection ei with ei; subst ei
   exact (hap j oj Lj hj2 lj (old j oj Lj hnj hj2 ej) e.symm).elim
  ·rw [e3, new] at ej; injection ej with ej; subst ej
   exact (hap i oi Li hi2 li (old i oi Li hni hi2 ei) e).elim
  ·exact h.inj i j oi oj Li Lj hi2 hj2 li lj (old i oi Li hni hi2 ei) (old j oj Lj hnj hj2 ej) e
 ·have hb'' : f0 b' = some o := hb'
  refine h.frame b' o ?_
  rw [hf]; simp only
  rw [if_neg fun e => by rw [e, h0] at hb''; cases hb'']
  exact hb''
 ·show f0 Li.block = none
  rcases AW.get_add hi with ⟨e1, e2⟩ | ⟨hni, hi2⟩
  ·rw [e1, new] at ei; injection ei with ei; subst ei; exact h0
  ·have hE := old i oi Li hni hi2 ei
   have h1 := h.apart i oi Li hi2 li hE
   rw [hf] at h1
   simp only at h1
   rw [if_neg (hap i oi Li hi2 li hE)] at h1
   exact h1
 ·obtain ⟨h1, h2⟩ := h.tok.1 b' o hb'
  refine ⟨h1, ?_⟩
  rw [hf] at h2
  simp only at h2
  split at h2
  ·cases h2
  ·exact h2
 ·show E.tk Li.block = none
  rcases AW.get_add hi with ⟨e1, e2⟩ | ⟨hni, hi2⟩
  ·rw [e1, new] at ei; injection ei with ei; subst ei
   show E.tk b = none
   cases hq : E.tk b with
   | none => rfl
   | some o =>
    have := (h.tok.1 b o hq).2
    rw [hf] at this
    simp at this
  ·exact h.tok.2 i oi Li hi2 li (old i oi Li hni hi2 ei)
structure LateSpec (P : Program) (o : Oper) (c : COp) : Prop where
 spec : ∃ (obj : Obj) (vf : Nat → Value) (n : Nat) (rf : Nat → AV) (ao : AO), (∀ ca w, (execOp (Act.eval ca) o).run P w = .ok (.value (vf w.heap.size)) (w.alloc obj)) ∧ (∀ T aw, xop T aw c = some (rf aw.nx, aw.add ao)) ∧
  (∀ b E w, w.heap[b]? = some obj → ORel E ⟨b, 0, n⟩ w ao) ∧ (∀ E id b, E.loc[id]? = some ⟨b, 0, n⟩ → VRel E (rf id) (vf b))
theorem late_spec {P : Program} {ops : Array Oper} {o : Oper} {it : CR} (hop : lateOp o.op = true) (hg : o.guard = none) (hit : cItem P ops o = some it) : ∃ c, it = .op o.dst none c ∧ LateSpec P o c := by
 unfold lateOp at hop
 split at hop
 ·rename_i t ht
  unfold cItem at hit
  simp only [ht, hg, cGuard] at hit
  split at hit <;> (try (cases hit; done))
  rename_i c hc
  simp at hit; subst hit
  refine ⟨c, rfl, ?_⟩
  simp only [cOp, ht] at hc
  split at hc <;> (try (cases hc; done))
  rename_i z az hz
  split at hc <;> (try (cases hc; done))
  rename_i l hl
  simp at hc; subst hc
  refine ⟨.cells z.cells t (0, 0), fun b => .pointer (some ⟨b, 0, none⟩), z.cells.size, fun id => .ptr (some (id, 0)), .cells l t false, fun ca w => ?_, fun T aw => rfl, fun b E w hb => ?_, fun E id b hL => ?_⟩
  ·simp only [execOp, ht]
   simp [Instr.alloc, run_zeroValue' hz, newVar, newRow]
  ·have hcl := (zeroP_rel hz E).cells hl
   have hlen := hcl.length
   simp at hlen
   refine ⟨z.cells, (0, 0), ⟨hb, .inl rfl⟩, rfl, by simp; omega, fun _ => ⟨rfl, hlen⟩, fun i a hi => ?_⟩
   obtain ⟨v, hv, hr⟩ := hcl.get hi
   exact ⟨v, by simpa using hv, hr⟩
  ·exact VRel.ptr (L := ⟨b, 0, z.cells.size⟩) (o := 0) hL
 ·rename_i t ht
  unfold cItem at hit
  simp only [ht, hg, cGuard] at hit
  split at hit <;> (try (cases hit; done))
  rename_i c hc
  simp at hit; subst hit
  refine ⟨c, rfl, ?_⟩
  simp only [cOp, ht, sI] at hc
  subst hc
  refine ⟨.map #[] 0, fun b => .map (some b), 0, fun id => .map (some id), .map [] 0, fun ca w => ?_, fun T aw => rfl, fun b E w hb => ⟨rfl, #[], hb, .nil⟩, fun E id b hL => VRel.map (L := ⟨b, 0, 0⟩) hL rfl⟩
  simp only [execOp, ht]
  simp [Instr.makeMap]
 ·rename_i t ht
  unfold cItem at hit
  simp only [ht, hg, cGuard] at hit
  split at hit <;> (try (cases hit; done))
  rename_i c hc
  simp at hit; subst hit
  refine ⟨c, rfl, ?_⟩
  simp only [cOp, ht] at hc
  split at hc <;> (try (cases hc; done))
  rename_i e i hs
  have hs' : P.underlying t = some (.slice e) ∧ P.info? e = some i := by
   unfold sliceOf at hs
   split at hs
   ·split at hs
    ·simp at hs; obtain ⟨rfl, rfl⟩ := hs; exact ⟨by assumption, by assumption⟩
    ·cases hs
   ·cases hs
  obtain ⟨hu, hi⟩ := hs'
  split at hc <;> (try (cases hc; done))
  split at hc <;> (try (cases hc; done))
  rename_i l hl
  cases hb : (Nat.beq l.length i.size && Nat.ble (0 * i.size) 16777216) <;> simp only [hb, cond_true, cond_false, reduceCtorEq] at hc
  simp [cParts] at hc
  subst hc
  refine ⟨.cells #[] e (0, 0), fun b => .slice (some ⟨b, 0, none⟩) 0 0, 0, fun id => .slc (some (id, 0)) 0 (.known 0), .cells [] e false, fun ca w => ?_, fun T aw => ?_, fun b E w hb => ?_, fun E id b hL => ?_⟩
  ·simp only [execOp, ht]
   simp [Instr.buildSlice, run_underlying hu, run_sizeOf' hi, newRow, Instr.fill]
   congr 2
   exact Array.eq_empty_of_size_eq_zero (by simp)
  ·simp [xop, xfill, repCells]
  ·exact ⟨#[], (0, 0), ⟨hb, .inl rfl⟩, rfl, by simp, fun _ => ⟨rfl, rfl⟩, fun i a hi => by simp at hi⟩
  ·exact .slc (L := ⟨b, 0, 0⟩) hL (.inl ⟨rfl, rfl⟩)
 ·cases hop
def restr (T : Tr AV) : List Nat → Tr AV
 | [] => .leaf
 | t :: l => match T.get t t with
  | some v => (restr T l).set t t v
  | none => restr T l
theorem restr_get {T : Tr AV} {t : Nat} {v : AV} : ∀ {l : List Nat}, (restr T l).get t t = some v → T.get t t = some v ∧ t ∈ l
 | [], h => by simp [restr, Tr.get] at h
 | s :: l, h => by
  simp only [restr] at h
  split at h
  ·rename_i u hu
   rcases Tr.get_set h with ⟨rfl, rfl⟩ | ⟨_, h⟩
   ·exact ⟨hu, by simp⟩
   ·have := restr_get h; exact ⟨this.1, by simp [this.2]⟩
  ·have := restr_get h; exact ⟨this.1, by simp [this.2]⟩
theorem restr_same {T : Tr AV} {t : Nat} : ∀ {l : List Nat}, t ∈ l → (restr T l).get t t = T.get t t
 | [], h => by simp at h
 | s :: l, h => by
  simp only [restr]
  by_cases e : t = s
  ·subst e
   cases hu : T.get t t with
   | some u => simp only; rw [Tr.get_set_same]
   | none =>
    simp only
    cases hq : (restr T l).get t t with
    | none => rfl
    | some v => have := (restr_get hq).1; rw [hu] at this; cases this
  ·have hm : t ∈ l := by rcases List.mem_cons.1 h with q | q; exact (e q).elim; exact q
   split
   ·rw [Tr.get_set_other e]; exact restr_same hm
   ·exact restr_same hm
section
variable {P : Program} {call : Call} {ops : Array Oper} {o : Oper} {i : Nat} {it : CR} {T : AAct} {h h' : AW} {E' : Env} {a : Act} {w : World} {K : Act → World → Prop} {Q : Exit → Act → World → Prop}
theorem citem_dst (hit : cItem P ops o = some it) (hk : it.kind ≤ 2) : it.dst = o.dst := by
 unfold cItem at hit
 split at hit
 ·split at hit <;> (try (cases hit; done))
  split at hit <;> (try (cases hit; done))
  split at hit
  ·simp at hit; subst hit; rfl
  ·split at hit <;> (try (cases hit; done))
   simp at hit; subst hit; rfl
 ·split at hit <;> (try (cases hit; done))
  split at hit <;> (try (cases hit; done))
  split at hit <;> (try (cases hit; done))
  simp at hit; subst hit; simp [CR.kind] at hk
 ·split at hit <;> (try (cases hit; done))
  split at hit <;> (try (cases hit; done))
  simp at hit; subst hit; simp [CR.kind] at hk
 ·split at hit <;> (try (cases hit; done))
  split at hit <;> (try (cases hit; done))
  simp at hit; subst hit; rfl
theorem exec_item (hcall : CallOK P call) (ho : ops[i]? = some o) (hit : cItem P ops o = some it) (hk : it.kind ≤ 2) (hI : ItemAt call T it h h') (hR : Rel E' h w) (hsz : a.tmps.size = T.n) (hdef : DRel E' T.defs a.defers)
  (huse : ∀ t ∈ it.uses, ∀ v, T.tmps.get t t = some v → ∃ x, a.tmps[t]? = some x ∧ VRel E' v x)
  (hK : ∀ E2 w' x, E'.Le E2 → Rel E2 h' w' → (∀ d, it.dst = some d → ∃ v, T.tmps.get d d = some v ∧ d < T.n ∧ VRel E2 v x) → K (a.put o.dst x) w') : wpOp P ops Q i K a w := by
 have hdst := citem_dst hit hk
 let R : AAct := ⟨restr T.tmps it.uses, T.n, T.defs⟩
 have hA : ActRel E' R a := ⟨hsz, fun t v hv => huse t (restr_get hv).2 v (restr_get hv).1, hdef⟩
 have same : ∀ t ∈ it.uses, R.tmps.get t t = T.tmps.get t t := fun t ht => restr_same ht
 have got : ∀ {d : Option Nat} {v : AV} {E2 : Env} {x : Value}, it.dst = d → Got T d v → VRel E2 v x → ∀ d, it.dst = some d → ∃ v, T.tmps.get d d = some v ∧ d < T.n ∧ VRel E2 v x := fun e hg hv d hd => by
  rw [hd] at e; subst e
  exact ⟨_, hg.1, hg.2, hv⟩
 unfold wpOp
 simp only [ho]
 have skip : ∀ g, cGuard ops o.guard = some g → (∀ t ∈ guse g, t ∈ it.uses) → xguard T g = some false → h' = h → Got T it.dst (.tuple []) →
   (if Region.wanted o (yielded ops a.tmps) = true then o.wp P a w K Q ∨ (o.asks P a w ∧ LetsOut Q) else K (a.put o.dst undef) w) := by
  intro g hg hgu h1 h2 h3
  have hx : xguard R g = some false := by rw [← h1]; exact xguard_congr fun t ht => same t (hgu t ht)
  rw [guard_sound hg hx hA, if_neg (by simp)]
  subst h2
  exact hK E' w undef (.refl _) hR (got rfl h3 (.tuple .nil))
 have take : ∀ g, cGuard ops o.guard = some g → (∀ t ∈ guse g, t ∈ it.uses) → xguard T g = some true → o.wp P a w K Q →
   (if Region.wanted o (yielded ops a.tmps) = true then o.wp P a w K Q ∨ (o.asks P a w ∧ LetsOut Q) else K (a.put o.dst undef) w) := by
  intro g hg hgu h1 h2
  have hx : xguard R g = some true := by rw [← h1]; exact xguard_congr fun t ht => same t (hgu t ht)
  rw [guard_sound hg hx hA, if_pos rfl]
  exact .inl h2
 have docall : ∀ {f : FuncId} {vs : List AV} {cargs : List Value} {v : AV}, call f vs h = some (.ret v h') → LRel E' vs cargs → (callable P f = true → (execOp a.eval o).run P w = .ok (.enter f cargs.toArray) w) → Got T it.dst v → o.wp P a w K Q := by
  intro f vs cargs v hres hargs hex hgot
  obtain ⟨hf, hc⟩ := hcall f vs h _ hres
  unfold Oper.wp
  rw [hex hf, Oper.upon_enter]
  refine (hc E' w cargs hargs hR).mono fun e w' he => ?_
  obtain ⟨E2, hle, hr⟩ := he
  cases e with
  | returned cv =>
   obtain ⟨hR', hv⟩ := hr
   exact hK E2 w' cv hle hR' (got rfl hgot hv)
  | panicked ch => exact hr.elim
  | outgrown => exact hr.elim
 unfold cItem at hit
 split at hit
 ·rename_i f args ts hop
  split at hit <;> (try (cases hit; done))
  rename_i g hg
  split at hit <;> (try (cases hit; done))
  rename_i as has
  split at hit
  ·rename_i f
   simp at hit; subst hit
   have hgu : ∀ t ∈ guse g, t ∈ (CR.call o.dst g f as).uses := fun t ht => by simp [CR.uses, ht]
   rcases hI with ⟨h1, vs, v, h2, h3, h4⟩ | ⟨h1, h2, h3⟩
   ·refine take g hg hgu h1 (docall h3 (opds_sound (vs := vs) hA has ?_) (fun hf => ?_) h4)
    ·rw [← h2]; exact evs_congr fun t ht => same t (by simp [CR.uses, ht])
    ·rw [exec_call hop rfl (rfl : a.eval (.func f) = .func (.func f) #[] #[]) hf]
     congr 2
     apply Array.ext'
     simp
   ·exact skip g hg hgu h1 h2 h3
  ·split at hit <;> (try (cases hit; done))
   rename_i hnf fo hfo
   simp at hit; subst hit
   have hgu : ∀ t ∈ guse g, t ∈ (CR.callv o.dst g fo as).uses := fun t ht => by simp [CR.uses, ht]
   rcases hI with ⟨h1, ff, first, cap, vs, v, h0, h2, h3, h4⟩ | ⟨h1, h2, h3⟩
   ·have hfe : fo.ev R.tmps = some (.func (.func ff) first cap) := by rw [← h0]; exact ev_congr fun t ht => same t (by simp [CR.uses, ht])
    have hr := opd_sound hA hfo hfe
    cases hev : a.eval f <;> rw [hev] at hr
    all_goals (try (cases hr; done))
    cases hr with
    | func _ hr1 hr2 =>
     refine take g hg hgu h1 (docall h3 (LRel.append (LRel.append hr1 (opds_sound (vs := vs) hA has ?_)) hr2) (fun hf => ?_) h4)
     ·rw [← h2]; exact evs_congr fun t ht => same t (by simp [CR.uses, ht])
     ·rw [exec_call hop rfl hev hf]
      congr 2
      apply Array.ext'
      simp
   ·exact skip g hg hgu h1 h2 h3
 ·split at hit <;> (try (cases hit; done))
  split at hit <;> (try (cases hit; done))
  split at hit <;> (try (cases hit; done))
  simp at hit; subst hit; simp [CR.kind] at hk
 ·split at hit <;> (try (cases hit; done))
  split at hit <;> (try (cases hit; done))
  simp at hit; subst hit; simp [CR.kind] at hk
 ·split at hit <;> (try (cases hit; done))
  rename_i g hg
  split at hit <;> (try (cases hit; done))
  rename_i c hc
  simp at hit; subst hit
  have hgu : ∀ t ∈ guse g, t ∈ (CR.op o.dst g c).uses := fun t ht => by simp [CR.uses, ht]
  rcases hI with ⟨h1, v, h2, h3⟩ | ⟨h1, h2, h3⟩
  ·have hx : xop R.tmps h c = some (v, h') := by rw [← h2]; exact xop_congr fun t ht => same t (by simp [CR.uses, ht])
   obtain ⟨E2, w', hle, hR', hy⟩ := op_sound hc hx hA hR
   refine take g hg hgu h1 ?_
   unfold Oper.wp
   rcases hy with ⟨x, hrun, hv⟩ | ⟨hrun, rfl⟩
   ·rw [hrun]; exact hK E2 w' x hle hR' (got rfl h3 hv)
   ·rw [hrun]; exact hK E2 w' undef hle hR' (got rfl h3 (.tuple .nil))
  ·exact skip g hg hgu h1 h2 h3
end
theorem okl_key {M : List Nat} {lt : Option Nat} {dn newer older : List (Nat × CR)} {i j : Nat} {it jt : CR} (h : OKL M lt dn) (e : dn = newer ++ (i, it) :: older) (hm : (j, jt) ∈ older) : i ≠ j :=
 (okPair_inv (okNew_mem (h newer i it older e).2.1 j jt hm)).1
theorem okl_uniq {M : List Nat} {lt : Option Nat} {i : Nat} {it it' : CR} : ∀ {n1 n2 o1 o2 dn : List (Nat × CR)}, OKL M lt dn → dn = n1 ++ (i, it) :: o1 → dn = n2 ++ (i, it') :: o2 → o1 = o2 ∧ it = it'
 | [], [], o1, o2, dn, h, e1, e2 => by rw [e1] at e2; simp at e2; exact ⟨e2.2, e2.1⟩
 | [], p :: n2, o1, o2, dn, h, e1, e2 => by
  have e3 := e1.symm.trans e2
  simp at e3
  exact (okl_key h e1 (j := i) (jt := it') (by rw [e3.2]; simp) rfl).elim
 | p :: n1, [], o1, o2, dn, h, e1, e2 => by
  have e3 := e2.symm.trans e1
  simp at e3
  exact (okl_key h e2 (j := i) (jt := it) (by rw [e3.2]; simp) rfl).elim
 | p :: n1, q :: n2, o1, o2, dn, h, e1, e2 => by
  have e3 := e1.symm.trans e2
  simp at e3
  refine okl_uniq (M := M) (lt := lt) (n1 := n1) (n2 := n2) (dn := n1 ++ (i, it) :: o1) ?_ rfl e3.2
  intro newer j jt older e4
  refine h (p :: newer) j jt older ?_
  rw [e1, List.cons_append, e4]
  rfl
section
variable (P : Program) (call : Call) (ops : Array Oper) (lt : Option Nat) (T : AAct) (hs : List AW) (dn : List (Nat × CR)) (s : Nat)
structure Plan (T0 : AAct) : Prop where
 known : Known call (masks ops ops.size) lt T0 T hs dn
 items : ∀ p ∈ dn, ∃ o, ops[p.1]? = some o ∧ cItem P ops o = some p.2
 allin : ∀ i, i < s → ∃ it, (i, it) ∈ dn
 alllt : ∀ p ∈ dn, p.1 < s
 late : okLate ops lt = true
structure Pend (E0 E' : Env) (k : Nat) (X : Array Bool) (a : Act) : Prop where
 ex : ∃ (ℓ : Nat) (o : Oper) (d : Nat) (c : COp) (obj : Obj) (vf : Nat → Value) (n : Nat) (rf : Nat → AV) (ao : AO) (b : Nat), lt = some ℓ ∧ X.getD ℓ false = true ∧ (ℓ, CR.op (some d) none c) ∈ dn ∧
  ((∀ T aw, xop T aw c = some (rf aw.nx, aw.add ao)) ∧ (∀ b E w, w.heap[b]? = some obj → ORel E ⟨b, 0, n⟩ w ao) ∧ (∀ E id b, E.loc[id]? = some ⟨b, 0, n⟩ → VRel E (rf id) (vf b))) ∧
  (E'.fr = fun x => if x = b then some obj else E0.fr x) ∧ E0.fr b = none ∧ a.tmps[d]? = some (vf b) ∧ ops[ℓ]? = some o ∧
  ∀ n2 lit o2, dn = n2 ++ (ℓ, lit) :: o2 → k ≤ (effL o2).length
structure Inv (E0 : Env) (X : Array Bool) (a : Act) (w : World) (pd : Bool) (E' : Env) (k : Nat) (h : AW) : Prop where
 loc : ∃ l, E'.loc = E0.loc ++ l
 sym : E'.sym = E0.sym ∧ ∀ b o, E0.tk b = some o → E'.tk b = some o
 at_ : hs[k]? = some h
 rel : Rel E' h w
 size : a.tmps.size = T.n
 defs : DRel E' T.defs a.defers
 st1 : ∀ q e, (effL dn)[q]? = some e → q < k → X.getD e false = true
 st2 : ∀ q e, (effL dn)[q]? = some e → X.getD e false = true → q < k ∨ (pd = true ∧ lt = some e)
 tm : ∀ t v, T.tmps.get t t = some v → (∀ j jt, (j, jt) ∈ dn → jt.dst = some t → X.getD j false = true ∧ ¬(pd = true ∧ lt = some j)) → ∃ x, a.tmps[t]? = some x ∧ VRel E' v x
 pend : pd = true → Pend ops lt dn E0 E' k X a
 free : pd = false → E'.fr = E0.fr
end
section
variable {P : Program} {call : Call} {ops : Array Oper} {lt : Option Nat} {T T0 : AAct} {hs : List AW} {dn : List (Nat × CR)} {s : Nat} {E0 E' : Env} {X : Array Bool} {a : Act} {w : World} {pd : Bool} {k : Nat} {h : AW}
theorem effL_at {i : Nat} {it : CR} {newer older : List (Nat × CR)} (e : dn = newer ++ (i, it) :: older) (hk : it.kind = 2) : (effL dn)[(effL older).length]? = some i := by
 rw [e, effL_append]
 simp only [effL, hk, Nat.beq_refl, cond_true, List.append_assoc]
 rw [lar (Nat.le_refl _)]
 simp
theorem effL_split {q e : Nat} : ∀ {dn : List (Nat × CR)}, (effL dn)[q]? = some e → ∃ n lit o, dn = n ++ (e, lit) :: o ∧ q = (effL o).length
 | [], hq => by simp [effL] at hq
 | (i, it) :: l, hq => by
  simp only [effL] at hq
  cases hk : Nat.beq it.kind 2 with
  | false =>
   simp only [hk, cond_false] at hq
   obtain ⟨n, lit, o, h1, h2⟩ := effL_split hq
   exact ⟨(i, it) :: n, lit, o, by rw [h1]; rfl, h2⟩
  | true =>
   simp only [hk, cond_true] at hq
   rcases Nat.lt_or_ge q (effL l).length with h | h
   ·rw [lal h] at hq
    obtain ⟨n, lit, o, h1, h2⟩ := effL_split hq
    exact ⟨(i, it) :: n, lit, o, by rw [h1]; rfl, h2⟩
   ·rw [lar h] at hq
    have hz : q - (effL l).length = 0 := by
     rcases Nat.eq_zero_or_pos (q - (effL l).length) with z | z
     ·exact z
     ·rw [List.getElem?_eq_none (by simp; omega)] at hq; cases hq
    rw [hz] at hq; simp at hq; subst hq
    exact ⟨[], it, l, rfl, by omega⟩
theorem Inv.catch_ (hP : Plan P call ops lt T hs dn s T0) (hI : Inv ops lt T hs dn E0 X a w true E' k h) (hk : ∃ ℓ lit n2 o2, lt = some ℓ ∧ dn = n2 ++ (ℓ, lit) :: o2 ∧ k = (effL o2).length) :
  ∃ E2 h2, Inv ops lt T hs dn E0 X a w false E2 (k + 1) h2 := by
 obtain ⟨ℓ, o, d, c, obj, vf, n, rf, ao, b, hlt, hX, hm, ⟨sp1, sp2, sp3⟩, hfr, hb0, htd, hop, hbelow⟩ := (hI.pend rfl).ex
 obtain ⟨ℓ', lit, n2, o2, hlt', hsp, hkk⟩ := hk
 rw [hlt] at hlt'; injection hlt' with hlt'; subst hlt'
 obtain ⟨n3, o3, hsp3⟩ := split_mem hm
 obtain ⟨ho, hl⟩ := okl_uniq hP.known.ok hsp hsp3
 subst hl
 obtain ⟨_, f2, _, _⟩ := hP.known.facts n2 ℓ _ o2 hsp
 have hkind : (CR.op (some d) none c).kind = 2 := by
  have hx := sp1 .leaf ⟨.leaf, 0, 0⟩
  have h1 := (hP.known.facts n2 ℓ _ o2 hsp).1
  have hc : c.kind = 0 ∨ c.kind = 1 ∨ c.kind = 2 := by have : c.kind ≤ 2 := h1; omega
  rcases hc with hc | hc | hc
  ·have := (Ae.kind0 hc hx).1; simp [AW.add] at this
  ·have := Ae.kind1 hc hx; simp [AW.add] at this
  ·exact hc
 obtain ⟨x, x', g1, g2, g3⟩ := f2 hkind
 rw [← hkk] at g1 g2
 have := hI.at_
 rw [this] at g1; injection g1 with g1; subst g1
 have hE : (effL dn)[k]? = some ℓ := by rw [hkk]; exact effL_at hsp hkind
 rcases g3 with ⟨_, v, hx, hgot⟩ | ⟨hg, _, _⟩
 ·rw [sp1] at hx
  simp at hx
  obtain ⟨rfl, rfl⟩ := hx
  have hR := hI.rel.unghost hfr hb0 (sp2 b)
  have hle : ∀ {a v}, VRel E' a v → VRel ({ E' with fr := E0.fr }.put ⟨b, 0, n⟩) a v := fun hv => hv.fr.mono (Env.put_le _ _)
  refine ⟨{ E' with fr := E0.fr }.put ⟨b, 0, n⟩, h.add ao, ⟨?_, ?_, g2, hR, hI.size, ?_, fun q e hq hlt2 => ?_, fun q e hq hXe => ?_, fun t v hv hj => ?_, (fun e => Bool.noConfusion e), fun _ => rfl⟩⟩
  ·obtain ⟨l, hl⟩ := hI.loc
   exact ⟨l ++ [⟨b, 0, n⟩], by simp [Env.put, hl]⟩
  ·exact hI.sym
  ·exact (hI.defs.fr (f := E0.fr)).mono (Env.put_le _ _)
  ·rcases Nat.lt_or_ge q k with hq2 | hq2
   ·exact hI.st1 q e hq hq2
   ·have : q = k := by omega
    subst this
    rw [hE] at hq; injection hq with hq; subst hq; exact hX
  ·rcases hI.st2 q e hq hXe with hq2 | ⟨_, hl⟩
   ·exact .inl (by omega)
   ·rw [hlt] at hl; injection hl with hl; subst hl
    left
    have hmem : ∃ n4 lit4 o4, dn = n4 ++ (ℓ, lit4) :: o4 ∧ q = (effL o4).length := effL_split hq
    obtain ⟨n4, lit4, o4, hs4, hq4⟩ := hmem
    obtain ⟨e1, _⟩ := okl_uniq hP.known.ok hsp hs4
    rw [hq4, ← e1, ← hkk]; omega
  ·by_cases htd2 : t = d
   ·subst htd2
    rw [hgot.1] at hv; injection hv with hv; subst hv
    refine ⟨_, htd, sp3 _ _ _ ?_⟩
    rw [hI.rel.nx]; simp [Env.put]
   ·obtain ⟨x, hx1, hx2⟩ := hI.tm t v hv fun j jt hm2 hd2 => by
     refine ⟨(hj j jt hm2 hd2).1, fun ⟨_, hl⟩ => ?_⟩
     rw [hlt] at hl; injection hl with hl; subst hl
     obtain ⟨n5, o5, hs5⟩ := split_mem hm2
     obtain ⟨_, hl5⟩ := okl_uniq hP.known.ok hsp hs5
     subst hl5
     simp [CR.dst] at hd2
     exact htd2 hd2.symm
    exact ⟨x, hx1, hle hx2⟩
 ·simp [xguard] at hg
theorem afterEff_mem {M : List Nat} {i : Nat} : ∀ {l : List (Nat × CR)}, afterEff M i l = true → ∀ j jt, (j, jt) ∈ l → jt.kind = 2 → bb M i j = true
 | [], _, j, jt, hm, _ => by simp at hm
 | (n, nt) :: l, h, j, jt, hm, hk => by
  simp only [afterEff, Bool.and_eq_true, Bool.or_eq_true, Bool.not_eq_true'] at h
  rcases List.mem_cons.1 hm with e | hm
  ·injection e with e1 e2; subst e1; subst e2
   exact h.1.resolve_left fun q => by rw [hk] at q; simp [Nat.beq_refl] at q
  ·exact afterEff_mem h.2 j jt hm hk
theorem usesLate_mem {j d : Nat} {it jt : CR} : ∀ {l : List (Nat × CR)}, (j, jt) ∈ l → lt = some j → jt.dst = some d → d ∈ it.uses → usesLate lt it l = true
 | [], hm, _, _, _ => by simp at hm
 | (n, nt) :: l, hm, hl, hd, hu => by
  simp only [usesLate, Bool.or_eq_true]
  rcases List.mem_cons.1 hm with e | hm
  ·injection e with e1 e2; subst e1; subst e2
   left; rw [hl, hd]; simp [Nat.beq_refl, memN_iff.2 hu]
  ·exact .inr (usesLate_mem hm hl hd hu)
theorem getD_set {X : Array Bool} {i j : Nat} : (X.setIfInBounds i true).getD j false = true → j = i ∨ X.getD j false = true := by
 intro h
 by_cases e : i = j
 ·exact .inl e.symm
 ·rw [getD_set_ne false e] at h; exact .inr h
theorem getD_self {X : Array Bool} {i : Nat} (h : i < X.size) : (X.setIfInBounds i true).getD i false = true := by
 simp [h]
theorem put_tmps_ne {a : Act} {d : Option Nat} {x : Value} {t : Nat} (h : d ≠ some t) : (a.put d x).tmps[t]? = a.tmps[t]? := by
 cases d with
 | none => rfl
 | some d => simp only [Act.put]; exact Array.getElem?_setIfInBounds_ne fun e => h (by rw [e])
theorem put_size {a : Act} {d : Option Nat} {x : Value} : (a.put d x).tmps.size = a.tmps.size := by cases d <;> simp [Act.put]
theorem put_defers' {a : Act} {d : Option Nat} {x : Value} : (a.put d x).defers = a.defers := by cases d <;> rfl
theorem Inv.step (hcall : CallOK P call) (hP : Plan P call ops lt T hs dn s T0) (hss : s ≤ ops.size) (hI : Inv ops lt T hs dn E0 X a w pd E' k h)
  (hstrict : pd = true → ∀ ℓ lit n2 o2, lt = some ℓ → dn = n2 ++ (ℓ, lit) :: o2 → k < (effL o2).length) (hD : Down ops X) (hXs : X.size = ops.size) {i : Nat} (hi : i < s) (hx : X.getD i false = false) (hr : Ready ops X i) {Q : Exit → Act → World → Prop} :
  wpOp P ops Q i (fun a' w' => ∃ pd' E2 k2 h2, Inv ops lt T hs dn E0 (X.setIfInBounds i true) a' w' pd' E2 k2 h2) a w := by
 obtain ⟨it, hm⟩ := hP.allin i hi
 obtain ⟨newer, older, hsp⟩ := split_mem hm
 obtain ⟨hk, hnew, hself, hstage⟩ := hP.known.ok newer i it older hsp
 obtain ⟨_, f2, f0, f1⟩ := hP.known.facts newer i it older hsp
 obtain ⟨o, ho, hit⟩ := hP.items (i, it) hm
 have hdst := citem_dst hit hk
 have iltX : i < X.size := by omega
 have down : ∀ j, bb (masks ops ops.size) i j = true → X.getD j false = true := fun j hb => bb_sound hD i j hb (.inr hr)
 have hEk : ∀ e, (effL dn)[k]? = some e → X.getD e false ≠ true := fun e he hXe => by
  rcases hI.st2 k e he hXe with q | ⟨q1, q2⟩
  ·omega
  ·obtain ⟨n, lit, o2, e1, e2⟩ := effL_split he
   have := hstrict q1 e lit n o2 q2 e1
   omega
 have hpre : ∀ q, q < (effL older).length → (effL dn)[q]? = (effL older)[q]? := fun q hq => by
  rw [hsp, effL_append]
  simp only [effL]
  cases Nat.beq it.kind 2
  ·simp only [cond_false]; rw [lal hq]
  ·simp only [cond_true, List.append_assoc]; rw [lal hq]
 have reach : afterEff (masks ops ops.size) i older = true → (effL older).length ≤ k := fun haf => by
  rcases Nat.lt_or_ge k (effL older).length with hlt | hge
  ·have he : (effL dn)[k]? = some ((effL older)[k]'hlt) := by rw [hpre k hlt]; exact lge hlt
   obtain ⟨jt, hm2, hk2⟩ := effL_sub (List.getElem_mem hlt)
   exact (hEk _ he (down _ (afterEff_mem haf _ jt hm2 hk2))).elim
  ·exact hge
 have notlate : ∀ j, lt = some j → i ≠ j → isLate lt i = false := fun j hl hne => by
  rw [hl]; simp only [isLate]
  cases hb : Nat.beq j i with
  | false => rfl
  | true => exact (hne (nbt hb).symm).elim
 have huse : ∀ t ∈ it.uses, ∀ v, T.tmps.get t t = some v → ∃ x, a.tmps[t]? = some x ∧ VRel E' v x := fun t ht v hv => by
  refine hI.tm t v hv fun j jt hm2 hd2 => ?_
  rw [hsp] at hm2
  rcases List.mem_append.1 hm2 with hm3 | hm3
  ·obtain ⟨n1, n2, e1⟩ := split_mem hm3
   have hsp2 : dn = n1 ++ (j, jt) :: (n2 ++ (i, it) :: older) := by rw [hsp, e1]; simp
   have := (okPair_inv (okNew_mem (hP.known.ok n1 j jt _ hsp2).2.1 i it (by simp))).2.2 t hd2
   exact (this.1 ht).elim
  ·rcases List.mem_cons.1 hm3 with e | hm3
   ·injection e with e1 e2; subst e1; subst e2
    exact ((okSelf_inv hself).1 t hd2 ht).elim
   ·obtain ⟨hne, q2, _⟩ := okPair_inv (okNew_mem hnew j jt hm3)
    refine ⟨down j (q2 t hd2 ht), fun ⟨hp, hl⟩ => ?_⟩
    have hul := usesLate_mem (it := it) hm3 hl hd2 ht
    have hst := hstage
    unfold okStage at hst
    rw [notlate j hl hne, hul] at hst
    simp only [cond_false, Bool.not_true, Bool.and_false] at hst
    have hge := reach hst
    obtain ⟨n1, o2, e1⟩ := split_mem hm3
    have hlt2 := hstrict hp j jt (newer ++ (i, it) :: n1) o2 hl (by rw [hsp, e1]; simp)
    have : (effL o2).length ≤ (effL older).length := by
     rw [e1, effL_append]; simp only [effL, List.length_append]
     cases Nat.beq jt.kind 2 <;> simp <;> omega
    omega
 have key : ∀ {j jt}, (j, jt) ∈ dn → j = i → jt = it := fun hm2 e => by
  subst e
  obtain ⟨n1, o2, e1⟩ := split_mem hm2
  exact (okl_uniq hP.known.ok e1 hsp).2
 have tmn : ∀ (pd2 : Bool) (E2 : Env) (x : Value), (∀ {u y}, VRel E' u y → VRel E2 u y) → (∀ d, it.dst = some d → (pd2 = true ∧ lt = some i) ∨ ∃ v, T.tmps.get d d = some v ∧ d < T.n ∧ VRel E2 v x) → (∀ j, j ≠ i → (pd = true ∧ lt = some j) → (pd2 = true ∧ lt = some j)) →
   ∀ t v, T.tmps.get t t = some v → (∀ j jt, (j, jt) ∈ dn → jt.dst = some t → (X.setIfInBounds i true).getD j false = true ∧ ¬(pd2 = true ∧ lt = some j)) → ∃ y, (a.put o.dst x).tmps[t]? = some y ∧ VRel E2 v y := by
  intro pd2 E2 x hmono hd hpd t v hv hj
  by_cases e : it.dst = some t
  ·rcases hd t e with h1 | ⟨v', h1, h2, h3⟩
   ·exact ((hj i it hm e).2 h1).elim
   ·rw [h1] at hv; injection hv with hv; subst hv
    refine ⟨x, ?_, h3⟩
    rw [← hdst, e]
    simp only [Act.put]
    exact Array.getElem?_setIfInBounds_self_of_lt (by rw [hI.size]; exact h2)
  ·obtain ⟨y, hy, hv2⟩ := hI.tm t v hv fun j jt hm2 hd2 => by
    obtain ⟨q1, q2⟩ := hj j jt hm2 hd2
    have hne : j ≠ i := fun e2 => e (by rw [← key hm2 e2]; exact hd2)
    refine ⟨(getD_set q1).resolve_left hne, fun hp => q2 (hpd j hne hp)⟩
   refine ⟨y, ?_, hmono hv2⟩
   rw [put_tmps_ne (by rw [← hdst]; exact e)]
   exact hy
 have st1' : ∀ k2, (∀ q e, (effL dn)[q]? = some e → q < k2 → q < k ∨ e = i) → ∀ q e, (effL dn)[q]? = some e → q < k2 → (X.setIfInBounds i true).getD e false = true := fun k2 hq q e he hlt2 => by
  rcases hq q e he hlt2 with h1 | rfl
  ·by_cases e2 : i = e
   ·subst e2; exact getD_self iltX
   ·rw [getD_set_ne false e2]; exact hI.st1 q e he h1
  ·exact getD_self iltX
 by_cases hlate : lt = some i
 ·
  have hpd : pd = false := by
   cases pd with
   | false => rfl
   | true =>
    obtain ⟨ℓ, _, _, _, _, _, _, _, _, _, hl, hXl, _⟩ := (hI.pend rfl).ex
    rw [hlate] at hl; injection hl with hl; subst hl
    rw [hx] at hXl; cases hXl
  subst hpd
  have hol := hP.late
  rw [hlate] at hol
  simp only [okLate, ho, Bool.and_eq_true] at hol
  obtain ⟨l1, l2, l3⟩ := hol
  have hgd : o.guard = none := by simpa using l2
  obtain ⟨d, hd⟩ := Option.isSome_iff_exists.1 l3
  obtain ⟨c, rfl, ⟨obj, vf, n, rf, ao, sp0, sp1, sp2, sp3⟩⟩ := late_spec l1 hgd hit
  have hkind : (CR.op o.dst none c).kind = 2 := by
   have hxx := sp1 .leaf ⟨.leaf, 0, 0⟩
   have hc : c.kind = 0 ∨ c.kind = 1 ∨ c.kind = 2 := by have : c.kind ≤ 2 := hk; omega
   rcases hc with hc | hc | hc
   ·have := (Ae.kind0 hc hxx).1; simp [AW.add] at this
   ·have := Ae.kind1 hc hxx; simp [AW.add] at this
   ·exact hc
  have hEc := effL_at hsp hkind
  have hkc : k ≤ (effL older).length := by
   rcases Nat.lt_or_ge (effL older).length k with hlt2 | hge
   ·have := hI.st1 _ _ hEc hlt2; rw [hx] at this; cases this
   ·exact hge
  rcases Nat.lt_or_ge k (effL older).length with hlt2 | hge
  ·
   unfold wpOp
   simp only [ho]
   have hw : Region.wanted o (yielded ops a.tmps) = true := by simp [Region.wanted, hgd]
   rw [if_pos hw]
   left
   unfold Oper.wp
   rw [sp0 a w]
   simp only [Oper.upon]
   refine ⟨true, { E' with fr := fun x => if x = w.heap.size then some obj else E'.fr x }, k, h, ⟨hI.loc, hI.sym, hI.at_, hI.rel.ghost obj, by rw [put_size]; exact hI.size, by rw [put_defers']; exact hI.defs.fr, st1' k (fun q e _ h1 => .inl h1), fun q e hq hXe => ?_, ?_, fun _ => ?_, fun e => Bool.noConfusion e⟩⟩
   ·rcases getD_set hXe with rfl | hXe
    ·exact .inr ⟨rfl, hlate⟩
    ·rcases hI.st2 q e hq hXe with q1 | ⟨q1, _⟩
     ·exact .inl q1
     ·cases q1
   ·exact tmn true _ _ (fun hv => hv.fr) (fun d hd => .inl ⟨rfl, hlate⟩) fun j hne ⟨q, _⟩ => by cases q
   ·refine ⟨i, o, d, c, obj, vf, n, rf, ao, w.heap.size, hlate, getD_self iltX, by rw [← hd]; exact hm, ⟨sp1, sp2, sp3⟩, ?_, ?_, ?_, ho, fun n2 lit o2 e1 => ?_⟩
    ·simp only [hI.free rfl]
    ·cases hf : E0.fr w.heap.size with
     | none => rfl
     | some ob =>
      rw [← hI.free rfl] at hf
      have := (agz.1 (hI.rel.frame _ _ hf)).1
      omega
    ·rw [hd]; simp only [Act.put]
     have hdn : d < T.n := by
      obtain ⟨_, _, _, _, hI2⟩ := f2 hkind
      rcases hI2 with ⟨_, v, _, hg⟩ | ⟨hg, _, _⟩
      ·rw [hd] at hg; exact hg.2
      ·simp [xguard] at hg
     exact Array.getElem?_setIfInBounds_self_of_lt (by rw [hI.size]; exact hdn)
    ·obtain ⟨e2, _⟩ := okl_uniq hP.known.ok e1 hsp
     rw [e2]; omega
  ·have hkeq : k = (effL older).length := by omega
   obtain ⟨x1, x2, g1, g2, g3⟩ := f2 hkind
   rw [← hkeq] at g1 g2
   rw [hI.at_] at g1; injection g1 with g1; subst g1
   refine exec_item hcall ho hit hk g3 hI.rel hI.size hI.defs huse fun E2 w' x hle hR2 hd2 => ?_
   obtain ⟨⟨ls, hls⟩, hss2, hfr2⟩ := hle
   have hle : E'.Le E2 := ⟨⟨ls, hls⟩, hss2, hfr2⟩
   obtain ⟨l0, hl0⟩ := hI.loc
   refine ⟨false, E2, k + 1, x2, ⟨⟨l0 ++ ls, by rw [hls, hl0, List.append_assoc]⟩, ⟨hss2.trans hI.sym.1, fun b o h => hfr2.2 b o (hI.sym.2 b o h)⟩, g2, hR2, by rw [put_size]; exact hI.size, by rw [put_defers']; exact hI.defs.mono hle, st1' (k + 1) (fun q e hq h1 => ?_), fun q e hq hXe => ?_, ?_, fun e => Bool.noConfusion e, fun _ => by rw [hfr2.1]; exact hI.free rfl⟩⟩
   ·rcases Nat.lt_or_ge q k with h2 | h2
    ·exact .inl h2
    ·have : q = k := by omega
     subst this
     rw [hkeq, hEc] at hq; injection hq with hq; exact .inr hq.symm
   ·left
    rcases getD_set hXe with rfl | hXe
    ·obtain ⟨n4, lit4, o4, hs4, hq4⟩ := effL_split hq
     obtain ⟨e1, _⟩ := okl_uniq hP.known.ok hsp hs4
     rw [hq4, ← e1]; omega
    ·rcases hI.st2 q e hq hXe with q1 | ⟨q1, _⟩
     ·omega
     ·cases q1
   ·exact tmn false E2 x (fun hv => hv.mono hle) (fun d hd => .inr (hd2 d hd)) fun j hne q => q
 ·
  have hil : isLate lt i = false := by
   cases lt with
   | none => rfl
   | some n =>
    simp only [isLate]
    cases hb : Nat.beq n i with
    | false => rfl
    | true => exact (hlate (by rw [nbt hb])).elim
  unfold okStage at hstage
  rw [hil] at hstage
  simp only [cond_false] at hstage
  have hrun : ∃ k2 h2, ItemAt call T it h h2 ∧ hs[k2]? = some h2 ∧ ((it.kind ≠ 2 ∧ k2 = k) ∨ (it.kind = 2 ∧ k = (effL older).length ∧ k2 = k + 1)) := by
   have hc : it.kind = 0 ∨ it.kind = 1 ∨ it.kind = 2 := by omega
   rcases hc with hc | hc | hc
   ·exact ⟨k, h, f0 hc k h hI.at_, hI.at_, .inl ⟨by omega, rfl⟩⟩
   ·have haf : afterEff (masks ops ops.size) i older = true := by
     rw [hc] at hstage; simpa using hstage
    refine ⟨k, h, f1 hc k h hI.at_ (reach haf) fun q e h1 h2 h3 => ?_, hI.at_, .inl ⟨by omega, rfl⟩⟩
    cases hb : bb (masks ops ops.size) e i with
    | false => rfl
    | true =>
     have := bb_sound hD e i hb (.inl (hI.st1 q e h3 h2))
     rw [hx] at this; cases this
   ·have haf : afterEff (masks ops ops.size) i older = true := by
     rw [hc] at hstage; simpa using hstage
    have hge := reach haf
    have hEc := effL_at hsp hc
    have hkeq : k = (effL older).length := by
     rcases Nat.lt_or_ge (effL older).length k with h1 | h1
     ·have := hI.st1 _ _ hEc h1; rw [hx] at this; cases this
     ·omega
    obtain ⟨x1, x2, g1, g2, g3⟩ := f2 hc
    rw [← hkeq] at g1 g2
    rw [hI.at_] at g1; injection g1 with g1; subst g1
    exact ⟨k + 1, x2, g3, g2, .inr ⟨hc, hkeq, rfl⟩⟩
  obtain ⟨k2, h2, hit2, hk2, hcase⟩ := hrun
  refine exec_item hcall ho hit hk hit2 hI.rel hI.size hI.defs huse fun E2 w' x hle hR2 hd2 => ?_
  obtain ⟨⟨ls, hls⟩, hss2, hfr2⟩ := hle
  have hle : E'.Le E2 := ⟨⟨ls, hls⟩, hss2, hfr2⟩
  obtain ⟨l0, hl0⟩ := hI.loc
  refine ⟨pd, E2, k2, h2, ⟨⟨l0 ++ ls, by rw [hls, hl0, List.append_assoc]⟩, ⟨hss2.trans hI.sym.1, fun b o h => hfr2.2 b o (hI.sym.2 b o h)⟩, hk2, hR2, by rw [put_size]; exact hI.size, by rw [put_defers']; exact hI.defs.mono hle, st1' k2 (fun q e hq h1 => ?_), fun q e hq hXe => ?_, ?_, fun hp => ?_, fun hp => by rw [hfr2.1]; exact hI.free hp⟩⟩
  ·rcases hcase with ⟨_, rfl⟩ | ⟨hc, hkeq, rfl⟩
   ·exact .inl h1
   ·rcases Nat.lt_or_ge q k with h2 | h2
    ·exact .inl h2
    ·have : q = k := by omega
     subst this
     rw [hkeq, effL_at hsp hc] at hq; injection hq with hq; exact .inr hq.symm
  ·rcases getD_set hXe with rfl | hXe
   ·obtain ⟨n4, lit4, o4, hs4, hq4⟩ := effL_split hq
    obtain ⟨e1, e2⟩ := okl_uniq hP.known.ok hsp hs4
    left
    rcases hcase with ⟨hne, rfl⟩ | ⟨hc, hkeq, rfl⟩
    ·obtain ⟨jt, hm4, hk4⟩ := effL_sub (List.mem_of_getElem? hq)
     rw [key hm4 rfl] at hk4
     exact (hne hk4).elim
    ·rw [hq4, ← e1]; omega
   ·rcases hI.st2 q e hq hXe with q1 | q1
    ·left; rcases hcase with ⟨_, rfl⟩ | ⟨_, _, rfl⟩ <;> omega
    ·exact .inr q1
  ·exact tmn pd E2 x (fun hv => hv.mono hle) (fun d hd => .inr (hd2 d hd)) fun j hne q => q
  ·obtain ⟨ℓ, o2, d, c, obj, vf, n, rf, ao, b, hl, hXl, hml, hsp4, hfr4, hb4, htd, hol2, hbel⟩ := (hI.pend hp).ex
   have hne : i ≠ ℓ := fun e => hlate (by rw [hl, e])
   refine ⟨ℓ, o2, d, c, obj, vf, n, rf, ao, b, hl, by rw [getD_set_ne false hne]; exact hXl, hml, hsp4, by rw [hfr2.1]; exact hfr4, hb4, ?_, hol2, fun n2 lit o3 e1 => ?_⟩
   ·rw [put_tmps_ne]
    ·exact htd
    ·rw [← hdst]
     intro e
     obtain ⟨n1, o5, e5⟩ := split_mem hml
     rw [hsp] at hml
     rcases List.mem_append.1 hml with hm3 | hm3
     ·obtain ⟨n1, n2, e1⟩ := split_mem hm3
      have hsp2 : dn = n1 ++ (ℓ, CR.op (some d) none c) :: (n2 ++ (i, it) :: older) := by rw [hsp, e1]; simp
      exact ((okPair_inv (okNew_mem (hP.known.ok n1 ℓ _ _ hsp2).2.1 i it (by simp))).2.2 d rfl).2 e
     ·rcases List.mem_cons.1 hm3 with e2 | hm3
      ·injection e2 with e2 _; exact hne e2.symm
      ·exact ((okPair_inv (okNew_mem hnew ℓ _ hm3)).2.2 d e).2 rfl
   ·have := hstrict hp ℓ lit n2 o3 hl e1
    rcases hcase with ⟨_, rfl⟩ | ⟨_, _, rfl⟩ <;> omega
end
theorem filter_less {p p' : Nat → Bool} {i : Nat} : ∀ {l : List Nat}, l.Nodup → i ∈ l → p i = true → p' i = false → (∀ j, j ≠ i → p' j = p j) → (l.filter p').length + 1 = (l.filter p).length
 | [], _, h, _, _, _ => by simp at h
 | x :: l, hn, hm, h1, h2, h3 => by
  have hn' := List.nodup_cons.1 hn
  by_cases e : x = i
  ·subst e
   have : l.filter p' = l.filter p := List.filter_congr fun j hj => h3 j fun e => hn'.1 (e ▸ hj)
   simp [List.filter_cons, h1, h2, this]
  ·have hm' : i ∈ l := by rcases List.mem_cons.1 hm with q | q; exact (e q.symm).elim; exact q
   have ih := filter_less hn'.2 hm' h1 h2 h3
   simp only [List.filter_cons, h3 x e]
   cases p x <;> simp <;> omega
theorem edgesOK_spec {ops : Array Oper} : ∀ {n i : Nat} {o : Oper}, edgesOK ops n = true → i < n → ops[i]? = some o → ∀ e ∈ o.after, Region.binds .any e = true → e.on < i
 | 0, i, o, _, hi, _, _, _, _ => by omega
 | n + 1, i, o, h, hi, ho, e, he, hb => by
  simp only [edgesOK, Bool.and_eq_true] at h
  by_cases q : i = n
  ·subst q
   rw [ho] at h
   have h1 := List.all_eq_true.1 h.1 e (by simpa using he)
   rw [hb] at h1
   simp only [Bool.not_true, Bool.false_or] at h1
   exact nbl h1
  ·exact edgesOK_spec h.2 (by omega) ho e he hb
theorem allAdj_spec {ops : Array Oper} {i : Nat} : ∀ {n j : Nat}, allAdj ops i n = true → j < n → adjB ops i j = true
 | 0, j, _, h => by omega
 | n + 1, j, h, hj => by
  simp only [allAdj, Bool.and_eq_true] at h
  by_cases q : j = n
  ·subst q; exact h.1
  ·exact allAdj_spec h.2 (by omega)
theorem adjB_spec {ops : Array Oper} {i j : Nat} (h : adjB ops i j = true) : ∃ o e, ops[i]? = some o ∧ e ∈ o.after ∧ Region.binds .any e = true ∧ e.on = j := by
 unfold adjB at h
 split at h <;> (try (cases h; done))
 rename_i o ho
 obtain ⟨e, he, hb⟩ := List.any_eq_true.1 h
 simp only [Bool.and_eq_true] at hb
 exact ⟨o, e, ho, by simpa using he, hb.1, nbt hb.2⟩
section
variable {P : Program} {ops : Array Oper} {Q : Exit → Act → World → Prop}
theorem wpAny_seq {s : Nat} (hseq : ∀ i, s ≤ i → i < ops.size → ∀ j, j < i → adjB ops i j = true) (hed : edgesOK ops ops.size = true) : ∀ (r m : Nat) (X : Array Bool) (a : Act) (w : World), m + r = ops.size → s ≤ m → X.size = ops.size → (∀ j, j < ops.size → (X.getD j false = true ↔ j < m)) →
  wpOps P ops Q (List.range' m r) a w → wpAny P .any ops Q r X a w
 | 0, m, X, a, w, hm, hs, hX, hl, h => by
  refine ⟨?_, h⟩
  rw [List.eq_nil_iff_forall_not_mem]
  intro i hi
  obtain ⟨h1, o, ho, _⟩ := mem_ready.1 hi
  have hlt := (agz.1 ho).1
  have h2 := (hl i hlt).2 (by omega)
  rw [show X.getD i true = X.getD i false by simp [Array.getD, hX, hlt]] at h1
  rw [h1] at h2; cases h2
 | r + 1, m, X, a, w, hm, hs, hX, hl, h => by
  have hmlt : m < ops.size := by omega
  have hready : m ∈ Region.ready .any ops X := by
   refine mem_ready.2 ⟨?_, ops[m], age hmlt, fun e he hb => ?_⟩
   ·rw [show X.getD m true = X.getD m false by simp [Array.getD, hX, hmlt]]
    cases hq : X.getD m false with
    | false => rfl
    | true => have := (hl m hmlt).1 hq; omega
   ·have := edgesOK_spec hed hmlt (age hmlt) e he hb
    exact (hl e.on (by omega)).2 this
  refine ⟨fun q => by rw [q] at hready; simp at hready, fun i hi => ?_⟩
  obtain ⟨h1, o, ho, hal⟩ := mem_ready.1 hi
  have hlt := (agz.1 ho).1
  have hge : m ≤ i := by
   rcases Nat.lt_or_ge i m with q | q
   ·have h2 := (hl i hlt).2 q
    rw [show X.getD i true = X.getD i false by simp [Array.getD, hX, hlt]] at h1
    rw [h1] at h2; cases h2
   ·exact q
  have him : i = m := by
   rcases Nat.eq_or_lt_of_le hge with q | q
   ·exact q.symm
   ·obtain ⟨o', e, ho', he, hb, hon⟩ := adjB_spec (hseq i (by omega) hlt m q)
    rw [ho] at ho'; injection ho' with ho'; subst ho'
    have := hal e he hb
    rw [hon] at this
    have := (hl m hmlt).1 this; omega
  subst him
  rw [List.range'_succ, wpOps_cons] at h
  refine wpOp_mono (fun a' w' h' => wpAny_seq hseq hed r (i + 1) _ a' w' (by omega) (by omega) (by simp [hX]) (fun j hj => ?_) h') h
  by_cases q : i = j
  ·subst q; simp [hX, hj]
  ·rw [getD_set_ne false q, hl j hj]; omega
end
section
variable {P : Program} {call : Call} {ops : Array Oper} {lt : Option Nat} {T T0 : AAct} {hs : List AW} {dn : List (Nat × CR)} {s : Nat} {E0 E' : Env} {X : Array Bool} {a : Act} {w : World} {pd : Bool} {k : Nat} {h : AW}
theorem Inv.caught (hP : Plan P call ops lt T hs dn s T0) (hI : Inv ops lt T hs dn E0 X a w pd E' k h) :
  ∃ pd2 E2 k2 h2, Inv ops lt T hs dn E0 X a w pd2 E2 k2 h2 ∧ (pd2 = true → ∀ ℓ lit n2 o2, lt = some ℓ → dn = n2 ++ (ℓ, lit) :: o2 → k2 < (effL o2).length) := by
 cases pd with
 | false => exact ⟨false, E', k, h, hI, fun e => Bool.noConfusion e⟩
 | true =>
  by_cases hk : ∃ ℓ lit n2 o2, lt = some ℓ ∧ dn = n2 ++ (ℓ, lit) :: o2 ∧ k = (effL o2).length
  ·obtain ⟨E2, h2, hI2⟩ := hI.catch_ hP hk
   exact ⟨false, E2, k + 1, h2, hI2, fun e => Bool.noConfusion e⟩
  ·refine ⟨true, E', k, h, hI, fun _ ℓ lit n2 o2 hl he => ?_⟩
   obtain ⟨ℓ', _, _, _, _, _, _, _, _, _, hl', _, _, _, _, _, _, _, hb⟩ := (hI.pend rfl).ex
   rw [hl] at hl'; injection hl' with hl'; subst hl'
   have h1 := hb n2 lit o2 he
   have h2 : k ≠ (effL o2).length := fun e => hk ⟨ℓ, lit, n2, o2, hl, he, e⟩
   omega
theorem draw_any (hcall : CallOK P call) (hP : Plan P call ops lt T hs dn s T0) (hss : s ≤ ops.size) (hseq : ∀ i, s ≤ i → i < ops.size → ∀ j, j < i → adjB ops i j = true) (hed : edgesOK ops ops.size = true) {Q : Exit → Act → World → Prop}
  (hQ : ∀ X a w E' k h, Inv ops lt T hs dn E0 X a w false E' k h → (∀ i, i < s → X.getD i false = true) → wpOps P ops Q (List.range' s (ops.size - s)) a w) :
  ∀ (m : Nat) (X : Array Bool) (a : Act) (w : World), ((List.range s).filter fun i => !X.getD i false).length = m → X.size = ops.size → Down ops X → (∀ i, s ≤ i → X.getD i false = false) →
   (∃ pd E' k h, Inv ops lt T hs dn E0 X a w pd E' k h) → wpAny P .any ops Q (m + (ops.size - s)) X a w
 | 0, X, a, w, hm, hX, hD, hge, ⟨pd, E', k, h, hI⟩ => by
  have hall : ∀ i, i < s → X.getD i false = true := fun i hi => by
   cases hq : X.getD i false with
   | true => rfl
   | false =>
    have : i ∈ (List.range s).filter fun i => !X.getD i false := by
     rw [List.mem_filter]
     exact ⟨by simpa using hi, by rw [hq]; rfl⟩
    rw [List.length_eq_zero_iff.1 hm] at this; simp at this
  have hno : ∃ E2 k2 h2, Inv ops lt T hs dn E0 X a w false E2 k2 h2 := by
   obtain ⟨pd2, E2, k2, h2, hI2, hst⟩ := hI.caught hP
   cases pd2 with
   | false => exact ⟨E2, k2, h2, hI2⟩
   | true =>
    obtain ⟨ℓ, _, d, c, _, _, _, _, _, _, hl, hXl, hml, _⟩ := (hI2.pend rfl).ex
    obtain ⟨n1, o1, e1⟩ := split_mem hml
    have hlt := hst rfl ℓ _ n1 o1 hl e1
    have hlt2 : k2 < (effL dn).length := by
     rw [e1, effL_append]; simp only [effL, List.length_append]
     cases Nat.beq (CR.op (some d) none c).kind 2 <;> simp <;> omega
    have he : (effL dn)[k2]? = some ((effL dn)[k2]'hlt2) := lge hlt2
    obtain ⟨jt, hm2, _⟩ := effL_sub (List.getElem_mem hlt2)
    rcases hI2.st2 k2 _ he (hall _ (hP.alllt _ hm2)) with q | ⟨_, q⟩
    ·omega
    ·obtain ⟨n2, lit2, o2, e2, e3⟩ := effL_split he
     have := hst rfl _ lit2 n2 o2 q e2
     omega
  obtain ⟨E2, k2, h2, hI2⟩ := hno
  rw [Nat.zero_add]
  refine wpAny_seq hseq hed _ s X a w (by omega) (Nat.le_refl _) hX (fun j hj => ⟨fun q => ?_, fun q => hall j q⟩) (hQ X a w E2 k2 h2 hI2 hall)
  rcases Nat.lt_or_ge j s with q2 | q2
  ·exact q2
  ·rw [hge j q2] at q; cases q
 | m + 1, X, a, w, hm, hX, hD, hge, ⟨pd, E', k, h, hI⟩ => by
  obtain ⟨pd2, E2, k2, h2, hI2, hst⟩ := hI.caught hP
  rw [show m + 1 + (ops.size - s) = (m + (ops.size - s)) + 1 by omega]
  refine ⟨fun hnil => ?_, fun i hi => ?_⟩
  ·
   exfalso
   have hex : ∃ i, i < s ∧ X.getD i false = false ∧ ∀ j, j < i → X.getD j false = true := by
    have key : ∀ n, n ≤ s → (∃ i, i < n ∧ X.getD i false = false ∧ ∀ j, j < i → X.getD j false = true) ∨ (∀ j, j < n → X.getD j false = true) := by
     intro n
     induction n with
     | zero => intro _; exact .inr fun j hj => by omega
     | succ n ih =>
      intro hn
      rcases ih (by omega) with ⟨i, h1, h2, h3⟩ | h1
      ·exact .inl ⟨i, by omega, h2, h3⟩
      ·cases hq : X.getD n false with
       | false => exact .inl ⟨n, by omega, hq, h1⟩
       | true =>
        right
        intro j hj
        rcases Nat.lt_or_ge j n with q | q
        ·exact h1 j q
        ·have : j = n := by omega
         subst this; exact hq
    rcases key s (Nat.le_refl _) with q | q
    ·exact q
    ·have : (List.range s).filter (fun i => !X.getD i false) = [] := by
      rw [List.filter_eq_nil_iff]
      intro i hi
      rw [q i (by simpa using hi)]; simp
     rw [this] at hm; simp at hm
   obtain ⟨i, h1, h2, h3⟩ := hex
   have hlt : i < ops.size := by omega
   have : i ∈ Region.ready .any ops X := by
    refine mem_ready.2 ⟨?_, ops[i], age hlt, fun e he hb => ?_⟩
    ·rw [show X.getD i true = X.getD i false by simp [Array.getD, hX, hlt]]; exact h2
    ·exact h3 _ (edgesOK_spec hed hlt (age hlt) e he hb)
   rw [hnil] at this; simp at this
  ·obtain ⟨h1, o, ho, hal⟩ := mem_ready.1 hi
   have hlt := (agz.1 ho).1
   have hx : X.getD i false = false := by
    rw [show X.getD i false = X.getD i true by simp [Array.getD, hX, hlt]]; exact h1
   have his : i < s := by
    rcases Nat.lt_or_ge i s with q | q
    ·exact q
    ·exfalso
     have hall : ∀ j, j < s → X.getD j false = true := fun j hj => by
      obtain ⟨o', e, ho', he, hb, hon⟩ := adjB_spec (hseq i q hlt j (by omega))
      rw [ho] at ho'; injection ho' with ho'; subst ho'
      rw [← hon]; exact hal e he hb
     have : (List.range s).filter (fun i => !X.getD i false) = [] := by
      rw [List.filter_eq_nil_iff]
      intro j hj
      rw [hall j (by simpa using hj)]; simp
     rw [this] at hm; simp at hm
   refine wpOp_mono (fun a' w' h' => draw_any hcall hP hss hseq hed hQ m _ a' w' ?_ (by simp [hX]) ?_ (fun j hj => ?_) h') (hI2.step hcall hP hss hst hD hX his hx ⟨o, ho, hal⟩)
   ·have := filter_less (p := fun i => !X.getD i false) (p' := fun j => !(X.setIfInBounds i true).getD j false) (i := i) (l := List.range s) List.nodup_range (by simpa using his) (by simp [hx]) (by simp [hX, hlt]) fun j hj => by rw [getD_set_ne false (Ne.symm hj)]
    omega
   ·intro j oj hj hoj e he hb
    have old : ∀ j, X.getD j false = true → (X.setIfInBounds i true).getD j false = true := fun j hj => by
     by_cases q : i = j
     ·subst q; simp [hX, hlt]
     ·rw [getD_set_ne false q]; exact hj
    rcases getD_set hj with rfl | hj
    ·rw [ho] at hoj; injection hoj with hoj; subst hoj
     exact old _ (hal e he hb)
    ·exact old _ (hD j oj hj hoj e he hb)
   ·rw [getD_set_ne false (by omega)]; exact hge j hj
end
theorem draw_ok {P : Program} (hmix : P.follows .mixedOrders = true) (call : Call) (hcall : CallOK P call) : DrawOK P call (cDraw P) := by
 have main : ∀ ops s lt ord l r, cDrawAt P ops s lt ord = some (l, r) → ∀ id E a ca aw w o out, xitems call l a aw = some o → o.x = .norm → xitems call r o.act o.aw = some out → ActRel E a ca → Rel E aw w → (Code.region id ops true).wp P (Post E out) ca w := by
  intro ops s lt ord l r hc id E a ca aw w o out hx hn hx2 hA hR
  unfold cDrawAt at hc
  split at hc <;> (try (cases hc; done))
  rename_i r1 dn hrec
  cases hb : (Nat.ble s ops.size && (allIn s dn && (allLt s dn && (seqOK ops s && (okLate ops lt && edgesOK ops ops.size))))) <;> simp only [hb, cond_true, cond_false, reduceCtorEq] at hc
  simp only [Bool.and_eq_true] at hb
  obtain ⟨b1, b2, b3, b4, b5, b6⟩ := hb
  split at hc <;> (try (cases hc; done))
  rename_i b hb7
  simp at hc; obtain ⟨rfl, rfl⟩ := hc
  have hss := nbl b1
  have hK0 : Known call (masks ops ops.size) lt a a [aw] [] := ⟨rfl, fun newer i it older e => by simp at e, ⟨rfl, rfl, fun _ _ => rfl⟩, fun newer i it older e => by simp at e⟩
  obtain ⟨hs, hK, hlast, hzero, hitems⟩ := drawA_run hn ord [] hrec hx hK0 rfl
  have hP : Plan P call ops lt o.act hs dn s a := by
   refine ⟨hK, fun p hp => ?_, fun i hi => ?_, fun p hp => ?_, b5⟩
   ·rcases hitems p hp with q | q
    ·simp at q
    ·exact q
   ·have := List.all_eq_true.1 b2 i (by simpa using hi)
    obtain ⟨p, hp, hpi⟩ := List.any_eq_true.1 this
    obtain ⟨j, it⟩ := p
    have := nbt hpi
    simp only at this; subst this
    exact ⟨it, hp⟩
   ·have := List.all_eq_true.1 b3 p hp
    exact nbl this
  have hseq : ∀ i, s ≤ i → i < ops.size → ∀ j, j < i → adjB ops i j = true := fun i h1 h2 j hj => by
   have := List.all_eq_true.1 b4 i (by rw [List.mem_range'_1]; omega)
   exact allAdj_spec this hj
  have hX0 : ∀ i, (Array.replicate ops.size false).getD i false = false := fun i => by
   simp [Array.getD]
  refine wp_region_any hmix ?_
  have hfil : ((List.range s).filter fun i => !(Array.replicate ops.size false).getD i false).length = s := by
   rw [List.filter_eq_self.2 fun i _ => by rw [hX0 i]; rfl]
   simp
  have hgo := draw_any (E0 := E) (Q := Post E out) hcall hP hss hseq b6 (fun X a' w' E' k h hI hall => ?_) s (Array.replicate ops.size false) ca { w with drawn := w.drawn + 1 } hfil (by simp)
   (fun i o hi => by rw [hX0 i] at hi; cases hi) (fun i _ => hX0 i) ⟨false, E, 0, aw, ⟨⟨[], by simp⟩, ⟨rfl, fun _ _ h => h⟩, hzero, hR.world ⟨rfl, rfl⟩ rfl, by rw [hK.beside.1]; exact hA.size, by rw [hK.beside.2.1]; exact hA.defs, (fun q e _ h => by omega), (fun q e _ hXe => by rw [hX0 e] at hXe; cases hXe), fun t v hv hj => ?_, fun e => Bool.noConfusion e, fun _ => rfl⟩⟩
  ·rw [show s + (ops.size - s) = ops.size by omega] at hgo
   exact hgo
  ·
   have hk : k = (effL dn).length := by
    have h1 := (lgs.1 hI.at_).1
    rw [hK.len] at h1
    rcases Nat.lt_or_ge k (effL dn).length with q | q
    ·have he : (effL dn)[k]? = some ((effL dn)[k]'q) := lge q
     obtain ⟨jt, hm2, _⟩ := effL_sub (List.getElem_mem q)
     rcases hI.st2 k _ he (hall _ (hP.alllt _ hm2)) with q1 | ⟨q1, _⟩
     ·omega
     ·cases q1
    ·omega
   subst hk
   have := hI.at_
   rw [hlast] at this; injection this with this; subst this
   have hle : E.Le E' := ⟨hI.loc, hI.sym.1, hI.free rfl, hI.sym.2⟩
   refine items_sound hcall _ hb7 hx2 ⟨hI.size, fun t v hv => hI.tm t v hv fun j jt hm2 hd2 => ⟨hall j (hP.alllt _ hm2), fun q => Bool.noConfusion q.1⟩, hI.defs⟩ hI.rel fun e a w hp => hp.mono hle
  ·refine hA.tmps t v ?_
   rw [← hK.beside.2.2 t fun p hp hd => ?_]
   ·exact hv
   ·obtain ⟨j, jt⟩ := p
    have := (hj j jt hp hd).1
    rw [hX0 j] at this; cases this
 intro ops l r hc
 unfold cDraw at hc
 simp only at hc
 split at hc
 ·rename_i q hq
  simp at hc; subst hc
  exact main ops _ _ _ l r hq
 ·have late : ∀ is l r, tryLate P ops (tailFrom ops ops.size) is = some (l, r) → ∃ i, cDrawAt P ops (tailFrom ops ops.size) (some i) (greedy P ops (some i) (tailFrom ops ops.size) (tailFrom ops ops.size) []) = some (l, r) := by
   intro is
   induction is with
   | nil => intro l r h; simp [tryLate] at h
   | cons i is ih =>
    intro l r h
    simp only [tryLate] at h
    split at h <;> (try (cases h; done))
    rename_i it _
    cases hl : it.late <;> simp only [hl, cond_true, cond_false] at h
    ·exact ih l r h
    ·split at h
     ·rename_i q hq
      simp at h; subst h
      exact ⟨i, hq⟩
     ·exact ih l r h
  obtain ⟨i, hi⟩ := late _ l r hc
  exact main ops _ _ _ l r hi
end Go.Proofs.YtbilacojhmohmaaGreat.Ae
end
