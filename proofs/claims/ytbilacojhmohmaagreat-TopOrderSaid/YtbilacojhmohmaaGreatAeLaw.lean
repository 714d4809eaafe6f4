/- A law's code, run in pieces: between two pieces its state is told anew. No condition. -/
import Derived.Test.YtbilacojhmohmaaGreatAeRen
namespace Go.Proofs.YtbilacojhmohmaaGreat.Ae
open Go
set_option linter.unusedVariables false
set_option linter.unusedSimpArgs false

section
variable {P : Program} {dr : Array Oper → Option (List CR × List CR)} {fr : Nat → Option Obj} {sy : SymW} {call : Call} {cc x y b : CC} {Q : Exit → Act → World → Prop} {a a1 : AAct} {aw aw1 : AW}
abbrev Post' := Exit → Act → World → Prop
/-- from this state the code does what it should -/
def Good (P : Program) (dr : Array Oper → Option (List CR × List CR)) (fr : Nat → Option Obj) (sy : SymW) (cc : CC) (Q : Post') (a : AAct) (aw : AW) : Prop :=
  ∀ c, cCode P dr c = some cc → ∀ E ca w, E.fr = fr → E.sym = sy → ActRel E a ca → Rel E aw w → c.wp P Q ca w
def GoodL (P : Program) (dr : Array Oper → Option (List CR × List CR)) (fr : Nat → Option Obj) (sy : SymW) (b : CC) (Q : Post') (a : AAct) (aw : AW) : Prop :=
  ∀ c, cCode P dr c = some b → ∀ E ca w, E.fr = fr → E.sym = sy → ActRel E a ca → Rel E aw w → LoopAt P c Q ca w
/-- and then y -/
def thenC (P : Program) (dr : Array Oper → Option (List CR × List CR)) (y : CC) (Q : Post') : Post'
  | .normal, ca, w => ∀ c, cCode P dr c = some y → c.wp P Q ca w
  | e, ca, w => Q e ca w

theorem inv_seq {c : Code} (h : cCode P dr c = some (.seq x y)) : ∃ c1 c2, c = .seq c1 c2 ∧ cCode P dr c1 = some x ∧ cCode P dr c2 = some y := by
  cases c <;> simp only [cCode] at h <;> (try (cases h; done))
  · split at h <;> split at h <;> simp at h
  · split at h <;> (try (cases h; done))
    split at h <;> (try (cases h; done))
    simp at h; obtain ⟨rfl, rfl⟩ := h
    exact ⟨_, _, rfl, by assumption, by assumption⟩
  · split at h <;> (try (cases h; done))
    split at h <;> (try (cases h; done))
    split at h <;> (try (cases h; done))
  · split at h <;> (try (cases h; done))
  · split at h <;> (try (cases h; done))
theorem inv_block {c : Code} {id : Nat} (h : cCode P dr c = some (.block id b)) : ∃ c1, c = .block id c1 ∧ cCode P dr c1 = some b := by
  cases c <;> simp only [cCode] at h <;> (try (cases h; done))
  · split at h <;> split at h <;> simp at h
  · split at h <;> (try (cases h; done))
    split at h <;> (try (cases h; done))
  · split at h <;> (try (cases h; done))
    split at h <;> (try (cases h; done))
    split at h <;> (try (cases h; done))
  · split at h <;> (try (cases h; done))
    rename_i q hq
    simp at h; obtain ⟨rfl, rfl⟩ := h
    exact ⟨_, rfl, hq⟩
  · split at h <;> (try (cases h; done))
theorem inv_loop {c : Code} (h : cCode P dr c = some (.loop b)) : ∃ c1, c = .loop c1 ∧ cCode P dr c1 = some b := by
  cases c <;> simp only [cCode] at h <;> (try (cases h; done))
  · split at h <;> split at h <;> simp at h
  · split at h <;> (try (cases h; done))
    split at h <;> (try (cases h; done))
  · split at h <;> (try (cases h; done))
    split at h <;> (try (cases h; done))
    split at h <;> (try (cases h; done))
  · split at h <;> (try (cases h; done))
  · split at h <;> (try (cases h; done))
    rename_i q hq
    simp at h; subst h
    exact ⟨_, rfl, hq⟩

theorem Good.run (hcall : CallOK P call) (hdr : DrawOK P call dr) {n : Nat} {o : Out} (h : xcode call n cc a aw = some o)
    (hk : ∀ E e ca w, E.fr = fr → E.sym = sy → Rel E o.aw w → ActRel E o.act ca → XRel E o.x e → Q e ca w) : Good P dr fr sy cc Q a aw := by
  intro c hc E ca w hE hS hA hR
  refine wp_mono (code_sound hcall hdr n hc h hA hR).1 fun e a' w' ⟨E', hle, h1, h2, h3⟩ => ?_
  exact hk E' e a' w' (hle.2.2.trans hE) (hle.2.1.trans hS) h1 h2 h3
theorem Good.seq (hcall : CallOK P call) (hdr : DrawOK P call dr) {n : Nat} (h : xcode call n x a aw = some ⟨.norm, a1, aw1⟩) (hy : Good P dr fr sy y Q a1 aw1) : Good P dr fr sy (.seq x y) Q a aw := by
  intro c hc E ca w hE hS hA hR
  obtain ⟨c1, c2, rfl, h1, h2⟩ := inv_seq hc
  refine wp_seq (wp_mono (code_sound hcall hdr n h1 h hA hR).1 fun e a' w' ⟨E', hle, g1, g2, g3⟩ => ?_)
  cases e <;> simp only [XRel] at g3
  exact hy c2 h2 E' a' w' (hle.2.2.trans hE) (hle.2.1.trans hS) g2 g1
theorem Good.into (h : Good P dr fr sy x (thenC P dr y Q) a aw) : Good P dr fr sy (.seq x y) Q a aw := by
  intro c hc E ca w hE hS hA hR
  obtain ⟨c1, c2, rfl, h1, h2⟩ := inv_seq hc
  refine wp_seq (wp_mono (h c1 h1 E ca w hE hS hA hR) fun e a' w' hq => ?_)
  cases e <;> simp only [thenC, Exit.then] at hq ⊢ <;> first | exact hq c2 h2 | exact hq
theorem Good.block {id : Nat} (h : Good P dr fr sy b (Exit.inBlock id Q) a aw) : Good P dr fr sy (.block id b) Q a aw := by
  intro c hc E ca w hE hS hA hR
  obtain ⟨c1, rfl, h1⟩ := inv_block hc
  exact wp_block (h c1 h1 E ca w hE hS hA hR)
theorem Good.loop (h : GoodL P dr fr sy b Q a aw) : Good P dr fr sy (.loop b) Q a aw := by
  intro c hc E ca w hE hS hA hR
  obtain ⟨c1, rfl, h1⟩ := inv_loop hc
  exact (h c1 h1 E ca w hE hS hA hR).wp
theorem Good.told {l : List AO} {tm : List (Nat × AV)} (h : told (lenA l) l tm a.tmps aw = true) (hd : a.defs = []) (hg : Good P dr fr sy cc Q ⟨tmOf tm .leaf, a.n, []⟩ (ofObjs l (lenA l))) : Good P dr fr sy cc Q a aw := by
  intro c hc E ca w hE hS hA hR
  obtain ⟨E', g1, g2, g3, g4⟩ := told_ok h (lenA_eq l) hd hA hR
  exact hg c hc E' ca w (g1.trans hE) (g2.trans hS) g3 g4
theorem GoodL.told {l : List AO} {tm : List (Nat × AV)} (h : told (lenA l) l tm a.tmps aw = true) (hd : a.defs = []) (hg : GoodL P dr fr sy b Q ⟨tmOf tm .leaf, a.n, []⟩ (ofObjs l (lenA l))) : GoodL P dr fr sy b Q a aw := by
  intro c hc E ca w hE hS hA hR
  obtain ⟨E', g1, g2, g3, g4⟩ := told_ok h (lenA_eq l) hd hA hR
  exact hg c hc E' ca w (g1.trans hE) (g2.trans hS) g3 g4
theorem GoodL.round (hcall : CallOK P call) (hdr : DrawOK P call dr) {n : Nat} (h : xcode call n b a aw = some ⟨.norm, a1, aw1⟩) (hg : GoodL P dr fr sy b Q a1 aw1) : GoodL P dr fr sy b Q a aw := by
  intro c hc E ca w hE hS hA hR
  refine LoopAt.round (wp_mono (code_sound hcall hdr n hc h hA hR).1 fun e a' w' ⟨E', hle, g1, g2, g3⟩ => ?_)
  cases e <;> simp only [XRel] at g3
  exact hg c hc E' a' w' (hle.2.2.trans hE) (hle.2.1.trans hS) g2 g1
/-- the loop's end: its block is left, and what stands behind it goes on -/
theorem GoodL.leave (hcall : CallOK P call) (hdr : DrawOK P call dr) {n id : Nat} (h : xcode call n b a aw = some ⟨.exit id, a1, aw1⟩) (hg : Good P dr fr sy y Q a1 aw1) : GoodL P dr fr sy b (Exit.inBlock id (thenC P dr y Q)) a aw := by
  intro c hc E ca w hE hS hA hR
  refine LoopAt.round (wp_mono (code_sound hcall hdr n hc h hA hR).1 fun e a' w' ⟨E', hle, g1, g2, g3⟩ => ?_)
  cases e <;> simp only [XRel] at g3
  subst g3
  simp only [Exit.then, Exit.inBlock, if_true]
  exact fun c2 h2 => hg c2 h2 E' a' w' (hle.2.2.trans hE) (hle.2.1.trans hS) g2 g1

/-- what the frame holds, said otherwise -/
theorem Good.as {a' : AAct} (hw : ∀ E ca, E.sym = sy → ActRel E a ca → ActRel E a' ca) (hg : Good P dr fr sy cc Q a' aw) : Good P dr fr sy cc Q a aw := by
  intro c hc E ca w hE hS hA hR
  exact hg c hc E ca w hE hS (hw E ca hS hA) hR
theorem retm {tm tm' : List (Nat × AV)} {n : Nat} {E : Env} {ca : Act} (h : ∀ t v', (t, v') ∈ tm' → ∃ v, (tmOf tm .leaf).get t t = some v ∧ ∀ x, VRel E v x → VRel E v' x) (hA : ActRel E ⟨tmOf tm .leaf, n, []⟩ ca) : ActRel E ⟨tmOf tm' .leaf, n, []⟩ ca := by
  refine ⟨hA.size, fun t v' hv => ?_, hA.defs⟩
  rcases tmOf_get tm' _ t v' hv with hm | hm
  · obtain ⟨v, h1, h2⟩ := h t v' hm
    obtain ⟨x, hx, hr⟩ := hA.tmps t v h1
    exact ⟨x, hx, h2 x hr⟩
  · simp [Tr.get] at hm
/-- the loop's body, and then the loop again -/
def loopQ (P : Program) (dr : Array Oper → Option (List CR × List CR)) (b : CC) (Q : Post') : Post'
  | .normal, ca, w => ∀ c, cCode P dr c = some b → LoopAt P c Q ca w
  | e, ca, w => Q e ca w
theorem GoodL.of (h : Good P dr fr sy b (loopQ P dr b Q) a aw) : GoodL P dr fr sy b Q a aw := by
  intro c hc E ca w hE hS hA hR
  refine LoopAt.round (wp_mono (h c hc E ca w hE hS hA hR) fun e a' w' hq => ?_)
  cases e <;> simp only [loopQ, Exit.then] at hq ⊢ <;> first | exact hq c hc | exact hq
/-- a piece that is run and told anew, and then the loop again -/
theorem Good.again (hcall : CallOK P call) (hdr : DrawOK P call dr) {n : Nat} {l : List AO} {tm : List (Nat × AV)} (h : xcode call n x a aw = some ⟨.norm, a1, aw1⟩) (ht : Ae.told (lenA l) l tm a1.tmps aw1 = true) (hd : a1.defs = [])
    (hg : GoodL P dr fr sy b Q ⟨tmOf tm .leaf, a1.n, []⟩ (ofObjs l (lenA l))) : Good P dr fr sy x (loopQ P dr b Q) a aw := by
  refine Good.run hcall hdr h fun E e ca w hE hS hR hA hX => ?_
  cases e <;> simp only [XRel] at hX
  intro c hc
  obtain ⟨E', g1, g2, g3, g4⟩ := told_ok ht (lenA_eq l) hd hA hR
  exact hg c hc E' ca w (g1.trans hE) (g2.trans hS) g3 g4

/-! in the kernel: a piece is run, and its end told anew -/
noncomputable def atNorm (n0 : Nat) (r : Option Out) (f : Tr AV → AW → Bool) : Bool :=
  Option.rec (motive := fun _ => Bool) false (fun o => Out.rec (motive := fun _ => Bool) (fun x act aw => AX.rec (motive := fun _ => Bool) (AAct.rec (motive := fun _ => Bool) (fun t n ds => List.rec (motive := fun _ => Bool) (bb2 (Nat.beq n n0) (f t aw) false) (fun _ _ _ => false) ds) act) (fun _ => false) false (fun _ => false) x) o) r
theorem atNorm_ok {n0 : Nat} {r : Option Out} {f : Tr AV → AW → Bool} (h : atNorm n0 r f = true) : ∃ t aw, r = some ⟨.norm, ⟨t, n0, []⟩, aw⟩ ∧ f t aw = true := by
  cases r with
  | none => cases h
  | some o =>
    obtain ⟨x, ⟨t, n, ds⟩, aw⟩ := o
    cases x with
    | norm =>
      cases ds with
      | nil =>
        have h : bb2 (Nat.beq n n0) (f t aw) false = true := h
        rw [bb2_eq] at h
        cases hn : Nat.beq n n0 <;> simp only [hn, cond_true, cond_false, Bool.false_eq_true] at h
        rw [Nat.eq_of_beq_eq_true hn]
        exact ⟨t, aw, rfl, h⟩
      | cons d l => cases h
    | exit _ => cases h
    | ret => cases h
    | panic _ => cases h
end
end Go.Proofs.YtbilacojhmohmaaGreat.Ae
