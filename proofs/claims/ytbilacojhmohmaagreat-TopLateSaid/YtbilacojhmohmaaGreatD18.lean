/- Lists that are not told: a block's list becomes a token, a token is told more closely. No condition. -/
import Derived.Test.YtbilacojhmohmaaGreatD09
set_option linter.unusedVariables false
set_option linter.unusedSimpArgs false
noncomputable section
namespace Go.Proofs.YtbilacojhmohmaaGreat.Ae
open Go
theorem ORel.set {E : Env} {L : Loc} {w : World} {l : List AV} {e : TypeId} {b : Bool} {o : Nat} {x y : AV} (hx : l[o]? = some x) (hv : ∀ v, VRel E x v → VRel E y v) (h : ORel E L w (.cells l e b)) : ORel E L w (.cells (l.set o y) e b) := by
 obtain ⟨c, fz, h1, h2, h3, h4, h5⟩ := h
 refine ⟨c, fz, h1, h2, by simpa using h3, fun q => by simpa using h4 q, fun i a hi => ?_⟩
 rw [List.getElem?_set] at hi
 split at hi
 ·rename_i e1
  subst e1
  split at hi
  ·injection hi with hi; subst hi
   obtain ⟨v, q1, q2⟩ := h5 o x hx
   exact ⟨v, q1, hv v q2⟩
  ·cases hi
 ·exact h5 i a hi
theorem Rel.tokAdd {E : Env} {aw : AW} {w : World} (h : Rel E aw w) {b : Nat} {t : Tok} (ht : TokAt w b t) (hf : E.fr b = none) (hk : E.tk b = none) (hne : ∀ j x Lj, aw.get j = some x → x.live = true → E.loc[j]? = some Lj → Lj.block ≠ b) :
  E.Le { E with tk := fun x => if x = b then some t else E.tk x } ∧ Rel { E with tk := fun x => if x = b then some t else E.tk x } aw w := by
 have hle : E.Le { E with tk := fun x => if x = b then some t else E.tk x } := ⟨⟨[], by simp⟩, rfl, rfl, fun x u hx => by
  have : x ≠ b := fun e => by rw [e, hk] at hx; cases hx
  simp only
  rw [if_neg this]; exact hx⟩
 refine ⟨hle, h.nx, h.ns, fun j x hj => let ⟨L, hL, ho⟩ := h.obj j x hj; ⟨L, hL, ho.mono hle⟩, h.inj, h.frame, h.apart, fun x u hx => ?_, fun i oi Li hi li ei => ?_⟩
 ·simp only at hx
  split at hx
  ·rename_i e
   subst e
   injection hx with hx; subst hx
   exact ⟨ht, hf⟩
  ·exact h.tok.1 x u hx
 ·simp only
  rw [if_neg (hne i oi Li hi li ei)]
  exact h.tok.2 i oi Li hi li ei
end Go.Proofs.YtbilacojhmohmaaGreat.Ae
end
