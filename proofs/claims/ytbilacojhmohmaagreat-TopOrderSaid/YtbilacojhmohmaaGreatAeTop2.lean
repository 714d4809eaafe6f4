/- All summaries together, the shelf's too. No condition. -/
import Derived.Test.YtbilacojhmohmaaGreatAeTop
import Derived.Test.YtbilacojhmohmaaGreatAeFour
namespace Go.Proofs.YtbilacojhmohmaaGreat.Ae
open Go
set_option linter.unusedVariables false

noncomputable def smB : Summ := fun f => bb2 (Nat.beq f 251) (some g251) (bb2 (Nat.beq f 266) (some g266) (bb2 (Nat.beq f 186) (some g186) (smA f)))
theorem smB_ok : SumOK Tryz.prog smB := by
  intro f g hf
  unfold smB at hf
  simp only [bb2_eq] at hf
  cases h1 : Nat.beq f 251 with
  | true => simp only [h1, cond_true, Option.some.injEq] at hf; subst hf; rw [Nat.eq_of_beq_eq_true h1]; exact s251
  | false =>
    cases h2 : Nat.beq f 266 with
    | true => simp only [h1, h2, cond_true, cond_false, Option.some.injEq] at hf; subst hf; rw [Nat.eq_of_beq_eq_true h2]; exact s266
    | false =>
      cases h3 : Nat.beq f 186 with
      | true => simp only [h1, h2, h3, cond_true, cond_false, Option.some.injEq] at hf; subst hf; rw [Nat.eq_of_beq_eq_true h3]; exact s186
      | false => simp only [h1, h2, h3, cond_false] at hf; exact smA_ok f g hf
noncomputable def cTop2 : Call := callK FK smB dsA (nat_lit 1000) (nat_lit 40)
theorem cTop2_ok : CallOK Tryz.prog cTop2 := callK_ok smB_ok dsA_ok _ _
end Go.Proofs.YtbilacojhmohmaaGreat.Ae
