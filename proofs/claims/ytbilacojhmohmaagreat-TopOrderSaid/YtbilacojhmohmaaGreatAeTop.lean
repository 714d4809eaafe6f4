/- All summaries together: the calls of the whole. No condition. -/
import Derived.Test.YtbilacojhmohmaaGreatAeKeys
namespace Go.Proofs.YtbilacojhmohmaaGreat.Ae
open Go
set_option linter.unusedVariables false

def rf139 : RFn := ⟨14, 4, 1, (.seq (.region [.op (some 5) none (.mv (.t 1)), .op (some 6) none (.nileq 4 true (.t 5))])
 (.cond (.t 6) (.seq (.region [.op none none (.store 1 (.t 0) (.c (.int .i64 (.ofNat 1))))])
 (.seq (.region [.op (some 8) none (.mv (.t 1)), .op (some 9) none (.assert 32 (.t 8) (.int .i64 (.ofNat 0))), .op (some 7) none (.mv (.t 9)), .op (some 10) none (.ext 0 (.t 7)), .op (some 11) none (.ext 1 (.t 7)), .op (some 2) none (.mv (.t 10)), .op (some 3) none (.mv (.t 11))])
 (.seq (.region [.op (some 12) none (.mv (.t 3))])
 (.cond (.t 12) (.region [.op (some 13) none (.mv (.t 2)), .op none none (.store 1 (.t 0) (.t 13))]) .skip)))) .skip))⟩
def rf323 : RFn := ⟨6, 3, 2, (.seq (.region [.op (some 4) none (.mv (.t 2)), .op (some 5) none (.nileq 4 true (.t 4))])
 (.cond (.t 5) (.region [.op none none (.store 1 (.t 0) (.c (.slc none 0 (.known 0)))), .op none none (.store 1 (.t 1) (.c (.bool false)))]) .skip))⟩
def rf355 : RFn := ⟨7, 3, 2, (.seq (.region [.op (some 4) none (.mv (.t 2)), .op (some 5) none (.nileq 4 true (.t 4))])
 (.cond (.t 5) (.region [.op (some 6) none (.build [(.int .u16 (.ofNat 0)), (.int .u16 (.ofNat 0)), (.int .u32 (.ofNat 0)), (.int .u16 (.ofNat 0)), (.slc none 0 (.known 0))] []), .op none none (.store 5 (.t 0) (.t 6)), .op none none (.store 1 (.t 1) (.c (.int .i64 (.ofNat 2))))]) .skip))⟩
def rf314 : RFn := ⟨8, 3, 2, (.seq (.region [.op (some 4) none (.mv (.t 2)), .op (some 5) none (.nileq 4 true (.t 4))])
 (.cond (.t 5) (.region [.op (some 6) none (.mv (.t 0)), .op (some 7) none (.nilck (.t 6)), .op none none (.store 1 (.t 7) (.c (.int .i64 (.ofNat 2))))]) .skip))⟩

theorem rok139 : rf139.ok Tryz.prog (cDraw Tryz.prog) 139 := ⟨Tryz.f139, _, _, _, _, Tryz.func139, rfl, rfl, rfl, rfl, rfl, rfl, rfl, rfl, rfl, by kernel_rfl, by kernel_rfl⟩
theorem rok323 : rf323.ok Tryz.prog (cDraw Tryz.prog) 323 := ⟨Tryz.f323, _, _, _, _, Tryz.func323, rfl, rfl, rfl, rfl, rfl, rfl, rfl, rfl, rfl, by kernel_rfl, by kernel_rfl⟩
theorem rok355 : rf355.ok Tryz.prog (cDraw Tryz.prog) 355 := ⟨Tryz.f355, _, _, _, _, Tryz.func355, rfl, rfl, rfl, rfl, rfl, rfl, rfl, rfl, rfl, by kernel_rfl, by kernel_rfl⟩
theorem rok314 : rf314.ok Tryz.prog (cDraw Tryz.prog) 314 := ⟨Tryz.f314, _, _, _, _, Tryz.func314, rfl, rfl, rfl, rfl, rfl, rfl, rfl, rfl, rfl, by kernel_rfl, by kernel_rfl⟩
noncomputable def dsA : DSum := fun f => bb2 (Nat.beq f 139) (some (dRec 30 rf139)) (bb2 (Nat.beq f 323) (some (dRec 30 rf323)) (bb2 (Nat.beq f 355) (some (dRec 30 rf355)) (bb2 (Nat.beq f 314) (some (dRec 30 rf314)) none)))
theorem draw_all : ∀ call, CallOK Tryz.prog call → DrawOK Tryz.prog call (cDraw Tryz.prog) := draw_ok (by kernel_rfl)
theorem dsA_ok : DefOK Tryz.prog dsA := by
  intro f g m args aw m' aw' hf hg
  unfold dsA at hf
  simp only [bb2_eq] at hf
  cases h1 : Nat.beq f 139 with
  | true => simp only [h1, cond_true, Option.some.injEq] at hf; subst hf; rw [Nat.eq_of_beq_eq_true h1]; exact dRec_sound draw_all rok139 hg
  | false =>
    cases h2 : Nat.beq f 323 with
    | true => simp only [h1, h2, cond_true, cond_false, Option.some.injEq] at hf; subst hf; rw [Nat.eq_of_beq_eq_true h2]; exact dRec_sound draw_all rok323 hg
    | false =>
      cases h3 : Nat.beq f 355 with
      | true => simp only [h1, h2, h3, cond_true, cond_false, Option.some.injEq] at hf; subst hf; rw [Nat.eq_of_beq_eq_true h3]; exact dRec_sound draw_all rok355 hg
      | false =>
        cases h4 : Nat.beq f 314 with
        | true => simp only [h1, h2, h3, h4, cond_true, cond_false, Option.some.injEq] at hf; subst hf; rw [Nat.eq_of_beq_eq_true h4]; exact dRec_sound draw_all rok314 hg
        | false => simp only [h1, h2, h3, h4, cond_false, reduceCtorEq] at hf
noncomputable def smA : Summ := fun f => bb2 (Nat.beq f 350) (some g350) (bb2 (Nat.beq f 233) (some g233) (bb2 (Nat.beq f 358) (some g358) (bb2 (Nat.beq f 49) (some g49) none)))
theorem smA_ok : SumOK Tryz.prog smA := by
  intro f g hf
  unfold smA at hf
  simp only [bb2_eq] at hf
  cases h1 : Nat.beq f 350 with
  | true => simp only [h1, cond_true, Option.some.injEq] at hf; subst hf; rw [Nat.eq_of_beq_eq_true h1]; exact s350
  | false =>
    cases h2 : Nat.beq f 233 with
    | true => simp only [h1, h2, cond_true, cond_false, Option.some.injEq] at hf; subst hf; rw [Nat.eq_of_beq_eq_true h2]; exact s233
    | false =>
      cases h3 : Nat.beq f 358 with
      | true => simp only [h1, h2, h3, cond_true, cond_false, Option.some.injEq] at hf; subst hf; rw [Nat.eq_of_beq_eq_true h3]; exact s358
      | false =>
        cases h4 : Nat.beq f 49 with
        | true => simp only [h1, h2, h3, h4, cond_true, cond_false, Option.some.injEq] at hf; subst hf; rw [Nat.eq_of_beq_eq_true h4]; exact s49
        | false => simp only [h1, h2, h3, h4, cond_false, reduceCtorEq] at hf
noncomputable def cTop : Call := callK FK smA dsA (nat_lit 1000) (nat_lit 40)
theorem cTop_ok : CallOK Tryz.prog cTop := callK_ok smA_ok dsA_ok _ _
end Go.Proofs.YtbilacojhmohmaaGreat.Ae
