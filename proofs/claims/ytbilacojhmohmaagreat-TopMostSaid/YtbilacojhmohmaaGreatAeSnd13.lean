/- Every operation of the evaluator that is no call is sound. No condition. -/
import Derived.Test.YtbilacojhmohmaaGreatAeSnd12
namespace Go.Proofs.YtbilacojhmohmaaGreat.Ae
open Go
set_option linter.unusedVariables false
set_option linter.unusedSimpArgs false

theorem op_sound {P : Program} {o : Oper} {E : Env} {a : AAct} {ca : Act} {aw aw' : AW} {w : World} {r : AV} {c : COp}
    (hc : cOp P o = some c) (h : xop a.tmps aw c = some (r, aw')) (hA : ActRel E a ca) (hR : Rel E aw w) : Yes P o E ca w r aw' := by
  cases ho : o.op with
  | move x => exact y_mv (.inl ho) hc h hA hR
  | assign x => exact y_mv (.inr ho) hc h hA hR
  | pick c a b => exact y_pick ho hc h hA hR
  | alloc t => exact y_alloc ho hc h hA hR
  | box t x => exact y_box ho hc h hA hR
  | build t ps => exact y_build ho hc h hA hR
  | buildSlice t n ps => exact y_buildSlice ho hc h hA hR
  | insert t m k v => exact y_mapset (.inr ho) hc h hA hR
  | load t x => exact y_load ho hc h hA hR
  | store t x y => exact y_store ho hc h hA hR
  | ready g => simp [cOp, ho] at hc
  | waits g => simp [cOp, ho] at hc
  | nilCheck x => exact y_nilCheck ho hc h hA hR
  | binOp op t x y u => exact y_binOp ho hc h hA hR
  | unOp op t x => exact y_bnot ho hc h hA hR
  | convert s d x =>
    by_cases hb : ∃ x, c = .b2s x
    · obtain ⟨ox, rfl⟩ := hb
      exact y_b2s ho hc h hA hR
    · by_cases hb2 : ∃ x, c = .s2s x
      · obtain ⟨ox, rfl⟩ := hb2
        exact y_s2s ho hc h hA hR
      · exact y_convert ho hc h hA hR fun x => ⟨fun e => hb ⟨x, e⟩, fun e => hb2 ⟨x, e⟩⟩
  | sliceToArrayPointer d x => simp [cOp, ho] at hc
  | makeInterface t x => exact y_makeInterface ho hc h hA hR
  | makeFunc fn x y => exact y_makeFunc ho hc h hA hR
  | makeMap t r => exact y_makeMap ho hc h hA hR
  | makeChan t x => simp [cOp, ho] at hc
  | makeSlice t x y => exact y_makeSlice ho hc h hA hR
  | slice t x lo hi mx => exact y_slice ho hc h hA hR
  | fieldAddr t x f => exact y_fieldAddr ho hc h hA hR
  | field t x f => exact y_field ho hc h hA hR
  | indexAddr t x y => exact y_indexAddr ho hc h hA hR
  | index t x y => exact y_index ho hc h hA hR
  | lookup t m k ok => exact y_lookup ho hc h hA hR
  | mapUpdate t m k v => exact y_mapset (.inl ho) hc h hA hR
  | mapEntry t m k => simp [cOp, ho] at hc
  | entryStore t m k v => simp [cOp, ho] at hc
  | range t m => exact y_range ho hc h hA hR
  | next it b => exact y_next ho hc h hA hR
  | entry it => exact y_entry ho hc h hA hR
  | typeAssert x u t ok => exact y_typeAssert ho hc h hA hR
  | extract x i => exact y_extract ho hc h hA hR
  | go c => simp [cOp, ho] at hc
  | defer c => simp [cOp, ho] at hc
  | panic x => simp [cOp, ho] at hc
  | send x y => simp [cOp, ho] at hc
  | recv t x ok => simp [cOp, ho] at hc
  | select cs b => simp [cOp, ho] at hc
  | call cl =>
    obtain ⟨callee, args, ts⟩ := cl
    cases callee with
    | value f => simp [cOp, ho] at hc
    | invoke r m => simp [cOp, ho] at hc
    | builtin b =>
      have hc' : cBuiltin P b ts args.toList = some c := by simpa only [cOp, ho] using hc
      cases b with
      | len => exact y_len ho hc' h hA hR
      | cap => exact y_cap ho hc' h hA hR
      | append => exact y_append ho hc' h hA hR
      | copy => exact y_copy ho hc' h hA hR
      | clear => exact y_clear ho hc' h hA hR
      | delete => exact y_delete ho hc' h hA hR
      | min => exact y_min ho hc' h hA hR
      | max => exact y_max ho hc' h hA hR
      | _ => (unfold cBuiltin at hc'; split at hc' <;> (try (cases hc'; done)) <;> rename_i hb ha <;> cases hb)
end Go.Proofs.YtbilacojhmohmaaGreat.Ae
