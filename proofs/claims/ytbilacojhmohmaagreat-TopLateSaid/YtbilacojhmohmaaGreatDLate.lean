/- TopLate answers true at every input: the statement. No condition. -/
import Derived.Test.YtbilacojhmohmaaGreatD43
import Derived.Test.YtbilacojhmohmaaGreatD44
import Derived.ChangeOld
import Derived.ChangeSlices
import Derived.Below
import Derived.ShutString
set_option linter.unusedVariables false
set_option linter.unusedSimpArgs false
noncomputable section
namespace Go.Proofs.YtbilacojhmohmaaGreat.topLate
open Go Go.ChangeShapes Go.WideShapes Go.ChangeAt Go.RowKit
theorem own : ownKnob Tryz.prog.godebug = none := by kernel_rfl
set_option maxRecDepth 100000 in
theorem open_row {H : Type} {enc : TypeId × Value → H} {W : World} {r : Reach} {base : Nat} {v : Value} {d : DataW H} {ps : List MemPlace} (hval : Value.okWide Tryz.prog W r base 37 v) (h : DataW.Trod enc Tryz.prog W 0 (fun _ => true) true 37 v d ps) :
  ∃ len zs, Ae.IsRow8 W v len zs := by
 obtain ⟨a, len, cap, rfl⟩ := okWide_slice Tryz.underlying37 hval
 obtain ⟨fuel, hf⟩ := h
 rcases open_ints Tryz.underlying37 Tryz.underlying5 (by kernel_rfl) hf with ⟨hcs, _⟩ | ⟨x, l, c, zs, hcs, _, hl, hm, hz, _, hcell, hwz⟩
 ·simp [Value.cells] at hcs
  obtain ⟨rfl, rfl, rfl⟩ := hcs
  exact ⟨0, [], .inl ⟨rfl, rfl, rfl⟩⟩
 ·simp [Value.cells] at hcs
  obtain ⟨rfl, rfl, rfl⟩ := hcs
  exact ⟨len, zs, .inr ⟨x, cap, rfl, hl, by simpa using hz, hcell, hwz⟩⟩
set_option maxRecDepth 100000 in
theorem lifted (os : Os) (started : os.Started) (H : Type) (enc : TypeId × Value → H) :
  ReturnsInHanded {} Tryz.checked os 5 .any (Rows.topLateSpec.pre6 enc Tryz.prog Tryz.f5 Rows.topLateRow.domain false) (Rows.topLateSpec.post enc Tryz.prog Tryz.f5 false true false false) := by
 refine returnsInHanded_of_change_sized (C := Tryz.checked) own started (by kernel_rfl) Tryz.func5
  (ChangeSpec.witness6 (enc := enc) (C := Tryz.checked) false ⟨#[], #[.slice none 0 0, .slice none 0 0], []⟩ 8 (by kernel_rfl) (by kernel_rfl) (by kernel_rfl) (by kernel_rfl)) ?_
 intro W base args ds gs before hval0 hW hcnd hsz0 _
 have hval : ∀ (j : Nat) t v, Tryz.f5.params[j]? = some t → args[j]? = some v → Value.okWide Tryz.prog W .any base t v := hval0
 have hW' := hW
 obtain ⟨p, q, hA0, hV, rfl, hfz, hnd⟩ := hW
 have hA : DataW.TrodAll enc Tryz.prog W 0 (fun _ => true) true Tryz.f5.params.toList args.toList ds p := hA0
 rw [Tryz.params5] at hA hval
 obtain ⟨v0, vs0, d0, ds0, p0, q0, hargs, rfl, rfl, h0, r0⟩ := trodAll_cons hA
 obtain ⟨v1, vs1, d1, ds1, p1, q1, rfl, rfl, rfl, h1, r1⟩ := trodAll_cons r0
 obtain ⟨rfl, rfl, rfl⟩ := trodAll_nil r1
 obtain rfl : args = #[v0, v1] := by cases args; simp_all
 obtain ⟨rfl, rfl⟩ := trodVars_none hV
 have lt0 : ∀ x ∈ p0, x.block < W.heap.size := by obtain ⟨m, hm⟩ := h0; exact DataW.trod_lt m _ _ _ hm
 have lt1 : ∀ x ∈ p1, x.block < W.heap.size := by obtain ⟨m, hm⟩ := h1; exact DataW.trod_lt m _ _ _ hm
 obtain ⟨len0, z0, w0⟩ := open_row (hval 0 37 v0 rfl rfl) h0
 obtain ⟨len1, z1, w1⟩ := open_row (hval 1 37 v1 rfl rfl) h1
 clear hA0 hval0 hsz0
 refine (Ae.late_call w0 w1).mono fun e W' ⟨he, ho, hp, bl⟩ => ?_
 subst he
 have same : ∀ x : MemPlace, x.block < W.heap.size → W.sameAt W' x := fun x hx => by
  cases x with
  | cell b o => exact World.cell?_of_block (w := W) (bl b hx)
  | map b => exact bl b hx
 have keep : ∀ {v d ps}, DataW.Trod enc Tryz.prog W 0 (fun _ => true) true 37 v d ps → (∀ x ∈ ps, x.block < W.heap.size) → DataW.Trod enc Tryz.prog W' 0 (fun b => decide (b < W.heap.size)) true 37 v d ps := fun h hlt =>
  WideElems.Trod_stays f_laid (by kernel_rfl) (of_decide_eq_true (by kernel_rfl)) h (fun x hx => same x (hlt x hx)) fun x hx => by simpa using hlt x hx
 exact ⟨_, rfl, _, _, _, [], _, [], hW', trodAll_mk1 (shut_bool Tryz.underlying4 _), (trodAll_cons_mk (keep h0 lt0) (trodAll_cons_mk (keep h1 lt1) trodAll_mk0)), rfl, ⟨ho, hp, fun i hi => by rw [bl i hi]; split <;> simp_all⟩, fun h => by cases h⟩
theorem over : Rows.topLateRow.holds Tryz.pinned (OpenSpec.ofChange Rows.topLateSpec) :=
 OpenClaim.holds_of_wide 5 Tryz.f5 rfl rfl rfl rfl rfl rfl rfl ⟨rfl, rfl, rfl, rfl, rfl⟩ rfl rfl rfl rfl rfl (by kernel_rfl) Tryz.func5 closed
  (of_decide_eq_true (by kernel_rfl)) (by unfold Func.isWrapper; first | (rw [if_pos (by decide +kernel)]; kernel_rfl) | (rw [if_neg (by decide +kernel)]; exact ⟨rfl, rfl⟩))
  (fun os started H enc _ => lifted os started H enc)
theorem proved : Rows.TopLateSaid := over
#print axioms proved
end Go.Proofs.YtbilacojhmohmaaGreat.topLate
namespace Go.Proofs.YtbilacojhmohmaaGreat
theorem topLate_holds : Rows.TopLateSaid := topLate.proved
end Go.Proofs.YtbilacojhmohmaaGreat
end
