/- The closures are the functions' code, compiled. No condition. -/
import Derived.Test.YtbilacojhmohmaaGreatD06
import Derived.Test.YtbilacojhmohmaaGreatProg
import Derived.KernelRfl
set_option linter.unusedVariables false
set_option linter.unusedSimpArgs false
noncomputable section
namespace Go.Proofs.YtbilacojhmohmaaGreat.Ae
open Go
def Tr.keys {α : Type} : Tr α → List Nat
 | .leaf => []
 | .node n _ a b c d => n :: (a.keys ++ (b.keys ++ (c.keys ++ d.keys)))
theorem Tr.get_keys {α : Type} {n : Nat} {x : α} : ∀ {t : Tr α} {m : Nat}, t.get n m = some x → n ∈ t.keys
 | .leaf, m, h => by cases h
 | .node k v a b c d, m, h => by
  simp only [Tr.keys, List.mem_cons, List.mem_append]
  simp only [Tr.get] at h
  cases hk : Nat.beq n k with
  | true => exact .inl (nbt hk)
  | false =>
   rw [hk, cond_false] at h
   refine .inr ?_
   revert h
   refine sel4_ind (Nat.mod m 4) (p := fun t => t = some x → _) (fun _ h => .inl (Tr.get_keys h)) (fun _ h => .inr (.inl (Tr.get_keys h))) (fun _ h => .inr (.inr (.inl (Tr.get_keys h)))) (fun _ _ _ h => .inr (.inr (.inr (Tr.get_keys h))))
def kKeys : List Nat := [9, 12, 48, 64, 320, 224, 352, 112, 304, 368, 176, 52, 68, 324, 84, 100, 356, 164, 228, 116, 308, 180, 24, 328, 88, 104, 168, 232, 56, 312, 184, 60, 140, 268, 92, 156, 108, 172, 236, 252, 13, 33, 65, 321, 97, 225, 49, 305, 37, 85, 101, 357, 165, 53, 117, 181, 25, 329, 89, 153, 105, 169, 233, 57, 185, 29, 141, 93, 157, 109, 173, 237, 61, 317, 253, 10, 34, 194, 322, 146, 98, 354, 226, 50, 306, 114, 22, 262, 86, 150, 102, 294, 166, 54, 310, 118, 182, 246, 26, 266, 330, 90, 154, 106, 362, 234, 58, 186, 62, 142, 94, 350, 158, 110, 174, 254, 318, 11, 35, 83, 147, 163, 227, 51, 307, 115, 23, 71, 263, 87, 151, 103, 359, 167, 231, 55, 311, 119, 183, 247, 27, 75, 331, 91, 155, 107, 171, 235, 59, 123, 187, 251, 63, 143, 95, 351, 111, 303, 175, 255]
theorem kKeys_ok : kfTree.keys = kKeys := by kernel_rfl
theorem kt_all : kKeys.map (fun f => (cFn Tryz.prog (cDraw Tryz.prog) f).map toK) = kKeys.map (fun f => trGet kfTree f) := by kernel_rfl
theorem inj_at {α β : Type} {p q : α → β} : ∀ {l : List α}, l.map p = l.map q → ∀ {x : α}, x ∈ l → p x = q x := fun h _ hx => List.map_inj_left.1 h _ hx
theorem kt_at {f : Nat} (h : f ∈ kKeys) : (cFn Tryz.prog (cDraw Tryz.prog) f).map toK = trGet kfTree f := inj_at (p := fun f => (cFn Tryz.prog (cDraw Tryz.prog) f).map toK) (q := fun f => trGet kfTree f) kt_all h
def FK : FuncId → Option KFn := fun f => trGet kfTree f
def FC : FuncId → Option CFn := fun f => match FK f with
 | some _ => cFn Tryz.prog (cDraw Tryz.prog) f
 | none => none
theorem FC_ok : ∀ f cf, FC f = some cf → cFn Tryz.prog (cDraw Tryz.prog) f = some cf := fun f cf h => by
 unfold FC at h
 split at h
 ·exact h
 ·cases h
theorem FK_eq : ∀ f, FK f = (FC f).map toK := fun f => by
 unfold FC
 cases h : FK f with
 | none => rfl
 | some k =>
  have h : trGet kfTree f = some k := h
  have hm : f ∈ kKeys := by rw [← kKeys_ok]; rw [trGet_eq] at h; exact Tr.get_keys h
  exact ((kt_at hm).trans h).symm
theorem callK_ok {sm : Summ} (hsm : SumOK Tryz.prog sm) {ds : DSum} (hds : DefOK Tryz.prog ds) (N n : Nat) : CallOK Tryz.prog (callK FK sm ds N n) := by
 rw [callK_eq FK_eq]
 exact xcall_sound FC_ok hsm hds (draw_ok (by kernel_rfl)) N n
end Go.Proofs.YtbilacojhmohmaaGreat.Ae
end
