/- slices.Sorted of a map's keys, at any number of them: the model's half. No condition. -/
import Derived.Test.YtbilacojhmohmaaGreatAeSeq
namespace Go.Proofs.YtbilacojhmohmaaGreat
open Go Go.Proofs Go.RowKit Go.Shelf Go.Maps Go.Sort
set_option linter.unusedVariables false
set_option linter.unusedSimpArgs false
attribute [local go_sem] Oper.semAt_some

set_option maxRecDepth 100000 in
theorem collect317 {H : Type} (Bm b nn : Nat) (D0 : DataW H) {R : Value → Option (DataW H × List MemPlace)} (w : World) (hBm : Bm < w.heap.size) (hm : w.cell? ⟨Bm, 0, none⟩ = some (.map (some b))) (hown : w.ownsMap Tryz.prog 28 R b nn D0) (hN : Maps.size D0 ≤ 1000) :
    Calls Tryz.prog 317 #[.func (.func 319) #[] #[.pointer (some ⟨Bm, 0, none⟩)]] w fun e W' => ∃ v ss, e = .returned v ∧ CollU D0 (fun _ => false) ss ∧ W'.ownsRow w.heap.size 28 1 v ss.length (ss.map encU) ∧ (v = .slice none 0 0 ↔ ss = []) ∧ Below w.heap.size w W' := by
  go_enter Tryz.func317, Tryz.ntmps317
  go_wp2_with (go_at_call 358; refine (append358 Bm b nn D0 w hBm hm hown hN).mono ?_; rintro e w' ⟨v, ss, rfl, h1, h2, h3, h4⟩)
  go_ret
  exact ⟨v, ss, rfl, h1, h2, h3, h4⟩
set_option maxRecDepth 100000 in
theorem sorted251 {H : Type} (Bm b nn : Nat) (D0 : DataW H) {R : Value → Option (DataW H × List MemPlace)} (w : World) (hBm : Bm < w.heap.size) (hm : w.cell? ⟨Bm, 0, none⟩ = some (.map (some b))) (hown : w.ownsMap Tryz.prog 28 R b nn D0) (hN : Maps.size D0 ≤ 1000)
    (Post : Value → List Int → World → Prop) (hS : ∀ (W : World) (v : Value) (ss : List Int), CollU D0 (fun _ => false) ss → W.ownsRow w.heap.size 28 1 v ss.length (ss.map encU) → (v = .slice none 0 0 ↔ ss = []) → Below w.heap.size w W → Calls Tryz.prog 318 #[v] W fun e W' => e = .returned (.tuple #[]) ∧ Post v ss W') :
    Calls Tryz.prog 251 #[.func (.func 319) #[] #[.pointer (some ⟨Bm, 0, none⟩)]] w fun e W' => ∃ v ss, e = .returned v ∧ CollU D0 (fun _ => false) ss ∧ Post v ss W' := by
  go_enter Tryz.func251, Tryz.ntmps251
  go_wp2_with (first
    | (go_at_call 317; refine (collect317 Bm b nn D0 w hBm hm hown hN).mono ?_; rintro e w' ⟨v, ss, rfl, h1, h2, h3, h4⟩)
    | (go_at_call 318; refine (hS _ v ss h1 h2 h3 h4).mono ?_; rintro e w2 ⟨rfl, h5⟩))
  go_ret
  exact ⟨v, ss, rfl, h1, h5⟩
end Go.Proofs.YtbilacojhmohmaaGreat
