/- The shelf's room at any order of its entries, of any ranks. No condition. -/
import Derived.Test.YtbilacojhmohmaaGreatAeRoom
namespace Go.Proofs.YtbilacojhmohmaaGreat
open Go Go.Proofs Go.RowKit Go.Shelf Go.Maps Go.Sort
set_option linter.unusedVariables false
set_option linter.unusedSimpArgs false
attribute [local go_sem] Oper.semAt_some

def wantsT (ss : List (Int × Int)) : List Value := ss.flatMap fun x => [encU x.1, .int .i64 x.2, .int .i64 4]
set_option maxRecDepth 100000 in
set_option maxHeartbeats 4000000 in
theorem room186R (Bk : Nat → Prop) [DecidablePred Bk] (Bs b nn : Nat) (D0 : DataW Unit) (i rk byts F B : Int) (w : World) (hm : w.cell? ⟨Bs, 4, none⟩ = some (.map (some b))) (h1 : w.cell? ⟨Bs, 1, none⟩ = some (.int .i64 F)) (h2 : w.cell? ⟨Bs, 2, none⟩ = some (.int .i64 B))
    (hBs : Bs < w.heap.size) (hown : w.ownsMap Tryz.prog 28 (blkR Bk) b nn D0) (hN : Maps.size D0 ≤ 5)
    (hBk : ∀ x, Bk x → x < w.heap.size ∧ ∃ k s, w.cell? ⟨x, 2, none⟩ = some (.int .i64 k) ∧ w.cell? ⟨x, 4, none⟩ = some (.int .i64 s) ∧ wrap64 (k * s) = 4)
    (hS : ∀ (W : World) (v : Value) (ss : List (Int × Int)), CollU D0 (fun _ => false) (ss.map Prod.fst) → ss.length ≤ Maps.size D0 → w.heap.size + 2 ≤ W.heap.size → W.ownsRow (w.heap.size + 2) 222 3 v ss.length (wantsT ss) → Calls Tryz.prog 158 #[v, .func (.func 264) #[] #[]] W fun e W' => e = .returned (.tuple #[]) ∧ W'.os = W.os ∧ W'.output = W.output ∧ W.heap.size ≤ W'.heap.size ∧ ∀ k, k < w.heap.size + 2 → W'.heap[k]? = W.heap[k]?)
    (hF : (Maps.size D0 : Int) < F) (hB : 0 ≤ byts ∧ 4 * (Maps.size D0 : Int) + byts ≤ B ∧ B ≤ 1000000) :
    Calls Tryz.prog 186 #[.pointer (some ⟨Bs, 0, none⟩), .agg #[.int .u32 i, .int .i64 rk, .int .i64 byts]] w fun e w' => e = .returned (.tuple #[.slice none 0 0, .bool true]) ∧ w'.os = w.os ∧ w'.output = w.output ∧ ∀ k, k < w.heap.size → w'.heap[k]? = w.heap[k]? := by
  obtain ⟨i0, hi0, hz0, hz1, hz2⟩ := info_parts infoW
  have hM : 2000 ≤ maxLen := by decide
  have hsz : ∀ o, (w.alloc o).heap.size = w.heap.size + 1 := fun o => by simp
  go_enter Tryz.func186, Tryz.ntmps186
  go_wp2_with (first
    | (at_range; refine wpList_range_own _ rfl _ 189 rfl 28 286 (int_keyed Tryz.underlying28) Tryz.underlying189 (blkR Bk) b nn _ rfl (by first | exact hown | exact hown.alloc _) ?_; simp only [hsz]; intro w0 hrg0 hg0 hs0)
    | go_in)
  try go_frame
  have hwlt : b < w.heap.size := hown.lt
  go_loopw [6] (fun (s6 : Value) wr => ∃ (left : Lit → Bool) (cnt : Nat) (ss : List (Int × Int)), wr.ranges Tryz.prog 28 (blkR Bk) b (w.heap.size + 1) nn D0 left cnt ∧ ss.length + cnt ≤ Maps.size D0 ∧ CollU D0 left (ss.map Prod.fst) ∧ wr.ownsRow (w.heap.size + 2) 222 3 s6 ss.length (wantsT ss) ∧ wr.cell? ⟨w.heap.size, 2, none⟩ = some (.int .i64 byts) ∧ w.heap.size + 1 < wr.heap.size ∧ Below w.heap.size w wr)
    (fun _ wr => wr.rangeLeft b (w.heap.size + 1))
  case round =>
    obtain ⟨left, cnt, ss, hrg, hcs, hC, hrow, hwho, hwr, hBl⟩ := hrel
    go_wp2_with (first
      | (at_next; refine wpList_next_ranges _ rfl _ rfl 28 (int_keyed Tryz.underlying28) (blkR Bk) encU id (fun key kl hk => by obtain ⟨x, hx, _⟩ := keyOf_u32 Tryz.underlying28 hk; exact ⟨x, hx⟩) (fun v _ _ => ⟨v, rfl⟩) b (w.heap.size + 1) nn _ _ _ rfl hrg ?_ ?_)
      | go_in)
    · intro hc0 hl0
      obtain ⟨a6, c6, rfl⟩ : ∃ a c, u6 = .slice a ss.length c := by
        rcases hrow.2 with ⟨e1, e2⟩ | ⟨g, cap, cur, e1, _⟩
        · exact ⟨none, 0, by rw [e1, e2]⟩
        · exact ⟨_, _, e1⟩
      have keep : ∀ (W2 : World), W2.os = wr.os → W2.output = wr.output → wr.heap.size ≤ W2.heap.size → (∀ k, k < w.heap.size + 2 → W2.heap[k]? = wr.heap[k]?) → (W2.cell? ⟨Bs, 1, none⟩ = some (.int .i64 F) ∧ W2.cell? ⟨Bs, 2, none⟩ = some (.int .i64 B) ∧ W2.cell? ⟨Bs, 4, none⟩ = some (.map (some b)) ∧ W2.cell? ⟨w.heap.size, 2, none⟩ = some (.int .i64 byts)) ∧ Bs < W2.heap.size ∧ W2.ownsMap Tryz.prog 28 (blkR Bk) b nn D0 ∧
          (∀ x, Bk x → x < W2.heap.size ∧ ∃ k s, W2.cell? ⟨x, 2, none⟩ = some (.int .i64 k) ∧ W2.cell? ⟨x, 4, none⟩ = some (.int .i64 s) ∧ wrap64 (k * s) = 4) ∧ W2.os = w.os ∧ W2.output = w.output ∧ ∀ k, k < w.heap.size → W2.heap[k]? = w.heap[k]? := fun W2 k1 k2 k3 k4 => by
        have hblk : ∀ k, k < w.heap.size → W2.heap[k]? = w.heap[k]? := fun k hk => (k4 k (by omega)).trans (hBl.block k hk)
        refine ⟨⟨(World.cell?_of_block (a := ⟨Bs, 1, none⟩) (hblk Bs hBs)).trans h1, (World.cell?_of_block (a := ⟨Bs, 2, none⟩) (hblk Bs hBs)).trans h2, (World.cell?_of_block (a := ⟨Bs, 4, none⟩) (hblk Bs hBs)).trans hm, (World.cell?_of_block (a := ⟨w.heap.size, 2, none⟩) (k4 w.heap.size (by omega))).trans hwho⟩, by omega, ?_, fun x hx => ?_, k1.trans hBl.os, k2.trans hBl.output, hblk⟩
        · obtain ⟨es, clock, hb, Ft, hs, hD⟩ := hown
          exact ⟨es, clock, (hblk b hwlt).trans hb, Ft, hs, hD⟩
        · obtain ⟨hb1, kk, s, hb2, hb3, hb4⟩ := hBk x hx
          exact ⟨by omega, kk, s, (World.cell?_of_block (a := ⟨x, 2, none⟩) (hblk x hb1)).trans hb2, (World.cell?_of_block (a := ⟨x, 4, none⟩) (hblk x hb1)).trans hb3, hb4⟩
      go_wp2_with (first
        | (go_at_call 158; refine (hS _ _ ss ⟨hC.1, fun x => by rw [hC.2 x, hl0]⟩ (by omega) (by omega) hrow).mono ?_; rintro e W2 ⟨rfl, ho1, ho2, ho3, ho4⟩; obtain ⟨⟨q1, q2, q3, q4⟩, q5, q6, q7, q8⟩ := keep W2 ho1 ho2 ho3 ho4)
        | (go_at_call 266; refine (bytes266 Bk (blkR Bk) (fun v y h => blkR_inv h) Bs b nn 4 D0 _ q3 q5 q6 (by omega) (by omega) (by omega) q7).mono ?_; rintro e W3 ⟨ss2, g1, g2, rfl, g3⟩; obtain ⟨⟨r1, r2, r3, r4⟩, r5, r6, r7, r8⟩ := keep W3 (g3.os.trans ho1) (g3.output.trans ho2) (Nat.le_trans ho3 g3.size) (fun k hk => (g3.block k (by omega)).trans (ho4 k hk))))
      try go_frame
      have f1 : ¬ (F ≤ (ss.length : Int)) := by omega
      have f2 : wrap64 (4 * (ss2.length : Int) + byts) = 4 * (ss2.length : Int) + byts := by
        simp [wrap64, IntKind.wrap, IntKind.bits, IntKind.signed]; omega
      have d1 : decide (F ≤ (ss.length : Int)) = false := decide_eq_false f1
      have d1' : decide ((ss.length : Int) ≥ F) = false := decide_eq_false f1
      have f3 : ¬ (B < 4 * (ss2.length : Int) + byts) := by omega
      have d3 : decide (B < 4 * (ss2.length : Int) + byts) = false := decide_eq_false f3
      have d3' : decide (4 * (ss2.length : Int) + byts > B) = false := decide_eq_false f3
      go_loopw [4, 6, 9] (fun (s4 s6 s9 : Value) wr3 => s4 = .slice none 0 0 ∧ s6 = .slice a6 ss.length c6 ∧ s9 = .int .i64 (4 * ss2.length) ∧ wr3.cell? ⟨Bs, 1, none⟩ = some (.int .i64 F) ∧ wr3.cell? ⟨Bs, 2, none⟩ = some (.int .i64 B) ∧ wr3.cell? ⟨w.heap.size, 2, none⟩ = some (.int .i64 byts) ∧ wr3.os = w.os ∧ wr3.output = w.output ∧ ∀ k, k < w.heap.size → wr3.heap[k]? = w.heap[k]?) (fun _ _ _ _ => 0)
      case atStart => exact ⟨rfl, rfl, rfl, r1, r2, r4, r8⟩
      case round =>
        obtain ⟨rfl, rfl, rfl, v1, v2, v3, v4⟩ := hrel
        go_wp2_with fail
        go_region
        all_goals go_wp2
        all_goals go_ret2
        all_goals exact ⟨rfl, v4⟩
    · intro x c kl yd yp w2 cnt2 hkey hlk hv hat hrg2 hlt hg2 hs2 hen
      obtain ⟨x', ex, rfl⟩ := keyOf_u32 Tryz.underlying28 hkey
      obtain rfl : x = x' := by simpa using ex
      obtain ⟨bb, rr, rfl, hbb⟩ := blkR_inv hv
      obtain ⟨hb1, kk, s, hb2, hb3, hb4⟩ := hBk bb hbb
      have hB2 : Below w.heap.size w w2 := hBl.trans ⟨hg2.os, hg2.tape, hg2.output, hg2.size, fun k hk => hg2.block k (by omega) (by simp; omega)⟩
      have hc2 : w2.cell? ⟨bb, 2, none⟩ = some (.int .i64 kk) := (hB2.cell (p := ⟨bb, 2, none⟩) hb1).trans hb2
      have hc4 : w2.cell? ⟨bb, 4, none⟩ = some (.int .i64 s) := (hB2.cell (p := ⟨bb, 4, none⟩) hb1).trans hb3
      obtain ⟨W1, hW1⟩ : ∃ W1, W1 = w2.alloc (.cells #[.pointer (some ⟨bb, 0, none⟩), .int .i64 rr] 286) := ⟨_, rfl⟩
      have hc2' : W1.cell? ⟨bb, 2, none⟩ = some (.int .i64 kk) := by rw [hW1, World.cell?_of_block (w := w2) (Below.heap_alloc _ _ bb (Nat.lt_of_lt_of_le hb1 hB2.size))]; exact hc2
      have hc4' : W1.cell? ⟨bb, 4, none⟩ = some (.int .i64 s) := by rw [hW1, World.cell?_of_block (w := w2) (Below.heap_alloc _ _ bb (Nat.lt_of_lt_of_le hb1 hB2.size))]; exact hc4
      have h187 : ∀ W : World, W.cell? ⟨bb, 2, none⟩ = some (.int .i64 kk) → W.cell? ⟨bb, 4, none⟩ = some (.int .i64 s) → Calls Tryz.prog 187 #[.pointer (some ⟨bb, 0, none⟩)] W fun e w' => e = .returned (.int .i64 4) ∧ ∃ n, w' = W.drewN n := fun W g1 g2 => by have := bytes187 bb kk s W g1 g2; rwa [hb4] at this
      have hrow2 : w2.ownsRow (w.heap.size + 2) 222 3 u6 ss.length (wantsT ss) := row_at hrow fun k hk hb => hg2.block k hk (by simp; omega)
      have hrowP : ∀ (W : World) (o2 : Obj), W.heap = (w2.heap.push (.cells #[.pointer (some ⟨bb, 0, none⟩), .int .i64 rr] 286)).push o2 → W.ownsRow (w.heap.size + 2) 222 3 u6 ss.length (wantsT ss) := fun W o2 hW => row_at hrow2 fun k hk hb => by rw [hW, Array.getElem?_push, Array.getElem?_push, if_neg (by simp; omega), if_neg (by omega)]
      have hnewP : ∀ (W : World) (o2 : Obj), W.heap = (w2.heap.push (.cells #[.pointer (some ⟨bb, 0, none⟩), .int .i64 rr] 286)).push o2 → W.heap[w2.heap.size + 1]? = some o2 := fun W o2 hW => by rw [hW, Array.getElem?_push, if_pos (by simp)]
      have hszE : ∀ (W : World) (o2 : Obj), W.heap = (w2.heap.push (.cells #[.pointer (some ⟨bb, 0, none⟩), .int .i64 rr] 286)).push o2 → W.heap.size = w2.heap.size + 2 := fun W o2 hW => by rw [hW]; simp
      have hszP : ∀ (W : World) (o2 : Obj), W.heap = (w2.heap.push (.cells #[.pointer (some ⟨bb, 0, none⟩), .int .i64 rr] 286)).push o2 → w.heap.size + 2 ≤ W.heap.size := fun W o2 hW => by have := hszE W o2 hW; have := hB2.size; omega
      have hb2s := hB2.size
      have a0 : u6.ownBlock ≠ some w2.heap.size := fun e => by have := row_own hrow2 e; omega
      have a1 : u6.ownBlock ≠ some bb := fun e => by have := row_own hrow2 e; omega
      clear hs2
      go_wp2_with fail
      go_region_held_law (fun w' => w'.cell? ⟨w2.heap.size, 0, none⟩ = some (.pointer (some ⟨bb, 0, none⟩)) ∧ w'.cell? ⟨w2.heap.size, 1, none⟩ = some (.int .i64 rr) ∧ w'.cell? ⟨bb, 2, none⟩ = some (.int .i64 kk) ∧ w'.cell? ⟨bb, 4, none⟩ = some (.int .i64 s))
        (first
          | go_keep
          | (go_split_ands
             refine ⟨?_, ?_, ?_, ?_⟩
             · (rw [hgrow.cell_far _ (by simp; omega) (Ne.symm a0)]; assumption)
             · (rw [hgrow.cell_far _ (by simp; omega) (Ne.symm a0)]; assumption)
             · (rw [hgrow.cell_far _ (by simp; omega) (Ne.symm a1)]; assumption)
             · (rw [hgrow.cell_far _ (by simp; omega) (Ne.symm a1)]; assumption)))
        (first
          | (go_at_call 187; refine (h187 _ (by rw [hW1] at hc2'; exact hc2') (by rw [hW1] at hc4'; exact hc4')).mono ?_; rintro e w3 ⟨rfl, n3, rfl⟩)
          | (refine step_append_lies _ (by rfl) _ _ _ (by rfl) (w.heap.size + 2) 222 i0 _ 3 24 Tryz.underlying213 hi0 hz0 hz1 hz2 rfl (by omega) u6 ss.length (wantsT ss) (by rfl) (hrowP _ _ (by rfl)) ⟨w2.heap.size + 1, 0, none⟩ 1 1 [encU x, .int .i64 rr, .int .i64 4] (by rfl) (by rfl) (World.news_of_block (cs := #[encU x, .int .i64 rr, .int .i64 4]) (t := 222) (fr := (0, 0)) (hnewP _ _ (by rfl))) (by simp [Value.oneCell']) (by omega) (by omega) (by omega) (hszP _ _ (by rfl)) (w2.heap.size + 2) (hszE _ _ (by rfl)) ?_; intro gg cap w1 hown1 hgrow hat1 hlt1))
      simp only [Act.put, List.getElem_toArray, List.getElem_cons_succ, List.getElem_cons_zero, List.setIfInBounds_toArray, List.set_cons_succ, List.set_cons_zero]
      go_wp2
      case roundEnd =>
        have hst : ∀ k, k < w2.heap.size → some k ≠ u6.ownBlock → w1.heap[k]? = w2.heap[k]? := fun k hk hne => by
          refine (hgrow.block k (by simp; omega) hne).trans ?_
          show ((w2.heap.push _).push _)[k]? = _
          rw [Array.getElem?_push, Array.getElem?_push, if_neg (by simp; omega), if_neg (by omega)]
        have hlow : ∀ k, k < w.heap.size + 2 → some k ≠ u6.ownBlock := fun k hk e => by have := row_own hrow2 e.symm; omega
        have hwr2 := hg2.size
        have hrg3 : w1.ranges Tryz.prog 28 (blkR Bk) b (w.heap.size + 1) nn D0 _ cnt2 := ranges_at hrg2 (hst b (by omega) (hlow b (by omega))) (hst _ (by omega) (hlow _ (by omega)))
        have hsz1 := hgrow.size
        simp at hsz1
        refine ⟨⟨_, cnt2, ss ++ [(x, rr)], hrg3, by simp; omega, (by simpa using hC.step hlk hat), ?_, ?_, by omega, ?_⟩, by rw [hrg3.left_eq, hrg.left_eq]; exact hlt⟩
        · have e1 : (ss ++ [(x, rr)]).length = ss.length + 1 := by simp
          have e2 : wantsT (ss ++ [(x, rr)]) = wantsT ss ++ [encU x, .int .i64 rr, .int .i64 4] := by simp [wantsT]
          rw [e1, e2]; exact hown1
        · have q1 : w1.heap[w.heap.size]? = wr.heap[w.heap.size]? := (hst w.heap.size (by omega) (hlow w.heap.size (by omega))).trans (hg2.block w.heap.size (by omega) (by simp))
          exact (World.cell?_of_block (a := ⟨w.heap.size, 2, none⟩) q1).trans hwho
        · exact ⟨hgrow.os.trans hB2.os, hgrow.tape.trans hB2.tape, hgrow.output.trans hB2.output, by omega, fun k hk => (hst k (by omega) (hlow k (by omega))).trans (hB2.block k hk)⟩
  case atStart =>
    have hsz0 := hs0
    refine ⟨_, _, [], hrg0, by simp, ⟨List.nodup_nil, fun x => by cases has D0 (.int .u32 x) <;> simp⟩, World.ownsRow_nil _ _ _ _, ?_, by omega, ⟨hg0.os, hg0.tape, hg0.output, by omega, fun k hk => (hg0.block k (by simp; omega) (by simp)).trans (Below.heap_alloc _ _ k hk)⟩⟩
    have q1 : w0.heap[w.heap.size]? = some (.cells #[.int .u32 i, .int .i64 rk, .int .i64 byts] 222) := (hg0.block w.heap.size (by simp) (by simp)).trans (heap_alloc_new w _)
    simp [World.cell?, q1]
end Go.Proofs.YtbilacojhmohmaaGreat
