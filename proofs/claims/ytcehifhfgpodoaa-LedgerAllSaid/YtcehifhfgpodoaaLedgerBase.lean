/- What the ledger's functions do: contracts of New, of, Open, Next, Left and Close over a map that is told as a function. No condition but that fewer than a million symbols and openings have been told of. -/
import Derived.Test.YtcehifhfgpodoaaProg
import Derived.Test.YtcehifhfgpodoaaWMore
import Derived.Test.YtcehifhfgpodoaaWAt
import Derived.Maps.OwnSet
import Derived.StillTailTactics
import Derived.RegionTactic
import Derived.WalkKit
namespace Go.Proofs.Ytcehifhfgpodoaa.Ledger
open Go.RowKit Go.Maps Go.Proofs.YtcehifhfgpodoaaW.PrintWords Go.Proofs.YtcehifhfgpodoaaW.PrintLast Go.Proofs.YtcehifhfgpodoaaW.PrintMore
set_option linter.unusedVariables false
set_option linter.unusedSimpArgs false

theorem law28 : Keyed Try.prog 28 := int_keyed Try.underlying28
theorem zero60 (w : World) : (zeroValue 60).run Try.prog w = .ok (.agg #[.int .i64 0, .int .i64 0]) w := by kernel_rfl
theorem zero3 (w : World) : (zeroValue 3).run Try.prog w = .ok (.int .i64 0) w := by kernel_rfl

/-- how a row reads -/
def rowElem : Value → Option (DataW Unit × List MemPlace)
  | .agg cs => match cs.toList with
    | [.int .i64 a, .int .i64 b] => some (.agg [.lit (.int .i64 a), .lit (.int .i64 b)], [])
    | _ => none
  | _ => none
theorem rowElem_mk (a b : Int) : rowElem (.agg #[.int .i64 a, .int .i64 b]) = some (.agg [.lit (.int .i64 a), .lit (.int .i64 b)], []) := by
  simp [rowElem]
theorem rowElem_inv {v : Value} {a b : Int} {ps : List MemPlace} (h : rowElem v = some (.agg [.lit (.int .i64 a), .lit (.int .i64 b)], ps)) : v = .agg #[.int .i64 a, .int .i64 b] := by
  unfold rowElem at h
  split at h
  · rename_i cs
    split at h
    · rename_i a' b' hcs
      simp at h
      obtain ⟨⟨rfl, rfl⟩, _⟩ := h
      have : cs = #[.int .i64 a', .int .i64 b'] := by
        apply Array.toList_inj.mp
        rw [hcs]
      rw [this]
    · cases h
  · cases h

/-- rows of frames, and how often one was laid -/
structure LM where
  m : Int → Option (Int × Int)
  n : Nat

def rowD (r : Int × Int) : DataW Unit := .agg [.lit (.int .i64 r.1), .lit (.int .i64 r.2)]
/-- a datum that reads as those rows -/
def Agree (D : DataW Unit) (m : Int → Option (Int × Int)) : Prop :=
  IsMap D ∧ ∀ k, (Lit.int .u32 k).wf = true → Maps.has D (.int .u32 k) = (m k).isSome ∧ D.atKey (.int .u32 k) (rowD (0, 0)) = rowD ((m k).getD (0, 0))
def putM (m : Int → Option (Int × Int)) (k : Int) (r : Int × Int) : Int → Option (Int × Int) := fun j => if j = k then some r else m j
def delM (m : Int → Option (Int × Int)) (k : Int) : Int → Option (Int × Int) := fun j => if j = k then none else m j

theorem agree_empty : Agree (.map []) (fun _ => none) := ⟨isMap_empty, fun k _ => ⟨rfl, rfl⟩⟩
theorem lit_ne {j k : Int} (h : j ≠ k) : (Lit.int .u32 j) ≠ (Lit.int .u32 k) := fun e => h (by injection e)
theorem isKey (k : Int) : WideAt.IsKeyLit (Lit.int .u32 k) := by simp [WideAt.IsKeyLit]
theorem agree_put {D : DataW Unit} {m : Int → Option (Int × Int)} (h : Agree D m) (k : Int) (r : Int × Int) : Agree (D.put (.int .u32 k) (rowD r)) (putM m k r) := by
  refine ⟨h.1.put _ _, fun j hj => ?_⟩
  unfold putM
  by_cases e : j = k
  · subst e
    rw [if_pos rfl]
    exact ⟨has_put_same h.1 (isKey _) _, by rw [atKey_put_same h.1 (isKey _)]; rfl⟩
  · rw [if_neg e, has_put_other (lit_ne e), atKey_put_other (lit_ne e)]
    exact h.2 j hj
theorem agree_del {D : DataW Unit} {m : Int → Option (Int × Int)} (h : Agree D m) (k : Int) : Agree (D.del (.int .u32 k)) (delM m k) := by
  refine ⟨h.1.del _, fun j hj => ?_⟩
  unfold delM
  by_cases e : j = k
  · subst e
    rw [if_pos rfl]
    exact ⟨has_del_same, by rw [atKey_del_same]; rfl⟩
  · rw [if_neg e, has_del_other (lit_ne e), atKey_del_other (lit_ne e)]
    exact h.2 j hj

/-- a ledger at block g of W -/
def IsS55 (w0 W : World) (g : Nat) (s : LM) : Prop :=
  (W.heap[g]? = some (.cells #[.map (some (g - 1))] 55 (0, 0)) ∧ 1 ≤ g ∧ w0.heap.size ≤ g - 1) ∧ ∃ D, W.ownsMap Try.prog 28 rowElem (g - 1) s.n D ∧ Agree D s.m

theorem IsS55.grown {w0 W W1 : World} {g : Nat} {s : LM} {row : Option Nat} (h : IsS55 w0 W g s) (hw : W.grownBy W1 row) (h1 : some g ≠ row) (h2 : some (g - 1) ≠ row) : IsS55 w0 W1 g s := by
  obtain ⟨⟨hb, hg, hs⟩, D, hD, hA⟩ := h
  exact ⟨⟨blk_grown hb hw h1, hg, hs⟩, D, hD.kept hw h2, hA⟩
theorem IsS55.below {w0 W W1 : World} {g : Nat} {s : LM} (h : IsS55 w0 W g s) (hw : Below W.heap.size W W1) : IsS55 w0 W1 g s := h.grown (grown_of_below hw none) (by simp) (by simp)
theorem IsS55.alloc {w0 W : World} {g : Nat} {s : LM} (h : IsS55 w0 W g s) (o : Obj) : IsS55 w0 (W.alloc o) g s := h.below (below_alloc (Below.refl _ _) o)
theorem IsS55.drewN {w0 W : World} {g : Nat} {s : LM} (h : IsS55 w0 W g s) (m : Nat) : IsS55 w0 (W.drewN m) g s := h
theorem IsS55.drew {w0 W : World} {g : Nat} {s : LM} (h : IsS55 w0 W g s) : IsS55 w0 W.drew g s := h
theorem IsS55.at_ {w0 W : World} {g : Nat} {s : LM} {w' : World} {m : Nat} (hq : W.drewN m = w') (h : IsS55 w0 W g s) : IsS55 w0 w' g s := by subst hq; exact IsS55.drewN h m
theorem IsS55.lt {w0 W : World} {g : Nat} {s : LM} (h : IsS55 w0 W g s) : g < W.heap.size := blk_lt h.1.1
theorem IsS55.ge {w0 W : World} {g : Nat} {s : LM} (h : IsS55 w0 W g s) : w0.heap.size ≤ g := by have := h.1.2.2; omega

theorem IsS55.ne_blk {w0 W : World} {g : Nat} {s : LM} {a : Nat} {cs : Array Value} {t : TypeId} {fr : Nat × Nat} (h : IsS55 w0 W g s) (hb2 : W.heap[a]? = some (.cells cs t fr)) (ht : t ≠ 55) : g ≠ a := by
  rintro rfl
  have hb := h.1.1
  rw [hb] at hb2
  injection hb2 with hb2
  injection hb2 with _ ht2
  exact ht ht2.symm
/-- a store into a cell turns no map -/
theorem map_set {w : World} {b : Nat} {es : Array MapEntry} {c : Nat} (h : w.heap[b]? = some (.map es c)) (a : Addr) (u : Value) : (w.setCell a u).heap[b]? = some (.map es c) := by
  by_cases e : b = a.block
  · subst e
    simp only [World.setCell, Array.getElem?_modify, if_true, h, Option.map_some]
  · rw [RowKit.Below.heap_setCell _ _ _ _ e]; exact h
theorem owns_set {w : World} {k : TypeId} {R : Value → Option (DataW Unit × List MemPlace)} {b n : Nat} {D : DataW Unit} (h : w.ownsMap Try.prog k R b n D) (a : Addr) (u : Value) : (w.setCell a u).ownsMap Try.prog k R b n D := by
  obtain ⟨es, c, hb, r⟩ := h
  exact ⟨es, c, map_set hb a u, r⟩
theorem IsS55.far {w0 W : World} {g : Nat} {s : LM} {p : Addr} (h : IsS55 w0 W g s) (hne : g ≠ p.block) (u : Value) : IsS55 w0 (W.setCell p u) g s := by
  obtain ⟨⟨hb, hg, hs⟩, D, hD, hA⟩ := h
  exact ⟨⟨blk_far hb hne u, hg, hs⟩, D, owns_set hD p u, hA⟩
/-- what is no map stays behind a call -/
theorem IsS55.keepBox {w0 w w1 : World} {g0 : Nat} {s : LM} (h : IsS55 w0 w g0 s) (hk : KeepBut w w1 (g0 - 1) none) {g : Nat} {o : Obj} (hb : w.heap[g]? = some o) (ho : ∀ es c, o ≠ .map es c) : w1.heap[g]? = some o := by
  obtain ⟨_, D, ⟨es, c, hm, _⟩, _⟩ := h
  refine hk.blk hb ?_ (by simp)
  rintro rfl
  rw [hb] at hm
  exact ho es c (Option.some.inj hm)

set_option maxHeartbeats 1000000 in
theorem new_calls (w0 w : World) (hB : Below w0.heap.size w0 w) :
    Calls Try.prog 13 #[] w fun e w' => ∃ g_ : Nat, e = .returned (.pointer (some ⟨g_, 0, none⟩)) ∧ IsS55 w0 w' g_ ⟨fun _ => none, 0⟩ ∧ Below w0.heap.size w0 w' ∧ Below w.heap.size w w' := by
  have hs := hB.size
  have hmm := @run_makeMap Try.prog
  go_enter Try.func13, Try.ntmps13
  go_wp2
  go_ret
  refine ⟨w.heap.size + 1, rfl, ⟨⟨?_, by omega, by simp; omega⟩, .map [], ?_, agree_empty⟩, below_alloc (below_alloc hB _) _, below_alloc (below_alloc (Below.refl _ _) _) _⟩
  · have h := heap_alloc_new (w.alloc (.map #[] 0)) (.cells #[.map (some w.heap.size)] 55)
    simpa using h
  · simpa using (World.ownsMap_made w Try.prog 28 rowElem).alloc (.cells #[.map (some w.heap.size)] 55)


/-- 'r, is := l.l[frame]' -/
theorem lookup_row (w : World) {ops : Array Oper} {rest : List Oper} {o : Oper} {a : Act} {Q : Exit → Act → World → Prop}
    (hg : o.guard = none) (m x : Operand) (hop : o.op = Op.lookup 53 m x true) (b n : Nat) (D : DataW Unit) (mm : Int → Option (Int × Int))
    (hm : a.eval m = .map (some b)) (hown : w.ownsMap Try.prog 28 rowElem b n D) (hA : Agree D mm) (k : Int) (hx : a.eval x = .int .u32 k) (hk : (Lit.int .u32 k).wf = true)
    (p q : Int) (is : Bool) (hr : (mm k).getD (0, 0) = (p, q)) (hi : (mm k).isSome = is)
    (hK : wpList Try.prog ops Q rest (a.put o.dst (.tuple #[.agg #[.int .i64 p, .int .i64 q], .bool is])) w) :
    wpList Try.prog ops Q (o :: rest) a w := by
  refine wpList_lookup_own_ok w hg m x 53 hop 28 60 law28 Try.underlying53 rowElem (zero60 _) (rowD (0, 0)) [] (rowElem_mk 0 0) b n D hm hown _ _ hx (keyOf_int_mk Try.underlying28 hk) (fun v ps hv => ?_)
  obtain ⟨h1, h2⟩ := hA.2 k hk
  rw [h2, hr] at hv
  rw [h1, hi, rowElem_inv hv]
  exact hK

set_option maxHeartbeats 1000000 in
theorem of_calls (w0 w : World) (g : Nat) (s : LM) (k : Int) (hI : IsS55 w0 w g s) (hk : (Lit.int .u32 k).wf = true) (p q : Int) (is : Bool) (hr : (s.m k).getD (0, 0) = (p, q)) (hi : (s.m k).isSome = is) :
    Calls Try.prog 26 #[.pointer (some ⟨g, 0, none⟩), .int .u32 k] w fun e w' => e = .returned (.tuple #[.agg #[.int .i64 p, .int .i64 q], .bool is]) ∧ Below w.heap.size w w' := by
  obtain ⟨⟨hb, hg, hs⟩, D, hD, hA⟩ := hI
  have hc : w.cell? ⟨g, 0, none⟩ = some (.map (some (g - 1))) := (blk_cell hb 0).trans rfl
  have hlt := blk_lt hb
  have HR := Aside0.mk hr
  have HI := Aside0.mk hi
  have HA := Aside0.mk hA
  have HD := Aside0.mk hD
  have HK := Aside0.mk hk
  clear hr hi hA hD hk hb
  go_enter Try.func26, Try.ntmps26
  go_wp2_with (at_lookup; refine lookup_row _ rfl _ _ rfl (g - 1) s.n D s.m rfl (HD.out.alloc _) HA.out k rfl HK.out p q is HR.out HI.out ?_)
  exact bodyPost_ret (v := .tuple #[.agg #[.int .i64 p, .int .i64 q], .bool is]) (by simp [results, Try.results26, go_sem]) rfl ⟨rfl, below_alloc (below_alloc (Below.refl _ _) _) _⟩

theorem IsS55.keptBelow {w0 w w1 : World} {g : Nat} {s : LM} (h : IsS55 w0 w g s) (hb : Below w.heap.size w w1) : IsS55 w0 w1 g s := h.below hb
theorem IsS55.cell {w0 w : World} {g : Nat} {s : LM} (h : IsS55 w0 w g s) : w.cell? ⟨g, 0, none⟩ = some (.map (some (g - 1))) := (blk_cell h.1.1 0).trans rfl
theorem IsS55.mge {w0 w : World} {g : Nat} {s : LM} (h : IsS55 w0 w g s) : w0.heap.size ≤ g - 1 := h.1.2.2
/-- a turned map: what else stands -/
theorem turned_keep {w w1 w2 : World} {b : Nat} (hb : Below w.heap.size w w1) (ht : w1.mapTurned w2 b) : KeepBut w w2 b none := by
  have hg := ht.grown
  refine ⟨Nat.le_trans hb.size hg.size, fun i hi hne _ => ?_⟩
  rw [hg.block i (Nat.lt_of_lt_of_le hi hb.size) (by simpa using hne)]
  exact hb.block i hi
theorem turned_below {w0 w1 w2 : World} {b : Nat} (h : Below w0.heap.size w0 w1) (ht : w1.mapTurned w2 b) (hb : w0.heap.size ≤ b) : Below w0.heap.size w0 w2 := h.grown ht.grown h.size (fun j hj => by cases hj; exact hb)
theorem IsS55.turned {w0 w1 w2 : World} {g : Nat} {s : LM} {m : Int → Option (Int × Int)} {n : Nat} {D : DataW Unit} (h : IsS55 w0 w1 g s) (ht : w1.mapTurned w2 (g - 1)) (hD : w2.ownsMap Try.prog 28 rowElem (g - 1) n D) (hA : Agree D m) : IsS55 w0 w2 g ⟨m, n⟩ := by
  obtain ⟨⟨hb, hg, hs⟩, _⟩ := h
  exact ⟨⟨blk_grown hb ht.grown (by simp; omega), hg, hs⟩, D, hD, hA⟩

set_option maxHeartbeats 2000000 in
theorem open_no (w0 w : World) (g : Nat) (s : LM) (fr k : Int) (hI : IsS55 w0 w g s) (hB : Below w0.heap.size w0 w) (hk : (Lit.int .u32 fr).wf = true) (h : (s.m fr).isSome = true ∨ k < 1 ∨ 32 < k) :
    Calls Try.prog 15 #[.pointer (some ⟨g, 0, none⟩), .int .u32 fr, .int .i64 k] w fun e w' => e = .returned (.bool false) ∧ IsS55 w0 w' g s ∧ Below w0.heap.size w0 w' ∧ KeepBut w w' (g - 1) none := by
  obtain ⟨is, his⟩ : ∃ is, (s.m fr).isSome = is := ⟨_, rfl⟩
  obtain ⟨⟨p, q⟩, hr⟩ : ∃ r, (s.m fr).getD (0, 0) = r := ⟨_, rfl⟩
  have HC := Aside0.mk (of_calls w0 w g s fr hI hk p q is hr his)
  have HI := Aside0.mk hI
  have HB := Aside0.mk hB
  rw [his] at h
  clear hI hB hr his hk
  by_cases c1 : is = true
  · subst c1
    clear h
    go_enter Try.func15, Try.ntmps15
    go_wp2_with (go_at_call 26; refine HC.out.mono ?_; rintro e w1 ⟨rfl, hb⟩)
    go_ret
    exact ⟨rfl, (HI.out.below hb).alloc _, below_alloc (below_step HB.out hb) _, KeepBut.of_below (below_alloc hb _) _ _⟩
  · obtain rfl : is = false := by simpa using c1
    clear c1
    by_cases c2 : k < 1
    · have c2b : decide (k < 1) = true := decide_eq_true c2
      clear h c2
      go_enter Try.func15, Try.ntmps15
      go_wp2_with (go_at_call 26; refine HC.out.mono ?_; rintro e w1 ⟨rfl, hb⟩)
      go_ret
      exact ⟨rfl, (HI.out.below hb).alloc _, below_alloc (below_step HB.out hb) _, KeepBut.of_below (below_alloc hb _) _ _⟩
    · have c2b : decide (k < 1) = false := decide_eq_false c2
      have c3 : 32 < k := by rcases h with h | h | h <;> first | exact h | omega | cases h
      have c3b : decide (32 < k) = true := decide_eq_true c3
      clear h c2 c3
      go_enter Try.func15, Try.ntmps15
      go_wp2_with (go_at_call 26; refine HC.out.mono ?_; rintro e w1 ⟨rfl, hb⟩)
      go_ret
      exact ⟨rfl, (HI.out.below hb).alloc _, below_alloc (below_step HB.out hb) _, KeepBut.of_below (below_alloc hb _) _ _⟩

set_option maxHeartbeats 2000000 in
theorem open_yes (w0 w : World) (g : Nat) (s : LM) (fr k : Int) (hI : IsS55 w0 w g s) (hB : Below w0.heap.size w0 w) (hk : (Lit.int .u32 fr).wf = true) (h0 : s.m fr = none) (h1 : 1 ≤ k) (h2 : k ≤ 32) (hn : s.n < 1000000) :
    Calls Try.prog 15 #[.pointer (some ⟨g, 0, none⟩), .int .u32 fr, .int .i64 k] w fun e w' => e = .returned (.bool true) ∧ IsS55 w0 w' g ⟨putM s.m fr (k, k + 64), s.n + 1⟩ ∧ Below w0.heap.size w0 w' ∧ KeepBut w w' (g - 1) none := by
  have HC := Aside0.mk (of_calls w0 w g s fr hI hk 0 0 false (by rw [h0]; rfl) (by rw [h0]; rfl))
  have HI := Aside0.mk hI
  have HB := Aside0.mk hB
  have HK := Aside0.mk hk
  have HN := Aside0.mk hn
  have c2b : decide (k < 1) = false := decide_eq_false (by omega)
  have c3b : decide (32 < k) = false := decide_eq_false (by omega)
  clear hI hB h0 hk hn
  go_enter Try.func15, Try.ntmps15
  go_wp2_with (first
    | (go_at_call 26; refine HC.out.mono ?_; rintro e w1 ⟨rfl, hb⟩; have hc := IsS55.cell (HI.out.below hb); have hlt := IsS55.lt (HI.out.below hb); obtain ⟨_, D, hD, hA⟩ := HI.out.below hb; have HD := Aside0.mk hD; have HA := Aside0.mk hA; have HB1 := Aside0.mk hb; clear hD hA hb)
    | (at_mapUpdate; refine wpList_mapUpdate_in _ rfl _ _ _ 53 rfl 28 60 law28 Try.underlying53 rowElem (g - 1) s.n D rfl (HD.out.alloc _) (by have := HN.out; unfold maxLen; omega) _ _ _ rfl rfl (keyOf_int_mk Try.underlying28 HK.out) (rowD (k, k + 64)) [] (rowElem_mk k (k + 64)) ?_; intro w2 hown2 hturn2; have HO := Aside0.mk hown2; have HT := Aside0.mk hturn2; clear hown2 hturn2))
  go_ret
  exact ⟨rfl, ((HI.out.below HB1.out).alloc _).turned HT.out HO.out (agree_put HA.out fr (k, k + 64)), turned_below (below_alloc (below_step HB.out HB1.out) _) HT.out (IsS55.mge HI.out), turned_keep (below_alloc HB1.out _) HT.out⟩


set_option maxHeartbeats 2000000 in
theorem close_no (w0 w : World) (g : Nat) (s : LM) (fr : Int) (hI : IsS55 w0 w g s) (hB : Below w0.heap.size w0 w) (hk : (Lit.int .u32 fr).wf = true) (h0 : s.m fr = none) :
    Calls Try.prog 17 #[.pointer (some ⟨g, 0, none⟩), .int .u32 fr] w fun e w' => e = .returned (.bool false) ∧ IsS55 w0 w' g s ∧ Below w0.heap.size w0 w' ∧ KeepBut w w' (g - 1) none := by
  have HC := Aside0.mk (of_calls w0 w g s fr hI hk 0 0 false (by rw [h0]; rfl) (by rw [h0]; rfl))
  have HI := Aside0.mk hI
  have HB := Aside0.mk hB
  clear hI hB h0 hk
  go_enter Try.func17, Try.ntmps17
  go_wp2_with (go_at_call 26; refine HC.out.mono ?_; rintro e w1 ⟨rfl, hb⟩)
  go_ret
  exact ⟨rfl, (HI.out.below hb).alloc _, below_alloc (below_step HB.out hb) _, KeepBut.of_below (below_alloc hb _) _ _⟩

set_option maxHeartbeats 2000000 in
theorem close_yes (w0 w : World) (g : Nat) (s : LM) (fr : Int) (hI : IsS55 w0 w g s) (hB : Below w0.heap.size w0 w) (hk : (Lit.int .u32 fr).wf = true) (h0 : (s.m fr).isSome = true) :
    Calls Try.prog 17 #[.pointer (some ⟨g, 0, none⟩), .int .u32 fr] w fun e w' => e = .returned (.bool true) ∧ IsS55 w0 w' g ⟨delM s.m fr, s.n⟩ ∧ Below w0.heap.size w0 w' ∧ KeepBut w w' (g - 1) none := by
  obtain ⟨⟨p, q⟩, hr⟩ : ∃ r, (s.m fr).getD (0, 0) = r := ⟨_, rfl⟩
  have HC := Aside0.mk (of_calls w0 w g s fr hI hk p q true hr h0)
  have HI := Aside0.mk hI
  have HB := Aside0.mk hB
  have HK := Aside0.mk hk
  clear hI hB h0 hk hr
  go_enter Try.func17, Try.ntmps17
  go_wp2_with (first
    | (go_at_call 26; refine HC.out.mono ?_; rintro e w1 ⟨rfl, hb⟩; have hc := IsS55.cell (HI.out.below hb); have hlt := IsS55.lt (HI.out.below hb); obtain ⟨_, D, hD, hA⟩ := HI.out.below hb; have HD := Aside0.mk hD; have HA := Aside0.mk hA; have HB1 := Aside0.mk hb; clear hD hA hb)
    | (at_delete; refine wpList_delete_own _ rfl _ _ 53 28 rfl 60 law28 Try.underlying53 rowElem (g - 1) s.n D rfl (HD.out.alloc _) _ _ rfl (keyOf_int_mk Try.underlying28 HK.out) ?_; intro w2 hown2 hturn2; have HO := Aside0.mk hown2; have HT := Aside0.mk hturn2; clear hown2 hturn2))
  go_ret
  exact ⟨rfl, ((HI.out.below HB1.out).alloc _).turned HT.out HO.out (agree_del HA.out fr), turned_below (below_alloc (below_step HB.out HB1.out) _) HT.out (IsS55.mge HI.out), turned_keep (below_alloc HB1.out _) HT.out⟩

set_option maxHeartbeats 2000000 in
theorem left_any (w0 w : World) (g : Nat) (s : LM) (fr : Int) (hI : IsS55 w0 w g s) (hB : Below w0.heap.size w0 w) (hk : (Lit.int .u32 fr).wf = true) (p q : Int) (hr : (s.m fr).getD (0, 0) = (p, q)) :
    Calls Try.prog 21 #[.pointer (some ⟨g, 0, none⟩), .int .u32 fr] w fun e w' => e = .returned (.int .i64 (wrap64 (q - p))) ∧ Below w.heap.size w w' := by
  obtain ⟨is, his⟩ : ∃ is, (s.m fr).isSome = is := ⟨_, rfl⟩
  have HC := Aside0.mk (of_calls w0 w g s fr hI hk p q is hr his)
  clear hI hB hk hr
  go_enter Try.func21, Try.ntmps21
  go_wp2_with (go_at_call 26; refine HC.out.mono ?_; rintro e w1 ⟨rfl, hb⟩)
  go_ret
  exact ⟨rfl, below_alloc hb _⟩

set_option maxHeartbeats 2000000 in
theorem next_no (w0 w : World) (g : Nat) (s : LM) (fr : Int) (hI : IsS55 w0 w g s) (hB : Below w0.heap.size w0 w) (hk : (Lit.int .u32 fr).wf = true) (p q : Int) (is : Bool) (hr : (s.m fr).getD (0, 0) = (p, q)) (hi : (s.m fr).isSome = is) (h : is = false ∨ q ≤ p) :
    Calls Try.prog 19 #[.pointer (some ⟨g, 0, none⟩), .int .u32 fr] w fun e w' => e = .returned (.tuple #[.int .i64 0, .bool false]) ∧ IsS55 w0 w' g s ∧ Below w0.heap.size w0 w' ∧ KeepBut w w' (g - 1) none := by
  have HC := Aside0.mk (of_calls w0 w g s fr hI hk p q is hr hi)
  have HI := Aside0.mk hI
  have HB := Aside0.mk hB
  clear hI hB hk hr hi
  by_cases c1 : is = false
  · subst c1
    clear h
    go_enter Try.func19, Try.ntmps19
    go_wp2_with (go_at_call 26; refine HC.out.mono ?_; rintro e w1 ⟨rfl, hb⟩)
    go_ret2
    exact ⟨rfl, (HI.out.below hb).alloc _, below_alloc (below_step HB.out hb) _, KeepBut.of_below (below_alloc hb _) _ _⟩
  · obtain rfl : is = true := by simpa using c1
    have c2 : q ≤ p := by rcases h with h | h <;> first | exact h | cases h
    have c2b : decide (q ≤ p) = true := decide_eq_true c2
    clear h c1 c2
    go_enter Try.func19, Try.ntmps19
    go_wp2_with (go_at_call 26; refine HC.out.mono ?_; rintro e w1 ⟨rfl, hb⟩)
    go_ret2
    exact ⟨rfl, (HI.out.below hb).alloc _, below_alloc (below_step HB.out hb) _, KeepBut.of_below (below_alloc hb _) _ _⟩

set_option maxHeartbeats 2000000 in
theorem next_yes (w0 w : World) (g : Nat) (s : LM) (fr : Int) (hI : IsS55 w0 w g s) (hB : Below w0.heap.size w0 w) (hk : (Lit.int .u32 fr).wf = true) (p q : Int) (h0 : s.m fr = some (p, q)) (h : p < q) (h1 : 0 ≤ p) (h2 : p < 1000000) (hn : s.n < 1000000) :
    Calls Try.prog 19 #[.pointer (some ⟨g, 0, none⟩), .int .u32 fr] w fun e w' => e = .returned (.tuple #[.int .i64 p, .bool true]) ∧ IsS55 w0 w' g ⟨putM s.m fr (p + 1, q), s.n + 1⟩ ∧ Below w0.heap.size w0 w' ∧ KeepBut w w' (g - 1) none := by
  have HC := Aside0.mk (of_calls w0 w g s fr hI hk p q true (by rw [h0]; rfl) (by rw [h0]; rfl))
  have HI := Aside0.mk hI
  have HB := Aside0.mk hB
  have HK := Aside0.mk hk
  have HN := Aside0.mk hn
  have c2b : decide (q ≤ p) = false := decide_eq_false (by omega)
  clear hI hB hk hn h0 h
  go_enter Try.func19, Try.ntmps19
  go_wp2_with (go_at_call 26; refine HC.out.mono ?_; rintro e w1 ⟨rfl, hb⟩; have hc := IsS55.cell (HI.out.below hb); have hlt := IsS55.lt (HI.out.below hb); obtain ⟨_, D, hD, hA⟩ := HI.out.below hb; have HD := Aside0.mk hD; have HA := Aside0.mk hA; have HB1 := Aside0.mk hb; clear hD hA hb)
  have e0 : (w1.alloc (.cells #[.int .i64 p, .int .i64 q] 60)).cell? ⟨g, 0, none⟩ = some (.map (some (g - 1))) := by
    rw [World.cell?_alloc_lt _ _ _ hlt]; exact hc
  have e1 : (w1.alloc (.cells #[.int .i64 p, .int .i64 q] 60)).cell? ⟨w1.heap.size, 0, none⟩ = some (.int .i64 p) := by go_simp
  have e2 : (w1.alloc (.cells #[.int .i64 p, .int .i64 q] 60)).cell? ⟨w1.heap.size, 1, none⟩ = some (.int .i64 q) := by go_simp
  have HBL := Aside0.mk (heap_alloc_new w1 (.cells #[.int .i64 p, .int .i64 q] 60))
  have HD2 := Aside0.mk (HD.out.alloc (.cells #[.int .i64 p, .int .i64 q] 60))
  have HB2 := Aside0.mk (below_alloc HB1.out (.cells #[.int .i64 p, .int .i64 q] 60))
  have HI2 := Aside0.mk ((HI.out.below HB1.out).alloc (.cells #[.int .i64 p, .int .i64 q] 60))
  have HB3 := Aside0.mk (below_alloc (below_step HB.out HB1.out) (.cells #[.int .i64 p, .int .i64 q] 60))
  clear hc HD HB1
  generalize w1.heap.size = b2 at *
  generalize w1.alloc (.cells #[.int .i64 p, .int .i64 q] 60) = W at *
  obtain ⟨w2, hrun, hown2, hturn2⟩ := (World.ownsMap.drew HD2.out).store law28 Try.underlying53 (by have := HN.out; unfold maxLen; omega) (keyOf_int_mk Try.underlying28 HK.out) (rowElem_mk (p + 1) q)
  have HO := Aside0.mk hown2
  have HT := Aside0.mk hturn2
  clear hown2 hturn2
  have hb2 := blk_grown (blk_drew HBL.out) HT.out.grown (by simp; omega)
  have e3 := (blk_cell hb2 0).trans rfl
  go_region
  all_goals
    go_wp2
    go_ret2
    exact ⟨rfl, (IsS55.drew HI2.out).turned HT.out HO.out (agree_put HA.out fr (p + 1, q)), turned_below (below_drew1 HB3.out) HT.out (IsS55.mge HI2.out), turned_keep (below_drew1 HB2.out) HT.out⟩


/-! ### what the functions tell, as functions on rows -/
def ledger_New.f : Option LM := some ⟨fun _ => none, 0⟩
def ledger_Open.f (s : LM) (fr k : Int) : Option (Bool × LM) :=
  if (Lit.int .u32 fr).wf = true then (if (s.m fr).isSome = true then some (false, s) else if k < 1 then some (false, s) else if 32 < k then some (false, s) else if s.n < 1000000 then some (true, ⟨putM s.m fr (k, k + 64), s.n + 1⟩) else none) else none
def ledger_Next.f (s : LM) (fr : Int) : Option (Int × Bool × LM) :=
  if (Lit.int .u32 fr).wf = true then (match s.m fr with
    | none => some (0, false, s)
    | some r => if r.2 ≤ r.1 then some (0, false, s) else if 0 ≤ r.1 then (if r.1 < 1000000 then (if s.n < 1000000 then some (r.1, true, ⟨putM s.m fr (r.1 + 1, r.2), s.n + 1⟩) else none) else none) else none) else none
def ledger_Left.f (s : LM) (fr : Int) : Option (Int × LM) :=
  if (Lit.int .u32 fr).wf = true then some (wrap64 (((s.m fr).getD (0, 0)).2 - ((s.m fr).getD (0, 0)).1), s) else none
def ledger_Close.f (s : LM) (fr : Int) : Option (Bool × LM) :=
  if (Lit.int .u32 fr).wf = true then (if (s.m fr).isSome = true then some (true, ⟨delM s.m fr, s.n⟩) else some (false, s)) else none

theorem ledger_New.calls (r1 : LM) (w0 w : World) (hB : Below w0.heap.size w0 w) (h : ledger_New.f = some r1) :
    Calls Try.prog 13 #[] w fun e w' => ∃ g_ : Nat, e = .returned (.pointer (some ⟨g_, 0, none⟩)) ∧ IsS55 w0 w' g_ r1 ∧ Below w0.heap.size w0 w' ∧ Below w.heap.size w w' := by
  unfold ledger_New.f at h
  obtain rfl := Option.some.inj h
  exact new_calls w0 w hB

theorem ledger_Open.calls (g : Nat) (s : LM) (fr k : Int) (r1 : Bool) (r2 : LM) (w0 w : World) (hI : IsS55 w0 w g s) (hB : Below w0.heap.size w0 w) (h : ledger_Open.f s fr k = some (r1, r2)) :
    Calls Try.prog 15 #[.pointer (some ⟨g, 0, none⟩), .int .u32 fr, .int .i64 k] w fun e w' => e = .returned (.bool r1) ∧ IsS55 w0 w' g r2 ∧ Below w0.heap.size w0 w' ∧ KeepBut w w' (g - 1) none := by
  unfold ledger_Open.f at h
  split at h
  · rename_i hk
    split at h
    · rename_i h1
      simp only [Option.some.injEq, Prod.mk.injEq] at h
      obtain ⟨rfl, rfl⟩ := h
      exact open_no w0 w g s fr k hI hB hk (.inl h1)
    · rename_i h1
      split at h
      · rename_i h2
        simp only [Option.some.injEq, Prod.mk.injEq] at h
        obtain ⟨rfl, rfl⟩ := h
        exact open_no w0 w g s fr k hI hB hk (.inr (.inl h2))
      · rename_i h2
        split at h
        · rename_i h3
          simp only [Option.some.injEq, Prod.mk.injEq] at h
          obtain ⟨rfl, rfl⟩ := h
          exact open_no w0 w g s fr k hI hB hk (.inr (.inr h3))
        · rename_i h3
          split at h
          · rename_i h4
            simp only [Option.some.injEq, Prod.mk.injEq] at h
            obtain ⟨rfl, rfl⟩ := h
            exact open_yes w0 w g s fr k hI hB hk (by simpa using h1) (by omega) (by omega) h4
          · cases h
  · cases h

theorem ledger_Next.calls (g : Nat) (s : LM) (fr : Int) (r1 : Int) (r2 : Bool) (r3 : LM) (w0 w : World) (hI : IsS55 w0 w g s) (hB : Below w0.heap.size w0 w) (h : ledger_Next.f s fr = some (r1, r2, r3)) :
    Calls Try.prog 19 #[.pointer (some ⟨g, 0, none⟩), .int .u32 fr] w fun e w' => e = .returned (.tuple #[.int .i64 r1, .bool r2]) ∧ IsS55 w0 w' g r3 ∧ Below w0.heap.size w0 w' ∧ KeepBut w w' (g - 1) none := by
  unfold ledger_Next.f at h
  split at h
  · rename_i hk
    split at h
    · rename_i h1
      simp only [Option.some.injEq, Prod.mk.injEq] at h
      obtain ⟨rfl, rfl, rfl⟩ := h
      exact next_no w0 w g s fr hI hB hk 0 0 false (by rw [h1]; rfl) (by rw [h1]; rfl) (.inl rfl)
    · rename_i r h1
      obtain ⟨p, q⟩ := r
      simp only at h
      split at h
      · rename_i h2
        simp only [Option.some.injEq, Prod.mk.injEq] at h
        obtain ⟨rfl, rfl, rfl⟩ := h
        exact next_no w0 w g s fr hI hB hk p q true (by rw [h1]; rfl) (by rw [h1]; rfl) (.inr h2)
      · rename_i h2
        split at h
        · rename_i h3
          split at h
          · rename_i h4
            split at h
            · rename_i h5
              simp only [Option.some.injEq, Prod.mk.injEq] at h
              obtain ⟨rfl, rfl, rfl⟩ := h
              exact next_yes w0 w g s fr hI hB hk p q h1 (by omega) h3 h4 h5
            · cases h
          · cases h
        · cases h
  · cases h

theorem ledger_Left.calls (g : Nat) (s : LM) (fr : Int) (r1 : Int) (r2 : LM) (w0 w : World) (hI : IsS55 w0 w g s) (hB : Below w0.heap.size w0 w) (h : ledger_Left.f s fr = some (r1, r2)) :
    Calls Try.prog 21 #[.pointer (some ⟨g, 0, none⟩), .int .u32 fr] w fun e w' => e = .returned (.int .i64 r1) ∧ IsS55 w0 w' g r2 ∧ Below w0.heap.size w0 w' ∧ KeepBut w w' (g - 1) none := by
  unfold ledger_Left.f at h
  split at h
  · rename_i hk
    simp only [Option.some.injEq, Prod.mk.injEq] at h
    obtain ⟨rfl, rfl⟩ := h
    refine (left_any w0 w g s fr hI hB hk ((s.m fr).getD (0, 0)).1 ((s.m fr).getD (0, 0)).2 rfl).mono fun e w' ⟨he, hb⟩ => ?_
    exact ⟨he, hI.below hb, below_step hB hb, KeepBut.of_below hb _ _⟩
  · cases h

theorem ledger_Close.calls (g : Nat) (s : LM) (fr : Int) (r1 : Bool) (r2 : LM) (w0 w : World) (hI : IsS55 w0 w g s) (hB : Below w0.heap.size w0 w) (h : ledger_Close.f s fr = some (r1, r2)) :
    Calls Try.prog 17 #[.pointer (some ⟨g, 0, none⟩), .int .u32 fr] w fun e w' => e = .returned (.bool r1) ∧ IsS55 w0 w' g r2 ∧ Below w0.heap.size w0 w' ∧ KeepBut w w' (g - 1) none := by
  unfold ledger_Close.f at h
  split at h
  · rename_i hk
    split at h
    · rename_i h1
      simp only [Option.some.injEq, Prod.mk.injEq] at h
      obtain ⟨rfl, rfl⟩ := h
      exact close_yes w0 w g s fr hI hB hk h1
    · rename_i h1
      simp only [Option.some.injEq, Prod.mk.injEq] at h
      obtain ⟨rfl, rfl⟩ := h
      exact close_no w0 w g s fr hI hB hk (by simpa using h1)
  · cases h

end Go.Proofs.Ytcehifhfgpodoaa.Ledger
