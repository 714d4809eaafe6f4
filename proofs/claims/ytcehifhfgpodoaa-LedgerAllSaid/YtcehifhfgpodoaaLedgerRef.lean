/- What the reference's ledger does: contracts of NewLedger, Open, Next, Left and Close over two maps that are told as functions. No condition but that fewer than a million symbols and openings have been told of. -/
import Derived.Test.YtcehifhfgpodoaaLedgerBase
import Derived.WideKeyEntry
namespace Go.Proofs.Ytcehifhfgpodoaa.Ledger
open Go.RowKit Go.Maps Go.Proofs.YtcehifhfgpodoaaW.PrintWords Go.Proofs.YtcehifhfgpodoaaW.PrintLast Go.Proofs.YtcehifhfgpodoaaW.PrintMore
open Go.ChangeShapes Go.WideShapes Go.ChangeMaps
set_option linter.unusedVariables false
set_option linter.unusedSimpArgs false

theorem born_idx (l : List MapEntry) (hn : (l.map (·.born)).Nodup) (j : Nat) (e0 : MapEntry) (h : l[j]? = some e0) : l.findIdx? (fun e => (e.born : Int) == (e0.born : Int)) = some j := Go.WideElems.findIdx_born hn h

theorem set_twice (w : World) (b : Nat) (x y : Obj) : setBlock (setBlock w b x) b y = setBlock w b y := by simp [setBlock]
/-- an entry is looked for (or made), then stored: the map as if it had been written at once -/
theorem entry_own {P : Program} {w : World} {t k e : TypeId} {R : Value → Option (DataW Unit × List MemPlace)} {b n : Nat} {D : DataW Unit} (K : Keyed P k) (ht : P.underlying t = some (.map k e)) {z : Value} (hz : ∀ u : World, (zeroValue e).run P u = .ok z u)
    (h : w.ownsMap P k R b n D) (hn : n < maxLen) {key val : Value} {kl : Lit} {d : DataW Unit} {ps : List MemPlace} (hkey : keyOf P k key = some kl) (hv : R val = some (d, ps)) :
    ∃ (v0 : Value) (st : Int) (w1 w2 : World), (Instr.mapEntry t (.map (some b)) key).run P w = .ok (.tuple #[v0, .int .i64 st]) w1 ∧ (Instr.entryStore t (.map (some b)) (.int .i64 st) val).run P w1 = .ok () w2 ∧
      w2.ownsMap P k R b (n + 1) (D.put kl d) ∧ w.mapTurned w2 b ∧ w.mapTurned w1 b := by
  obtain ⟨w2, hrun, hown, hturn⟩ := h.store K ht hn hkey hv
  obtain ⟨es, clock, hb, F, _, _⟩ := h
  obtain ⟨s1, s2, _⟩ := F.stamped
  rcases K.find w hkey es.toList F.keys with ⟨h1, h2⟩ | ⟨j, e0, h1, h2, h3⟩
  · have hw2 : w2 = setBlock w b (.map (es.push ⟨key, val, clock⟩) (clock + 1)) := by
      have hu : (Instr.mapUpdate t (.map (some b)) key val).run P w = .ok () (setBlock w b (.map (es.push ⟨key, val, clock⟩) (clock + 1))) := by
        simp [Instr.mapUpdate, run_underlying ht, Go.MapKept.run_getObj_map hb, K.check w false hkey, h1, Go.MapKept.run_setObj_map _ hb, Result.andThen, setBlock]
      rw [hu] at hrun
      injection hrun with _ hrun
      exact hrun.symm
    have hb1 : (setBlock w b (.map (es.push ⟨key, z, clock⟩) (clock + 1))).heap[b]? = some (.map (es.push ⟨key, z, clock⟩) (clock + 1)) := heap_setBlock_same hb _
    refine ⟨z, clock, setBlock w b (.map (es.push ⟨key, z, clock⟩) (clock + 1)), w2, ?_, ?_, hown, hturn, ⟨es, clock, _, _, hb, rfl⟩⟩
    · simp [Instr.mapEntry, run_underlying ht, Go.MapKept.run_getObj_map hb, K.check w false hkey, h1, hz, Go.MapKept.run_setObj_map _ hb, Result.andThen, setBlock, goInt]
    · have hidx : (es.push ⟨key, z, clock⟩).findIdx? (fun e => (e.born : Int) == ((clock : Nat) : Int)) = some es.size := by
        rw [Go.WideElems.findIdx_arr]
        refine born_idx (es.push ⟨key, z, clock⟩).toList ?_ es.size ⟨key, z, clock⟩ (by simp)
        simp only [Array.toList_push, List.map_append, List.map_cons, List.map_nil]
        refine List.nodup_append.2 ⟨s2, by simp, fun a ha c hc e1 => ?_⟩
        simp only [List.mem_singleton] at hc
        obtain ⟨x, hx, rfl⟩ := List.mem_map.1 ha
        have := s1 x hx
        omega
      have hmod : (es.push ⟨key, z, clock⟩).modify es.size (fun e => { e with val := val }) = es.push ⟨key, val, clock⟩ := by
        apply Array.ext'
        rw [Array.toList_modify, Array.toList_push, Array.toList_push, ← Array.length_toList, Go.WideElems.modify_last]
      rw [hw2, ← set_twice w b (.map (es.push ⟨key, z, clock⟩) (clock + 1)) (.map (es.push ⟨key, val, clock⟩) (clock + 1))]
      generalize setBlock w b (.map (es.push ⟨key, z, clock⟩) (clock + 1)) = u at *
      simp [Instr.entryStore, Go.MapKept.run_getObj_map hb1, asInt, asIntOf, hidx, hmod, Go.MapKept.run_setObj_map _ hb1, Result.andThen, setBlock]
  · have hj : es[j]? = some e0 := by simpa using h2
    have hsame : es.modify j (fun e => { e with key := key }) = es := by
      apply Array.ext'
      rw [Array.toList_modify, modify_eq_set _ _ _ _ h2, show ({ e0 with key := key } : MapEntry) = e0 by rw [← h3]]
      exact Go.WideElems.set_self _ _ _ h2
    have hw2 : w2 = setBlock w b (.map (es.modify j (fun e' => { e' with key := key, val := val })) clock) := by
      have hu : (Instr.mapUpdate t (.map (some b)) key val).run P w = .ok () (setBlock w b (.map (es.modify j (fun e' => { e' with key := key, val := val })) clock)) := by
        simp [Instr.mapUpdate, run_underlying ht, Go.MapKept.run_getObj_map hb, K.check w false hkey, h1, hj, h3, K.stays w hkey, Go.MapKept.run_setObj_map _ hb, Result.andThen, setBlock]
      rw [hu] at hrun
      injection hrun with _ hrun
      exact hrun.symm
    have hb1 : (setBlock w b (.map es clock)).heap[b]? = some (.map es clock) := heap_setBlock_same hb _
    refine ⟨e0.val, e0.born, setBlock w b (.map es clock), w2, ?_, ?_, hown, hturn, ⟨es, clock, _, _, hb, rfl⟩⟩
    · simp [Instr.mapEntry, run_underlying ht, Go.MapKept.run_getObj_map hb, K.check w false hkey, h1, hj, h3, K.stays w hkey, hsame, Go.MapKept.run_setObj_map _ hb, Result.andThen, setBlock, goInt]
    · have hidx : es.findIdx? (fun e => (e.born : Int) == ((e0.born : Nat) : Int)) = some j := by
        rw [Go.WideElems.findIdx_arr]
        exact born_idx es.toList s2 j e0 h2
      have hmod : es.modify j (fun e => { e with val := val }) = es.modify j (fun e' => { e' with key := key, val := val }) := by
        apply Array.ext'
        rw [Array.toList_modify, Array.toList_modify, modify_eq_set _ _ _ _ h2, modify_eq_set _ _ _ _ h2, ← h3]
      rw [hw2, ← set_twice w b (.map es clock) (.map (es.modify j (fun e' => { e' with key := key, val := val })) clock)]
      generalize setBlock w b (.map es clock) = u at *
      simp [Instr.entryStore, Go.MapKept.run_getObj_map hb1, asInt, asIntOf, hidx, hmod, Go.MapKept.run_setObj_map _ hb1, Result.andThen, setBlock]


theorem wi64 {n : Int} (h : -9223372036854775808 ≤ n) (h2 : n < 9223372036854775808) : IntKind.i64.wrap n = n := by
  simp only [IntKind.wrap, IntKind.bits, IntKind.signed]; simp; split <;> omega
/-- what is kept of each frame, and of how many symbols; how often something was laid -/
structure RM where
  K : Int → Int
  N : Int → Int
  n : Nat

def numD (v : Int) : DataW Unit := .lit (.int .i64 v)
/-- a datum that reads as those numbers -/
def Nums (D : DataW Unit) (f : Int → Int) : Prop := IsMap D ∧ ∀ k, (Lit.int .u32 k).wf = true → D.atKey (.int .u32 k) (numD 0) = numD (f k)
def putN (f : Int → Int) (k v : Int) : Int → Int := fun j => if j = k then v else f j
theorem nums_empty : Nums (.map []) (fun _ => 0) := ⟨isMap_empty, fun k _ => rfl⟩
theorem nums_put {D : DataW Unit} {f : Int → Int} (h : Nums D f) (k v : Int) : Nums (D.put (.int .u32 k) (numD v)) (putN f k v) := by
  refine ⟨h.1.put _ _, fun j hj => ?_⟩
  unfold putN
  by_cases e : j = k
  · subst e
    rw [if_pos rfl, atKey_put_same h.1 (isKey _)]
  · rw [if_neg e, atKey_put_other (lit_ne e)]
    exact h.2 j hj
theorem nums_del {D : DataW Unit} {f : Int → Int} (h : Nums D f) (k : Int) : Nums (D.del (.int .u32 k)) (putN f k 0) := by
  refine ⟨h.1.del _, fun j hj => ?_⟩
  unfold putN
  by_cases e : j = k
  · subst e
    rw [if_pos rfl, atKey_del_same]
  · rw [if_neg e, atKey_del_other (lit_ne e)]
    exact h.2 j hj

/-- the reference's ledger at block g of W -/
def IsS58 (w0 W : World) (g : Nat) (s : RM) : Prop :=
  (W.heap[g]? = some (.cells #[.map (some (g - 2)), .map (some (g - 1))] 58 (0, 0)) ∧ 2 ≤ g ∧ w0.heap.size ≤ g - 2) ∧ (∃ D, W.ownsMap Try.prog 28 (plainElem Try.prog 3) (g - 2) s.n D ∧ Nums D s.K) ∧ ∃ D, W.ownsMap Try.prog 28 (plainElem Try.prog 3) (g - 1) s.n D ∧ Nums D s.N

theorem IsS58.grown {w0 W W1 : World} {g : Nat} {s : RM} {row : Option Nat} (h : IsS58 w0 W g s) (hw : W.grownBy W1 row) (h1 : some g ≠ row) (h2 : some (g - 1) ≠ row) (h3 : some (g - 2) ≠ row) : IsS58 w0 W1 g s := by
  obtain ⟨⟨hb, hg, hs⟩, ⟨D, hD, hA⟩, E, hE, hF⟩ := h
  exact ⟨⟨blk_grown hb hw h1, hg, hs⟩, ⟨D, hD.kept hw h3, hA⟩, E, hE.kept hw h2, hF⟩
theorem IsS58.below {w0 W W1 : World} {g : Nat} {s : RM} (h : IsS58 w0 W g s) (hw : Below W.heap.size W W1) : IsS58 w0 W1 g s := h.grown (grown_of_below hw none) (by simp) (by simp) (by simp)
theorem IsS58.alloc {w0 W : World} {g : Nat} {s : RM} (h : IsS58 w0 W g s) (o : Obj) : IsS58 w0 (W.alloc o) g s := h.below (below_alloc (Below.refl _ _) o)
theorem IsS58.drewN {w0 W : World} {g : Nat} {s : RM} (h : IsS58 w0 W g s) (m : Nat) : IsS58 w0 (W.drewN m) g s := h
theorem IsS58.drew {w0 W : World} {g : Nat} {s : RM} (h : IsS58 w0 W g s) : IsS58 w0 W.drew g s := h
theorem IsS58.at_ {w0 W : World} {g : Nat} {s : RM} {w' : World} {m : Nat} (hq : W.drewN m = w') (h : IsS58 w0 W g s) : IsS58 w0 w' g s := by subst hq; exact IsS58.drewN h m
theorem IsS58.lt {w0 W : World} {g : Nat} {s : RM} (h : IsS58 w0 W g s) : g < W.heap.size := blk_lt h.1.1
theorem IsS58.ge {w0 W : World} {g : Nat} {s : RM} (h : IsS58 w0 W g s) : w0.heap.size ≤ g := by have := h.1.2.2; omega
theorem IsS58.mge {w0 W : World} {g : Nat} {s : RM} (h : IsS58 w0 W g s) : w0.heap.size ≤ g - 2 := h.1.2.2
theorem IsS58.two {w0 W : World} {g : Nat} {s : RM} (h : IsS58 w0 W g s) : 2 ≤ g := h.1.2.1
theorem IsS58.cell0 {w0 w : World} {g : Nat} {s : RM} (h : IsS58 w0 w g s) : w.cell? ⟨g, 0, none⟩ = some (.map (some (g - 2))) := (blk_cell h.1.1 0).trans rfl
theorem IsS58.cell1 {w0 w : World} {g : Nat} {s : RM} (h : IsS58 w0 w g s) : w.cell? ⟨g, 1, none⟩ = some (.map (some (g - 1))) := (blk_cell h.1.1 1).trans rfl
theorem IsS58.ne_blk {w0 W : World} {g : Nat} {s : RM} {a : Nat} {cs : Array Value} {t : TypeId} {fr : Nat × Nat} (h : IsS58 w0 W g s) (hb2 : W.heap[a]? = some (.cells cs t fr)) (ht : t ≠ 58) : g ≠ a := by
  rintro rfl
  have hb := h.1.1
  rw [hb] at hb2
  injection hb2 with hb2
  injection hb2 with _ ht2
  exact ht ht2.symm
theorem IsS58.far {w0 W : World} {g : Nat} {s : RM} {p : Addr} (h : IsS58 w0 W g s) (hne : g ≠ p.block) (u : Value) : IsS58 w0 (W.setCell p u) g s := by
  obtain ⟨⟨hb, hg, hs⟩, ⟨D, hD, hA⟩, E, hE, hF⟩ := h
  exact ⟨⟨blk_far hb hne u, hg, hs⟩, ⟨D, owns_set hD p u, hA⟩, E, owns_set hE p u, hF⟩

set_option maxHeartbeats 1000000 in
theorem rnew_calls (w0 w : World) (hB : Below w0.heap.size w0 w) :
    Calls Try.prog 14 #[] w fun e w' => ∃ g_ : Nat, e = .returned (.pointer (some ⟨g_, 0, none⟩)) ∧ IsS58 w0 w' g_ ⟨fun _ => 0, fun _ => 0, 0⟩ ∧ Below w0.heap.size w0 w' ∧ Below w.heap.size w w' ∧ w.heap.size + 2 = g_ := by
  have hs := hB.size
  have hmm := @run_makeMap Try.prog
  go_enter Try.func14, Try.ntmps14
  go_wp2
  go_ret
  refine ⟨w.heap.size + 2, rfl, ⟨⟨?_, by omega, by simp; omega⟩, ⟨.map [], ?_, nums_empty⟩, .map [], ?_, nums_empty⟩, below_alloc (below_alloc (below_alloc hB _) _) _, below_alloc (below_alloc (below_alloc (Below.refl _ _) _) _) _, rfl⟩
  · have h := heap_alloc_new ((w.alloc (.map #[] 0)).alloc (.map #[] 0)) (.cells #[.map (some w.heap.size), .map (some (w.heap.size + 1))] 58)
    simpa using h
  · simpa using ((World.ownsMap_made w Try.prog 28 (plainElem (H := Unit) Try.prog 3)).alloc (.map #[] 0)).alloc (.cells #[.map (some w.heap.size), .map (some (w.heap.size + 1))] 58)
  · simpa using (World.ownsMap_made (w.alloc (.map #[] 0)) Try.prog 28 (plainElem (H := Unit) Try.prog 3)).alloc (.cells #[.map (some w.heap.size), .map (some (w.heap.size + 1))] 58)


theorem num_inv {v : Value} {a : Int} {ps : List MemPlace} (h : plainElem (H := Unit) Try.prog 3 v = some (numD a, ps)) : v = .int .i64 a := by
  obtain ⟨c, rfl, hc, _⟩ := plainElem_int_inv Try.underlying3 h
  simp only [Prod.mk.injEq, numD, DataW.lit.injEq, Lit.int.injEq, true_and] at hc
  rw [hc.1]
/-- 'm[k]' -/
theorem run_num (w : World) (b n : Nat) (D : DataW Unit) (f : Int → Int) (hown : w.ownsMap Try.prog 28 (plainElem Try.prog 3) b n D) (hA : Nums D f) (k : Int) (hk : (Lit.int .u32 k).wf = true) (v : Int) (hv : f k = v) :
    (Instr.lookup 56 (.map (some b)) (.int .u32 k) false).run Try.prog w = .ok (.int .i64 v) w := by
  obtain ⟨c, hrun, hat, _⟩ := hown.lookup_int law28 Try.underlying56 Try.underlying3 (zero3 _) (keyOf_int_mk Try.underlying28 hk)
  have h := hA.2 k hk
  unfold numD at h
  rw [hat, hv] at h
  simp only [DataW.lit.injEq, Lit.int.injEq, true_and] at h
  rw [hrun, h]
theorem lookup_num (w : World) {ops : Array Oper} {rest : List Oper} {o : Oper} {a : Act} {Q : Exit → Act → World → Prop}
    (hg : o.guard = none) (m x : Operand) (hop : o.op = Op.lookup 56 m x false) (b n : Nat) (D : DataW Unit) (f : Int → Int)
    (hm : a.eval m = .map (some b)) (hown : w.ownsMap Try.prog 28 (plainElem Try.prog 3) b n D) (hA : Nums D f) (k : Int) (hx : a.eval x = .int .u32 k) (hk : (Lit.int .u32 k).wf = true)
    (v : Int) (hv : f k = v) (hK : wpList Try.prog ops Q rest (a.put o.dst (.int .i64 v)) w) :
    wpList Try.prog ops Q (o :: rest) a w := by
  refine wpList_plain hg fun K' hK' => ?_
  have hrun := run_num w b n D f hown hA k hk v hv
  unfold Oper.wp
  simp [execOp, hop, hm, hx, hrun, Result.andThen]
  exact hK' _ _ hK

set_option maxHeartbeats 2000000 in
theorem rleft_any (w0 w : World) (g : Nat) (s : RM) (fr : Int) (hI : IsS58 w0 w g s) (hk : (Lit.int .u32 fr).wf = true) (p q : Int) (hp : s.K fr = p) (hq : s.N fr = q) :
    Calls Try.prog 22 #[.pointer (some ⟨g, 0, none⟩), .int .u32 fr] w fun e w' => e = .returned (.int .i64 (if p = 0 then 0 else wrap64 (64 - q))) ∧ w = w' := by
  have e0 := hI.cell0
  have e1 := hI.cell1
  obtain ⟨_, ⟨D, hD, hA⟩, E, hE, hF⟩ := hI
  have HD := Aside0.mk hD
  have HA := Aside0.mk hA
  have HE := Aside0.mk hE
  have HF := Aside0.mk hF
  have HK := Aside0.mk hk
  have HP := Aside0.mk hp
  have HQ := Aside0.mk hq
  clear hD hA hE hF hk hp hq
  by_cases c : p = 0
  · rw [if_pos c]
    have cb : (p == 0) = true := beq_iff_eq.mpr c
    clear c
    go_enter Try.func22, Try.ntmps22
    go_wp2_with (at_lookup; refine lookup_num _ rfl _ _ rfl (g - 2) s.n D s.K rfl HD.out HA.out fr rfl HK.out p HP.out ?_)
    go_ret
    exact ⟨rfl, rfl⟩
  · rw [if_neg c]
    have cb : (p == 0) = false := beq_eq_false_iff_ne.mpr c
    clear c
    go_enter Try.func22, Try.ntmps22
    go_wp2_with (first | (at_lookup; refine lookup_num _ rfl _ _ rfl (g - 2) s.n D s.K rfl HD.out HA.out fr rfl HK.out p HP.out ?_) | (at_lookup; refine lookup_num _ rfl _ _ rfl (g - 1) s.n E s.N rfl HE.out HF.out fr rfl HK.out q HQ.out ?_))
    go_ret
    exact ⟨rfl, rfl⟩

/-- what a call on a reference's ledger leaves -/
def Keep2 (w w' : World) (g : Nat) : Prop := w.heap.size ≤ w'.heap.size ∧ ∀ i, i < w.heap.size → i ≠ g - 1 → i ≠ g - 2 → w'.heap[i]? = w.heap[i]?
theorem Keep2.refl (w : World) (g : Nat) : Keep2 w w g := ⟨Nat.le_refl _, fun _ _ _ _ => rfl⟩
theorem Keep2.turned {w w1 w2 : World} {g b : Nat} (h : Keep2 w w1 g) (ht : w1.mapTurned w2 b) (hb : b = g - 1 ∨ b = g - 2) : Keep2 w w2 g := by
  have hg := ht.grown
  refine ⟨Nat.le_trans h.1 hg.size, fun i hi h1 h2 => ?_⟩
  rw [hg.block i (Nat.lt_of_lt_of_le hi h.1) (by rcases hb with rfl | rfl <;> simpa)]
  exact h.2 i hi h1 h2
theorem IsS58.turnedK {w0 w1 w2 : World} {g : Nat} {s : RM} {f : Int → Int} {n : Nat} {D : DataW Unit} (h : IsS58 w0 w1 g s) (ht : w1.mapTurned w2 (g - 2)) (hn : s.n ≤ n) (hD : w2.ownsMap Try.prog 28 (plainElem Try.prog 3) (g - 2) n D) (hA : Nums D f) : IsS58 w0 w2 g ⟨f, s.N, n⟩ := by
  obtain ⟨⟨hb, hg, hs⟩, _, E, hE, hF⟩ := h
  exact ⟨⟨blk_grown hb ht.grown (by simp; omega), hg, hs⟩, ⟨D, hD, hA⟩, E, (hE.kept ht.grown (by simp; omega)).mono hn, hF⟩
theorem IsS58.turnedN {w0 w1 w2 : World} {g : Nat} {s : RM} {f : Int → Int} {n : Nat} {E : DataW Unit} (h : IsS58 w0 w1 g s) (ht : w1.mapTurned w2 (g - 1)) (hn : s.n ≤ n) (hE : w2.ownsMap Try.prog 28 (plainElem Try.prog 3) (g - 1) n E) (hF : Nums E f) : IsS58 w0 w2 g ⟨s.K, f, n⟩ := by
  obtain ⟨⟨hb, hg, hs⟩, ⟨D, hD, hA⟩, _⟩ := h
  exact ⟨⟨blk_grown hb ht.grown (by simp; omega), hg, hs⟩, ⟨D, (hD.kept ht.grown (by simp; omega)).mono hn, hA⟩, E, hE, hF⟩

set_option maxHeartbeats 2000000 in
theorem rclose_any (w0 w : World) (g : Nat) (s : RM) (fr : Int) (hI : IsS58 w0 w g s) (hB : Below w0.heap.size w0 w) (hk : (Lit.int .u32 fr).wf = true) (p : Int) (hp : s.K fr = p) (is : Bool) (his : decide (0 < p) = is) :
    Calls Try.prog 18 #[.pointer (some ⟨g, 0, none⟩), .int .u32 fr] w fun e w' => e = .returned (.bool is) ∧ IsS58 w0 w' g ⟨putN s.K fr 0, s.N, s.n⟩ ∧ Below w0.heap.size w0 w' ∧ Keep2 w w' g := by
  have e0 := hI.cell0
  have e1 := hI.cell1
  have hm := hI.mge
  have HI := Aside0.mk hI
  have HB := Aside0.mk hB
  obtain ⟨_, ⟨D, hD, hA⟩, E, hE, hF⟩ := hI
  have HD := Aside0.mk hD
  have HA := Aside0.mk hA
  have HK := Aside0.mk hk
  have HP := Aside0.mk hp
  clear hD hA hE hF hk hp hB
  go_enter Try.func18, Try.ntmps18
  go_wp2_with (first
    | (at_lookup; refine lookup_num _ rfl _ _ rfl (g - 2) s.n D s.K rfl HD.out HA.out fr rfl HK.out p HP.out ?_)
    | (at_delete; refine wpList_delete_own _ rfl _ _ 56 28 rfl 3 law28 Try.underlying56 (plainElem Try.prog 3) (g - 2) s.n D rfl HD.out _ _ rfl (keyOf_int_mk Try.underlying28 HK.out) ?_; intro w2 hown2 hturn2; have HO := Aside0.mk hown2; have HT := Aside0.mk hturn2; clear hown2 hturn2))
  go_ret
  exact ⟨by rw [← his]; rfl, HI.out.turnedK HT.out (Nat.le_refl _) HO.out (nums_del HA.out fr), HB.out.grown HT.out.grown HB.out.size (fun j hj => by cases hj; exact hm), (Keep2.refl w g).turned HT.out (.inr rfl)⟩


set_option maxHeartbeats 2000000 in
theorem rnext_no (w0 w : World) (g : Nat) (s : RM) (fr : Int) (hI : IsS58 w0 w g s) (hB : Below w0.heap.size w0 w) (hk : (Lit.int .u32 fr).wf = true) (p q : Int) (hp : s.K fr = p) (hq : s.N fr = q) (h : p = 0 ∨ q = 64) :
    Calls Try.prog 20 #[.pointer (some ⟨g, 0, none⟩), .int .u32 fr] w fun e w' => e = .returned (.tuple #[.int .i64 0, .bool false]) ∧ IsS58 w0 w' g s ∧ Below w0.heap.size w0 w' ∧ Keep2 w w' g := by
  have HC := Aside0.mk (rleft_any w0 w g s fr hI hk p q hp hq)
  have HI := Aside0.mk hI
  have HB := Aside0.mk hB
  have e : (if p = 0 then 0 else wrap64 (64 - q)) = 0 := by
    split
    · rfl
    · rcases h with h | h
      · contradiction
      · subst h; unfold wrap64; omega
  rw [e] at HC
  clear hI hB hk hp hq h e
  go_enter Try.func20, Try.ntmps20
  go_wp2_with (go_at_call 22; refine HC.out.mono ?_; rintro e w1 ⟨rfl, rfl⟩)
  go_ret2
  exact ⟨rfl, HI.out, HB.out, Keep2.refl _ _⟩

set_option maxHeartbeats 4000000 in
theorem rnext_yes (w0 w : World) (g : Nat) (s : RM) (fr : Int) (hI : IsS58 w0 w g s) (hB : Below w0.heap.size w0 w) (hk : (Lit.int .u32 fr).wf = true) (p q : Int) (hp : s.K fr = p) (hq : s.N fr = q) (h1 : 1 ≤ p) (h2 : p ≤ 32) (h3 : 0 ≤ q) (h4 : q < 64) (hn : s.n < 1000000) :
    Calls Try.prog 20 #[.pointer (some ⟨g, 0, none⟩), .int .u32 fr] w fun e w' => e = .returned (.tuple #[.int .i64 (p + q), .bool true]) ∧ IsS58 w0 w' g ⟨s.K, putN s.N fr (q + 1), s.n + 1⟩ ∧ Below w0.heap.size w0 w' ∧ Keep2 w w' g := by
  have HC := Aside0.mk (rleft_any w0 w g s fr hI hk p q hp hq)
  have e : (if p = 0 then 0 else wrap64 (64 - q)) = 64 - q := by
    rw [if_neg (by omega)]; unfold wrap64; omega
  rw [e] at HC
  have cb : ((64 - q : Int) == 0) = false := beq_eq_false_iff_ne.mpr (by omega)
  have e0 := hI.cell0
  have e1 := hI.cell1
  have hm := hI.mge
  have h2g := hI.two
  have HI := Aside0.mk hI
  have HB := Aside0.mk hB
  obtain ⟨_, ⟨D, hD, hA⟩, E, hE, hF⟩ := hI
  have HD := Aside0.mk hD
  have HA := Aside0.mk hA
  have HE := Aside0.mk hE
  have HF := Aside0.mk hF
  have HK := Aside0.mk hk
  have HP := Aside0.mk hp
  have HQ := Aside0.mk hq
  have HN := Aside0.mk hn
  have HW : Aside0 ((Lit.int .i64 (q + 1)).wf = true) := ⟨WalkArith.wf_i64 (by omega)⟩
  clear hD hA hE hF hk hp hq hB hn e
  go_enter Try.func20, Try.ntmps20
  go_wp2_with (first
    | (go_at_call 22; refine HC.out.mono ?_; rintro e w1 ⟨rfl, rfl⟩)
    | (at_lookup; refine lookup_num _ rfl _ _ rfl (g - 1) s.n E s.N rfl HE.out HF.out fr rfl HK.out q HQ.out ?_)
    | (at_mapUpdate; refine wpList_mapUpdate_in _ rfl _ _ _ 56 rfl 28 3 law28 Try.underlying56 (plainElem Try.prog 3) (g - 1) s.n E rfl HE.out (by have := HN.out; unfold maxLen; omega) _ _ _ rfl rfl (keyOf_int_mk Try.underlying28 HK.out) (numD (q + 1)) [] (plainElem_int Try.underlying3 HW.out) ?_; intro w2 hown2 hturn2; have HO := Aside0.mk hown2; have HT := Aside0.mk hturn2; clear hown2 hturn2))
  have HI2 := Aside0.mk (HI.out.turnedN HT.out (Nat.le_succ _) HO.out (nums_put HF.out fr (q + 1)))
  have f0 := HI2.out.cell0
  have f1 := HI2.out.cell1
  have HB2 := Aside0.mk (HB.out.grown HT.out.grown HB.out.size (fun j hj => by cases hj; omega))
  have HKp := Aside0.mk ((Keep2.refl w g).turned HT.out (.inl rfl))
  obtain ⟨_, ⟨D2, hD2, hA2⟩, E2, hE2, hF2⟩ := HI2.out
  have r1 := run_num _ _ _ D2 _ (World.ownsMap.drew hD2) hA2 fr HK.out p HP.out
  have r2 := run_num _ _ _ E2 _ (World.ownsMap.drew hE2) hF2 fr HK.out (q + 1) (by show putN s.N fr (q + 1) fr = q + 1; unfold putN; rw [if_pos rfl])
  clear hD2 hA2 hE2 hF2
  have s1 : IntKind.i64.wrap (p + (q + 1)) = p + (q + 1) := wi64 (by omega) (by omega)
  have s2 : IntKind.i64.wrap (p + (q + 1) - 1) = p + q := by rw [show p + (q + 1) - 1 = p + q by omega]; exact wi64 (by omega) (by omega)
  go_region
  all_goals
    go_wp2
    go_ret2
    exact ⟨rfl, IsS58.drew HI2.out, below_drew1 HB2.out, HKp.out⟩


set_option maxHeartbeats 2000000 in
theorem ropen_no (w0 w : World) (g : Nat) (s : RM) (fr k : Int) (hI : IsS58 w0 w g s) (hB : Below w0.heap.size w0 w) (hk : (Lit.int .u32 fr).wf = true) (h : 0 < s.K fr ∨ k < 1 ∨ 32 < k) :
    Calls Try.prog 16 #[.pointer (some ⟨g, 0, none⟩), .int .u32 fr, .int .i64 k] w fun e w' => e = .returned (.bool false) ∧ IsS58 w0 w' g s ∧ Below w0.heap.size w0 w' ∧ Keep2 w w' g := by
  obtain ⟨p, hp⟩ : ∃ p, s.K fr = p := ⟨_, rfl⟩
  rw [hp] at h
  have e0 := hI.cell0
  have HI := Aside0.mk hI
  have HB := Aside0.mk hB
  obtain ⟨_, ⟨D, hD, hA⟩, _⟩ := hI
  have HD := Aside0.mk hD
  have HA := Aside0.mk hA
  have HK := Aside0.mk hk
  have HP := Aside0.mk hp
  clear hD hA hB hk hp
  by_cases c1 : 0 < p
  · have c1b : decide (0 < p) = true := decide_eq_true c1
    clear h c1
    go_enter Try.func16, Try.ntmps16
    go_wp2_with (at_lookup; refine lookup_num _ rfl _ _ rfl (g - 2) s.n D s.K rfl HD.out HA.out fr rfl HK.out p HP.out ?_)
    go_ret
    exact ⟨rfl, HI.out, HB.out, Keep2.refl _ _⟩
  · have c1b : decide (0 < p) = false := decide_eq_false c1
    by_cases c2 : k < 1
    · have c2b : decide (k < 1) = true := decide_eq_true c2
      clear h c1 c2
      go_enter Try.func16, Try.ntmps16
      go_wp2_with (at_lookup; refine lookup_num _ rfl _ _ rfl (g - 2) s.n D s.K rfl HD.out HA.out fr rfl HK.out p HP.out ?_)
      go_ret
      exact ⟨rfl, HI.out, HB.out, Keep2.refl _ _⟩
    · have c2b : decide (k < 1) = false := decide_eq_false c2
      have c3 : 32 < k := by omega
      have c3b : decide (32 < k) = true := decide_eq_true c3
      clear h c1 c2 c3
      go_enter Try.func16, Try.ntmps16
      go_wp2_with (at_lookup; refine lookup_num _ rfl _ _ rfl (g - 2) s.n D s.K rfl HD.out HA.out fr rfl HK.out p HP.out ?_)
      go_ret
      exact ⟨rfl, HI.out, HB.out, Keep2.refl _ _⟩

set_option maxHeartbeats 4000000 in
theorem ropen_yes (w0 w : World) (g : Nat) (s : RM) (fr k : Int) (hI : IsS58 w0 w g s) (hB : Below w0.heap.size w0 w) (hk : (Lit.int .u32 fr).wf = true) (h0 : ¬ 0 < s.K fr) (h1 : 1 ≤ k) (h2 : k ≤ 32) (hn : s.n < 1000000) :
    Calls Try.prog 16 #[.pointer (some ⟨g, 0, none⟩), .int .u32 fr, .int .i64 k] w fun e w' => e = .returned (.bool true) ∧ IsS58 w0 w' g ⟨putN s.K fr k, putN s.N fr 0, s.n + 2⟩ ∧ Below w0.heap.size w0 w' ∧ Keep2 w w' g := by
  obtain ⟨p, hp⟩ : ∃ p, s.K fr = p := ⟨_, rfl⟩
  rw [hp] at h0
  have c1b : decide (0 < p) = false := decide_eq_false h0
  have c2b : decide (k < 1) = false := decide_eq_false (by omega)
  have c3b : decide (32 < k) = false := decide_eq_false (by omega)
  have e0 := hI.cell0
  have e1 := hI.cell1
  have hm := hI.mge
  have h2g := hI.two
  have HI := Aside0.mk hI
  have HB := Aside0.mk hB
  obtain ⟨_, ⟨D, hD, hA⟩, E, hE, hF⟩ := hI
  have HD := Aside0.mk hD
  have HA := Aside0.mk hA
  have HF := Aside0.mk hF
  have HK := Aside0.mk hk
  have HP := Aside0.mk hp
  -- the four steps in memory
  obtain ⟨v1, st1, w1, w2, r1, r2, hown2, ht2, ht1⟩ := entry_own law28 Try.underlying56 zero3 (World.ownsMap.drew hD) (by unfold maxLen; omega) (keyOf_int_mk Try.underlying28 hk) (plainElem_int (H := Unit) Try.underlying3 (WalkArith.wf_i64 (by omega) : (Lit.int .i64 k).wf = true))
  have hI2 := (IsS58.drew HI.out).turnedK ht2 (Nat.le_succ _) hown2 (nums_put hA fr k)
  obtain ⟨v3, st3, w3, w4, r3, r4, hown4, ht4, ht3⟩ := entry_own law28 Try.underlying56 zero3 ((hE.drew.kept ht2.grown (by simp; omega)).mono (Nat.le_succ _)) (by unfold maxLen; omega) (keyOf_int_mk Try.underlying28 hk) (plainElem_int (H := Unit) Try.underlying3 (by decide : (Lit.int .i64 0).wf = true))
  have HI4 := Aside0.mk (hI2.turnedN ht4 (Nat.le_succ _) hown4 (nums_put hF fr 0))
  have HB4 := Aside0.mk ((below_drew1 HB.out).grown ht2.grown HB.out.size (fun j hj => by cases hj; omega))
  have HB5 := Aside0.mk (HB4.out.grown ht4.grown HB4.out.size (fun j hj => by cases hj; omega))
  have HKp := Aside0.mk (((show Keep2 w w.drew g from Keep2.refl w g).turned ht2 (.inr rfl)).turned ht4 (.inl rfl))
  clear hD hA hE hF hk hp hB hown2 ht2 ht1 hown4 ht4 ht3 hI2 h0 HB4 hn
  go_enter Try.func16, Try.ntmps16
  go_wp2_with (at_lookup; refine lookup_num _ rfl _ _ rfl (g - 2) s.n D s.K rfl HD.out HA.out fr rfl HK.out p HP.out ?_)
  go_region
  all_goals
    go_wp2
    go_ret
    exact ⟨rfl, HI4.out, HB5.out, HKp.out⟩


/-! ### what the functions tell -/
def refl_New.f : Option RM := some ⟨fun _ => 0, fun _ => 0, 0⟩
def refl_Open.f (s : RM) (fr k : Int) : Option (Bool × RM) :=
  if (Lit.int .u32 fr).wf = true then (if 0 < s.K fr then some (false, s) else if k < 1 then some (false, s) else if 32 < k then some (false, s) else if s.n < 1000000 then some (true, ⟨putN s.K fr k, putN s.N fr 0, s.n + 2⟩) else none) else none
def refl_Next.f (s : RM) (fr : Int) : Option (Int × Bool × RM) :=
  if (Lit.int .u32 fr).wf = true then (if s.K fr = 0 then some (0, false, s) else if s.N fr = 64 then some (0, false, s) else
    if 1 ≤ s.K fr then (if s.K fr ≤ 32 then (if 0 ≤ s.N fr then (if s.N fr < 64 then (if s.n < 1000000 then some (s.K fr + s.N fr, true, ⟨s.K, putN s.N fr (s.N fr + 1), s.n + 1⟩) else none) else none) else none) else none) else none) else none
def refl_Left.f (s : RM) (fr : Int) : Option (Int × RM) :=
  if (Lit.int .u32 fr).wf = true then some ((if s.K fr = 0 then 0 else wrap64 (64 - s.N fr)), s) else none
def refl_Close.f (s : RM) (fr : Int) : Option (Bool × RM) :=
  if (Lit.int .u32 fr).wf = true then some (decide (0 < s.K fr), ⟨putN s.K fr 0, s.N, s.n⟩) else none

theorem refl_New.calls (r1 : RM) (w0 w : World) (hB : Below w0.heap.size w0 w) (h : refl_New.f = some r1) :
    Calls Try.prog 14 #[] w fun e w' => ∃ g_ : Nat, e = .returned (.pointer (some ⟨g_, 0, none⟩)) ∧ IsS58 w0 w' g_ r1 ∧ Below w0.heap.size w0 w' ∧ Below w.heap.size w w' ∧ w.heap.size + 2 = g_ := by
  unfold refl_New.f at h
  obtain rfl := Option.some.inj h
  exact rnew_calls w0 w hB

theorem refl_Open.calls (g : Nat) (s : RM) (fr k : Int) (r1 : Bool) (r2 : RM) (w0 w : World) (hI : IsS58 w0 w g s) (hB : Below w0.heap.size w0 w) (h : refl_Open.f s fr k = some (r1, r2)) :
    Calls Try.prog 16 #[.pointer (some ⟨g, 0, none⟩), .int .u32 fr, .int .i64 k] w fun e w' => e = .returned (.bool r1) ∧ IsS58 w0 w' g r2 ∧ Below w0.heap.size w0 w' ∧ Keep2 w w' g := by
  unfold refl_Open.f at h
  split at h
  · rename_i hk
    split at h
    · rename_i h1
      simp only [Option.some.injEq, Prod.mk.injEq] at h
      obtain ⟨rfl, rfl⟩ := h
      exact ropen_no w0 w g s fr k hI hB hk (.inl h1)
    · rename_i h1
      split at h
      · rename_i h2
        simp only [Option.some.injEq, Prod.mk.injEq] at h
        obtain ⟨rfl, rfl⟩ := h
        exact ropen_no w0 w g s fr k hI hB hk (.inr (.inl h2))
      · rename_i h2
        split at h
        · rename_i h3
          simp only [Option.some.injEq, Prod.mk.injEq] at h
          obtain ⟨rfl, rfl⟩ := h
          exact ropen_no w0 w g s fr k hI hB hk (.inr (.inr h3))
        · rename_i h3
          split at h
          · rename_i h4
            simp only [Option.some.injEq, Prod.mk.injEq] at h
            obtain ⟨rfl, rfl⟩ := h
            exact ropen_yes w0 w g s fr k hI hB hk h1 (by omega) (by omega) h4
          · cases h
  · cases h

theorem refl_Next.calls (g : Nat) (s : RM) (fr : Int) (r1 : Int) (r2 : Bool) (r3 : RM) (w0 w : World) (hI : IsS58 w0 w g s) (hB : Below w0.heap.size w0 w) (h : refl_Next.f s fr = some (r1, r2, r3)) :
    Calls Try.prog 20 #[.pointer (some ⟨g, 0, none⟩), .int .u32 fr] w fun e w' => e = .returned (.tuple #[.int .i64 r1, .bool r2]) ∧ IsS58 w0 w' g r3 ∧ Below w0.heap.size w0 w' ∧ Keep2 w w' g := by
  unfold refl_Next.f at h
  split at h
  · rename_i hk
    split at h
    · rename_i h1
      simp only [Option.some.injEq, Prod.mk.injEq] at h
      obtain ⟨rfl, rfl, rfl⟩ := h
      exact rnext_no w0 w g s fr hI hB hk _ _ rfl rfl (.inl h1)
    · split at h
      · rename_i h1
        simp only [Option.some.injEq, Prod.mk.injEq] at h
        obtain ⟨rfl, rfl, rfl⟩ := h
        exact rnext_no w0 w g s fr hI hB hk _ _ rfl rfl (.inr h1)
      · split at h
        · rename_i h1
          split at h
          · rename_i h2
            split at h
            · rename_i h3
              split at h
              · rename_i h4
                split at h
                · rename_i h5
                  simp only [Option.some.injEq, Prod.mk.injEq] at h
                  obtain ⟨rfl, rfl, rfl⟩ := h
                  exact rnext_yes w0 w g s fr hI hB hk _ _ rfl rfl h1 h2 h3 h4 h5
                · cases h
              · cases h
            · cases h
          · cases h
        · cases h
  · cases h

theorem refl_Left.calls (g : Nat) (s : RM) (fr : Int) (r1 : Int) (r2 : RM) (w0 w : World) (hI : IsS58 w0 w g s) (hB : Below w0.heap.size w0 w) (h : refl_Left.f s fr = some (r1, r2)) :
    Calls Try.prog 22 #[.pointer (some ⟨g, 0, none⟩), .int .u32 fr] w fun e w' => e = .returned (.int .i64 r1) ∧ IsS58 w0 w' g r2 ∧ Below w0.heap.size w0 w' ∧ Keep2 w w' g := by
  unfold refl_Left.f at h
  split at h
  · rename_i hk
    simp only [Option.some.injEq, Prod.mk.injEq] at h
    obtain ⟨rfl, rfl⟩ := h
    refine (rleft_any w0 w g s fr hI hk _ _ rfl rfl).mono fun e w' ⟨he, hw⟩ => ?_
    subst hw
    exact ⟨he, hI, hB, Keep2.refl _ _⟩
  · cases h

theorem refl_Close.calls (g : Nat) (s : RM) (fr : Int) (r1 : Bool) (r2 : RM) (w0 w : World) (hI : IsS58 w0 w g s) (hB : Below w0.heap.size w0 w) (h : refl_Close.f s fr = some (r1, r2)) :
    Calls Try.prog 18 #[.pointer (some ⟨g, 0, none⟩), .int .u32 fr] w fun e w' => e = .returned (.bool r1) ∧ IsS58 w0 w' g r2 ∧ Below w0.heap.size w0 w' ∧ Keep2 w w' g := by
  unfold refl_Close.f at h
  split at h
  · rename_i hk
    simp only [Option.some.injEq, Prod.mk.injEq] at h
    obtain ⟨rfl, rfl⟩ := h
    exact rclose_any w0 w g s fr hI hB hk _ rfl _ rfl
  · cases h

/-! ### two ledgers at once -/
/-- what a call on the one leaves of the other: 'g + 3 ≤ g'' tells that their blocks are apart -/
theorem IsS55.one {w0 w : World} {g : Nat} {s : LM} (h : IsS55 w0 w g s) : 1 ≤ g := h.1.2.1
theorem apart_new {w0 w : World} {g g' : Nat} {s : LM} (h : IsS55 w0 w g s) (hg : w.heap.size + 2 = g') : 1 ≤ g ∧ g + 3 ≤ g' := ⟨h.one, by have := h.lt; omega⟩
theorem IsS58.beside {w0 w w1 : World} {g g' : Nat} {s : RM} (h : IsS58 w0 w g' s) (hk : KeepBut w w1 (g - 1) none) (hne : 1 ≤ g ∧ g + 3 ≤ g') : IsS58 w0 w1 g' s := by
  have hl := h.lt
  obtain ⟨hg1, hne⟩ := hne
  obtain ⟨⟨hb, hg, hs⟩, ⟨D, ⟨es, c, hm, hr⟩, hA⟩, E, ⟨es2, c2, hm2, hr2⟩, hF⟩ := h
  have K : ∀ i, i ≤ g' → g - 1 < i → w1.heap[i]? = w.heap[i]? := fun i hi h2 => hk.2 i (by omega) (by omega) (by simp)
  exact ⟨⟨(K g' (by omega) (by omega)).trans hb, hg, hs⟩, ⟨D, ⟨es, c, (K (g' - 2) (by omega) (by omega)).trans hm, hr⟩, hA⟩, E, ⟨es2, c2, (K (g' - 1) (by omega) (by omega)).trans hm2, hr2⟩, hF⟩
theorem IsS55.beside {w0 w w1 : World} {g g' : Nat} {s : LM} (h : IsS55 w0 w g s) (hk : Keep2 w w1 g') (hne : 1 ≤ g ∧ g + 3 ≤ g') : IsS55 w0 w1 g s := by
  have hl := h.lt
  obtain ⟨hg1, hne⟩ := hne
  obtain ⟨⟨hb, hg, hs⟩, D, ⟨es, c, hm, hr⟩, hA⟩ := h
  have K : ∀ i, i ≤ g → w1.heap[i]? = w.heap[i]? := fun i hi => hk.2 i (by omega) (by omega) (by omega)
  refine ⟨⟨(K g (Nat.le_refl _)).trans hb, hg, hs⟩, D, ⟨es, c, (K (g - 1) (by omega)).trans hm, hr⟩, hA⟩

/-! ### no ledger -/
set_option maxHeartbeats 1000000 in
theorem of_nil (k : Int) (w : World) : Calls Try.prog 26 #[.pointer none, .int .u32 k] w fun e w' => e = .returned (.tuple #[.agg #[.int .i64 0, .int .i64 0], .bool false]) ∧ Below w.heap.size w w' := by
  go_enter Try.func26, Try.ntmps26
  go_wp2
  exact bodyPost_ret (v := .tuple #[.agg #[.int .i64 0, .int .i64 0], .bool false]) (by simp [results, Try.results26, go_sem]) rfl ⟨rfl, below_alloc (Below.refl _ _) _⟩
def ledger_Open_nil.f (fr k : Int) : Option Bool := some false
def ledger_Next_nil.f (fr : Int) : Option (Int × Bool) := some (0, false)
def ledger_Left_nil.f (fr : Int) : Option Int := some 0
def ledger_Close_nil.f (fr : Int) : Option Bool := some false
set_option maxHeartbeats 1000000 in
theorem ledger_Open_nil.calls (fr k : Int) (r1 : Bool) (w : World) (h : ledger_Open_nil.f fr k = some r1) :
    Calls Try.prog 15 #[.pointer none, .int .u32 fr, .int .i64 k] w fun e w' => e = .returned (.bool r1) ∧ Below w.heap.size w w' := by
  obtain rfl := Option.some.inj h
  go_enter Try.func15, Try.ntmps15
  go_wp2_with (go_at_call 26; refine (of_nil _ _).mono ?_; rintro e w1 ⟨rfl, hb⟩)
  go_ret
  exact ⟨rfl, below_alloc hb _⟩
set_option maxHeartbeats 1000000 in
theorem ledger_Next_nil.calls (fr : Int) (r1 : Int) (r2 : Bool) (w : World) (h : ledger_Next_nil.f fr = some (r1, r2)) :
    Calls Try.prog 19 #[.pointer none, .int .u32 fr] w fun e w' => e = .returned (.tuple #[.int .i64 r1, .bool r2]) ∧ Below w.heap.size w w' := by
  unfold ledger_Next_nil.f at h
  simp only [Option.some.injEq, Prod.mk.injEq] at h
  obtain ⟨rfl, rfl⟩ := h
  go_enter Try.func19, Try.ntmps19
  go_wp2_with (go_at_call 26; refine (of_nil _ _).mono ?_; rintro e w1 ⟨rfl, hb⟩)
  go_ret2
  exact ⟨rfl, below_alloc hb _⟩
set_option maxHeartbeats 1000000 in
theorem ledger_Left_nil.calls (fr : Int) (r1 : Int) (w : World) (h : ledger_Left_nil.f fr = some r1) :
    Calls Try.prog 21 #[.pointer none, .int .u32 fr] w fun e w' => e = .returned (.int .i64 r1) ∧ Below w.heap.size w w' := by
  obtain rfl := Option.some.inj h
  go_enter Try.func21, Try.ntmps21
  go_wp2_with (go_at_call 26; refine (of_nil _ _).mono ?_; rintro e w1 ⟨rfl, hb⟩)
  go_ret
  exact ⟨rfl, below_alloc hb _⟩
set_option maxHeartbeats 1000000 in
theorem ledger_Close_nil.calls (fr : Int) (r1 : Bool) (w : World) (h : ledger_Close_nil.f fr = some r1) :
    Calls Try.prog 17 #[.pointer none, .int .u32 fr] w fun e w' => e = .returned (.bool r1) ∧ Below w.heap.size w w' := by
  obtain rfl := Option.some.inj h
  go_enter Try.func17, Try.ntmps17
  go_wp2_with (go_at_call 26; refine (of_nil _ _).mono ?_; rintro e w1 ⟨rfl, hb⟩)
  go_ret
  exact ⟨rfl, below_alloc hb _⟩

end Go.Proofs.Ytcehifhfgpodoaa.Ledger
