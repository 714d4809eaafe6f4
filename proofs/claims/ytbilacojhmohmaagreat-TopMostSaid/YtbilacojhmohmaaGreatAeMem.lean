/- Reading and writing cells: what the abstract memory says of the model's. No condition. -/
import Derived.Test.YtbilacojhmohmaaGreatAeBase
import Derived.Laws.Cells
namespace Go.Proofs.YtbilacojhmohmaaGreat.Ae
open Go
set_option linter.unusedVariables false
set_option linter.unusedSimpArgs false

theorem add_eq (b o n : Nat) : (⟨b, o, none⟩ : Addr).add n = ⟨b, o + n, none⟩ := by unfold Addr.add; split <;> simp_all

/-- a list whose piece is another one -/
def splice (l : List AV) (o : Nat) (x : List AV) : List AV := l.take o ++ x ++ l.drop (o + x.length)
theorem splice_length {l x : List AV} {o : Nat} (h : o + x.length ≤ l.length) : (splice l o x).length = l.length := by
  simp [splice]; omega
theorem splice_get {l x : List AV} {o : Nat} (h : o + x.length ≤ l.length) (j : Nat) :
    (splice l o x)[j]? = if o ≤ j ∧ j < o + x.length then x[j - o]? else l[j]? := by
  have hto : (l.take o).length = o := by simp; omega
  unfold splice
  rw [List.append_assoc]
  by_cases h1 : j < o
  · rw [List.getElem?_append_left (by omega), List.getElem?_take, if_pos h1, if_neg (by omega)]
  · rw [List.getElem?_append_right (by omega), hto]
    by_cases h2 : j < o + x.length
    · rw [List.getElem?_append_left (by omega), if_pos (by omega)]
    · rw [List.getElem?_append_right (by omega), if_neg (by omega), List.getElem?_drop]
      congr 1; omega

/-- one cell that is stored -/
theorem run_storeCells' {P : Program} {b o : Nat} {e : TypeId} {fz : Nat × Nat} : ∀ (vs : List Value) (i : Nat) (w : World) (c : Array Value), w.heap[b]? = some (.cells c e fz) → Fz c.size fz →
    o + i + vs.length ≤ c.size → (∀ v ∈ vs, v.oneCell' = true) →
    ∃ w' c', (storeCells ⟨b, o, none⟩ vs i).run P w = .ok () w' ∧ (Same w w' ∧ ∀ b', b' ≠ b → w'.heap[b']? = w.heap[b']?) ∧ w'.heap.size = w.heap.size ∧ w'.heap[b]? = some (.cells c' e fz) ∧ c'.size = c.size ∧
      ∀ j, c'[j]? = if o + i ≤ j ∧ j < o + i + vs.length then vs[j - (o + i)]? else c[j]?
  | [], i, w, c, hc, _, _, _ => ⟨w, c, rfl, ⟨⟨rfl, rfl⟩, fun _ _ => rfl⟩, rfl, hc, rfl, fun j => by rw [if_neg (by simp)]⟩
  | v :: vs, i, w, c, hc, hf, hs, h1 => by
    simp only [List.length_cons] at hs
    have hcell : w.cell? ⟨b, o + i, none⟩ = some (c[o + i]'(by omega)) := by
      simp [World.cell?, hc]
    have hfz : w.frozen? ⟨b, o + i, none⟩ = false := by
      have := hf.none (o := o + i) (by omega)
      obtain ⟨f1, f2⟩ := fz
      simp only [World.frozen?, hc]
      exact this
    have hst : (store ((⟨b, o, none⟩ : Addr).add i) v).run P w = .ok () (w.setCell ⟨b, o + i, none⟩ v) := by
      rw [add_eq, run_store P w _ v _ (h1 v (by simp))]
      simp [hcell, hfz]
    have hb : b < w.heap.size := (Array.getElem?_eq_some_iff.1 hc).1
    have hheap : (w.setCell ⟨b, o + i, none⟩ v).heap[b]? = some (.cells (c.setIfInBounds (o + i) v) e fz) := by
      simp only [World.setCell, Array.getElem?_modify]
      simp [hc]
    obtain ⟨w', c', hr, ⟨hsm, ho⟩, hsz, hh, hcs, hj⟩ := run_storeCells' (P := P) (b := b) (o := o) (e := e) (fz := fz) vs (i + 1) (w.setCell ⟨b, o + i, none⟩ v) (c.setIfInBounds (o + i) v) hheap (by simpa using hf) (by simp only [Array.size_setIfInBounds]; omega) (fun x hx => h1 x (by simp [hx]))
    refine ⟨w', c', ?_, ⟨⟨hsm.1, hsm.2⟩, fun b' hb' => ?_⟩, ?_, hh, by simpa using hcs, fun j => ?_⟩
    · simp only [storeCells, Sem.run_bind, hst, Result.andThen_ok]
      exact hr
    · rw [ho b' hb']
      simp only [World.setCell, Array.getElem?_modify]
      simp [Ne.symm hb']
    · rw [hsz]; simp [World.setCell]
    · rw [hj j]
      simp only [List.length_cons]
      by_cases e1 : j = o + i
      · subst e1
        rw [if_neg (by omega), if_pos (by omega)]
        rw [Array.getElem?_setIfInBounds_self_of_lt (by omega)]
        simp
      · by_cases e2 : o + (i + 1) ≤ j ∧ j < o + (i + 1) + vs.length
        · rw [if_pos e2, if_pos (by omega)]
          rw [show j - (o + i) = (j - (o + (i + 1))) + 1 by omega]
          simp
        · rw [if_neg e2, if_neg (by omega)]
          simp [Array.getElem?_setIfInBounds, Ne.symm e1]

/-- scalars -/
def AV.one : AV → Bool
  | .undef | .agg _ | .tuple _ => false
  | _ => true
theorem VRel.one {E : Env} {a : AV} {v : Value} (h : VRel E a v) (ha : a.one = true) : v.oneCell' = true := by
  cases h <;> first | rfl | simp [AV.one] at ha
theorem VRel.cells_one {E : Env} {a : AV} {v : Value} (h : VRel E a v) (ha : a.one = true) : v.cells = #[v] := by
  cases h <;> first | rfl | simp [AV.one] at ha
def AV.cells : AV → Option (List AV)
  | .undef | .tuple _ => none
  | .agg l => some l
  | v => some [v]
theorem VRel.cells {E : Env} {a : AV} {v : Value} (h : VRel E a v) {l : List AV} (ha : a.cells = some l) : LRel E l v.cells.toList := by
  cases h <;> simp only [AV.cells, Option.some.injEq, reduceCtorEq] at ha <;> subst ha <;> first | assumption | exact .cons (by constructor <;> assumption) .nil
def allOne : List AV → Bool
  | [] => true
  | a :: l => bif a.one then allOne l else false
theorem allOne_spec {E : Env} : ∀ {l : List AV} {m : List Value}, LRel E l m → allOne l = true → ∀ v ∈ m, v.oneCell' = true
  | _, _, .nil, _, v, hv => by cases hv
  | _, _, .cons (a := a) h t, ha, v, hv => by
    simp only [allOne] at ha
    cases ho : a.one with
    | false => simp [ho] at ha
    | true =>
      simp only [ho, cond_true] at ha
      rcases List.mem_cons.1 hv with rfl | hv
      · exact h.one ho
      · exact allOne_spec t ha v hv

/-- what a pointer points at -/
theorem Rel.at {E : Env} {aw : AW} {w : World} (h : Rel E aw w) {id o : Nat} {a : Addr} (hv : VRel E (.ptr (some (id, o))) (.pointer (some a))) {l : List AV} {e : TypeId} {opn : Bool}
    (hg : aw.get id = some (.cells l e opn)) : ∃ L c, E.loc[id]? = some L ∧ a = ⟨L.block, L.base + o, none⟩ ∧ (∃ fz, w.heap[L.block]? = some (.cells c e fz)) ∧ c.size = L.total ∧ L.base + l.length ≤ c.size ∧
      ∀ (i : Nat) (x : AV), l[i]? = some x → ∃ v, c[L.base + i]? = some v ∧ VRel E x v := by
  cases hv with
  | ptr hL =>
    rename_i L
    obtain ⟨L', hL', c, fz, ⟨h1, _⟩, h2, h3, h4, h5⟩ := h.obj id _ hg
    rw [hL] at hL'; injection hL' with hL'; subst hL'
    exact ⟨L, c, hL, rfl, ⟨fz, h1⟩, h2, h3, h5⟩

/-- cells that are read, at a place of a block -/
theorem load_cells {P : Program} {E : Env} {w : World} {L : Loc} {c : Array Value} {e : TypeId} {l : List AV} {o n : Nat}
    (h1 : ∃ fz, w.heap[L.block]? = some (.cells c e fz)) (h5 : ∀ (i : Nat) (x : AV), l[i]? = some x → ∃ v, c[L.base + i]? = some v ∧ VRel E x v) (hn : ((l.drop o).take n).length = n) :
    ∃ cs : List Value, (∀ w' : World, w'.heap = w.heap → (loadCells ⟨L.block, L.base + o, none⟩ n).run P w' = .ok cs.toArray w') ∧ LRel E ((l.drop o).take n) cs := by
  obtain ⟨fz, h1⟩ := h1
  have hlen : o + n ≤ l.length ∨ n = 0 := by simp at hn; omega
  by_cases hn0 : n = 0
  · subst hn0; exact ⟨[], fun _ _ => rfl, by simpa using LRel.nil⟩
  replace hlen : o + n ≤ l.length := by omega
  have key : ∀ j, j < n → ∃ x v, l[o + j]? = some x ∧ c[L.base + (o + j)]? = some v ∧ VRel E x v := fun j hj => by
    obtain ⟨v, hv, hr⟩ := h5 (o + j) (l[o + j]'(by omega)) (List.getElem?_eq_getElem _)
    exact ⟨_, v, List.getElem?_eq_getElem _, hv, hr⟩
  let cs : List Value := (List.range n).map fun j => c.getD (L.base + (o + j)) undef
  have hcs : cs.length = n := by simp [cs]
  have hget : ∀ j, j < n → cs[j]? = c[L.base + (o + j)]? := fun j hj => by
    obtain ⟨x, v, _, hv, _⟩ := key j hj
    simp [cs, hj]
    rw [hv]; simp [hv]
  refine ⟨cs, fun w' hw' => ?_, LRel.of_get (by rw [hn, hcs]) fun j x hx => ?_⟩
  · rw [← hw'] at h1
    have := run_loadCells_list (P := P) w' ⟨L.block, L.base + o, none⟩ cs (fun j v hv => by
      have hj : j < n := by rw [← hcs]; exact (List.getElem?_eq_some_iff.1 hv).1
      rw [hget j hj] at hv
      rw [add_eq]
      simp [World.cell?, h1]
      rw [Nat.add_assoc]; exact hv)
    rwa [hcs] at this
  · have hj : j < n := by
      have := (List.getElem?_eq_some_iff.1 hx).1
      omega
    obtain ⟨x', v, hx', hv, hr⟩ := key j hj
    rw [List.getElem?_take, if_pos hj, List.getElem?_drop, hx'] at hx
    injection hx with hx; subst hx
    exact ⟨v, by rw [hget j hj, hv], hr⟩

/-- cells that are written -/
theorem store_cells {P : Program} {E : Env} {aw : AW} {w : World} (h : Rel E aw w) {id o : Nat} {L : Loc} (hL : E.loc[id]? = some L) {l x : List AV} {e : TypeId} {opn : Bool}
    (hg : aw.get id = some (.cells l e opn)) {vs : List Value} (hx : LRel E x vs) (h1 : allOne x = true) (hb : o + x.length ≤ l.length) :
    ∃ w', (storeCells ⟨L.block, L.base + o, none⟩ vs).run P w = .ok () w' ∧ Rel E (aw.set id (.cells (splice l o x) e opn)) w' := by
  obtain ⟨L', hL', c, fz, ⟨g1, gf⟩, g2, g3, g4, g5⟩ := h.obj id _ hg
  rw [hL] at hL'; injection hL' with hL'; subst hL'
  have hlen := hx.length
  obtain ⟨w', c', hr, ⟨hsm, ho⟩, hsz, hh, hcs, hj⟩ := run_storeCells' (P := P) (b := L.block) (o := L.base + o) vs 0 w c g1 gf (by omega) (allOne_spec hx h1)
  refine ⟨w', hr, h.update hsm hg rfl hL ho ⟨c', fz, ⟨hh, by rw [hcs]; exact gf⟩, by omega, by rw [splice_length hb]; omega, fun hop => ?_, fun i a hi => ?_⟩⟩
  · obtain ⟨q1, q2⟩ := g4 hop
    exact ⟨q1, by rw [splice_length hb]; omega⟩
  · rw [splice_get hb] at hi
    rw [hj]
    by_cases hin : o ≤ i ∧ i < o + x.length
    · rw [if_pos hin] at hi
      rw [if_pos (by omega)]
      obtain ⟨v, hv, hr⟩ := hx.get hi
      exact ⟨v, by rw [show L.base + i - (L.base + o + 0) = i - o by omega]; exact hv, hr⟩
    · rw [if_neg hin] at hi
      rw [if_neg (by omega)]
      exact g5 i a hi
end Go.Proofs.YtbilacojhmohmaaGreat.Ae
