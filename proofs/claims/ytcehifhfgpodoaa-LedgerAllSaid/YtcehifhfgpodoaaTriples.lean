/- A slice of arrays of three whole numbers that came in, as a list of threes. No condition. -/
import Derived.Test.YtcehifhfgpodoaaPLedgerAllx0
import Derived.Deep.Slices
import Derived.Laws.IdiomArrays
namespace Go.Proofs.Ytcehifhfgpodoaa.Triples
open Go.RowKit Go.ChangeShapes Go.WideShapes Go.Deep Go.Proofs.YtcehifhfgpodoaaW.PrintWords Go.Proofs.Ytcehifhfgpodoaa.PLedgerAll

theorem opened {H : Type} {enc : TypeId × Value → H} {P : Program} {W : World} {base : Nat} {held : Bool} {t e f : TypeId} {a : Option Addr} {len cap : Nat} {d : DataW H} {ps : List MemPlace}
    (hu : P.underlying t = some (.slice e)) (he : P.underlying e = some (.array 3 f)) (hf : P.underlying f = some (.int .i64)) (hc : P.cellsOf e = 3) (hc1 : P.cellsOf f = 1) (h : DataW.Trod enc P W base (fun _ => true) held t (.slice a len cap) d ps) :
    ∃ zs : List S29, zs.length = len ∧ len ≤ cap ∧ Kd.C k29 W a len zs := by
  obtain ⟨fuel, h⟩ := h
  rcases open_slice hu h with ⟨hcs, _⟩ | ⟨x, l, c, m, n, D, Pl, hcs, _, hl, hm, hmm, _, hcell⟩
  · simp [Value.cells] at hcs
    obtain ⟨rfl, rfl, rfl⟩ := hcs
    exact ⟨[], rfl, Nat.le_refl _, rfl, by simp, fun h => by simp at h⟩
  · simp [Value.cells] at hcs
    obtain ⟨rfl, rfl, rfl⟩ := hcs
    simp at hmm
    subst hmm
    have key : ∀ i, i < len → ∃ z : S29, W.cell? (x.add (i * 3)) = some (.int .i64 z.f0) ∧ W.cell? (x.add (i * 3 + 1)) = some (.int .i64 z.f1) ∧ W.cell? (x.add (i * 3 + 2)) = some (.int .i64 z.f2) := by
      intro i hi
      obtain ⟨cs', h1, h2⟩ := hcell i (by omega)
      rw [hc] at h1
      obtain ⟨_, hlen, hat⟩ := World.cells?_some h1
      match cs', hlen with
      | [c0, c1, c2], _ =>
        obtain ⟨y0, y1, y2, n', _, t0, t1, t2⟩ := trod_array3 he hc1 h2
        obtain ⟨n0, e0, _, _⟩ := DataW.trod_int hf t0
        obtain ⟨n1, e1, _, _⟩ := DataW.trod_int hf t1
        obtain ⟨n2, e2, _, _⟩ := DataW.trod_int hf t2
        simp only [List.cons.injEq, and_true] at e0 e1 e2
        subst e0 e1 e2
        have a0 := hat 0 (by decide)
        have a1 := hat 1 (by decide)
        have a2 := hat 2 (by decide)
        rw [Go.Deep.add_add] at a0 a1 a2
        exact ⟨⟨n0, n1, n2⟩, a0, a1, a2⟩
    obtain ⟨Z, hZ⟩ : ∃ Z : Nat → S29, ∀ i, i < len → W.cell? (x.add (i * 3)) = some (.int .i64 (Z i).f0) ∧ W.cell? (x.add (i * 3 + 1)) = some (.int .i64 (Z i).f1) ∧ W.cell? (x.add (i * 3 + 2)) = some (.int .i64 (Z i).f2) := by
      haveI : Inhabited S29 := ⟨z29⟩
      exact choose_lt key
    refine ⟨(List.range len).map Z, by simp, hl, by simp, by simp [maxLen] at hm ⊢; omega, fun _ => ⟨x, rfl, fun j p hj => ?_⟩⟩
    have hjl : j < len := by
      have := (List.getElem?_eq_some_iff.1 hj).1
      simpa using this
    have hp : p = Z j := by
      have e : ((List.range len).map Z)[j]? = some (Z j) := by simp [hjl]
      rw [e] at hj
      exact (Option.some.inj hj).symm
    subst hp
    refine ⟨[.int .i64 (Z j).f0, .int .i64 (Z j).f1, .int .i64 (Z j).f2], rfl, k29_mk W (Z j), fun i u hu => ?_⟩
    obtain ⟨b0, b1, b2⟩ := hZ j hjl
    match i, hu with
    | 0, hu => obtain rfl := Option.some.inj hu; exact b0
    | 1, hu => obtain rfl := Option.some.inj hu; exact b1
    | 2, hu => obtain rfl := Option.some.inj hu; exact b2
    | i + 3, hu => simp at hu

end Go.Proofs.Ytcehifhfgpodoaa.Triples
