/- A slice of wants that came in, as a list. No condition. -/
import Derived.Test.YtcehifhfgpodoaaPPurseAllx0
import Derived.Deep.Slices
import Derived.ChangeArms
namespace Go.Proofs.Ytcehifhfgpodoaa.WantsPurseAll
open Go.RowKit Go.ChangeShapes Go.WideShapes Go.Deep Go.Proofs.YtcehifhfgpodoaaW.PrintWords Go.Proofs.Ytcehifhfgpodoaa.PPurseAll

theorem opened {H : Type} {enc : TypeId × Value → H} {P : Program} {W : World} {base : Nat} {held : Bool} {t e : TypeId} {f0 f1 f2 : Field} {a : Option Addr} {len cap : Nat} {d : DataW H} {ps : List MemPlace}
    (hu : P.underlying t = some (.slice e)) (he : P.underlying e = some (.struct #[f0, f1, f2])) (o0 : f0.offset = 0) (o1 : f1.offset = 1) (o2 : f2.offset = 2) (u0 : P.underlying f0.type = some (.int .u32)) (u1 : P.underlying f1.type = some (.int .i64)) (u2 : P.underlying f2.type = some (.int .i64))
    (k0 : P.cellsOf f0.type = 1) (k1 : P.cellsOf f1.type = 1) (k2 : P.cellsOf f2.type = 1) (hc : P.cellsOf e = 3) (h : DataW.Trod enc P W base (fun _ => true) held t (.slice a len cap) d ps) :
    ∃ zs : List S46, zs.length = len ∧ len ≤ cap ∧ Kd.C k46 W a len zs := by
  obtain ⟨fuel, h⟩ := h
  rcases open_slice hu h with ⟨hcs, _⟩ | ⟨x, l, c, m, n, D, Pl, hcs, _, hl, hm, hmm, _, hcell⟩
  · simp [Value.cells] at hcs
    obtain ⟨rfl, rfl, rfl⟩ := hcs
    exact ⟨[], rfl, Nat.le_refl _, rfl, by simp, fun h => by simp at h⟩
  · simp [Value.cells] at hcs
    obtain ⟨rfl, rfl, rfl⟩ := hcs
    simp at hmm
    subst hmm
    have key : ∀ i, i < len → ∃ z : S46, W.cell? (x.add (i * 3)) = some (.int .u32 z.f0) ∧ W.cell? (x.add (i * 3 + 1)) = some (.int .i64 z.f1) ∧ W.cell? (x.add (i * 3 + 2)) = some (.int .i64 z.f2) := by
      intro i hi
      obtain ⟨cs', h1, h2⟩ := hcell i (by omega)
      rw [hc] at h1
      obtain ⟨_, hlen, hat⟩ := World.cells?_some h1
      match cs', hlen with
      | [c0, c1, c2], _ =>
        obtain ⟨xs, n', _, _, _, hxl, hf⟩ := DataW.trod_struct he h2
        match xs, hxl with
        | [y0, y1, y2], _ =>
          have t0 := hf 0 f0 rfl
          have t1 := hf 1 f1 rfl
          have t2 := hf 2 f2 rfl
          rw [o0, k0] at t0
          rw [o1, k1] at t1
          rw [o2, k2] at t2
          obtain ⟨n0, e0, _, _⟩ := DataW.trod_int u0 t0
          obtain ⟨n1, e1, _, _⟩ := DataW.trod_int u1 t1
          obtain ⟨n2, e2, _, _⟩ := DataW.trod_int u2 t2
          obtain rfl : c0 = .int .u32 n0 := by simpa using e0
          obtain rfl : c1 = .int .i64 n1 := by simpa using e1
          obtain rfl : c2 = .int .i64 n2 := by simpa using e2
          have a0 := hat 0 (by decide)
          have a1 := hat 1 (by decide)
          have a2 := hat 2 (by decide)
          rw [Go.Deep.add_add] at a0 a1 a2
          exact ⟨⟨n0, n1, n2⟩, a0, a1, a2⟩
    obtain ⟨Z, hZ⟩ : ∃ Z : Nat → S46, ∀ i, i < len → W.cell? (x.add (i * 3)) = some (.int .u32 (Z i).f0) ∧ W.cell? (x.add (i * 3 + 1)) = some (.int .i64 (Z i).f1) ∧ W.cell? (x.add (i * 3 + 2)) = some (.int .i64 (Z i).f2) := by
      haveI : Inhabited S46 := ⟨z46⟩
      exact choose_lt key
    refine ⟨(List.range len).map Z, by simp, hl, by simp, by simp [maxLen] at hm ⊢; omega, fun _ => ⟨x, rfl, fun j p hj => ?_⟩⟩
    have hjl : j < len := by
      have := (List.getElem?_eq_some_iff.1 hj).1
      simpa using this
    have hp : p = Z j := by
      have e : ((List.range len).map Z)[j]? = some (Z j) := by simp [hjl]
      rw [e] at hj
      exact (Option.some.inj hj).symm
    subst hp
    refine ⟨[.int .u32 (Z j).f0, .int .i64 (Z j).f1, .int .i64 (Z j).f2], rfl, k46_mk W (Z j), fun i u hu => ?_⟩
    obtain ⟨b0, b1, b2⟩ := hZ j hjl
    match i, hu with
    | 0, hu => obtain rfl := Option.some.inj hu; exact b0
    | 1, hu => obtain rfl := Option.some.inj hu; exact b1
    | 2, hu => obtain rfl := Option.some.inj hu; exact b2
    | i + 3, hu => simp at hu

end Go.Proofs.Ytcehifhfgpodoaa.WantsPurseAll
