/- The shelf's three functions as summaries. No condition. -/
import Derived.Test.YtbilacojhmohmaaGreatBeSolo
namespace Go.Proofs.YtbilacojhmohmaaGreat.Ae
open Go Go.Maps Go.RowKit
open Go.WideElems (Fit rd rg)
set_option linter.unusedVariables false
set_option linter.unusedSimpArgs false

set_option maxRecDepth 100000 in
/-- a map whose keys are whole numbers of 32 bits: what the kit's laws ask -/
theorem map_ownR {R : Value → Option (DataW Unit × List MemPlace)} {E : Env} {w : World} {L : Loc} {es : List AEnt} {clock : Nat} (h : ORel E L w (.map es clock)) (hlen : es.length ≤ 1000) (hk : ∀ e ∈ es, ∃ n : Nat, e.key = .int .u32 (.ofNat n) ∧ n < 4294967296) (hn : (es.map fun e => e.key).Nodup) (hb : (es.map fun e => e.born).Nodup) (hc : ∀ e ∈ es, e.born < clock) (hR : ∀ e ∈ es, ∀ v, VRel E e.val v → R v = some (.lit (.bool true), [])) :
    ∃ D0, w.ownsMap Tryz.prog 28 R L.block es.length D0 ∧ Maps.size D0 = es.length ∧ ∀ x : Int, has D0 (.int .u32 x) = true ↔ ∃ e ∈ es, e.key = .int .u32 x := by
  obtain ⟨_, ces, hh, hr⟩ := h
  obtain ⟨hl, hg⟩ := hr.get2
  have back : ∀ f ∈ ces.toList, ∃ e ∈ es, ∃ n : Nat, e.key = .int .u32 (.ofNat n) ∧ n < 4294967296 ∧ f.key = .int .u32 (.ofNat n) ∧ e.born = f.born ∧ VRel E e.val f.val := fun f hf => by
    obtain ⟨i, hi, rfl⟩ := List.mem_iff_getElem.1 hf
    obtain ⟨f', h1, h2, h3, h4⟩ := hg i (es[i]'(by omega)) (List.getElem?_eq_getElem _)
    rw [List.getElem?_eq_getElem hi] at h1; injection h1 with h1; subst h1
    obtain ⟨n, h5, h6⟩ := hk (es[i]'(by omega)) (List.getElem_mem (by omega))
    rw [h5] at h2
    generalize hq : (ces.toList[i]).key = q at h2
    cases h2
    exact ⟨es[i]'(by omega), List.getElem_mem (by omega), n, h5, h6, rfl, h4, h3⟩
  have hrd : ∀ f ∈ ces.toList, ∃ n : Nat, f.key = .int .u32 (.ofNat n) ∧ rd Tryz.prog 28 R f = some (.int .u32 (.ofNat n), .lit (.bool true)) := fun f hf => by
    obtain ⟨e, he, n, _, h2, h3, _, hval⟩ := back f hf
    refine ⟨n, h3, ?_⟩
    have hw : (Lit.int .u32 (.ofNat n)).wf = true := by
      have e : (Int.ofNat n : Int) = (n : Int) := rfl
      rw [e]
      have h1 : IntKind.min .u32 = 0 := rfl
      have h2 : IntKind.max .u32 = 4294967295 := rfl
      simp only [Lit.wf, h1, h2]
      simp
      omega
    have : keyOf Tryz.prog 28 f.key = some (.int .u32 (.ofNat n)) := by
      rw [h3]
      have hw2 : (Lit.int .u32 (n : Int)).wf = true := hw
      simp [keyOf, Tryz.underlying28, mapKey, hw2]
    simp [rd, this, hR e he _ hval]
  have hst : MapKept.Stamped ces clock := by
    have e1 : ces.toList.map (·.born) = es.map (·.born) := by
      apply List.ext_getElem?
      intro i
      by_cases hi : i < es.length
      · obtain ⟨f, h1, _, _, h4⟩ := hg i es[i] (List.getElem?_eq_getElem hi)
        rw [List.getElem?_map, List.getElem?_map, h1, List.getElem?_eq_getElem hi]
        simp [h4]
      · rw [List.getElem?_eq_none (by simp at hl ⊢; omega), List.getElem?_eq_none (by simp; omega)]
    have e2 : (ces.toList.map (·.key)).Nodup := by
      refine List.pairwise_iff_getElem.2 fun i j hi hj hij => ?_
      simp only [List.length_map] at hi hj
      have := List.pairwise_iff_getElem.1 hn i j (by simp; omega) (by simp; omega) hij
      obtain ⟨f, h1, h2, _, _⟩ := hg i (es[i]'(by omega)) (List.getElem?_eq_getElem _)
      obtain ⟨f', h1', h2', _, _⟩ := hg j (es[j]'(by omega)) (List.getElem?_eq_getElem _)
      obtain ⟨n, h5, _⟩ := hk (es[i]'(by omega)) (List.getElem_mem (by omega))
      obtain ⟨n', h5', _⟩ := hk (es[j]'(by omega)) (List.getElem_mem (by omega))
      simp only [List.getElem_map, h5, h5'] at this
      rw [List.getElem?_eq_getElem hi] at h1; injection h1 with h1
      rw [List.getElem?_eq_getElem hj] at h1'; injection h1' with h1'
      rw [List.getElem_map, List.getElem_map, h1, h1']
      rw [h5] at h2; rw [h5'] at h2'
      obtain ⟨k1, v1, b1⟩ := f; obtain ⟨k2, v2, b2⟩ := f'
      simp only at h2 h2'
      cases h2; cases h2'
      intro e
      injection e with _ e
      exact this (by rw [e])
    refine ⟨fun f hf => ?_, by rw [e1]; exact hb, e2⟩
    obtain ⟨e, he, _, _, _, _, h4, _⟩ := back f hf
    rw [← h4]; exact hc e he
  have hlc : ces.toList.length = es.length := hl.symm
  have hfit : Fit Tryz.prog 28 R ces clock := ⟨by
      have h1 : 1000 ≤ maxLen := by decide
      have h2 : ces.size = es.length := by rw [← hlc, Array.length_toList]
      omega, hst, fun f hf => let ⟨n, _, h⟩ := hrd f hf; ⟨_, h⟩⟩
  refine ⟨_, ⟨ces, clock, hh, hfit, (by rw [← hlc, Array.length_toList]; exact Nat.le_refl _), rfl⟩, by show (List.foldr DataW.insert [] (ces.toList.map _)).length = _; rw [length_sorted, List.length_map]; exact hlc, fun x => ?_⟩
  rw [has_eq, List.any_eq_true]
  constructor
  · rintro ⟨p, hp, hs⟩
    rw [mem_sorted] at hp
    obtain ⟨f, hf, rfl⟩ := List.mem_map.1 hp
    obtain ⟨n, h3, h4⟩ := hrd f hf
    obtain ⟨e, he, n', h5, _, h6, _⟩ := back f hf
    rw [WideElems.rg_of h4] at hs
    have hx : Int.ofNat n = x := by simpa [Lit.sameKey] using hs
    rw [h3] at h6
    have : n = n' := by injection h6 with _ q; injection q
    subst this
    exact ⟨e, he, by rw [h5, hx]⟩
  · rintro ⟨e, he, hx⟩
    obtain ⟨i, hi, rfl⟩ := List.mem_iff_getElem.1 he
    obtain ⟨f, h1, h2, _, _⟩ := hg i es[i] (List.getElem?_eq_getElem hi)
    have hf : f ∈ ces.toList := List.mem_of_getElem? h1
    obtain ⟨n, h3, h4⟩ := hrd f hf
    refine ⟨rg Tryz.prog 28 R f, mem_sorted.2 (List.mem_map.2 ⟨f, hf, rfl⟩), ?_⟩
    rw [WideElems.rg_of h4]
    rw [hx, h3] at h2
    have : x = Int.ofNat n := by cases h2; rfl
    subst this
    simp [Lit.sameKey]



noncomputable def keyN (v : AV) : Nat := match v with
  | .int .u32 (.ofNat n) => n
  | _ => 0
noncomputable def keysN (es : List AEnt) : List Nat := List.rec (motive := fun _ => List Nat) [] (fun e _ ih => keyN e.key :: ih) es
noncomputable def bornN (es : List AEnt) : List Nat := List.rec (motive := fun _ => List Nat) [] (fun e _ ih => e.born :: ih) es
noncomputable def apartN (l : List Nat) : Bool := List.rec (motive := fun _ => Bool) true (fun x l ih => bb2 (memS x l) false ih) l
/-- an entry of a frame of 4 bytes -/
noncomputable def entOK (aw : AW) (clock : Nat) (e : AEnt) : Bool := match e with
  | ⟨.int .u32 (.ofNat n), .agg [.ptr (some (bq, 0)), .int .i64 rk], born⟩ => match awGet aw bq with
    | some (.cells [_, _, .int .i64 (.ofNat k), _, .int .i64 (.ofNat s)] _ false) => bb2 (Nat.beq (Nat.mul k s) 4) (bb2 (memS n tens) (Nat.ble (Nat.succ born) clock) false) false
    | _ => false
  | _ => false
noncomputable def entsOK (aw : AW) (clock : Nat) (es : List AEnt) : Bool := List.rec (motive := fun _ => Bool) true (fun e _ ih => bb2 (entOK aw clock e) ih false) es
noncomputable def shelfOK (aw : AW) (q : Nat) : Option (Nat × Nat × List Nat) := match awGet aw q with
  | some (.cells [_, .int .i64 (.ofNat F), .int .i64 (.ofNat B), _, .map (some m)] _ false) => match awGet aw m with
    | some (.map es clock) => bb2 (entsOK aw clock es) (bb2 (apartN (keysN es)) (bb2 (apartN (bornN es)) (some (F, B, keysN es)) none) none) none
    | _ => none
  | _ => none
theorem apartN_ok : ∀ {l : List Nat}, apartN l = true → l.Nodup
  | [], _ => List.nodup_nil
  | x :: l, h => by
    have h : bb2 (memS x l) false (apartN l) = true := h
    rw [bb2_eq] at h
    cases hm : memS x l <;> simp only [hm, cond_true, cond_false, Bool.false_eq_true] at h
    exact List.nodup_cons.2 ⟨fun hx => (by rw [memS_iff.2 hx] at hm; cases hm), apartN_ok h⟩
theorem entOK_ok {aw : AW} {clock : Nat} {e : AEnt} (h : entOK aw clock e = true) : ∃ n bq x y z k s et rk, e.key = .int .u32 (.ofNat n) ∧ e.val = .agg [.ptr (some (bq, 0)), .int .i64 rk] ∧ aw.get bq = some (.cells [x, y, .int .i64 (.ofNat k), z, .int .i64 (.ofNat s)] et false) ∧ k * s = 4 ∧ n ∈ tens ∧ e.born < clock := by
  unfold entOK at h
  split at h <;> (try (cases h; done))
  rename_i n bq rk born
  split at h <;> (try (cases h; done))
  rename_i x y k z s et hg
  rw [awGet_eq] at hg
  simp only [bb2_eq] at h
  cases h1 : Nat.beq (Nat.mul k s) 4 <;> simp only [h1, cond_true, cond_false, Bool.false_eq_true] at h
  cases h2 : memS n tens <;> simp only [h2, cond_true, cond_false, Bool.false_eq_true] at h
  exact ⟨n, bq, x, y, z, k, s, et, rk, rfl, rfl, hg, Nat.eq_of_beq_eq_true h1, memS_iff.1 h2, Nat.le_of_ble_eq_true h⟩
theorem entsOK_ok {aw : AW} {clock : Nat} : ∀ {es : List AEnt}, entsOK aw clock es = true → ∀ e ∈ es, entOK aw clock e = true
  | [], _ => by simp
  | e :: es, h => by
    have h : bb2 (entOK aw clock e) (entsOK aw clock es) false = true := h
    rw [bb2_eq] at h
    cases he : entOK aw clock e <;> simp only [he, cond_true, cond_false, Bool.false_eq_true] at h
    intro x hx
    rcases List.mem_cons.1 hx with rfl | hx
    · exact he
    · exact entsOK_ok h x hx
theorem keysN_eq (es : List AEnt) : keysN es = es.map fun e => keyN e.key := by induction es with | nil => rfl | cons e es ih => show keyN e.key :: keysN es = _; rw [ih]; rfl
theorem bornN_eq (es : List AEnt) : bornN es = es.map fun e => e.born := by induction es with | nil => rfl | cons e es ih => show e.born :: bornN es = _; rw [ih]; rfl

/-- the blocks of the basins -/
def binsOf (E : Env) (es : List AEnt) : List Nat := es.filterMap fun e => match e.val with
  | .agg [.ptr (some (bq, 0)), _] => (E.loc[bq]?).map fun L => L.block
  | _ => none
theorem shelfSaid {E : Env} {aw : AW} {w : World} {q F B : Nat} {ks : List Nat} {L : Loc} (hR : Rel E aw w) (h : shelfOK aw q = some (F, B, ks)) (hL : E.loc[q]? = some L) :
    ∃ (bl : List Nat) (b nn : Nat) (D0 : DataW Unit), L.base = 0 ∧ w.cell? ⟨L.block, 1, none⟩ = some (.int .i64 (.ofNat F)) ∧ w.cell? ⟨L.block, 2, none⟩ = some (.int .i64 (.ofNat B)) ∧ w.cell? ⟨L.block, 4, none⟩ = some (.map (some b)) ∧ L.block < w.heap.size ∧
      (ks.length ≤ 1000 → w.ownsMap Tryz.prog 28 (blkR fun x => x ∈ bl) b nn D0 ∧ Maps.size D0 = ks.length ∧ ∀ x : Int, has D0 (.int .u32 x) = true ↔ ∃ n ∈ ks, x = Int.ofNat n) ∧
      (∀ x, x ∈ bl → x < w.heap.size ∧ ∃ k s, w.cell? ⟨x, 2, none⟩ = some (.int .i64 k) ∧ w.cell? ⟨x, 4, none⟩ = some (.int .i64 s) ∧ wrap64 (k * s) = 4) ∧ ks.Nodup ∧ ∀ n ∈ ks, n ∈ tens := by
  unfold shelfOK at h
  split at h <;> (try (cases h; done))
  rename_i c0 F' B' c3 m et hq
  rw [awGet_eq] at hq
  split at h <;> (try (cases h; done))
  rename_i es clock hm
  rw [awGet_eq] at hm
  simp only [bb2_eq] at h
  cases h1 : entsOK aw clock es <;> simp only [h1, cond_true, cond_false, reduceCtorEq] at h
  cases h2 : apartN (keysN es) <;> simp only [h2, cond_true, cond_false, reduceCtorEq] at h
  cases h3 : apartN (bornN es) <;> simp only [h3, cond_true, cond_false, reduceCtorEq] at h
  simp only [Option.some.injEq, Prod.mk.injEq] at h
  obtain ⟨rfl, rfl, rfl⟩ := h
  have hE := entsOK_ok h1
  obtain ⟨L', hL', c, fz, ⟨g1, _⟩, g2, g3, g4, g5⟩ := hR.obj q _ hq
  rw [hL] at hL'; injection hL' with hL'; subst hL'
  obtain ⟨g4a, g4b⟩ := g4 rfl
  obtain ⟨v1, hv1, r1⟩ := g5 1 _ rfl
  obtain ⟨v2, hv2, r2⟩ := g5 2 _ rfl
  obtain ⟨v4, hv4, r4⟩ := g5 4 _ rfl
  cases r1
  cases r2
  cases r4 with
  | map hLm hbm =>
    rename_i Lm
    rw [g4a] at hv1 hv2 hv4
    have keyIs : ∀ e ∈ es, ∃ n, e.key = .int .u32 (.ofNat n) ∧ keyN e.key = n ∧ n ∈ tens ∧ e.born < clock := fun e he => by
      obtain ⟨n, bq, x, y, z, k, s, et', rk, a1, a2, a3, a4, a5, a6⟩ := entOK_ok (hE e he)
      exact ⟨n, a1, by rw [a1]; rfl, a5, a6⟩
    refine ⟨binsOf E es, Lm.block, es.length, ?_⟩
    obtain ⟨Lm', hLm', ho⟩ := hR.obj m _ hm
    rw [hLm] at hLm'; injection hLm' with hLm'; subst hLm'
    have hn : (es.map fun e => e.key).Nodup := by
      have := apartN_ok h2
      rw [keysN_eq] at this
      rw [show (es.map fun e => keyN e.key) = (es.map fun e => e.key).map keyN by rw [List.map_map]; rfl] at this
      exact List.Pairwise.of_map keyN (fun a b h e => h (by rw [e])) this
    have hb : (es.map fun e => e.born).Nodup := by rw [← bornN_eq]; exact apartN_ok h3
    have hbasin : ∀ e ∈ es, ∃ bq Lb rk, e.val = .agg [.ptr (some (bq, 0)), .int .i64 rk] ∧ E.loc[bq]? = some Lb ∧ Lb.base = 0 ∧ Lb.block ∈ binsOf E es ∧ Lb.block < w.heap.size ∧ ∃ k s, w.cell? ⟨Lb.block, 2, none⟩ = some (.int .i64 k) ∧ w.cell? ⟨Lb.block, 4, none⟩ = some (.int .i64 s) ∧ wrap64 (k * s) = 4 := fun e he => by
      obtain ⟨n, bq, x, y, z, k, s, et', rk, a1, a2, a3, a4, a5, a6⟩ := entOK_ok (hE e he)
      obtain ⟨Lb, hLb, cb, fb, ⟨b1, _⟩, b2, b3, b4, b5⟩ := hR.obj bq _ a3
      obtain ⟨b4a, b4b⟩ := b4 rfl
      obtain ⟨u2, hu2, s2⟩ := b5 2 _ rfl
      obtain ⟨u4, hu4, s4⟩ := b5 4 _ rfl
      cases s2
      cases s4
      rw [b4a] at hu2 hu4
      refine ⟨bq, Lb, rk, a2, hLb, b4a, List.mem_filterMap.2 ⟨e, he, by rw [a2]; simp [hLb]⟩, (Array.getElem?_eq_some_iff.1 b1).1, .ofNat k, .ofNat s, by simpa [World.cell?, b1] using hu2, by simpa [World.cell?, b1] using hu4, ?_⟩
      rw [show (Int.ofNat k * Int.ofNat s : Int) = ((k * s : Nat) : Int) from (Int.natCast_mul k s).symm, a4]; simp [wrap64, IntKind.wrap, IntKind.bits, IntKind.signed]
    have hRd : ∀ e ∈ es, ∀ v, VRel E e.val v → blkR (fun x => x ∈ binsOf E es) v = some (.lit (.bool true), []) := fun e he v hv => by
      obtain ⟨bq, Lb, rk, e1, e2, e3, e4, _⟩ := hbasin e he
      rw [e1] at hv
      cases hv with
      | agg hl =>
        rename_i cs
        obtain ⟨l⟩ := cs
        cases hl with
        | cons r1 t1 => cases t1 with
          | cons r2 t2 =>
            cases t2
            cases r1 with
            | ptr hLx =>
              rw [e2] at hLx; injection hLx with hLx; subst hLx
              cases r2
              rw [e3]
              simp [blkR, e4]
    have hcl : ∀ {j : Nat} {v : Value}, c[0 + j]? = some v → w.cell? ⟨L.block, j, none⟩ = some v := fun hj => by simpa [World.cell?, g1] using hj
    have tail : (∀ x, x ∈ binsOf E es → x < w.heap.size ∧ ∃ k s, w.cell? ⟨x, 2, none⟩ = some (.int .i64 k) ∧ w.cell? ⟨x, 4, none⟩ = some (.int .i64 s) ∧ wrap64 (k * s) = 4) ∧ (keysN es).Nodup ∧ ∀ n ∈ keysN es, n ∈ tens := by
      refine ⟨fun x hx => ?_, apartN_ok h2, fun n hn => ?_⟩
      · obtain ⟨e, he, hx⟩ := List.mem_filterMap.1 hx
        obtain ⟨bq, Lb, rk, e1, e2, e3, e4, e5, e6⟩ := hbasin e he
        rw [e1] at hx
        simp [e2] at hx
        subst hx
        exact ⟨e5, e6⟩
      · rw [keysN_eq] at hn
        obtain ⟨e, he, rfl⟩ := List.mem_map.1 hn
        obtain ⟨n, k1, k2, k3, k4⟩ := keyIs e he
        rw [k2]; exact k3
    have tl : ∀ n ∈ tens, n < 4294967296 := by decide
    by_cases hlen : (keysN es).length ≤ 1000
    · have hlen' : es.length = (keysN es).length := by rw [keysN_eq, List.length_map]
      obtain ⟨D0, d1, d2, d3⟩ := map_ownR (R := blkR fun x => x ∈ binsOf E es) ho (by omega) (fun e he => let ⟨n, k1, k2, k3, k4⟩ := keyIs e he; ⟨n, k1, tl n k3⟩) hn hb (fun e he => let ⟨n, k1, k2, k3, k4⟩ := keyIs e he; k4) hRd
      refine ⟨D0, g4a, hcl hv1, hcl hv2, hcl hv4, (Array.getElem?_eq_some_iff.1 g1).1, fun _ => ⟨d1, by omega, fun x => ?_⟩, tail⟩
      rw [d3 x]
      constructor
      · rintro ⟨e, he, hk⟩
        obtain ⟨n, k1, k2, k3, k4⟩ := keyIs e he
        refine ⟨n, by rw [keysN_eq]; exact List.mem_map.2 ⟨e, he, k2⟩, ?_⟩
        rw [k1] at hk; injection hk with _ hk; exact hk.symm
      · rintro ⟨n, hn', rfl⟩
        rw [keysN_eq] at hn'
        obtain ⟨e, he, hk⟩ := List.mem_map.1 hn'
        obtain ⟨n', k1, k2, k3, k4⟩ := keyIs e he
        exact ⟨e, he, by rw [k1]; rw [← hk, k2]⟩
    · exact ⟨.lit (.bool true), g4a, hcl hv1, hcl hv2, hcl hv4, (Array.getElem?_eq_some_iff.1 g1).1, fun h => (hlen h).elim, tail⟩

theorem nats_of : ∀ {ss : List Int}, (∀ x ∈ ss, ∃ n : Nat, x = Int.ofNat n) → ∃ l : List Nat, ss = l.map Int.ofNat
  | [], _ => ⟨[], rfl⟩
  | x :: ss, h => by
    obtain ⟨n, rfl⟩ := h x (by simp)
    obtain ⟨l, rfl⟩ := nats_of (ss := ss) fun y hy => h y (by simp [hy])
    exact ⟨n :: l, rfl⟩
theorem perm_len {D0 : DataW Unit} {ks : List Nat} {ss : List Int} (hC : CollU D0 (fun _ => false) ss) (hk : ks.Nodup) (h : ∀ x : Int, has D0 (.int .u32 x) = true ↔ ∃ n ∈ ks, x = Int.ofNat n) : ∃ l : List Nat, ss = l.map Int.ofNat ∧ l.Nodup ∧ (∀ n, n ∈ l ↔ n ∈ ks) ∧ l.length = ks.length := by
  obtain ⟨l, rfl⟩ := nats_of (ss := ss) fun x hx => let ⟨n, _, e⟩ := (h x).1 ((hC.2 x).1 hx).1; ⟨n, e⟩
  have hn : l.Nodup := List.Pairwise.of_map Int.ofNat (fun a b h e => h (by rw [e])) hC.1
  have hm : ∀ n, n ∈ l ↔ n ∈ ks := fun n => by
    have h1 := hC.2 (Int.ofNat n)
    have h2 := h (Int.ofNat n)
    constructor
    · intro hl
      obtain ⟨n', g, e⟩ := h2.1 (h1.1 (List.mem_map.2 ⟨n, hl, rfl⟩)).1
      injection e with e; rw [e]; exact g
    · intro hl
      obtain ⟨n', g, e⟩ := List.mem_map.1 (h1.2 ⟨h2.2 ⟨n, hl, rfl⟩, rfl⟩)
      injection e with e; rw [← e]; exact g
  exact ⟨l, rfl, hn, hm, ((List.perm_ext_iff_of_nodup hn hk).2 hm).length_eq⟩

/-- what no old block turns stays -/
theorem Rel.kept {E : Env} {aw : AW} {w w' : World} (hR : Rel E aw w) (h1 : w'.os = w.os) (h2 : w'.output = w.output) (h : ∀ k, k < w.heap.size → w'.heap[k]? = w.heap[k]?) : Rel E aw w' :=
  hR.move ((show Same w _ from ⟨h1, h2⟩).ns hR.ns) (fun j x Lj hj hLj ho hx => ho.heap (h _ (ho.lt hx))) (fun b o hbo => by
    have := hR.frame b o hbo
    rw [h b (Array.getElem?_eq_some_iff.1 this).1]; exact this) (fun b x hbx => let q := (hR.tok.1 b x hbx).1; q.heap (h b q.lt))

noncomputable def g266 (args : List AV) (aw : AW) : Option ARes := match args with
  | [.ptr (some (q, 0))] => match shelfOK aw q with
    | some (_, _, ks) => bb2 (Nat.ble (countN ks) 1000) (some (.ret (.int .i64 (.ofNat (Nat.mul 4 (countN ks)))) aw)) none
    | none => none
  | _ => none
theorem s266 : ∀ args aw res, g266 args aw = some res → callable Tryz.prog 266 = true ∧ ∀ E w cargs, LRel E args cargs → Rel E aw w →
    Calls Tryz.prog 266 cargs.toArray w fun e w' => ∃ E', E.Le E' ∧ ResRel E' res e w' := by
  intro args aw res h
  unfold g266 at h
  split at h <;> (try (cases h; done))
  rename_i q
  split at h <;> (try (cases h; done))
  rename_i F B ks hq
  rw [bb2_eq] at h
  cases hl : Nat.ble (countN ks) 1000 <;> simp only [hl, cond_true, cond_false, reduceCtorEq, Option.some.injEq] at h
  have hl := Nat.le_of_ble_eq_true hl
  rw [countN_eq] at hl h
  subst h
  refine ⟨by kernel_rfl, fun E w cargs hr hR => ?_⟩
  cases hr with
  | cons r1 t1 =>
    cases t1
    cases r1 with
    | ptr hL =>
      rename_i L
      obtain ⟨bl, b, nn, D0, f0, f1, f2, f3, f4, f5, f6, f7, f8⟩ := shelfSaid hR hq hL
      obtain ⟨d1, d2, d3⟩ := f5 hl
      rw [f0]
      refine (bytes266 (fun x => x ∈ bl) (blkR fun x => x ∈ bl) (fun v y h => blkR_inv h) L.block b nn 4 D0 w f3 f4 d1 (by omega) (by omega) (by omega) f6).mono fun e w' ⟨ss, h1, h2, h3, h4⟩ => ?_
      obtain ⟨l, rfl, _, _, hlen⟩ := perm_len h1 f7 d3
      refine ⟨E, .refl E, ?_⟩
      rw [h3]
      refine ⟨hR.kept h4.os h4.output h4.block, ?_⟩
      rw [List.length_map, hlen]
      exact .int _ _

noncomputable def g186 (args : List AV) (aw : AW) : Option ARes := match args with
  | [.ptr (some (q, 0)), .agg [.int .u32 _, .int .i64 _, .int .i64 (.ofNat y)]] => match shelfOK aw q with
    | some (F, B, ks) => bb2 (Nat.ble (countN ks) 5) (bb2 (Nat.ble (Nat.succ (countN ks)) F) (bb2 (Nat.ble (Nat.add (Nat.mul 4 (countN ks)) y) B) (bb2 (Nat.ble B 1000000) (some (.ret (.tuple [.slc none 0 (.known 0), .bool true]) aw)) none) none) none) none
    | none => none
  | _ => none
theorem s186 : ∀ args aw res, g186 args aw = some res → callable Tryz.prog 186 = true ∧ ∀ E w cargs, LRel E args cargs → Rel E aw w →
    Calls Tryz.prog 186 cargs.toArray w fun e w' => ∃ E', E.Le E' ∧ ResRel E' res e w' := by
  intro args aw res h
  unfold g186 at h
  split at h <;> (try (cases h; done))
  rename_i q i rk y
  split at h <;> (try (cases h; done))
  rename_i F B ks hq
  simp only [bb2_eq] at h
  cases k1 : Nat.ble (countN ks) 5 <;> simp only [k1, cond_true, cond_false, reduceCtorEq] at h
  cases k2 : Nat.ble (Nat.succ (countN ks)) F <;> simp only [k2, cond_true, cond_false, reduceCtorEq] at h
  cases k3 : Nat.ble (Nat.add (Nat.mul 4 (countN ks)) y) B <;> simp only [k3, cond_true, cond_false, reduceCtorEq] at h
  cases k4 : Nat.ble B 1000000 <;> simp only [k4, cond_true, cond_false, reduceCtorEq, Option.some.injEq] at h
  have k1 := Nat.le_of_ble_eq_true k1
  have k2 : countN ks + 1 ≤ F := Nat.le_of_ble_eq_true k2
  have k3 : 4 * countN ks + y ≤ B := Nat.le_of_ble_eq_true k3
  have k4 := Nat.le_of_ble_eq_true k4
  rw [countN_eq] at k1 k2 k3
  subst h
  refine ⟨by kernel_rfl, fun E w cargs hr hR => ?_⟩
  cases hr with
  | cons r1 t1 =>
    cases t1 with
    | cons r2 t2 =>
      cases t2
      cases r1 with
      | ptr hL =>
        rename_i L
        cases r2 with
        | agg hl =>
          rename_i cs
          obtain ⟨cl⟩ := cs
          cases hl with
          | cons p1 t1 => cases t1 with
            | cons p2 t2 => cases t2 with
              | cons p3 t3 =>
                cases t3
                cases p1; cases p2; cases p3
                obtain ⟨bl, b, nn, D0, f0, f1, f2, f3, f4, f5, f6, f7, f8⟩ := shelfSaid hR hq hL
                obtain ⟨d1, d2, d3⟩ := f5 (by omega)
                rw [f0]
                have m1 : (Maps.size D0 : Int) < Int.ofNat F := by rw [d2]; exact Int.ofNat_lt.2 (by omega)
                have m2 : 4 * (Maps.size D0 : Int) + Int.ofNat y ≤ Int.ofNat B := by
                  rw [d2]
                  have : (4 * (ks.length : Int) + (y : Int) ≤ (B : Int)) := by omega
                  exact this
                have m3 : (Int.ofNat B : Int) ≤ 1000000 := Int.ofNat_le.2 k4
                refine (room186R (fun x => x ∈ bl) L.block b nn D0 i rk (.ofNat y) (.ofNat F) (.ofNat B) w f3 f1 f2 f4 d1 (by omega) f6 (fun W v ss hC hs hW hrow => ?_) m1 ⟨Int.natCast_nonneg _, m2, m3⟩).mono fun e w' ⟨h1, h2, h3, h4⟩ => ?_
                · exact sort158R (w.heap.size + 2) W v ss (by omega) hW hrow
                · exact ⟨E, .refl E, by rw [h1]; exact ⟨hR.kept h2 h3 h4, .tuple (.cons .nilSlc (.cons (.bool _) .nil))⟩⟩
end Go.Proofs.YtbilacojhmohmaaGreat.Ae
