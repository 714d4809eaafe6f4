/- Summary: the keys of a map of one entry at most. No condition. -/
import Derived.Test.YtbilacojhmohmaaGreatBeSeal
import Derived.Maps.Range
namespace Go.Proofs.YtbilacojhmohmaaGreat.Ae
open Go Go.Maps Go.RowKit
open Go.WideElems (Fit rd rg)
set_option linter.unusedVariables false
set_option linter.unusedSimpArgs false

def anyR : Value → Option (DataW Unit × List MemPlace) := fun _ => some (.lit (.bool true), [])
theorem ERel.get2 {E : Env} : ∀ {l : List AEnt} {m : List MapEntry}, ERel E l m → l.length = m.length ∧ ∀ (i : Nat) (e : AEnt), l[i]? = some e → ∃ f, m[i]? = some f ∧ VRel E e.key f.key ∧ VRel E e.val f.val ∧ e.born = f.born
  | _, _, .nil => ⟨rfl, fun i e h => by simp at h⟩
  | _, _, .cons hk hv hb t => by
    obtain ⟨h1, h2⟩ := ERel.get2 t
    refine ⟨by simp [h1], fun i e h => ?_⟩
    cases i with
    | zero => simp at h; subst h; exact ⟨_, rfl, hk, hv, hb⟩
    | succ i => simp at h; simpa using h2 i e h
set_option maxRecDepth 100000 in
/-- a map whose keys are whole numbers of 32 bits: what the kit's laws ask -/
theorem map_own {E : Env} {w : World} {L : Loc} {es : List AEnt} {clock : Nat} (h : ORel E L w (.map es clock)) (hlen : es.length ≤ 1000) (hk : ∀ e ∈ es, ∃ n : Nat, e.key = .int .u32 (.ofNat n) ∧ n < 4294967296) (hn : (es.map fun e => e.key).Nodup) (hb : (es.map fun e => e.born).Nodup) (hc : ∀ e ∈ es, e.born < clock) :
    ∃ D0, w.ownsMap Tryz.prog 28 anyR L.block es.length D0 ∧ Maps.size D0 = es.length ∧ ∀ x : Int, has D0 (.int .u32 x) = true ↔ ∃ e ∈ es, e.key = .int .u32 x := by
  obtain ⟨_, ces, hh, hr⟩ := h
  obtain ⟨hl, hg⟩ := hr.get2
  have back : ∀ f ∈ ces.toList, ∃ e ∈ es, ∃ n : Nat, e.key = .int .u32 (.ofNat n) ∧ n < 4294967296 ∧ f.key = .int .u32 (.ofNat n) ∧ e.born = f.born := fun f hf => by
    obtain ⟨i, hi, rfl⟩ := List.mem_iff_getElem.1 hf
    obtain ⟨f', h1, h2, h3, h4⟩ := hg i (es[i]'(by omega)) (List.getElem?_eq_getElem _)
    rw [List.getElem?_eq_getElem hi] at h1; injection h1 with h1; subst h1
    obtain ⟨n, h5, h6⟩ := hk (es[i]'(by omega)) (List.getElem_mem (by omega))
    rw [h5] at h2
    generalize hq : (ces.toList[i]).key = q at h2
    cases h2
    exact ⟨es[i]'(by omega), List.getElem_mem (by omega), n, h5, h6, rfl, h4⟩
  have hrd : ∀ f ∈ ces.toList, ∃ n : Nat, f.key = .int .u32 (.ofNat n) ∧ rd Tryz.prog 28 anyR f = some (.int .u32 (.ofNat n), .lit (.bool true)) := fun f hf => by
    obtain ⟨e, _, n, _, h2, h3, _⟩ := back f hf
    refine ⟨n, h3, ?_⟩
    have hw : (Lit.int .u32 (.ofNat n)).wf = true := by
      have e : (Int.ofNat n : Int) = (n : Int) := rfl
      rw [e]
      have h1 : IntKind.min .u32 = 0 := rfl
      have h2 : IntKind.max .u32 = 4294967295 := rfl
      simp only [Lit.wf, h1, h2]
      simp
      omega
    have : keyOf Tryz.prog 28 f.key = some (.int .u32 (.ofNat n)) := by
      rw [h3]
      have hw2 : (Lit.int .u32 (n : Int)).wf = true := hw
      simp [keyOf, Tryz.underlying28, mapKey, hw2]
    simp [rd, this, anyR]
  have hst : MapKept.Stamped ces clock := by
    have e1 : ces.toList.map (·.born) = es.map (·.born) := by
      apply List.ext_getElem?
      intro i
      by_cases hi : i < es.length
      · obtain ⟨f, h1, _, _, h4⟩ := hg i es[i] (List.getElem?_eq_getElem hi)
        rw [List.getElem?_map, List.getElem?_map, h1, List.getElem?_eq_getElem hi]
        simp [h4]
      · rw [List.getElem?_eq_none (by simp at hl ⊢; omega), List.getElem?_eq_none (by simp; omega)]
    have e2 : (ces.toList.map (·.key)).Nodup := by
      refine List.pairwise_iff_getElem.2 fun i j hi hj hij => ?_
      simp only [List.length_map] at hi hj
      have := List.pairwise_iff_getElem.1 hn i j (by simp; omega) (by simp; omega) hij
      obtain ⟨f, h1, h2, _, _⟩ := hg i (es[i]'(by omega)) (List.getElem?_eq_getElem _)
      obtain ⟨f', h1', h2', _, _⟩ := hg j (es[j]'(by omega)) (List.getElem?_eq_getElem _)
      obtain ⟨n, h5, _⟩ := hk (es[i]'(by omega)) (List.getElem_mem (by omega))
      obtain ⟨n', h5', _⟩ := hk (es[j]'(by omega)) (List.getElem_mem (by omega))
      simp only [List.getElem_map, h5, h5'] at this
      rw [List.getElem?_eq_getElem hi] at h1; injection h1 with h1
      rw [List.getElem?_eq_getElem hj] at h1'; injection h1' with h1'
      rw [List.getElem_map, List.getElem_map, h1, h1']
      rw [h5] at h2; rw [h5'] at h2'
      obtain ⟨k1, v1, b1⟩ := f; obtain ⟨k2, v2, b2⟩ := f'
      simp only at h2 h2'
      cases h2; cases h2'
      intro e
      injection e with _ e
      exact this (by rw [e])
    refine ⟨fun f hf => ?_, by rw [e1]; exact hb, e2⟩
    obtain ⟨e, he, _, _, _, _, h4⟩ := back f hf
    rw [← h4]; exact hc e he
  have hlc : ces.toList.length = es.length := hl.symm
  have hfit : Fit Tryz.prog 28 anyR ces clock := ⟨by
      have h1 : 1000 ≤ maxLen := by decide
      have h2 : ces.size = es.length := by rw [← hlc, Array.length_toList]
      omega, hst, fun f hf => let ⟨n, _, h⟩ := hrd f hf; ⟨_, h⟩⟩
  refine ⟨_, ⟨ces, clock, hh, hfit, (by rw [← hlc, Array.length_toList]; exact Nat.le_refl _), rfl⟩, by show (List.foldr DataW.insert [] (ces.toList.map _)).length = _; rw [length_sorted, List.length_map]; exact hlc, fun x => ?_⟩
  rw [has_eq, List.any_eq_true]
  constructor
  · rintro ⟨p, hp, hs⟩
    rw [mem_sorted] at hp
    obtain ⟨f, hf, rfl⟩ := List.mem_map.1 hp
    obtain ⟨n, h3, h4⟩ := hrd f hf
    obtain ⟨e, he, n', h5, _, h6, _⟩ := back f hf
    rw [WideElems.rg_of h4] at hs
    have hx : Int.ofNat n = x := by simpa [Lit.sameKey] using hs
    rw [h3] at h6
    have : n = n' := by injection h6 with _ q; injection q
    subst this
    exact ⟨e, he, by rw [h5, hx]⟩
  · rintro ⟨e, he, hx⟩
    obtain ⟨i, hi, rfl⟩ := List.mem_iff_getElem.1 he
    obtain ⟨f, h1, h2, _, _⟩ := hg i es[i] (List.getElem?_eq_getElem hi)
    have hf : f ∈ ces.toList := List.mem_of_getElem? h1
    obtain ⟨n, h3, h4⟩ := hrd f hf
    refine ⟨rg Tryz.prog 28 anyR f, mem_sorted.2 (List.mem_map.2 ⟨f, hf, rfl⟩), ?_⟩
    rw [WideElems.rg_of h4]
    rw [hx, h3] at h2
    have : x = Int.ofNat n := by cases h2; rfl
    subst this
    simp [Lit.sameKey]

noncomputable def g358 (args : List AV) (aw : AW) : Option ARes := match args with
  | [.slc none 0 (.known 0), .func (.func 319) [] [.ptr (some (q, 0))]] => match awGet aw q with
    | some (.cells [.map (some m)] _ false) => match awGet aw m with
      | some (.map [] _) => some (.ret (.slc none 0 (.known 0)) aw)
      | some (.map [⟨.int .u32 (.ofNat n), _, b⟩] clock) => bb2 (Nat.ble n 4294967295) (bb2 (Nat.ble (Nat.succ b) clock) (some (.ret (.slc (some (aw.nx, 0)) 1 (.upto 1 1)) (awAdd aw (.cells [.int .u32 (.ofNat n)] 28 true)))) none) none
      | _ => none
    | _ => none
  | _ => none
theorem s358 : ∀ args aw res, g358 args aw = some res → callable Tryz.prog 358 = true ∧ ∀ E w cargs, LRel E args cargs → Rel E aw w →
    Calls Tryz.prog 358 cargs.toArray w fun e w' => ∃ E', E.Le E' ∧ ResRel E' res e w' := by
  intro args aw res h
  unfold g358 at h
  split at h <;> (try (cases h; done))
  rename_i q
  rw [awGet_eq] at h
  split at h <;> (try (cases h; done))
  rename_i m et hq
  rw [awGet_eq] at h
  refine ⟨by kernel_rfl, fun E w cargs hr hR => ?_⟩
  cases hr with
  | cons r1 t1 => cases t1 with
    | cons r2 t2 =>
      cases t2
      cases r1
      cases r2 with
      | func _ hf hc =>
        rename_i f' c'
        have ef : f' = #[] := by
          generalize hq2 : f'.toList = fl at hf
          cases hf
          exact Array.toList_inj.1 (by rw [hq2])
        subst ef
        generalize hq3 : c'.toList = cl at hc
        cases hc with
        | cons p1 t1 =>
          cases t1
          cases p1 with
          | ptr hLq =>
            rename_i Lq
            have ec : c' = #[.pointer (some ⟨Lq.block, Lq.base + 0, none⟩)] := Array.toList_inj.1 (by rw [hq3])
            subst ec
            obtain ⟨L', hL', c, fz, ⟨g1, _⟩, g2, g3, g4, g5⟩ := hR.obj q _ hq
            rw [hLq] at hL'; injection hL' with hL'; subst hL'
            obtain ⟨g4a, g4b⟩ := g4 rfl
            obtain ⟨v, hv, hvr⟩ := g5 0 _ rfl
            cases hvr with
            | map hLm hbm =>
              rename_i Lm
              have hcell : w.cell? ⟨Lq.block, 0, none⟩ = some (.map (some Lm.block)) := by
                rw [g4a] at hv
                simpa [World.cell?, g1] using hv
              have hlt : Lq.block < w.heap.size := (Array.getElem?_eq_some_iff.1 g1).1
              rw [g4a]
              have main : ∀ es clock, aw.get m = some (.map es clock) → es.length ≤ 1 → (∀ e ∈ es, ∃ n : Nat, e.key = .int .u32 (.ofNat n) ∧ n < 4294967296) → (∀ e ∈ es, e.born < clock) →
                  Calls Tryz.prog 358 #[.slice none 0 0, .func (.func 319) #[] #[.pointer (some ⟨Lq.block, 0, none⟩)]] w fun e W' => ∃ v ss, e = .returned v ∧ (ss.Nodup ∧ ∀ x, x ∈ ss ↔ ∃ e ∈ es, e.key = .int .u32 x) ∧ W'.ownsRow w.heap.size 28 1 v ss.length (ss.map encU) ∧ (v = .slice none 0 0 ↔ ss = []) ∧ Below w.heap.size w W' := fun es clock hm hle hk hc => by
                obtain ⟨Lm', hLm', ho⟩ := hR.obj m _ hm
                rw [hLm] at hLm'; injection hLm' with hLm'; subst hLm'
                have hnd : ∀ {β : Type} (f : AEnt → β), (es.map f).Nodup := fun f => by
                  rcases es with _ | ⟨e, _ | ⟨e2, es⟩⟩
                  · simp
                  · simp
                  · simp at hle
                obtain ⟨D0, d1, d2, d3⟩ := map_own ho (by omega) hk (hnd _) (hnd _) hc
                refine (append358 Lq.block Lm.block es.length D0 w hlt hcell d1 (by omega)).mono fun e W' ⟨v, ss, e1, e2, e3, e4, e5⟩ => ⟨v, ss, e1, ⟨e2.1, fun x => ?_⟩, e3, e4, e5⟩
                rw [e2.2 x, ← d3 x]; simp
              have stay : ∀ {W' : World}, Below w.heap.size w W' → Rel E aw W' := fun hb => hR.move ((show Same w _ from ⟨hb.os, hb.output⟩).ns hR.ns) (fun j x Lj hj hLj ho hx => ho.heap (hb.block _ (ho.lt hx))) (fun b o hbo => by
                have := hR.frame b o hbo
                rw [hb.block b (Array.getElem?_eq_some_iff.1 this).1]; exact this) (fun b x hbx => let q := (hR.tok.1 b x hbx).1; q.heap (hb.block b q.lt))
              split at h <;> (try (cases h; done))
              · rename_i clock hm
                simp only [Option.some.injEq] at h; subst h
                refine (main [] clock hm (by simp) (by simp) (by simp)).mono fun e W' ⟨v, ss, e1, e2, e3, e4, e5⟩ => ?_
                have : ss = [] := by
                  cases ss with
                  | nil => rfl
                  | cons x ss => have := (e2.2 x).1 (by simp); simp at this
                have := e4.2 this; subst this; subst e1
                exact ⟨E, .refl E, stay e5, .nilSlc⟩
              · rename_i n val b clock hm
                simp only [bb2_eq] at h
                cases hb1 : Nat.ble n 4294967295 <;> simp only [hb1, cond_true, cond_false, reduceCtorEq] at h
                cases hb2 : Nat.ble (Nat.succ b) clock <;> simp only [hb2, cond_true, cond_false, reduceCtorEq, Option.some.injEq] at h
                have hb1 := Nat.le_of_ble_eq_true hb1
                have hb2 := Nat.le_of_ble_eq_true hb2
                subst h
                rw [awAdd_eq]
                refine (main [⟨.int .u32 (.ofNat n), val, b⟩] clock hm (by simp) (fun e he => by simp at he; subst he; exact ⟨n, rfl, by omega⟩) (fun e he => by simp at he; subst he; exact hb2)).mono fun e W' ⟨v, ss, e1, e2, e3, e4, e5⟩ => ?_
                have hss : ss = [Int.ofNat n] := by
                  have hmem : Int.ofNat n ∈ ss := (e2.2 _).2 ⟨⟨.int .u32 (.ofNat n), val, b⟩, List.mem_singleton.2 rfl, rfl⟩
                  have hall : ∀ x ∈ ss, x = Int.ofNat n := fun x hx => by
                    obtain ⟨e, he, hk⟩ := (e2.2 x).1 hx
                    simp at he; subst he
                    injection hk with _ hk; exact hk.symm
                  rcases ss with _ | ⟨a, _ | ⟨b', ss⟩⟩
                  · simp at hmem
                  · rw [hall a (by simp)]
                  · have h1 := hall a (by simp)
                    have h2 := hall b' (by simp)
                    have := e2.1
                    rw [h1, h2] at this
                    simp at this
                subst hss; subst e1
                rcases e3.2 with ⟨rfl, h0⟩ | ⟨gb, cap, cur, rfl, q1, q2, q3, q4, q5, q6⟩
                · simp at h0
                · have hcur : cur[0]? = some (.int .u32 (.ofNat n)) := by
                    have : (cur.toList.take (1 * 1))[0]? = ([encU (Int.ofNat n)] : List Value)[0]? := by
                      have q6' : cur.toList.take (1 * 1) = [encU (Int.ofNat n)] := q6
                      rw [q6']
                    simpa using this
                  have hcap : 1 ≤ cap := q3
                  refine ⟨E.put ⟨gb, 0, cap⟩, E.put_le _, (stay e5).addAt (fun j x Lj hj hx hLj e => ?_) ?_ ?_ ⟨cur, (0, 0), ⟨q2, .inl rfl⟩, by simp [q5], by simp [q5]; omega, (fun q => by cases q), fun i a ha => ?_⟩, ?_⟩
                  · obtain ⟨L', hL', ho⟩ := hR.obj j x hj
                    rw [hLj] at hL'; injection hL' with hL'; subst hL'
                    have := ho.lt hx
                    rw [e] at this
                    simp only at this
                    omega
                  · cases hq7 : E.fr gb with
                    | none => rfl
                    | some ob =>
                      have := (Array.getElem?_eq_some_iff.1 (hR.frame _ _ hq7)).1
                      omega
                  · cases hq7 : E.tk gb with
                    | none => rfl
                    | some ob =>
                      have := (hR.tok.1 _ _ hq7).1.lt
                      omega
                  · cases i with
                    | zero => simp at ha; subst ha; exact ⟨_, by simpa using hcur, .int _ _⟩
                    | succ i => simp at ha
                  · refine .slcUp (L := ⟨gb, 0, cap⟩) (by rw [hR.nx]; exact E.put_new _) hcap hcap (.inr ⟨rfl, by simp⟩)
end Go.Proofs.YtbilacojhmohmaaGreat.Ae
