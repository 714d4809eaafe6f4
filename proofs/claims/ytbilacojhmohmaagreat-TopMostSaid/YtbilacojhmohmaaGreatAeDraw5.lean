/- Regions that draw their order: one operation, in whatever order it comes up. No condition. -/
import Derived.Test.YtbilacojhmohmaaGreatAeDraw4
namespace Go.Proofs.YtbilacojhmohmaaGreat.Ae
open Go
set_option linter.unusedVariables false
set_option linter.unusedSimpArgs false

mutual
theorem VRel.loc {l : List Loc} {s : SymW} {f f' : Nat → Option Obj} : ∀ {a v}, VRel ⟨l, s, f⟩ a v → VRel ⟨l, s, f'⟩ a v
  | _, _, .undef v => .undef v
  | _, _, .int k n => .int k n
  | _, _, .sym k h hw => .sym k h hw
  | _, _, .bool b => .bool b
  | _, _, .str h => .str (LRel.loc h)
  | _, _, .nilPtr => .nilPtr
  | _, _, .ptr h => .ptr h
  | _, _, .nilSlc => .nilSlc
  | _, _, .slc h ha => .slc h ha
  | _, _, .slcUp h hl hlo ha => .slcUp h hl hlo ha
  | _, _, .nilMap => .nilMap
  | _, _, .map h hb => .map h hb
  | _, _, .func fn hf hc => .func fn (LRel.loc hf) (LRel.loc hc)
  | _, _, .nilFunc => .nilFunc
  | _, _, .iface t h => .iface t (VRel.loc h)
  | _, _, .nilIface => .nilIface
  | _, _, .agg h => .agg (LRel.loc h)
  | _, _, .tuple h => .tuple (LRel.loc h)
theorem LRel.loc {l : List Loc} {s : SymW} {f f' : Nat → Option Obj} : ∀ {a v}, LRel ⟨l, s, f⟩ a v → LRel ⟨l, s, f'⟩ a v
  | _, _, .nil => .nil
  | _, _, .cons h t => .cons (VRel.loc h) (LRel.loc t)
end
theorem VRel.fr {E : Env} {f : Nat → Option Obj} {a : AV} {v : Value} (h : VRel E a v) : VRel { E with fr := f } a v := VRel.loc h
theorem LRel.fr {E : Env} {f : Nat → Option Obj} {a : List AV} {v : List Value} (h : LRel E a v) : LRel { E with fr := f } a v := LRel.loc h
theorem ERel.fr {E : Env} {f : Nat → Option Obj} : ∀ {l m}, ERel E l m → ERel { E with fr := f } l m
  | _, _, .nil => .nil
  | _, _, .cons hk hv hb t => .cons hk.fr hv.fr hb (ERel.fr t)
theorem DRel.fr {E : Env} {f : Nat → Option Obj} : ∀ {l m}, DRel E l m → DRel { E with fr := f } l m
  | _, _, .nil => .nil
  | _, _, .cons ht ha t => .cons ht ha.fr (DRel.fr t)
theorem ORel.fr {E : Env} {f : Nat → Option Obj} {L : Loc} {w : World} : ∀ {o : AO}, ORel E L w o → ORel { E with fr := f } L w o
  | .cells .., ⟨c, fz, h1, h2, h3, h4, h5⟩ => ⟨c, fz, h1, h2, h3, h4, fun i a hi => let ⟨v, hv, hr⟩ := h5 i a hi; ⟨v, hv, hr.fr⟩⟩
  | .map .., ⟨h0, c, h1, h2⟩ => ⟨h0, c, h1, h2.fr⟩
  | .iter .., ⟨h0, c, h1, h2⟩ => ⟨h0, c, h1, h2.fr⟩
  | .dead, _ => trivial

/-- a new block that only the frame knows -/
theorem Rel.ghost {E : Env} {aw : AW} {w : World} (h : Rel E aw w) (obj : Obj) : Rel { E with fr := fun x => if x = w.heap.size then some obj else E.fr x } aw (w.alloc obj) := by
  have hold : ∀ b, b < w.heap.size → (w.alloc obj).heap[b]? = w.heap[b]? := fun b hb => by
    show (w.heap.push _)[b]? = _
    rw [Array.getElem?_push, if_neg (Nat.ne_of_lt hb)]
  refine ⟨h.nx, (show Same w (w.alloc obj) from ⟨rfl, rfl⟩).ns h.ns, fun id o hg => ?_, h.inj, fun b o hb => ?_, fun i oi Li hi li ei => ?_⟩
  · obtain ⟨L, hL, hr⟩ := h.obj id o hg
    refine ⟨L, hL, ?_⟩
    cases ho : o.live with
    | false => cases o <;> first | trivial | simp [AO.live] at ho
    | true => exact (hr.heap (hold _ (hr.lt ho))).fr
  · simp only at hb
    by_cases e : b = w.heap.size
    · rw [if_pos e] at hb; injection hb with hb; subst hb; subst e
      show (w.heap.push _)[w.heap.size]? = _
      simp
    · rw [if_neg e] at hb
      rw [hold b (Array.getElem?_eq_some_iff.1 (h.frame b o hb)).1]
      exact h.frame b o hb
  · obtain ⟨L, hL, hr⟩ := h.obj i oi hi
    have ei' : E.loc[i]? = some Li := ei
    rw [hL] at ei'; injection ei' with ei'; subst ei'
    have := hr.lt li
    simp only
    rw [if_neg (by omega)]
    exact h.apart i oi _ hi li hL
/-- the frame's block is an object from now on -/
theorem Rel.unghost {E : Env} {aw : AW} {w : World} {f0 : Nat → Option Obj} {b n : Nat} {obj : Obj} {ao : AO} (h : Rel E aw w) (hf : E.fr = fun x => if x = b then some obj else f0 x) (h0 : f0 b = none)
    (ho : ∀ E w, w.heap[b]? = some obj → ORel E ⟨b, 0, n⟩ w ao) : Rel ({ E with fr := f0 }.put ⟨b, 0, n⟩) (aw.add ao) w := by
  have hb : w.heap[b]? = some obj := h.frame b obj (by rw [hf]; simp)
  have hap : ∀ i oi Li, aw.get i = some oi → oi.live = true → E.loc[i]? = some Li → Li.block ≠ b := fun i oi Li hi li ei e => by
    have := h.apart i oi Li hi li ei
    rw [hf] at this
    simp [e] at this
  have hle : ∀ {i : Nat} {L : Loc}, E.loc[i]? = some L → ({ E with fr := f0 }.put ⟨b, 0, n⟩).loc[i]? = some L := fun hi => get_append_of hi
  have new : ({ E with fr := f0 }.put ⟨b, 0, n⟩).loc[aw.nx]? = some ⟨b, 0, n⟩ := by
    rw [h.nx]; simp [Env.put]
  have old : ∀ k ok Lk, k ≠ aw.nx → aw.get k = some ok → ({ E with fr := f0 }.put ⟨b, 0, n⟩).loc[k]? = some Lk → E.loc[k]? = some Lk := fun k ok Lk hne hk ek => by
    obtain ⟨L', hL', _⟩ := h.obj k ok hk
    rw [hle hL'] at ek; injection ek with ek; subst ek; exact hL'
  have hmono : { E with fr := f0 }.Le ({ E with fr := f0 }.put ⟨b, 0, n⟩) := Env.put_le _ _
  refine ⟨by simp [AW.add, Env.put, h.nx], h.ns, fun j x hj => ?_, fun i j oi oj Li Lj hi hj li lj ei ej e => ?_, fun b' o hb' => ?_, fun i oi Li hi li ei => ?_⟩
  · rcases AW.get_add hj with ⟨rfl, rfl⟩ | ⟨hne, hj⟩
    · exact ⟨_, new, ho _ w hb⟩
    · obtain ⟨L', hL', hr⟩ := h.obj j x hj
      exact ⟨L', hle hL', hr.fr.mono hmono⟩
  · rcases AW.get_add hi with ⟨e1, e2⟩ | ⟨hni, hi2⟩ <;> rcases AW.get_add hj with ⟨e3, e4⟩ | ⟨hnj, hj2⟩
    · rw [e1, e3]
    · rw [e1, new] at ei; injection ei with ei; subst ei
      exact (hap j oj Lj hj2 lj (old j oj Lj hnj hj2 ej) e.symm).elim
    · rw [e3, new] at ej; injection ej with ej; subst ej
      exact (hap i oi Li hi2 li (old i oi Li hni hi2 ei) e).elim
    · exact h.inj i j oi oj Li Lj hi2 hj2 li lj (old i oi Li hni hi2 ei) (old j oj Lj hnj hj2 ej) e
  · have hb'' : f0 b' = some o := hb'
    refine h.frame b' o ?_
    rw [hf]; simp only
    rw [if_neg fun e => by rw [e, h0] at hb''; cases hb'']
    exact hb''
  · show f0 Li.block = none
    rcases AW.get_add hi with ⟨e1, e2⟩ | ⟨hni, hi2⟩
    · rw [e1, new] at ei; injection ei with ei; subst ei; exact h0
    · have hE := old i oi Li hni hi2 ei
      have h1 := h.apart i oi Li hi2 li hE
      rw [hf] at h1
      simp only at h1
      rw [if_neg (hap i oi Li hi2 li hE)] at h1
      exact h1

/-! ### a late one -/
structure LateSpec (P : Program) (o : Oper) (c : COp) : Prop where
  spec : ∃ (obj : Obj) (vf : Nat → Value) (n : Nat) (rf : Nat → AV) (ao : AO), (∀ ca w, (execOp (Act.eval ca) o).run P w = .ok (.value (vf w.heap.size)) (w.alloc obj)) ∧ (∀ T aw, xop T aw c = some (rf aw.nx, aw.add ao)) ∧
    (∀ b E w, w.heap[b]? = some obj → ORel E ⟨b, 0, n⟩ w ao) ∧ (∀ E id b, E.loc[id]? = some ⟨b, 0, n⟩ → VRel E (rf id) (vf b))

theorem late_spec {P : Program} {ops : Array Oper} {o : Oper} {it : CR} (hop : lateOp o.op = true) (hg : o.guard = none) (hit : cItem P ops o = some it) : ∃ c, it = .op o.dst none c ∧ LateSpec P o c := by
  unfold lateOp at hop
  split at hop
  · rename_i t ht
    unfold cItem at hit
    simp only [ht, hg, cGuard] at hit
    split at hit <;> (try (cases hit; done))
    rename_i c hc
    simp at hit; subst hit
    refine ⟨c, rfl, ?_⟩
    simp only [cOp, ht] at hc
    split at hc <;> (try (cases hc; done))
    rename_i z az hz
    split at hc <;> (try (cases hc; done))
    rename_i l hl
    simp at hc; subst hc
    refine ⟨.cells z.cells t (0, 0), fun b => .pointer (some ⟨b, 0, none⟩), z.cells.size, fun id => .ptr (some (id, 0)), .cells l t false, fun ca w => ?_, fun T aw => rfl, fun b E w hb => ?_, fun E id b hL => ?_⟩
    · simp only [execOp, ht]
      simp [Instr.alloc, run_zeroValue' hz, newVar, newRow]
    · have hcl := (zeroP_rel hz E).cells hl
      have hlen := hcl.length
      simp at hlen
      refine ⟨z.cells, (0, 0), ⟨hb, .inl rfl⟩, rfl, by simp; omega, fun _ => ⟨rfl, hlen⟩, fun i a hi => ?_⟩
      obtain ⟨v, hv, hr⟩ := hcl.get hi
      exact ⟨v, by simpa using hv, hr⟩
    · exact VRel.ptr (L := ⟨b, 0, z.cells.size⟩) (o := 0) hL
  · rename_i t ht
    unfold cItem at hit
    simp only [ht, hg, cGuard] at hit
    split at hit <;> (try (cases hit; done))
    rename_i c hc
    simp at hit; subst hit
    refine ⟨c, rfl, ?_⟩
    simp only [cOp, ht, Option.some.injEq] at hc
    subst hc
    refine ⟨.map #[] 0, fun b => .map (some b), 0, fun id => .map (some id), .map [] 0, fun ca w => ?_, fun T aw => rfl, fun b E w hb => ⟨rfl, #[], hb, .nil⟩, fun E id b hL => VRel.map (L := ⟨b, 0, 0⟩) hL rfl⟩
    simp only [execOp, ht]
    simp [Instr.makeMap]
  · cases hop
end Go.Proofs.YtbilacojhmohmaaGreat.Ae
