/- What readers say of packets that are known, byte for byte: told once. No condition. -/
import Derived.Test.YtbilacojhmohmaaGreatAeTop2
import Derived.KernelRfl
namespace Go.Proofs.YtbilacojhmohmaaGreat.Ae
open Go
set_option linter.unusedVariables false
set_option linter.unusedSimpArgs false

/-- a struct that holds one slice, and a number -/
def withS (pre post : List AV) (j m : Nat) (c : Cap) (y : AV) : AV := .tuple [.agg (pre ++ .slc (some (j, 0)) m c :: post), y]
theorem slc_move {E1 E2 : Env} {k j m : Nat} {c : Cap} {L : Loc} {cv : Value} (h : VRel E1 (.slc (some (k, 0)) m c) cv) (h1 : E1.loc[k]? = some L) (h2 : E2.loc[j]? = some L) : VRel E2 (.slc (some (j, 0)) m c) cv := by
  cases h with
  | slc hL ha => rw [h1] at hL; injection hL with hL; subst hL; exact .slc h2 ha
  | slcUp hL a b d => rw [h1] at hL; injection hL with hL; subst hL; exact .slcUp h2 a b d
theorem withS_move {E1 E2 : Env} {pre post : List AV} {k j m : Nat} {c : Cap} {y : AV} {L : Loc} {cv : Value} (hpre : plainL pre = true) (hpost : plainL post = true) (hy : y.plain = true) (h : VRel E1 (withS pre post k m c y) cv) (h1 : E1.loc[k]? = some L) (h2 : E2.loc[j]? = some L) : VRel E2 (withS pre post j m c y) cv := by
  unfold withS at h ⊢
  cases h with
  | tuple hl =>
    rename_i cs
    obtain ⟨cs⟩ := cs
    refine .tuple ?_
    cases hl with
    | cons ha t =>
      cases t with
      | cons hb t =>
        refine .cons ?_ (.cons (hb.plain hy) (by cases t; exact .nil))
        cases ha with
        | agg hl =>
          refine .agg (LRel.of_get (by have := hl.length; simpa using this) fun i a hi => ?_)
          by_cases h3 : i < pre.length
          · rw [List.getElem?_append_left h3] at hi
            obtain ⟨v, hv, hr⟩ := hl.get (i := i) (a := a) (by rw [List.getElem?_append_left h3]; exact hi)
            exact ⟨v, hv, hr.plain (plainL_get hpre hi)⟩
          · rw [List.getElem?_append_right (by omega)] at hi
            rcases hq : i - pre.length with _ | q
            · rw [hq] at hi
              simp at hi; subst hi
              obtain ⟨v, hv, hr⟩ := hl.get (i := i) (a := .slc (some (k, 0)) m c) (by rw [List.getElem?_append_right (by omega), hq]; rfl)
              exact ⟨v, hv, slc_move hr h1 h2⟩
            · rw [hq] at hi
              simp only [List.getElem?_cons_succ] at hi
              obtain ⟨v, hv, hr⟩ := hl.get (i := i) (a := a) (by rw [List.getElem?_append_right (by omega), hq]; simpa using hi)
              exact ⟨v, hv, hr.plain (plainL_get hpost hi)⟩
theorem memo_ok {call : Call} (hcall : CallOK Tryz.prog call) {f n : Nat} {l lk pre post : List AV} {e ek : TypeId} {k m : Nat} {c : Cap} {y : AV} {aw1 : AW} (hpre : plainL pre = true) (hpost : plainL post = true) (hy : y.plain = true) (hlk : plainL lk = true) (hpl : plainL l = true)
    (hrun : call f [.slc (some (0, 0)) n (.upto 1 n)] (ofObjs [.cells l e true] 1) = some (.ret (withS pre post k m c y) aw1)) (h0 : aw1.get 0 = some (.cells l e true)) (hk : aw1.get k = some (.cells lk ek true)) (hk0 : k ≠ 0)
    {aw : AW} {id : Nat} {b : Bool} (hg : aw.get id = some (.cells l e b)) :
    callable Tryz.prog f = true ∧ ∀ E w cargs, LRel E [.slc (some (id, 0)) n (.upto 1 n)] cargs → Rel E aw w →
      Calls Tryz.prog f cargs.toArray w fun en w' => ∃ E', E.Le E' ∧ ResRel E' (.ret (withS pre post aw.nx m c y) (aw.add (.cells lk ek true))) en w' := by
  refine ⟨(hcall _ _ _ _ hrun).1, fun E w cargs hr hR => ?_⟩
  cases hr with
  | cons r1 t1 =>
    cases t1
    rename_i cv0
    obtain ⟨L, hL, ho⟩ := hR.obj id _ hg
    obtain ⟨c1, fz, g1, g2, g3, g4, g5⟩ := ho
    have hR0 : Rel (oneE E w L) (ofObjs [.cells l e true] 1) w := oneE_rel hR (ORel.plain (E := E) hpl ⟨c1, fz, g1, g2, g3, (fun q => by cases q), g5⟩)
    have r1' : VRel (oneE E w L) (.slc (some (0, 0)) n (.upto 1 n)) cv0 := slc_move r1 hL rfl
    refine ((hcall _ _ _ _ hrun).2 (oneE E w L) w _ (.cons r1' .nil) hR0).mono fun en w' hres => ?_
    obtain ⟨E1, hle, hres⟩ := hres
    cases en with
    | returned cv =>
      obtain ⟨hR1, hv⟩ := hres
      have hL0 : E1.loc[0]? = some L := hle.loc (i := 0) rfl
      obtain ⟨L2, hL2, c2, fz2, k1, k2, k3, k4, k5⟩ := hR1.obj 0 _ h0
      rw [hL0] at hL2; injection hL2 with hL2; subst hL2
      have hback : Rel E aw w' := oneE_back hR hg rfl hL hle hR1 (ORel.plain (E := E1) hpl ⟨c2, fz2, k1, k2, k3, fun q => by
        obtain ⟨q1, q2⟩ := g4 q
        exact ⟨q1, by rw [q2, g2, k2]⟩, k5⟩)
      obtain ⟨L3, hL3, ho3⟩ := hR1.obj k _ hk
      obtain ⟨hne, hfr⟩ := oneE_new hR hg rfl hL hle hR1 h0 rfl hk rfl hk0 hL3
      refine ⟨E.put L3, E.put_le L3, hback.addAt hne hfr (ho3.plain hlk), withS_move hpre hpost hy hv hL3 (by rw [hback.nx]; exact E.put_new L3)⟩
    | panicked ch => exact hres.elim
    | outgrown => exact hres.elim

/-! packets -/
structure Pkt where
  l : List AV
  seq : Nat
  fr : Nat
  body : List AV
def preP (x : Pkt) : List AV := [.int .i64 (.ofNat 1), .int .u16 (.ofNat x.seq), .int .u16 (.ofNat 1), .int .u32 (.ofNat x.fr), .int .u16 (.ofNat 0)]
def postP : List AV := [.int .u64 (.ofNat 0), .int .u32 (.ofNat 0), .int .u32 (.ofNat 0), .int .u16 (.ofNat 0), .int .u16 (.ofNat 0), .int .u32 (.ofNat 0), .int .u16 (.ofNat 0)]
def resP (x : Pkt) (j : Nat) : AV := .tuple [.agg [.int .i64 (.ofNat 1), .int .u16 (.ofNat x.seq), .int .u16 (.ofNat 1), .int .u32 (.ofNat x.fr), .int .u16 (.ofNat 0), .slc (some (j, 0)) 4 (.upto 1 4), .int .u64 (.ofNat 0), .int .u32 (.ofNat 0), .int .u32 (.ofNat 0), .int .u16 (.ofNat 0), .int .u16 (.ofNat 0), .int .u32 (.ofNat 0), .int .u16 (.ofNat 0)], .int .i64 (.ofNat 0)]
noncomputable def findP (l : List AV) (tab : List Pkt) : Option Pkt := List.rec (motive := fun _ => Option Pkt) none (fun x _ ih => bb2 (sameInts l x.l) (some x) ih) tab
theorem findP_ok {l : List AV} : ∀ {tab : List Pkt} {x : Pkt}, findP l tab = some x → x ∈ tab ∧ l = x.l
  | [], x, h => by cases h
  | y :: tab, x, h => by
    have h : bb2 (sameInts l y.l) (some y) (findP l tab) = some x := h
    rw [bb2_eq] at h
    cases hs : sameInts l y.l <;> simp only [hs, cond_true, cond_false, Option.some.injEq] at h
    · obtain ⟨h1, h2⟩ := findP_ok h
      exact ⟨List.mem_cons_of_mem _ h1, h2⟩
    · subst h
      exact ⟨by simp, sameInts_eq hs⟩
def seeP (k : Nat) (r : Option ARes) : Option (AV × Option AO × Option AO) := match r with
  | some (.ret v aw) => some (v, aw.get 0, aw.get k)
  | _ => none
/-- so it is read, by function f; k: the body's number -/
def RunP (f k : Nat) (x : Pkt) : Prop := seeP k (cTop f [.slc (some (0, 0)) 19 (.upto 1 19)] (ofObjs [.cells x.l 5 true] 1)) = some (resP x k, some (.cells x.l 5 true), some (.cells x.body 5 true))
def okP (x : Pkt) : Bool := plainL x.l && plainL x.body
/-- a reader, the packets known -/
noncomputable def gP (tab : List Pkt) (f : Nat) (args : List AV) (aw : AW) : Option ARes := match args with
  | [.slc (some (id, 0)) n (.upto sz lo)] => bb2 (Nat.beq n 19) (bb2 (Nat.beq lo 19) (bb2 (Nat.beq sz 1) (match awGet aw id with
    | some (.cells l e b) => bb2 (Nat.beq e 5) (Option.rec (motive := fun _ => Option ARes) (cTop f args aw) (fun x => some (.ret (resP x aw.nx) (awAdd aw (.cells x.body 5 true)))) (findP l tab)) (cTop f args aw)
    | _ => none) (cTop f args aw)) (cTop f args aw)) (cTop f args aw)
  | args => cTop f args aw
theorem gP_ok {tab : List Pkt} {f k : Nat} (hk0 : k ≠ 0) (hok : ∀ x ∈ tab, okP x = true) (hrun : ∀ x ∈ tab, RunP f k x) : ∀ args aw res, gP tab f args aw = some res → callable Tryz.prog f = true ∧ ∀ E w cargs, LRel E args cargs → Rel E aw w →
    Calls Tryz.prog f cargs.toArray w fun e w' => ∃ E', E.Le E' ∧ ResRel E' res e w' := by
  intro args aw res h
  unfold gP at h
  split at h
  · rename_i id n sz lo
    simp only [bb2_eq] at h
    cases h1 : Nat.beq n 19 <;> simp only [h1, cond_true, cond_false] at h
    · exact cTop_ok _ _ _ _ h
    cases h2 : Nat.beq lo 19 <;> simp only [h2, cond_true, cond_false] at h
    · exact cTop_ok _ _ _ _ h
    cases h3 : Nat.beq sz 1 <;> simp only [h3, cond_true, cond_false] at h
    · exact cTop_ok _ _ _ _ h
    rw [awGet_eq] at h
    split at h <;> (try (cases h; done))
    rename_i l e b hg
    cases h4 : Nat.beq e 5 <;> simp only [h4, cond_true, cond_false] at h
    · exact cTop_ok _ _ _ _ h
    have := Nat.eq_of_beq_eq_true h1; subst this
    have := Nat.eq_of_beq_eq_true h2; subst this
    have := Nat.eq_of_beq_eq_true h3; subst this
    have := Nat.eq_of_beq_eq_true h4; subst this
    cases hf : findP l tab with
    | none => simp only [hf] at h; exact cTop_ok _ _ _ _ h
    | some x =>
      simp only [hf, Option.some.injEq] at h
      rw [awAdd_eq] at h
      subst h
      obtain ⟨m1, m2⟩ := findP_ok hf
      subst m2
      have ho := hok x m1
      simp only [okP, Bool.and_eq_true] at ho
      have hr := hrun x m1
      unfold RunP seeP at hr
      split at hr <;> (try (cases hr; done))
      rename_i v aw1 hc
      simp only [Option.some.injEq, Prod.mk.injEq] at hr
      obtain ⟨q1, q2, q3⟩ := hr
      subst q1
      exact memo_ok (pre := preP x) (post := postP) (y := .int .i64 (.ofNat 0)) cTop_ok rfl rfl rfl ho.2 ho.1 hc q2 q3 hk0 hg
  · exact cTop_ok _ _ _ _ h

def pkt0 : Pkt := ⟨[.int .u8 (.ofNat 1), .int .u8 (.ofNat 0), .int .u8 (.ofNat 0), .int .u8 (.ofNat 0), .int .u8 (.ofNat 1), .int .u8 (.ofNat 0), .int .u8 (.ofNat 0), .int .u8 (.ofNat 0), .int .u8 (.ofNat 10), .int .u8 (.ofNat 0), .int .u8 (.ofNat 0), .int .u8 (.ofNat 0), .int .u8 (.ofNat 9), .int .u8 (.ofNat 0), .int .u8 (.ofNat 0), .int .u8 (.ofNat 222), .int .u8 (.ofNat 22), .int .u8 (.ofNat 49), .int .u8 (.ofNat 243)], 0, 10, [.int .u8 (.ofNat 0), .int .u8 (.ofNat 9), .int .u8 (.ofNat 0), .int .u8 (.ofNat 0)]⟩
def pkt1 : Pkt := ⟨[.int .u8 (.ofNat 1), .int .u8 (.ofNat 0), .int .u8 (.ofNat 1), .int .u8 (.ofNat 0), .int .u8 (.ofNat 1), .int .u8 (.ofNat 0), .int .u8 (.ofNat 0), .int .u8 (.ofNat 0), .int .u8 (.ofNat 20), .int .u8 (.ofNat 0), .int .u8 (.ofNat 0), .int .u8 (.ofNat 1), .int .u8 (.ofNat 9), .int .u8 (.ofNat 0), .int .u8 (.ofNat 0), .int .u8 (.ofNat 216), .int .u8 (.ofNat 166), .int .u8 (.ofNat 28), .int .u8 (.ofNat 186)], 1, 20, [.int .u8 (.ofNat 1), .int .u8 (.ofNat 9), .int .u8 (.ofNat 0), .int .u8 (.ofNat 0)]⟩
def pkt2 : Pkt := ⟨[.int .u8 (.ofNat 1), .int .u8 (.ofNat 0), .int .u8 (.ofNat 2), .int .u8 (.ofNat 0), .int .u8 (.ofNat 1), .int .u8 (.ofNat 0), .int .u8 (.ofNat 0), .int .u8 (.ofNat 0), .int .u8 (.ofNat 30), .int .u8 (.ofNat 0), .int .u8 (.ofNat 0), .int .u8 (.ofNat 2), .int .u8 (.ofNat 9), .int .u8 (.ofNat 0), .int .u8 (.ofNat 0), .int .u8 (.ofNat 104), .int .u8 (.ofNat 107), .int .u8 (.ofNat 226), .int .u8 (.ofNat 168)], 2, 30, [.int .u8 (.ofNat 2), .int .u8 (.ofNat 9), .int .u8 (.ofNat 0), .int .u8 (.ofNat 0)]⟩
def pkt3 : Pkt := ⟨[.int .u8 (.ofNat 1), .int .u8 (.ofNat 0), .int .u8 (.ofNat 3), .int .u8 (.ofNat 0), .int .u8 (.ofNat 1), .int .u8 (.ofNat 0), .int .u8 (.ofNat 0), .int .u8 (.ofNat 0), .int .u8 (.ofNat 40), .int .u8 (.ofNat 0), .int .u8 (.ofNat 0), .int .u8 (.ofNat 3), .int .u8 (.ofNat 9), .int .u8 (.ofNat 0), .int .u8 (.ofNat 0), .int .u8 (.ofNat 213), .int .u8 (.ofNat 198), .int .u8 (.ofNat 70), .int .u8 (.ofNat 40)], 3, 40, [.int .u8 (.ofNat 3), .int .u8 (.ofNat 9), .int .u8 (.ofNat 0), .int .u8 (.ofNat 0)]⟩
def pkt4 : Pkt := ⟨[.int .u8 (.ofNat 1), .int .u8 (.ofNat 0), .int .u8 (.ofNat 4), .int .u8 (.ofNat 0), .int .u8 (.ofNat 1), .int .u8 (.ofNat 0), .int .u8 (.ofNat 0), .int .u8 (.ofNat 0), .int .u8 (.ofNat 50), .int .u8 (.ofNat 0), .int .u8 (.ofNat 0), .int .u8 (.ofNat 4), .int .u8 (.ofNat 9), .int .u8 (.ofNat 0), .int .u8 (.ofNat 0), .int .u8 (.ofNat 80), .int .u8 (.ofNat 94), .int .u8 (.ofNat 125), .int .u8 (.ofNat 62)], 4, 50, [.int .u8 (.ofNat 4), .int .u8 (.ofNat 9), .int .u8 (.ofNat 0), .int .u8 (.ofNat 0)]⟩
def pkt5 : Pkt := ⟨[.int .u8 (.ofNat 1), .int .u8 (.ofNat 0), .int .u8 (.ofNat 5), .int .u8 (.ofNat 0), .int .u8 (.ofNat 1), .int .u8 (.ofNat 0), .int .u8 (.ofNat 0), .int .u8 (.ofNat 0), .int .u8 (.ofNat 60), .int .u8 (.ofNat 0), .int .u8 (.ofNat 0), .int .u8 (.ofNat 5), .int .u8 (.ofNat 9), .int .u8 (.ofNat 0), .int .u8 (.ofNat 0), .int .u8 (.ofNat 176), .int .u8 (.ofNat 156), .int .u8 (.ofNat 167), .int .u8 (.ofNat 187)], 5, 60, [.int .u8 (.ofNat 5), .int .u8 (.ofNat 9), .int .u8 (.ofNat 0), .int .u8 (.ofNat 0)]⟩
def pkts : List Pkt := [pkt0, pkt1, pkt2, pkt3, pkt4, pkt5]
theorem take18_0 : RunP 18 7 pkt0 := by unfold RunP; kernel_rfl
theorem take106_0 : RunP 106 21 pkt0 := by unfold RunP; kernel_rfl
theorem take18_1 : RunP 18 7 pkt1 := by unfold RunP; kernel_rfl
theorem take106_1 : RunP 106 21 pkt1 := by unfold RunP; kernel_rfl
theorem take18_2 : RunP 18 7 pkt2 := by unfold RunP; kernel_rfl
theorem take106_2 : RunP 106 21 pkt2 := by unfold RunP; kernel_rfl
theorem take18_3 : RunP 18 7 pkt3 := by unfold RunP; kernel_rfl
theorem take106_3 : RunP 106 21 pkt3 := by unfold RunP; kernel_rfl
theorem take18_4 : RunP 18 7 pkt4 := by unfold RunP; kernel_rfl
theorem take106_4 : RunP 106 21 pkt4 := by unfold RunP; kernel_rfl
theorem take18_5 : RunP 18 7 pkt5 := by unfold RunP; kernel_rfl
theorem take106_5 : RunP 106 21 pkt5 := by unfold RunP; kernel_rfl
theorem run18 : ∀ x ∈ pkts, RunP 18 7 x := by
  intro x hx
  simp only [pkts, List.mem_cons, List.not_mem_nil, or_false] at hx
  rcases hx with rfl | rfl | rfl | rfl | rfl | rfl
  · exact take18_0
  · exact take18_1
  · exact take18_2
  · exact take18_3
  · exact take18_4
  · exact take18_5
theorem run106 : ∀ x ∈ pkts, RunP 106 21 x := by
  intro x hx
  simp only [pkts, List.mem_cons, List.not_mem_nil, or_false] at hx
  rcases hx with rfl | rfl | rfl | rfl | rfl | rfl
  · exact take106_0
  · exact take106_1
  · exact take106_2
  · exact take106_3
  · exact take106_4
  · exact take106_5
theorem pkts_ok : ∀ x ∈ pkts, okP x = true := by
  intro x hx
  simp only [pkts, List.mem_cons, List.not_mem_nil, or_false] at hx
  rcases hx with rfl | rfl | rfl | rfl | rfl | rfl <;> rfl
noncomputable def smO : Summ := fun f => bb2 (Nat.beq f 18) (some (gP pkts 18)) (bb2 (Nat.beq f 106) (some (gP pkts 106)) (smB f))
theorem smO_ok : SumOK Tryz.prog smO := by
  intro f g hf
  unfold smO at hf
  simp only [bb2_eq] at hf
  cases h1 : Nat.beq f 18 with
  | true => simp only [h1, cond_true, Option.some.injEq] at hf; subst hf; rw [Nat.eq_of_beq_eq_true h1]; exact gP_ok (k := 7) (by decide) pkts_ok run18
  | false =>
    cases h2 : Nat.beq f 106 with
    | true => simp only [h1, h2, cond_true, cond_false, Option.some.injEq] at hf; subst hf; rw [Nat.eq_of_beq_eq_true h2]; exact gP_ok (k := 21) (by decide) pkts_ok run106
    | false => simp only [h1, h2, cond_false] at hf; exact smB_ok f g hf
noncomputable def cOrd : Call := callK FK smO dsA (nat_lit 1000) (nat_lit 40)
theorem cOrd_ok : CallOK Tryz.prog cOrd := callK_ok smO_ok dsA_ok _ _
end Go.Proofs.YtbilacojhmohmaaGreat.Ae
