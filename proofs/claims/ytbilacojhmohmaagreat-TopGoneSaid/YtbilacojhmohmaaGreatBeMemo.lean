/- All summaries together: the calls of the whole. All summaries together, the shelf's too. What readers say of packets that are known, byte for byte: told once. No condition. -/
import Derived.Test.YtbilacojhmohmaaGreatBeKeys
import Derived.Test.YtbilacojhmohmaaGreatBeFour
import Derived.Test.YtbilacojhmohmaaGreatBeCon
import Derived.KernelRfl
namespace Go.Proofs.YtbilacojhmohmaaGreat.Ae
open Go
set_option linter.unusedVariables false

def rf139 : RFn := ⟨14, 4, 1, (.seq (.region [.op (some 5) none (.mv (.t 1)), .op (some 6) none (.nileq 4 true (.t 5))])
 (.cond (.t 6) (.seq (.region [.op none none (.store 1 (.t 0) (.c (.int .i64 (.ofNat 1))))])
 (.seq (.region [.op (some 8) none (.mv (.t 1)), .op (some 9) none (.assert 32 (.t 8) (.int .i64 (.ofNat 0))), .op (some 7) none (.mv (.t 9)), .op (some 10) none (.ext 0 (.t 7)), .op (some 11) none (.ext 1 (.t 7)), .op (some 2) none (.mv (.t 10)), .op (some 3) none (.mv (.t 11))])
 (.seq (.region [.op (some 12) none (.mv (.t 3))])
 (.cond (.t 12) (.region [.op (some 13) none (.mv (.t 2)), .op none none (.store 1 (.t 0) (.t 13))]) .skip)))) .skip))⟩
def rf323 : RFn := ⟨6, 3, 2, (.seq (.region [.op (some 4) none (.mv (.t 2)), .op (some 5) none (.nileq 4 true (.t 4))])
 (.cond (.t 5) (.region [.op none none (.store 1 (.t 0) (.c (.slc none 0 (.known 0)))), .op none none (.store 1 (.t 1) (.c (.bool false)))]) .skip))⟩
def rf355 : RFn := ⟨7, 3, 2, (.seq (.region [.op (some 4) none (.mv (.t 2)), .op (some 5) none (.nileq 4 true (.t 4))])
 (.cond (.t 5) (.region [.op (some 6) none (.build [(.int .u16 (.ofNat 0)), (.int .u16 (.ofNat 0)), (.int .u32 (.ofNat 0)), (.int .u16 (.ofNat 0)), (.slc none 0 (.known 0))] []), .op none none (.store 5 (.t 0) (.t 6)), .op none none (.store 1 (.t 1) (.c (.int .i64 (.ofNat 2))))]) .skip))⟩
def rf314 : RFn := ⟨8, 3, 2, (.seq (.region [.op (some 4) none (.mv (.t 2)), .op (some 5) none (.nileq 4 true (.t 4))])
 (.cond (.t 5) (.region [.op (some 6) none (.mv (.t 0)), .op (some 7) none (.nilck (.t 6)), .op none none (.store 1 (.t 7) (.c (.int .i64 (.ofNat 2))))]) .skip))⟩

theorem rok139 : rf139.ok Tryz.prog (cDraw Tryz.prog) 139 := ⟨Tryz.f139, _, _, _, _, Tryz.func139, rfl, rfl, rfl, rfl, rfl, rfl, rfl, rfl, rfl, by kernel_rfl, by kernel_rfl⟩
theorem rok323 : rf323.ok Tryz.prog (cDraw Tryz.prog) 323 := ⟨Tryz.f323, _, _, _, _, Tryz.func323, rfl, rfl, rfl, rfl, rfl, rfl, rfl, rfl, rfl, by kernel_rfl, by kernel_rfl⟩
theorem rok355 : rf355.ok Tryz.prog (cDraw Tryz.prog) 355 := ⟨Tryz.f355, _, _, _, _, Tryz.func355, rfl, rfl, rfl, rfl, rfl, rfl, rfl, rfl, rfl, by kernel_rfl, by kernel_rfl⟩
theorem rok314 : rf314.ok Tryz.prog (cDraw Tryz.prog) 314 := ⟨Tryz.f314, _, _, _, _, Tryz.func314, rfl, rfl, rfl, rfl, rfl, rfl, rfl, rfl, rfl, by kernel_rfl, by kernel_rfl⟩
noncomputable def dsA : DSum := fun f => bb2 (Nat.beq f 139) (some (dRec 30 rf139)) (bb2 (Nat.beq f 323) (some (dRec 30 rf323)) (bb2 (Nat.beq f 355) (some (dRec 30 rf355)) (bb2 (Nat.beq f 314) (some (dRec 30 rf314)) none)))
theorem draw_all : ∀ call, CallOK Tryz.prog call → DrawOK Tryz.prog call (cDraw Tryz.prog) := draw_ok (by kernel_rfl)
theorem dsA_ok : DefOK Tryz.prog dsA := by
  intro f g m args aw m' aw' hf hg
  unfold dsA at hf
  simp only [bb2_eq] at hf
  cases h1 : Nat.beq f 139 with
  | true => simp only [h1, cond_true, Option.some.injEq] at hf; subst hf; rw [Nat.eq_of_beq_eq_true h1]; exact dRec_sound draw_all rok139 hg
  | false =>
    cases h2 : Nat.beq f 323 with
    | true => simp only [h1, h2, cond_true, cond_false, Option.some.injEq] at hf; subst hf; rw [Nat.eq_of_beq_eq_true h2]; exact dRec_sound draw_all rok323 hg
    | false =>
      cases h3 : Nat.beq f 355 with
      | true => simp only [h1, h2, h3, cond_true, cond_false, Option.some.injEq] at hf; subst hf; rw [Nat.eq_of_beq_eq_true h3]; exact dRec_sound draw_all rok355 hg
      | false =>
        cases h4 : Nat.beq f 314 with
        | true => simp only [h1, h2, h3, h4, cond_true, cond_false, Option.some.injEq] at hf; subst hf; rw [Nat.eq_of_beq_eq_true h4]; exact dRec_sound draw_all rok314 hg
        | false => simp only [h1, h2, h3, h4, cond_false, reduceCtorEq] at hf
noncomputable def smA : Summ := fun f => bb2 (Nat.beq f 350) (some g350) (bb2 (Nat.beq f 233) (some g233) (bb2 (Nat.beq f 358) (some g358) (bb2 (Nat.beq f 49) (some g49) none)))
theorem smA_ok : SumOK Tryz.prog smA := by
  intro f g hf
  unfold smA at hf
  simp only [bb2_eq] at hf
  cases h1 : Nat.beq f 350 with
  | true => simp only [h1, cond_true, Option.some.injEq] at hf; subst hf; rw [Nat.eq_of_beq_eq_true h1]; exact s350
  | false =>
    cases h2 : Nat.beq f 233 with
    | true => simp only [h1, h2, cond_true, cond_false, Option.some.injEq] at hf; subst hf; rw [Nat.eq_of_beq_eq_true h2]; exact s233
    | false =>
      cases h3 : Nat.beq f 358 with
      | true => simp only [h1, h2, h3, cond_true, cond_false, Option.some.injEq] at hf; subst hf; rw [Nat.eq_of_beq_eq_true h3]; exact s358
      | false =>
        cases h4 : Nat.beq f 49 with
        | true => simp only [h1, h2, h3, h4, cond_true, cond_false, Option.some.injEq] at hf; subst hf; rw [Nat.eq_of_beq_eq_true h4]; exact s49
        | false => simp only [h1, h2, h3, h4, cond_false, reduceCtorEq] at hf
noncomputable def cTop : Call := callK FK smA dsA (nat_lit 1000) (nat_lit 40)
theorem cTop_ok : CallOK Tryz.prog cTop := callK_ok smA_ok dsA_ok _ _
end Go.Proofs.YtbilacojhmohmaaGreat.Ae

namespace Go.Proofs.YtbilacojhmohmaaGreat.Ae
open Go
set_option linter.unusedVariables false

noncomputable def smB : Summ := fun f => bb2 (Nat.beq f 251) (some g251) (bb2 (Nat.beq f 266) (some g266) (bb2 (Nat.beq f 186) (some g186) (bb2 (Nat.beq f 87) (some g87) (bb2 (Nat.beq f 151) (some g151) (smA f)))))
theorem smB_ok : SumOK Tryz.prog smB := by
  intro f g hf
  unfold smB at hf
  simp only [bb2_eq] at hf
  cases h1 : Nat.beq f 251 with
  | true => simp only [h1, cond_true, Option.some.injEq] at hf; subst hf; rw [Nat.eq_of_beq_eq_true h1]; exact s251
  | false =>
    cases h2 : Nat.beq f 266 with
    | true => simp only [h1, h2, cond_true, cond_false, Option.some.injEq] at hf; subst hf; rw [Nat.eq_of_beq_eq_true h2]; exact s266
    | false =>
      cases h3 : Nat.beq f 186 with
      | true => simp only [h1, h2, h3, cond_true, cond_false, Option.some.injEq] at hf; subst hf; rw [Nat.eq_of_beq_eq_true h3]; exact s186
      | false =>
        cases h4 : Nat.beq f 87 with
        | true => simp only [h1, h2, h3, h4, cond_true, cond_false, Option.some.injEq] at hf; subst hf; rw [Nat.eq_of_beq_eq_true h4]; exact s87
        | false =>
          cases h5 : Nat.beq f 151 with
          | true => simp only [h1, h2, h3, h4, h5, cond_true, cond_false, Option.some.injEq] at hf; subst hf; rw [Nat.eq_of_beq_eq_true h5]; exact s151
          | false => simp only [h1, h2, h3, h4, h5, cond_false] at hf; exact smA_ok f g hf
noncomputable def cTop2 : Call := callK FK smB dsA (nat_lit 1000) (nat_lit 40)
theorem cTop2_ok : CallOK Tryz.prog cTop2 := callK_ok smB_ok dsA_ok _ _
end Go.Proofs.YtbilacojhmohmaaGreat.Ae

namespace Go.Proofs.YtbilacojhmohmaaGreat.Ae
open Go
set_option linter.unusedVariables false
set_option linter.unusedSimpArgs false

/-- a struct that holds one slice, and a number -/
def withS (pre post : List AV) (j m : Nat) (c : Cap) (y : AV) : AV := .tuple [.agg (pre ++ .slc (some (j, 0)) m c :: post), y]
theorem slc_move {E1 E2 : Env} {k j m : Nat} {c : Cap} {L : Loc} {cv : Value} (h : VRel E1 (.slc (some (k, 0)) m c) cv) (h1 : E1.loc[k]? = some L) (h2 : E2.loc[j]? = some L) : VRel E2 (.slc (some (j, 0)) m c) cv := by
  cases h with
  | slc hL ha => rw [h1] at hL; injection hL with hL; subst hL; exact .slc h2 ha
  | slcUp hL a b d => rw [h1] at hL; injection hL with hL; subst hL; exact .slcUp h2 a b d
theorem withS_move {E1 E2 : Env} {pre post : List AV} {k j m : Nat} {c : Cap} {y : AV} {L : Loc} {cv : Value} (hpre : plainL pre = true) (hpost : plainL post = true) (hy : y.plain = true) (h : VRel E1 (withS pre post k m c y) cv) (h1 : E1.loc[k]? = some L) (h2 : E2.loc[j]? = some L) : VRel E2 (withS pre post j m c y) cv := by
  unfold withS at h ⊢
  cases h with
  | tuple hl =>
    rename_i cs
    obtain ⟨cs⟩ := cs
    refine .tuple ?_
    cases hl with
    | cons ha t =>
      cases t with
      | cons hb t =>
        refine .cons ?_ (.cons (hb.plain hy) (by cases t; exact .nil))
        cases ha with
        | agg hl =>
          refine .agg (LRel.of_get (by have := hl.length; simpa using this) fun i a hi => ?_)
          by_cases h3 : i < pre.length
          · rw [List.getElem?_append_left h3] at hi
            obtain ⟨v, hv, hr⟩ := hl.get (i := i) (a := a) (by rw [List.getElem?_append_left h3]; exact hi)
            exact ⟨v, hv, hr.plain (plainL_get hpre hi)⟩
          · rw [List.getElem?_append_right (by omega)] at hi
            rcases hq : i - pre.length with _ | q
            · rw [hq] at hi
              simp at hi; subst hi
              obtain ⟨v, hv, hr⟩ := hl.get (i := i) (a := .slc (some (k, 0)) m c) (by rw [List.getElem?_append_right (by omega), hq]; rfl)
              exact ⟨v, hv, slc_move hr h1 h2⟩
            · rw [hq] at hi
              simp only [List.getElem?_cons_succ] at hi
              obtain ⟨v, hv, hr⟩ := hl.get (i := i) (a := a) (by rw [List.getElem?_append_right (by omega), hq]; simpa using hi)
              exact ⟨v, hv, hr.plain (plainL_get hpost hi)⟩
theorem memo_ok {call : Call} (hcall : CallOK Tryz.prog call) {f n : Nat} {l lk pre post : List AV} {e ek : TypeId} {k m : Nat} {c : Cap} {y : AV} {aw1 : AW} (hpre : plainL pre = true) (hpost : plainL post = true) (hy : y.plain = true) (hlk : plainL lk = true) (hpl : plainL l = true)
    (hrun : call f [.slc (some (0, 0)) n (.upto 1 n)] (ofObjs [.cells l e true] 1) = some (.ret (withS pre post k m c y) aw1)) (h0 : aw1.get 0 = some (.cells l e true)) (hk : aw1.get k = some (.cells lk ek true)) (hk0 : k ≠ 0)
    {aw : AW} {id : Nat} {b : Bool} (hg : aw.get id = some (.cells l e b)) :
    callable Tryz.prog f = true ∧ ∀ E w cargs, LRel E [.slc (some (id, 0)) n (.upto 1 n)] cargs → Rel E aw w →
      Calls Tryz.prog f cargs.toArray w fun en w' => ∃ E', E.Le E' ∧ ResRel E' (.ret (withS pre post aw.nx m c y) (aw.add (.cells lk ek true))) en w' := by
  refine ⟨(hcall _ _ _ _ hrun).1, fun E w cargs hr hR => ?_⟩
  cases hr with
  | cons r1 t1 =>
    cases t1
    rename_i cv0
    obtain ⟨L, hL, ho⟩ := hR.obj id _ hg
    obtain ⟨c1, fz, g1, g2, g3, g4, g5⟩ := ho
    have hR0 : Rel (oneE E w L) (ofObjs [.cells l e true] 1) w := oneE_rel hR (ORel.plain (E := E) hpl ⟨c1, fz, g1, g2, g3, (fun q => by cases q), g5⟩)
    have r1' : VRel (oneE E w L) (.slc (some (0, 0)) n (.upto 1 n)) cv0 := slc_move r1 hL rfl
    refine ((hcall _ _ _ _ hrun).2 (oneE E w L) w _ (.cons r1' .nil) hR0).mono fun en w' hres => ?_
    obtain ⟨E1, hle, hres⟩ := hres
    cases en with
    | returned cv =>
      obtain ⟨hR1, hv⟩ := hres
      have hL0 : E1.loc[0]? = some L := hle.loc (i := 0) rfl
      obtain ⟨L2, hL2, c2, fz2, k1, k2, k3, k4, k5⟩ := hR1.obj 0 _ h0
      rw [hL0] at hL2; injection hL2 with hL2; subst hL2
      have hback : Rel E aw w' := oneE_back hR hg rfl hL hle hR1 (ORel.plain (E := E1) hpl ⟨c2, fz2, k1, k2, k3, fun q => by
        obtain ⟨q1, q2⟩ := g4 q
        exact ⟨q1, by rw [q2, g2, k2]⟩, k5⟩)
      obtain ⟨L3, hL3, ho3⟩ := hR1.obj k _ hk
      obtain ⟨hne, hfr, htk⟩ := oneE_new hR hg rfl hL hle hR1 h0 rfl hk rfl hk0 hL3
      refine ⟨E.put L3, E.put_le L3, hback.addAt hne hfr htk (ho3.plain hlk), withS_move hpre hpost hy hv hL3 (by rw [hback.nx]; exact E.put_new L3)⟩
    | panicked ch => exact hres.elim
    | outgrown => exact hres.elim

/-! packets -/
structure Pkt where
  l : List AV
  seq : Nat
  fr : Nat
  body : List AV
def preP (x : Pkt) : List AV := [.int .i64 (.ofNat 1), .int .u16 (.ofNat x.seq), .int .u16 (.ofNat 1), .int .u32 (.ofNat x.fr), .int .u16 (.ofNat 0)]
def postP : List AV := [.int .u64 (.ofNat 0), .int .u32 (.ofNat 0), .int .u32 (.ofNat 0), .int .u16 (.ofNat 0), .int .u16 (.ofNat 0), .int .u32 (.ofNat 0), .int .u16 (.ofNat 0)]
def resP (x : Pkt) (j : Nat) : AV := .tuple [.agg [.int .i64 (.ofNat 1), .int .u16 (.ofNat x.seq), .int .u16 (.ofNat 1), .int .u32 (.ofNat x.fr), .int .u16 (.ofNat 0), .slc (some (j, 0)) 4 (.upto 1 4), .int .u64 (.ofNat 0), .int .u32 (.ofNat 0), .int .u32 (.ofNat 0), .int .u16 (.ofNat 0), .int .u16 (.ofNat 0), .int .u32 (.ofNat 0), .int .u16 (.ofNat 0)], .int .i64 (.ofNat 0)]
noncomputable def findP (l : List AV) (tab : List Pkt) : Option Pkt := List.rec (motive := fun _ => Option Pkt) none (fun x _ ih => bb2 (sameInts l x.l) (some x) ih) tab
theorem findP_ok {l : List AV} : ∀ {tab : List Pkt} {x : Pkt}, findP l tab = some x → x ∈ tab ∧ l = x.l
  | [], x, h => by cases h
  | y :: tab, x, h => by
    have h : bb2 (sameInts l y.l) (some y) (findP l tab) = some x := h
    rw [bb2_eq] at h
    cases hs : sameInts l y.l <;> simp only [hs, cond_true, cond_false, Option.some.injEq] at h
    · obtain ⟨h1, h2⟩ := findP_ok h
      exact ⟨List.mem_cons_of_mem _ h1, h2⟩
    · subst h
      exact ⟨by simp, sameInts_eq hs⟩
def seeP (k : Nat) (r : Option ARes) : Option (AV × Option AO × Option AO) := match r with
  | some (.ret v aw) => some (v, aw.get 0, aw.get k)
  | _ => none
/-- so it is read, by function f; k: the body's number -/
def RunP (f k : Nat) (x : Pkt) : Prop := seeP k (cTop f [.slc (some (0, 0)) 19 (.upto 1 19)] (ofObjs [.cells x.l 5 true] 1)) = some (resP x k, some (.cells x.l 5 true), some (.cells x.body 5 true))
def okP (x : Pkt) : Bool := plainL x.l && plainL x.body
/-- a reader, the packets known -/
noncomputable def gP (tab : List Pkt) (f : Nat) (args : List AV) (aw : AW) : Option ARes := match args with
  | [.slc (some (id, 0)) n (.upto sz lo)] => bb2 (Nat.beq n 19) (bb2 (Nat.beq lo 19) (bb2 (Nat.beq sz 1) (match awGet aw id with
    | some (.cells l e b) => bb2 (Nat.beq e 5) (Option.rec (motive := fun _ => Option ARes) (cTop f args aw) (fun x => some (.ret (resP x aw.nx) (awAdd aw (.cells x.body 5 true)))) (findP l tab)) (cTop f args aw)
    | _ => none) (cTop f args aw)) (cTop f args aw)) (cTop f args aw)
  | args => cTop f args aw
theorem gP_ok {tab : List Pkt} {f k : Nat} (hk0 : k ≠ 0) (hok : ∀ x ∈ tab, okP x = true) (hrun : ∀ x ∈ tab, RunP f k x) : ∀ args aw res, gP tab f args aw = some res → callable Tryz.prog f = true ∧ ∀ E w cargs, LRel E args cargs → Rel E aw w →
    Calls Tryz.prog f cargs.toArray w fun e w' => ∃ E', E.Le E' ∧ ResRel E' res e w' := by
  intro args aw res h
  unfold gP at h
  split at h
  · rename_i id n sz lo
    simp only [bb2_eq] at h
    cases h1 : Nat.beq n 19 <;> simp only [h1, cond_true, cond_false] at h
    · exact cTop_ok _ _ _ _ h
    cases h2 : Nat.beq lo 19 <;> simp only [h2, cond_true, cond_false] at h
    · exact cTop_ok _ _ _ _ h
    cases h3 : Nat.beq sz 1 <;> simp only [h3, cond_true, cond_false] at h
    · exact cTop_ok _ _ _ _ h
    rw [awGet_eq] at h
    split at h <;> (try (cases h; done))
    rename_i l e b hg
    cases h4 : Nat.beq e 5 <;> simp only [h4, cond_true, cond_false] at h
    · exact cTop_ok _ _ _ _ h
    have := Nat.eq_of_beq_eq_true h1; subst this
    have := Nat.eq_of_beq_eq_true h2; subst this
    have := Nat.eq_of_beq_eq_true h3; subst this
    have := Nat.eq_of_beq_eq_true h4; subst this
    cases hf : findP l tab with
    | none => simp only [hf] at h; exact cTop_ok _ _ _ _ h
    | some x =>
      simp only [hf, Option.some.injEq] at h
      rw [awAdd_eq] at h
      subst h
      obtain ⟨m1, m2⟩ := findP_ok hf
      subst m2
      have ho := hok x m1
      simp only [okP, Bool.and_eq_true] at ho
      have hr := hrun x m1
      unfold RunP seeP at hr
      split at hr <;> (try (cases hr; done))
      rename_i v aw1 hc
      simp only [Option.some.injEq, Prod.mk.injEq] at hr
      obtain ⟨q1, q2, q3⟩ := hr
      subst q1
      exact memo_ok (pre := preP x) (post := postP) (y := .int .i64 (.ofNat 0)) cTop_ok rfl rfl rfl ho.2 ho.1 hc q2 q3 hk0 hg
  · exact cTop_ok _ _ _ _ h

def pkt0 : Pkt := ⟨[.int .u8 (.ofNat 1), .int .u8 (.ofNat 0), .int .u8 (.ofNat 0), .int .u8 (.ofNat 0), .int .u8 (.ofNat 1), .int .u8 (.ofNat 0), .int .u8 (.ofNat 0), .int .u8 (.ofNat 0), .int .u8 (.ofNat 1), .int .u8 (.ofNat 0), .int .u8 (.ofNat 0), .int .u8 (.ofNat 0), .int .u8 (.ofNat 1), .int .u8 (.ofNat 2), .int .u8 (.ofNat 0), .int .u8 (.ofNat 210), .int .u8 (.ofNat 225), .int .u8 (.ofNat 8), .int .u8 (.ofNat 17)], 0, 1, [.int .u8 (.ofNat 0), .int .u8 (.ofNat 1), .int .u8 (.ofNat 2), .int .u8 (.ofNat 0)]⟩
def pkt1 : Pkt := ⟨[.int .u8 (.ofNat 1), .int .u8 (.ofNat 0), .int .u8 (.ofNat 1), .int .u8 (.ofNat 0), .int .u8 (.ofNat 1), .int .u8 (.ofNat 0), .int .u8 (.ofNat 0), .int .u8 (.ofNat 0), .int .u8 (.ofNat 2), .int .u8 (.ofNat 0), .int .u8 (.ofNat 0), .int .u8 (.ofNat 1), .int .u8 (.ofNat 1), .int .u8 (.ofNat 2), .int .u8 (.ofNat 0), .int .u8 (.ofNat 55), .int .u8 (.ofNat 209), .int .u8 (.ofNat 124), .int .u8 (.ofNat 144)], 1, 2, [.int .u8 (.ofNat 1), .int .u8 (.ofNat 1), .int .u8 (.ofNat 2), .int .u8 (.ofNat 0)]⟩
def pkt2 : Pkt := ⟨[.int .u8 (.ofNat 1), .int .u8 (.ofNat 0), .int .u8 (.ofNat 2), .int .u8 (.ofNat 0), .int .u8 (.ofNat 1), .int .u8 (.ofNat 0), .int .u8 (.ofNat 0), .int .u8 (.ofNat 0), .int .u8 (.ofNat 2), .int .u8 (.ofNat 0), .int .u8 (.ofNat 0), .int .u8 (.ofNat 1), .int .u8 (.ofNat 1), .int .u8 (.ofNat 2), .int .u8 (.ofNat 0), .int .u8 (.ofNat 10), .int .u8 (.ofNat 252), .int .u8 (.ofNat 155), .int .u8 (.ofNat 40)], 2, 2, [.int .u8 (.ofNat 1), .int .u8 (.ofNat 1), .int .u8 (.ofNat 2), .int .u8 (.ofNat 0)]⟩
def pkt3 : Pkt := ⟨[.int .u8 (.ofNat 1), .int .u8 (.ofNat 0), .int .u8 (.ofNat 3), .int .u8 (.ofNat 0), .int .u8 (.ofNat 1), .int .u8 (.ofNat 0), .int .u8 (.ofNat 0), .int .u8 (.ofNat 0), .int .u8 (.ofNat 2), .int .u8 (.ofNat 0), .int .u8 (.ofNat 0), .int .u8 (.ofNat 1), .int .u8 (.ofNat 1), .int .u8 (.ofNat 2), .int .u8 (.ofNat 0), .int .u8 (.ofNat 226), .int .u8 (.ofNat 88), .int .u8 (.ofNat 205), .int .u8 (.ofNat 45)], 3, 2, [.int .u8 (.ofNat 1), .int .u8 (.ofNat 1), .int .u8 (.ofNat 2), .int .u8 (.ofNat 0)]⟩
def pkt4 : Pkt := ⟨[.int .u8 (.ofNat 1), .int .u8 (.ofNat 0), .int .u8 (.ofNat 4), .int .u8 (.ofNat 0), .int .u8 (.ofNat 1), .int .u8 (.ofNat 0), .int .u8 (.ofNat 0), .int .u8 (.ofNat 0), .int .u8 (.ofNat 2), .int .u8 (.ofNat 0), .int .u8 (.ofNat 0), .int .u8 (.ofNat 1), .int .u8 (.ofNat 1), .int .u8 (.ofNat 2), .int .u8 (.ofNat 0), .int .u8 (.ofNat 112), .int .u8 (.ofNat 167), .int .u8 (.ofNat 84), .int .u8 (.ofNat 88)], 4, 2, [.int .u8 (.ofNat 1), .int .u8 (.ofNat 1), .int .u8 (.ofNat 2), .int .u8 (.ofNat 0)]⟩
def pkt5 : Pkt := ⟨[.int .u8 (.ofNat 1), .int .u8 (.ofNat 0), .int .u8 (.ofNat 5), .int .u8 (.ofNat 0), .int .u8 (.ofNat 1), .int .u8 (.ofNat 0), .int .u8 (.ofNat 0), .int .u8 (.ofNat 0), .int .u8 (.ofNat 2), .int .u8 (.ofNat 0), .int .u8 (.ofNat 0), .int .u8 (.ofNat 1), .int .u8 (.ofNat 1), .int .u8 (.ofNat 2), .int .u8 (.ofNat 0), .int .u8 (.ofNat 152), .int .u8 (.ofNat 3), .int .u8 (.ofNat 2), .int .u8 (.ofNat 93)], 5, 2, [.int .u8 (.ofNat 1), .int .u8 (.ofNat 1), .int .u8 (.ofNat 2), .int .u8 (.ofNat 0)]⟩
def pkt6 : Pkt := ⟨[.int .u8 (.ofNat 1), .int .u8 (.ofNat 0), .int .u8 (.ofNat 1), .int .u8 (.ofNat 0), .int .u8 (.ofNat 1), .int .u8 (.ofNat 0), .int .u8 (.ofNat 0), .int .u8 (.ofNat 0), .int .u8 (.ofNat 3), .int .u8 (.ofNat 0), .int .u8 (.ofNat 0), .int .u8 (.ofNat 2), .int .u8 (.ofNat 1), .int .u8 (.ofNat 2), .int .u8 (.ofNat 0), .int .u8 (.ofNat 24), .int .u8 (.ofNat 241), .int .u8 (.ofNat 166), .int .u8 (.ofNat 239)], 1, 3, [.int .u8 (.ofNat 2), .int .u8 (.ofNat 1), .int .u8 (.ofNat 2), .int .u8 (.ofNat 0)]⟩
def pkt7 : Pkt := ⟨[.int .u8 (.ofNat 1), .int .u8 (.ofNat 0), .int .u8 (.ofNat 2), .int .u8 (.ofNat 0), .int .u8 (.ofNat 1), .int .u8 (.ofNat 0), .int .u8 (.ofNat 0), .int .u8 (.ofNat 0), .int .u8 (.ofNat 3), .int .u8 (.ofNat 0), .int .u8 (.ofNat 0), .int .u8 (.ofNat 2), .int .u8 (.ofNat 1), .int .u8 (.ofNat 2), .int .u8 (.ofNat 0), .int .u8 (.ofNat 37), .int .u8 (.ofNat 220), .int .u8 (.ofNat 65), .int .u8 (.ofNat 87)], 2, 3, [.int .u8 (.ofNat 2), .int .u8 (.ofNat 1), .int .u8 (.ofNat 2), .int .u8 (.ofNat 0)]⟩
def pkt8 : Pkt := ⟨[.int .u8 (.ofNat 1), .int .u8 (.ofNat 0), .int .u8 (.ofNat 3), .int .u8 (.ofNat 0), .int .u8 (.ofNat 1), .int .u8 (.ofNat 0), .int .u8 (.ofNat 0), .int .u8 (.ofNat 0), .int .u8 (.ofNat 3), .int .u8 (.ofNat 0), .int .u8 (.ofNat 0), .int .u8 (.ofNat 2), .int .u8 (.ofNat 1), .int .u8 (.ofNat 2), .int .u8 (.ofNat 0), .int .u8 (.ofNat 205), .int .u8 (.ofNat 120), .int .u8 (.ofNat 23), .int .u8 (.ofNat 82)], 3, 3, [.int .u8 (.ofNat 2), .int .u8 (.ofNat 1), .int .u8 (.ofNat 2), .int .u8 (.ofNat 0)]⟩
def pkt9 : Pkt := ⟨[.int .u8 (.ofNat 1), .int .u8 (.ofNat 0), .int .u8 (.ofNat 4), .int .u8 (.ofNat 0), .int .u8 (.ofNat 1), .int .u8 (.ofNat 0), .int .u8 (.ofNat 0), .int .u8 (.ofNat 0), .int .u8 (.ofNat 3), .int .u8 (.ofNat 0), .int .u8 (.ofNat 0), .int .u8 (.ofNat 2), .int .u8 (.ofNat 1), .int .u8 (.ofNat 2), .int .u8 (.ofNat 0), .int .u8 (.ofNat 95), .int .u8 (.ofNat 135), .int .u8 (.ofNat 142), .int .u8 (.ofNat 39)], 4, 3, [.int .u8 (.ofNat 2), .int .u8 (.ofNat 1), .int .u8 (.ofNat 2), .int .u8 (.ofNat 0)]⟩
def pkt10 : Pkt := ⟨[.int .u8 (.ofNat 1), .int .u8 (.ofNat 0), .int .u8 (.ofNat 5), .int .u8 (.ofNat 0), .int .u8 (.ofNat 1), .int .u8 (.ofNat 0), .int .u8 (.ofNat 0), .int .u8 (.ofNat 0), .int .u8 (.ofNat 3), .int .u8 (.ofNat 0), .int .u8 (.ofNat 0), .int .u8 (.ofNat 2), .int .u8 (.ofNat 1), .int .u8 (.ofNat 2), .int .u8 (.ofNat 0), .int .u8 (.ofNat 183), .int .u8 (.ofNat 35), .int .u8 (.ofNat 216), .int .u8 (.ofNat 34)], 5, 3, [.int .u8 (.ofNat 2), .int .u8 (.ofNat 1), .int .u8 (.ofNat 2), .int .u8 (.ofNat 0)]⟩
def pkt11 : Pkt := ⟨[.int .u8 (.ofNat 1), .int .u8 (.ofNat 0), .int .u8 (.ofNat 1), .int .u8 (.ofNat 0), .int .u8 (.ofNat 1), .int .u8 (.ofNat 0), .int .u8 (.ofNat 0), .int .u8 (.ofNat 0), .int .u8 (.ofNat 4), .int .u8 (.ofNat 0), .int .u8 (.ofNat 0), .int .u8 (.ofNat 3), .int .u8 (.ofNat 1), .int .u8 (.ofNat 2), .int .u8 (.ofNat 0), .int .u8 (.ofNat 44), .int .u8 (.ofNat 249), .int .u8 (.ofNat 57), .int .u8 (.ofNat 152)], 1, 4, [.int .u8 (.ofNat 3), .int .u8 (.ofNat 1), .int .u8 (.ofNat 2), .int .u8 (.ofNat 0)]⟩
def pkt12 : Pkt := ⟨[.int .u8 (.ofNat 1), .int .u8 (.ofNat 0), .int .u8 (.ofNat 2), .int .u8 (.ofNat 0), .int .u8 (.ofNat 1), .int .u8 (.ofNat 0), .int .u8 (.ofNat 0), .int .u8 (.ofNat 0), .int .u8 (.ofNat 4), .int .u8 (.ofNat 0), .int .u8 (.ofNat 0), .int .u8 (.ofNat 3), .int .u8 (.ofNat 1), .int .u8 (.ofNat 2), .int .u8 (.ofNat 0), .int .u8 (.ofNat 17), .int .u8 (.ofNat 212), .int .u8 (.ofNat 222), .int .u8 (.ofNat 32)], 2, 4, [.int .u8 (.ofNat 3), .int .u8 (.ofNat 1), .int .u8 (.ofNat 2), .int .u8 (.ofNat 0)]⟩
def pkt13 : Pkt := ⟨[.int .u8 (.ofNat 1), .int .u8 (.ofNat 0), .int .u8 (.ofNat 3), .int .u8 (.ofNat 0), .int .u8 (.ofNat 1), .int .u8 (.ofNat 0), .int .u8 (.ofNat 0), .int .u8 (.ofNat 0), .int .u8 (.ofNat 4), .int .u8 (.ofNat 0), .int .u8 (.ofNat 0), .int .u8 (.ofNat 3), .int .u8 (.ofNat 1), .int .u8 (.ofNat 2), .int .u8 (.ofNat 0), .int .u8 (.ofNat 249), .int .u8 (.ofNat 112), .int .u8 (.ofNat 136), .int .u8 (.ofNat 37)], 3, 4, [.int .u8 (.ofNat 3), .int .u8 (.ofNat 1), .int .u8 (.ofNat 2), .int .u8 (.ofNat 0)]⟩
def pkt14 : Pkt := ⟨[.int .u8 (.ofNat 1), .int .u8 (.ofNat 0), .int .u8 (.ofNat 4), .int .u8 (.ofNat 0), .int .u8 (.ofNat 1), .int .u8 (.ofNat 0), .int .u8 (.ofNat 0), .int .u8 (.ofNat 0), .int .u8 (.ofNat 4), .int .u8 (.ofNat 0), .int .u8 (.ofNat 0), .int .u8 (.ofNat 3), .int .u8 (.ofNat 1), .int .u8 (.ofNat 2), .int .u8 (.ofNat 0), .int .u8 (.ofNat 107), .int .u8 (.ofNat 143), .int .u8 (.ofNat 17), .int .u8 (.ofNat 80)], 4, 4, [.int .u8 (.ofNat 3), .int .u8 (.ofNat 1), .int .u8 (.ofNat 2), .int .u8 (.ofNat 0)]⟩
def pkt15 : Pkt := ⟨[.int .u8 (.ofNat 1), .int .u8 (.ofNat 0), .int .u8 (.ofNat 5), .int .u8 (.ofNat 0), .int .u8 (.ofNat 1), .int .u8 (.ofNat 0), .int .u8 (.ofNat 0), .int .u8 (.ofNat 0), .int .u8 (.ofNat 4), .int .u8 (.ofNat 0), .int .u8 (.ofNat 0), .int .u8 (.ofNat 3), .int .u8 (.ofNat 1), .int .u8 (.ofNat 2), .int .u8 (.ofNat 0), .int .u8 (.ofNat 131), .int .u8 (.ofNat 43), .int .u8 (.ofNat 71), .int .u8 (.ofNat 85)], 5, 4, [.int .u8 (.ofNat 3), .int .u8 (.ofNat 1), .int .u8 (.ofNat 2), .int .u8 (.ofNat 0)]⟩
def pkt16 : Pkt := ⟨[.int .u8 (.ofNat 1), .int .u8 (.ofNat 0), .int .u8 (.ofNat 1), .int .u8 (.ofNat 0), .int .u8 (.ofNat 1), .int .u8 (.ofNat 0), .int .u8 (.ofNat 0), .int .u8 (.ofNat 0), .int .u8 (.ofNat 5), .int .u8 (.ofNat 0), .int .u8 (.ofNat 0), .int .u8 (.ofNat 4), .int .u8 (.ofNat 1), .int .u8 (.ofNat 2), .int .u8 (.ofNat 0), .int .u8 (.ofNat 127), .int .u8 (.ofNat 44), .int .u8 (.ofNat 175), .int .u8 (.ofNat 226)], 1, 5, [.int .u8 (.ofNat 4), .int .u8 (.ofNat 1), .int .u8 (.ofNat 2), .int .u8 (.ofNat 0)]⟩
def pkt17 : Pkt := ⟨[.int .u8 (.ofNat 1), .int .u8 (.ofNat 0), .int .u8 (.ofNat 2), .int .u8 (.ofNat 0), .int .u8 (.ofNat 1), .int .u8 (.ofNat 0), .int .u8 (.ofNat 0), .int .u8 (.ofNat 0), .int .u8 (.ofNat 5), .int .u8 (.ofNat 0), .int .u8 (.ofNat 0), .int .u8 (.ofNat 4), .int .u8 (.ofNat 1), .int .u8 (.ofNat 2), .int .u8 (.ofNat 0), .int .u8 (.ofNat 66), .int .u8 (.ofNat 1), .int .u8 (.ofNat 72), .int .u8 (.ofNat 90)], 2, 5, [.int .u8 (.ofNat 4), .int .u8 (.ofNat 1), .int .u8 (.ofNat 2), .int .u8 (.ofNat 0)]⟩
def pkt18 : Pkt := ⟨[.int .u8 (.ofNat 1), .int .u8 (.ofNat 0), .int .u8 (.ofNat 3), .int .u8 (.ofNat 0), .int .u8 (.ofNat 1), .int .u8 (.ofNat 0), .int .u8 (.ofNat 0), .int .u8 (.ofNat 0), .int .u8 (.ofNat 5), .int .u8 (.ofNat 0), .int .u8 (.ofNat 0), .int .u8 (.ofNat 4), .int .u8 (.ofNat 1), .int .u8 (.ofNat 2), .int .u8 (.ofNat 0), .int .u8 (.ofNat 170), .int .u8 (.ofNat 165), .int .u8 (.ofNat 30), .int .u8 (.ofNat 95)], 3, 5, [.int .u8 (.ofNat 4), .int .u8 (.ofNat 1), .int .u8 (.ofNat 2), .int .u8 (.ofNat 0)]⟩
def pkt19 : Pkt := ⟨[.int .u8 (.ofNat 1), .int .u8 (.ofNat 0), .int .u8 (.ofNat 4), .int .u8 (.ofNat 0), .int .u8 (.ofNat 1), .int .u8 (.ofNat 0), .int .u8 (.ofNat 0), .int .u8 (.ofNat 0), .int .u8 (.ofNat 5), .int .u8 (.ofNat 0), .int .u8 (.ofNat 0), .int .u8 (.ofNat 4), .int .u8 (.ofNat 1), .int .u8 (.ofNat 2), .int .u8 (.ofNat 0), .int .u8 (.ofNat 56), .int .u8 (.ofNat 90), .int .u8 (.ofNat 135), .int .u8 (.ofNat 42)], 4, 5, [.int .u8 (.ofNat 4), .int .u8 (.ofNat 1), .int .u8 (.ofNat 2), .int .u8 (.ofNat 0)]⟩
def pkt20 : Pkt := ⟨[.int .u8 (.ofNat 1), .int .u8 (.ofNat 0), .int .u8 (.ofNat 5), .int .u8 (.ofNat 0), .int .u8 (.ofNat 1), .int .u8 (.ofNat 0), .int .u8 (.ofNat 0), .int .u8 (.ofNat 0), .int .u8 (.ofNat 5), .int .u8 (.ofNat 0), .int .u8 (.ofNat 0), .int .u8 (.ofNat 4), .int .u8 (.ofNat 1), .int .u8 (.ofNat 2), .int .u8 (.ofNat 0), .int .u8 (.ofNat 208), .int .u8 (.ofNat 254), .int .u8 (.ofNat 209), .int .u8 (.ofNat 47)], 5, 5, [.int .u8 (.ofNat 4), .int .u8 (.ofNat 1), .int .u8 (.ofNat 2), .int .u8 (.ofNat 0)]⟩
def pkt21 : Pkt := ⟨[.int .u8 (.ofNat 1), .int .u8 (.ofNat 0), .int .u8 (.ofNat 1), .int .u8 (.ofNat 0), .int .u8 (.ofNat 1), .int .u8 (.ofNat 0), .int .u8 (.ofNat 0), .int .u8 (.ofNat 0), .int .u8 (.ofNat 6), .int .u8 (.ofNat 0), .int .u8 (.ofNat 0), .int .u8 (.ofNat 5), .int .u8 (.ofNat 1), .int .u8 (.ofNat 2), .int .u8 (.ofNat 0), .int .u8 (.ofNat 114), .int .u8 (.ofNat 184), .int .u8 (.ofNat 141), .int .u8 (.ofNat 102)], 1, 6, [.int .u8 (.ofNat 5), .int .u8 (.ofNat 1), .int .u8 (.ofNat 2), .int .u8 (.ofNat 0)]⟩
def pkt22 : Pkt := ⟨[.int .u8 (.ofNat 1), .int .u8 (.ofNat 0), .int .u8 (.ofNat 2), .int .u8 (.ofNat 0), .int .u8 (.ofNat 1), .int .u8 (.ofNat 0), .int .u8 (.ofNat 0), .int .u8 (.ofNat 0), .int .u8 (.ofNat 6), .int .u8 (.ofNat 0), .int .u8 (.ofNat 0), .int .u8 (.ofNat 5), .int .u8 (.ofNat 1), .int .u8 (.ofNat 2), .int .u8 (.ofNat 0), .int .u8 (.ofNat 79), .int .u8 (.ofNat 149), .int .u8 (.ofNat 106), .int .u8 (.ofNat 222)], 2, 6, [.int .u8 (.ofNat 5), .int .u8 (.ofNat 1), .int .u8 (.ofNat 2), .int .u8 (.ofNat 0)]⟩
def pkt23 : Pkt := ⟨[.int .u8 (.ofNat 1), .int .u8 (.ofNat 0), .int .u8 (.ofNat 3), .int .u8 (.ofNat 0), .int .u8 (.ofNat 1), .int .u8 (.ofNat 0), .int .u8 (.ofNat 0), .int .u8 (.ofNat 0), .int .u8 (.ofNat 6), .int .u8 (.ofNat 0), .int .u8 (.ofNat 0), .int .u8 (.ofNat 5), .int .u8 (.ofNat 1), .int .u8 (.ofNat 2), .int .u8 (.ofNat 0), .int .u8 (.ofNat 167), .int .u8 (.ofNat 49), .int .u8 (.ofNat 60), .int .u8 (.ofNat 219)], 3, 6, [.int .u8 (.ofNat 5), .int .u8 (.ofNat 1), .int .u8 (.ofNat 2), .int .u8 (.ofNat 0)]⟩
def pkt24 : Pkt := ⟨[.int .u8 (.ofNat 1), .int .u8 (.ofNat 0), .int .u8 (.ofNat 4), .int .u8 (.ofNat 0), .int .u8 (.ofNat 1), .int .u8 (.ofNat 0), .int .u8 (.ofNat 0), .int .u8 (.ofNat 0), .int .u8 (.ofNat 6), .int .u8 (.ofNat 0), .int .u8 (.ofNat 0), .int .u8 (.ofNat 5), .int .u8 (.ofNat 1), .int .u8 (.ofNat 2), .int .u8 (.ofNat 0), .int .u8 (.ofNat 53), .int .u8 (.ofNat 206), .int .u8 (.ofNat 165), .int .u8 (.ofNat 174)], 4, 6, [.int .u8 (.ofNat 5), .int .u8 (.ofNat 1), .int .u8 (.ofNat 2), .int .u8 (.ofNat 0)]⟩
def pkt25 : Pkt := ⟨[.int .u8 (.ofNat 1), .int .u8 (.ofNat 0), .int .u8 (.ofNat 5), .int .u8 (.ofNat 0), .int .u8 (.ofNat 1), .int .u8 (.ofNat 0), .int .u8 (.ofNat 0), .int .u8 (.ofNat 0), .int .u8 (.ofNat 6), .int .u8 (.ofNat 0), .int .u8 (.ofNat 0), .int .u8 (.ofNat 5), .int .u8 (.ofNat 1), .int .u8 (.ofNat 2), .int .u8 (.ofNat 0), .int .u8 (.ofNat 221), .int .u8 (.ofNat 106), .int .u8 (.ofNat 243), .int .u8 (.ofNat 171)], 5, 6, [.int .u8 (.ofNat 5), .int .u8 (.ofNat 1), .int .u8 (.ofNat 2), .int .u8 (.ofNat 0)]⟩
def pkts : List Pkt := [pkt0, pkt1, pkt2, pkt3, pkt4, pkt5, pkt6, pkt7, pkt8, pkt9, pkt10, pkt11, pkt12, pkt13, pkt14, pkt15, pkt16, pkt17, pkt18, pkt19, pkt20, pkt21, pkt22, pkt23, pkt24, pkt25]
theorem take18_0 : RunP 18 7 pkt0 := by unfold RunP; kernel_rfl
theorem take106_0 : RunP 106 21 pkt0 := by unfold RunP; kernel_rfl
theorem take18_1 : RunP 18 7 pkt1 := by unfold RunP; kernel_rfl
theorem take106_1 : RunP 106 21 pkt1 := by unfold RunP; kernel_rfl
theorem take18_2 : RunP 18 7 pkt2 := by unfold RunP; kernel_rfl
theorem take106_2 : RunP 106 21 pkt2 := by unfold RunP; kernel_rfl
theorem take18_3 : RunP 18 7 pkt3 := by unfold RunP; kernel_rfl
theorem take106_3 : RunP 106 21 pkt3 := by unfold RunP; kernel_rfl
theorem take18_4 : RunP 18 7 pkt4 := by unfold RunP; kernel_rfl
theorem take106_4 : RunP 106 21 pkt4 := by unfold RunP; kernel_rfl
theorem take18_5 : RunP 18 7 pkt5 := by unfold RunP; kernel_rfl
theorem take106_5 : RunP 106 21 pkt5 := by unfold RunP; kernel_rfl
theorem take18_6 : RunP 18 7 pkt6 := by unfold RunP; kernel_rfl
theorem take106_6 : RunP 106 21 pkt6 := by unfold RunP; kernel_rfl
theorem take18_7 : RunP 18 7 pkt7 := by unfold RunP; kernel_rfl
theorem take106_7 : RunP 106 21 pkt7 := by unfold RunP; kernel_rfl
theorem take18_8 : RunP 18 7 pkt8 := by unfold RunP; kernel_rfl
theorem take106_8 : RunP 106 21 pkt8 := by unfold RunP; kernel_rfl
theorem take18_9 : RunP 18 7 pkt9 := by unfold RunP; kernel_rfl
theorem take106_9 : RunP 106 21 pkt9 := by unfold RunP; kernel_rfl
theorem take18_10 : RunP 18 7 pkt10 := by unfold RunP; kernel_rfl
theorem take106_10 : RunP 106 21 pkt10 := by unfold RunP; kernel_rfl
theorem take18_11 : RunP 18 7 pkt11 := by unfold RunP; kernel_rfl
theorem take106_11 : RunP 106 21 pkt11 := by unfold RunP; kernel_rfl
theorem take18_12 : RunP 18 7 pkt12 := by unfold RunP; kernel_rfl
theorem take106_12 : RunP 106 21 pkt12 := by unfold RunP; kernel_rfl
theorem take18_13 : RunP 18 7 pkt13 := by unfold RunP; kernel_rfl
theorem take106_13 : RunP 106 21 pkt13 := by unfold RunP; kernel_rfl
theorem take18_14 : RunP 18 7 pkt14 := by unfold RunP; kernel_rfl
theorem take106_14 : RunP 106 21 pkt14 := by unfold RunP; kernel_rfl
theorem take18_15 : RunP 18 7 pkt15 := by unfold RunP; kernel_rfl
theorem take106_15 : RunP 106 21 pkt15 := by unfold RunP; kernel_rfl
theorem take18_16 : RunP 18 7 pkt16 := by unfold RunP; kernel_rfl
theorem take106_16 : RunP 106 21 pkt16 := by unfold RunP; kernel_rfl
theorem take18_17 : RunP 18 7 pkt17 := by unfold RunP; kernel_rfl
theorem take106_17 : RunP 106 21 pkt17 := by unfold RunP; kernel_rfl
theorem take18_18 : RunP 18 7 pkt18 := by unfold RunP; kernel_rfl
theorem take106_18 : RunP 106 21 pkt18 := by unfold RunP; kernel_rfl
theorem take18_19 : RunP 18 7 pkt19 := by unfold RunP; kernel_rfl
theorem take106_19 : RunP 106 21 pkt19 := by unfold RunP; kernel_rfl
theorem take18_20 : RunP 18 7 pkt20 := by unfold RunP; kernel_rfl
theorem take106_20 : RunP 106 21 pkt20 := by unfold RunP; kernel_rfl
theorem take18_21 : RunP 18 7 pkt21 := by unfold RunP; kernel_rfl
theorem take106_21 : RunP 106 21 pkt21 := by unfold RunP; kernel_rfl
theorem take18_22 : RunP 18 7 pkt22 := by unfold RunP; kernel_rfl
theorem take106_22 : RunP 106 21 pkt22 := by unfold RunP; kernel_rfl
theorem take18_23 : RunP 18 7 pkt23 := by unfold RunP; kernel_rfl
theorem take106_23 : RunP 106 21 pkt23 := by unfold RunP; kernel_rfl
theorem take18_24 : RunP 18 7 pkt24 := by unfold RunP; kernel_rfl
theorem take106_24 : RunP 106 21 pkt24 := by unfold RunP; kernel_rfl
theorem take18_25 : RunP 18 7 pkt25 := by unfold RunP; kernel_rfl
theorem take106_25 : RunP 106 21 pkt25 := by unfold RunP; kernel_rfl
theorem run18 : ∀ x ∈ pkts, RunP 18 7 x := by
  intro x hx
  simp only [pkts, List.mem_cons, List.not_mem_nil, or_false] at hx
  rcases hx with rfl | rfl | rfl | rfl | rfl | rfl | rfl | rfl | rfl | rfl | rfl | rfl | rfl | rfl | rfl | rfl | rfl | rfl | rfl | rfl | rfl | rfl | rfl | rfl | rfl | rfl
  · exact take18_0
  · exact take18_1
  · exact take18_2
  · exact take18_3
  · exact take18_4
  · exact take18_5
  · exact take18_6
  · exact take18_7
  · exact take18_8
  · exact take18_9
  · exact take18_10
  · exact take18_11
  · exact take18_12
  · exact take18_13
  · exact take18_14
  · exact take18_15
  · exact take18_16
  · exact take18_17
  · exact take18_18
  · exact take18_19
  · exact take18_20
  · exact take18_21
  · exact take18_22
  · exact take18_23
  · exact take18_24
  · exact take18_25
theorem run106 : ∀ x ∈ pkts, RunP 106 21 x := by
  intro x hx
  simp only [pkts, List.mem_cons, List.not_mem_nil, or_false] at hx
  rcases hx with rfl | rfl | rfl | rfl | rfl | rfl | rfl | rfl | rfl | rfl | rfl | rfl | rfl | rfl | rfl | rfl | rfl | rfl | rfl | rfl | rfl | rfl | rfl | rfl | rfl | rfl
  · exact take106_0
  · exact take106_1
  · exact take106_2
  · exact take106_3
  · exact take106_4
  · exact take106_5
  · exact take106_6
  · exact take106_7
  · exact take106_8
  · exact take106_9
  · exact take106_10
  · exact take106_11
  · exact take106_12
  · exact take106_13
  · exact take106_14
  · exact take106_15
  · exact take106_16
  · exact take106_17
  · exact take106_18
  · exact take106_19
  · exact take106_20
  · exact take106_21
  · exact take106_22
  · exact take106_23
  · exact take106_24
  · exact take106_25
theorem pkts_ok : ∀ x ∈ pkts, okP x = true := by
  intro x hx
  simp only [pkts, List.mem_cons, List.not_mem_nil, or_false] at hx
  rcases hx with rfl | rfl | rfl | rfl | rfl | rfl | rfl | rfl | rfl | rfl | rfl | rfl | rfl | rfl | rfl | rfl | rfl | rfl | rfl | rfl | rfl | rfl | rfl | rfl | rfl | rfl <;> rfl
noncomputable def smO : Summ := fun f => bb2 (Nat.beq f 18) (some (gP pkts 18)) (bb2 (Nat.beq f 106) (some (gP pkts 106)) (smB f))
theorem smO_ok : SumOK Tryz.prog smO := by
  intro f g hf
  unfold smO at hf
  simp only [bb2_eq] at hf
  cases h1 : Nat.beq f 18 with
  | true => simp only [h1, cond_true, Option.some.injEq] at hf; subst hf; rw [Nat.eq_of_beq_eq_true h1]; exact gP_ok (k := 7) (by decide) pkts_ok run18
  | false =>
    cases h2 : Nat.beq f 106 with
    | true => simp only [h1, h2, cond_true, cond_false, Option.some.injEq] at hf; subst hf; rw [Nat.eq_of_beq_eq_true h2]; exact gP_ok (k := 21) (by decide) pkts_ok run106
    | false => simp only [h1, h2, cond_false] at hf; exact smB_ok f g hf
noncomputable def cOrd : Call := callK FK smO dsA (nat_lit 1000) (nat_lit 40)
theorem cOrd_ok : CallOK Tryz.prog cOrd := callK_ok smO_ok dsA_ok _ _
end Go.Proofs.YtbilacojhmohmaaGreat.Ae
