/- TopGone: the last loop, at each frame, run in the kernel; all that it does not read is left open. TopGone: the last loop answers true, if Above answers as it should. No condition. -/
import Derived.Test.YtbilacojhmohmaaGreatBeGonTk
import Derived.KernelRfl
import Derived.Test.YtbilacojhmohmaaGreatBeGonGd
namespace Go.Proofs.YtbilacojhmohmaaGreat.Ae
open Go
set_option linter.unusedVariables false
set_option linter.unusedSimpArgs false
def abL : List CR := match gonAB with
  | .region l => l
  | _ => []
def abP : List CR := abL.take 6
def abQ : List CR := abL.drop 7
theorem gonAB_eq : gonAB = .region (abP ++ .call (some 142) none 19 [.t 136, .t 141] :: abQ) := rfl
noncomputable def bN {β : Type} (r : Option Out) (f : Tr AV → AW → Option β) : Option β :=
  Option.rec (motive := fun _ => Option β) none (fun o => Out.rec (motive := fun _ => Option β) (fun x act aw => AX.rec (motive := fun _ => Option β) (AAct.rec (motive := fun _ => Option β) (fun t n ds => List.rec (motive := fun _ => Option β) (bb2 (Nat.beq n (nat_lit 187)) (f t aw) none) (fun _ _ _ => none) ds) act) (fun _ => none) none (fun _ => none) x) o) r
theorem bN_ok {β : Type} {r : Option Out} {f : Tr AV → AW → Option β} {b : β} (h : bN r f = some b) : ∃ t aw, r = some ⟨.norm, ⟨t, 187, []⟩, aw⟩ ∧ f t aw = some b := by
  cases r with
  | none => cases h
  | some o =>
    obtain ⟨x, ⟨t, n, ds⟩, aw⟩ := o
    cases x with
    | norm =>
      cases ds with
      | nil =>
        have h : bb2 (Nat.beq n 187) (f t aw) none = some b := h
        rw [bb2_eq] at h
        cases hn : Nat.beq n 187 <;> simp only [hn, cond_true, cond_false, reduceCtorEq] at h
        rw [Nat.eq_of_beq_eq_true hn]
        exact ⟨t, aw, rfl, h⟩
      | cons d l => cases h
    | exit _ => cases h
    | ret => cases h
    | panic _ => cases h
noncomputable def hasN (x : Nat) (l : List Nat) : Bool := List.rec (motive := fun _ => Bool) false (fun y _ ih => bb2 (Nat.beq x y) true ih) l
/-- the frames, of which but the numbers are known; the events, of which one's kind is known -/
def frX (X : Nat → AV) : List AV := [vW 1, X 0, X 1, vI 3, vI 5, vI 10, vW 2, X 2, X 3, vI 3, vI 5, vI 10, vW 3, X 4, X 5, vI 3, vI 5, vI 10, vW 4, X 6, X 7, vI 3, vI 5, vI 10, vW 5, X 8, X 9, vI 3, vI 5, vI 10, vW 6, X 10, X 11, vI 3, vI 5, vI 10]
noncomputable def atN (g q : Nat) : Nat := bb2 (Nat.ble (Nat.succ q) g) (nat_lit 5) (nat_lit 10)
noncomputable def kd (K : Nat → AV) (i κ q : Nat) : AV := bb2 (Nat.beq q i) (vI κ) (K q)
noncomputable def trX (K : Nat → AV) (i κ g : Nat) : List AV := [kd K i κ 0, vW 1, vI (atN g 0), .undef, kd K i κ 1, vW 2, vI (atN g 1), .undef, kd K i κ 2, vW 3, vI (atN g 2), .undef, kd K i κ 3, vW 4, vI (atN g 3), .undef, kd K i κ 4, vW 5, vI (atN g 4), .undef, kd K i κ 5, vW 6, vI (atN g 5), .undef]
/-- its kind, if those are above it -/
noncomputable def kapp (i g : Nat) (A : List Nat) : Nat := bb2 (Nat.beq i g) (nat_lit 2) (bb2 (hasN (Nat.succ g) A) (nat_lit 2) (nat_lit 1))
noncomputable def eTm (g i : Nat) : List (Nat × AV) := [(7, vI g), (8, .slc (some (0, 0)) 6 (.upto 6 6)), (12, .slc (some (1, 0)) 6 (.upto 4 6)), (20, vI i)]
noncomputable def eSt (X K : Nat → AV) (i κ g : Nat) : List AO := [.cells (frX X) 31 true, .cells (trX K i κ g) 42 true]
noncomputable def slcA (A : List Nat) (k : Nat) : AV := List.rec (motive := fun _ => AV) vN (fun _ _ _ => .slc (some (k, 0)) (cntN A) (.upto 1 (cntN A))) A
noncomputable def addA (A : List Nat) (aw : AW) : AW := List.rec (motive := fun _ => AW) aw (fun _ _ _ => awAdd aw (.cells (numsA A) 28 true)) A
noncomputable def endI (X K : Nat → AV) (i g : Nat) (A : List Nat) : Option (List (Option AV) × Option AO × Option AO × Option AO) :=
  bN (at7 gonT8 (tmOf (eTm g i) .leaf) (ofObjs (eSt X K i (kapp i g A) g) (nat_lit 2))) fun t aw => bN (at7 gonW1 t aw) fun t aw => bN (at7 gonW2 t aw) fun t aw => bN (at7 (.region abP) t aw) fun t1 aw1 =>
    bN (at7 (.region abQ) (trSet t1 (nat_lit 142) (slcA A aw1.nx)) (addA A aw1)) fun t aw => bN (at7 (.seq gonI23 (.block 10 (.loop gonB10))) t aw) fun t aw => bN (at7 gonCk t aw) fun t aw => bN (at7 gonI8 t aw) fun t3 aw3 =>
      some ([trGet t3 (nat_lit 7), trGet t3 (nat_lit 8), trGet t3 (nat_lit 12), trGet t3 (nat_lit 20), trGet t1 (nat_lit 136), trGet t1 (nat_lit 141)], awGet aw1 (nat_lit 0), awGet aw3 (nat_lit 0), awGet aw3 (nat_lit 1))
noncomputable def expI (X K : Nat → AV) (i g : Nat) (A : List Nat) : Option (List (Option AV) × Option AO × Option AO × Option AO) :=
  some ([some (vI g), some (.slc (some (0, 0)) 6 (.upto 6 6)), some (.slc (some (1, 0)) 6 (.upto 4 6)), some (vI (Nat.succ i)), some (.slc (some (0, 0)) 6 (.upto 6 6)), some (vW (Nat.succ i))], some (.cells (frX X) 31 true), some (.cells (frX X) 31 true), some (.cells (trX K i (kapp i g A) g) 42 true))
def galI (i : Nat) : List (Nat × List Nat) := (List.range 6).flatMap fun g => (subsL (upTo i)).map fun A => (g, A)
theorem end_0 : ∀ X K : Nat → AV, (galI 0).map (fun p => endI X K 0 p.1 p.2) = (galI 0).map (fun p => expI X K 0 p.1 p.2) := by
  intro X K
  kernel_rfl
theorem end_1 : ∀ X K : Nat → AV, (galI 1).map (fun p => endI X K 1 p.1 p.2) = (galI 1).map (fun p => expI X K 1 p.1 p.2) := by
  intro X K
  kernel_rfl
theorem end_2 : ∀ X K : Nat → AV, (galI 2).map (fun p => endI X K 2 p.1 p.2) = (galI 2).map (fun p => expI X K 2 p.1 p.2) := by
  intro X K
  kernel_rfl
theorem end_3 : ∀ X K : Nat → AV, (galI 3).map (fun p => endI X K 3 p.1 p.2) = (galI 3).map (fun p => expI X K 3 p.1 p.2) := by
  intro X K
  kernel_rfl
theorem end_4 : ∀ X K : Nat → AV, (galI 4).map (fun p => endI X K 4 p.1 p.2) = (galI 4).map (fun p => expI X K 4 p.1 p.2) := by
  intro X K
  kernel_rfl
theorem end_5 : ∀ X K : Nat → AV, (galI 5).map (fun p => endI X K 5 p.1 p.2) = (galI 5).map (fun p => expI X K 5 p.1 p.2) := by
  intro X K
  kernel_rfl
theorem end_all {i g : Nat} {A : List Nat} (hi : i < 6) (hg : g < 6) (hA : A ∈ subsL (upTo i)) (X K : Nat → AV) : endI X K i g A = expI X K i g A := by
  have hm : (g, A) ∈ galI i := List.mem_flatMap.2 ⟨g, List.mem_range.2 hg, List.mem_map.2 ⟨A, hA, rfl⟩⟩
  have all : (galI i).map (fun p => endI X K i p.1 p.2) = (galI i).map (fun p => expI X K i p.1 p.2) := by
    match i, hi with
    | 0, _ => exact end_0 X K
    | 1, _ => exact end_1 X K
    | 2, _ => exact end_2 X K
    | 3, _ => exact end_3 X K
    | 4, _ => exact end_4 X K
    | 5, _ => exact end_5 X K
  exact List.map_inj_left.1 all (g, A) hm
end Go.Proofs.YtbilacojhmohmaaGreat.Ae

namespace Go.Proofs.YtbilacojhmohmaaGreat.Ae
open Go
set_option linter.unusedVariables false
set_option linter.unusedSimpArgs false
/-- it leads to no block that is known -/
def AV.free : AV → Bool
  | .undef | .int _ _ | .bool _ | .sl _ | .slc none _ _ => true
  | _ => false
theorem VRel.free {E E' : Env} {a : AV} {v : Value} (h : VRel E a v) (hf : a.free = true) (hs : E'.sym = E.sym) (ht : E'.tk = E.tk) : VRel E' a v := by
  cases h <;> simp only [AV.free, Bool.false_eq_true] at hf
  · exact .undef _
  · exact .int _ _
  · exact .bool _
  · exact .nilSlc
  · rename_i hk ha
    rw [← hs] at hk ha ⊢
    refine .sl hk ?_
    obtain ⟨h1, s, h2, h3⟩ := ha
    exact ⟨h1, s, by rw [ht]; exact h2, h3⟩
theorem ORel.free {E E' : Env} {L : Loc} {w : World} {l : List AV} {e : TypeId} {b : Bool} (h : ORel E L w (.cells l e b)) (hf : l.all AV.free = true) (hs : E'.sym = E.sym) (ht : E'.tk = E.tk) : ORel E' L w (.cells l e b) := by
  obtain ⟨c, fz, h1, h2, h3, h4, h5⟩ := h
  refine ⟨c, fz, h1, h2, h3, h4, fun i a hi => ?_⟩
  obtain ⟨v, hv, hr⟩ := h5 i a hi
  exact ⟨v, hv, hr.free (List.all_eq_true.1 hf a (List.mem_of_getElem? hi)) hs ht⟩
def cutE (E : Env) : Env := { E with loc := E.loc.take 2 }
theorem cut2 {E : Env} {aw : AW} {w : World} {l0 l1 : List AV} {e0 e1 : TypeId} {b0 b1 : Bool} (hR : Rel E aw w) (h0 : aw.get 0 = some (.cells l0 e0 b0)) (h1 : aw.get 1 = some (.cells l1 e1 b1)) (f0 : l0.all AV.free = true) (f1 : l1.all AV.free = true) :
    Rel (cutE E) (ofObjs [.cells l0 e0 b0, .cells l1 e1 b1] 2) w := by
  obtain ⟨L0, hL0, r0⟩ := hR.obj 0 _ h0
  obtain ⟨L1, hL1, r1⟩ := hR.obj 1 _ h1
  have hlen : 2 ≤ E.loc.length := (List.getElem?_eq_some_iff.1 hL1).1
  have k0 : (cutE E).loc[0]? = some L0 := by simp [cutE, hL0]
  have k1 : (cutE E).loc[1]? = some L1 := by simp [cutE, hL1]
  have old : ∀ {i oi}, (ofObjs [.cells l0 e0 b0, .cells l1 e1 b1] 2).get i = some oi → aw.get i = some oi ∧ (cutE E).loc[i]? = E.loc[i]? := fun {i oi} hi => by
    rw [ofObjs_get] at hi
    match i with
    | 0 => injection hi with hi; subst hi; exact ⟨h0, by rw [k0, hL0]⟩
    | 1 => injection hi with hi; subst hi; exact ⟨h1, by rw [k1, hL1]⟩
    | i + 2 => simp at hi
  refine ⟨?_, hR.ns, fun j x hj => ?_, fun i j oi oj Li Lj hi hj li lj ei ej eb => ?_, hR.frame, fun i oi Li hi li ei => ?_, ⟨hR.tok.1, fun i oi Li hi li ei => ?_⟩⟩
  · show 2 = (E.loc.take 2).length
    rw [List.length_take]; omega
  · obtain ⟨q1, q2⟩ := old hj
    obtain ⟨L, hL, hr⟩ := hR.obj j x q1
    refine ⟨L, by rw [q2, hL], ?_⟩
    rw [ofObjs_get] at hj
    match j with
    | 0 => injection hj with hj; subst hj; exact hr.free f0 rfl rfl
    | 1 => injection hj with hj; subst hj; exact hr.free f1 rfl rfl
    | j + 2 => simp at hj
  · obtain ⟨q1, q2⟩ := old hi
    obtain ⟨q3, q4⟩ := old hj
    exact hR.inj i j oi oj Li Lj q1 q3 li lj (q2 ▸ ei) (q4 ▸ ej) eb
  · obtain ⟨q1, q2⟩ := old hi
    exact hR.apart i oi Li q1 li (q2 ▸ ei)
  · obtain ⟨q1, q2⟩ := old hi
    exact hR.tok.2 i oi Li q1 li (q2 ▸ ei)
theorem slc_cut {E : Env} {i n lo sz : Nat} {v : Value} (hi : i < 2) (h : VRel E (.slc (some (i, 0)) n (.upto sz lo)) v) : VRel (cutE E) (.slc (some (i, 0)) n (.upto sz lo)) v := by
  cases h with
  | slcUp hL a b d => exact .slcUp (by simp [cutE, hi, hL]) a b d

/-- it is left with true -/
def TrueQ (fr : Nat → Option Obj) (os : Os) (out : Array (Nat × ByteArray)) (s : Nat) : Post' := fun e ca w => e = .ret ∧ ca.defers = [] ∧ ca.tmps[s]? = some (.bool true) ∧ w.os = os ∧ w.output = out ∧ ∀ b o, fr b = some o → w.heap[b]? = some o
noncomputable def isTrue6 (v : Option AV) : Bool := Option.rec (motive := fun _ => Bool) false (fun v => vBool v (fun b => b) false) v
noncomputable def atRet6 (r : Option Out) : Bool :=
  Option.rec (motive := fun _ => Bool) false (fun o => Out.rec (motive := fun _ => Bool) (fun x act _ => AX.rec (motive := fun _ => Bool) false (fun _ => false) (AAct.rec (motive := fun _ => Bool) (fun t _ ds => List.rec (motive := fun _ => Bool) (isTrue6 (trGet t (nat_lit 4))) (fun _ _ _ => false) ds) act) (fun _ => false) x) o) r
section
variable {fr : Nat → Option Obj} {ρ : Nat → Nat} {os : Os} {out : Array (Nat × ByteArray)} {ls : Nat → List Nat} {Q : Post'}
theorem tail_good {t : Tr AV} {aw : AW} (ht : atRet6 (at7 gonTail t aw) = true) : G fr ρ os out ls gonTail (TrueQ fr os out 4) ⟨t, 187, []⟩ aw := by
  rw [at7_eq] at ht
  cases hx : xcode cOrd 1000 gonTail ⟨t, 187, []⟩ aw with
  | none => rw [hx] at ht; cases ht
  | some o =>
    rw [hx] at ht
    obtain ⟨x, ⟨t, n, ds⟩, aw⟩ := o
    cases x with
    | norm => cases ht
    | exit _ => cases ht
    | panic _ => cases ht
    | ret =>
      cases ds with
      | cons d l => cases ht
      | nil =>
        have ht : isTrue6 (trGet t 4) = true := ht
        rw [trGet_eq] at ht
        refine Good.run cOrd_ok dr_ok hx fun E e ca w hE hS hR hA hX => ?_
        cases e <;> simp only [XRel] at hX
        refine ⟨rfl, ?_, ?_, ?_, ?_, fun b ob hb => hR.frame b ob (by rw [hE]; exact hb)⟩
        · have := hA.defs
          generalize ca.defers = df at this
          cases this; rfl
        · cases hv : t.get 4 4 with
          | none => rw [hv] at ht; cases ht
          | some v =>
            rw [hv] at ht
            cases v <;> first | cases ht | skip
            obtain ⟨x, hx, hr⟩ := hA.tmps 4 _ hv
            cases hr
            exact hx
        · rw [hR.ns.2.1, hS]
        · rw [hR.ns.2.2, hS]
/-- Above answers as it should -/
def AboveOK (ρ : Nat → Nat) (os : Os) (out : Array (Nat × ByteArray)) (ls : Nat → List Nat) (bs : List Bool) (anc : Nat → List Nat) : Prop :=
  ∀ (i : Nat), i < 6 → ∀ E w aw cargs, E.sym = sy ρ os out ls → aw.get 0 = some (.cells (frL bs 0) 31 true) → LRel E [.slc (some (0, 0)) 6 (.upto 6 6), vW (i + 1)] cargs → Rel E aw w →
    Calls Tryz.prog 19 cargs.toArray w fun e w' => ∃ E', E.Le E' ∧ ResRel E' (.ret (slcA (anc i) aw.nx) (addA (anc i) aw)) e w'
theorem frX_eq : ∀ {bs : List Bool}, bs.length = 6 → ∃ X, frX X = frL bs 0 ∧ (frX X).all AV.free = true
  | [b0, b1, b2, b3, b4, b5], _ => by
    refine ⟨fun n => match n with
      | 0 => vI (bb2 b0 2 1) | 1 => bb2 b0 (.sl 0) vN | 2 => vI (bb2 b1 2 1) | 3 => bb2 b1 (.sl 1) vN | 4 => vI (bb2 b2 2 1) | 5 => bb2 b2 (.sl 2) vN
      | 6 => vI (bb2 b3 2 1) | 7 => bb2 b3 (.sl 3) vN | 8 => vI (bb2 b4 2 1) | 9 => bb2 b4 (.sl 4) vN | 10 => vI (bb2 b5 2 1) | _ => bb2 b5 (.sl 5) vN, rfl, ?_⟩
    cases b0 <;> cases b1 <;> cases b2 <;> cases b3 <;> cases b4 <;> cases b5 <;> rfl
theorem trX_eq {g i : Nat} (hi : i < 6) : ∀ {ks : List Nat}, ks.length = 6 → ∀ κ, ks[i]? = some κ → trX (fun q => vI (ks.getD q 0)) i κ g = trL ks g 0
  | [k0, k1, k2, k3, k4, k5], _, κ, hk => by
    match i, hi with
    | 0, _ => injection hk with hk; subst hk; rfl
    | 1, _ => injection hk with hk; subst hk; rfl
    | 2, _ => injection hk with hk; subst hk; rfl
    | 3, _ => injection hk with hk; subst hk; rfl
    | 4, _ => injection hk with hk; subst hk; rfl
    | 5, _ => injection hk with hk; subst hk; rfl
theorem trL_free (g : Nat) : ∀ (ks : List Nat) (q : Nat), (trL ks g q).all AV.free = true
  | [], _ => rfl
  | k :: ks, q => by
    have := trL_free g ks (q + 1)
    show (vI k :: vW (q + 1) :: vI _ :: .undef :: trL ks g (q + 1)).all AV.free = true
    simp [AV.free, this] at this ⊢
theorem slcA_nil (k : Nat) : slcA [] k = vN := rfl
noncomputable def endX (X : Nat → AV) (tr : List AV) (g : Nat) : Bool := atExit (nat_lit 8) (nat_lit 187) (at7 gonT8 (tmOf (eTm g (nat_lit 6)) .leaf) (ofObjs [.cells (frX X) 31 true, .cells tr 42 true] (nat_lit 2))) fun t aw => atRet6 (at7 gonTail t aw)
theorem endX_ok : ∀ (X : Nat → AV) (tr : List AV) (g : Nat), endX X tr g = true := by
  intro X tr g
  kernel_rfl
/-- at the last loop, round i -/
def GE (fr : Nat → Option Obj) (ρ : Nat → Nat) (os : Os) (out : Array (Nat × ByteArray)) (ls : Nat → List Nat) (Q : Post') (fl tl : List AV) (g i : Nat) : Prop :=
  GL fr ρ os out ls gonB8 (Exit.inBlock 8 (thenC Tryz.prog (cDraw Tryz.prog) gonTail Q)) ⟨tmOf (eTm g i) .leaf, 187, []⟩ (ofObjs [.cells fl 31 true, .cells tl 42 true] 2)
theorem cut_good {b : CC} {t3 : Tr AV} {aw3 : AW} {fl tl : List AV} {g i : Nat} (h7 : t3.get 7 7 = some (vI g)) (h8 : t3.get 8 8 = some (.slc (some (0, 0)) 6 (.upto 6 6))) (h12 : t3.get 12 12 = some (.slc (some (1, 0)) 6 (.upto 4 6))) (h20 : t3.get 20 20 = some (vI i))
    (h0 : aw3.get 0 = some (.cells fl 31 true)) (h1 : aw3.get 1 = some (.cells tl 42 true)) (f0 : fl.all AV.free = true) (f1 : tl.all AV.free = true) (hg : GL fr ρ os out ls b Q ⟨tmOf (eTm g i) .leaf, 187, []⟩ (ofObjs [.cells fl 31 true, .cells tl 42 true] 2)) : GL fr ρ os out ls b Q ⟨t3, 187, []⟩ aw3 := by
  intro c hc E ca w hE hS hA hR
  refine hg c hc (cutE E) ca w hE hS ⟨hA.size, fun s v hv => ?_, ?_⟩ (cut2 hR h0 h1 f0 f1)
  · have hv : (tmOf (eTm g i) .leaf).get s s = some v := hv
    rcases tmOf_get (eTm g i) _ s v hv with hm | hm
    · simp only [eTm, List.mem_cons, List.not_mem_nil, or_false, Prod.mk.injEq] at hm
      rcases hm with ⟨rfl, rfl⟩ | ⟨rfl, rfl⟩ | ⟨rfl, rfl⟩ | ⟨rfl, rfl⟩
      · obtain ⟨x, hx, hr⟩ := hA.tmps _ _ h7
        exact ⟨x, hx, hr.free rfl rfl rfl⟩
      · obtain ⟨x, hx, hr⟩ := hA.tmps _ _ h8
        exact ⟨x, hx, slc_cut (by omega) hr⟩
      · obtain ⟨x, hx, hr⟩ := hA.tmps _ _ h12
        exact ⟨x, hx, slc_cut (by omega) hr⟩
      · obtain ⟨x, hx, hr⟩ := hA.tmps _ _ h20
        exact ⟨x, hx, hr.free rfl rfl rfl⟩
    · simp [Tr.get] at hm
  · have := hA.defs
    generalize ca.defers = df at this ⊢
    cases this
    exact .nil
theorem round_good {bs : List Bool} {ks : List Nat} {anc : Nat → List Nat} {g i : Nat} (hg : g < 6) (hi : i < 6) (hlen : bs.length = 6) (hkl : ks.length = 6) (hab : AboveOK ρ os out ls bs anc) (hA : anc i ∈ subsL (upTo i)) (hk : ks[i]? = some (kapp i g (anc i)))
    (hn : GE fr ρ os out ls Q (frL bs 0) (trL ks g 0) g (i + 1)) : GE fr ρ os out ls Q (frL bs 0) (trL ks g 0) g i := by
  obtain ⟨X, hX, hXf⟩ := frX_eq hlen
  have htr := trX_eq (g := g) hi hkl _ hk
  have h := end_all hi hg hA X (fun q => vI (ks.getD q 0))
  unfold endI expI at h
  obtain ⟨t1, aw1, e1, h⟩ := bN_ok h
  obtain ⟨t2, aw2, e2, h⟩ := bN_ok h
  obtain ⟨t3, aw3, e3, h⟩ := bN_ok h
  obtain ⟨t4, aw4, e4, h⟩ := bN_ok h
  obtain ⟨t5, aw5, e5, h⟩ := bN_ok h
  obtain ⟨t6, aw6, e6, h⟩ := bN_ok h
  obtain ⟨t7, aw7, e7, h⟩ := bN_ok h
  obtain ⟨t8, aw8, e8, h⟩ := bN_ok h
  simp only [Option.some.injEq, Prod.mk.injEq, List.cons.injEq, and_true, trGet_eq, awGet_eq] at h
  obtain ⟨⟨g7, g8, g12, g20, g136, g141⟩, m0, m1, m2⟩ := h
  rw [at7_eq] at e1 e2 e3 e4 e5 e6 e7 e8
  rw [hX] at m0 m1
  rw [htr] at m2
  have est : ofObjs (eSt X (fun q => vI (ks.getD q 0)) i (kapp i g (anc i)) g) 2 = ofObjs [.cells (frL bs 0) 31 true, .cells (trL ks g 0) 42 true] 2 := by
    unfold eSt
    rw [hX, htr]
  rw [est] at e1
  have hff : (frL bs 0).all AV.free = true := hX ▸ hXf
  unfold GE
  have hnext : G fr ρ os out ls gonI8 (loopQ Tryz.prog (cDraw Tryz.prog) gonB8 (Exit.inBlock 8 (thenC Tryz.prog (cDraw Tryz.prog) gonTail Q))) ⟨t7, 187, []⟩ aw7 := by
    refine Good.run cOrd_ok dr_ok e8 fun E e ca w hE hS hR hA hX => ?_
    cases e <;> simp only [XRel] at hX
    have := cut_good (Q := Exit.inBlock 8 (thenC Tryz.prog (cDraw Tryz.prog) gonTail Q)) g7 g8 g12 g20 m1 m2 hff (trL_free g ks 0) hn
    exact fun c hc => this c hc E ca w hE hS hA hR
  refine GoodL.of (Good.seq cOrd_ok dr_ok e1 (Good.into (Good.block (Good.seq cOrd_ok dr_ok e2 (Good.seq cOrd_ok dr_ok e3 ?_)))))
  rw [gonAB_eq]
  refine good_call e4 (vs := [.slc (some (0, 0)) 6 (.upto 6 6), vW (i + 1)]) ?_ ?_ (fun E w cargs hS hl hR => hab i hi E w aw4 cargs hS m0 hl hR) rfl (by rw [← trSet_eq]; exact e5) ?_
  · simp only [evs, Opd.ev, g136, g141]
  · kernel_rfl
  · refine Good.seq cOrd_ok dr_ok e6 (Good.run cOrd_ok dr_ok e7 fun E e ca w hE hS hR hA hX => ?_)
    cases e <;> simp only [XRel] at hX
    exact fun c hc => hnext c hc E ca w hE hS hA hR
theorem last_good {bs : List Bool} {ks : List Nat} {anc : Nat → List Nat} {g : Nat} (hg : g < 6) (hlen : bs.length = 6) (hkl : ks.length = 6) (hab : AboveOK ρ os out ls bs anc) (hA : ∀ i, i < 6 → anc i ∈ subsL (upTo i)) (hk : ∀ i, i < 6 → ks[i]? = some (kapp i g (anc i))) :
    GF fr ρ os out ls (TrueQ fr os out 4) bs ks g := by
  obtain ⟨X, hX, hXf⟩ := frX_eq hlen
  have h6 : GE fr ρ os out ls (TrueQ fr os out 4) (frL bs 0) (trL ks g 0) g 6 := by
    have h := endX_ok X (trL ks g 0) g
    unfold endX at h
    rw [hX] at h
    obtain ⟨t1, aw1, h1, h2⟩ := atExit_ok h
    rw [at7_eq] at h1
    have hx : xcode cOrd 1001 gonB8 ⟨tmOf (eTm g 6) .leaf, 187, []⟩ (ofObjs [.cells (frL bs 0) 31 true, .cells (trL ks g 0) 42 true] 2) = some ⟨.exit 8, ⟨t1, 187, []⟩, aw1⟩ := by
      show (match xcode cOrd 1000 gonT8 ⟨tmOf (eTm g 6) .leaf, 187, []⟩ (ofObjs [.cells (frL bs 0) 31 true, .cells (trL ks g 0) 42 true] 2) with
        | some o => (match o.x with
          | .norm => xcode cOrd 1000 (.seq (.block 9 (.seq gonW1 (.seq gonW2 (.seq gonAB (.seq (.seq gonI23 (.block 10 (.loop gonB10))) gonCk))))) gonI8) o.act o.aw
          | _ => some o)
        | none => none) = _
      rw [h1]
    exact GoodL.leave cOrd_ok dr_ok hx (tail_good h2)
  have all : ∀ d i, i + d = 6 → GE fr ρ os out ls (TrueQ fr os out 4) (frL bs 0) (trL ks g 0) g i := by
    intro d
    induction d with
    | zero => intro i hi; have : i = 6 := by omega
              subst this; exact h6
    | succ d ih => intro i hi; exact round_good hg (by omega) hlen hkl hab (hA i (by omega)) (hk i (by omega)) (ih (i + 1) (by omega))
  exact all 6 0 rfl
end
end Go.Proofs.YtbilacojhmohmaaGreat.Ae
