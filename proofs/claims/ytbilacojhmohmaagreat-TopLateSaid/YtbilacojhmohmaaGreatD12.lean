/- Where one is laid into a row of packets: slices.Insert, wherever there is room. No condition. -/
import Derived.Test.YtbilacojhmohmaaGreatD11
import Derived.Lib.Overlaps
set_option linter.unusedVariables false
set_option linter.unusedSimpArgs false
noncomputable section
namespace Go.Proofs.YtbilacojhmohmaaGreat.Ae
open Go
theorem overlaps_any {P : Program} (w : World) (tS tR e : TypeId) (ht : P.underlying tS = some (.slice e)) (size : Nat) (hz : ∀ w, (Go.sizeOf e).run P w = .ok size w)
  (a b : Addr) (la ca lb cb : Nat) (hne : a.block ≠ b.block) (tA tB : TypeId) (kA kB : Nat)
  (hsa : w.shape? a.block = some (tA, kA)) (hsb : w.shape? b.block = some (tB, kB)) (hkA : kA ≠ 0) (hkB : kB ≠ 0) (hfa : w.frozen? a = false) :
  ∃ u w', (Extern.SlicesOverlaps.overlaps #[tS, tS] #[tR] #[.slice (some a) la ca, .slice (some b) lb cb]).run P w = .ok (.bool u) w' ∧ w'.heap = w.heap ∧ w'.os = w.os ∧ w'.output = w.output := by
 have hnb : (a.block != b.block) = true := by simpa using hne
 have hnb' : (a.block == b.block) = false := by simpa using hne
 have e : Extern.SlicesOverlaps.overlaps #[tS, tS] #[tR] #[.slice (some a) la ca, .slice (some b) lb cb] = (do
  let some t := (#[tS, tS] : Array TypeId)[0]? | stuck "slices.overlaps: no parameter types"
  let .slice elem ← underlying t | stuck "slices.overlaps: slice type expected"
  let size ← sizeOf elem
  match (some a : Option Addr), (some b : Option Addr) with
  | some a, some b =>
   if la = 0 ∨ lb = 0 ∨ size = 0 then pure (Value.bool false)
   else if a.block != b.block && (← frozen a) && (← frozen b) then unsupported .addressObserved
   else do
    if a.block != b.block then do
     noView a; noView b
     if ← mayBeOne a b then return Value.bool ((← choose (.extern "sameAddr.stringBytes" 2)) == 1)
    pure (Value.bool (a.block == b.block && a.off < b.off + lb * size && b.off < a.off + la * size))
  | _, _ => pure (Value.bool false)) := rfl
 rw [e]
 by_cases h0 : la = 0 ∨ lb = 0 ∨ size = 0
 ·exact ⟨false, w, by simp [run_underlying ht, hz, h0], rfl, rfl, rfl⟩
 ·cases kB with
  | zero => exact absurd rfl hkB
  | succ kB =>
   cases kA with
   | zero => exact absurd rfl hkA
   | succ kA =>
    cases hA : w.frozen? { block := a.block, off := kA + 1 } with
    | false => exact ⟨false, w, by simp [run_underlying ht, hz, h0, hnb, hnb', frozen, noView, viewAt, mayBeOne, stringish, shape, Sem.run, hsa, hsb, hfa, hA], rfl, rfl, rfl⟩
    | true =>
     cases hB : w.frozen? b with
     | true =>
      refine ⟨_, _, by simp [run_underlying ht, hz, h0, hnb, hnb', frozen, noView, viewAt, mayBeOne, stringish, shape, Sem.run, hsa, hsb, hfa, hA, hB]; rfl, ?_⟩
      exact ⟨rfl, rfl, rfl⟩
     | false =>
      cases hB2 : w.frozen? { block := b.block, off := kB + 1 } with
      | true =>
       refine ⟨_, _, by simp [run_underlying ht, hz, h0, hnb, hnb', frozen, noView, viewAt, mayBeOne, stringish, shape, Sem.run, hsa, hsb, hfa, hA, hB, hB2]; rfl, ?_⟩
       exact ⟨rfl, rfl, rfl⟩
      | false => exact ⟨false, w, by simp [run_underlying ht, hz, h0, hnb, hnb', frozen, noView, viewAt, mayBeOne, stringish, shape, Sem.run, hsa, hsb, hfa, hA, hB, hB2], rfl, rfl, rfl⟩
def ins0 : CC := (.region [.op (some 6) none (.mv (.c (.slc none 0 (.known 0))))])
def ins1 : CC := (.region [.op (some 10) none (.mv (.t 0)), .op (some 11) none (.mv (.t 1)), .op (some 12) none (.slice 1 (.t 10) (some (.t 11)) none none)])
def ins2 : CC := (.region [.op (some 13) none (.mv (.t 2)), .op (some 14) none (.lenS (.t 13)), .op (some 7) none (.mv (.t 14))])
def ins3 : CC := (.seq (.region [.op (some 15) none (.mv (.t 7)), .op (some 16) none (.bin .eql false (.t 15) (.c (.int .i64 (.ofNat 0))))])  (.cond (.t 16) (.seq (.region [.op (some 17) none (.mv (.t 0)), .op (some 6) none (.mv (.t 17))])  .ret) .skip))
def ins4 : CC := (.region [.op (some 18) none (.mv (.t 0)), .op (some 19) none (.lenS (.t 18)), .op (some 8) none (.mv (.t 19))])
def ins5 : CC := (.seq (.region [.op (some 20) none (.mv (.t 1)), .op (some 21) none (.mv (.t 8)), .op (some 22) none (.bin .eql false (.t 20) (.t 21))])  (.cond (.t 22) (.seq (.region [.op (some 23) none (.mv (.t 0)), .op (some 24) none (.mv (.t 2)), .op (some 25) none (.append 37 1 24 (.t 23) (.t 24)), .op (some 6) none (.mv (.t 25))])  .ret) .skip))
def ins6 : CC := (.seq (.region [.op (some 26) none (.mv (.t 8)), .op (some 27) none (.mv (.t 7)), .op (some 28) none (.bin .add false (.t 26) (.t 27)), .op (some 29) none (.mv (.t 0)), .op (some 30) none (.capS (.t 29)), .op (some 31) none (.bin .gtr false (.t 28) (.t 30))])  (.cond (.t 31) (.seq (.region [.op (some 32) none (.mv (.t 0)), .op (some 33) none (.mv (.t 1)), .op (some 34) none (.slice 1 (.t 32) none (some (.t 33)) none), .op (some 35) none (.mv (.t 8)), .op (some 36) none (.mv (.t 7)), .op (some 37) none (.bin .add false (.t 35) (.t 36)), .op (some 38) none (.mv (.t 1)), .op (some 39) none (.bin .sub false (.t 37) (.t 38)), .op (some 40) none (.appendZ 37 [(.slc none 0 (.known 0))] 24 (.t 34) (.t 39)), .op (some 9) none (.mv (.t 40))])  (.seq (.region [.op (some 41) none (.mv (.t 9)), .op (some 42) none (.mv (.t 1)), .op (some 43) none (.slice 1 (.t 41) (some (.t 42)) none none), .op (some 44) none (.mv (.t 2)), .op (some 45) none (.copy 1 (.t 43) (.t 44))])  (.seq (.draw [.op (some 46) none (.mv (.t 9)), .op (some 47) none (.mv (.t 1)), .op (some 48) none (.mv (.t 7)), .op (some 49) none (.bin .add false (.t 47) (.t 48)), .op (some 50) none (.slice 1 (.t 46) (some (.t 49)) none none), .op (some 51) none (.mv (.t 0)), .op (some 52) none (.mv (.t 1)), .op (some 53) none (.slice 1 (.t 51) (some (.t 52)) none none), .op (some 54) none (.copy 1 (.t 50) (.t 53))] [])  (.seq (.region [.op (some 55) none (.mv (.t 9)), .op (some 6) none (.mv (.t 55))])  .ret)))) .skip))
def ins7 : CC := (.region [.op (some 56) none (.mv (.t 0)), .op (some 57) none (.mv (.t 8)), .op (some 58) none (.mv (.t 7)), .op (some 59) none (.bin .add false (.t 57) (.t 58)), .op (some 60) none (.slice 1 (.t 56) none (some (.t 59)) none), .op (some 0) none (.mv (.t 60))])
def ins9 : CC := (.region [.op (some 84) none (.mv (.t 0)), .op (some 85) none (.mv (.t 8)), .op (some 86) none (.slice 1 (.t 84) (some (.t 85)) none none), .op (some 87) none (.mv (.t 2)), .op (some 88) none (.copy 1 (.t 86) (.t 87))])
def ins10 : CC := (.region [.op (some 89) none (.mv (.t 0)), .op (some 90) none (.mv (.t 1)), .op (some 91) none (.slice 1 (.t 89) (some (.t 90)) none none), .op (some 92) none (.mv (.t 7)), .call (some 93) none 194 [(.t 91), (.t 92)]])
def ins11 : CC := (.region [.op (some 94) none (.mv (.t 0)), .op (some 6) none (.mv (.t 94))])
def ins12 : CC := .ret
def ins8a : List CR := [.op (some 61) none (.mv (.t 2)), .op (some 62) none (.mv (.t 0)), .op (some 63) none (.mv (.t 1)), .op (some 64) none (.mv (.t 7)), .op (some 65) none (.bin .add false (.t 63) (.t 64)), .op (some 66) none (.slice 1 (.t 62) (some (.t 65)) none none)]
def ins8b : List CR := [.op (some 68) none (.bnot (.t 67))]
def ins8t : CC := (.seq (.draw [.op (some 69) none (.mv (.t 0)), .op (some 70) none (.mv (.t 1)), .op (some 71) none (.mv (.t 7)), .op (some 72) none (.bin .add false (.t 70) (.t 71)), .op (some 73) none (.slice 1 (.t 69) (some (.t 72)) none none), .op (some 74) none (.mv (.t 0)), .op (some 75) none (.mv (.t 1)), .op (some 76) none (.slice 1 (.t 74) (some (.t 75)) none none), .op (some 77) none (.copy 1 (.t 73) (.t 76))] [])  (.seq (.region [.op (some 78) none (.mv (.t 0)), .op (some 79) none (.mv (.t 1)), .op (some 80) none (.slice 1 (.t 78) (some (.t 79)) none none), .op (some 81) none (.mv (.t 2)), .op (some 82) none (.copy 1 (.t 80) (.t 81))])  (.seq (.region [.op (some 83) none (.mv (.t 0)), .op (some 6) none (.mv (.t 83))])  .ret)))
def ins8 : CC := .seq (.region (ins8a ++ .call (some 67) none 193 [(.t 61), (.t 66)] :: ins8b)) (.cond (.t 68) ins8t .skip)
def insTail : CC := .seq ins9 (.seq ins10 (.seq ins11 (ins12)))
def insAll : CC := .seq ins0 (.seq ins1 (.seq ins2 (.seq ins3 (.seq ins4 (.seq ins5 (.seq ins6 (.seq ins7 (.seq ins8 (insTail)))))))))
def ins6a : List CR := [.op (some 26) none (.mv (.t 8)), .op (some 27) none (.mv (.t 7)), .op (some 28) none (.bin .add false (.t 26) (.t 27)), .op (some 29) none (.mv (.t 0))]
def ins6b : List CR := [.op (some 31) none (.bin .gtr false (.t 28) (.t 30))]
def ins6t : CC := (.seq (.region [.op (some 32) none (.mv (.t 0)), .op (some 33) none (.mv (.t 1)), .op (some 34) none (.slice 1 (.t 32) none (some (.t 33)) none), .op (some 35) none (.mv (.t 8)), .op (some 36) none (.mv (.t 7)), .op (some 37) none (.bin .add false (.t 35) (.t 36)), .op (some 38) none (.mv (.t 1)), .op (some 39) none (.bin .sub false (.t 37) (.t 38)), .op (some 40) none (.appendZ 37 [(.slc none 0 (.known 0))] 24 (.t 34) (.t 39)), .op (some 9) none (.mv (.t 40))])  (.seq (.region [.op (some 41) none (.mv (.t 9)), .op (some 42) none (.mv (.t 1)), .op (some 43) none (.slice 1 (.t 41) (some (.t 42)) none none), .op (some 44) none (.mv (.t 2)), .op (some 45) none (.copy 1 (.t 43) (.t 44))])  (.seq (.draw [.op (some 46) none (.mv (.t 9)), .op (some 47) none (.mv (.t 1)), .op (some 48) none (.mv (.t 7)), .op (some 49) none (.bin .add false (.t 47) (.t 48)), .op (some 50) none (.slice 1 (.t 46) (some (.t 49)) none none), .op (some 51) none (.mv (.t 0)), .op (some 52) none (.mv (.t 1)), .op (some 53) none (.slice 1 (.t 51) (some (.t 52)) none none), .op (some 54) none (.copy 1 (.t 50) (.t 53))] [])  (.seq (.region [.op (some 55) none (.mv (.t 9)), .op (some 6) none (.mv (.t 55))])  .ret))))
theorem ins6_eq : ins6 = .seq (.region (ins6a ++ .op (some 30) none (.capS (.t 29)) :: ins6b)) (.cond (.t 31) ins6t .skip) := rfl
theorem ins_code : ∃ c, Tryz.f123.body = some c ∧ cCode Tryz.prog (cDraw Tryz.prog) c = some insAll := ⟨_, rfl, by kernel_rfl⟩
section
variable {P : Program} {K : Env → Prop} {Q : Exit → Act → World → Prop} {aw : AW}
theorem GoodI.ext (hK : ∀ E E', K E → E.Le E' → K E') {α : Type} {post : List CR} {d f n : Nat} {ags : List Opd} {t : Tr AV} {vs : List AV} {v : α → AV} (hv : evs t ags = some vs)
  (hx : ∀ E w cargs, K E → LRel E vs cargs → Rel E aw w → ∃ z cv w', (callFunc f cargs.toArray).run P w = .ok (.value cv) w' ∧ VRel E (v z) cv ∧ w'.heap = w.heap ∧ w'.os = w.os ∧ w'.output = w.output)
  (hd : Nat.blt d n = true) (h2 : ∀ z, GoodI P K post Q ⟨t.set d d (v z), n, []⟩ aw) : GoodI P K (.call (some d) none f ags :: post) Q ⟨t, n, []⟩ aw := by
 intro ops li hi E ca w hE hA hR
 cases li with
 | nil => simp [cItems] at hi
 | cons i l2 =>
  simp only [cItems] at hi
  split at hi <;> (try (cases hi; done))
  rename_i o ho
  split at hi <;> (try (cases hi; done))
  rename_i c' hci
  split at hi <;> (try (cases hi; done))
  rename_i m hm
  simp only [sI, List.cons.injEq] at hi
  obtain ⟨rfl, rfl⟩ := hi
  simp only [wpOps, ho]
  unfold cItem at hci
  split at hci
  ·rename_i f' args ts hop
   split at hci <;> (try (cases hci; done))
   rename_i g hg
   split at hci <;> (try (cases hci; done))
   rename_i as' has
   split at hci
   ·rename_i f''
    simp only [sI, CR.call.injEq] at hci
    obtain ⟨e1, e2, rfl, rfl⟩ := hci
    subst e2
    have hg1 : xguard (⟨t, n, []⟩ : AAct) none = some true := rfl
    rw [guard_sound hg hg1 hA, if_pos rfl]
    refine .inl ?_
    have harr : (#[] ++ args.map ca.eval ++ #[] : Array Value) = (args.toList.map ca.eval).toArray := by apply Array.ext'; simp
    obtain ⟨z, cv, w', hrun, hvr, hh, ho', hp⟩ := hx E w _ hE (opds_sound hA has hv) hR
    rw [← harr] at hrun
    unfold Oper.wp
    have hex : (execOp ca.eval o).run P w = .ok (.value cv) w' := by
     simp only [execOp, hop, resolve, (rfl : ca.eval (.func f'') = .func (.func f'') #[] #[]), Deferred.ofValue]
     have : invoke (.fn (.func f'') #[]) (#[] ++ args.map ca.eval) = callFunc f'' (#[] ++ args.map ca.eval ++ #[]) := rfl
     simp only [Sem.run_bind, Sem.run_pure, Result.andThen_ok, this]
     exact hrun
    rw [hex]
    rw [Oper.upon_value]
    have hput : (⟨t, n, []⟩ : AAct).put (some d) (v z) = some ⟨t.set d d (v z), n, []⟩ := by simp only [AAct.put, hd, cond_true]
    have hA2 := put_sound hput hA hvr
    rw [e1]
    exact h2 z ops l2 hm E _ w' hE hA2 (hR.world ⟨ho', hp⟩ hh)
   ·split at hci <;> simp at hci
  ·split at hci <;> (try (cases hci; done))
   split at hci <;> (try (cases hci; done))
   split at hci <;> simp at hci
  ·split at hci <;> (try (cases hci; done))
   split at hci <;> simp at hci
  ·split at hci <;> (try (cases hci; done))
   split at hci <;> simp at hci
end
def Xc (O x : Nat → Nat) (c : Nat → Cap) (j : Nat) : AV := .slc (some (2 + j, O j)) (x j) (c j)
def Xs (O x : Nat → Nat) (c : Nat → Cap) (n : Nat) : List AV := (List.range n).map (Xc O x c)
def insL {α : Type} (l : List α) (i : Nat) (y : α) : List α := l.take i ++ y :: l.drop i
def insN : List (Nat × Nat) := [1, 2, 3, 4, 5, 6, 7, 8, 9, 10].flatMap fun n => (List.range n).map fun i => (n, i)
abbrev vS : AV := .slc (some (1, 0)) 1 (.known 1)
def insA (O x : Nat → Nat) (c : Nat → Cap) (bv : Bool) (p : Nat × Nat) : Option (AV × Option AO × Option AO × Option AO × Nat) :=
 match cAny 123 [.slc (some (0, 0)) p.1 (.known p.1), .int .i64 (.ofNat p.2), vS] (ofObjs [.cells (Xs O x c p.1) 37 true, .cells [Xc O x c p.1] 37 bv] (Nat.add p.1 3)) with
 | some (.ret v aw) => some (v, awGet aw (Nat.add p.1 3), awGet aw (nat_lit 0), awGet aw (nat_lit 1), aw.nx)
 | _ => none
theorem insA_all : ∀ (O x : Nat → Nat) (c : Nat → Cap) (bv : Bool), insN.map (insA O x c bv) = insN.map fun p => some (.slc (some (p.1 + 3, 0)) (p.1 + 1) (.upto 1 (p.1 + 1)), some (.cells (insL (Xs O x c p.1) p.2 (Xc O x c p.1)) 37 true), some (.cells (Xs O x c p.1) 37 true), some (.cells [Xc O x c p.1] 37 bv), p.1 + 4) := by
 intro O x c bv
 kernel_rfl
def at95 (c : CC) (t : Tr AV) (aw : AW) : Option Out := kCode cAny c (nat_lit 1000) t (nat_lit 95) [] aw
theorem at95_eq (c : CC) (t : Tr AV) (aw : AW) : at95 c t aw = xcode cAny 1000 c ⟨t, 95, []⟩ aw := kCode_eq cAny c 1000 t 95 [] aw
def isRow (o : Option AO) : Bool := match o with
 | some (.cells (_ :: _) e _) => Nat.beq e (nat_lit 37)
 | _ => false
theorem isRow_ok {o : Option AO} (h : isRow o = true) : ∃ a l b, o = some (.cells (a :: l) 37 b) := by
 unfold isRow at h
 split at h <;> (try (cases h; done))
 rename_i a l e b
 rw [nbt h]
 exact ⟨_, _, _, rfl⟩
def okAsk (t : Tr AV) (aw : AW) : Bool := match trGet t (nat_lit 61) with
 | some (.slc (some (a, p)) la (.known _)) => bb2 (bb2 (bb2 (Nat.beq a (nat_lit 1)) (Nat.beq p (nat_lit 0)) false) (bb2 (Nat.beq la (nat_lit 1)) (bb2 (isRow (awGet aw (nat_lit 0))) (isRow (awGet aw (nat_lit 1))) false) false) false) (match trGet t (nat_lit 66) with
  | some (.slc (some (b, _)) n (.upto _ _)) => bb2 (Nat.beq b (nat_lit 0)) (Nat.ble (nat_lit 1) n) false
  | _ => false) false
 | _ => false
theorem okAsk_ok {t : Tr AV} {aw : AW} (h : okAsk t aw = true) : ∃ k p n s lo, t.get 61 61 = some (.slc (some (1, 0)) 1 (.known k)) ∧ t.get 66 66 = some (.slc (some (0, p)) n (.upto s lo)) ∧ 1 ≤ n ∧ isRow (aw.get 0) = true ∧ isRow (aw.get 1) = true := by
 unfold okAsk at h
 split at h <;> (try (cases h; done))
 rename_i a p la k h61
 simp only [bb2_eq] at h
 split at h
 ·rename_i b p' n s lo h66
  cases c1 : Nat.beq a 1 <;> simp only [c1, cond_true, cond_false, Bool.false_eq_true] at h
  cases c2 : Nat.beq p 0 <;> simp only [c2, cond_true, cond_false, Bool.false_eq_true] at h
  cases c3 : Nat.beq la 1 <;> simp only [c3, cond_true, cond_false, Bool.false_eq_true] at h
  cases c4 : isRow (awGet aw 0) <;> simp only [c4, cond_true, cond_false, Bool.false_eq_true] at h
  cases c5 : isRow (awGet aw 1) <;> simp only [c5, cond_true, cond_false, Bool.false_eq_true] at h
  cases c6 : Nat.beq b 0 <;> simp only [c6, cond_true, cond_false, Bool.false_eq_true] at h
  have e1 := nbt c1; have e2 := nbt c2; have e3 := nbt c3; have e6 := nbt c6
  subst e1 e2 e3 e6
  rw [trGet_eq] at h61 h66
  rw [awGet_eq] at c4 c5
  exact ⟨_, _, _, _, _, h61, h66, nbl h, c4, c5⟩
 ·simp at h
def okCap (lo : Nat) (t : Tr AV) : Bool := match trGet t (nat_lit 29) with
 | some (.slc (some (a, b)) _ (.upto s l)) => bb2 (Nat.beq a (nat_lit 0)) (bb2 (Nat.beq b (nat_lit 0)) (bb2 (Nat.beq s (nat_lit 1)) (Nat.beq l lo) false) false) false
 | _ => false
def okNot (u : Bool) (t : Tr AV) : Bool := match trGet t (nat_lit 68) with
 | some (.bool v) => bb2 u (bb2 v false true) v
 | _ => false
abbrev SeenB := Option AV × Option AV × Option AO × Option AO × Nat
def insB (O x : Nat → Nat) (c : Nat → Cap) (bv : Bool) (d : Nat) (u : Bool) (p : Nat × Nat) : Option SeenB :=
 bNn (nat_lit 95) (at95 ins0 (tmOf [(0, .slc (some (0, 0)) p.1 (.upto 1 (Nat.succ p.1))), (1, .int .i64 (.ofNat p.2)), (2, vS)] .leaf) (ofObjs [.cells (Xs O x c p.1 ++ [.undef]) 37 true, .cells [Xc O x c p.1] 37 bv] (Nat.add p.1 3))) fun t aw =>
 bNn (nat_lit 95) (at95 ins1 t aw) fun t aw => bNn (nat_lit 95) (at95 ins2 t aw) fun t aw => bNn (nat_lit 95) (at95 ins3 t aw) fun t aw => bNn (nat_lit 95) (at95 ins4 t aw) fun t aw => bNn (nat_lit 95) (at95 ins5 t aw) fun t aw =>
 bNn (nat_lit 95) (at95 (.region ins6a) t aw) fun t aw => bb2 (okCap (Nat.succ p.1) t) (bNn (nat_lit 95) (at95 (.region ins6b) (trSet t (nat_lit 30) (.int .i64 (.ofNat d))) aw) fun t1 aw => bNn (nat_lit 95) (at95 ins7 t1 aw) fun t aw => bNn (nat_lit 95) (at95 (.region ins8a) t aw) fun t aw =>
 bb2 (okAsk t aw) (bNn (nat_lit 95) (at95 (.region ins8b) (trSet t (nat_lit 67) (.bool u)) aw) fun t2 aw => bRn (nat_lit 95) (bb2 u (at95 insTail t2 aw) (at95 ins8t t2 aw)) fun t aw =>
  bb2 (okNot u t2) (some (trGet t1 (nat_lit 31), trGet t (nat_lit 6), awGet aw (nat_lit 0), awGet aw (nat_lit 1), aw.nx)) none) none) none
def wantB (O x : Nat → Nat) (c : Nat → Cap) (bv : Bool) (d : Nat) (p : Nat × Nat) : Option SeenB :=
 some (some (.bool (ilt (.ofNat d) (.ofNat (p.1 + 1)))), some (.slc (some (0, 0)) (p.1 + 1) (.upto 1 (p.1 + 1))), some (.cells (insL (Xs O x c p.1) p.2 (Xc O x c p.1)) 37 true), some (.cells [Xc O x c p.1] 37 bv), p.1 + 3)
theorem insB_all (u : Bool) : ∀ (O x : Nat → Nat) (c : Nat → Cap) (bv : Bool) (d : Nat), insN.map (insB O x c bv d u) = insN.map (wantB O x c bv d) := by
 cases u
 ·intro O x c bv d
  kernel_rfl
 ·intro O x c bv d
  kernel_rfl
theorem slc_conv {E E' : Env} {a b o x : Nat} {c : Cap} {L : Loc} (h1 : E.loc[a]? = some L) (h2 : E'.loc[b]? = some L) {v : Value} (h : VRel E (.slc (some (a, o)) x c) v) : VRel E' (.slc (some (b, o)) x c) v := by
 cases h with
 | slc h ha => rw [h1] at h; injection h with h; subst h; exact .slc h2 ha
 | slcUp h hl hlo ha => rw [h1] at h; injection h with h; subst h; exact .slcUp h2 hl hlo ha
theorem cells_map {E E' : Env} {L : Loc} {w : World} {Ks : List Nat} {f g : Nat → AV} {e : TypeId} {b : Bool} (hv : ∀ j ∈ Ks, ∀ v, VRel E (f j) v → VRel E' (g j) v) (h : ORel E L w (.cells (Ks.map f) e b)) : ORel E' L w (.cells (Ks.map g) e b) := by
 refine cells_conv (by simp) (fun i a a' ha ha' v h => ?_) h
 rw [List.getElem?_map] at ha ha'
 cases hk : Ks[i]? with
 | none => rw [hk] at ha; cases ha
 | some j =>
  rw [hk] at ha ha'
  injection ha with ha; injection ha' with ha'
  subst ha ha'
  exact hv j (List.mem_of_getElem? hk) v h
theorem cells_more {E : Env} {L : Loc} {w : World} {l : List AV} {e : TypeId} (hroom : L.base + (l.length + 1) ≤ L.total) (h : ORel E L w (.cells l e true)) : ORel E L w (.cells (l ++ [.undef]) e true) := by
 obtain ⟨c, fz, h1, h2, h3, h4, h5⟩ := h
 refine ⟨c, fz, h1, h2, by simp; omega, (fun q => by cases q), fun i a hi => ?_⟩
 by_cases hlt : i < l.length
 ·rw [lal hlt] at hi; exact h5 i a hi
 ·have hl := (lgs.1 hi).1
  have e : i = l.length := by simp at hl; omega
  subst e
  rw [lar (Nat.le_refl _), Nat.sub_self] at hi
  injection hi with hi; subst hi
  exact ⟨c[L.base + l.length]'(by omega), age _, .undef _⟩
theorem insL_map (f : Nat → AV) (n i : Nat) : insL ((List.range n).map f) i (f n) = (insL (List.range n) i n).map f := by
 show ((List.range n).map f).take i ++ f n :: ((List.range n).map f).drop i = ((List.range n).take i ++ n :: (List.range n).drop i).map f
 rw [List.map_append, List.map_cons, List.map_take, List.map_drop]
section
variable {P : Program} {K : Env → Prop} {Q : Exit → Act → World → Prop} {aw : AW}
theorem GoodI.cap {call : Call} (hK : ∀ E E', K E → E.Le E' → K E') (hcall : CallOK P call) {post : List CR} {d n s q o len sz lo : Nat} {t : Tr AV} (hs : t.get s s = some (.slc (some (q, o)) len (.upto sz lo))) (hd : Nat.blt d n = true) (hne : s ≠ d)
  (h2 : ∀ z, lo ≤ z → GoodI P K post Q ⟨t.set d d (.int .i64 (.ofNat z)), n, []⟩ aw) : GoodI P K (.op (some d) none (.capS (.t s)) :: post) Q ⟨t, n, []⟩ aw := by
 intro ops li hcit E ca w hE hA hR
 obtain ⟨x, hx, hv⟩ := hA.tmps s _ hs
 cases hv with
 | slcUp hL hl hlo ha =>
  rename_i a cap L
  have hk : VRel E (.slc (some (q, o)) len (.known cap)) (.slice (some a) len cap) := .slc hL (ha.elim (fun e => .inl ⟨e, by omega⟩) fun h => .inr h.1)
  have hA' : ActRel E ⟨t.set s s (.slc (some (q, o)) len (.known cap)), n, []⟩ ca := ⟨hA.size, fun i v hi => by
   rcases Tr.get_set hi with ⟨rfl, rfl⟩ | ⟨_, hi⟩
   ·exact ⟨_, hx, hk⟩
   ·exact hA.tmps i v hi, hA.defs⟩
  refine GoodI.op (t := t.set s s (.slc (some (q, o)) len (.known cap))) (K := fun E' => K E' ∧ E.Le E') (v := .int .i64 (.ofNat cap)) (aw1 := aw) (fun _ _ h1 h2 => ⟨hK _ _ h1.1 h2, h1.2.trans h2⟩) hcall ?_ hd ?_ ops li hcit E ca w ⟨hE, .refl E⟩ hA' hR
  ·simp only [xop, Opd.ev, Tr.get_set_same]
  ·intro ops2 li2 hi2 E1 ca1 w1 ⟨hE1, hle⟩ hA1 hR1
   refine h2 cap hlo ops2 li2 hi2 E1 ca1 w1 hE1 ⟨hA1.size, fun i v hi => ?_, hA1.defs⟩ hR1
   rcases Tr.get_set hi with ⟨rfl, rfl⟩ | ⟨hni, hi⟩
   ·exact hA1.tmps i _ (Tr.get_set_same _ _)
   ·by_cases his : i = s
    ·subst his
     rw [hs] at hi; injection hi with hi; subst hi
     obtain ⟨y, hy, hv⟩ := hA1.tmps i (.slc (some (q, o)) len (.known cap)) (by rw [Tr.get_set_other hne, Tr.get_set_same])
     refine ⟨y, hy, ?_⟩
     cases hv with
     | slc hL1 ha1 =>
      have := hle.loc hL
      rw [this] at hL1; injection hL1 with hL1; subst hL1
      refine .slcUp this hl hlo ?_
      rcases ha with ha | ⟨_, hb⟩
      ·exact .inl ha
      ·rcases ha1 with ⟨h0, _⟩ | ha1
       ·exact .inl h0
       ·exact .inr ⟨ha1, hb⟩
    ·exact hA1.tmps i v (by rw [Tr.get_set_other hni, Tr.get_set_other his]; exact hi)
end
def InsQ (K : Env → Prop) (O x : Nat → Nat) (c : Nat → Cap) (bv : Bool) (n i : Nat) : Post' := fun e ca w' => e = .ret ∧ ca.defers = [] ∧ ∃ v, ca.tmps[6]? = some v ∧ ∃ E1 aw1, K E1 ∧ Rel E1 aw1 w' ∧ VRel E1 (.slc (some (0, 0)) (n + 1) (.upto 1 (n + 1))) v ∧
 aw1.get 0 = some (.cells (insL (Xs O x c n) i (Xc O x c n)) 37 true) ∧ aw1.get 1 = some (.cells [Xc O x c n] 37 bv)
theorem ins_good {K : Env → Prop} (hK : ∀ E E', K E → E.Le E' → K E') {O x : Nat → Nat} {c : Nat → Cap} {bv : Bool} {n i : Nat} (hp : (n, i) ∈ insN)
  (hask : ∀ E w (aw : AW) (t : Tr AV) cargs, K E → okAsk t aw = true → LRel E [(t.get 61 61).getD .undef, (t.get 66 66).getD .undef] cargs → Rel E aw w → ∃ z cv w', (callFunc 193 cargs.toArray).run Tryz.prog w = .ok (.value cv) w' ∧ VRel E (.bool z) cv ∧ w'.heap = w.heap ∧ w'.os = w.os ∧ w'.output = w.output) :
  GoodK Tryz.prog (cDraw Tryz.prog) K insAll (InsQ K O x c bv n i) ⟨tmOf [(0, .slc (some (0, 0)) n (.upto 1 (Nat.succ n))), (1, .int .i64 (.ofNat i)), (2, vS)] .leaf, 95, []⟩ (ofObjs [.cells (Xs O x c n ++ [.undef]) 37 true, .cells [Xc O x c n] 37 bv] (Nat.add n 3)) := by
 have run : ∀ d u, insB O x c bv d u (n, i) = wantB O x c bv d (n, i) := fun d u => List.map_inj_left.1 (insB_all u O x c bv d) (n, i) hp
 have e := run 0 true
 unfold insB wantB at e
 obtain ⟨t0, aw0, e0, e⟩ := bNn_ok e
 obtain ⟨t1, aw1, e1, e⟩ := bNn_ok e
 obtain ⟨t2, aw2, e2, e⟩ := bNn_ok e
 obtain ⟨t3, aw3, e3, e⟩ := bNn_ok e
 obtain ⟨t4, aw4, e4, e⟩ := bNn_ok e
 obtain ⟨t5, aw5, e5, e⟩ := bNn_ok e
 obtain ⟨t6, aw6, e6, e⟩ := bNn_ok e
 have step : ∀ d u, ∃ t7 aw7 t8 aw8 t9 aw9 t10 aw10 tl awl, okCap (Nat.succ n) t6 = true ∧ at95 (.region ins6b) (t6.set 30 30 (.int .i64 (.ofNat d))) aw6 = some ⟨.norm, ⟨t7, 95, []⟩, aw7⟩ ∧ at95 ins7 t7 aw7 = some ⟨.norm, ⟨t8, 95, []⟩, aw8⟩ ∧ at95 (.region ins8a) t8 aw8 = some ⟨.norm, ⟨t9, 95, []⟩, aw9⟩ ∧
   okAsk t9 aw9 = true ∧ at95 (.region ins8b) (t9.set 67 67 (.bool u)) aw9 = some ⟨.norm, ⟨t10, 95, []⟩, aw10⟩ ∧ okNot u t10 = true ∧ (bb2 u (at95 insTail t10 aw10) (at95 ins8t t10 aw10)) = some ⟨.ret, ⟨tl, 95, []⟩, awl⟩ ∧
   t7.get 31 31 = some (.bool (ilt (.ofNat d) (.ofNat (n + 1)))) ∧ tl.get 6 6 = some (.slc (some (0, 0)) (n + 1) (.upto 1 (n + 1))) ∧ awl.get 0 = some (.cells (insL (Xs O x c n) i (Xc O x c n)) 37 true) ∧ awl.get 1 = some (.cells [Xc O x c n] 37 bv) := fun d u => by
  have e := run d u
  unfold insB wantB at e
  obtain ⟨s0, b0, f0, e⟩ := bNn_ok e
  rw [e0] at f0; injection f0 with f0; injection f0 with _ f0 g0; injection f0 with f0; subst f0 g0
  obtain ⟨s1, b1, f1, e⟩ := bNn_ok e
  rw [e1] at f1; injection f1 with f1; injection f1 with _ f1 g1; injection f1 with f1; subst f1 g1
  obtain ⟨s2, b2, f2, e⟩ := bNn_ok e
  rw [e2] at f2; injection f2 with f2; injection f2 with _ f2 g2; injection f2 with f2; subst f2 g2
  obtain ⟨s3, b3, f3, e⟩ := bNn_ok e
  rw [e3] at f3; injection f3 with f3; injection f3 with _ f3 g3; injection f3 with f3; subst f3 g3
  obtain ⟨s4, b4, f4, e⟩ := bNn_ok e
  rw [e4] at f4; injection f4 with f4; injection f4 with _ f4 g4; injection f4 with f4; subst f4 g4
  obtain ⟨s5, b5, f5, e⟩ := bNn_ok e
  rw [e5] at f5; injection f5 with f5; injection f5 with _ f5 g5; injection f5 with f5; subst f5 g5
  obtain ⟨s6, b6, f6, e⟩ := bNn_ok e
  rw [e6] at f6; injection f6 with f6; injection f6 with _ f6 g6; injection f6 with f6; subst f6 g6
  rw [bb2_eq] at e
  cases hc : okCap (Nat.succ n) t6 <;> simp only [hc, cond_true, cond_false, reduceCtorEq] at e
  obtain ⟨t7, aw7, e7, e⟩ := bNn_ok e
  obtain ⟨t8, aw8, e8, e⟩ := bNn_ok e
  obtain ⟨t9, aw9, e9, e⟩ := bNn_ok e
  rw [bb2_eq] at e
  cases hk : okAsk t9 aw9 <;> simp only [hk, cond_true, cond_false, reduceCtorEq] at e
  obtain ⟨t10, aw10, e10, e⟩ := bNn_ok e
  obtain ⟨tl, awl, el, e⟩ := bRn_ok e
  rw [bb2_eq] at e
  cases hn : okNot u t10 <;> simp only [hn, cond_true, cond_false, reduceCtorEq, sI, pmi] at e
  obtain ⟨q1, q2, q3, q4, q5⟩ := e
  rw [trGet_eq] at q1 q2
  rw [awGet_eq] at q3 q4
  rw [trSet_eq] at e7 e10
  exact ⟨t7, aw7, t8, aw8, t9, aw9, t10, aw10, tl, awl, rfl, e7, e8, e9, hk, e10, hn, el, q1, q2, q3, q4⟩
 rw [at95_eq] at e0 e1 e2 e3 e4 e5 e6
 refine GoodK.seq hK cAny_ok drAny e0 (GoodK.seq hK cAny_ok drAny e1 (GoodK.seq hK cAny_ok drAny e2 (GoodK.seq hK cAny_ok drAny e3 (GoodK.seq hK cAny_ok drAny e4 (GoodK.seq hK cAny_ok drAny e5 ?_)))))
 rw [ins6_eq]
 have e6 : xitems cAny ins6a ⟨t5, 95, []⟩ aw5 = some ⟨.norm, ⟨t6, 95, []⟩, aw6⟩ := e6
 refine GoodK.into (GoodK.items (GoodI.pre hK cAny_ok e6 ?_))
 have hcap : okCap (Nat.succ n) t6 = true := (step 0 true).choose_spec.choose_spec.choose_spec.choose_spec.choose_spec.choose_spec.choose_spec.choose_spec.choose_spec.choose_spec.1
 unfold okCap at hcap
 split at hcap <;> (try (cases hcap; done))
 rename_i a b len s l h29
 simp only [bb2_eq] at hcap
 cases c1 : Nat.beq a 0 <;> simp only [c1, cond_true, cond_false, Bool.false_eq_true] at hcap
 cases c2 : Nat.beq b 0 <;> simp only [c2, cond_true, cond_false, Bool.false_eq_true] at hcap
 cases c3 : Nat.beq s 1 <;> simp only [c3, cond_true, cond_false, Bool.false_eq_true] at hcap
 have hl := nbt hcap
 rw [trGet_eq] at h29
 refine GoodI.cap hK cAny_ok h29 (by decide) (by decide) fun z hz => ?_
 have hz : n + 1 ≤ z := by rw [hl] at hz; exact hz
 obtain ⟨t7, aw7, t8, aw8, t9, aw9, _, _, _, _, _, e7, e8, e9, hk, _, _, _, h31, _⟩ := step z true
 rw [at95_eq] at e7 e8 e9
 have e7 : xitems cAny ins6b ⟨t6.set 30 30 (.int .i64 (.ofNat z)), 95, []⟩ aw6 = some ⟨.norm, ⟨t7, 95, []⟩, aw7⟩ := e7
 have e9' : xitems cAny ins8a ⟨t8, 95, []⟩ aw8 = some ⟨.norm, ⟨t9, 95, []⟩, aw9⟩ := e9
 refine GoodI.all hK cAny_ok e7 fun E ca w hE hA hR cd hcd => ?_
 have hlt : ilt (.ofNat z) (.ofNat (n + 1)) = false := by rw [ilt_eq]; exact decide_eq_false (by show ¬ ((z : Int) < ((n + 1 : Nat) : Int)); omega)
 refine (GoodK.cond (K := K) (o := .t 31) (u := false) (by show t7.get 31 31 = _; rw [h31, hlt]) (fun h => by cases h) fun _ => ?_ : GoodK Tryz.prog (cDraw Tryz.prog) K (.cond (.t 31) ins6t .skip) _ ⟨t7, 95, []⟩ aw7) cd hcd E ca w hE hA hR
 refine GoodK.skip hK cAny_ok drAny fun E ca w hE hR hA cd hcd => ?_
 refine (GoodK.seq (K := K) hK cAny_ok drAny e8 ?_ : GoodK Tryz.prog (cDraw Tryz.prog) K (.seq ins7 (.seq ins8 insTail)) _ ⟨t7, 95, []⟩ aw7) cd hcd E ca w hE hA hR
 refine GoodK.into (GoodK.items (GoodI.pre hK cAny_ok e9' ?_))
 have hev : evs t9 [.t 61, .t 66] = some [(t9.get 61 61).getD .undef, (t9.get 66 66).getD .undef] := by
  obtain ⟨_, _, _, _, _, h61, h66, _⟩ := okAsk_ok hk
  simp only [evs, Opd.ev, h61, h66, Option.getD_some]
 refine GoodI.ext (v := fun z => .bool z) hK hev (fun E w cargs hE hl hR => hask E w aw9 t9 cargs hE hk hl hR) (by decide) fun u => ?_
 obtain ⟨s7, b7, s8, b8, s9, b9, t10, aw10, tl, awl, _, f7, f8, f9, _, e10, hn, el, _, q2, q3, q4⟩ := step z u
 rw [at95_eq] at f7 f8 f9 e10
 have f7 : xitems cAny ins6b ⟨t6.set 30 30 (.int .i64 (.ofNat z)), 95, []⟩ aw6 = some ⟨.norm, ⟨s7, 95, []⟩, b7⟩ := f7
 rw [e7] at f7; injection f7 with f7; injection f7 with _ f7 g7; injection f7 with f7; subst f7 g7
 rw [e8] at f8; injection f8 with f8; injection f8 with _ f8 g8; injection f8 with f8; subst f8 g8
 rw [e9] at f9; injection f9 with f9; injection f9 with _ f9 g9; injection f9 with f9; subst f9 g9
 have e10 : xitems cAny ins8b ⟨t9.set 67 67 (.bool u), 95, []⟩ aw9 = some ⟨.norm, ⟨t10, 95, []⟩, aw10⟩ := e10
 refine GoodI.all hK cAny_ok e10 fun E ca w hE hA hR cd hcd => ?_
 have fin : ∀ {cc : CC}, at95 cc t10 aw10 = some ⟨.ret, ⟨tl, 95, []⟩, awl⟩ → GoodK Tryz.prog (cDraw Tryz.prog) K cc (InsQ K O x c bv n i) ⟨t10, 95, []⟩ aw10 := fun {cc} el => by
  rw [at95_eq] at el
  refine GoodK.run hK cAny_ok drAny el fun E e ca w hE hR hA hX => ?_
  cases e <;> simp only [XRel] at hX
  obtain ⟨v, hv, hr⟩ := hA.tmps 6 _ q2
  refine ⟨rfl, ?_, v, hv, E, awl, hE, hR, hr, q3, q4⟩
  have := hA.defs
  generalize ca.defers = df at this
  cases this; rfl
 have h68 : t10.get 68 68 = some (.bool (!u)) := by
  unfold okNot at hn
  split at hn <;> (try (cases hn; done))
  rename_i v h68
  rw [trGet_eq] at h68
  rw [h68]
  cases u <;> cases v <;> first | rfl | cases hn
 refine (GoodK.cond (K := K) (o := .t 68) (u := !u) h68 (fun h => ?_) fun h => ?_ : GoodK Tryz.prog (cDraw Tryz.prog) K (.cond (.t 68) ins8t .skip) _ ⟨t10, 95, []⟩ aw10) cd hcd E ca w hE hA hR
 ·have hu : u = false := by cases u <;> simp at h ⊢
  subst hu
  exact fun cd hcd E ca w hE hA hR => wp_mono (fin el cd hcd E ca w hE hA hR) fun e a w h => by
   obtain ⟨rfl, h⟩ := h; exact ⟨rfl, h⟩
 ·have hu : u = true := by cases u <;> simp at h ⊢
  subst hu
  exact GoodK.skip hK cAny_ok drAny fun E ca w hE hR hA cd hcd => fin el cd hcd E ca w hE hA hR
def isSl (a : AV) : Bool := match a with | .slc (some _) _ _ => true | _ => false
def allSl (l : List AV) : Bool := List.rec (motive := fun _ => Bool) true (fun a _ ih => bb2 (isSl a) ih false) l
theorem allSl_ok : ∀ {l : List AV}, allSl l = true → ∀ a ∈ l, isSl a = true
 | [], _, a, ha => by cases ha
 | b :: l, h, a, ha => by
  have h : bb2 (isSl b) (allSl l) false = true := h
  rw [bb2_eq] at h
  cases hb : isSl b <;> simp only [hb, cond_true, cond_false, Bool.false_eq_true] at h
  rcases List.mem_cons.1 ha with rfl | ha
  ·exact hb
  ·exact allSl_ok h a ha
def slOf (a : Option AV) : Nat × Nat × Nat × Cap := match a with | some (.slc (some (q, o)) x c) => (q, o, x, c) | _ => (0, 0, 0, .known 0)
def slA (M : List AV) (j : Nat) : AV := .slc (some ((slOf M[j]?).1, (slOf M[j]?).2.1)) (slOf M[j]?).2.2.1 (slOf M[j]?).2.2.2
theorem slA_eq {M : List AV} {j : Nat} {a : AV} (h : M[j]? = some a) (hs : isSl a = true) : slA M j = a := by
 unfold isSl at hs
 split at hs <;> (try (cases hs; done))
 unfold slA slOf
 rw [h]
theorem sl_loc {E : Env} {a o x : Nat} {c : Cap} {v : Value} (h : VRel E (.slc (some (a, o)) x c) v) : ∃ L, E.loc[a]? = some L := by
 cases h with
 | slc h _ => exact ⟨_, h⟩
 | slcUp h _ _ _ => exact ⟨_, h⟩
def g123 (args : List AV) (aw : AW) : Option ARes :=
 match args with
 | [.slc (some (q, o)) n (.upto sz lo), .int .i64 (.ofNat i), .slc (some (v, vo)) m (.known mc)] => (match awGet aw q with
  | some (.cells l e true) => (match awGet aw v with
   | some (.cells [y] e2 bv) => bb2 (Nat.beq o (nat_lit 0)) (bb2 (Nat.beq sz (nat_lit 1)) (bb2 (Nat.beq vo (nat_lit 0)) (bb2 (Nat.beq m (nat_lit 1)) (bb2 (Nat.beq mc (nat_lit 1)) (bb2 (Nat.beq e (nat_lit 37)) (bb2 (Nat.beq e2 (nat_lit 37)) (bb2 (Nat.beq q v) none (bb2 (Nat.beq l.length n)
     (bb2 (Nat.ble n (nat_lit 10)) (bb2 (Nat.ble (Nat.succ i) n) (bb2 (allSl l) (bb2 (isSl y) (some (.ret (.slc (some (aw.nx, 0)) (Nat.succ n) (.upto 1 (Nat.succ n))) (awAdd (awSet aw q .dead) (.cells (insL l i y) 37 true)))) none) none) none) none) none)) none) none) none) none) none) none) none
   | _ => none)
  | _ => none)
 | _ => none
theorem insN_mem {n i : Nat} (h1 : n ≤ 10) (h2 : i < n) : (n, i) ∈ insN := by
 refine List.mem_flatMap.2 ⟨n, ?_, List.mem_map.2 ⟨i, List.mem_range.2 h2, rfl⟩⟩
 simp only [List.mem_cons, List.not_mem_nil, or_false]
 omega
theorem insL_mem {l : List Nat} {i y j : Nat} (h : j ∈ insL l i y) : j ∈ l ∨ j = y := by
 unfold insL at h
 rcases List.mem_append.1 h with h | h
 ·exact .inl (List.mem_of_mem_take h)
 ·rcases List.mem_cons.1 h with rfl | h
  ·exact .inr rfl
  ·exact .inl (List.mem_of_mem_drop h)
theorem ov_find : Extern.find Tryz.f193 = some (Extern.SlicesOverlaps.overlaps #[52, 52] #[4]) := by kernel_rfl
theorem ov_size : ∀ w, (Go.sizeOf 37).run Tryz.prog w = .ok 1 w := by
 intro w
 kernel_rfl
theorem ov_run {w : World} {a b : Addr} {la ca lb cb : Nat} (hne : a.block ≠ b.block) {tA tB : TypeId} {kA kB : Nat} (hsa : w.shape? a.block = some (tA, kA)) (hsb : w.shape? b.block = some (tB, kB)) (hkA : kA ≠ 0) (hkB : kB ≠ 0) (hfa : w.frozen? a = false) :
  ∃ u w', (callFunc 193 #[.slice (some a) la ca, .slice (some b) lb cb]).run Tryz.prog w = .ok (.value (.bool u)) w' ∧ w'.heap = w.heap ∧ w'.os = w.os ∧ w'.output = w.output := by
 obtain ⟨u, w', h, h1, h2, h3⟩ := overlaps_any (P := Tryz.prog) w 52 4 37 (by kernel_rfl) 1 ov_size a b la ca lb cb hne tA tB kA kB hsa hsb hkA hkB hfa
 refine ⟨u, w', ?_, h1, h2, h3⟩
 rw [run_callFunc_extern Tryz.func193 (by kernel_rfl) (by kernel_rfl) (by kernel_rfl) ov_find, h]
 rfl
theorem s123 : ∀ args aw res, g123 args aw = some res → callable Tryz.prog 123 = true ∧ ∀ E w cargs, LRel E args cargs → Rel E aw w →
  Calls Tryz.prog 123 cargs.toArray w fun e w' => ∃ E', E.Le E' ∧ ResRel E' res e w' := by
 intro args aw res h
 refine ⟨by kernel_rfl, fun E w cargs hr hR => ?_⟩
 unfold g123 at h
 split at h <;> (try (cases h; done))
 rename_i q o n sz lo i v vo m mc
 split at h <;> (try (cases h; done))
 rename_i l e hq
 split at h <;> (try (cases h; done))
 rename_i y e2 bv hv
 simp only [bb2_eq] at h
 cases h1 : Nat.beq o 0 <;> simp only [h1, cond_true, cond_false, reduceCtorEq] at h
 cases h2 : Nat.beq sz 1 <;> simp only [h2, cond_true, cond_false, reduceCtorEq] at h
 cases h3 : Nat.beq vo 0 <;> simp only [h3, cond_true, cond_false, reduceCtorEq] at h
 cases h4 : Nat.beq m 1 <;> simp only [h4, cond_true, cond_false, reduceCtorEq] at h
 cases h5 : Nat.beq mc 1 <;> simp only [h5, cond_true, cond_false, reduceCtorEq] at h
 cases h6 : Nat.beq e 37 <;> simp only [h6, cond_true, cond_false, reduceCtorEq] at h
 cases h7 : Nat.beq e2 37 <;> simp only [h7, cond_true, cond_false, reduceCtorEq] at h
 cases h8 : Nat.beq q v <;> simp only [h8, cond_true, cond_false, reduceCtorEq] at h
 cases h9 : Nat.beq l.length n <;> simp only [h9, cond_true, cond_false, reduceCtorEq] at h
 cases h10 : Nat.ble n 10 <;> simp only [h10, cond_true, cond_false, reduceCtorEq] at h
 cases h11 : Nat.ble (Nat.succ i) n <;> simp only [h11, cond_true, cond_false, reduceCtorEq] at h
 cases h12 : allSl l <;> simp only [h12, cond_true, cond_false, reduceCtorEq] at h
 cases h13 : isSl y <;> simp only [h13, cond_true, cond_false, reduceCtorEq, sI] at h
 subst h
 have e1 := nbt h1; have e2' := nbt h2; have e3 := nbt h3; have e4 := nbt h4
 have e5 := nbt h5; have e6 := nbt h6; have e7 := nbt h7; have e9 := nbt h9
 subst e1 e2' e3 e4 e5 e6 e7
 have n8 := ne_of_beq h8
 have hn10 : n ≤ 10 := nbl h10
 have hi : i < n := nbl h11
 have hp := insN_mem hn10 hi
 rw [awGet_eq] at hq hv
 rw [awAdd_eq, awSet_eq]
 have hMl : ∀ j, j < n → slA (l ++ [y]) j = l[j]?.getD .undef ∧ ∃ a, l[j]? = some a := fun j hj => by
  have hj' : j < l.length := by omega
  have hm : (l ++ [y])[j]? = some l[j] := by rw [lal hj', lge hj']
  refine ⟨?_, l[j], lge hj'⟩
  rw [slA_eq hm (allSl_ok h12 _ (List.getElem_mem hj')), lge hj']; rfl
 have hy : slA (l ++ [y]) n = y := slA_eq (by rw [lar (by omega), e9, Nat.sub_self]; rfl) h13
 have hl : l = (List.range n).map (slA (l ++ [y])) := by
  refine List.ext_getElem? fun j => ?_
  rw [List.getElem?_map]
  by_cases hj : j < n
  ·obtain ⟨q1, a, q2⟩ := hMl j hj
   rw [List.getElem?_range hj, q2, Option.map_some, q1, q2]; rfl
  ·rw [List.getElem?_eq_none (by omega), List.getElem?_eq_none (by simp; omega)]; rfl
 generalize hA : slA (l ++ [y]) = A at hl hy
 obtain ⟨I, O, X, C, rfl⟩ : ∃ (I O X : Nat → Nat) (C : Nat → Cap), A = fun j => AV.slc (some (I j, O j)) (X j) (C j) := ⟨fun j => (slOf (l ++ [y])[j]?).1, fun j => (slOf (l ++ [y])[j]?).2.1, fun j => (slOf (l ++ [y])[j]?).2.2.1, fun j => (slOf (l ++ [y])[j]?).2.2.2, hA.symm⟩
 clear hA hMl h12 h13 e9
 subst hl hy
 obtain ⟨Lq, hLq, oq⟩ := hR.obj q _ hq
 obtain ⟨Lv, hLv, ov⟩ := hR.obj v _ hv
 have hloc : ∀ j, ∃ L : Loc, j ≤ n → E.loc[I j]? = some L := fun j => by
  by_cases hj : j ≤ n
  ·by_cases hjn : j = n
   ·subst hjn
    obtain ⟨c, fz, _, _, _, _, hc⟩ := ov
    obtain ⟨x, _, hx⟩ := hc 0 _ rfl
    obtain ⟨L, hL⟩ := sl_loc hx
    exact ⟨L, fun _ => hL⟩
   ·obtain ⟨c, fz, _, _, _, _, hc⟩ := oq
    obtain ⟨x, _, hx⟩ := hc j (.slc (some (I j, O j)) (X j) (C j)) (by rw [List.getElem?_map, List.getElem?_range (by omega)]; rfl)
    obtain ⟨L, hL⟩ := sl_loc hx
    exact ⟨L, fun _ => hL⟩
  ·exact ⟨Lq, fun h => (hj h).elim⟩
 obtain ⟨Lt, hLt⟩ := Classical.axiomOfChoice hloc
 have hS : SubM E aw [q, v] [Lq, Lv] := by
  refine ⟨rfl, by simp [n8], fun i id hi => ?_⟩
  match i, hi with
  | 0, hi => injection hi with hi; subst hi; exact ⟨_, Lq, hq, rfl, hLq, rfl⟩
  | 1, hi => injection hi with hi; subst hi; exact ⟨_, Lv, hv, rfl, hLv, rfl⟩
  | i + 2, hi => cases hi
 have hrest : ∀ j, j ≤ n → ([Lq, Lv] ++ (List.range (n + 1)).map Lt)[2 + j]? = some (Lt j) := fun j hj => by
  rw [lar (by simp), show 2 + j - [Lq, Lv].length = j by simp, List.getElem?_map, List.getElem?_range (by omega)]; rfl
 have into : ∀ j, j ≤ n → ∀ x, VRel E (.slc (some (I j, O j)) (X j) (C j)) x → VRel (mixE E w [Lq, Lv] ((List.range (n + 1)).map Lt)) (Xc O X C j) x := fun j hj x hx => slc_conv (hLt j hj) (hrest j hj) hx
 have back : ∀ {E1}, MixK E w [Lq, Lv] ((List.range (n + 1)).map Lt) E1 → ∀ {E2 : Env}, (∀ i L, E.loc[i]? = some L → E2.loc[i]? = some L) → ∀ j, j ≤ n → ∀ x, VRel E1 (Xc O X C j) x → VRel E2 (.slc (some (I j, O j)) (X j) (C j)) x := fun hK _ h2 j hj x hx => slc_conv (hK.loc _ _ (hrest j hj)) (h2 _ _ (hLt j hj)) hx
 have oqS : ORel (mixE E w [Lq, Lv] ((List.range (n + 1)).map Lt)) Lq w (.cells (Xs O X C n) 37 true) := cells_map (fun j hj => into j (Nat.le_of_lt (List.mem_range.1 hj))) oq
 have ovS : ORel (mixE E w [Lq, Lv] ((List.range (n + 1)).map Lt)) Lv w (.cells [Xc O X C n] 37 bv) := cells_map (Ks := [n]) (f := fun j => .slc (some (I j, O j)) (X j) (C j)) (g := Xc O X C) (fun j hj => by rw [List.mem_singleton.1 hj]; exact into n (Nat.le_refl _)) ov
 have mk : ∀ {l0 : List AV}, ORel (mixE E w [Lq, Lv] ((List.range (n + 1)).map Lt)) Lq w (.cells l0 37 true) → Rel (mixE E w [Lq, Lv] ((List.range (n + 1)).map Lt)) (ofObjs [.cells l0 37 true, .cells [Xc O X C n] 37 bv] (Nat.add n 3)) w := fun {l0} h0 => by
  have := mix_rel hR hS (os := [.cells l0 37 true, .cells [Xc O X C n] 37 bv]) (rest := (List.range (n + 1)).map Lt) (os2 := (List.range (n + 1)).map fun _ => .dead) rfl (by simp) (fun i x hi => ?_) (fun i x hi => ?_)
  ·refine this.less ?_ fun j x hj => ?_
   ·show n + 3 = _
    simp [ofObjs]
   ·rw [ofObjs_get] at hj ⊢
    match j, hj with
    | 0, hj => exact hj
    | 1, hj => exact hj
    | j + 2, hj => simp at hj
  ·simp only [List.getElem?_map, Option.map_eq_some_iff] at hi
   obtain ⟨_, _, rfl⟩ := hi; rfl
  ·match i, hi with
   | 0, hi => injection hi with hi; subst hi; exact ⟨Lq, rfl, h0⟩
   | 1, hi => injection hi with hi; subst hi; exact ⟨Lv, rfl, ovS⟩
   | i + 2, hi =>
    have hi : ((List.range (n + 1)).map fun _ => AO.dead)[i]? = some x := hi
    simp only [List.getElem?_map, Option.map_eq_some_iff] at hi
    obtain ⟨y, hy, rfl⟩ := hi
    have := (lgs.1 hy).2
    exact ⟨Lt y, by simp [hy], trivial⟩
 have fin : ∀ {E1 : Env} {aw1 : AW} {w' : World} {L1 : Loc} {x : Value} {cap : Nat} {a : Addr}, MixK E w [Lq, Lv] ((List.range (n + 1)).map Lt) E1 → Rel E1 aw1 w' → (∃ l, aw1.get 0 = some (.cells l 37 true)) → aw1.get 1 = some (.cells [Xc O X C n] 37 bv) →
   ORel E1 L1 w' (.cells (insL (Xs O X C n) i (Xc O X C n)) 37 true) → (L1 = Lq ∨ (w.heap[L1.block]? = none ∧ E.fr L1.block = none ∧ E.tk L1.block = none)) → n + 1 ≤ cap → (cap = 0 ∨ (a = ⟨L1.block, L1.base + 0, none⟩ ∧ L1.base + 0 + cap * 1 ≤ L1.total)) →
   ∃ E', E.Le E' ∧ ResRel E' (.ret (.slc (some (aw.nx, 0)) (Nat.succ n) (.upto 1 (Nat.succ n))) ((aw.set q .dead).add (.cells (insL ((List.range n).map fun j => AV.slc (some (I j, O j)) (X j) (C j)) i (.slc (some (I n, O n)) (X n) (C n))) 37 true))) (.returned (.slice (some a) (n + 1) cap)) w' := fun {E1 aw1 w' L1 x cap a} hK hR1 ⟨l0, g0⟩ g1 ho hL1 hcap ha => by
  have set_get : ∀ j, (aw.set q .dead).get j = if j = q then some .dead else aw.get j := fun j => by
   by_cases hj : j = q
   ·subst hj; rw [if_pos rfl]; exact Tr.get_set_same _ _
   ·rw [if_neg hj]; exact Tr.get_set_other hj _ _ _
  have ov' : ORel E Lv w' (.cells [.slc (some (I n, O n)) (X n) (C n)] 37 bv) := by
   obtain ⟨L, hL, h⟩ := hR1.obj 1 _ g1
   rw [hK.loc 1 Lv rfl] at hL; injection hL with hL; subst hL
   exact cells_map (Ks := [n]) (f := Xc O X C) (g := fun j => .slc (some (I j, O j)) (X j) (C j)) (fun j hj => by rw [List.mem_singleton.1 hj]; exact back hK (fun _ _ h => h) n (Nat.le_refl _)) h
  have hback : Rel E (aw.set q .dead) w' := mix_back hR hS hK hR1 rfl fun j x hj => by
   rw [set_get] at hj
   by_cases hjq : j = q
   ·rw [if_pos hjq] at hj; injection hj with hj; subst hj hjq
    exact .inl ⟨0, Lq, rfl, rfl, trivial⟩
   ·rw [if_neg hjq] at hj
    by_cases hjv : j = v
    ·subst hjv
     rw [hv] at hj; injection hj with hj; subst hj
     exact .inl ⟨1, Lv, rfl, rfl, ov'⟩
    ·exact .inr ⟨by simp [hjq, hjv], hj⟩
  have hne : ∀ j x Lj, (aw.set q .dead).get j = some x → x.live = true → E.loc[j]? = some Lj → Lj.block ≠ L1.block := fun j x Lj hj hx hLj eb => by
   rw [set_get] at hj
   by_cases hjq : j = q
   ·rw [if_pos hjq] at hj; injection hj with hj; subst hj; cases hx
   ·rw [if_neg hjq] at hj
    rcases hL1 with rfl | ⟨hno, _⟩
    ·exact hjq (hR.inj j q x _ Lj L1 hj hq hx rfl hLj hLq eb)
    ·obtain ⟨L', hL', hro⟩ := hR.obj j x hj
     rw [hLj] at hL'; injection hL' with hL'; subst hL'
     have := hro.lt hx
     rw [eb] at this
     rw [age this] at hno; cases hno
  have hft : E.fr L1.block = none ∧ E.tk L1.block = none := by
   rcases hL1 with rfl | ⟨_, h1, h2⟩
   ·exact ⟨hR.apart q _ L1 hq rfl hLq, hR.tok.2 q _ L1 hq rfl hLq⟩
   ·exact ⟨h1, h2⟩
  refine ⟨E.put L1, E.put_le L1, hback.addAt hne hft.1 hft.2 ?_, ?_⟩
  ·rw [show Xs O X C n = (List.range n).map (Xc O X C) from rfl, insL_map] at ho
   have hf : insL ((List.range n).map fun j => AV.slc (some (I j, O j)) (X j) (C j)) i (.slc (some (I n, O n)) (X n) (C n)) = (insL (List.range n) i n).map fun j => AV.slc (some (I j, O j)) (X j) (C j) := insL_map (fun j => AV.slc (some (I j, O j)) (X j) (C j)) n i
   rw [hf]
   refine cells_map (fun j hj => ?_) ho
   have hjn : j ≤ n := by
    rcases insL_mem hj with h | h
    ·exact Nat.le_of_lt (List.mem_range.1 h)
    ·omega
   exact back hK (fun _ _ h => (E.put_le L1).loc h) j hjn
  ·exact .slcUp (by show (E.put L1).loc[aw.nx]? = _; rw [hR.nx]; exact E.put_new L1) hcap hcap ha
 cases hr with
 | cons r1 t1 =>
  cases t1 with
  | cons r2 t2 =>
   cases r2
   cases t2 with
   | cons r3 t3 =>
    cases t3
    rename_i v2
    have r3' : VRel (mixE E w [Lq, Lv] ((List.range (n + 1)).map Lt)) vS v2 := slc_conv (b := 1) hLv rfl r3
    cases r1 with
    | slcUp hLq' p1 p2 p3 =>
     rename_i a cap L'
     rw [hLq] at hLq'; injection hLq' with hLq'; subst hLq'
     obtain ⟨pa, pb⟩ := p3.resolve_left (by omega)
     by_cases hcap : cap = n
     ·
      subst hcap
      have hrun := List.map_inj_left.1 (insA_all O X C bv) (cap, i) hp
      unfold insA at hrun
      dsimp only at hrun
      split at hrun <;> (try (cases hrun; done))
      rename_i rv aw1 hcall
      simp only [sI, pmi] at hrun
      obtain ⟨rfl, g3, g0, g1, g4⟩ := hrun
      rw [awGet_eq] at g3 g0 g1
      have r1' : VRel (mixE E w [Lq, Lv] ((List.range (cap + 1)).map Lt)) (.slc (some (0, 0)) cap (.known cap)) (.slice (some a) cap cap) := .slc (L := Lq) rfl (.inr pa)
      refine ((cAny_ok _ _ _ _ hcall).2 _ w _ (.cons r1' (.cons (.int _ _) (.cons r3' .nil))) (mk oqS)).mono fun en w' ⟨E1, hle, hres⟩ => ?_
      cases en with
      | panicked ch => exact hres.elim
      | outgrown => exact hres.elim
      | returned cv =>
       obtain ⟨hR1, hvr⟩ := hres
       have hK := MixK.of_le hle
       cases hvr with
       | slcUp hL1 s1 s2 s3 =>
        rename_i a1 cap1 L1
        obtain ⟨L, hL, ho⟩ := hR1.obj _ _ g3
        have hL : E1.loc[cap + 3]? = some L := hL
        rw [hL1] at hL; injection hL with hL; subst hL
        have hnew := mix_new hR hS hK hR1 (fun i hi => by
         match i, hi with
         | 0, _ => exact ⟨_, g0, rfl⟩
         | 1, _ => exact ⟨_, g1, rfl⟩) g3 rfl (by show 2 ≤ cap + 3; omega) hL1
        exact fin (x := .bool true) hK hR1 ⟨_, g0⟩ g1 ho (.inr hnew) s2 s3
     ·
      obtain ⟨cd, hbody, hc⟩ := ins_code
      refine calls_of_wp Tryz.func123 hbody ?_
      have r1' : VRel (mixE E w [Lq, Lv] ((List.range (n + 1)).map Lt)) (.slc (some (0, 0)) n (.upto 1 (Nat.succ n))) (.slice (some a) n cap) := .slcUp (L := Lq) rfl p1 (by show n + 1 ≤ cap; omega) (.inr ⟨pa, pb⟩)
      have hinit := init_rel (E := mixE E w [Lq, Lv] ((List.range (n + 1)).map Lt)) (args := [.slc (some (0, 0)) n (.upto 1 (Nat.succ n)), .int .i64 (.ofNat i), vS]) (cargs := [.slice (some a) n cap, .int .i64 (.ofNat i), v2]) (n := 95) (.cons r1' (.cons (.int _ _) (.cons r3' .nil))) (show 3 ≤ 95 by omega)
      have hA : ActRel (mixE E w [Lq, Lv] ((List.range (n + 1)).map Lt)) ⟨tmOf [(0, .slc (some (0, 0)) n (.upto 1 (Nat.succ n))), (1, .int .i64 (.ofNat i)), (2, vS)] .leaf, 95, []⟩ { tmps := #[.slice (some a) n cap, .int .i64 (.ofNat i), v2] ++ Array.replicate (Tryz.f123.ntmps - (#[.slice (some a) n cap, .int .i64 (.ofNat i), v2] : Array Value).size) undef, defers := [] } := by
       refine ⟨?_, fun t v hv => ?_, .nil⟩
       ·rw [Tryz.ntmps123]; simp
       ·have e : tmOf [(0, .slc (some (0, 0)) n (.upto 1 (Nat.succ n))), (1, .int .i64 (.ofNat i)), (2, vS)] .leaf = slots [.slc (some (0, 0)) n (.upto 1 (Nat.succ n)), .int .i64 (.ofNat i), vS] 0 .leaf := by kernel_rfl
        rw [e] at hv
        rw [Tryz.ntmps123]
        exact hinit.tmps t v hv
      have hmem := mk (cells_more (by simp [Xs]; omega) oqS)
      have hgood := ins_good (K := MixK E w [Lq, Lv] ((List.range (n + 1)).map Lt)) (fun _ _ h1 h2 => h1.le h2) (O := O) (x := X) (c := C) (bv := bv) hp fun E1 w1 aw1 t1 cargs hK hask hl1 hR1 => ?_
      ·refine wp_mono (hgood cd hc _ _ w (MixK.refl _ _ _ _) hA hmem) fun en a1 w' ⟨q1, q2, rv, q3, E1, aw1, hK, hR1, hvr, g0, g1⟩ => ?_
       subst q1
       refine ⟨q2, rv, ?_, ?_⟩
       ·have i6 : a1.tmps.getD 6 undef = rv := by simp [Array.getD_eq_getD_getElem?, q3]
        rw [← i6]
        exact results_tmp (t := 6) rfl _ _ _
       ·cases hvr with
        | slcUp hL1 s1 s2 s3 =>
         rename_i a2 cap2 L1
         rw [hK.loc 0 Lq rfl] at hL1; injection hL1 with hL1; subst hL1
         obtain ⟨L, hL, ho⟩ := hR1.obj 0 _ g0
         rw [hK.loc 0 Lq rfl] at hL; injection hL with hL; subst hL
         exact fin (x := .bool true) hK hR1 ⟨_, g0⟩ g1 ho (.inl rfl) s2 s3
      ·
       obtain ⟨k, p, m, s, lo', g61, g66, hm, row0, row1⟩ := okAsk_ok hask
       rw [g61, g66] at hl1
       obtain ⟨x0, l0, b0, g0⟩ := isRow_ok row0
       obtain ⟨x1, l1, b1, g1⟩ := isRow_ok row1
       obtain ⟨L0, hL0, c0, fz0, ⟨u0, f0⟩, u1, u2, u3, u4⟩ := hR1.obj 0 _ g0
       obtain ⟨L1, hL1, c1, fz1, ⟨v0, f1⟩, v1, v2', v3, v4⟩ := hR1.obj 1 _ g1
       rw [hK.loc 0 Lq rfl] at hL0; injection hL0 with hL0; subst hL0
       rw [hK.loc 1 Lv rfl] at hL1; injection hL1 with hL1; subst hL1
       have hbl : Lv.block ≠ Lq.block := fun eb => n8 (hR.inj q v _ _ Lq Lv hq hv rfl rfl hLq hLv eb.symm)
       have z0 : c0.size ≠ 0 := by simp at u2; omega
       have z1 : c1.size ≠ 0 := by simp at v2'; omega
       cases hl1 with
       | cons y1 y2 =>
        cases y2 with
        | cons y2 y3 =>
         cases y3
         simp only [Option.getD_some] at y1 y2
         cases y1 with
         | slc w1L w1a =>
          rename_i a1 Lx
          rw [hK.loc 1 Lv rfl] at w1L; injection w1L with w1L; subst w1L
          have w1a := w1a.resolve_left (by omega)
          subst w1a
          cases y2 with
          | slcUp w2L w2a w2b w2c =>
           rename_i a2 cap2 Ly
           rw [hK.loc 0 Lq rfl] at w2L; injection w2L with w2L; subst w2L
           obtain ⟨w2d, _⟩ := w2c.resolve_left (by omega)
           subst w2d
           obtain ⟨u, w2, r1, r2, r3, r4⟩ := ov_run (w := w1) (a := ⟨Lv.block, Lv.base + 0, none⟩) (b := ⟨Lq.block, Lq.base + p, none⟩) (la := 1) (ca := k) (lb := m) (cb := cap2) hbl (tA := 37) (tB := 37) (kA := c1.size) (kB := c0.size)
            (by simp [World.shape?, v0]) (by simp [World.shape?, u0]) z1 z0 (by
             show World.frozen? w1 ⟨Lv.block, Lv.base + 0, none⟩ = false
             simp only [World.frozen?, v0]
             exact f1.none (by simp at v2' ⊢; omega))
           exact ⟨u, _, w2, r1, .bool _, r2, r3, r4⟩
theorem xback_pre {a a1 : AAct} {aw1 : AW} {d : Option Nat} {k k' : AAct → AW → Option Out} {x : Option Out} (hk : ∀ a aw, k a aw = some ⟨.norm, a1, aw1⟩ → k' a aw = x) : ∀ {r : Option ARes}, xback a d k r = some ⟨.norm, a1, aw1⟩ → xback a d k' r = x := by
 intro r h
 unfold xback at h ⊢
 (repeat' split at h) <;> first | (cases h; done) | (exact hk _ _ h) | (simp_all; done)
theorem xitems_pre {call : Call} : ∀ {l1 l2 : List CR} {a a1 : AAct} {aw aw1 : AW}, xitems call l1 a aw = some ⟨.norm, a1, aw1⟩ → xitems call (l1 ++ l2) a aw = xitems call l2 a1 aw1
 | [], l2, a, a1, aw, aw1, h => by
  simp only [xitems, sI, Out.mk.injEq, true_and] at h
  obtain ⟨rfl, rfl⟩ := h; rfl
 | c :: l1, l2, a, a1, aw, aw1, h => by
  cases c with
  | chk d g c =>
   simp only [xitems, List.cons_append] at h ⊢
   (repeat' split at h) <;> first | (cases h; done) | exact xitems_pre h | skip
   simp only [Bool.cond_eq_ite] at h ⊢
   split at h
   ·rename_i hb
    rw [if_pos hb]
    exact xitems_pre h
   ·cases h
  | _ =>
   simp only [xitems, List.cons_append] at h ⊢
   (repeat' split at h) <;> first | (cases h; done) | exact xitems_pre h | exact xback_pre (fun _ _ h => xitems_pre h) h
theorem draw_eq {call : Call} {n : Nat} {l r : List CR} {a a1 : AAct} {aw aw1 : AW} {o : Out} (h1 : xitems call l a aw = some ⟨.norm, a1, aw1⟩) (h2 : xitems call r a1 aw1 = some o) : xcode call (n + 1) (.draw l r) a aw = some o := by
 simp only [xcode, h1, h2]
theorem seq_norm {call : Call} {n : Nat} {x y : CC} {a a1 : AAct} {aw aw1 : AW} (h : xcode call n x a aw = some ⟨.norm, a1, aw1⟩) : xcode call (n + 1) (.seq x y) a aw = xcode call n y a1 aw1 := by simp only [xcode, h]
theorem seq_exit {call : Call} {n k : Nat} {x y : CC} {a a1 : AAct} {aw aw1 : AW} (h : xcode call n x a aw = some ⟨.exit k, a1, aw1⟩) : xcode call (n + 1) (.seq x y) a aw = some ⟨.exit k, a1, aw1⟩ := by simp only [xcode, h]
theorem cond_b {call : Call} {n : Nat} {o : Opd} {u : Bool} {x y : CC} {a : AAct} {aw : AW} (h : o.ev a.tmps = some (.bool u)) : xcode call (n + 1) (.cond o x y) a aw = xcode call n (bif u then x else y) a aw := by
 cases u <;> simp only [xcode, h, cond_true, cond_false]
theorem block_norm {call : Call} {n id : Nat} {b : CC} {a a1 : AAct} {aw aw1 : AW} (h : xcode call n b a aw = some ⟨.norm, a1, aw1⟩) : xcode call (n + 1) (.block id b) a aw = some ⟨.norm, a1, aw1⟩ := by simp only [xcode, h]
theorem Rel.lessD {E : Env} {aw aw' : AW} {w : World} (h : Rel E aw w) (hn : aw'.nx = aw.nx) (hg : ∀ (j : Nat) (x : AO), aw'.get j = some x → (x = .dead ∧ j < aw.nx) ∨ aw.get j = some x) : Rel E aw' w := by
 have lv : ∀ {j x}, aw'.get j = some x → x.live = true → aw.get j = some x := fun {j x} hj hx => by
  rcases hg j x hj with ⟨rfl, _⟩ | h
  ·cases hx
  ·exact h
 refine ⟨hn.trans h.nx, h.ns, fun j x hj => ?_, fun i j oi oj Li Lj hi hj li lj => h.inj i j oi oj Li Lj (lv hi li) (lv hj lj) li lj, h.frame, fun i oi Li hi li => h.apart i oi Li (lv hi li) li, h.tok.1, fun i oi Li hi li => h.tok.2 i oi Li (lv hi li) li⟩
 rcases hg j x hj with ⟨rfl, hl⟩ | h1
 ·rw [h.nx] at hl; exact ⟨E.loc[j], lge hl, trivial⟩
 ·exact h.obj j x h1
theorem GoodLK.canonD {P : Program} {dr : Array Oper → Option (List CR × List CR)} {K : Env → Prop} {cc : CC} {Q : Exit → Act → World → Prop} {aw : AW} {t : Tr AV} {n : Nat} {tm : List (Nat × AV)} {os : List AO} (ht : ∀ s v, (s, v) ∈ tm → t.get s s = some v) (hn : aw.nx = os.length)
  (ho : ∀ (j : Nat) (x : AO), os[j]? = some x → x = .dead ∨ aw.get j = some x) (h : GoodLK P dr K cc Q ⟨tmOf tm .leaf, n, []⟩ (ofObjs os os.length)) : GoodLK P dr K cc Q ⟨t, n, []⟩ aw :=
 fun c hc E ca w hE hA hR => h c hc E ca w hE (act_less ht hA) (hR.lessD hn.symm fun j x hj => by
  rw [ofObjs_get] at hj
  rcases ho j x hj with e | e
  ·exact .inl ⟨e, by rw [hn]; exact (lgs.1 hj).1⟩
  ·exact .inr e)
def slv1d : CC := (.draw [.op (some 6) none (.mv (.t 0)), .op (some 7) none (.nileq 0 false (.t 6)), .op (some 8) none (.mv (.t 7)), .op (some 9) (some (8, false)) (.mv (.t 0)), .op (some 11) (some (8, false)) (.mv (.t 0)), .op (some 12) (some (8, false)) (.nilck (.t 11)), .op (some 13) (some (8, false)) (.off 1 (.t 12)), .op (some 14) (some (8, false)) (.load none (.t 13)), .call (some 10) (some (8, false)) 321 [(.t 9)], .chk 14 (some (8, false)) (.load none (.t 13)), .op (some 15) (some (8, false)) (.bin .lss false (.t 10) (.t 14)), .op (some 16) none (.pick (.t 8) (.c (.bool true)) (.t 15))] [])
def slv1t : CC := (.seq (.region [.op (some 2) none (.mv (.c (.slc none 0 (.known 0)))), .op (some 3) none (.mv (.c (.bool false)))])  .ret)
def slv1 : CC := .seq slv1d (.cond (.t 16) slv1t .skip)
def slv0 : CC := (.region [.op (some 2) none (.mv (.c (.slc none 0 (.known 0)))), .op (some 3) none (.mv (.c (.bool false)))])
def slv2 : CC := (.region [.op (some 4) none (.mv (.c (.slc none 0 (.known 0))))])
def slv4 : CC := (.region [.op (some 40) none (.mv (.t 4)), .op (some 2) none (.mv (.t 40)), .op (some 3) none (.mv (.c (.bool true)))])
def slv5 : CC := .ret
def slvI : CC := (.region [.op (some 17) none (.mv (.t 0)), .op (some 18) none (.nilck (.t 17)), .op (some 19) none (.off 1 (.t 18)), .op (some 20) none (.load none (.t 19)), .op (some 21) none (.mv (.c (.int .i64 (.ofNat 0))))])
def slvT : CC := (.region [.op (some 22) none (.bin .lss false (.t 21) (.t 20))])
def slvA : CC := (.region [.op (some 23) none (.mv (.t 21)), .op (some 5) none (.mv (.t 23))])
def slvL : List CR := [.op (some 24) none (.mv (.t 4)), .op (some 25) none (.mv (.t 0)), .op (some 26) none (.nilck (.t 25)), .op (some 27) none (.off 3 (.t 26)), .op (some 28) none (.load none (.t 27)), .op (some 29) none (.mv (.t 5))]
def slvM : List CR := [.op (some 31) none (.mv (.t 0)), .op (some 32) none (.nilck (.t 31)), .op (some 33) none (.off 1 (.t 32)), .op (some 34) none (.load none (.t 33)), .op (some 35) none (.slice 1 (.t 30) (some (.t 34)) none none), .call (some 36) none 322 [(.t 35)], .op (some 37) none (.mkslc 37 1 [(.slc none 0 (.known 0))] [(0, 1, (.t 36))]), .op (some 38) none (.append 37 1 24 (.t 24) (.t 37))]
def slvR : List CR := [.op (some 4) none (.mv (.t 38))]
def slvN : CC := (.region [.op (some 39) none (.bin .add false (.t 21) (.c (.int .i64 (.ofNat 1)))), .op (some 21) none (.mv (.t 39))])
def slvB : CC := .seq slvT (.seq (.cond (.t 22) .skip (.exit 0)) (.seq (.block 1 (.seq slvA (.draw (slvL ++ .op (some 30) none (.look (.slc none 0 (.known 0)) false (.t 28) (.t 29)) :: slvM) slvR))) slvN))
def slvAll : CC := .seq slv0 (.seq slv1 (.seq slv2 (.seq (.seq slvI (.block 0 (.loop slvB))) (.seq slv4 slv5))))
theorem slv_code : ∃ c, Tryz.f254.body = some c ∧ cCode Tryz.prog (cDraw Tryz.prog) c = some slvAll := ⟨_, rfl, by kernel_rfl⟩
def at41 (c : CC) (t : Tr AV) (aw : AW) : Option Out := kCode cAny c (nat_lit 1000) t (nat_lit 41) [] aw
theorem at41_eq (c : CC) (t : Tr AV) (aw : AW) : at41 c t aw = xcode cAny 1000 c ⟨t, 41, []⟩ aw := kCode_eq cAny c 1000 t 41 [] aw
def kOf (len : Nat) : Nat := Nat.div (Nat.succ len) 2
def basR (len : Nat) : AO := .rom [.undef, .int .i64 (.ofNat (kOf len)), .undef, .map (some 0)] 418
def cloL (len j : Nat) : AO := .cells [dataB len (2 * j), dataB len (2 * j + 1)] 5 true
def cloS (len j : Nat) : AV := .slc (some (2 + kOf len + 4 * j + 1, 0)) 2 (.upto 1 2)
def lstO (len i : Nat) : AO := .cells ((List.range i).map (cloS len)) 37 true
def slvMem (len i : Nat) (es : List AEnt) (c : Nat) : List AO := [.map es c, basR len] ++ ((List.range (kOf len)).map fun j => .rom (lineL len (kOf len) j) 5) ++
 (List.range i).flatMap fun j => [.dead, cloL len j, .dead, bif Nat.beq (Nat.succ j) i then lstO len i else .dead]
def outS (len i : Nat) : AV := bif Nat.beq i 0 then .slc none 0 (.known 0) else .slc (some (2 + kOf len + 4 * i - 1, 0)) i (.upto 1 i)
def slvTm (len i : Nat) : List (Nat × AV) := [(0, .ptr (some (1, 0))), (4, outS len i), (20, .int .i64 (.ofNat (kOf len))), (21, .int .i64 (.ofNat i))]
def slvLive (len i : Nat) : List Nat := List.range (2 + kOf len) ++ ((List.range i).map fun j => 2 + kOf len + 4 * j + 1) ++ (bif Nat.beq i 0 then [] else [2 + kOf len + 4 * i - 1])
abbrev SeenS := Option AO × List (Option AV) × List (Option AO) × Nat
def slvSeen (o : Option AO) (len i : Nat) (t : Tr AV) (aw : AW) : Option SeenS := some (o, [trGet t (nat_lit 0), trGet t (nat_lit 4), trGet t (nat_lit 20), trGet t (nat_lit 21)], (slvLive len i).map (awGet aw), aw.nx)
def slvWant (len i : Nat) (es : List AEnt) (c : Nat) : Option SeenS := some (some (.map es c), [some (.ptr (some (1, 0))), some (outS len i), some (.int .i64 (.ofNat (kOf len))), some (.int .i64 (.ofNat i))], (slvLive len i).map fun j => (slvMem len i es c)[j]?, 2 + kOf len + 4 * i)
def isTrueV (v : Option AV) : Bool := match v with | some (.bool u) => u | _ => false
def okLook (i : Nat) (t : Tr AV) : Bool := match trGet t (nat_lit 28) with
 | some (.map (some m)) => bb2 (Nat.beq m (nat_lit 0)) (match trGet t (nat_lit 29) with
  | some (.int .i64 (.ofNat j)) => Nat.beq j i
  | _ => false) false
 | _ => false
def slvRound (es : List AEnt) (c : Nat) (p : Nat × Nat) : Option SeenS :=
 bNn (nat_lit 41) (at41 slvT (tmOf (slvTm p.1 p.2) .leaf) (ofObjs (slvMem p.1 p.2 es c) (2 + kOf p.1 + 4 * p.2))) fun t aw => bb2 (isTrueV (trGet t (nat_lit 22))) (bNn (nat_lit 41) (at41 slvA t aw) fun t aw => bNn (nat_lit 41) (at41 (.region slvL) t aw) fun t aw0 =>
  bb2 (okLook p.2 t) (bNn (nat_lit 41) (at41 (.region slvM) (trSet t (nat_lit 30) (.slc (some (2 + p.2, 0)) (kOf p.1 + 2) (.upto 1 (kOf p.1 + 2)))) aw0) fun t aw => bNn (nat_lit 41) (at41 (.region slvR) t aw) fun t aw => bNn (nat_lit 41) (at41 slvN t aw) (slvSeen (awGet aw0 (nat_lit 0)) p.1 (Nat.succ p.2))) none) none
def slvP : List (Nat × Nat) := [1, 2, 3, 4, 5, 6, 7, 8, 9, 10, 11, 12, 13, 14, 15, 16, 17, 18, 19, 20].flatMap fun len => (List.range (kOf len)).map fun i => (len, i)
theorem slv_all : ∀ (es : List AEnt) (c : Nat), slvP.map (slvRound es c) = slvP.map fun p => slvWant p.1 (p.2 + 1) es c := by
 intro es c
 kernel_rfl
def isFalseV (v : Option AV) : Bool := match v with | some (.bool u) => bb2 u false true | _ => false
def slvGo (es : List AEnt) (c : Nat) (len : Nat) : Option (Option AV × SeenS) :=
 bNn (nat_lit 41) (at41 slv0 (tmOf [(0, .ptr (some (1, 0)))] .leaf) (ofObjs (slvMem len 0 es c) (2 + kOf len))) fun t aw => bNn (nat_lit 41) (at41 slv1d t aw) fun t1 aw => bNn (nat_lit 41) (at41 slv2 t1 aw) fun t aw => bNn (nat_lit 41) (at41 slvI t aw) fun t aw =>
  match slvSeen (awGet aw (nat_lit 0)) len (nat_lit 0) t aw with
  | some r => some (trGet t1 (nat_lit 16), r)
  | none => none
def lens : List Nat := [1, 2, 3, 4, 5, 6, 7, 8, 9, 10, 11, 12, 13, 14, 15, 16, 17, 18, 19, 20]
theorem slvGo_all : ∀ (es : List AEnt) (c : Nat), lens.map (slvGo es c) = lens.map fun len => match slvWant len 0 es c with | some r => some (some (.bool (ilt (.ofNat es.length) (.ofNat (kOf len)))), r) | none => none := by
 intro es c
 kernel_rfl
def slvFin (es : List AEnt) (c : Nat) (len : Nat) : Option (Bool × List (Option AV) × List (Option AO) × Nat) :=
 bNn (nat_lit 41) (at41 slvT (tmOf (slvTm len (kOf len)) .leaf) (ofObjs (slvMem len (kOf len) es c) (2 + kOf len + 4 * kOf len))) fun t1 aw => bRn (nat_lit 41) (at41 (.seq slv4 slv5) t1 aw) fun t aw =>
  some (isFalseV (trGet t1 (nat_lit 22)), [trGet t (nat_lit 2), trGet t (nat_lit 3)], (slvLive len (kOf len)).map (awGet aw), aw.nx)
theorem slvFin_all : ∀ (es : List AEnt) (c : Nat), lens.map (slvFin es c) = lens.map fun len => some (true, [some (outS len (kOf len)), some (.bool true)], (slvLive len (kOf len)).map fun j => (slvMem len (kOf len) es c)[j]?, 2 + kOf len + 4 * kOf len) := by
 intro es c
 kernel_rfl
def inL (x : Nat) (l : List Nat) : Bool := List.rec (motive := fun _ => Bool) false (fun y _ ih => bb2 (Nat.beq x y) true ih) l
def slvQ : List (Nat × Nat) := lens.flatMap fun len => (List.range (Nat.succ (kOf len))).map fun i => (len, i)
def isDeadO (o : Option AO) : Bool := match o with | some .dead => true | _ => false
def memQ (es : List AEnt) (c : Nat) (p : Nat × Nat) : Bool := bb2 (Nat.beq (slvMem p.1 p.2 es c).length (2 + kOf p.1 + 4 * p.2)) ((List.range (2 + kOf p.1 + 4 * p.2)).all fun j => bb2 (inL j (slvLive p.1 p.2)) true (isDeadO (slvMem p.1 p.2 es c)[j]?)) false
theorem slv_dead : ∀ (es : List AEnt) (c : Nat), slvQ.all (memQ es c) = true := by
 intro es c
 kernel_rfl
theorem inL_ok {x : Nat} : ∀ {l : List Nat}, inL x l = true → x ∈ l
 | [], h => by cases h
 | y :: l, h => by
  have h : bb2 (Nat.beq x y) true (inL x l) = true := h
  rw [bb2_eq] at h
  cases hb : Nat.beq x y with
  | true => rw [nbt hb]; simp
  | false => rw [hb] at h; exact List.mem_cons_of_mem _ (inL_ok h)
theorem isDeadO_ok {o : Option AO} {x : AO} (h : isDeadO o = true) (hx : o = some x) : x = .dead := by
 subst hx
 unfold isDeadO at h
 split at h
 ·rename_i e; injection e
 ·cases h
theorem slvQ_mem {len i : Nat} (hl : len ∈ lens) (hi : i ≤ kOf len) : (len, i) ∈ slvQ := List.mem_flatMap.2 ⟨len, hl, List.mem_map.2 ⟨i, List.mem_range.2 (Nat.lt_succ_of_le hi), rfl⟩⟩
theorem slvMem_ok {len i : Nat} (hl : len ∈ lens) (hi : i ≤ kOf len) (es : List AEnt) (c : Nat) : (slvMem len i es c).length = 2 + kOf len + 4 * i ∧ ∀ (j : Nat) (x : AO), (slvMem len i es c)[j]? = some x → j ∈ slvLive len i ∨ x = .dead := by
 have h := List.all_eq_true.1 (slv_dead es c) (len, i) (slvQ_mem hl hi)
 unfold memQ at h
 rw [bb2_eq] at h
 cases h1 : Nat.beq (slvMem len i es c).length (2 + kOf len + 4 * i) <;> simp only [h1, cond_true, cond_false, Bool.false_eq_true] at h
 have h1 := nbt h1
 refine ⟨h1, fun j x hj => ?_⟩
 have hlt := (lgs.1 hj).1
 have h2 := List.all_eq_true.1 h j (List.mem_range.2 (by omega))
 rw [bb2_eq] at h2
 cases h3 : inL j (slvLive len i) with
 | true => exact .inl (inL_ok h3)
 | false => rw [h3] at h2; exact .inr (isDeadO_ok h2 hj)
theorem seenS_ok {o : Option AO} {len i : Nat} {t : Tr AV} {aw : AW} {es : List AEnt} {c : Nat} (hl : len ∈ lens) (hi : i ≤ kOf len) (h : slvSeen o len i t aw = slvWant len i es c) :
  o = some (.map es c) ∧ (∀ s v, (s, v) ∈ slvTm len i → t.get s s = some v) ∧ aw.nx = (slvMem len i es c).length ∧ ∀ (j : Nat) (x : AO), (slvMem len i es c)[j]? = some x → x = .dead ∨ aw.get j = some x := by
 simp only [slvSeen, slvWant, sI, pmi, List.cons.injEq, and_true, trGet_eq] at h
 obtain ⟨h0, ⟨s0, s4, s20, s21⟩, hm, hn⟩ := h
 obtain ⟨m1, m2⟩ := slvMem_ok hl hi es c
 refine ⟨h0, fun s v hs => ?_, by rw [m1, hn], fun j x hj => ?_⟩
 ·simp only [slvTm, List.mem_cons, List.not_mem_nil, or_false, pmi] at hs
  rcases hs with ⟨rfl, rfl⟩ | ⟨rfl, rfl⟩ | ⟨rfl, rfl⟩ | ⟨rfl, rfl⟩
  ·exact s0
  ·exact s4
  ·exact s20
  ·exact s21
 ·rcases m2 j x hj with hj2 | e
  ·have := List.map_inj_left.1 hm j hj2
   rw [awGet_eq] at this
   exact .inr (this.trans hj)
  ·exact .inl e
end Go.Proofs.YtbilacojhmohmaaGreat.Ae
end
