/- Summaries: what comes is booked (tally.Got), and how unevenly it comes (jitter.Add), whatever was booked. No condition. -/
import Derived.Test.YtbilacojhmohmaaGreatD10
import Derived.Test.YtbilacojhmohmaaGreatD09
import Derived.ProofKit
set_option linter.unusedVariables false
set_option linter.unusedSimpArgs false
noncomputable section
namespace Go.Proofs.YtbilacojhmohmaaGreat.Ae
open Go
def got0 : CC := (.region [.op (some 4) none (.mv (.c (.int .u64 (.ofNat 0)))), .op (some 5) none (.mv (.c (.bool false)))])
def got1 : CC := (.seq (.region [.op (some 7) none (.mv (.t 0)), .op (some 8) none (.nileq 0 false (.t 7))])  (.cond (.t 8) (.seq (.region [.op (some 4) none (.mv (.c (.int .u64 (.ofNat 0)))), .op (some 5) none (.mv (.c (.bool false)))])  .ret) .skip))
def got2 : CC := (.region [.op (some 9) none (.mv (.t 0)), .op (some 10) none (.nilck (.t 9)), .op (some 11) none (.off 0 (.t 10)), .op (some 12) none (.load none (.t 11)), .op (some 13) none (.mv (.t 1)), .call (some 14) none 182 [(.t 12), (.t 13)], .op (some 6) none (.mv (.t 14))])
def got3 : CC := (.seq (.region [.op (some 15) none (.mv (.t 0)), .op (some 16) none (.nilck (.t 15)), .op (some 17) none (.off 3 (.t 16)), .op (some 18) none (.load none (.t 17)), .op (some 19) none (.bnot (.t 18))])  (.cond (.t 19) (.region [.op (some 20) none (.mv (.t 0)), .op (some 21) none (.mv (.t 0)), .op (some 22) none (.mv (.t 6)), .op (some 23) none (.bin .sub false (.t 22) (.c (.int .u64 (.ofNat 1)))), .op (some 24) none (.nilck (.t 20)), .op (some 25) none (.off 2 (.t 24)), .op none none (.store 1 (.t 25) (.t 23)), .op (some 26) none (.nilck (.t 21)), .op (some 27) none (.off 3 (.t 26)), .op none none (.store 1 (.t 27) (.c (.bool true)))]) .skip))
def got4 : CC := (.seq (.region [.op (some 28) none (.mv (.t 0)), .op (some 29) none (.nilck (.t 28)), .op (some 30) none (.off 1 (.t 29)), .op (some 31) none (.load none (.t 30)), .op (some 32) none (.mv (.t 6)), .op (some 33) none (.look (.bool false) false (.t 31) (.t 32))])  (.cond (.t 33) (.seq (.region [.op (some 34) none (.mv (.t 0)), .op (some 35) none (.nilck (.t 34)), .op (some 36) none (.off 5 (.t 35)), .op (some 37) none (.load none (.t 36)), .op (some 38) none (.bin .add false (.t 37) (.c (.int .u64 (.ofNat 1)))), .op (some 39) none (.nilck (.t 34)), .op (some 40) none (.off 5 (.t 39)), .op none none (.store 1 (.t 40) (.t 38))])  (.seq (.region [.op (some 41) none (.mv (.t 6)), .op (some 4) none (.mv (.t 41)), .op (some 5) none (.mv (.c (.bool false)))])  .ret)) .skip))
def got5 : CC := (.region [.op (some 42) none (.mv (.t 0)), .op (some 43) none (.nilck (.t 42)), .op (some 44) none (.off 1 (.t 43)), .op (some 45) none (.load none (.t 44)), .op (some 46) none (.mv (.t 6)), .op none none (.mapset (.t 45) (.t 46) (.c (.bool true)))])
def got6 : CC := (.seq (.region [.op (some 47) none (.mv (.t 6)), .op (some 48) none (.mv (.t 0)), .op (some 49) none (.nilck (.t 48)), .op (some 50) none (.off 2 (.t 49)), .op (some 51) none (.load none (.t 50)), .op (some 52) none (.bin .leq false (.t 47) (.t 51))])  (.cond (.t 52) (.region [.op (some 53) none (.mv (.t 0)), .op (some 54) none (.nilck (.t 53)), .op (some 55) none (.off 4 (.t 54)), .op (some 56) none (.load none (.t 55)), .op (some 57) none (.bin .add false (.t 56) (.c (.int .u64 (.ofNat 1)))), .op (some 58) none (.nilck (.t 53)), .op (some 59) none (.off 4 (.t 58)), .op none none (.store 1 (.t 59) (.t 57))]) .skip))
def got7 : CC := (.region [.op (some 60) none (.mv (.t 6)), .op (some 4) none (.mv (.t 60)), .op (some 5) none (.mv (.c (.bool true)))])
def got8 : CC := .ret
def got4a : List CR := [.op (some 28) none (.mv (.t 0)), .op (some 29) none (.nilck (.t 28)), .op (some 30) none (.off 1 (.t 29)), .op (some 31) none (.load none (.t 30)), .op (some 32) none (.mv (.t 6))]
def got4c : CC := (.cond (.t 33) (.seq (.region [.op (some 34) none (.mv (.t 0)), .op (some 35) none (.nilck (.t 34)), .op (some 36) none (.off 5 (.t 35)), .op (some 37) none (.load none (.t 36)), .op (some 38) none (.bin .add false (.t 37) (.c (.int .u64 (.ofNat 1)))), .op (some 39) none (.nilck (.t 34)), .op (some 40) none (.off 5 (.t 39)), .op none none (.store 1 (.t 40) (.t 38))])  (.seq (.region [.op (some 41) none (.mv (.t 6)), .op (some 4) none (.mv (.t 41)), .op (some 5) none (.mv (.c (.bool false)))])  .ret)) .skip)
theorem got4_eq : got4 = .seq (.region (got4a ++ [.op (some 33) none (.look (.bool false) false (.t 31) (.t 32))])) got4c := rfl
def got5a : List CR := [.op (some 42) none (.mv (.t 0)), .op (some 43) none (.nilck (.t 42)), .op (some 44) none (.off 1 (.t 43)), .op (some 45) none (.load none (.t 44)), .op (some 46) none (.mv (.t 6))]
theorem got5_eq : got5 = .region (got5a ++ [.op none none (.mapset (.t 45) (.t 46) (.c (.bool true)))]) := rfl
def got4t : CC := (.seq (.region [.op (some 34) none (.mv (.t 0)), .op (some 35) none (.nilck (.t 34)), .op (some 36) none (.off 5 (.t 35)), .op (some 37) none (.load none (.t 36)), .op (some 38) none (.bin .add false (.t 37) (.c (.int .u64 (.ofNat 1)))), .op (some 39) none (.nilck (.t 34)), .op (some 40) none (.off 5 (.t 39)), .op none none (.store 1 (.t 40) (.t 38))])  (.seq (.region [.op (some 41) none (.mv (.t 6)), .op (some 4) none (.mv (.t 41)), .op (some 5) none (.mv (.c (.bool false)))])  .ret))
theorem got4c_eq : got4c = .cond (.t 33) got4t .skip := rfl
def got6r : CC := (.region [.op (some 47) none (.mv (.t 6)), .op (some 48) none (.mv (.t 0)), .op (some 49) none (.nilck (.t 48)), .op (some 50) none (.off 2 (.t 49)), .op (some 51) none (.load none (.t 50)), .op (some 52) none (.bin .leq false (.t 47) (.t 51))])
def got6t : CC := (.region [.op (some 53) none (.mv (.t 0)), .op (some 54) none (.nilck (.t 53)), .op (some 55) none (.off 4 (.t 54)), .op (some 56) none (.load none (.t 55)), .op (some 57) none (.bin .add false (.t 56) (.c (.int .u64 (.ofNat 1)))), .op (some 58) none (.nilck (.t 53)), .op (some 59) none (.off 4 (.t 58)), .op none none (.store 1 (.t 59) (.t 57))])
theorem got6_eq : got6 = .seq got6r (.cond (.t 52) got6t .skip) := rfl
def gotAll : CC := .seq got0 (.seq got1 (.seq got2 (.seq got3 (.seq got4 (.seq got5 (.seq got6 (.seq got7 (got8))))))))
theorem got_code : ∃ c, Tryz.f116.body = some c ∧ cCode Tryz.prog (cDraw Tryz.prog) c = some gotAll := ⟨_, rfl, by kernel_rfl⟩
def at61 (c : CC) (t : Tr AV) (aw : AW) : Option Out := kCode cAny c (nat_lit 1000) t (nat_lit 61) [] aw
theorem at61_eq (c : CC) (t : Tr AV) (aw : AW) : at61 c t aw = xcode cAny 1000 c ⟨t, 61, []⟩ aw := kCode_eq cAny c 1000 t 61 [] aw
def topsN : List Nat := [0, 1, 2, 3, 4, 5, 6, 7, 8, 9, 65536, 65537, 65538, 65539, 65540, 65541, 65542, 65543, 65544, 65545]
def tops : List AV := topsN.map fun n => .int .u64 (.ofNat n)
def talO (s : Int) (h : Bool) (l t : Int) : AO := .cells [.ptr (some (1, 0)), .map (some 2), .int .u64 s, .bool h, .int .u64 l, .int .u64 t] 199 false
def extO (T : Nat) (b : Bool) : AO := .cells [.int .u64 (.ofNat T), .bool b] 267 false
def talM (s : Int) (h : Bool) (l t : Int) (T : Nat) (b : Bool) (es : List AEnt) (c : Nat) : List AO := [talO s h l t, extO T b, .map es c]
def memT (T : Nat) : Bool := List.rec (motive := fun _ => Bool) false (fun x _ ih => bb2 (Nat.beq x T) true ih) topsN
theorem memT_ok {T : Nat} (h : memT T = true) : T ∈ topsN := by
 have key : ∀ l : List Nat, List.rec (motive := fun _ => Bool) false (fun x _ ih => bb2 (Nat.beq x T) true ih) l = true → T ∈ l := by
  intro l
  induction l with
  | nil => intro h; cases h
  | cons x l ih =>
   intro h
   have h : bb2 (Nat.beq x T) true (List.rec (motive := fun _ => Bool) false (fun x _ ih => bb2 (Nat.beq x T) true ih) l) = true := h
   rw [bb2_eq] at h
   cases hx : Nat.beq x T with
   | true => rw [nbt hx]; simp
   | false => rw [hx] at h; exact List.mem_cons_of_mem _ (ih h)
 exact key _ h
def seenT (aw : AW) : Option ((Int × Bool × Int × Int) × (Nat × Bool) × (List AEnt × Nat)) :=
 match awGet aw (nat_lit 0) with
 | some (.cells [.ptr (some (p1, p2)), .map (some m), .int .u64 s, .bool h, .int .u64 l, .int .u64 t] e false) => bb2 (Nat.beq p1 (nat_lit 1)) (bb2 (Nat.beq p2 (nat_lit 0)) (bb2 (Nat.beq m (nat_lit 2)) (bb2 (Nat.beq e (nat_lit 199)) (match awGet aw (nat_lit 1) with
  | some (.cells [.int .u64 (.ofNat T), .bool b] e false) => bb2 (Nat.beq e (nat_lit 267)) (bb2 (memT T) (match awGet aw (nat_lit 2) with
   | some (.map es c) => bb2 (Nat.beq aw.nx (nat_lit 3)) (some ((s, h, l, t), (T, b), (es, c))) none
   | _ => none) none) none
  | _ => none) none) none) none) none
 | _ => none
theorem seenT_ok {aw : AW} {s l t : Int} {h b : Bool} {T c : Nat} {es : List AEnt} (hs : seenT aw = some ((s, h, l, t), (T, b), (es, c))) : T ∈ topsN ∧ aw.nx = 3 ∧ ∀ (j : Nat) (x : AO), (talM s h l t T b es c)[j]? = some x → aw.get j = some x := by
 unfold seenT at hs
 split at hs <;> (try (cases hs; done))
 rename_i p1 p2 m s' h' l' t' e g0
 simp only [bb2_eq] at hs
 cases h1 : Nat.beq p1 1 <;> simp only [h1, cond_true, cond_false, reduceCtorEq] at hs
 cases h2 : Nat.beq p2 0 <;> simp only [h2, cond_true, cond_false, reduceCtorEq] at hs
 cases h3 : Nat.beq m 2 <;> simp only [h3, cond_true, cond_false, reduceCtorEq] at hs
 cases h4 : Nat.beq e 199 <;> simp only [h4, cond_true, cond_false, reduceCtorEq] at hs
 split at hs <;> (try (cases hs; done))
 rename_i T' b' e' g1
 cases h5 : Nat.beq e' 267 <;> simp only [h5, cond_true, cond_false, reduceCtorEq] at hs
 cases h6 : memT T' <;> simp only [h6, cond_true, cond_false, reduceCtorEq] at hs
 split at hs <;> (try (cases hs; done))
 rename_i es' c' g2
 cases h7 : Nat.beq aw.nx 3 <;> simp only [h7, cond_true, cond_false, reduceCtorEq, sI, pmi] at hs
 obtain ⟨⟨rfl, rfl, rfl, rfl⟩, ⟨rfl, rfl⟩, rfl, rfl⟩ := hs
 have e1 := nbt h1; have e2 := nbt h2; have e3 := nbt h3; have e4 := nbt h4; have e5 := nbt h5
 subst e1 e2 e3 e4 e5
 rw [awGet_eq] at g0 g1 g2
 refine ⟨memT_ok h6, nbt h7, fun j x hj => ?_⟩
 match j with
 | 0 => injection hj with hj; subst hj; exact g0
 | 1 => injection hj with hj; subst hj; exact g1
 | 2 => injection hj with hj; subst hj; exact g2
 | j + 3 => simp [talM] at hj
abbrev pT : AV := .ptr (some (0, 0))
abbrev nQ (n : Int) : AV := .int .u64 n
def gotA (s : Int) (h : Bool) (l t : Int) (es : List AEnt) (c : Nat) (x : Nat × Bool × Nat) : Option ((Option AV × Option AV) × Bool × (List AEnt × Nat)) :=
 bNn (nat_lit 61) (at61 got0 (tmOf [(0, pT), (1, .int .u16 (.ofNat x.2.2))] .leaf) (ofObjs (talM s h l t x.1 x.2.1 es c) (nat_lit 3))) fun t1 aw => bNn (nat_lit 61) (at61 got1 t1 aw) fun t1 aw => bNn (nat_lit 61) (at61 got2 t1 aw) fun t1 aw => bNn (nat_lit 61) (at61 got3 t1 aw) fun t1 aw =>
  match seenT aw with
  | some r => match trGet t1 (nat_lit 6) with
   | some (.int .u64 y) => some ((trGet t1 (nat_lit 0), none), true, r.2.2)
   | _ => none
  | none => none
def gotX : List (Nat × Bool × Nat) := topsN.flatMap fun T => [true, false].flatMap fun b => [0, 1, 2, 3, 4, 5, 6, 7, 8, 9].map fun n => (T, b, n)
theorem gotA_all (h : Bool) : ∀ (s l t : Int) (es : List AEnt) (c : Nat), gotX.map (gotA s h l t es c) = gotX.map fun _ => some ((some pT, none), true, (es, c)) := by
 cases h <;> (intro s l t es c; kernel_rfl)
theorem xfind_ty {k : IntKind} {n : Int} : ∀ {es : List AEnt} (i : Nat), TyM k es → xfind k n es i = some none ∨ ∃ j b, xfind k n es i = some (some (j, .bool b))
 | [], i, _ => .inl rfl
 | e :: es, i, h => by
  obtain ⟨⟨m, hm⟩, b, hb⟩ := h e (by simp)
  unfold xfind
  rw [hm]
  simp only [Nat.beq_refl, cond_true]
  cases ieq n m with
  | true => exact .inr ⟨i, b, by simp [hb]⟩
  | false => exact xfind_ty (i + 1) fun x hx => h x (List.mem_cons_of_mem _ hx)
theorem entPut_ty {k : IntKind} {n : Int} {b : Bool} : ∀ {es : List AEnt} (i : Nat), TyM k es → TyM k (entPut (.int k n) (.bool b) es i)
 | [], _, h => h
 | e :: es, 0, h => fun x hx => by
  rcases List.mem_cons.1 hx with rfl | hx
  ·exact ⟨⟨n, rfl⟩, b, rfl⟩
  ·exact h x (List.mem_cons_of_mem _ hx)
 | e :: es, i + 1, h => fun x hx => by
  rcases List.mem_cons.1 hx with rfl | hx
  ·exact h x (by simp)
  ·exact entPut_ty i (fun y hy => h y (List.mem_cons_of_mem _ hy)) x hx
theorem look_ty {t : Tr AV} {aw : AW} {a b : Opd} {q : Nat} {k : IntKind} {n : Int} {es : List AEnt} {c : Nat} (ha : a.ev t = some (.map (some q))) (hb : b.ev t = some (.int k n)) (hg : aw.get q = some (.map es c)) (he : TyM k es) : ∃ u, xop t aw (.look (.bool false) false a b) = some (.bool u, aw) := by
 simp only [xop, ha, hb, hg]
 rcases xfind_ty (n := n) 0 he with h | ⟨j, u, h⟩
 ·exact ⟨false, by rw [h]; rfl⟩
 ·exact ⟨u, by rw [h]; rfl⟩
theorem put_ty {t : Tr AV} {aw : AW} {a b : Opd} {q : Nat} {k : IntKind} {n : Int} {es : List AEnt} {c : Nat} (ha : a.ev t = some (.map (some q))) (hb : b.ev t = some (.int k n)) (hg : aw.get q = some (.map es c)) (he : TyM k es) : ∃ es' c', TyM k es' ∧ xop t aw (.mapset a b (.c (.bool true))) = some (.tuple [], aw.set q (.map es' c')) := by
 have hc : Opd.ev t (.c (.bool true)) = some (.bool true) := rfl
 simp only [xop, ha, hb, hc, xmap, hg]
 rcases xfind_ty (n := n) 0 he with h | ⟨j, u, h⟩
 ·refine ⟨es ++ [⟨.int k n, .bool true, c⟩], c + 1, fun x hx => ?_, by rw [h]⟩
  rcases List.mem_append.1 hx with hx | hx
  ·exact he x hx
  ·simp only [List.mem_cons, List.not_mem_nil, or_false] at hx; subst hx; exact ⟨⟨n, rfl⟩, true, rfl⟩
 ·exact ⟨entPut (.int k n) (.bool true) es j, c, entPut_ty j he, by rw [h]⟩
def isT0 (o : Option AO) : Bool :=
 match o with
 | some (.cells [.ptr (some (p1, p2)), .map (some m), .int .u64 s, .bool h, .int .u64 l, .int .u64 t] e false) => bb2 (Nat.beq p1 (nat_lit 1)) (bb2 (Nat.beq p2 (nat_lit 0)) (bb2 (Nat.beq m (nat_lit 2)) (Nat.beq e (nat_lit 199)) false) false) false
 | _ => false
theorem isT0_ok {o : Option AO} (h : isT0 o = true) : ∃ s hh l t, o = some (talO s hh l t) := by
 unfold isT0 at h
 split at h <;> (try (cases h; done))
 rename_i p1 p2 m s' h' l' t' e
 simp only [bb2_eq] at h
 cases h1 : Nat.beq p1 1 <;> simp only [h1, cond_true, cond_false, Bool.false_eq_true] at h
 cases h2 : Nat.beq p2 0 <;> simp only [h2, cond_true, cond_false, Bool.false_eq_true] at h
 cases h3 : Nat.beq m 2 <;> simp only [h3, cond_true, cond_false, Bool.false_eq_true] at h
 have e1 := nbt h1; have e2 := nbt h2; have e3 := nbt h3; have e4 := nbt h
 subst e1 e2 e3 e4
 exact ⟨_, _, _, _, rfl⟩
def isSomeV (v : Option AV) : Bool := Option.rec (motive := fun _ => Bool) false (fun _ => true) v
theorem isSomeV_ok {v : Option AV} (h : isSomeV v = true) : ∃ x, v = some x := by cases v with | none => cases h | some x => exact ⟨x, rfl⟩
def isBoolV (v : Option AV) : Bool := match v with | some (.bool _) => true | _ => false
theorem isBoolV_ok {v : Option AV} (h : isBoolV v = true) : ∃ u, v = some (.bool u) := by
 unfold isBoolV at h
 split at h <;> first | exact ⟨_, rfl⟩ | cases h
abbrev T6 (y : Int) : List (Nat × AV) := [(0, pT), (6, nQ y)]
abbrev SeenG := Bool × List (Option AV) × Bool × Option AO × Option AO × Nat
section
variable (s : Int) (h : Bool) (l t : Int) (T : Nat) (b : Bool) (es : List AEnt) (c : Nat) (y : Int)
def seenG (ok : Tr AV → Bool) (sl : List Nat) (t1 : Tr AV) (aw : AW) : Option SeenG := some (ok t1, List.rec (motive := fun _ => List (Option AV)) [] (fun i _ ih => trGet t1 i :: ih) sl, isT0 (awGet aw (nat_lit 0)), awGet aw (nat_lit 1), awGet aw (nat_lit 2), aw.nx)
def wantG (sl : List (Option AV)) : Option SeenG := some (true, sl, true, some (extO T b), some (.map es c), nat_lit 3)
theorem got4_all : bNn (nat_lit 61) (at61 (.region got4a) (tmOf (T6 y) .leaf) (ofObjs (talM s h l t T b es c) (nat_lit 3))) (seenG (fun _ => true) [0, 6, 31, 32]) = wantG T b es c [some pT, some (nQ y), some (.map (some 2)), some (nQ y)] := by
 kernel_rfl
theorem got4t_all : bRn (nat_lit 61) (at61 got4t (trSet (tmOf [(0, pT), (6, nQ y), (31, .map (some 2)), (32, nQ y)] .leaf) (nat_lit 33) (.bool true)) (ofObjs (talM s h l t T b es c) (nat_lit 3))) (seenG (fun t1 => bb2 (isSomeV (trGet t1 (nat_lit 4))) (isSomeV (trGet t1 (nat_lit 5))) false) []) = wantG T b es c [] := by
 kernel_rfl
theorem got5_all : bNn (nat_lit 61) (at61 (.region got5a) (tmOf (T6 y) .leaf) (ofObjs (talM s h l t T b es c) (nat_lit 3))) (seenG (fun _ => true) [0, 6, 45, 46]) = wantG T b es c [some pT, some (nQ y), some (.map (some 2)), some (nQ y)] := by
 kernel_rfl
theorem got6_all : bNn (nat_lit 61) (at61 got6r (tmOf (T6 y) .leaf) (ofObjs (talM s h l t T b es c) (nat_lit 3))) (seenG (fun t1 => isBoolV (trGet t1 (nat_lit 52))) [0, 6]) = wantG T b es c [some pT, some (nQ y)] := by
 kernel_rfl
theorem got6t_all : bNn (nat_lit 61) (at61 got6t (tmOf [(0, pT), (6, nQ y), (52, .bool true)] .leaf) (ofObjs (talM s h l t T b es c) (nat_lit 3))) (seenG (fun _ => true) [0, 6]) = wantG T b es c [some pT, some (nQ y)] := by
 kernel_rfl
theorem got7_all : bRn (nat_lit 61) (at61 (.seq got7 got8) (tmOf (T6 y) .leaf) (ofObjs (talM s h l t T b es c) (nat_lit 3))) (seenG (fun t1 => bb2 (isSomeV (trGet t1 (nat_lit 4))) (isSomeV (trGet t1 (nat_lit 5))) false) []) = wantG T b es c [] := by
 kernel_rfl
end
theorem draw_all : ∀ call, CallOK Tryz.prog call → DrawOK Tryz.prog call (cDraw Tryz.prog) := draw_ok (by kernel_rfl)
theorem drAny : DrawOK Tryz.prog cAny (cDraw Tryz.prog) := draw_all _ cAny_ok
theorem seen_mem {aw : AW} {T : Nat} {b : Bool} {es : List AEnt} {c : Nat} (g0 : isT0 (awGet aw 0) = true) (g1 : awGet aw 1 = some (extO T b)) (g2 : awGet aw 2 = some (.map es c)) : ∃ s h l t, ∀ (j : Nat) (x : AO), (talM s h l t T b es c)[j]? = some x → aw.get j = some x := by
 obtain ⟨s, h, l, t, e⟩ := isT0_ok g0
 rw [awGet_eq] at e g1 g2
 refine ⟨s, h, l, t, fun j x hj => ?_⟩
 match j with
 | 0 => injection hj with hj; subst hj; exact e
 | 1 => injection hj with hj; subst hj; exact g1
 | 2 => injection hj with hj; subst hj; exact g2
 | j + 3 => simp [talM] at hj
section
variable {K : Env → Prop}
def GotQ (K : Env → Prop) : Post' := fun e ca w' => e = .ret ∧ ca.defers = [] ∧ (∃ v, ca.tmps[4]? = some v) ∧ (∃ v, ca.tmps[5]? = some v) ∧ ∃ E1, K E1 ∧ ∃ s h l t T b es c, T ∈ topsN ∧ TyM .u64 es ∧ Rel E1 (ofObjs (talM s h l t T b es c) 3) w'
theorem got_ret (hK : ∀ E E', K E → E.Le E' → K E') {cc : CC} {t0 : Tr AV} {aw0 : AW} {Q : Post'} (hQ : ∀ ca w, GotQ K .ret ca w → Q .ret ca w) {T : Nat} {b : Bool} {es : List AEnt} {c : Nat} (hT : T ∈ topsN) (he : TyM .u64 es)
  (e : bRn 61 (at61 cc t0 aw0) (seenG (fun t1 => bb2 (isSomeV (trGet t1 4)) (isSomeV (trGet t1 5)) false) []) = wantG T b es c []) : GoodK Tryz.prog (cDraw Tryz.prog) K cc Q ⟨t0, 61, []⟩ aw0 := by
 have hw : ∃ r, wantG T b es c [] = some r := ⟨_, rfl⟩
 obtain ⟨r, hr⟩ := hw
 rw [hr] at e
 obtain ⟨t1, aw1, e1, h1⟩ := bRn_ok e
 have h1 := h1.trans hr.symm
 simp only [seenG, wantG, sI, pmi] at h1
 obtain ⟨g, _, g0, g1, g2, g3⟩ := h1
 rw [bb2_eq] at g
 cases g4 : isSomeV (trGet t1 4) <;> simp only [g4, cond_true, cond_false, Bool.false_eq_true] at g
 obtain ⟨v4, h4⟩ := isSomeV_ok g4
 obtain ⟨v5, h5⟩ := isSomeV_ok g
 rw [trGet_eq] at h4 h5
 obtain ⟨s, h, l, t, hm⟩ := seen_mem g0 g1 g2
 rw [at61_eq] at e1
 refine GoodK.run hK cAny_ok drAny e1 fun E e ca w hE hR hA hX => ?_
 cases e <;> simp only [XRel] at hX
 refine hQ ca w ⟨rfl, ?_, ?_, ?_, E, hE, s, h, l, t, T, b, es, c, hT, he, hR.less (aw' := ofObjs (talM s h l t T b es c) 3) g3.symm fun j x hj => hm j x (by rw [ofObjs_get] at hj; exact hj)⟩
 ·have := hA.defs
  generalize ca.defers = df at this
  cases this; rfl
 ·obtain ⟨v, hv, _⟩ := hA.tmps 4 _ h4; exact ⟨v, hv⟩
 ·obtain ⟨v, hv, _⟩ := hA.tmps 5 _ h5; exact ⟨v, hv⟩
theorem got_good (hK : ∀ E E', K E → E.Le E' → K E') {s l t : Int} {h b : Bool} {T c n : Nat} {es : List AEnt} (hT : T ∈ topsN) (hn : n < 10) (he : TyM .u64 es) : GoodK Tryz.prog (cDraw Tryz.prog) K gotAll (GotQ K) ⟨tmOf [(0, pT), (1, .int .u16 (.ofNat n))] .leaf, 61, []⟩ (ofObjs (talM s h l t T b es c) 3) := by
 have tail7 : ∀ {s l t y : Int} {h b : Bool} {T c : Nat} {es : List AEnt}, T ∈ topsN → TyM .u64 es → GoodK Tryz.prog (cDraw Tryz.prog) K (.seq got7 got8) (GotQ K) ⟨tmOf (T6 y) .leaf, 61, []⟩ (ofObjs (talM s h l t T b es c) 3) := fun {s l t y h b T c es} hT he => got_ret hK (fun _ _ q => q) hT he (got7_all s h l t T b es c y)
 have canon6 : ∀ {cc : CC} {Q : Post'} {t1 : Tr AV} {aw1 : AW} {y : Int} {T c : Nat} {b : Bool} {es : List AEnt}, trGet t1 0 = some pT → trGet t1 6 = some (nQ y) → isT0 (awGet aw1 0) = true → awGet aw1 1 = some (extO T b) → awGet aw1 2 = some (.map es c) → aw1.nx = 3 →
   (∀ s h l t, GoodK Tryz.prog (cDraw Tryz.prog) K cc Q ⟨tmOf (T6 y) .leaf, 61, []⟩ (ofObjs (talM s h l t T b es c) 3)) → GoodK Tryz.prog (cDraw Tryz.prog) K cc Q ⟨t1, 61, []⟩ aw1 := fun {cc Q t1 aw1 y T c b es} a0 a6 g0 g1 g2 g3 hg => by
  obtain ⟨s, h, l, t, hm⟩ := seen_mem g0 g1 g2
  rw [trGet_eq] at a0 a6
  refine GoodK.canon (tm := T6 y) (os := talM s h l t T b es c) (fun i v hi => ?_) g3 hm (hg s h l t)
  simp only [List.mem_cons, List.not_mem_nil, or_false, pmi] at hi
  rcases hi with ⟨rfl, rfl⟩ | ⟨rfl, rfl⟩
  ·exact a0
  ·exact a6
 have tail6 : ∀ {s l t y : Int} {h b : Bool} {T c : Nat} {es : List AEnt}, T ∈ topsN → TyM .u64 es → GoodK Tryz.prog (cDraw Tryz.prog) K (.seq got6 (.seq got7 got8)) (GotQ K) ⟨tmOf (T6 y) .leaf, 61, []⟩ (ofObjs (talM s h l t T b es c) 3) := fun {s l t y h b T c es} hT he => by
  have e := got6_all s h l t T b es c y
  have hw : ∃ r, wantG T b es c [some pT, some (nQ y)] = some r := ⟨_, rfl⟩
  obtain ⟨r, hr⟩ := hw
  rw [hr] at e
  obtain ⟨t1, aw1, e1, h1⟩ := bNn_ok e
  have h1 := h1.trans hr.symm
  simp only [seenG, wantG, sI, pmi, List.cons.injEq, and_true] at h1
  obtain ⟨g, ⟨a0, a6⟩, g0, g1, g2, g3⟩ := h1
  obtain ⟨u, hu⟩ := isBoolV_ok g
  rw [at61_eq] at e1
  rw [got6_eq]
  refine GoodK.into (GoodK.seq hK cAny_ok drAny e1 ?_)
  obtain ⟨s', h', l', t', hm⟩ := seen_mem g0 g1 g2
  rw [trGet_eq] at a0 a6 hu
  refine GoodK.canon (tm := [(0, pT), (6, nQ y), (52, .bool u)]) (os := talM s' h' l' t' T b es c) (fun i v hi => ?_) g3 hm ?_
  ·simp only [List.mem_cons, List.not_mem_nil, or_false, pmi] at hi
   rcases hi with ⟨rfl, rfl⟩ | ⟨rfl, rfl⟩ | ⟨rfl, rfl⟩
   ·exact a0
   ·exact a6
   ·exact hu
  ·refine GoodK.cond (o := .t 52) (u := u) (by kernel_rfl) (fun hu => ?_) (fun hu => ?_)
   ·subst hu
    have e := got6t_all s' h' l' t' T b es c y
    have hw : ∃ r, wantG T b es c [some pT, some (nQ y)] = some r := ⟨_, rfl⟩
    obtain ⟨r, hr⟩ := hw
    rw [hr] at e
    obtain ⟨t2, aw2, e2, h2⟩ := bNn_ok e
    have h2 := h2.trans hr.symm
    simp only [seenG, wantG, sI, pmi, List.cons.injEq, and_true] at h2
    obtain ⟨_, ⟨a0, a6⟩, g0, g1, g2, g3⟩ := h2
    rw [at61_eq] at e2
    refine GoodK.run hK cAny_ok drAny e2 fun E e ca w hE hR hA hX => ?_
    cases e <;> simp only [XRel] at hX
    exact fun cd hcd => (canon6 a0 a6 g0 g1 g2 g3 fun s h l t => tail7 hT he) cd hcd E ca w hE hA hR
   ·refine GoodK.skip hK cAny_ok drAny fun E ca w hE hR hA cd hcd => ?_
    refine (canon6 (t1 := tmOf [(0, pT), (6, nQ y), (52, .bool u)] .leaf) (aw1 := ofObjs (talM s' h' l' t' T b es c) 3) (y := y) (T := T) (c := c) (b := b) (es := es) (by kernel_rfl) (by kernel_rfl) (by kernel_rfl) (by kernel_rfl) (by kernel_rfl) rfl fun s h l t => tail7 hT he) cd hcd E ca w hE hA hR
 have tail5 : ∀ {s l t y : Int} {h b : Bool} {T c : Nat} {es : List AEnt}, T ∈ topsN → TyM .u64 es → GoodK Tryz.prog (cDraw Tryz.prog) K (.seq got5 (.seq got6 (.seq got7 got8))) (GotQ K) ⟨tmOf (T6 y) .leaf, 61, []⟩ (ofObjs (talM s h l t T b es c) 3) := fun {s l t y h b T c es} hT he => by
  have e := got5_all s h l t T b es c y
  have hw : ∃ r, wantG T b es c [some pT, some (nQ y), some (.map (some 2)), some (nQ y)] = some r := ⟨_, rfl⟩
  obtain ⟨r, hr⟩ := hw
  rw [hr] at e
  obtain ⟨t1, aw1, e1, h1⟩ := bNn_ok e
  have h1 := h1.trans hr.symm
  simp only [seenG, wantG, sI, pmi, List.cons.injEq, and_true] at h1
  obtain ⟨_, ⟨a0, a6, a45, a46⟩, g0, g1, g2, g3⟩ := h1
  rw [at61_eq] at e1
  have e1 : xitems cAny got5a ⟨tmOf (T6 y) .leaf, 61, []⟩ (ofObjs (talM s h l t T b es c) 3) = some ⟨.norm, ⟨t1, 61, []⟩, aw1⟩ := e1
  have g2' := g2
  rw [trGet_eq] at a45 a46
  rw [awGet_eq] at g2'
  obtain ⟨es', c', he', hx⟩ := put_ty (t := t1) (aw := aw1) (a := .t 45) (b := .t 46) a45 a46 g2' he
  rw [got5_eq]
  refine GoodK.items (GoodI.pre hK cAny_ok e1 (GoodI.op0 hK cAny_ok hx (GoodI.last ?_)))
  have set2 : ∀ j, (aw1.set 2 (.map es' c')).get j = if j = 2 then some (.map es' c') else aw1.get j := fun j => by
   by_cases hj : j = 2
   ·subst hj; rw [if_pos rfl]; exact Tr.get_set_same ..
   ·rw [if_neg hj]; exact Tr.get_set_other hj _ _ _
  refine canon6 (aw1 := aw1.set 2 (.map es' c')) (T := T) (b := b) (es := es') (c := c') a0 a6 ?_ ?_ ?_ g3 fun s h l t => tail6 hT he'
  ·rw [awGet_eq, set2, if_neg (by omega), ← awGet_eq]; exact g0
  ·rw [awGet_eq, set2, if_neg (by omega), ← awGet_eq]; exact g1
  ·rw [awGet_eq, set2, if_pos rfl]
 have hin : (T, b, n) ∈ gotX := by
  refine List.mem_flatMap.2 ⟨T, hT, List.mem_flatMap.2 ⟨b, by cases b <;> simp, List.mem_map.2 ⟨n, by simp; omega, rfl⟩⟩⟩
 have e0 := List.map_inj_left.1 (gotA_all h s l t es c) (T, b, n) hin
 unfold gotA at e0
 obtain ⟨t1, aw1, e1, e0⟩ := bNn_ok e0
 obtain ⟨t2, aw2, e2, e0⟩ := bNn_ok e0
 obtain ⟨t3, aw3, e3, e0⟩ := bNn_ok e0
 obtain ⟨t4, aw4, e4, e0⟩ := bNn_ok e0
 split at e0 <;> (try (cases e0; done))
 rename_i r hs
 split at e0 <;> (try (cases e0; done))
 rename_i y h6
 simp only [sI, pmi, true_and] at e0
 obtain ⟨⟨h0, _⟩, e0⟩ := e0
 obtain ⟨⟨s', h', l', t'⟩, ⟨T', b'⟩, es', c'⟩ := r
 simp only [pmi] at e0
 obtain ⟨rfl, rfl⟩ := e0
 obtain ⟨hT', hnx, hm⟩ := seenT_ok hs
 rw [at61_eq] at e1 e2 e3 e4
 refine GoodK.seq hK cAny_ok drAny e1 (GoodK.seq hK cAny_ok drAny e2 (GoodK.seq hK cAny_ok drAny e3 (GoodK.seq hK cAny_ok drAny e4 ?_)))
 rw [trGet_eq] at h0 h6
 refine GoodK.canon (tm := T6 y) (os := talM s' h' l' t' T' b' es' c') (fun i v hi => ?_) hnx hm ?_
 ·simp only [List.mem_cons, List.not_mem_nil, or_false, pmi] at hi
  rcases hi with ⟨rfl, rfl⟩ | ⟨rfl, rfl⟩
  ·exact h0
  ·exact h6
 have e := got4_all s' h' l' t' T' b' es' c' y
 have hw : ∃ r, wantG T' b' es' c' [some pT, some (nQ y), some (.map (some 2)), some (nQ y)] = some r := ⟨_, rfl⟩
 obtain ⟨r, hr⟩ := hw
 rw [hr] at e
 obtain ⟨t5, aw5, e5, h5⟩ := bNn_ok e
 have h5 := h5.trans hr.symm
 simp only [seenG, wantG, sI, pmi, List.cons.injEq, and_true] at h5
 obtain ⟨_, ⟨a0, a6, a31, a32⟩, g0, g1, g2, g3⟩ := h5
 rw [at61_eq] at e5
 have e5 : xitems cAny got4a ⟨tmOf (T6 y) .leaf, 61, []⟩ (ofObjs (talM s' h' l' t' T' b' es' c') 3) = some ⟨.norm, ⟨t5, 61, []⟩, aw5⟩ := e5
 obtain ⟨s2, h2, l2, t2', hm2⟩ := seen_mem g0 g1 g2
 rw [trGet_eq] at a0 a6 a31 a32
 rw [got4_eq]
 refine GoodK.into (GoodK.items (GoodI.pre hK cAny_ok e5 ?_))
 refine GoodI.canon (tm := [(0, pT), (6, nQ y), (31, .map (some 2)), (32, nQ y)]) (os := talM s2 h2 l2 t2' T' b' es' c') (fun i v hi => ?_) g3 hm2 ?_
 ·simp only [List.mem_cons, List.not_mem_nil, or_false, pmi] at hi
  rcases hi with ⟨rfl, rfl⟩ | ⟨rfl, rfl⟩ | ⟨rfl, rfl⟩ | ⟨rfl, rfl⟩
  ·exact a0
  ·exact a6
  ·exact a31
  ·exact a32
 obtain ⟨u, hu⟩ := look_ty (t := tmOf [(0, pT), (6, nQ y), (31, .map (some 2)), (32, nQ y)] .leaf) (aw := ofObjs (talM s2 h2 l2 t2' T' b' es' c') 3) (a := .t 31) (b := .t 32) (q := 2) (k := .u64) (n := y) (es := es') (c := c') (by kernel_rfl) (by kernel_rfl) (by kernel_rfl) he
 refine GoodI.op hK cAny_ok hu (by decide) (GoodI.last ?_)
 rw [got4c_eq]
 refine GoodK.cond (o := .t 33) (u := u) (by kernel_rfl) (fun hu => ?_) (fun hu => ?_)
 ·subst hu
  exact got_ret hK (fun _ _ q => q) hT' he (by rw [← trSet_eq]; exact got4t_all s2 h2 l2 t2' T' b' es' c' y)
 ·subst hu
  refine GoodK.skip hK cAny_ok drAny fun E ca w hE hR hA cd hcd => ?_
  exact (canon6 (t1 := (tmOf [(0, pT), (6, nQ y), (31, .map (some 2)), (32, nQ y)] .leaf).set 33 33 (.bool false)) (aw1 := ofObjs (talM s2 h2 l2 t2' T' b' es' c') 3) (y := y) (T := T') (c := c') (b := b') (es := es') (by kernel_rfl) (by kernel_rfl) (by kernel_rfl) (by kernel_rfl) (by kernel_rfl) rfl fun s h l t => tail5 hT' he) cd hcd E ca w hE hA hR
end
def extG : AO := .gen (.ty [.oneOf tops, .anyB] 267)
theorem fits_cons {t : CT} {ts : List CT} {l : List AV} (h : Fits (t :: ts) l) : ∃ a l', l = a :: l' ∧ t.fit a ∧ Fits ts l' := by
 obtain ⟨h1, h2⟩ := h
 cases l with
 | nil => simp at h1
 | cons a l =>
  obtain ⟨x, hx, hf⟩ := h2 0 t rfl
  injection hx with hx; subst hx
  exact ⟨a, l, rfl, hf, by simpa using h1, fun i t' ht => h2 (i + 1) t' (by simpa using ht)⟩
theorem fits_nil {l : List AV} (h : Fits [] l) : l = [] := List.length_eq_zero_iff.1 h.1
theorem fits_mk {t : CT} {ts : List CT} {a : AV} {l : List AV} (h1 : t.fit a) (h2 : Fits ts l) : Fits (t :: ts) (a :: l) := by
 refine ⟨by simp [h2.1], fun i t' ht => ?_⟩
 cases i with
 | zero => injection ht with ht; subst ht; exact ⟨a, rfl, h1⟩
 | succ i => exact h2.2 i t' (by simpa using ht)
theorem fits_mk0 : Fits [] [] := ⟨rfl, fun i t h => by simp at h⟩
theorem ERel.ty {E E' : Env} {k : IntKind} {es : List AEnt} {l : List MapEntry} (h : TyM k es) (hr : ERel E es l) : ERel E' es l := by
 induction hr with
 | nil => exact .nil
 | cons hk hv hb t ih =>
  rename_i e f l m
  obtain ⟨⟨n, hn⟩, b, hb'⟩ := h e (by simp)
  refine .cons ?_ ?_ hb (ih fun x hx => h x (List.mem_cons_of_mem _ hx))
  ·rw [hn] at hk ⊢; generalize f.key = q at hk ⊢; cases hk; exact .int _ _
  ·rw [hb'] at hv ⊢; generalize f.val = q at hv ⊢; cases hv; exact .bool _
theorem cells_conv {E E' : Env} {L : Loc} {w : World} {l l' : List AV} {e : TypeId} {b : Bool} (hlen : l'.length = l.length) (hv : ∀ (i : Nat) (a a' : AV), l[i]? = some a → l'[i]? = some a' → ∀ v, VRel E a v → VRel E' a' v) (h : ORel E L w (.cells l e b)) : ORel E' L w (.cells l' e b) := by
 obtain ⟨c, fz, h1, h2, h3, h4, h5⟩ := h
 refine ⟨c, fz, h1, h2, by omega, fun hb => by rw [hlen]; exact h4 hb, fun i a' hi => ?_⟩
 have hlt : i < l.length := by rw [← hlen]; exact (lgs.1 hi).1
 obtain ⟨v, hv1, hr⟩ := h5 i l[i] (lge hlt)
 exact ⟨v, hv1, hv i _ a' (lge hlt) hi v hr⟩
theorem ptr_conv {E E' : Env} {a b o : Nat} {L : Loc} (h1 : E.loc[a]? = some L) (h2 : E'.loc[b]? = some L) {v : Value} (h : VRel E (.ptr (some (a, o))) v) : VRel E' (.ptr (some (b, o))) v := by
 cases h with
 | ptr h => rw [h1] at h; injection h with h; subst h; exact .ptr h2
theorem map_conv {E E' : Env} {a b : Nat} {L : Loc} (h1 : E.loc[a]? = some L) (h2 : E'.loc[b]? = some L) {v : Value} (h : VRel E (.map (some a)) v) : VRel E' (.map (some b)) v := by
 cases h with
 | map h hm => rw [h1] at h; injection h with h; subst h; exact .map h2 hm
theorem tal_conv {E E' : Env} {L Le Lm : Loc} {w : World} {p q p' q' : Nat} {s l t : Int} {h : Bool} (h1 : E.loc[p]? = some Le) (h2 : E.loc[q]? = some Lm) (h1' : E'.loc[p']? = some Le) (h2' : E'.loc[q']? = some Lm)
  (ho : ORel E L w (.cells [.ptr (some (p, 0)), .map (some q), .int .u64 s, .bool h, .int .u64 l, .int .u64 t] 199 false)) : ORel E' L w (.cells [.ptr (some (p', 0)), .map (some q'), .int .u64 s, .bool h, .int .u64 l, .int .u64 t] 199 false) := by
 refine cells_conv (l := [.ptr (some (p, 0)), .map (some q), .int .u64 s, .bool h, .int .u64 l, .int .u64 t]) rfl (fun i a a' ha ha' v hv => ?_) ho
 match i, ha, ha' with
 | 0, ha, ha' => injection ha with ha; injection ha' with ha'; subst ha ha'; exact ptr_conv h1 h1' hv
 | 1, ha, ha' => injection ha with ha; injection ha' with ha'; subst ha ha'; exact map_conv h2 h2' hv
 | 2, ha, ha' => injection ha with ha; injection ha' with ha'; subst ha ha'; cases hv; exact .int _ _
 | 3, ha, ha' => injection ha with ha; injection ha' with ha'; subst ha ha'; cases hv; exact .bool _
 | 4, ha, ha' => injection ha with ha; injection ha' with ha'; subst ha ha'; cases hv; exact .int _ _
 | 5, ha, ha' => injection ha with ha; injection ha' with ha'; subst ha ha'; cases hv; exact .int _ _
 | i + 6, ha, _ => cases ha
def isTops (l : List AV) : Bool := List.rec (motive := fun _ => List AV → Bool) (fun l => List.rec (motive := fun _ => Bool) true (fun _ _ _ => false) l) (fun x _ ih l => match l with | .int .u64 (.ofNat y) :: l => bb2 (Nat.beq y x) (ih l) false | _ => false) topsN l
theorem isTops_eq {l : List AV} (h : isTops l = true) : l = tops := by
 have key : ∀ (N : List Nat) (l : List AV), List.rec (motive := fun _ => List AV → Bool) (fun l => List.rec (motive := fun _ => Bool) true (fun _ _ _ => false) l) (fun x _ ih l => match l with | .int .u64 (.ofNat y) :: l => bb2 (Nat.beq y x) (ih l) false | _ => false) N l = true → l = N.map fun n => .int .u64 (.ofNat n) := by
  intro N
  induction N with
  | nil => intro l h; cases l with | nil => rfl | cons a l => cases h
  | cons x N ih =>
   intro l h
   dsimp only at h
   split at h
   ·rename_i y l
    rw [bb2_eq] at h
    cases hy : Nat.beq y x <;> simp only [hy, cond_true, cond_false, Bool.false_eq_true] at h
    have := nbt hy; subst this
    rw [ih l h]; rfl
   ·cases h
 exact key _ _ h
def isExtG (o : Option AO) : Bool := match o with
 | some (.gen (.ty [.oneOf l, .anyB] e)) => bb2 (isTops l) (Nat.beq e (nat_lit 267)) false
 | _ => false
theorem isExtG_ok {o : Option AO} (h : isExtG o = true) : o = some extG := by
 unfold isExtG at h
 split at h <;> (try (cases h; done))
 rename_i l e
 rw [bb2_eq] at h
 cases hl : isTops l <;> simp only [hl, cond_true, cond_false, Bool.false_eq_true] at h
 rw [isTops_eq hl, nbt h]; rfl
def isTymG (o : Option AO) : Bool := match o with
 | some (.gen (.tym .u64)) => true
 | _ => false
theorem isTymG_ok {o : Option AO} (h : isTymG o = true) : o = some (.gen (.tym .u64)) := by
 unfold isTymG at h
 split at h <;> first | rfl | cases h
def g116 (args : List AV) (aw : AW) : Option ARes :=
 match args with
 | [.ptr (some (q, o)), .int .u16 (.ofNat n)] => (match awGet aw q with
  | some (.gen (.ty [.av (.ptr (some (e, p2))), .av (.map (some m)), .anyI .u64, .anyB, .anyI .u64, .anyI .u64] t)) =>
   bb2 (Nat.beq o (nat_lit 0)) (bb2 (Nat.beq p2 (nat_lit 0)) (bb2 (Nat.beq t (nat_lit 199)) (bb2 (Nat.ble (Nat.succ n) (nat_lit 10)) (bb2 (Nat.beq q e) none (bb2 (Nat.beq q m) none (bb2 (Nat.beq e m) none
    (bb2 (isExtG (awGet aw e)) (bb2 (isTymG (awGet aw m)) (some (.ret (.tuple [.undef, .undef]) aw)) none) none)))) none) none) none) none
  | _ => none)
 | _ => none
theorem s116 : ∀ args aw res, g116 args aw = some res → callable Tryz.prog 116 = true ∧ ∀ E w cargs, LRel E args cargs → Rel E aw w →
  Calls Tryz.prog 116 cargs.toArray w fun e w' => ∃ E', E.Le E' ∧ ResRel E' res e w' := by
 intro args aw res h
 refine ⟨by kernel_rfl, fun E w cargs hr hR => ?_⟩
 unfold g116 at h
 split at h <;> (try (cases h; done))
 rename_i q o n
 split at h <;> (try (cases h; done))
 rename_i e p2 m t hq
 simp only [bb2_eq] at h
 cases h1 : Nat.beq o 0 <;> simp only [h1, cond_true, cond_false, reduceCtorEq] at h
 cases h2 : Nat.beq p2 0 <;> simp only [h2, cond_true, cond_false, reduceCtorEq] at h
 cases h3 : Nat.beq t 199 <;> simp only [h3, cond_true, cond_false, reduceCtorEq] at h
 cases h4 : Nat.ble (Nat.succ n) 10 <;> simp only [h4, cond_true, cond_false, reduceCtorEq] at h
 cases h5 : Nat.beq q e <;> simp only [h5, cond_true, cond_false, reduceCtorEq] at h
 cases h6 : Nat.beq q m <;> simp only [h6, cond_true, cond_false, reduceCtorEq] at h
 cases h7 : Nat.beq e m <;> simp only [h7, cond_true, cond_false, reduceCtorEq] at h
 cases h8 : isExtG (awGet aw e) <;> simp only [h8, cond_true, cond_false, reduceCtorEq] at h
 cases h9 : isTymG (awGet aw m) <;> simp only [h9, cond_true, cond_false, reduceCtorEq, sI] at h
 subst h
 have e1 := nbt h1; have e2 := nbt h2; have e3 := nbt h3
 subst e1 e2 e3
 have hn : n < 10 := nbl h4
 have n5 := ne_of_beq h5; have n6 := ne_of_beq h6; have n7 := ne_of_beq h7
 have ge := isExtG_ok h8; have gm := isTymG_ok h9
 rw [awGet_eq] at hq ge gm
 obtain ⟨Lq, hLq, oq⟩ := hR.obj q _ hq
 obtain ⟨Le, hLe, oe⟩ := hR.obj e _ ge
 obtain ⟨Lm, hLm, om⟩ := hR.obj m _ gm
 obtain ⟨lq, fq, oq⟩ := ty_open oq
 obtain ⟨a0, lq0, rfl, f0, fq0⟩ := fits_cons fq
 obtain ⟨a1, lq1, rfl, f1, fq1⟩ := fits_cons fq0
 obtain ⟨a2, lq2, rfl, ⟨s, rfl⟩, fq2⟩ := fits_cons fq1
 obtain ⟨a3, lq3, rfl, ⟨hh, rfl⟩, fq3⟩ := fits_cons fq2
 obtain ⟨a4, lq4, rfl, ⟨l, rfl⟩, fq4⟩ := fits_cons fq3
 obtain ⟨a5, lq5, rfl, ⟨tt, rfl⟩, fq5⟩ := fits_cons fq4
 obtain rfl := fits_nil fq5
 have f0 : a0 = _ := f0
 have f1 : a1 = _ := f1
 subst f0 f1
 obtain ⟨le, fe, oe⟩ := ty_open oe
 obtain ⟨b0, le0, rfl, g0, fe0⟩ := fits_cons fe
 obtain ⟨b1, le1, rfl, ⟨b, rfl⟩, fe1⟩ := fits_cons fe0
 obtain rfl := fits_nil fe1
 obtain ⟨T, hT, rfl⟩ := List.mem_map.1 (show b0 ∈ tops from g0)
 obtain ⟨es, c, hes, om⟩ := tym_open om
 have hS : SubM E aw [q, e, m] [Lq, Le, Lm] := by
  refine ⟨rfl, by simp [n5, n6, n7], fun i id hi => ?_⟩
  match i, hi with
  | 0, hi => injection hi with hi; subst hi; exact ⟨_, Lq, hq, rfl, hLq, rfl⟩
  | 1, hi => injection hi with hi; subst hi; exact ⟨_, Le, ge, rfl, hLe, rfl⟩
  | 2, hi => injection hi with hi; subst hi; exact ⟨_, Lm, gm, rfl, hLm, rfl⟩
  | i + 3, hi => cases hi
 have hR0 : Rel (subE E w [Lq, Le, Lm]) (ofObjs (talM s hh l tt T b es c) 3) w := by
  refine sub_rel hR hS (os := talM s hh l tt T b es c) rfl fun i x hi => ?_
  match i, hi with
  | 0, hi => injection hi with hi; subst hi; exact ⟨Lq, rfl, tal_conv hLe hLm rfl rfl oq⟩
  | 1, hi => injection hi with hi; subst hi; exact ⟨Le, rfl, ORel.plain (by rfl) oe⟩
  | 2, hi =>
   injection hi with hi; subst hi
   obtain ⟨m1, m2, m3, m4⟩ := om
   exact ⟨Lm, rfl, m1, m2, m3, ERel.ty hes m4⟩
  | i + 3, hi => cases hi
 cases hr with
 | cons r1 t1 =>
  cases t1 with
  | cons r2 t2 =>
   cases t2
   cases r2
   have r1' : VRel (subE E w [Lq, Le, Lm]) pT _ := ptr_conv hLq rfl r1
   rename_i v0
   obtain ⟨cd, hbody, hc⟩ := got_code
   refine calls_of_wp Tryz.func116 hbody ?_
   have hinit := init_rel (E := subE E w [Lq, Le, Lm]) (args := [pT, .int .u16 (.ofNat n)]) (cargs := [v0, .int .u16 (.ofNat n)]) (n := 61) (.cons r1' (.cons (.int _ _) .nil)) (show 2 ≤ 61 by omega)
   have hA : ActRel (subE E w [Lq, Le, Lm]) ⟨tmOf [(0, pT), (1, .int .u16 (.ofNat n))] .leaf, 61, []⟩ { tmps := #[v0, .int .u16 (.ofNat n)] ++ Array.replicate (Tryz.f116.ntmps - (#[v0, .int .u16 (.ofNat n)] : Array Value).size) undef, defers := [] } := by
    refine ⟨?_, fun t v hv => ?_, .nil⟩
    ·rw [Tryz.ntmps116]; simp
    ·have e : tmOf [(0, pT), (1, .int .u16 (.ofNat n))] .leaf = slots [pT, .int .u16 (.ofNat n)] 0 .leaf := by kernel_rfl
     rw [e] at hv
     rw [Tryz.ntmps116]
     exact hinit.tmps t v hv
   have hgood := got_good (K := fun E1 => (subE E w [Lq, Le, Lm]).Le E1) (fun _ _ h1 h2 => h1.trans h2) (s := s) (l := l) (t := tt) (h := hh) (b := b) (c := c) hT hn hes
   refine wp_mono (hgood cd hc _ _ w (.refl _) hA hR0) fun en a w' ⟨q1, q2, ⟨v4, q3⟩, ⟨v5, q4⟩, E1, hle, s', h', l', t', T', b', es', c', hT', hes', hR1⟩ => ?_
   subst q1
   refine ⟨q2, .tuple #[v4, v5], ?_, ?_⟩
   ·have i4 : a.tmps.getD 4 undef = v4 := by simp [Array.getD_eq_getD_getElem?, q3]
    have i5 : a.tmps.getD 5 undef = v5 := by simp [Array.getD_eq_getD_getElem?, q4]
    rw [← i4, ← i5]
    exact results_tmp2 (t := 4) (u := 5) rfl _ _ _
   ·have hlive : ∀ i, i < [Lq, Le, Lm].length → ∃ o, (ofObjs (talM s' h' l' t' T' b' es' c') 3).get i = some o ∧ o.live = true := fun i hi => by
     rw [ofObjs_get]
     match i, hi with
     | 0, _ => exact ⟨_, rfl, rfl⟩
     | 1, _ => exact ⟨_, rfl, rfl⟩
     | 2, _ => exact ⟨_, rfl, rfl⟩
    obtain ⟨hleE, hback⟩ := sub_back hR hS hle hR1 hlive
    have l0 : E1.loc[0]? = some Lq := hle.loc (i := 0) rfl
    have l1 : E1.loc[1]? = some Le := hle.loc (i := 1) rfl
    have l2 : E1.loc[2]? = some Lm := hle.loc (i := 2) rfl
    have o0 : ORel E1 Lq w' (talO s' h' l' t') := by
     obtain ⟨L, hL, ho⟩ := hR1.obj 0 _ (by rw [ofObjs_get]; rfl)
     rw [l0] at hL; injection hL with hL; subst hL; exact ho
    have o1 : ORel E1 Le w' (extO T' b') := by
     obtain ⟨L, hL, ho⟩ := hR1.obj 1 _ (by rw [ofObjs_get]; rfl)
     rw [l1] at hL; injection hL with hL; subst hL; exact ho
    have o2 : ORel E1 Lm w' (.map es' c') := by
     obtain ⟨L, hL, ho⟩ := hR1.obj 2 _ (by rw [ofObjs_get]; rfl)
     rw [l2] at hL; injection hL with hL; subst hL; exact ho
    refine ⟨_, hleE, hback aw rfl fun j x hj => ?_, .tuple (.cons (.undef _) (.cons (.undef _) .nil))⟩
    by_cases jq : j = q
    ·subst jq
     rw [hq] at hj; injection hj with hj; subst hj
     exact .inl ⟨0, Lq, rfl, rfl, ty_shut (fits_mk rfl (fits_mk rfl (fits_mk ⟨_, rfl⟩ (fits_mk ⟨_, rfl⟩ (fits_mk ⟨_, rfl⟩ (fits_mk ⟨_, rfl⟩ fits_mk0)))))) (tal_conv l1 l2 hLe hLm o0)⟩
    by_cases je : j = e
    ·subst je
     rw [ge] at hj; injection hj with hj; subst hj
     exact .inl ⟨1, Le, rfl, rfl, ty_shut (fits_mk (List.mem_map.2 ⟨T', hT', rfl⟩) (fits_mk ⟨_, rfl⟩ fits_mk0)) (ORel.plain (by rfl) o1)⟩
    by_cases jm : j = m
    ·subst jm
     rw [gm] at hj; injection hj with hj; subst hj
     exact .inl ⟨2, Lm, rfl, rfl, (tym_shut hes' o2 : ORel E1 Lm w' (.gen (.tym .u64)))⟩
    ·exact .inr ⟨by simp [jq, je, jm], hj⟩
theorem lrel_nil {E E' : Env} {m : List Value} (h : LRel E [] m) : LRel E' [] m := by cases h; exact .nil
def isJit (aw : AW) : Bool := match awGet aw (nat_lit 0) with
 | some (.cells [.int .u16 _, .bool _, .int .i64 _] e false) => bb2 (Nat.beq e (nat_lit 201)) (Nat.beq aw.nx (nat_lit 1)) false
 | _ => false
def jitRun (a : Int) (b : Bool) (s st now : Int) : Bool := match cAny 117 [pT, .int .u16 st, .int .i64 now] (ofObjs [.cells [.int .u16 a, .bool b, .int .i64 s] 201 false] (nat_lit 1)) with
 | some (.ret (.tuple []) aw) => isJit aw
 | _ => false
theorem jit_all (b : Bool) : ∀ (a s st now : Int), jitRun a b s st now = true := by
 cases b <;> (intro a s st now; kernel_rfl)
def g117 (args : List AV) (aw : AW) : Option ARes :=
 match args with
 | [.ptr (some (q, o)), .int .u16 _, .int .i64 _] => (match awGet aw q with
  | some (.gen (.ty [.anyI .u16, .anyB, .anyI .i64] t)) => bb2 (Nat.beq o (nat_lit 0)) (bb2 (Nat.beq t (nat_lit 201)) (some (.ret (.tuple []) aw)) none) none
  | _ => none)
 | _ => none
theorem s117 : ∀ args aw res, g117 args aw = some res → callable Tryz.prog 117 = true ∧ ∀ E w cargs, LRel E args cargs → Rel E aw w →
  Calls Tryz.prog 117 cargs.toArray w fun e w' => ∃ E', E.Le E' ∧ ResRel E' res e w' := by
 intro args aw res h
 refine ⟨by kernel_rfl, fun E w cargs hr hR => ?_⟩
 unfold g117 at h
 split at h <;> (try (cases h; done))
 rename_i q o st now
 split at h <;> (try (cases h; done))
 rename_i t hq
 simp only [bb2_eq] at h
 cases h1 : Nat.beq o 0 <;> simp only [h1, cond_true, cond_false, reduceCtorEq] at h
 cases h3 : Nat.beq t 201 <;> simp only [h3, cond_true, cond_false, reduceCtorEq, sI] at h
 subst h
 have e1 := nbt h1; have e3 := nbt h3
 subst e1 e3
 rw [awGet_eq] at hq
 obtain ⟨Lq, hLq, oq⟩ := hR.obj q _ hq
 obtain ⟨lq, fq, oq⟩ := ty_open oq
 obtain ⟨a0, lq0, rfl, ⟨a, rfl⟩, fq0⟩ := fits_cons fq
 obtain ⟨a1, lq1, rfl, ⟨b, rfl⟩, fq1⟩ := fits_cons fq0
 obtain ⟨a2, lq2, rfl, ⟨s, rfl⟩, fq2⟩ := fits_cons fq1
 obtain rfl := fits_nil fq2
 have hS : SubM E aw [q] [Lq] := by
  refine ⟨rfl, by simp, fun i id hi => ?_⟩
  match i, hi with
  | 0, hi => injection hi with hi; subst hi; exact ⟨_, Lq, hq, rfl, hLq, rfl⟩
  | i + 1, hi => cases hi
 have hR0 : Rel (subE E w [Lq]) (ofObjs [.cells [.int .u16 a, .bool b, .int .i64 s] 201 false] 1) w := by
  refine sub_rel hR hS (os := [.cells [.int .u16 a, .bool b, .int .i64 s] 201 false]) rfl fun i x hi => ?_
  match i, hi with
  | 0, hi => injection hi with hi; subst hi; exact ⟨Lq, rfl, ORel.plain (by rfl) oq⟩
  | i + 1, hi => cases hi
 have hrun := jit_all b a s st now
 unfold jitRun at hrun
 split at hrun <;> (try (cases hrun; done))
 rename_i aw1 hcall
 unfold isJit at hrun
 split at hrun <;> (try (cases hrun; done))
 rename_i a' b' s' e' hg
 rw [bb2_eq] at hrun
 cases h4 : Nat.beq e' 201 <;> simp only [h4, cond_true, cond_false, Bool.false_eq_true] at hrun
 have e4 := nbt h4
 subst e4
 rw [awGet_eq] at hg
 cases hr with
 | cons r1 t1 =>
  have r1' : VRel (subE E w [Lq]) pT _ := ptr_conv hLq rfl r1
  cases t1 with
  | cons r2 t2 =>
   cases r2
   cases t2 with
   | cons r3 t3 =>
    cases r3
    cases t3
    refine ((cAny_ok _ _ _ _ hcall).2 _ w _ (.cons r1' (.cons (.int _ _) (.cons (.int _ _) .nil))) hR0).mono fun en w' ⟨E1, hle, hres⟩ => ?_
    cases en with
    | panicked ch => exact hres.elim
    | outgrown => exact hres.elim
    | returned cv =>
     obtain ⟨hR1, hv⟩ := hres
     have hlive : ∀ i, i < [Lq].length → ∃ o, aw1.get i = some o ∧ o.live = true := fun i hi => by
      match i, hi with
      | 0, _ => exact ⟨_, hg, rfl⟩
     obtain ⟨hleE, hback⟩ := sub_back hR hS hle hR1 hlive
     have l0 : E1.loc[0]? = some Lq := hle.loc (i := 0) rfl
     have o0 : ORel E1 Lq w' (.cells [.int .u16 a', .bool b', .int .i64 s'] 201 false) := by
      obtain ⟨L, hL, ho⟩ := hR1.obj 0 _ hg
      rw [l0] at hL; injection hL with hL; subst hL; exact ho
     cases hv with
     | tuple hv =>
      refine ⟨_, hleE, hback aw rfl fun j x hj => ?_, .tuple (lrel_nil hv)⟩
      by_cases jq : j = q
      ·subst jq
       rw [hq] at hj; injection hj with hj; subst hj
       exact .inl ⟨0, Lq, rfl, rfl, ty_shut (fits_mk ⟨_, rfl⟩ (fits_mk ⟨_, rfl⟩ (fits_mk ⟨_, rfl⟩ fits_mk0))) (ORel.plain (by rfl) o0)⟩
      ·exact .inr ⟨by simp [jq], hj⟩
def mixE (E : Env) (w : World) (live rest : List Loc) : Env := ⟨live ++ rest, E.sym, fun _ => none, fun b => match E.tk b with | some t => some t | none => if ∃ L ∈ live, L.block = b then none else (w.heap[b]?).map Tok.ob⟩
structure MixK (E : Env) (w : World) (live rest : List Loc) (E1 : Env) : Prop where
 sym : E1.sym = E.sym
 tk : ∀ b x, (mixE E w live rest).tk b = some x → E1.tk b = some x
 loc : ∀ (i : Nat) (L : Loc), (live ++ rest)[i]? = some L → E1.loc[i]? = some L
section
variable {E E1 : Env} {aw aw1 : AW} {w w' : World} {ids : List Nat} {live rest : List Loc}
theorem MixK.of_le (hle : (mixE E w live rest).Le E1) : MixK E w live rest E1 := ⟨hle.2.1, fun b x h => hle.2.2.2 b x h, fun i L h => hle.loc h⟩
theorem MixK.refl (E : Env) (w : World) (live rest : List Loc) : MixK E w live rest (mixE E w live rest) := ⟨rfl, fun _ _ h => h, fun _ _ h => h⟩
theorem MixK.le {E2 : Env} (h : MixK E w live rest E1) (hle : E1.Le E2) : MixK E w live rest E2 := ⟨hle.2.1.trans h.sym, fun b x hb => hle.2.2.2 b x (h.tk b x hb), fun i L hL => hle.loc (h.loc i L hL)⟩
theorem SubM.tk_none (hR : Rel E aw w) (hS : SubM E aw ids live) {L : Loc} (hL : L ∈ live) : E.tk L.block = none := by
 obtain ⟨i, hi, rfl⟩ := List.mem_iff_getElem.1 hL
 obtain ⟨id, o, h1, h2, h3, h4⟩ := hS.of_loc (i := i) (lge hi)
 exact hR.tok.2 id o _ h2 h3 h4
theorem mixE_tok (hR : Rel E aw w) : ∀ b x, (mixE E w live rest).tk b = some x → TokAt w b x := fun b x hb => by
 simp only [mixE] at hb
 cases ht : E.tk b with
 | some t => rw [ht] at hb; simp only [sI] at hb; subst hb; exact (hR.tok.1 b t ht).1
 | none =>
  rw [ht] at hb
  simp only at hb
  split at hb
  ·cases hb
  ·simp only [Option.map_eq_some_iff] at hb
   obtain ⟨o, ho, rfl⟩ := hb
   exact ho
theorem mixE_ob (hR : Rel E aw w) {b : Nat} {o : Obj} (h1 : ∀ L ∈ live, L.block ≠ b) (h2 : E.tk b = none) (h3 : w.heap[b]? = some o) : (mixE E w live rest).tk b = some (.ob o) := by
 simp only [mixE, h2]
 rw [if_neg (fun ⟨L, hL, e⟩ => h1 L hL e), h3]; rfl
theorem mix_rel (hR : Rel E aw w) (hS : SubM E aw ids live) {os os2 : List AO} (hl : os.length = live.length) (hl2 : os2.length = rest.length) (hd : ∀ (k : Nat) (o : AO), os2[k]? = some o → o.live = false)
  (ho : ∀ (i : Nat) (o : AO), (os ++ os2)[i]? = some o → ∃ L, (live ++ rest)[i]? = some L ∧ ORel (mixE E w live rest) L w o) : Rel (mixE E w live rest) (ofObjs (os ++ os2) (os ++ os2).length) w := by
 have lv : ∀ {i : Nat} {x : AO}, (os ++ os2)[i]? = some x → x.live = true → i < live.length := fun {i x} hi hx => by
  by_cases h : i < os.length
  ·omega
  ·rw [lar (by omega)] at hi
   rw [hd _ x hi] at hx; cases hx
 have lc : ∀ {i : Nat} {L : Loc}, i < live.length → (live ++ rest)[i]? = some L → live[i]? = some L := fun {i L} h h2 => by rwa [lal h] at h2
 refine ⟨by show (os ++ os2).length = (live ++ rest).length; simp [hl, hl2], hR.ns, fun j x hj => ?_, fun i j oi oj Li Lj hi hj li lj ei ej e => ?_, fun b ob hb => (by cases hb), fun i oi Li hi li ei => rfl, ⟨fun b x hb => ⟨mixE_tok hR b x hb, rfl⟩, fun i oi Li hi li ei => ?_⟩⟩
 ·rw [ofObjs_get] at hj; exact ho j x hj
 ·rw [ofObjs_get] at hi hj
  have ei := lc (lv hi li) ei
  have ej := lc (lv hj lj) ej
  obtain ⟨id, o, h1, h2, h3, h4⟩ := hS.of_loc (i := i) ei
  obtain ⟨id', o', h1', h2', h3', h4'⟩ := hS.of_loc (i := j) ej
  have := hR.inj id id' o o' Li Lj h2 h2' h3 h3' h4 h4' e
  subst this
  have hi := (lgs.1 h1).1
  have hj := (lgs.1 h1').1
  exact (List.getElem_inj (h₀ := hi) (h₁ := hj) hS.nd).1 ((lgs.1 h1).2.trans (lgs.1 h1').2.symm)
 ·rw [ofObjs_get] at hi
  have ei := lc (lv hi li) ei
  have hm := List.mem_of_getElem? ei
  simp only [mixE, hS.tk_none hR hm]
  rw [if_pos ⟨Li, hm, rfl⟩]
theorem mix_keep (hR : Rel E aw w) (hle : MixK E w live rest E1) (h : Rel E1 aw1 w') {b : Nat} (h1 : ∀ L ∈ live, L.block ≠ b) (h2 : E.tk b = none) (hlt : b < w.heap.size) : w'.heap[b]? = w.heap[b]? := by
 have ht := mixE_ob (rest := rest) hR h1 h2 (age hlt)
 have h3 : w'.heap[b]? = some w.heap[b] := (h.tok.1 b _ (hle.tk b _ ht)).1
 rw [h3, age hlt]
theorem mix_back (hR : Rel E aw w) (hS : SubM E aw ids live) (hle : MixK E w live rest E1) (h : Rel E1 aw1 w') {aw' : AW} (hnx : aw'.nx = aw.nx)
  (hget : ∀ (j : Nat) (x : AO), aw'.get j = some x → (∃ (i : Nat) (L : Loc), ids[i]? = some j ∧ live[i]? = some L ∧ ORel E L w' x) ∨ (j ∉ ids ∧ aw.get j = some x)) : Rel E aw' w' := by
 have old : ∀ {j x}, aw'.get j = some x → x.live = true → ∃ o, aw.get j = some o ∧ o.live = true := fun {j x} hj hx => by
  rcases hget j x hj with ⟨i, L, h1, h2, _⟩ | ⟨_, h2⟩
  ·obtain ⟨o, _, g1, g2, _⟩ := hS.here i j h1
   exact ⟨o, g1, g2⟩
  ·exact ⟨x, h2, hx⟩
 refine ⟨hnx.trans hR.nx, hle.sym ▸ h.ns, fun j x hj => ?_, fun i j oi oj Li Lj hi hj li lj ei ej e => ?_, fun b ob hb => ?_, fun i oi Li hi li ei => ?_, ⟨fun b x hb => ⟨?_, (hR.tok.1 b x hb).2⟩, fun i oi Li hi li ei => ?_⟩⟩
 ·rcases hget j x hj with ⟨i, L, h1, h2, h3⟩ | ⟨hn, h2⟩
  ·obtain ⟨o, L', _, _, g3, g4⟩ := hS.here i j h1
   rw [h2] at g4; injection g4 with g4; subst g4
   exact ⟨L, g3, h3⟩
  ·obtain ⟨L, hL, hr⟩ := hR.obj j x h2
   refine ⟨L, hL, ?_⟩
   cases hx : x.live with
   | false => cases x <;> first | trivial | exact hr | simp [AO.live] at hx
   | true => exact hr.heap (mix_keep hR hle h (hS.apart hR h2 hx hL hn) (hR.tok.2 j x L h2 hx hL) (hr.lt hx))
 ·obtain ⟨o, g1, g2⟩ := old hi li
  obtain ⟨o', g1', g2'⟩ := old hj lj
  exact hR.inj i j o o' Li Lj g1 g1' g2 g2' ei ej e
 ·have hb' := hR.frame b ob hb
  have htk : E.tk b = none := by
   cases ht : E.tk b with
   | none => rfl
   | some t => rw [(hR.tok.1 b t ht).2] at hb; cases hb
  rw [mix_keep hR hle h (fun L hL e => ?_) htk (agz.1 hb').1]
  ·exact hb'
  ·obtain ⟨i, hi, rfl⟩ := List.mem_iff_getElem.1 hL
   obtain ⟨id, o, h1, h2, h3, h4⟩ := hS.of_loc (i := i) (lge hi)
   have := hR.apart id o _ h2 h3 h4
   rw [e, hb] at this; cases this
 ·obtain ⟨o, g1, g2⟩ := old hi li
  exact hR.apart i o Li g1 g2 ei
 ·refine (h.tok.1 b x (hle.tk b x ?_)).1
  simp only [mixE, hb]
 ·obtain ⟨o, g1, g2⟩ := old hi li
  exact hR.tok.2 i o Li g1 g2 ei
theorem mix_new (hR : Rel E aw w) (hS : SubM E aw ids live) (hle : MixK E w live rest E1) (h : Rel E1 aw1 w') (hlive : ∀ i, i < live.length → ∃ o, aw1.get i = some o ∧ o.live = true) {k : Nat} {o1 : AO} {L1 : Loc} (h1 : aw1.get k = some o1) (l1 : o1.live = true) (hk : live.length ≤ k) (hL1 : E1.loc[k]? = some L1) :
  w.heap[L1.block]? = none ∧ E.fr L1.block = none ∧ E.tk L1.block = none := by
 have hne : ∀ L ∈ live, L.block ≠ L1.block := fun L hL e => by
  obtain ⟨i, hi, rfl⟩ := List.mem_iff_getElem.1 hL
  obtain ⟨o, g1, g2⟩ := hlive i hi
  have hLi : (live ++ rest)[i]? = some live[i] := by
   rw [lal hi, lge hi]
  have := h.inj i k o o1 _ L1 g1 h1 g2 l1 (hle.loc _ _ hLi) hL1 e
  omega
 have ht := h.tok.2 k o1 L1 h1 l1 hL1
 have htk : E.tk L1.block = none := by
  cases hq : E.tk L1.block with
  | none => rfl
  | some t =>
   have : (mixE E w live rest).tk L1.block = some t := by simp only [mixE, hq]
   rw [hle.tk _ _ this] at ht; cases ht
 have hno : w.heap[L1.block]? = none := by
  cases hq : w.heap[L1.block]? with
  | none => rfl
  | some o =>
   rw [hle.tk _ _ (mixE_ob (rest := rest) hR hne htk hq)] at ht; cases ht
 refine ⟨hno, ?_, htk⟩
 cases hq : E.fr L1.block with
 | none => rfl
 | some ob => have := hR.frame _ _ hq; rw [hno] at this; cases this
theorem mix_rom (hR : Rel E aw w) {id : Nat} {l l' : List AV} {e : TypeId} {b : Bool} (hg : aw.get id = some (.cells l e b)) {L : Loc} (hL : E.loc[id]? = some L) (hn : ∀ L' ∈ live, L'.block ≠ L.block) (hlen : l'.length ≤ l.length)
  (hv : ∀ (i : Nat) (a' : AV), l'[i]? = some a' → ∀ (a : AV) v, l[i]? = some a → VRel E a v → VRel (mixE E w live rest) a' v) : ORel (mixE E w live rest) L w (.rom l' e) := by
 obtain ⟨L', hL', c, fz, ⟨h1, h1'⟩, h2, h3, h4, h5⟩ := hR.obj id _ hg
 rw [hL] at hL'; injection hL' with hL'; subst hL'
 refine .inl ⟨c, fz, ⟨e, mixE_ob hR hn (hR.tok.2 id _ L hg rfl hL) h1⟩, h2, by omega, fun i a hi => ?_⟩
 have hlt := (lgs.1 hi).1
 obtain ⟨v, hv1, hr⟩ := h5 i (l[i]'(by omega)) (lge _)
 exact ⟨v, hv1, hv i a hi _ v (lge _) hr⟩
end
def LineLoc (E : Env) (len k i : Nat) (L : Loc) : Prop := ∃ (c : Array Value) (fz : Nat × Nat), E.tk L.block = some (.ob (.cells c 5 fz)) ∧ c.size = L.total ∧ L.base + (k + 2) ≤ L.total ∧ ∀ (j : Nat) (a : AV), (lineL len k i)[j]? = some a → ∃ x, c[L.base + j]? = some x ∧ VRel E a x
theorem lineL_len (len k i : Nat) : (lineL len k i).length = k + 2 := by simp [lineL]
theorem line_scal {len k i j : Nat} {a : AV} (h : (lineL len k i)[j]? = some a) : (∃ n, a = .int .u8 n) ∨ ∃ q, a = .sym .u8 q := by
 have hm := List.mem_of_getElem? h
 unfold lineL at hm
 rcases List.mem_append.1 hm with hm | hm
 ·obtain ⟨x, _, rfl⟩ := List.mem_map.1 hm
  exact .inl ⟨_, rfl⟩
 ·have hd : ∀ q, (∃ n, dataB len q = .int .u8 n) ∨ ∃ r, dataB len q = .sym .u8 r := fun q => by
   unfold dataB
   cases Nat.blt q len with
   | true => exact .inr ⟨_, rfl⟩
   | false => exact .inl ⟨_, rfl⟩
  simp only [List.mem_cons, List.not_mem_nil, or_false] at hm
  rcases hm with rfl | rfl <;> exact hd _
theorem VRel.line {E E' : Env} (hs : E'.sym = E.sym) {len k i j : Nat} {a : AV} (h : (lineL len k i)[j]? = some a) {v : Value} (hv : VRel E a v) : VRel E' a v := by
 rcases line_scal h with ⟨n, rfl⟩ | ⟨q, rfl⟩
 ·cases hv; exact .int _ _
 ·cases hv with
  | sym _ h1 h2 => exact .sym _ (hs ▸ h1) h2
theorem LineLoc.mono {E E' : Env} (hs : E'.sym = E.sym) (ht : ∀ b o, E.tk b = some o → E'.tk b = some o) {len k i : Nat} {L : Loc} : LineLoc E len k i L → LineLoc E' len k i L
 | ⟨c, fz, h1, h2, h3, h4⟩ => ⟨c, fz, ht _ _ h1, h2, h3, fun j a ha => let ⟨x, hx, hr⟩ := h4 j a ha; ⟨x, hx, hr.line hs ha⟩⟩
theorem LineLoc.rom {E : Env} {len k i : Nat} {L : Loc} {w : World} (h : LineLoc E len k i L) : ORel E L w (.rom (lineL len k i) 5) := by
 obtain ⟨c, fz, h1, h2, h3, h4⟩ := h
 exact .inl ⟨c, fz, ⟨5, h1⟩, h2, by rw [lineL_len, h2]; exact h3, h4⟩
def linEs (k : Nat) (idf : Nat → Nat) (T : List (Nat × Nat × Loc)) : List AEnt := T.map fun x => ⟨.int .i64 (.ofNat x.1), .slc (some (idf x.1, 0)) (k + 2) (.upto 1 (k + 2)), x.2.1⟩
structure LinT (E : Env) (len k n : Nat) (β : Nat → Bool) (T : List (Nat × Nat × Loc)) (clock : Nat) : Prop where
 num : T.length = n
 all : ∀ x ∈ T, x.1 < k ∧ β x.1 = true ∧ LineLoc E len k x.1 x.2.2
 has : ∀ i, i < k → β i = true → ∃ x ∈ T, x.1 = i
 old : ∀ x ∈ T, x.2.1 < clock
 borns : (T.map (·.2.1)).Nodup
 keys : (T.map (·.1)).Nodup
theorem linEs_len (k : Nat) (idf : Nat → Nat) (T : List (Nat × Nat × Loc)) : (linEs k idf T).length = T.length := by simp [linEs]
theorem LinT.locs {E : Env} {len k n : Nat} {β : Nat → Bool} {T : List (Nat × Nat × Loc)} {clock : Nat} (hT : LinT E len k n β T clock) (L0 : Loc) : ∃ LL : Nat → Loc, ∀ x ∈ T, LL x.1 = x.2.2 := by
 refine ⟨fun i => match T.find? (fun x => x.1 == i) with | some x => x.2.2 | none => L0, fun x hx => ?_⟩
 have hf : (T.find? (fun y => y.1 == x.1)).isSome = true := by rw [List.find?_isSome]; exact ⟨x, hx, by simp⟩
 obtain ⟨y, hy⟩ := Option.isSome_iff_exists.1 hf
 have hym := List.mem_of_find?_eq_some hy
 have hyk : y.1 = x.1 := by have := List.find?_some hy; simpa using this
 have : y = x := by
  obtain ⟨i, hi, rfl⟩ := List.mem_iff_getElem.1 hx
  obtain ⟨j, hj, rfl⟩ := List.mem_iff_getElem.1 hym
  have := (List.getElem_inj (xs := T.map (·.1)) (h₀ := by simpa using hj) (h₁ := by simpa using hi) hT.keys).1 (by simpa using hyk)
  subst this; rfl
 subst this
 simp only [hy]
theorem lin_open {E : Env} {L : Loc} {w : World} {len k n : Nat} {β : Nat → Bool} (h : ORel E L w (.gen (.lin len k n β))) : ∃ T clock, LinT E len k n β T clock ∧
  ∀ (E' : Env) (idf : Nat → Nat), (∀ x ∈ T, E'.loc[idf x.1]? = some x.2.2) → ORel E' L w (.map (linEs k idf T) clock) := by
 obtain ⟨h0, ces, clock, h1, h2, h3, h4, h5, h6, h7⟩ := h
 have key : ∀ l : List MapEntry, (∀ f ∈ l, ∃ i, i < k ∧ β i = true ∧ f.key = .int .i64 (.ofNat i) ∧ LineAt E len k i f.val) → ∃ T : List (Nat × Nat × Loc), T.length = l.length ∧ (∀ x ∈ T, x.1 < k ∧ β x.1 = true ∧ LineLoc E len k x.1 x.2.2) ∧
   T.map (·.2.1) = l.map (·.born) ∧ T.map (fun x => Value.int .i64 (.ofNat x.1)) = l.map (·.key) ∧ ∀ (E' : Env) (idf : Nat → Nat), (∀ x ∈ T, E'.loc[idf x.1]? = some x.2.2) → ERel E' (linEs k idf T) l := by
  intro l
  induction l with
  | nil => exact fun _ => ⟨[], rfl, fun x hx => (by cases hx), rfl, rfl, fun _ _ _ => .nil⟩
  | cons f l ih =>
   intro hl
   obtain ⟨T, t1, t2, t3, t4, t5⟩ := ih fun g hg => hl g (List.mem_cons_of_mem _ hg)
   obtain ⟨i, i1, i2, i3, b, o, cap, c, fz, a1, a2, a3, a4, a5⟩ := hl f (by simp)
   refine ⟨(i, f.born, ⟨b, o, c.size⟩) :: T, by simp [t1], fun x hx => ?_, by simp [t3], by rw [List.map_cons, List.map_cons, t4, i3], fun E' idf hE' => ?_⟩
   ·rcases List.mem_cons.1 hx with rfl | hx
    ·exact ⟨i1, i2, c, fz, a4, rfl, by show o + (k + 2) ≤ c.size; omega, a5⟩
    ·exact t2 x hx
   ·refine .cons (by rw [i3]; exact .int _ _) ?_ rfl (t5 E' idf fun x hx => hE' x (List.mem_cons_of_mem _ hx))
    rw [a1]
    exact .slcUp (L := ⟨b, o, c.size⟩) (hE' (i, f.born, ⟨b, o, c.size⟩) (by simp)) a2 a2 (.inr ⟨rfl, by simp; omega⟩)
 obtain ⟨T, t1, t2, t3, t4, t5⟩ := key ces.toList h3
 refine ⟨T, clock, ⟨by rw [t1]; simpa using h2, t2, fun i hi hb => ?_, fun x hx => ?_, by rw [t3]; exact h6, ?_⟩, fun E' idf hE' => ⟨h0, ces, h1, t5 E' idf hE'⟩⟩
 ·obtain ⟨f, hf, hk⟩ := h4 i hi hb
  have : Value.int .i64 (.ofNat i) ∈ T.map (fun x => Value.int .i64 (.ofNat x.1)) := by rw [t4]; exact List.mem_map.2 ⟨f, hf, hk⟩
  obtain ⟨x, hx, e⟩ := List.mem_map.1 this
  refine ⟨x, hx, ?_⟩
  injection e with _ e; injection e
 ·have : x.2.1 ∈ ces.toList.map (·.born) := by rw [← t3]; exact List.mem_map.2 ⟨x, hx, rfl⟩
  obtain ⟨f, hf, e⟩ := List.mem_map.1 this
  rw [← e]; exact h5 f hf
 ·have := h7
  rw [← t4] at this
  have e : T.map (fun x => Value.int .i64 (.ofNat x.1)) = (T.map (·.1)).map fun i => Value.int .i64 (.ofNat i) := by simp
  rw [e] at this
  exact List.Pairwise.of_map _ (fun a b hab e => hab (by rw [e])) this
theorem lin_shut {E E' : Env} {L : Loc} {w : World} {len k n : Nat} {β : Nat → Bool} {T : List (Nat × Nat × Loc)} {clock : Nat} {idf : Nat → Nat} (hT : LinT E len k n β T clock) (hE' : ∀ x ∈ T, E'.loc[idf x.1]? = some x.2.2)
  (h : ORel E' L w (.map (linEs k idf T) clock)) : ORel E L w (.gen (.lin len k n β)) := by
 obtain ⟨h0, ces, h1, h2⟩ := h
 have key : ∀ (T : List (Nat × Nat × Loc)) (l : List MapEntry), ERel E' (linEs k idf T) l → (∀ x ∈ T, E'.loc[idf x.1]? = some x.2.2) → (∀ x ∈ T, LineLoc E len k x.1 x.2.2) →
   l.map (·.born) = T.map (·.2.1) ∧ l.map (·.key) = T.map (fun x => Value.int .i64 (.ofNat x.1)) ∧ ∀ f ∈ l, ∃ x ∈ T, f.key = .int .i64 (.ofNat x.1) ∧ LineAt E len k x.1 f.val := by
  intro T
  induction T with
  | nil => intro l hr _ _; cases hr; exact ⟨rfl, rfl, fun f hf => (by cases hf)⟩
  | cons x T ih =>
   intro l hr hE' hL
   have hr : ERel E' (⟨.int .i64 (.ofNat x.1), .slc (some (idf x.1, 0)) (k + 2) (.upto 1 (k + 2)), x.2.1⟩ :: linEs k idf T) l := hr
   cases hr with
   | cons hk hv hb t =>
    rename_i f l
    obtain ⟨i1, i2, i3⟩ := ih l t (fun y hy => hE' y (List.mem_cons_of_mem _ hy)) fun y hy => hL y (List.mem_cons_of_mem _ hy)
    have hkey : f.key = .int .i64 (.ofNat x.1) := by
     generalize f.key = z at hk; cases hk; rfl
    refine ⟨by simp [i1, ← hb], by rw [List.map_cons, List.map_cons, i2, hkey], fun g hg => ?_⟩
    rcases List.mem_cons.1 hg with rfl | hg
    ·refine ⟨x, by simp, hkey, ?_⟩
     obtain ⟨c, fz, c1, c2, c3, c4⟩ := hL x (by simp)
     generalize g.val = v at hv
     cases hv with
     | slcUp hL2 p1 p2 p3 =>
      rename_i a cap L2
      have := hE' x (by simp)
      rw [hL2] at this; injection this with this; subst this
      rcases p3 with p3 | ⟨rfl, p3⟩
      ·omega
      ·exact ⟨x.2.2.block, x.2.2.base, cap, c, fz, rfl, p1, by rw [c2]; omega, c1, c4⟩
    ·obtain ⟨y, hy, h1, h2⟩ := i3 g hg
     exact ⟨y, List.mem_cons_of_mem _ hy, h1, h2⟩
 obtain ⟨k1, k2, k3⟩ := key T ces.toList h2 hE' fun x hx => (hT.all x hx).2.2
 have hlen : ces.size = T.length := by
  have := congrArg List.length k1
  simpa using this
 refine ⟨h0, ces, clock, h1, by rw [hlen, hT.num], fun f hf => ?_, fun i hi hb => ?_, fun f hf => ?_, by rw [k1]; exact hT.borns, ?_⟩
 ·obtain ⟨x, hx, h3, h4⟩ := k3 f hf
  obtain ⟨x1, x2, _⟩ := hT.all x hx
  exact ⟨x.1, x1, x2, h3, h4⟩
 ·obtain ⟨x, hx, rfl⟩ := hT.has i hi hb
  have : Value.int .i64 (.ofNat x.1) ∈ ces.toList.map (·.key) := by rw [k2]; exact List.mem_map.2 ⟨x, hx, rfl⟩
  obtain ⟨f, hf, e⟩ := List.mem_map.1 this
  exact ⟨f, hf, e⟩
 ·have : f.born ∈ T.map (·.2.1) := by rw [← k1]; exact List.mem_map.2 ⟨f, hf, rfl⟩
  obtain ⟨x, hx, e⟩ := List.mem_map.1 this
  rw [← e]; exact hT.old x hx
 ·rw [k2]
  have e : T.map (fun x => Value.int .i64 (.ofNat x.1)) = (T.map (·.1)).map fun i => Value.int .i64 (.ofNat i) := by simp
  rw [e]
  exact List.Pairwise.map _ (fun a b hab e => hab (by injection e with _ e; injection e)) hT.keys
theorem lin_mix {E : Env} {aw : AW} {w : World} (hR : Rel E aw w) {m : Nat} {len k n : Nat} {β : Nat → Bool} (hm : aw.get m = some (.gen (.lin len k n β))) {Lm : Loc} (hLm : E.loc[m]? = some Lm) : SubM E aw [m] [Lm] := by
 refine ⟨rfl, by simp, fun i id hi => ?_⟩
 match i, hi with
 | 0, hi => injection hi with hi; subst hi; exact ⟨_, Lm, hm, rfl, hLm, rfl⟩
 | i + 1, hi => cases hi
def rankRun (N : Nat) (e : TypeId) (es : List AEnt) (c : Nat) : Option (AV × Option AO) := match cAny 321 [.ptr (some (1, 0))] (ofObjs [.map es c, .rom [.undef, .undef, .undef, .map (some 0)] e] N) with
 | some (.ret v aw) => some (v, awGet aw (nat_lit 0))
 | _ => none
theorem rank_all : ∀ (N : Nat) (e : TypeId) (es : List AEnt) (c : Nat), rankRun N e es c = some (.int .i64 (.ofNat es.length), some (.map es c)) := by
 intro N e es c
 kernel_rfl
def g321 (args : List AV) (aw : AW) : Option ARes :=
 match args with
 | [.ptr (some (q, o))] => (match awGet aw q with
  | some (.cells [x0, x1, x2, .map (some m)] e b) => (match awGet aw m with
   | some (.gen (.lin len k n β)) => bb2 (Nat.beq o (nat_lit 0)) (bb2 (Nat.beq q m) none (some (.ret (.int .i64 (.ofNat n)) aw))) none
   | _ => cAny 321 [.ptr (some (q, o))] aw)
  | _ => cAny 321 [.ptr (some (q, o))] aw)
 | args => cAny 321 args aw
theorem s321 : ∀ args aw res, g321 args aw = some res → callable Tryz.prog 321 = true ∧ ∀ E w cargs, LRel E args cargs → Rel E aw w →
  Calls Tryz.prog 321 cargs.toArray w fun e w' => ∃ E', E.Le E' ∧ ResRel E' res e w' := by
 intro args aw res h
 unfold g321 at h
 split at h
 ·rename_i q o
  split at h
  ·rename_i x0 x1 x2 m e b hq
   split at h
   ·rename_i len k n β hm
    simp only [bb2_eq] at h
    cases h1 : Nat.beq o 0 <;> simp only [h1, cond_true, cond_false, reduceCtorEq] at h
    cases h2 : Nat.beq q m <;> simp only [h2, cond_true, cond_false, reduceCtorEq, sI] at h
    subst h
    have e1 := nbt h1
    subst e1
    have n2 := ne_of_beq h2
    rw [awGet_eq] at hq hm
    refine ⟨by kernel_rfl, fun E w cargs hr hR => ?_⟩
    obtain ⟨Lm, hLm, om⟩ := hR.obj m _ hm
    obtain ⟨Lq, hLq, oq⟩ := hR.obj q _ hq
    obtain ⟨T, c, hT, om'⟩ := lin_open om
    have hS := lin_mix hR hm hLm
    obtain ⟨LL, hLL⟩ := hT.locs Lq
    have hap : ∀ L' ∈ [Lm], L'.block ≠ Lq.block := hS.apart hR hq rfl hLq (by simp [n2])
    have l0 : (mixE E w [Lm] (Lq :: (List.range k).map LL)).loc[0]? = some Lm := rfl
    have lT : ∀ x ∈ T, ([Lm] ++ Lq :: (List.range k).map LL)[2 + x.1]? = some x.2.2 := fun x hx => by
     have hk := (hT.all x hx).1
     rw [show 2 + x.1 = x.1 + 2 by omega]
     simp [hk, hLL x hx]
    have hR0 : Rel (mixE E w [Lm] (Lq :: (List.range k).map LL)) (ofObjs [.map (linEs k (2 + ·) T) c, .rom [.undef, .undef, .undef, .map (some 0)] e] (2 + k)) w := by
     have := mix_rel hR hS (os := [.map (linEs k (2 + ·) T) c]) (rest := Lq :: (List.range k).map LL) (os2 := .rom [.undef, .undef, .undef, .map (some 0)] e :: (List.range k).map fun _ => .dead) rfl (by simp) (fun i x hi => ?_) (fun i x hi => ?_)
     ·refine this.less ?_ fun j x hj => ?_
      ·show 2 + k = _
       simp [ofObjs]; omega
      ·rw [ofObjs_get] at hj ⊢
       match j, hj with
       | 0, hj => exact hj
       | 1, hj => exact hj
       | j + 2, hj => simp at hj
     ·match i, hi with
      | 0, hi => injection hi with hi; subst hi; rfl
      | i + 1, hi =>
       simp only [List.getElem?_cons_succ, List.getElem?_map, Option.map_eq_some_iff] at hi
       obtain ⟨_, _, rfl⟩ := hi; rfl
     ·match i, hi with
      | 0, hi => injection hi with hi; subst hi; exact ⟨Lm, rfl, om' _ (2 + ·) lT⟩
      | 1, hi =>
       injection hi with hi; subst hi
       refine ⟨Lq, rfl, mix_rom hR hq hLq hap (by simp) fun i a' ha' a v ha hv => ?_⟩
       match i, ha', ha with
       | 0, ha', _ => injection ha' with ha'; subst ha'; exact .undef _
       | 1, ha', _ => injection ha' with ha'; subst ha'; exact .undef _
       | 2, ha', _ => injection ha' with ha'; subst ha'; exact .undef _
       | 3, ha', ha => injection ha' with ha'; injection ha with ha; subst ha' ha; exact map_conv hLm l0 hv
       | i + 4, ha', _ => cases ha'
      | i + 2, hi =>
       have hi : ((List.range k).map fun _ => AO.dead)[i]? = some x := hi
       simp only [List.getElem?_map, Option.map_eq_some_iff] at hi
       obtain ⟨y, hy, rfl⟩ := hi
       exact ⟨LL y, by simp [hy], trivial⟩
    have hrun := rank_all (2 + k) e (linEs k (2 + ·) T) c
    unfold rankRun at hrun
    split at hrun <;> (try (cases hrun; done))
    rename_i v aw1 hcall
    simp only [sI, pmi] at hrun
    obtain ⟨rfl, hg⟩ := hrun
    rw [awGet_eq] at hg
    cases hr with
    | cons r1 t1 =>
     cases t1
     have r1' : VRel (mixE E w [Lm] (Lq :: (List.range k).map LL)) (.ptr (some (1, 0))) _ := ptr_conv (b := 1) hLq rfl r1
     refine ((cAny_ok _ _ _ _ hcall).2 _ w _ (.cons r1' .nil) hR0).mono fun en w' ⟨E1, hle, hres⟩ => ?_
     cases en with
     | panicked ch => exact hres.elim
     | outgrown => exact hres.elim
     | returned cv =>
      obtain ⟨hR1, hv⟩ := hres
      have hK := MixK.of_le hle
      obtain ⟨L, hL, ho⟩ := hR1.obj 0 _ hg
      rw [hK.loc 0 Lm rfl] at hL; injection hL with hL; subst hL
      refine ⟨E, .refl E, mix_back hR hS hK hR1 rfl fun j x hj => ?_, ?_⟩
      ·by_cases jm : j = m
       ·subst jm
        rw [hm] at hj; injection hj with hj; subst hj
        exact .inl ⟨0, Lm, rfl, rfl, lin_shut (idf := (2 + ·)) hT (fun x hx => hK.loc _ _ (lT x hx)) ho⟩
       ·exact .inr ⟨by simp [jm], hj⟩
      ·cases hv
       rw [linEs_len, hT.num]; exact .int _ _
   ·exact cAny_ok _ _ _ _ h
  ·exact cAny_ok _ _ _ _ h
 ·exact cAny_ok _ _ _ _ h
end Go.Proofs.YtbilacojhmohmaaGreat.Ae
end
