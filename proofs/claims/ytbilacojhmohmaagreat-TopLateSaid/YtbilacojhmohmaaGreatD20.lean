/- A summary: a line more for a frame; All summaries together: the calls of the whole law. No condition. -/
import Derived.Test.YtbilacojhmohmaaGreatD19
set_option linter.unusedVariables false
set_option linter.unusedSimpArgs false
noncomputable section
namespace Go.Proofs.YtbilacojhmohmaaGreat.Ae
open Go
def neB (a b : Nat) : Bool := bb2 (Nat.beq a b) false true
theorem neB_ok {a b : Nat} (h : neB a b = true) : a ≠ b := by
 unfold neB at h
 rw [bb2_eq] at h
 cases hb : Nat.beq a b with
 | true => rw [hb] at h; cases h
 | false => exact ne_of_beq hb
def allB (l : List Bool) : Bool := List.rec (motive := fun _ => Bool) true (fun a _ ih => bb2 a ih false) l
theorem allB_cons {a : Bool} {l : List Bool} (h : allB (a :: l) = true) : a = true ∧ allB l = true := by
 have h : bb2 a (allB l) false = true := h
 rw [bb2_eq] at h
 cases a with
 | true => exact ⟨rfl, h⟩
 | false => cases h
def chk262 (len q r d f m o of o1 n1 c1 o2 n2 s2 u2 k' sz e e1 e2 e3 : Nat) (b3 : Bool) (rl dl fl : List AV) : Bool :=
 allB [inL len lens, Nat.ble (Nat.succ (rowIx rl)) (kOf len), Nat.beq o 0, Nat.beq of 0, Nat.beq o1 0, Nat.beq n1 (kOf len), Nat.beq c1 (kOf len), Nat.beq o2 0, Nat.beq n2 2, Nat.beq s2 1, Nat.beq u2 2, Nat.beq k' (kOf len), Nat.beq sz 2, Nat.beq e 418, Nat.beq e1 5, Nat.beq e2 5, Nat.beq e3 177, bb2 b3 false true,
  neB m f, neB q m, neB q f, neB r m, neB r f, neB d m, neB d f, sameBs rl (rowL (kOf len) (rowIx rl)), sameBs dl (datL len (rowIx rl)), sameInts fl fieldCells]
def g262 (len : Nat) (args : List AV) (aw : AW) : Option ARes :=
 match args with
 | [.ptr (some (q, o)), .slc (some (r, o1)) n1 (.known c1), .slc (some (d, o2)) n2 (.upto s2 u2)] => (match awGet aw q with
  | some (.cells [.ptr (some (f, of)), .int .i64 (.ofNat k'), .int .i64 (.ofNat sz), .map (some m)] e b) => (match awGet aw r with
   | some (.cells rl e1 b1) => (match awGet aw d with
    | some (.cells dl e2 b2) => (match awGet aw f with
     | some (.cells fl e3 b3) => (match awGet aw m with
      | some (.gen (.lin len' k n β)) => bb2 (bb2 (Nat.beq len' len) (bb2 (Nat.beq k (kOf len)) (chk262 len q r d f m o of o1 n1 c1 o2 n2 s2 u2 k' sz e e1 e2 e3 b3 rl dl fl) false) false) (addR len (kOf len) n (rowIx rl) m β aw) none
      | some (.map [] c) => bb2 (chk262 len q r d f m o of o1 n1 c1 o2 n2 s2 u2 k' sz e e1 e2 e3 b3 rl dl fl) (addR len (kOf len) 0 (rowIx rl) m (fun _ => false) aw) (cAny 262 [.ptr (some (q, o)), .slc (some (r, o1)) n1 (.known c1), .slc (some (d, o2)) n2 (.upto s2 u2)] aw)
      | _ => cAny 262 [.ptr (some (q, o)), .slc (some (r, o1)) n1 (.known c1), .slc (some (d, o2)) n2 (.upto s2 u2)] aw)
     | _ => none)
    | _ => none)
   | _ => none)
  | _ => none)
 | args => cAny 262 args aw
theorem s262 (len : Nat) : ∀ args aw res, g262 len args aw = some res → callable Tryz.prog 262 = true ∧ ∀ E w cargs, LRel E args cargs → Rel E aw w →
  Calls Tryz.prog 262 cargs.toArray w fun e w' => ∃ E', E.Le E' ∧ ResRel E' res e w' := by
 intro args aw res h
 have hcl : callable Tryz.prog 262 = true := by kernel_rfl
 unfold g262 at h
 split at h
 ·rename_i q o r o1 n1 c1 d o2 n2 s2 u2
  split at h <;> (try (cases h; done))
  rename_i f of k' sz m e b hq
  split at h <;> (try (cases h; done))
  rename_i rl e1 b1 hr
  split at h <;> (try (cases h; done))
  rename_i dl e2 b2 hd
  split at h <;> (try (cases h; done))
  rename_i fl e3 b3 hf
  have hchk : chk262 len q r d f m o of o1 n1 c1 o2 n2 s2 u2 k' sz e e1 e2 e3 b3 rl dl fl = true → (len ∈ lens ∧ rowIx rl < kOf len) ∧ (o = 0 ∧ of = 0 ∧ o1 = 0 ∧ n1 = kOf len ∧ c1 = kOf len ∧ o2 = 0 ∧ n2 = 2 ∧ s2 = 1 ∧ u2 = 2 ∧ k' = kOf len ∧ sz = 2) ∧
    (e = 418 ∧ e1 = 5 ∧ e2 = 5 ∧ e3 = 177 ∧ b3 = false) ∧ (m ≠ f ∧ q ≠ m ∧ q ≠ f ∧ r ≠ m ∧ r ≠ f ∧ d ≠ m ∧ d ≠ f) ∧ rl = rowL (kOf len) (rowIx rl) ∧ dl = datL len (rowIx rl) ∧ fl = fieldCells := fun h => by
   unfold chk262 at h
   obtain ⟨y1, h⟩ := allB_cons h
   obtain ⟨y2, h⟩ := allB_cons h
   obtain ⟨y3, h⟩ := allB_cons h
   obtain ⟨y4, h⟩ := allB_cons h
   obtain ⟨y5, h⟩ := allB_cons h
   obtain ⟨y6, h⟩ := allB_cons h
   obtain ⟨y7, h⟩ := allB_cons h
   obtain ⟨y8, h⟩ := allB_cons h
   obtain ⟨y9, h⟩ := allB_cons h
   obtain ⟨y10, h⟩ := allB_cons h
   obtain ⟨y11, h⟩ := allB_cons h
   obtain ⟨y12, h⟩ := allB_cons h
   obtain ⟨y13, h⟩ := allB_cons h
   obtain ⟨y14, h⟩ := allB_cons h
   obtain ⟨y15, h⟩ := allB_cons h
   obtain ⟨y16, h⟩ := allB_cons h
   obtain ⟨y17, h⟩ := allB_cons h
   obtain ⟨y18, h⟩ := allB_cons h
   obtain ⟨z1, h⟩ := allB_cons h
   obtain ⟨z2, h⟩ := allB_cons h
   obtain ⟨z3, h⟩ := allB_cons h
   obtain ⟨z4, h⟩ := allB_cons h
   obtain ⟨z5, h⟩ := allB_cons h
   obtain ⟨z6, h⟩ := allB_cons h
   obtain ⟨z7, h⟩ := allB_cons h
   obtain ⟨z8, h⟩ := allB_cons h
   obtain ⟨z9, h⟩ := allB_cons h
   obtain ⟨z10, _⟩ := allB_cons h
   have n := fun {a b : Nat} (h : Nat.beq a b = true) => nbt h
   refine ⟨⟨inL_ok y1, nbl y2⟩, ⟨n y3, n y4, n y5, n y6, n y7, n y8, n y9, n y10, n y11, n y12, n y13⟩, ⟨n y14, n y15, n y16, n y17, ?_⟩, ⟨neB_ok z1, neB_ok z2, neB_ok z3, neB_ok z4, neB_ok z5, neB_ok z6, neB_ok z7⟩, sameBs_eq z8, sameBs_eq z9, sameInts_eq z10⟩
   rw [bb2_eq] at y18
   cases b3 <;> first | rfl | cases y18
  split at h
  ·rename_i len' k n β hm
   simp only [bb2_eq] at h
   cases h1 : Nat.beq len' len <;> simp only [h1, cond_true, cond_false, reduceCtorEq] at h
   cases h2 : Nat.beq k (kOf len) <;> simp only [h2, cond_true, cond_false, reduceCtorEq] at h
   cases h3 : chk262 len q r d f m o of o1 n1 c1 o2 n2 s2 u2 k' sz e e1 e2 e3 b3 rl dl fl <;> simp only [h3, cond_true, cond_false, reduceCtorEq] at h
   have e1' := nbt h1
   have e2' := nbt h2
   obtain ⟨⟨hl, hi⟩, ⟨rfl, rfl, rfl, rfl, rfl, rfl, rfl, rfl, rfl, rfl, rfl⟩, ⟨rfl, rfl, rfl, rfl, rfl⟩, ⟨k1, k2, k3, k4, k5, k6, k7⟩, x1, x2, rfl⟩ := hchk h3
   subst e1' e2'
   rw [awGet_eq] at hq hr hd hf hm
   obtain ⟨i, hi'⟩ : ∃ i, i = rowIx rl := ⟨_, rfl⟩
   rw [← hi'] at h hi x1 x2
   rw [x1] at hr; rw [x2] at hd
   refine ⟨hcl, fun E w cargs ha hR => ?_⟩
   refine add_calls hR hl hi hq hr hd hf hm rfl k1 k2 k3 k4 k5 k6 k7 (n := n) (β := β) (fun Lm om => ?_) (fun _ Lm w' E1 T c hT hlo ho => ?_) ha h
   ·obtain ⟨T, c, hT, ho⟩ := lin_open om
    exact ⟨T, c, hT, fun E' hE' => ho E' (5 + ·) hE'⟩
   ·exact lin_shut (idf := (5 + ·)) hT hlo ho
  ·rename_i c hm
   rw [bb2_eq] at h
   cases h3 : chk262 len q r d f m o of o1 n1 c1 o2 n2 s2 u2 k' sz e e1 e2 e3 b3 rl dl fl <;> simp only [h3, cond_true, cond_false] at h
   ·exact cAny_ok _ _ _ _ h
   ·obtain ⟨⟨hl, hi⟩, ⟨rfl, rfl, rfl, rfl, rfl, rfl, rfl, rfl, rfl, rfl, rfl⟩, ⟨rfl, rfl, rfl, rfl, rfl⟩, ⟨k1, k2, k3, k4, k5, k6, k7⟩, x1, x2, rfl⟩ := hchk h3
    rw [awGet_eq] at hq hr hd hf hm
    obtain ⟨i, hi'⟩ : ∃ i, i = rowIx rl := ⟨_, rfl⟩
    rw [← hi'] at h hi x1 x2
    rw [x1] at hr; rw [x2] at hd
    refine ⟨hcl, fun E w cargs ha hR => ?_⟩
    refine add_calls hR hl hi hq hr hd hf hm rfl k1 k2 k3 k4 k5 k6 k7 (n := 0) (β := fun _ => false) (fun Lm om => ?_) (fun hb => by cases hb) ha h
    refine ⟨[], c, ⟨rfl, fun x hx => (by cases hx), fun i hi hb => (by cases hb), fun x hx => (by cases hx), by simp, by simp⟩, fun E' _ => ?_⟩
    obtain ⟨h0, ces, g1, g2⟩ := om
    refine ⟨h0, ces, g1, ?_⟩
    show ERel E' [] _
    generalize ces.toList = l at g2
    cases g2; exact .nil
  ·exact cAny_ok _ _ _ _ h
 ·exact cAny_ok _ _ _ _ h
def rf139 : RFn := ⟨14, 4, 1, (.seq (.region [.op (some 5) none (.mv (.t 1)), .op (some 6) none (.nileq 4 true (.t 5))])
 (.cond (.t 6) (.seq (.region [.op none none (.store 1 (.t 0) (.c (.int .i64 (.ofNat 1))))])
 (.seq (.region [.op (some 8) none (.mv (.t 1)), .op (some 9) none (.assert 32 (.t 8) (.int .i64 (.ofNat 0))), .op (some 7) none (.mv (.t 9)), .op (some 10) none (.ext 0 (.t 7)), .op (some 11) none (.ext 1 (.t 7)), .op (some 2) none (.mv (.t 10)), .op (some 3) none (.mv (.t 11))])
 (.seq (.region [.op (some 12) none (.mv (.t 3))])
 (.cond (.t 12) (.region [.op (some 13) none (.mv (.t 2)), .op none none (.store 1 (.t 0) (.t 13))]) .skip)))) .skip))⟩
def rf323 : RFn := ⟨6, 3, 2, (.seq (.region [.op (some 4) none (.mv (.t 2)), .op (some 5) none (.nileq 4 true (.t 4))])
 (.cond (.t 5) (.region [.op none none (.store 1 (.t 0) (.c (.slc none 0 (.known 0)))), .op none none (.store 1 (.t 1) (.c (.bool false)))]) .skip))⟩
def rf355 : RFn := ⟨7, 3, 2, (.seq (.region [.op (some 4) none (.mv (.t 2)), .op (some 5) none (.nileq 4 true (.t 4))])
 (.cond (.t 5) (.region [.op (some 6) none (.build [(.int .u16 (.ofNat 0)), (.int .u16 (.ofNat 0)), (.int .u32 (.ofNat 0)), (.int .u16 (.ofNat 0)), (.slc none 0 (.known 0))] []), .op none none (.store 5 (.t 0) (.t 6)), .op none none (.store 1 (.t 1) (.c (.int .i64 (.ofNat 2))))]) .skip))⟩
def rf314 : RFn := ⟨8, 3, 2, (.seq (.region [.op (some 4) none (.mv (.t 2)), .op (some 5) none (.nileq 4 true (.t 4))])
 (.cond (.t 5) (.region [.op (some 6) none (.mv (.t 0)), .op (some 7) none (.nilck (.t 6)), .op none none (.store 1 (.t 7) (.c (.int .i64 (.ofNat 2))))]) .skip))⟩
theorem rok139 : rf139.ok Tryz.prog (cDraw Tryz.prog) 139 := ⟨Tryz.f139, _, _, _, _, Tryz.func139, rfl, rfl, rfl, rfl, rfl, rfl, rfl, rfl, rfl, by kernel_rfl, by kernel_rfl⟩
theorem rok323 : rf323.ok Tryz.prog (cDraw Tryz.prog) 323 := ⟨Tryz.f323, _, _, _, _, Tryz.func323, rfl, rfl, rfl, rfl, rfl, rfl, rfl, rfl, rfl, by kernel_rfl, by kernel_rfl⟩
theorem rok355 : rf355.ok Tryz.prog (cDraw Tryz.prog) 355 := ⟨Tryz.f355, _, _, _, _, Tryz.func355, rfl, rfl, rfl, rfl, rfl, rfl, rfl, rfl, rfl, by kernel_rfl, by kernel_rfl⟩
theorem rok314 : rf314.ok Tryz.prog (cDraw Tryz.prog) 314 := ⟨Tryz.f314, _, _, _, _, Tryz.func314, rfl, rfl, rfl, rfl, rfl, rfl, rfl, rfl, rfl, by kernel_rfl, by kernel_rfl⟩
def dsA : DSum := fun f => bb2 (Nat.beq f 139) (some (dRec 30 rf139)) (bb2 (Nat.beq f 323) (some (dRec 30 rf323)) (bb2 (Nat.beq f 355) (some (dRec 30 rf355)) (bb2 (Nat.beq f 314) (some (dRec 30 rf314)) none)))
theorem dsA_ok : DefOK Tryz.prog dsA := by
 intro f g m args aw m' aw' hf hg
 unfold dsA at hf
 simp only [bb2_eq] at hf
 cases h1 : Nat.beq f 139 with
 | true => simp only [h1, cond_true, sI] at hf; subst hf; rw [nbt h1]; exact dRec_sound draw_all rok139 hg
 | false =>
  cases h2 : Nat.beq f 323 with
  | true => simp only [h1, h2, cond_true, cond_false, sI] at hf; subst hf; rw [nbt h2]; exact dRec_sound draw_all rok323 hg
  | false =>
   cases h3 : Nat.beq f 355 with
   | true => simp only [h1, h2, h3, cond_true, cond_false, sI] at hf; subst hf; rw [nbt h3]; exact dRec_sound draw_all rok355 hg
   | false =>
    cases h4 : Nat.beq f 314 with
    | true => simp only [h1, h2, h3, h4, cond_true, cond_false, sI] at hf; subst hf; rw [nbt h4]; exact dRec_sound draw_all rok314 hg
    | false => simp only [h1, h2, h3, h4, cond_false, reduceCtorEq] at hf
def smA : Summ := fun f => bb2 (Nat.beq f 350) (some g350) (bb2 (Nat.beq f 233) (some g233) (bb2 (Nat.beq f 358) (some g358) (bb2 (Nat.beq f 49) (some g49) none)))
theorem smA_ok : SumOK Tryz.prog smA := by
 intro f g hf
 unfold smA at hf
 simp only [bb2_eq] at hf
 cases h1 : Nat.beq f 350 with
 | true => simp only [h1, cond_true, sI] at hf; subst hf; rw [nbt h1]; exact s350
 | false =>
  cases h2 : Nat.beq f 233 with
  | true => simp only [h1, h2, cond_true, cond_false, sI] at hf; subst hf; rw [nbt h2]; exact s233
  | false =>
   cases h3 : Nat.beq f 358 with
   | true => simp only [h1, h2, h3, cond_true, cond_false, sI] at hf; subst hf; rw [nbt h3]; exact s358
   | false =>
    cases h4 : Nat.beq f 49 with
    | true => simp only [h1, h2, h3, h4, cond_true, cond_false, sI] at hf; subst hf; rw [nbt h4]; exact s49
    | false => simp only [h1, h2, h3, h4, cond_false, reduceCtorEq] at hf
def cTop : Call := callK FK smA dsA (nat_lit 1000) (nat_lit 40)
theorem cTop_ok : CallOK Tryz.prog cTop := callK_ok smA_ok dsA_ok _ _
section
def smL (len : Nat) : Summ := fun f => bb2 (Nat.beq f 116) (some g116) (bb2 (Nat.beq f 117) (some g117) (bb2 (Nat.beq f 123) (some g123) (bb2 (Nat.beq f 254) (some g254) (bb2 (Nat.beq f 262) (some (g262 len)) (bb2 (Nat.beq f 321) (some g321) (smA f))))))
theorem smL_ok (len : Nat) : SumOK Tryz.prog (smL len) := by
 intro f g hf
 unfold smL at hf
 simp only [bb2_eq] at hf
 cases h1 : Nat.beq f 116 with
 | true => simp only [h1, cond_true, cond_false, sI] at hf; subst hf; rw [nbt h1]; exact s116
 | false =>
  cases h2 : Nat.beq f 117 with
  | true => simp only [h1, h2, cond_true, cond_false, sI] at hf; subst hf; rw [nbt h2]; exact s117
  | false =>
   cases h3 : Nat.beq f 123 with
   | true => simp only [h1, h2, h3, cond_true, cond_false, sI] at hf; subst hf; rw [nbt h3]; exact s123
   | false =>
    cases h4 : Nat.beq f 254 with
    | true => simp only [h1, h2, h3, h4, cond_true, cond_false, sI] at hf; subst hf; rw [nbt h4]; exact s254
    | false =>
     cases h5 : Nat.beq f 262 with
     | true => simp only [h1, h2, h3, h4, h5, cond_true, cond_false, sI] at hf; subst hf; rw [nbt h5]; exact s262 len
     | false =>
      cases h6 : Nat.beq f 321 with
      | true => simp only [h1, h2, h3, h4, h5, h6, cond_true, cond_false, sI] at hf; subst hf; rw [nbt h6]; exact s321
      | false =>
       simp only [h1, h2, h3, h4, h5, h6, cond_false] at hf; exact smA_ok f g hf
def cLat (len : Nat) : Call := callK FK (smL len) dsA (nat_lit 1000) (nat_lit 40)
theorem cLat_ok (len : Nat) : CallOK Tryz.prog (cLat len) := callK_ok (smL_ok len) dsA_ok _ _
def codeA (a : AV) : Nat := match a with
 | .int .u8 (.ofNat v) => 2 * v + 1
 | .sym .u8 j => j + 2
 | _ => 0
def pktH (len i : Nat) : List AV := ([1, 0, i, 0, 1, 0, 0, 0, 1, 0, i].map fun n => AV.int .u8 (.ofNat n)) ++ [dataB len (2 * i), dataB len (2 * i + 1)]
def pktL (len i : Nat) : List AV := pktH len i ++ (List.range 4).map fun q => .sym .u8 (2 * (4 * encL ((pktH len i).map codeA) + q) + 1)
def vI (n : Nat) : AV := .int .i64 (.ofNat n)
def vW (n : Nat) : AV := .int .u32 (.ofNat n)
def vQ (n : Nat) : AV := .int .u64 (.ofNat n)
def vP (n : Nat) : AV := .ptr (some (n, 0))
def vN : AV := .slc none 0 (.known 0)
def rcvX (len : Nat) (what : AV) (m9 o13 o14 o15 o16 : AO) : List AO := [
 .cells [vI 2, vI 170, vI 2, vI 100, vI 1000, vP 4, vP 5, vP 6, vP 7, vQ 0, vQ 0] 142 false,
 .cells [vP 8, vI 2, vI 100, vI 2, .map (some 9)] 191 false,
 .cells [.slc (some (10, 0)) 1 (.upto 6 1), what] 194 false,
 .gen (.ty [.av (vP 11), .av (.map (some 12)), .anyI .u64, .anyB, .anyI .u64, .anyI .u64] 199),
 .gen (.ty [.anyI .u16, .anyB, .anyI .i64] 201),
 .cells fieldCells 177 false,
 m9,
 .cells [vW 1, vI 1, vN, vI len, vI 3, vI 8] 31 true,
 extG,
 .gen (.tym .u64),
 o13, o14, o15, o16]
def mapB (b : Nat) : AO := .map [⟨vW 1, .agg [vP b, vI 0], 0⟩] 1
def basinO (len b : Nat) : AO := .cells [vP b, vW 1, vI (kOf len), vI len, vI 2] 357 false
def basisO (len m : Nat) : AO := .cells [vP 8, vI (kOf len), vI 2, .map (some m)] 418 false
def linG (len n : Nat) (β : Nat → Bool) : AO := .gen (.lin len (kOf len) n β)
def rcvA (len : Nat) : List AO := rcvX len vN (.map [] 0) .dead .dead .dead .dead
def rcvB (len n : Nat) (β : Nat → Bool) : List AO := rcvX len vN (mapB 13) (basinO len 14) (basisO len 15) (linG len n β) .dead
def rcvT (len c w : Nat) : List AO := rcvX len (.slc (some (16, 0)) 1 (.upto 1 1)) (.map [] c) .dead .dead .dead (.cells [vI w] 3 true)
def pkV (q : Nat) : AV := .slc (some (q, 0)) 17 (.upto 1 17)
def m65 (O : Nat → AO) (R : List AO) (len i : Nat) : List AO := [O 0, O 1, O 2] ++ R ++ ((List.range 35).map fun q => O (17 + q)) ++ [.cells (pktL len i) 5 true]
def see65 (ids : List Nat) (r : Option ARes) : Option (AV × List (Option AO) × Nat) := match r with
 | some (.ret v aw) => some (v, ids.map (awGet aw), aw.nx)
 | _ => none
def hear (len i : Nat) (O : Nat → AO) (R : List AO) (now : Int) (ids : List Nat) : Option (AV × List (Option AO) × Nat) :=
 see65 ids (cLat len 65 [vP 3, pkV 52, .int .i64 now] (ofObjs (m65 O R len i) (nat_lit 53)))
def idsH : List Nat := List.range 53
def wantH (O : Nat → AO) (R : List AO) (len i : Nat) : List (Option AO) := (m65 O R len i).map some
def CallsAt (f : Nat) (args : List AV) (aw : AW) (res : ARes) : Prop := ∀ E w cargs, LRel E args cargs → Rel E aw w → Calls Tryz.prog f cargs.toArray w fun e w' => ∃ E', E.Le E' ∧ ResRel E' res e w'
theorem CallsAt.of {call : Call} (h0 : CallOK Tryz.prog call) {f : Nat} {args : List AV} {aw : AW} {res : ARes} (h : call f args aw = some res) : CallsAt f args aw res := (h0 f args aw res h).2
theorem CallsAt.less {f : Nat} {args : List AV} {aw aw' : AW} {res : ARes} (h : CallsAt f args aw res) (hn : aw.nx = aw'.nx) (hg : ∀ (j : Nat) (x : AO), aw.get j = some x → (x = .dead ∧ j < aw'.nx) ∨ aw'.get j = some x) : CallsAt f args aw' res :=
 fun E w cargs ha hR => h E w cargs ha (hR.lessD hn hg)
theorem CallsAt.ends {f : Nat} {args : List AV} {aw aw1 aw2 : AW} {v : AV} (h : CallsAt f args aw (.ret v aw1)) (hn : aw2.nx = aw1.nx) (hg : ∀ (j : Nat) (x : AO), aw2.get j = some x → (x = .dead ∧ j < aw1.nx) ∨ aw1.get j = some x) : CallsAt f args aw (.ret v aw2) := by
 intro E w cargs ha hR
 refine (h E w cargs ha hR).mono fun e w' ⟨E', hle, hres⟩ => ⟨E', hle, ?_⟩
 cases e with
 | panicked ch => exact hres.elim
 | outgrown => exact hres.elim
 | returned cv =>
  obtain ⟨h1, h2⟩ := hres
  exact ⟨h1.lessD hn hg, h2⟩
open Classical in
def cOne (c0 : Call) (f0 : Nat) (args0 : List AV) (aw0 : AW) (res0 : ARes) : Call := fun f args aw => match c0 f args aw with
 | some r => some r
 | none => if f = f0 ∧ args = args0 ∧ aw = aw0 then some res0 else none
section
variable {c0 : Call} {f0 : Nat} {args0 : List AV} {aw0 : AW} {res0 : ARes}
theorem cOne_ok (h0 : CallOK Tryz.prog c0) (hc : callable Tryz.prog f0 = true) (h : CallsAt f0 args0 aw0 res0) : CallOK Tryz.prog (cOne c0 f0 args0 aw0 res0) := by
 intro f args aw res hr
 unfold cOne at hr
 split at hr
 ·rename_i r hr0
  injection hr with hr; subst hr
  exact h0 f args aw r hr0
 ·split at hr
  ·rename_i hh
   obtain ⟨rfl, rfl, rfl⟩ := hh
   injection hr with hr; subst hr
   exact ⟨hc, h⟩
  ·cases hr
theorem cOne_ext {f : Nat} {args : List AV} {aw : AW} {r : ARes} (h : c0 f args aw = some r) : cOne c0 f0 args0 aw0 res0 f args aw = some r := by
 unfold cOne
 rw [h]
theorem cOne_at (h : c0 f0 args0 aw0 = none) : cOne c0 f0 args0 aw0 res0 f0 args0 aw0 = some res0 := by
 unfold cOne
 rw [h]
 exact if_pos ⟨rfl, rfl, rfl⟩
end
section
variable {c1 c2 : Call} (h : ∀ f args aw r, c1 f args aw = some r → c2 f args aw = some r)
include h
theorem xback_mono {a : AAct} {d : Option Nat} {k1 k2 : AAct → AW → Option Out} {o : Out} {f : Nat} {vs : List AV} {aw : AW} (hk : ∀ a aw, k1 a aw = some o → k2 a aw = some o) (hb : xback a d k1 (c1 f vs aw) = some o) : xback a d k2 (c2 f vs aw) = some o := by
 cases hc : c1 f vs aw with
 | none => rw [hc] at hb; cases hb
 | some r =>
  rw [hc] at hb
  rw [h _ _ _ _ hc]
  unfold xback at hb ⊢
  (repeat' split at hb) <;> first | (cases hb; done) | (exact hk _ _ hb) | exact hb | (simp_all; done)
theorem xitems_mono : ∀ {l : List CR} {a : AAct} {aw : AW} {o : Out}, xitems c1 l a aw = some o → xitems c2 l a aw = some o
 | [], a, aw, o, hx => hx
 | c :: l, a, aw, o, hx => by
  cases c with
  | chk d g c =>
   simp only [xitems] at hx ⊢
   (repeat' split at hx) <;> first | (cases hx; done) | exact xitems_mono hx | skip
   simp only [Bool.cond_eq_ite] at hx ⊢
   split at hx
   ·rename_i hb
    rw [if_pos hb]
    exact xitems_mono hx
   ·cases hx
  | panic x => exact hx
  | _ =>
   simp only [xitems] at hx ⊢
   (repeat' split at hx) <;> first | (cases hx; done) | exact xitems_mono hx | exact xback_mono h (fun _ _ hk => xitems_mono hk) hx
theorem xcode_mono : ∀ {n : Nat} {c : CC} {a : AAct} {aw : AW} {o : Out}, xcode c1 n c a aw = some o → xcode c2 n c a aw = some o
 | 0, c, a, aw, o, hx => by simp only [xcode] at hx; cases hx
 | n + 1, c, a, aw, o, hx => by
  cases c with
  | skip => exact hx
  | exit id => exact hx
  | ret => exact hx
  | region l => exact xitems_mono h hx
  | draw l r =>
   simp only [xcode] at hx ⊢
   split at hx <;> (try (cases hx; done))
   rename_i o1 h1
   rw [xitems_mono h h1]
   simp only
   split at hx <;> (try (cases hx; done))
   exact xitems_mono h hx
  | seq x y =>
   simp only [xcode] at hx ⊢
   split at hx <;> (try (cases hx; done))
   rename_i o1 h1
   rw [xcode_mono h1]
   simp only
   split at hx
   ·exact xcode_mono hx
   ·exact hx
  | cond c x y =>
   simp only [xcode] at hx ⊢
   split at hx <;> (try (cases hx; done))
   split at hx <;> exact xcode_mono hx
  | block id b =>
   simp only [xcode] at hx ⊢
   split at hx <;> (try (cases hx; done))
   rename_i o1 h1
   rw [xcode_mono h1]
   exact hx
  | loop b =>
   simp only [xcode] at hx ⊢
   split at hx <;> (try (cases hx; done))
   rename_i o1 h1
   rw [xcode_mono h1]
   simp only
   split at hx
   ·exact xcode_mono hx
   ·exact hx
end
theorem fn_at {call : Call} (hcall : CallOK Tryz.prog call) {f N : Nat} {cf : CFn} (hcf : cFn Tryz.prog (cDraw Tryz.prog) f = some cf) {args : List AV} (hb : args.length ≤ cf.n) {aw aw' : AW} {t : Tr AV} {l : List AV} (ho : xcode call N cf.body ⟨slots args 0 .leaf, cf.n, []⟩ aw = some ⟨.ret, ⟨t, cf.n, []⟩, aw'⟩)
  (hl : xres ⟨t, cf.n, []⟩ aw' cf.res = some l) : callable Tryz.prog f = true ∧ CallsAt f args aw (.ret (oneOf l) aw') := by
 have hcc := hcf
 unfold cFn at hcc
 split at hcc <;> (try (cases hcc; done))
 rename_i fn hfn
 split at hcc <;> (try (cases hcc; done))
 rename_i c hbody
 cases hname : (fn.name == "runtime.NumGoroutine") <;> simp only [hname, cond_true, cond_false, reduceCtorEq] at hcc
 split at hcc <;> (try (cases hcc; done))
 rename_i cc hcode
 split at hcc <;> (try (cases hcc; done))
 rename_i rs hrs
 simp at hcc; subst hcc
 refine ⟨by simp [callable, hfn, hbody, hname], fun E w cargs hargs hR => ?_⟩
 refine calls_of_wp_defers hfn hbody ?_
 have hinit := init_rel (n := fn.ntmps) hargs hb
 refine wp_mono (code_sound hcall (draw_all _ hcall) N hcode ho hinit hR).1 fun e a w' hp => ?_
 obtain ⟨E1, hle, hR1, hA1, hX⟩ := hp
 cases e <;> simp only [XRel] at hX
 refine leave_sound (ds := dsA) (cf := ⟨cc, fn.ntmps, rs⟩) (o := ⟨.ret, ⟨t, fn.ntmps, []⟩, aw'⟩) (m := none) dsA_ok hle hrs ?_ hR1 hA1 trivial
 simp only [xleave, xdefs, hl]
def smN (ls : List Nat) (len : Nat) : Summ := fun f => bb2 (inL f ls) (some fun _ _ => none) (smL len f)
theorem smN_ok (ls : List Nat) (len : Nat) : SumOK Tryz.prog (smN ls len) := by
 intro f g hf
 unfold smN at hf
 rw [bb2_eq] at hf
 cases h : inL f ls with
 | true =>
  rw [h, cond_true, sI] at hf
  subst hf
  intro args aw res hr
  cases hr
 | false => rw [h, cond_false] at hf; exact smL_ok len f g hf
def cNo (ls : List Nat) (len : Nat) : Call := callK FK (smN ls len) dsA (nat_lit 1000) (nat_lit 40)
theorem cNo_ok (ls : List Nat) (len : Nat) : CallOK Tryz.prog (cNo ls len) := callK_ok (smN_ok ls len) dsA_ok _ _
theorem cNo_65 : ∀ (len : Nat) (args : List AV) (aw : AW), cNo [65, 27] len 65 args aw = none := by
 intro len args aw
 kernel_rfl
theorem cNo_27 : ∀ (len : Nat) (args : List AV) (aw : AW), cNo [65, 27] len 27 args aw = none := by
 intro len args aw
 kernel_rfl
def dv0 : CC := (.region [.op (some 3) none (.box 39 (.t 1)), .op (some 4) none (.alloc [(.int .i64 (.ofNat 0)), (.slc none 0 (.known 0))] 35)])
def dv1 : CC := (.draw [.op (some 9) none (.mv (.t 0)), .op (some 10) none (.off 10 (.t 3)), .op (some 11) none (.load none (.t 10)), .op (some 13) none (.off 8 (.t 3)), .op (some 14) none (.load none (.t 13)), .call (some 12) none 34 [(.t 9), (.t 11)], .chk 14 none (.load none (.t 13)), .call (some 15) none 64 [(.t 12), (.t 14)], .op (some 8) none (.mv (.t 15)), .op (some 16) none (.ext 0 (.t 8)), .op (some 17) none (.ext 1 (.t 8)), .op (some 5) none (.mv (.t 16))] [.op (some 6) none (.mv (.t 17))])
def dvA : CC := (.region [.op (some 19) none (.mv (.t 6)), .op (some 20) none (.bnot (.t 19)), .op (some 18) none (.mv (.t 20))])
def dvX : CC := (.seq (.region [.op (some 21) none (.build [(.int .i64 (.ofNat 0)), (.slc none 0 (.known 0))] []), .op none none (.store 2 (.t 4) (.t 21))])  .ret)
def dvB : CC := (.region [.op (some 23) none (.off 10 (.t 3)), .op (some 24) none (.load none (.t 23)), .op (some 25) none (.bnot (.t 24)), .op (some 22) none (.mv (.t 25))])
def dvL : List CR := [.op (some 26) none (.mv (.t 0)), .op (some 27) none (.nilck (.t 26)), .op (some 28) none (.off 6 (.t 27)), .op (some 29) none (.load none (.t 28)), .op (some 30) none (.mv (.t 5)), .op (some 31) none (.mv (.t 0)), .op (some 32) none (.nilck (.t 31)), .op (some 33) none (.off 9 (.t 32)), .op (some 34) none (.load none (.t 33))]
def dvM : List CR := [.op (some 36) none (.build [(.int .i64 (.ofNat 0)), (.slc none 0 (.known 0))] [(0, 1, (.t 35))])]
def dvS : List CR := [.op none none (.store 2 (.t 4) (.t 36))]
def dvD : CC := .draw (dvL ++ .call (some 35) none 65 [(.t 29), (.t 30), (.t 34)] :: dvM) dvS
def dv2 : CC := .block 0 (.seq dvA (.cond (.t 18) dvX (.seq dvB (.cond (.t 22) (.seq dvD .ret) .skip))))
def dvR : CC := (.seq (.region [.op (some 37) none (.mv (.t 0)), .op (some 38) none (.nilck (.t 37)), .op (some 39) none (.off 5 (.t 38)), .op (some 40) none (.load none (.t 39)), .op (some 41) none (.mv (.t 5)), .call (some 42) none 66 [(.t 40), (.t 41)], .op (some 7) none (.mv (.t 42))]) (.seq (.seq (.region [.op (some 43) none (.mv (.t 7)), .op (some 44) none (.bin .neq false (.t 43) (.c (.int .i64 (.ofNat 0))))])  (.cond (.t 44) (.region [.op (some 45) none (.mv (.t 0)), .op (some 46) none (.nilck (.t 45)), .op (some 47) none (.off 16 (.t 46)), .op (some 48) none (.load none (.t 47)), .op (some 49) none (.bin .add false (.t 48) (.c (.int .u64 (.ofNat 1)))), .op (some 50) none (.nilck (.t 45)), .op (some 51) none (.off 16 (.t 50)), .op none none (.store 1 (.t 51) (.t 49))]) .skip)) (.seq (.region [.op (some 52) none (.mv (.t 7)), .op (some 53) none (.build [(.int .i64 (.ofNat 0)), (.slc none 0 (.known 0))] [(0, 1, (.t 52))]), .op none none (.store 2 (.t 4) (.t 53))]) .ret)))
def dvAll : CC := .seq dv0 (.seq dv1 (.seq dv2 dvR))
theorem cf27_ok : cFn Tryz.prog (cDraw Tryz.prog) 27 = some ⟨dvAll, 54, [.cell 4 (some 2)]⟩ := by kernel_rfl
def sp0 : CC := (.region [.op (some 3) none (.box 39 (.t 1)), .op (some 4) none (.alloc [(.int .i64 (.ofNat 0)), (.slc none 0 (.known 0))] 35)])
def sp2 : CC := (.region [.op (some 11) none .mkmap, .op none none (.mapset (.t 11) (.c (.int .i64 (.ofNat 1))) (.c (.func (.func 25) [] []))), .op none none (.mapset (.t 11) (.c (.int .i64 (.ofNat 2))) (.c (.func (.func 26) [] []))), .op none none (.mapset (.t 11) (.c (.int .i64 (.ofNat 3))) (.c (.func (.func 27) [] []))), .op none none (.mapset (.t 11) (.c (.int .i64 (.ofNat 4))) (.c (.func (.func 28) [] []))), .op none none (.mapset (.t 11) (.c (.int .i64 (.ofNat 5))) (.c (.func (.func 29) [] []))), .op none none (.mapset (.t 11) (.c (.int .i64 (.ofNat 6))) (.c (.func (.func 30) [] []))), .op none none (.mapset (.t 11) (.c (.int .i64 (.ofNat 7))) (.c (.func (.func 31) [] []))), .op none none (.mapset (.t 11) (.c (.int .i64 (.ofNat 8))) (.c (.func (.func 32) [] []))), .op (some 12) none (.mv (.t 11)), .op (some 13) none (.off 0 (.t 3)), .op (some 14) none (.load none (.t 13)), .op (some 15) none (.look .nilFunc true (.t 12) (.t 14)), .op (some 10) none (.mv (.t 15)), .op (some 16) none (.ext 0 (.t 10)), .op (some 17) none (.ext 1 (.t 10)), .op (some 5) none (.mv (.t 16)), .op (some 6) none (.mv (.t 17))])
def sp1d : CC := (.region [.op (some 7) none (.mv (.t 0)), .op (some 8) none (.nileq 0 false (.t 7))])
def sp1t : CC := (.seq (.region [.op (some 9) none (.build [(.int .i64 (.ofNat 0)), (.slc none 0 (.known 0))] [(0, 1, (.c (.int .i64 (.ofNat 1))))]), .op none none (.store 2 (.t 4) (.t 9))])  .ret)
def sp1 : CC := .seq sp1d (.cond (.t 8) sp1t .skip)
def sp3d : CC := (.region [.op (some 18) none (.mv (.t 6)), .op (some 19) none (.bnot (.t 18))])
def sp3t : CC := (.seq (.region [.op (some 20) none (.build [(.int .i64 (.ofNat 0)), (.slc none 0 (.known 0))] [(0, 1, (.c (.int .i64 (.ofNat 1))))]), .op none none (.store 2 (.t 4) (.t 20))])  .ret)
def sp3 : CC := .seq sp3d (.cond (.t 19) sp3t .skip)
def spL : List CR := [.op (some 21) none (.mv (.t 5)), .op (some 22) none (.mv (.t 0)), .op (some 23) none (.load (some 12) (.t 3))]
def spM : List CR := [.op none none (.store 2 (.t 4) (.t 24))]
def sp4 : CC := .region (spL ++ .callv (some 24) none (.t 21) [(.t 22), (.t 23)] :: spM)
def spAll : CC := .seq sp0 (.seq sp1 (.seq sp2 (.seq sp3 (.seq sp4 .ret))))
theorem cf11_ok : cFn Tryz.prog (cDraw Tryz.prog) 11 = some ⟨spAll, 25, [.cell 4 (some 2)]⟩ := by kernel_rfl
def stepV (k n : Nat) : AV := .agg [vI k, vW 0, vI 0, vN, vI 0, vI 0, vI 0, vN, vI n, vI 0, .bool false, .int .u8 (.ofNat 0)]
def atN (len : Nat) (c : CC) (n : Nat) (t : Tr AV) (aw : AW) : Option Out := kCode (cNo [65, 27] len) c (nat_lit 1000) t n [] aw
theorem atN_eq (len : Nat) (c : CC) (n : Nat) (t : Tr AV) (aw : AW) : atN len c n t aw = xcode (cNo [65, 27] len) 1000 c ⟨t, n, []⟩ aw := kCode_eq (cNo [65, 27] len) c 1000 t n [] aw
def sesG (g : Nat → AV) (now : Int) : AO := .cells [g 0, g 1, g 2, g 3, g 4, g 5, vP 3, vP 1, g 6, .int .i64 now, g 7, g 8, g 9, g 10, g 11, g 12, g 13] 91 false
def netO (L : Nat) : AO := .cells [.slc (some (2, 0)) L (.upto 1 L)] 144 false
def qEs (L : Nat) : List AV := (List.range L).map fun j => pkV (35 + j)
def lstQ (L : Nat) : AO := .cells (qEs L) 37 true
def mQ (g : Nat → AV) (now : Int) (L p : Nat) (D : Nat → AV) (O : Nat → AO) (k : Nat) : List AO := [sesG g now, netO L, lstQ L] ++ (List.range k).map fun q => bif Nat.beq (3 + q) (35 + p) then .cells ((List.range 17).map D) 5 true else O (3 + q)
abbrev SeenD := List (Option AV) × List (Option AO) × Nat
def seeD (ts ids : List Nat) (t : Tr AV) (aw : AW) : Option SeenD := some (ts.map (trGet t), ids.map (awGet aw), aw.nx)
def dvGo (len : Nat) (g : Nat → AV) (now : Int) (D : Nat → AV) (O : Nat → AO) (x : Nat × Nat) : Option SeenD :=
 bNn (nat_lit 54) (atN len dv0 (nat_lit 54) (tmOf [(0, vP 0), (1, stepV 3 x.1)] .leaf) (ofObjs (mQ g now x.2 x.1 D O 46) (nat_lit 49))) fun t aw => bNn (nat_lit 54) (atN len dv1 (nat_lit 54) t aw) fun t aw => bNn (nat_lit 54) (atN len dvA (nat_lit 54) t aw) fun t aw => bb2 (isFalseV (trGet t (nat_lit 18))) (bNn (nat_lit 54) (atN len dvB (nat_lit 54) t aw) fun t aw => bb2 (isTrueV (trGet t (nat_lit 22)))
  (bNn (nat_lit 54) (atN len (.region dvL) (nat_lit 54) t aw) (seeD [4, 29, 30, 34] (List.range 49 ++ [50, 52]))) none) none
def qDel (L p : Nat) : List AO := [.cells [.slc (some (2, 0)) (L - 1) (.upto 1 L)] 144 false, .cells ((qEs L).eraseIdx p ++ [vN]) 37 true]
def mQd (g : Nat → AV) (now : Int) (L p : Nat) (D : Nat → AV) (O : Nat → AO) (k : Nat) : List AO := sesG g now :: (qDel L p ++ (List.range k).map fun q => bif Nat.beq (3 + q) (35 + p) then .cells ((List.range 17).map D) 5 true else O (3 + q))
def pLs (M : Nat) : List (Nat × Nat) := (List.range M).flatMap fun l => (List.range (l + 1)).map fun p => (p, l + 1)
theorem dvGo_all : ∀ (len : Nat) (g : Nat → AV) (now : Int) (D : Nat → AV) (O : Nat → AO), (pLs 11).map (dvGo len g now D O) = (pLs 11).map fun x => some ([some (vP 50), some (vP 3), some (pkV 52), some (.int .i64 now)], (mQd g now x.2 x.1 D O 46).map some ++ [some (.cells [vI 0, vN] 35 false), some (.cells ((List.range 17).map D) 5 true)], 53) := by
 intro len g now D O
 kernel_rfl
def spGo (len : Nat) (O : Nat → AO) (n : Nat) : Option SeenD :=
 bNn (nat_lit 25) (atN len sp0 (nat_lit 25) (tmOf [(0, vP 0), (1, stepV 3 n)] .leaf) (ofObjs ((List.range 46).map O) (nat_lit 46))) fun t aw => bNn (nat_lit 25) (atN len sp1d (nat_lit 25) t aw) fun t aw => bb2 (isFalseV (trGet t (nat_lit 8))) (bNn (nat_lit 25) (atN len sp2 (nat_lit 25) t aw) fun t aw => bNn (nat_lit 25) (atN len sp3d (nat_lit 25) t aw) fun t aw => bb2 (isFalseV (trGet t (nat_lit 19)))
  (bNn (nat_lit 25) (atN len (.region spL) (nat_lit 25) t aw) (seeD [4, 21, 22, 23] (List.range 46 ++ [47]))) none) none
theorem spGo_all : ∀ (len : Nat) (O : Nat → AO) (n : Nat), spGo len O n = some ([some (vP 47), some (.func (.func 27) [] []), some (vP 0), some (stepV 3 n)], ((List.range 46).map O).map some ++ [some (.cells [vI 0, vN] 35 false)], 49) := by
 intro len O n
 kernel_rfl
def dbGo (len : Nat) (g : Nat → AV) (now : Int) (D : Nat → AV) (O : Nat → AO) (x : Nat × Nat) : Option (AV × List (Option AO) × Nat) :=
 see65 (0 :: (List.range 43).map (3 + ·) ++ [1, 52, 54]) (cLat len 11 [vP 0, stepV 5 x.1] (ofObjs (mQ g now x.2 x.1 D O 43) (nat_lit 46)))
theorem dbGo_all : ∀ (len : Nat) (g : Nat → AV) (now : Int) (D : Nat → AV) (O : Nat → AO), (pLs 10).map (dbGo len g now D O) = (pLs 10).map fun x => some (.agg [vI 0, vN], some (sesG g now) :: (((List.range 43).map fun q => bif Nat.beq (3 + q) (35 + x.1) then .cells ((List.range 17).map D) 5 true else O (3 + q)).map some) ++ [some (.cells [.slc (some (54, 0)) (x.2 + 1) (.upto 1 (x.2 + 1))] 144 false), some (.cells ((List.range 17).map D) 5 true), some (.cells ((qEs x.2).insertIdx x.1 (pkV 52)) 37 true)], 55) := by
 intro len g now D O
 kernel_rfl
theorem seq_ret {call : Call} {n : Nat} {x y : CC} {a a1 : AAct} {aw aw1 : AW} (h : xcode call n x a aw = some ⟨.ret, a1, aw1⟩) : xcode call (n + 1) (.seq x y) a aw = some ⟨.ret, a1, aw1⟩ := by simp only [xcode, h]
theorem block_ret {call : Call} {n id : Nat} {b : CC} {a a1 : AAct} {aw aw1 : AW} (h : xcode call n b a aw = some ⟨.ret, a1, aw1⟩) : xcode call (n + 1) (.block id b) a aw = some ⟨.ret, a1, aw1⟩ := by simp only [xcode, h]
theorem pLs_mem {M L p : Nat} (hL : L ≤ M) (hp : p < L) : (p, L) ∈ pLs M := by
 refine List.mem_flatMap.2 ⟨L - 1, List.mem_range.2 (by omega), List.mem_map.2 ⟨p, List.mem_range.2 (by omega), ?_⟩⟩
 rw [show L - 1 + 1 = L by omega]
theorem m65_len {O : Nat → AO} {R : List AO} {len i : Nat} (hR : R.length = 14) : (m65 O R len i).length = 53 := by simp [m65, hR]
theorem m65_at {O : Nat → AO} {R : List AO} {len i : Nat} (hR : R.length = 14) {tl : List AO} {j : Nat} {x : AO} (h : (m65 O R len i ++ tl)[j]? = some x) :
  (j < 3 ∧ x = O j) ∨ (∃ u, j = 3 + u ∧ R[u]? = some x) ∨ (17 ≤ j ∧ j < 52 ∧ x = O j) ∨ (j = 52 ∧ x = .cells (pktL len i) 5 true) ∨ (53 ≤ j ∧ tl[j - 53]? = some x) := by
 by_cases h1 : j < 53
 ·rw [lal (by rw [m65_len hR]; exact h1)] at h
  have e : m65 O R len i = [O 0, O 1, O 2] ++ (R ++ (((List.range 35).map fun q => O (17 + q)) ++ [.cells (pktL len i) 5 true])) := by simp [m65]
  rw [e] at h
  by_cases h2 : j < 3
  ·rw [lal (by simpa using h2)] at h
   refine .inl ⟨h2, ?_⟩
   match j, h2, h with
   | 0, _, h => injection h with h; exact h.symm
   | 1, _, h => injection h with h; exact h.symm
   | 2, _, h => injection h with h; exact h.symm
  ·rw [lar (by simp; omega)] at h
   by_cases h3 : j < 17
   ·rw [lal (by simp [hR]; omega)] at h
    exact .inr (.inl ⟨j - 3, by omega, by simpa using h⟩)
   ·rw [lar (by simp [hR]; omega)] at h
    simp only [List.length_cons, List.length_nil, hR] at h
    by_cases h4 : j < 52
    ·rw [lal (by simp; omega), List.getElem?_map, Option.map_eq_some_iff] at h
     obtain ⟨y, hy, rfl⟩ := h
     obtain ⟨hy1, hy2⟩ := lgs.1 hy
     simp only [List.getElem_range] at hy2
     exact .inr (.inr (.inl ⟨by omega, h4, by rw [← hy2]; congr 1; omega⟩))
    ·rw [lar (by simp; omega)] at h
     have : j = 52 := by omega
     subst this
     simp at h
     exact .inr (.inr (.inr (.inl ⟨rfl, h.symm⟩)))
 ·rw [lar (by rw [m65_len hR]; omega), m65_len hR] at h
  exact .inr (.inr (.inr (.inr ⟨by omega, h⟩)))
theorem pktL_len {len i : Nat} : (pktL len i).length = 17 := by simp [pktL, pktH]
def pkD (len i : Nat) : Nat → AV := fun q => (pktL len i).getD q .undef
theorem pkD_eq {len i : Nat} : (List.range 17).map (pkD len i) = pktL len i := by
 refine List.ext_getElem? fun j => ?_
 by_cases h : j < 17
 ·rw [List.getElem?_map, List.getElem?_range h, Option.map_some]
  unfold pkD
  rw [List.getD_eq_getElem?_getD, lge (by rw [pktL_len]; exact h)]; rfl
 ·rw [List.getElem?_eq_none (by simp; omega), List.getElem?_eq_none (by rw [pktL_len]; omega)]
def withR (O : Nat → AO) (R : List AO) : Nat → AO := fun q => bif Nat.blt q 17 then R.getD (q - 3) .dead else O q
theorem withR_hi {O : Nat → AO} {R : List AO} {q : Nat} (h : 17 ≤ q) : withR O R q = O q := by
 unfold withR
 cases hb : Nat.blt q 17 with
 | true => have := nbl hb; omega
 | false => rfl
theorem withR_lo {O : Nat → AO} {R : List AO} {u : Nat} {x : AO} (h : R[u]? = some x) (hu : u < 14) : withR O R (3 + u) = x := by
 unfold withR
 have hb : Nat.blt (3 + u) 17 = true := Nat.ble_eq_true_of_le (by omega : 3 + u + 1 ≤ 17)
 rw [hb, cond_true, show 3 + u - 3 = u by omega, List.getD_eq_getElem?_getD, h]; rfl
def mHd (g : Nat → AV) (now : Int) (L p len i : Nat) (O : Nat → AO) : Nat → AO := fun q => match q with
 | 0 => sesG g now
 | 1 => .cells [.slc (some (2, 0)) (L - 1) (.upto 1 L)] 144 false
 | 2 => .cells ((qEs L).eraseIdx p ++ [vN]) 37 true
 | q => bif Nat.beq q (35 + p) then .cells (pktL len i) 5 true else bif Nat.beq q 50 then .cells [vI 0, vN] 35 false else bif Nat.blt q 49 then O q else .dead
theorem mQd_at {g : Nat → AV} {now : Int} {L p len i : Nat} {O : Nat → AO} {R : List AO} {j : Nat} (h1 : j < 3 ∨ 17 ≤ j) (h2 : j < 49) : (mQd g now L p (pkD len i) (withR O R) 46)[j]? = some (mHd g now L p len i O j) := by
 unfold mQd qDel
 match j, h1, h2 with
 | 0, _, _ => rfl
 | 1, _, _ => rfl
 | 2, _, _ => rfl
 | j + 3, h1, h2 =>
  show ((List.range 46).map fun q => _)[j]? = _
  rw [List.getElem?_map, List.getElem?_range (by omega), Option.map_some, pkD_eq]
  show _ = some (bif Nat.beq (j + 3) (35 + p) then _ else _)
  rw [Nat.add_comm 3 j]
  cases hb : Nat.beq (j + 3) (35 + p) with
  | true => rfl
  | false =>
   have h50 : Nat.beq (j + 3) 50 = false := by
    cases hq : Nat.beq (j + 3) 50 with
    | true => have := nbt hq; omega
    | false => rfl
   have hlt : Nat.blt (j + 3) 49 = true := Nat.ble_eq_true_of_le (by omega : j + 3 + 1 ≤ 49)
   rw [h50, hlt, cond_false, cond_false, cond_true, cond_false, withR_hi (by omega)]
theorem mQd_R {g : Nat → AV} {now : Int} {L p len i : Nat} {O : Nat → AO} {R : List AO} {u : Nat} {x : AO} (hu : u < 14) (h : R[u]? = some x) : (mQd g now L p (pkD len i) (withR O R) 46)[3 + u]? = some x := by
 unfold mQd qDel
 rw [Nat.add_comm 3 u]
 show ((List.range 46).map fun q => _)[u]? = _
 rw [List.getElem?_map, List.getElem?_range (by omega), Option.map_some]
 have hb : Nat.beq (3 + u) (35 + p) = false := by
  cases hq : Nat.beq (3 + u) (35 + p) with
  | true => have := nbt hq; omega
  | false => rfl
 rw [hb, cond_false, withR_lo h hu]
theorem del27 {len i L p : Nat} {g : Nat → AV} {now : Int} {O : Nat → AO} {R R' tl : List AO} (hp : p < L) (hL : L ≤ 11) (hR : R.length = 14) (hR' : R'.length = 14)
  (h65 : ∀ O : Nat → AO, CallsAt 65 [vP 3, pkV 52, .int .i64 now] (ofObjs (m65 O R len i) 53) (.ret (vI 0) (ofObjs (m65 O R' len i ++ tl) (53 + tl.length)))) :
  callable Tryz.prog 27 = true ∧ CallsAt 27 [vP 0, stepV 3 p] (ofObjs (mQ g now L p (pkD len i) (withR O R) 46) 49) (.ret (.agg [vI 0, vN]) (ofObjs (m65 (mHd g now L p len i O) R' len i ++ tl) (53 + tl.length))) := by
 have e := List.map_inj_left.1 (dvGo_all len g now (pkD len i) (withR O R)) (p, L) (pLs_mem hL hp)
 unfold dvGo at e
 dsimp only at e
 obtain ⟨t0, aw0, e0, e⟩ := bNn_ok e
 obtain ⟨t1, aw1, e1, e⟩ := bNn_ok e
 obtain ⟨t2, aw2, e2, e⟩ := bNn_ok e
 rw [bb2_eq] at e
 cases hb : isFalseV (trGet t2 (nat_lit 18)) <;> simp only [hb, cond_true, cond_false, reduceCtorEq] at e
 have h18 := isFalseV_ok hb
 rw [trGet_eq] at h18
 obtain ⟨t3, aw3, e3, e⟩ := bNn_ok e
 rw [bb2_eq] at e
 cases hb2 : isTrueV (trGet t3 (nat_lit 22)) <;> simp only [hb2, cond_true, cond_false, reduceCtorEq] at e
 have h22 := isTrueV_ok hb2
 rw [trGet_eq] at h22
 obtain ⟨t4, aw4, e4, e⟩ := bNn_ok e
 simp only [seeD, sI, pmi] at e
 obtain ⟨ht, hm, hn⟩ := e
 rw [atN_eq] at e0 e1 e2 e3 e4
 simp only [List.map_cons, List.map_nil, List.cons.injEq, and_true, trGet_eq] at ht
 obtain ⟨k4, k29, k30, k34⟩ := ht
 obtain ⟨g1, g2⟩ := see_split (by simp [mQd, qDel]) hm
 simp only [List.map_cons, List.map_nil, List.cons.injEq, and_true, awGet_eq] at g2
 obtain ⟨g50, g52⟩ := g2
 rw [pkD_eq] at g52
 have hcall : CallsAt 65 [vP 3, pkV 52, .int .i64 now] aw4 (.ret (vI 0) (ofObjs (m65 (mHd g now L p len i O) R' len i ++ tl) (53 + tl.length))) := by
  refine (h65 (mHd g now L p len i O)).less (by rw [hn]; rfl) fun j x hj => ?_
  rw [ofObjs_get, ← List.append_nil (m65 (mHd g now L p len i O) R len i)] at hj
  rcases m65_at hR hj with ⟨h1, rfl⟩ | ⟨u, rfl, hu⟩ | ⟨h1, h2, rfl⟩ | ⟨rfl, rfl⟩ | ⟨_, h⟩
  ·exact .inr (g1 j _ (mQd_at (.inl h1) (by omega)))
  ·exact .inr (g1 _ _ (mQd_R (by have := (lgs.1 hu).1; omega) hu))
  ·by_cases h49 : j < 49
   ·exact .inr (g1 j _ (mQd_at (.inr h1) h49))
   ·by_cases h50 : j = 50
    ·subst h50
     have hne : Nat.beq 50 (35 + p) = false := by
      cases hq : Nat.beq 50 (35 + p) with
      | true => have := nbt hq; omega
      | false => rfl
     refine .inr (g50.trans ?_)
     show _ = some (bif Nat.beq 50 (35 + p) then _ else _)
     rw [hne]; rfl
    ·refine .inl ⟨?_, by rw [hn]; omega⟩
     match j, h1, h49, h50, h2 with
     | j + 3, h1, h49, h50, h2 =>
      show (bif Nat.beq (j + 3) (35 + p) then _ else _) = AO.dead
      have q1 : Nat.beq (j + 3) (35 + p) = false := by
       cases hq : Nat.beq (j + 3) (35 + p) with
       | true => have := nbt hq; omega
       | false => rfl
      have q2 : Nat.beq (j + 3) 50 = false := by
       cases hq : Nat.beq (j + 3) 50 with
       | true => exact (h50 (nbt hq)).elim
       | false => rfl
      have q3 : Nat.blt (j + 3) 49 = false := by
       cases hq : Nat.blt (j + 3) 49 with
       | true => have : j + 3 + 1 ≤ 49 := nbl hq; omega
       | false => rfl
      rw [q1, q2, q3]; rfl
  ·exact .inr g52
  ·cases h
 obtain ⟨res0, hres0⟩ : ∃ res0, res0 = ARes.ret (vI 0) (ofObjs (m65 (mHd g now L p len i O) R' len i ++ tl) (53 + tl.length)) := ⟨_, rfl⟩
 rw [← hres0] at hcall
 obtain ⟨call, hcl⟩ : ∃ call, call = cOne (cNo [65, 27] len) 65 [vP 3, pkV 52, .int .i64 now] aw4 res0 := ⟨_, rfl⟩
 have hext : ∀ f args aw r, cNo [65, 27] len f args aw = some r → call f args aw = some r := fun f args aw r h => by rw [hcl]; exact cOne_ext h
 have hone : call 65 [vP 3, pkV 52, .int .i64 now] aw4 = some (.ret (vI 0) (ofObjs (m65 (mHd g now L p len i O) R' len i ++ tl) (53 + tl.length))) := by
  rw [hcl, ← hres0]; exact cOne_at (cNo_65 _ _ _)
 have hok : CallOK Tryz.prog call := by
  rw [hcl]; exact cOne_ok (cNo_ok _ _) (by kernel_rfl) hcall
 have m0 := xcode_mono hext e0
 have m1 := xcode_mono hext e1
 have m2 := xcode_mono hext e2
 have m3 := xcode_mono hext e3
 have m4 := xcode_mono hext e4
 obtain ⟨awC, hC⟩ : ∃ awC, awC = ofObjs (m65 (mHd g now L p len i O) R' len i ++ tl) (53 + tl.length) := ⟨_, rfl⟩
 rw [← hC] at hone
 have c50 : awC.get 50 = some (.cells [vI 0, vN] 35 false) := by
  have hlt : 50 < (m65 (mHd g now L p len i O) R' len i ++ tl).length := by rw [List.length_append, m65_len hR']; omega
  rw [hC, ofObjs_get]
  have hx := lge hlt
  rcases m65_at hR' hx with ⟨h1, _⟩ | ⟨u, h1, hu⟩ | ⟨_, _, h3⟩ | ⟨h1, _⟩ | ⟨h1, _⟩
  ·omega
  ·have := (lgs.1 hu).1; omega
  ·rw [hx, h3]
   have hne : Nat.beq 50 (35 + p) = false := by
    cases hq : Nat.beq 50 (35 + p) with
    | true => have := nbt hq; omega
    | false => rfl
   show some (bif Nat.beq 50 (35 + p) then _ else _) = _
   rw [hne]; rfl
  ·omega
  ·omega
 have hevs : evs t4 [.t 29, .t 30, .t 34] = some [vP 3, pkV 52, .int .i64 now] := by simp only [evs, Opd.ev, k29, k30, k34]
 have hput : (⟨t4, 54, []⟩ : AAct).put (some 35) (vI 0) = some ⟨t4.set 35 35 (vI 0), 54, []⟩ := by simp only [AAct.put]; rfl
 have hfill : xfill (t4.set 35 35 (vI 0)) [.int .i64 (.ofNat 0), .slc none 0 (.known 0)] [(0, 1, .t 35)] = some [vI 0, vN] := by
  have : Opd.ev (t4.set 35 35 (vI 0)) (.t 35) = some (vI 0) := Tr.get_set_same ..
  simp only [xfill, this]; rfl
 have hbuild : xitems call dvM ⟨t4.set 35 35 (vI 0), 54, []⟩ awC = some ⟨.norm, ⟨(t4.set 35 35 (vI 0)).set 36 36 (.agg [vI 0, vN]), 54, []⟩, awC⟩ := by
  unfold dvM
  rw [items_op (v := .agg [vI 0, vN]) (aw1 := awC) (by simp only [xop, hfill]) rfl]; rfl
 have g4 : ((t4.set 35 35 (vI 0)).set 36 36 (.agg [vI 0, vN])).get 4 4 = some (vP 50) := by rw [tgo (by decide), tgo (by decide)]; exact k4
 have hstore : xitems call dvS ⟨(t4.set 35 35 (vI 0)).set 36 36 (.agg [vI 0, vN]), 54, []⟩ awC = some ⟨.norm, ⟨(t4.set 35 35 (vI 0)).set 36 36 (.agg [vI 0, vN]), 54, []⟩, awC.set 50 (.cells [vI 0, vN] 35 false)⟩ := by
  have s1 : Opd.ev ((t4.set 35 35 (vI 0)).set 36 36 (.agg [vI 0, vN])) (.t 4) = some (vP 50) := g4
  have s2 : Opd.ev ((t4.set 35 35 (vI 0)).set 36 36 (.agg [vI 0, vN])) (.t 36) = some (.agg [vI 0, vN]) := Tr.get_set_same ..
  have s3 : xstore awC 2 (vP 50) (.agg [vI 0, vN]) = some (.tuple [], awC.set 50 (.cells [vI 0, vN] 35 false)) := by
   have hcs : (AV.agg [vI 0, vN]).cells = some [vI 0, vN] := rfl
   unfold xstore vP
   simp only [hcs, c50]; rfl
  unfold dvS
  simp only [xitems, xguard, xop, s1, s2, s3, AAct.put]
 have hD : xcode call (990 + 1) dvD ⟨t3, 54, []⟩ aw3 = some ⟨.norm, ⟨(t4.set 35 35 (vI 0)).set 36 36 (.agg [vI 0, vN]), 54, []⟩, awC.set 50 (.cells [vI 0, vN] 35 false)⟩ := by
  refine draw_eq (a1 := ⟨(t4.set 35 35 (vI 0)).set 36 36 (.agg [vI 0, vN]), 54, []⟩) (aw1 := awC) ?_ hstore
  rw [xitems_pre (show xitems call dvL ⟨t3, 54, []⟩ aw3 = some ⟨.norm, ⟨t4, 54, []⟩, aw4⟩ from m4)]
  simp only [xitems, xguard, hevs, hone, xback, hput]
  exact hbuild
 obtain ⟨tz, htz⟩ : ∃ tz, tz = (t4.set 35 35 (vI 0)).set 36 36 (.agg [vI 0, vN]) := ⟨_, rfl⟩
 obtain ⟨awZ, hZ⟩ : ∃ awZ, awZ = awC.set 50 (.cells [vI 0, vN] 35 false) := ⟨_, rfl⟩
 rw [← htz, ← hZ] at hD
 rw [← htz] at g4
 have b1 : xcode call (996 + 1) dv2 ⟨t1, 54, []⟩ aw1 = some ⟨.ret, ⟨tz, 54, []⟩, awZ⟩ := by
  refine block_ret ?_
  rw [show (996 : Nat) = 995 + 1 from rfl, seq_norm (show xcode call 995 dvA ⟨t1, 54, []⟩ aw1 = some ⟨.norm, ⟨t2, 54, []⟩, aw2⟩ from m2), show (995 : Nat) = 994 + 1 from rfl, cond_b (u := false) (show Opd.ev t2 (.t 18) = _ from h18)]
  show xcode call (993 + 1) (.seq dvB (.cond (.t 22) (.seq dvD .ret) .skip)) _ _ = _
  rw [seq_norm (show xcode call 993 dvB ⟨t2, 54, []⟩ aw2 = some ⟨.norm, ⟨t3, 54, []⟩, aw3⟩ from m3), show (993 : Nat) = 992 + 1 from rfl, cond_b (u := true) (show Opd.ev t3 (.t 22) = _ from h22)]
  show xcode call (991 + 1) (.seq dvD .ret) _ _ = _
  rw [seq_norm (show xcode call 991 dvD ⟨t3, 54, []⟩ aw3 = _ from hD)]; rfl
 have hbody : xcode call 1000 dvAll ⟨slots [vP 0, stepV 3 p] 0 .leaf, 54, []⟩ (ofObjs (mQ g now L p (pkD len i) (withR O R) 46) 49) = some ⟨.ret, ⟨tz, 54, []⟩, awZ⟩ := by
  have e : slots [vP 0, stepV 3 p] 0 .leaf = tmOf [(0, vP 0), (1, stepV 3 p)] .leaf := by kernel_rfl
  rw [e]
  show xcode call (999 + 1) (.seq dv0 (.seq dv1 (.seq dv2 dvR))) _ _ = _
  rw [seq_norm (show xcode call 999 dv0 _ _ = some ⟨.norm, ⟨t0, 54, []⟩, aw0⟩ from m0), show (999 : Nat) = 998 + 1 from rfl, seq_norm (show xcode call 998 dv1 ⟨t0, 54, []⟩ aw0 = some ⟨.norm, ⟨t1, 54, []⟩, aw1⟩ from m1), show (998 : Nat) = 997 + 1 from rfl]
  exact seq_ret b1
 have z50 : awZ.get 50 = some (.cells [vI 0, vN] 35 false) := by rw [hZ]; exact Tr.get_set_same ..
 have hx : xres ⟨tz, 54, []⟩ awZ [.cell 4 (some 2)] = some [.agg [vI 0, vN]] := by
  have hl : xload awZ (some 2) (vP 50) = some (.agg [vI 0, vN]) := by
   unfold xload vP
   simp only [z50]; rfl
  simp only [xres, g4, hl]
 obtain ⟨hc, hat⟩ := fn_at hok cf27_ok (args := [vP 0, stepV 3 p]) (by show 2 ≤ 54; omega) hbody hx
 refine ⟨hc, CallsAt.ends hat ?_ fun j x hj => .inr ?_⟩
 ·rw [hZ, hC]; rfl
 ·rw [← hC] at hj
  by_cases h5 : j = 50
  ·subst h5; rw [z50, ← hj, c50]
  ·rw [hZ]; exact (tgo h5).trans hj
theorem list_fun {α : Type} {l : List α} {n : Nat} (h : l.length = n) (d : α) : (List.range n).map (fun q => l.getD q d) = l := by
 subst h
 refine List.ext_getElem? fun j => ?_
 by_cases h : j < l.length
 ·rw [List.getElem?_map, List.getElem?_range h, Option.map_some, List.getD_eq_getElem?_getD, lge h]; rfl
 ·rw [List.getElem?_eq_none (by simp; omega), List.getElem?_eq_none (by omega)]
theorem mQ_len {g : Nat → AV} {now : Int} {L p : Nat} {D : Nat → AV} {O : Nat → AO} {k : Nat} : (mQ g now L p D O k).length = 3 + k := by simp [mQ]; omega
theorem mQ_at {g : Nat → AV} {now : Int} {L p : Nat} {D : Nat → AV} {O : Nat → AO} {k j : Nat} {x : AO} (h : (mQ g now L p D O k)[j]? = some x) (h3 : 3 ≤ j) : j < 3 + k ∧ x = bif Nat.beq j (35 + p) then .cells ((List.range 17).map D) 5 true else O j := by
 unfold mQ at h
 obtain ⟨u, rfl⟩ : ∃ u, j = u + 3 := ⟨j - 3, by omega⟩
 have h : ((List.range k).map fun q => bif Nat.beq (3 + q) (35 + p) then AO.cells ((List.range 17).map D) 5 true else O (3 + q))[u]? = some x := h
 rw [List.getElem?_map, Option.map_eq_some_iff] at h
 obtain ⟨y, hy, rfl⟩ := h
 obtain ⟨hy1, hy2⟩ := lgs.1 hy
 simp only [List.getElem_range] at hy2
 subst hy2
 simp only [List.length_range] at hy1
 exact ⟨by omega, by rw [Nat.add_comm 3 u]⟩
theorem mQ_get {g : Nat → AV} {now : Int} {L p : Nat} {D : Nat → AV} {O : Nat → AO} {k j : Nat} (h3 : 3 ≤ j) (hk : j < 3 + k) : (mQ g now L p D O k)[j]? = some (bif Nat.beq j (35 + p) then .cells ((List.range 17).map D) 5 true else O j) := by
 have hlt : j < (mQ g now L p D O k).length := by rw [mQ_len]; exact hk
 have hx := lge hlt
 rw [hx, (mQ_at hx h3).2]
theorem mQ_low {g : Nat → AV} {now : Int} {L p : Nat} {D : Nat → AV} {O O' : Nat → AO} {k k' j : Nat} (h3 : j < 3) : (mQ g now L p D O k)[j]? = (mQ g now L p D O' k')[j]? := by
 match j, h3 with
 | 0, _ => rfl
 | 1, _ => rfl
 | 2, _ => rfl
def withS (O : Nat → AO) : Nat → AO := fun q => bif Nat.blt q 46 then O q else bif Nat.beq q 47 then .cells [vI 0, vN] 35 false else .dead
theorem withS_lo {O : Nat → AO} {q : Nat} (h : q < 46) : withS O q = O q := by
 unfold withS
 rw [show Nat.blt q 46 = true from Nat.ble_eq_true_of_le (by omega : q + 1 ≤ 46)]; rfl
theorem withR_S {O : Nat → AO} {R : List AO} {q : Nat} (h : q < 46) : withR (withS O) R q = withR O R q := by
 unfold withR
 cases Nat.blt q 17 with
 | true => rfl
 | false => exact withS_lo h
theorem del11 {len i L p : Nat} {g : Nat → AV} {now : Int} {O : Nat → AO} {R R' tl : List AO} (hp : p < L) (hL : L ≤ 11) (hR : R.length = 14) (hR' : R'.length = 14)
  (h65 : ∀ O : Nat → AO, CallsAt 65 [vP 3, pkV 52, .int .i64 now] (ofObjs (m65 O R len i) 53) (.ret (vI 0) (ofObjs (m65 O R' len i ++ tl) (53 + tl.length)))) :
  callable Tryz.prog 11 = true ∧ CallsAt 11 [vP 0, stepV 3 p] (ofObjs (mQ g now L p (pkD len i) (withR O R) 43) 46) (.ret (.agg [vI 0, vN]) (ofObjs (m65 (mHd g now L p len i (withS O)) R' len i ++ tl) (53 + tl.length))) := by
 have e := spGo_all len (fun q => (mQ g now L p (pkD len i) (withR O R) 43).getD q .dead) p
 unfold spGo at e
 rw [list_fun (by rw [mQ_len])] at e
 obtain ⟨t0, aw0, e0, e⟩ := bNn_ok e
 obtain ⟨t1, aw1, e1, e⟩ := bNn_ok e
 rw [bb2_eq] at e
 cases hb : isFalseV (trGet t1 (nat_lit 8)) <;> simp only [hb, cond_true, cond_false, reduceCtorEq] at e
 have h8 := isFalseV_ok hb
 rw [trGet_eq] at h8
 obtain ⟨t2, aw2, e2, e⟩ := bNn_ok e
 obtain ⟨t3, aw3, e3, e⟩ := bNn_ok e
 rw [bb2_eq] at e
 cases hb2 : isFalseV (trGet t3 (nat_lit 19)) <;> simp only [hb2, cond_true, cond_false, reduceCtorEq] at e
 have h19 := isFalseV_ok hb2
 rw [trGet_eq] at h19
 obtain ⟨t4, aw4, e4, e⟩ := bNn_ok e
 simp only [seeD, sI, pmi] at e
 obtain ⟨ht, hm, hn⟩ := e
 rw [atN_eq] at e0 e1 e2 e3 e4
 simp only [List.map_cons, List.map_nil, List.cons.injEq, and_true, trGet_eq] at ht
 obtain ⟨k4, k21, k22, k23⟩ := ht
 obtain ⟨g1, g2⟩ := see_split (by rw [mQ_len]) hm
 simp only [List.map_cons, List.map_nil, List.cons.injEq, and_true, awGet_eq] at g2
 obtain ⟨hc27, h27⟩ := del27 (g := g) (O := withS O) hp hL hR hR' h65
 have hcall : CallsAt 27 [vP 0, stepV 3 p] aw4 (.ret (.agg [vI 0, vN]) (ofObjs (m65 (mHd g now L p len i (withS O)) R' len i ++ tl) (53 + tl.length))) := by
  refine h27.less (by rw [hn]; rfl) fun j x hj => ?_
  rw [ofObjs_get] at hj
  by_cases h3 : j < 3
  ·exact .inr (g1 j x (by rw [← hj]; exact mQ_low h3))
  ·obtain ⟨hlt, hx⟩ := mQ_at hj (by omega)
   by_cases h46 : j < 46
   ·rw [withR_S h46] at hx
    exact .inr (g1 j x (by rw [mQ_get (by omega) (by omega), hx]))
   ·have q1 : Nat.beq j (35 + p) = false := by
     cases hq : Nat.beq j (35 + p) with
     | true => have := nbt hq; omega
     | false => rfl
    rw [q1, cond_false, withR_hi (by omega)] at hx
    have q2 : Nat.blt j 46 = false := by
     cases hq : Nat.blt j 46 with
     | true => have : j + 1 ≤ 46 := nbl hq; omega
     | false => rfl
    unfold withS at hx
    rw [q2, cond_false] at hx
    by_cases h47 : j = 47
    ·subst h47
     exact .inr (g2.trans (by rw [hx]; rfl))
    ·have q3 : Nat.beq j 47 = false := by
      cases hq : Nat.beq j 47 with
      | true => exact (h47 (nbt hq)).elim
      | false => rfl
     rw [q3, cond_false] at hx
     exact .inl ⟨hx, by rw [hn]; omega⟩
 obtain ⟨res0, hres0⟩ : ∃ res0, res0 = ARes.ret (.agg [vI 0, vN]) (ofObjs (m65 (mHd g now L p len i (withS O)) R' len i ++ tl) (53 + tl.length)) := ⟨_, rfl⟩
 rw [← hres0] at hcall
 obtain ⟨call, hcl⟩ : ∃ call, call = cOne (cNo [65, 27] len) 27 [vP 0, stepV 3 p] aw4 res0 := ⟨_, rfl⟩
 have hext : ∀ f args aw r, cNo [65, 27] len f args aw = some r → call f args aw = some r := fun f args aw r h => by rw [hcl]; exact cOne_ext h
 have hone : call 27 [vP 0, stepV 3 p] aw4 = some (.ret (.agg [vI 0, vN]) (ofObjs (m65 (mHd g now L p len i (withS O)) R' len i ++ tl) (53 + tl.length))) := by
  rw [hcl, ← hres0]; exact cOne_at (cNo_27 _ _ _)
 have hok : CallOK Tryz.prog call := by
  rw [hcl]; exact cOne_ok (cNo_ok _ _) hc27 hcall
 have m0 := xcode_mono hext e0
 have m1 := xcode_mono hext e1
 have m2 := xcode_mono hext e2
 have m3 := xcode_mono hext e3
 have m4 := xcode_mono hext e4
 obtain ⟨awC, hC⟩ : ∃ awC, awC = ofObjs (m65 (mHd g now L p len i (withS O)) R' len i ++ tl) (53 + tl.length) := ⟨_, rfl⟩
 rw [← hC] at hone
 have c47 : awC.get 47 = some (.cells [vI 0, vN] 35 false) := by
  have hlt : 47 < (m65 (mHd g now L p len i (withS O)) R' len i ++ tl).length := by rw [List.length_append, m65_len hR']; omega
  rw [hC, ofObjs_get]
  have hx := lge hlt
  rcases m65_at hR' hx with ⟨h1, _⟩ | ⟨u, h1, hu⟩ | ⟨_, _, h3⟩ | ⟨h1, _⟩ | ⟨h1, _⟩
  ·omega
  ·have := (lgs.1 hu).1; omega
  ·rw [hx, h3]
   have hne : Nat.beq 47 (35 + p) = false := by
    cases hq : Nat.beq 47 (35 + p) with
    | true => have := nbt hq; omega
    | false => rfl
   show some (bif Nat.beq 47 (35 + p) then _ else _) = _
   rw [hne]; rfl
  ·omega
  ·omega
 have hf : Opd.ev t4 (.t 21) = some (.func (.func 27) [] []) := k21
 have hevs : evs t4 [.t 22, .t 23] = some [vP 0, stepV 3 p] := by simp only [evs, Opd.ev, k22, k23]
 have hput : (⟨t4, 25, []⟩ : AAct).put (some 24) (.agg [vI 0, vN]) = some ⟨t4.set 24 24 (.agg [vI 0, vN]), 25, []⟩ := by simp only [AAct.put]; rfl
 have hstore : xitems call spM ⟨t4.set 24 24 (.agg [vI 0, vN]), 25, []⟩ awC = some ⟨.norm, ⟨t4.set 24 24 (.agg [vI 0, vN]), 25, []⟩, awC.set 47 (.cells [vI 0, vN] 35 false)⟩ := by
  have s1 : Opd.ev (t4.set 24 24 (.agg [vI 0, vN])) (.t 4) = some (vP 47) := (tgo (by decide)).trans k4
  have s2 : Opd.ev (t4.set 24 24 (.agg [vI 0, vN])) (.t 24) = some (.agg [vI 0, vN]) := Tr.get_set_same ..
  have s3 : xstore awC 2 (vP 47) (.agg [vI 0, vN]) = some (.tuple [], awC.set 47 (.cells [vI 0, vN] 35 false)) := by
   have hcs : (AV.agg [vI 0, vN]).cells = some [vI 0, vN] := rfl
   unfold xstore vP
   simp only [hcs, c47]; rfl
  unfold spM
  simp only [xitems, xguard, xop, s1, s2, s3, AAct.put]
 have h4 : xitems call (spL ++ .callv (some 24) none (.t 21) [(.t 22), (.t 23)] :: spM) ⟨t3, 25, []⟩ aw3 = some ⟨.norm, ⟨t4.set 24 24 (.agg [vI 0, vN]), 25, []⟩, awC.set 47 (.cells [vI 0, vN] 35 false)⟩ := by
  rw [xitems_pre (show xitems call spL ⟨t3, 25, []⟩ aw3 = some ⟨.norm, ⟨t4, 25, []⟩, aw4⟩ from m4)]
  simp only [xitems, xguard, hf, hevs, List.nil_append, List.append_nil, hone, xback, hput]
  exact hstore
 obtain ⟨tz, htz⟩ : ∃ tz, tz = t4.set 24 24 (.agg [vI 0, vN]) := ⟨_, rfl⟩
 obtain ⟨awZ, hZ⟩ : ∃ awZ, awZ = awC.set 47 (.cells [vI 0, vN] 35 false) := ⟨_, rfl⟩
 rw [← htz, ← hZ] at h4
 have g4 : tz.get 4 4 = some (vP 47) := by rw [htz]; exact (tgo (by decide)).trans k4
 have hbody : xcode call 1000 spAll ⟨slots [vP 0, stepV 3 p] 0 .leaf, 25, []⟩ (ofObjs (mQ g now L p (pkD len i) (withR O R) 43) 46) = some ⟨.ret, ⟨tz, 25, []⟩, awZ⟩ := by
  have e : slots [vP 0, stepV 3 p] 0 .leaf = tmOf [(0, vP 0), (1, stepV 3 p)] .leaf := by kernel_rfl
  rw [e]
  show xcode call (999 + 1) (.seq sp0 (.seq sp1 (.seq sp2 (.seq sp3 (.seq sp4 .ret))))) _ _ = _
  rw [seq_norm (show xcode call 999 sp0 _ _ = some ⟨.norm, ⟨t0, 25, []⟩, aw0⟩ from m0), show (999 : Nat) = 998 + 1 from rfl,
   seq_norm (show xcode call 998 sp1 ⟨t0, 25, []⟩ aw0 = some ⟨.norm, ⟨t1, 25, []⟩, aw1⟩ from by
    show xcode call (997 + 1) (.seq sp1d (.cond (.t 8) sp1t .skip)) _ _ = _
    rw [seq_norm (show xcode call 997 sp1d ⟨t0, 25, []⟩ aw0 = some ⟨.norm, ⟨t1, 25, []⟩, aw1⟩ from m1), show (997 : Nat) = 996 + 1 from rfl, cond_b (u := false) (show Opd.ev t1 (.t 8) = _ from h8)]; rfl),
   show (998 : Nat) = 997 + 1 from rfl, seq_norm (show xcode call 997 sp2 ⟨t1, 25, []⟩ aw1 = some ⟨.norm, ⟨t2, 25, []⟩, aw2⟩ from m2), show (997 : Nat) = 996 + 1 from rfl,
   seq_norm (show xcode call 996 sp3 ⟨t2, 25, []⟩ aw2 = some ⟨.norm, ⟨t3, 25, []⟩, aw3⟩ from by
    show xcode call (995 + 1) (.seq sp3d (.cond (.t 19) sp3t .skip)) _ _ = _
    rw [seq_norm (show xcode call 995 sp3d ⟨t2, 25, []⟩ aw2 = some ⟨.norm, ⟨t3, 25, []⟩, aw3⟩ from m3), show (995 : Nat) = 994 + 1 from rfl, cond_b (u := false) (show Opd.ev t3 (.t 19) = _ from h19)]; rfl),
   show (996 : Nat) = 995 + 1 from rfl, seq_norm (show xcode call 995 sp4 ⟨t3, 25, []⟩ aw3 = some ⟨.norm, ⟨tz, 25, []⟩, awZ⟩ from h4)]
  rfl
 have z47 : awZ.get 47 = some (.cells [vI 0, vN] 35 false) := by rw [hZ]; exact Tr.get_set_same ..
 have hx : xres ⟨tz, 25, []⟩ awZ [.cell 4 (some 2)] = some [.agg [vI 0, vN]] := by
  have hl : xload awZ (some 2) (vP 47) = some (.agg [vI 0, vN]) := by
   unfold xload vP
   simp only [z47]; rfl
  simp only [xres, g4, hl]
 obtain ⟨hc, hat⟩ := fn_at hok cf11_ok (args := [vP 0, stepV 3 p]) (by show 2 ≤ 25; omega) hbody hx
 refine ⟨hc, CallsAt.ends hat ?_ fun j x hj => .inr ?_⟩
 ·rw [hZ, hC]; rfl
 ·rw [← hC] at hj
  by_cases h5 : j = 47
  ·subst h5; rw [z47, ← hj, c47]
  ·rw [hZ]; exact (tgo h5).trans hj
def ren1 (f : Nat → Nat) : AV → AV
 | .ptr (some (q, o)) => .ptr (some (f q, o))
 | .slc (some (q, o)) n c => .slc (some (f q, o)) n c
 | .map (some q) => .map (some (f q))
 | a => a
def ok1 (N : Nat) : AV → Bool
 | .undef => true
 | .int _ _ => true
 | .sym _ _ => true
 | .bool _ => true
 | .ptr none => true
 | .ptr (some (q, _)) => Nat.blt q N
 | .slc none _ _ => true
 | .slc (some (q, _)) _ _ => Nat.blt q N
 | .map none => true
 | .map (some q) => Nat.blt q N
 | .nilFunc => true
 | .nilIface => true
 | _ => false
section
variable {E E' : Env} {f : Nat → Nat} {N : Nat} (hs : E'.sym = E.sym) (hl : ∀ q, q < N → ∀ L, E.loc[f q]? = some L → E'.loc[q]? = some L)
include hs hl
theorem VRel.ren1 {a : AV} {v : Value} (hk : ok1 N a = true) (h : VRel E (ren1 f a) v) : VRel E' a v := by
 cases a with
 | undef => exact .undef _
 | int k n => cases h; exact .int _ _
 | sym k j => cases h with | sym _ h1 h2 => exact .sym _ (hs ▸ h1) h2
 | bool b => cases h; exact .bool _
 | ptr a =>
  cases a with
  | none => cases h; exact .nilPtr
  | some p =>
   obtain ⟨q, o⟩ := p
   have hk : Nat.blt q N = true := hk
   have h : VRel E (.ptr (some (f q, o))) v := h
   cases h with | ptr hL => exact .ptr (hl q (nbl hk) _ hL)
 | slc a n c =>
  cases a with
  | none =>
   have h : VRel E (.slc none n c) v := h
   cases h; exact .nilSlc
  | some p =>
   obtain ⟨q, o⟩ := p
   have hk : Nat.blt q N = true := hk
   have h : VRel E (.slc (some (f q, o)) n c) v := h
   cases h with
   | slc hL a => exact .slc (hl q (nbl hk) _ hL) a
   | slcUp hL a b c => exact .slcUp (hl q (nbl hk) _ hL) a b c
 | map a =>
  cases a with
  | none => cases h; exact .nilMap
  | some q =>
   have hk : Nat.blt q N = true := hk
   have h : VRel E (.map (some (f q))) v := h
   cases h with | map hL hb => exact .map (hl q (nbl hk) _ hL) hb
 | nilFunc => cases h; exact .nilFunc
 | nilIface => cases h; exact .nilIface
 | str l => cases hk
 | func a b c => cases hk
 | iface t v => cases hk
 | agg l => cases hk
 | tuple l => cases hk
 | sl j => cases hk
theorem LRel.ren1 : ∀ {l : List AV} {vs : List Value}, l.all (ok1 N) = true → LRel E (l.map (Ae.ren1 f)) vs → LRel E' l vs
 | [], vs, _, h => by cases h; exact .nil
 | a :: l, vs, hk, h => by
  simp only [List.all_cons, Bool.and_eq_true] at hk
  cases h with
  | cons h1 h2 => exact .cons (VRel.ren1 hs hl hk.1 h1) (LRel.ren1 hk.2 h2)
end
def renV (f : Nat → Nat) : AV → AV
 | .agg l => .agg (l.map (ren1 f))
 | a => ren1 f a
def okV (N : Nat) : AV → Bool
 | .agg l => l.all (ok1 N)
 | a => ok1 N a
def renC (f : Nat → Nat) : CT → CT
 | .av a => .av (renV f a)
 | .anyI k => .anyI k
 | .anyB => .anyB
 | .oneOf l => .oneOf (l.map (renV f))
def okC (N : Nat) : CT → Bool
 | .av a => okV N a
 | .anyI _ => true
 | .anyB => true
 | .oneOf l => l.all (okV N)
def renO (f : Nat → Nat) : AO → AO
 | .cells l e b => .cells (l.map (renV f)) e b
 | .map es c => .map (es.map fun e => ⟨renV f e.key, renV f e.val, e.born⟩) c
 | .rom l e => .rom (l.map (renV f)) e
 | .gen (.ty ts e) => .gen (.ty (ts.map (renC f)) e)
 | .gen g => .gen g
 | .dead => .dead
 | .iter m s l t => .iter m s l t
def okO (N : Nat) : AO → Bool
 | .cells l _ _ => l.all (okV N)
 | .map es _ => es.all fun e => okV N e.key && okV N e.val
 | .rom l e => (l.all (okV N)) && !(e == 28)
 | .gen (.ty ts _) => ts.all (okC N)
 | .gen _ => true
 | .dead => true
 | .iter .. => false
theorem renO_live (f : Nat → Nat) (o : AO) : (renO f o).live = o.live := by
 cases o with
 | gen g => cases g <;> rfl
 | _ => rfl
section
variable {E E' : Env} {f : Nat → Nat} {N : Nat} (hs : E'.sym = E.sym) (hl : ∀ q, q < N → ∀ L, E.loc[f q]? = some L → E'.loc[q]? = some L)
include hs hl
theorem VRel.renV {a : AV} {v : Value} (hk : okV N a = true) (h : VRel E (renV f a) v) : VRel E' a v := by
 cases a with
 | agg l =>
  have h : VRel E (.agg (l.map (Ae.ren1 f))) v := h
  cases h with | agg h2 => exact .agg (LRel.ren1 hs hl hk h2)
 | _ => exact VRel.ren1 hs hl hk h
theorem ORel.ren (ht : ∀ b x, E.tk b = some x → E'.tk b = some x) {o : AO} {L : Loc} {w : World} (hk : okO N o = true) (h : ORel E L w (renO f o)) : ORel E' L w o := by
 cases o with
 | cells l e b =>
  have h : ORel E L w (.cells (l.map (Ae.renV f)) e b) := h
  refine h.cells_conv (by simp) fun i a' ha => ⟨Ae.renV f a', by rw [List.getElem?_map, ha]; rfl, fun v hv => VRel.renV hs hl (List.all_eq_true.1 hk a' (List.mem_of_getElem? ha)) hv⟩
 | map es c =>
  obtain ⟨h0, ces, h1, h2⟩ := h
  refine ⟨h0, ces, h1, ?_⟩
  have key : ∀ (es : List AEnt) (l : List MapEntry), (∀ e ∈ es, (okV N e.key && okV N e.val) = true) → ERel E (es.map fun e => ⟨Ae.renV f e.key, Ae.renV f e.val, e.born⟩) l → ERel E' es l := by
   intro es
   induction es with
   | nil => intro l _ h; cases h; exact .nil
   | cons e es ih =>
    intro l hk h
    have h : ERel E (⟨Ae.renV f e.key, Ae.renV f e.val, e.born⟩ :: es.map fun e => ⟨Ae.renV f e.key, Ae.renV f e.val, e.born⟩) l := h
    cases h with
    | cons q1 q2 q3 q4 =>
     have hk1 := hk e (by simp)
     rw [Bool.and_eq_true] at hk1
     exact .cons (VRel.renV hs hl hk1.1 q1) (VRel.renV hs hl hk1.2 q2) q3 (ih _ (fun x hx => hk x (List.mem_cons_of_mem _ hx)) q4)
  exact key es _ (fun e he => List.all_eq_true.1 hk e he) h2
 | iter m s l t => cases hk
 | dead => trivial
 | rom l e =>
  have hk : ((l.all (okV N)) && !(e == 28)) = true := hk
  rw [Bool.and_eq_true] at hk
  have h : ORel E L w (.rom (l.map (Ae.renV f)) e) := h
  refine h.rom_conv ht (fun he => by subst he; simp at hk) (by simp) fun i a' ha => ⟨Ae.renV f a', by rw [List.getElem?_map, ha]; rfl, fun v hv => VRel.renV hs hl (List.all_eq_true.1 hk.1 a' (List.mem_of_getElem? ha)) hv⟩
 | gen g =>
  cases g with
  | ty ts e =>
   obtain ⟨c, fz, h1, h2, h3, h4, h5⟩ := h
   refine ⟨c, fz, h1, h2, h3, by rw [← h4]; simp, fun i t hi => ?_⟩
   obtain ⟨v, hv, hr⟩ := h5 i (renC f t) (by rw [List.getElem?_map, hi]; rfl)
   refine ⟨v, hv, ?_⟩
   have hkt := List.all_eq_true.1 hk t (List.mem_of_getElem? hi)
   cases t with
   | av a => exact VRel.renV hs hl hkt hr
   | anyI k => exact hr
   | anyB => exact hr
   | oneOf l =>
    obtain ⟨a, ha, hr⟩ := hr
    obtain ⟨a', ha', rfl⟩ := List.mem_map.1 ha
    exact ⟨a', ha', VRel.renV hs hl (List.all_eq_true.1 hkt a' ha') hr⟩
  | tym k => exact h
  | lin len k n β =>
   obtain ⟨h0, ces, clock, h1, h2, h3, h4⟩ := h
   refine ⟨h0, ces, clock, h1, h2, fun g hg => ?_, h4⟩
   obtain ⟨i, q1, q2, q3, b, o, cap, c, fz, a1, a2, a3, a4, a5⟩ := h3 g hg
   exact ⟨i, q1, q2, q3, b, o, cap, c, fz, a1, a2, a3, ht _ _ a4, fun j a ha => let ⟨x, hx, hr⟩ := a5 j a ha; ⟨x, hx, hr.line hs ha⟩⟩
end
theorem Rel.renO {E : Env} {aw : AW} {w : World} (hR : Rel E aw w) {os : List AO} {f : Nat → Nat} (inj : ∀ a b x y, os[a]? = some x → os[b]? = some y → x.live = true → y.live = true → f a = f b → a = b) (ok : ∀ o ∈ os, okO os.length o = true)
  (ho : ∀ (k : Nat) (n : AO), os[k]? = some n → n = .dead ∨ aw.get (f k) = some (renO f n)) : Rel (renE E f os.length) (ofObjs os os.length) w := by
 have hl : ∀ q, q < os.length → ∀ L, E.loc[f q]? = some L → (renE E f os.length).loc[q]? = some L := fun q hq L hL => renE_loc hq hL
 have one : ∀ k n, os[k]? = some n → n.live = true → ∃ L, aw.get (f k) = some (Ae.renO f n) ∧ (Ae.renO f n).live = true ∧ E.loc[f k]? = some L ∧ (renE E f os.length).loc[k]? = some L := fun k n hk hn => by
  have hlt := (lgs.1 hk).1
  rcases ho k n hk with rfl | h1
  ·cases hn
  ·obtain ⟨L, hL, _⟩ := hR.obj _ _ h1
   exact ⟨L, h1, by rw [renO_live]; exact hn, hL, renE_loc hlt hL⟩
 refine ⟨by simp [ofObjs, renE], hR.ns, fun k n hk => ?_, fun i j oi oj Li Lj hi hj li lj ei ej e => ?_, hR.frame, fun k n Lk hk lk ek => ?_, hR.tok.1, fun k n Lk hk lk ek => ?_⟩
 ·rw [ofObjs_get] at hk
  have hlt := (lgs.1 hk).1
  rcases ho k n hk with rfl | h1
  ·exact ⟨E.loc.getD (f k) ⟨0, 0, 0⟩, by simp only [renE, List.getElem?_map, List.getElem?_range hlt, Option.map_some], trivial⟩
  ·obtain ⟨L, hL, hr⟩ := hR.obj _ _ h1
   exact ⟨L, renE_loc hlt hL, ORel.ren (E := E) (E' := renE E f os.length) (f := f) rfl hl (fun _ _ h => h) (ok n (List.mem_of_getElem? hk)) hr⟩
 ·rw [ofObjs_get] at hi hj
  obtain ⟨L, h1, h2, h3, h4⟩ := one i oi hi li
  obtain ⟨L', h1', h2', h3', h4'⟩ := one j oj hj lj
  rw [h4] at ei; injection ei with ei; subst ei
  rw [h4'] at ej; injection ej with ej; subst ej
  exact inj i j oi oj hi hj li lj (hR.inj _ _ _ _ _ _ h1 h1' h2 h2' h3 h3' e)
 ·rw [ofObjs_get] at hk
  obtain ⟨L, h1, h2, h3, h4⟩ := one k n hk lk
  rw [h4] at ek; injection ek with ek; subst ek
  exact hR.apart _ _ _ h1 h2 h3
 ·rw [ofObjs_get] at hk
  obtain ⟨L, h1, h2, h3, h4⟩ := one k n hk lk
  rw [h4] at ek; injection ek with ek; subst ek
  exact hR.tok.2 _ _ _ h1 h2 h3
end
end Go.Proofs.YtbilacojhmohmaaGreat.Ae
end
