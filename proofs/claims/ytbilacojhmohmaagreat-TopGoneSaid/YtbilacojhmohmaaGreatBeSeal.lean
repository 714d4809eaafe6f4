/- Summaries: bytes and their sum. No condition. -/
import Derived.Test.YtbilacojhmohmaaGreatBeSum
namespace Go.Proofs.YtbilacojhmohmaaGreat.Ae
open Go
set_option linter.unusedVariables false
set_option linter.unusedSimpArgs false

/-- the parts of a sum -/
noncomputable def partsG (R : Int) : List AV := [partG 0 R, partG 1 R, partG 2 R, partG 3 R]
noncomputable def foldR (cs : List Int) : Int := cs.foldl stepG (.ofNat (nat_lit 4294967295))
def SealRun (n : Nat) : Prop := ∀ (cs : List Int), cs.length = n → ∀ (rest : List AV) (e : TypeId) (opn : Bool) (cap : Cap), see (cSeal 233 [.slc (some (0, 0)) n cap] (ofObjs [.cells (cs.map (AV.int .u8) ++ rest) e opn] 1)) =
  some (3, n + 4, .upto 1 (n + 4), some (.cells (cs.map (AV.int .u8) ++ rest) e opn), some (.cells (cs.map (AV.int .u8) ++ partsG (foldR cs)) 5 true))
theorem sealRun5 : SealRun 5 := by
  intro cs h rest e opn cap
  rcases cs with _ | ⟨x0, cs⟩
  · simp at h
  rcases cs with _ | ⟨x1, cs⟩
  · simp at h
  rcases cs with _ | ⟨x2, cs⟩
  · simp at h
  rcases cs with _ | ⟨x3, cs⟩
  · simp at h
  rcases cs with _ | ⟨x4, cs⟩
  · simp at h
  rcases cs with _ | ⟨z, cs⟩
  rotate_left
  · simp at h
  exact seal5 x0 x1 x2 x3 x4 rest e opn cap
theorem sealRun13 : SealRun 13 := by
  intro cs h rest e opn cap
  rcases cs with _ | ⟨x0, cs⟩
  · simp at h
  rcases cs with _ | ⟨x1, cs⟩
  · simp at h
  rcases cs with _ | ⟨x2, cs⟩
  · simp at h
  rcases cs with _ | ⟨x3, cs⟩
  · simp at h
  rcases cs with _ | ⟨x4, cs⟩
  · simp at h
  rcases cs with _ | ⟨x5, cs⟩
  · simp at h
  rcases cs with _ | ⟨x6, cs⟩
  · simp at h
  rcases cs with _ | ⟨x7, cs⟩
  · simp at h
  rcases cs with _ | ⟨x8, cs⟩
  · simp at h
  rcases cs with _ | ⟨x9, cs⟩
  · simp at h
  rcases cs with _ | ⟨x10, cs⟩
  · simp at h
  rcases cs with _ | ⟨x11, cs⟩
  · simp at h
  rcases cs with _ | ⟨x12, cs⟩
  · simp at h
  rcases cs with _ | ⟨z, cs⟩
  rotate_left
  · simp at h
  exact seal13 x0 x1 x2 x3 x4 x5 x6 x7 x8 x9 x10 x11 x12 rest e opn cap
theorem sealRun15 : SealRun 15 := by
  intro cs h rest e opn cap
  rcases cs with _ | ⟨x0, cs⟩
  · simp at h
  rcases cs with _ | ⟨x1, cs⟩
  · simp at h
  rcases cs with _ | ⟨x2, cs⟩
  · simp at h
  rcases cs with _ | ⟨x3, cs⟩
  · simp at h
  rcases cs with _ | ⟨x4, cs⟩
  · simp at h
  rcases cs with _ | ⟨x5, cs⟩
  · simp at h
  rcases cs with _ | ⟨x6, cs⟩
  · simp at h
  rcases cs with _ | ⟨x7, cs⟩
  · simp at h
  rcases cs with _ | ⟨x8, cs⟩
  · simp at h
  rcases cs with _ | ⟨x9, cs⟩
  · simp at h
  rcases cs with _ | ⟨x10, cs⟩
  · simp at h
  rcases cs with _ | ⟨x11, cs⟩
  · simp at h
  rcases cs with _ | ⟨x12, cs⟩
  · simp at h
  rcases cs with _ | ⟨x13, cs⟩
  · simp at h
  rcases cs with _ | ⟨x14, cs⟩
  · simp at h
  rcases cs with _ | ⟨z, cs⟩
  rotate_left
  · simp at h
  exact seal15 x0 x1 x2 x3 x4 x5 x6 x7 x8 x9 x10 x11 x12 x13 x14 rest e opn cap
noncomputable def isLen (n : Nat) : Bool := bb2 (Nat.beq n 5) true (bb2 (Nat.beq n 13) true (Nat.beq n 15))
theorem sealRun {n : Nat} (h : isLen n = true) : SealRun n := by
  unfold isLen at h
  simp only [bb2_eq] at h
  cases h1 : Nat.beq n 5 with
  | true => rw [Nat.eq_of_beq_eq_true h1]; exact sealRun5
  | false =>
    cases h2 : Nat.beq n 13 with
    | true => rw [Nat.eq_of_beq_eq_true h2]; exact sealRun13
    | false =>
      simp only [h1, h2, cond_false] at h
      rw [Nat.eq_of_beq_eq_true h]; exact sealRun15

theorem stepS_ok : SumOK Tryz.prog sm1 := by
  intro f g hf args aw res hg
  unfold sm1 at hf
  cases hq : Nat.beq f 351 with
  | false =>
    have hf : (bif Nat.beq f 351 then some stepS else none) = some g := hf
    rw [hq] at hf; cases hf
  | true =>
    have hf : (bif Nat.beq f 351 then some stepS else none) = some g := hf
    rw [hq] at hf; injection hf with hf; subst hf
    rw [Nat.eq_of_beq_eq_true hq]
    unfold stepS at hg
    split at hg <;> (try (cases hg; done))
    rename_i x c
    simp only [Option.some.injEq] at hg; subst hg
    exact callK_ok (noSum_ok _) (noDef_ok _) _ _ 351 _ aw _ (step_run x c aw)
theorem cSeal_ok : CallOK Tryz.prog cSeal := callK_ok stepS_ok (noDef_ok _) _ _

/-- bytes, known or free: a number for each -/
noncomputable def codeOf (x : AV) : Option Nat := match x with
  | .int .u8 (.ofNat v) => bb2 (Nat.ble v 255) (some (Nat.succ (Nat.mul 2 v))) none
  | .sym .u8 j => match Nat.mod j 2 with
    | 0 => bb2 (Nat.ble j 1000000) (some (Nat.add j 2)) none
    | _ => none
  | _ => none
noncomputable def knownOf (x : AV) : Option Nat := match x with
  | .int .u8 (.ofNat v) => bb2 (Nat.ble v 255) (some v) none
  | _ => none
noncomputable def mapO (f : AV → Option Nat) (l : List AV) : Option (List Nat) := List.rec (motive := fun _ => Option (List Nat)) (some []) (fun a _ ih => Option.rec (motive := fun _ => Option (List Nat)) none (fun x => Option.rec (motive := fun _ => Option (List Nat)) none (fun xs => some (x :: xs)) ih) (f a)) l
theorem mapO_ok {f : AV → Option Nat} : ∀ {l : List AV} {xs : List Nat}, mapO f l = some xs → xs.length = l.length ∧ ∀ (i : Nat) (a : AV), l[i]? = some a → ∃ x, xs[i]? = some x ∧ f a = some x
  | [], xs, h => by
    have h : some [] = some xs := h
    injection h with h; subst h
    exact ⟨rfl, fun i a hi => by simp at hi⟩
  | a :: l, xs, h => by
    have h : Option.rec (motive := fun _ => Option (List Nat)) none (fun x => Option.rec (motive := fun _ => Option (List Nat)) none (fun xs => some (x :: xs)) (mapO f l)) (f a) = some xs := h
    cases ha : f a with
    | none => rw [ha] at h; cases h
    | some x =>
      simp only [ha] at h
      cases hl : mapO f l with
      | none => simp only [hl] at h; cases h
      | some ys =>
        simp only [hl, Option.some.injEq] at h
        subst h
        obtain ⟨h1, h2⟩ := mapO_ok hl
        refine ⟨by simp [h1], fun i b hi => ?_⟩
        cases i with
        | zero => simp at hi; subst hi; exact ⟨x, by simp, ha⟩
        | succ i => simp at hi; simpa using h2 i b hi
/-- the sum of known bytes, quickly -/
noncomputable def bitK (r : Nat) : Nat := Nat.xor (Nat.mod (Nat.mul r 2) 4294967296) (Nat.mul (Nat.div r 2147483648) 79764919)
noncomputable def sumK (l : List Nat) : Nat → Nat := List.rec (motive := fun _ => Nat → Nat) (fun r => r) (fun c _ ih r => ih (crcByte r c)) l
theorem sumK_eq : ∀ (l : List Nat) (r : Nat), sumK l r = l.foldl crcByte r
  | [], r => rfl
  | c :: l, r => sumK_eq l (crcByte r c)
noncomputable def encF (l : List Nat) : Nat := List.rec (motive := fun _ => Nat) (nat_lit 0) (fun e _ ih => Nat.add e (Nat.mul (nat_lit 4294967296) ih)) l
theorem encF_eq : ∀ l : List Nat, encF l = encL l
  | [] => rfl
  | e :: l => congrArg (fun x => Nat.add e (Nat.mul 4294967296 x)) (encF_eq l)
/-- the four bytes behind -/
noncomputable def sumBytes (l : List AV) : Option (List AV) :=
  Option.rec (motive := fun _ => Option (List AV))
    (Option.rec (motive := fun _ => Option (List AV)) none (fun es => some ((fun d => [.sym .u8 (Nat.succ (Nat.mul 2 (Nat.mul 4 d))), .sym .u8 (Nat.succ (Nat.mul 2 (Nat.succ (Nat.mul 4 d)))), .sym .u8 (Nat.succ (Nat.mul 2 (Nat.add (Nat.mul 4 d) 2))), .sym .u8 (Nat.succ (Nat.mul 2 (Nat.add (Nat.mul 4 d) 3)))]) (encF es))) (mapO codeOf l))
    (fun vs => some ((fun r => [.int .u8 (.ofNat (Nat.mod (Nat.div r 16777216) 256)), .int .u8 (.ofNat (Nat.mod (Nat.div r 65536) 256)), .int .u8 (.ofNat (Nat.mod (Nat.div r 256) 256)), .int .u8 (.ofNat (Nat.mod r 256))]) (sumK vs (nat_lit 4294967295)))) (mapO knownOf l)
noncomputable def okByte (x : AV) : Option Nat := match x with
  | .int .u8 (.ofNat v) => bb2 (Nat.ble v 255) (some 0) none
  | .sym .u8 j => some 0
  | _ => none
noncomputable def g233 (args : List AV) (aw : AW) : Option ARes := match args with
  | [.slc (some (id, 0)) n cap] => bb2 (isLen n) (match awGet aw id with
    | some (.cells l e b) => bb2 (Nat.ble n (lenF l)) (Option.rec (motive := fun _ => Option ARes) none (fun _ => Option.rec (motive := fun _ => Option ARes) none (fun ps => some (.ret (.slc (some (aw.nx, 0)) (Nat.add n 4) (.upto 1 (Nat.add n 4))) (awAdd aw (.cells (appF (takeF l n) ps) 5 true)))) (sumBytes (takeF l n))) (mapO okByte l)) none
    | _ => none) (cAny 233 args aw)
  | args => cAny 233 args aw

theorem decL_enc : ∀ (l : List Nat) (f : Nat), l.length ≤ f → (∀ e ∈ l, 0 < e ∧ e < 4294967296) → decL f (encL l) = l
  | [], f, _, _ => by cases f <;> rfl
  | e :: l, f, hf, hl => by
    cases f with
    | zero => simp at hf
    | succ f =>
      obtain ⟨h0, h1⟩ := hl e (by simp)
      have henc : encL (e :: l) = e + 4294967296 * encL l := rfl
      have hne : encL (e :: l) ≠ 0 := by omega
      have hm : Nat.mod (encL (e :: l)) 4294967296 = e := by rw [henc]; show (e + 4294967296 * encL l) % 4294967296 = e; omega
      have hd : Nat.div (encL (e :: l)) 4294967296 = encL l := by rw [henc]; show (e + 4294967296 * encL l) / 4294967296 = encL l; omega
      have ih := decL_enc l f (by simpa using hf) fun x hx => hl x (by simp [hx])
      unfold decL
      split
      · rename_i h; exact (hne h).elim
      · rw [hm, hd, ih]
/-- what a byte is, what its number says -/
theorem codeOf_ok {E : Env} {ρ : Nat → Nat} (hρ : E.sym.f = symVal ρ) {x : AV} {e : Nat} (h : codeOf x = some e) : 0 < e ∧ e < 4294967296 ∧ ∀ v, VRel E x v → ∃ c : Nat, v = .int .u8 (.ofNat c) ∧ c < 256 ∧ evalE ρ e = c := by
  unfold codeOf at h
  split at h <;> (try (cases h; done))
  · rename_i v
    rw [bb2_eq] at h
    cases hb : Nat.ble v 255 <;> simp only [hb, cond_true, cond_false, reduceCtorEq, Option.some.injEq] at h
    have hb := Nat.le_of_ble_eq_true hb
    have he : e = 2 * v + 1 := h.symm
    subst he
    refine ⟨by omega, by omega, fun w hw => ?_⟩
    cases hw
    refine ⟨v, rfl, by omega, ?_⟩
    unfold evalE
    have h2 : Nat.mod (2 * v + 1) 2 = 1 := by show (2 * v + 1) % 2 = 1; omega
    rw [h2]
    show (2 * v + 1) / 2 = v
    omega
  · rename_i j
    split at h <;> (try (cases h; done))
    rename_i hj
    rw [bb2_eq] at h
    cases hb : Nat.ble j 1000000 <;> simp only [hb, cond_true, cond_false, reduceCtorEq, Option.some.injEq] at h
    have hb := Nat.le_of_ble_eq_true hb
    have he : e = j + 2 := h.symm
    subst he
    have hj : j % 2 = 0 := hj
    refine ⟨by omega, by omega, fun w hw => ?_⟩
    cases hw with
    | sym _ hs hw =>
      rename_i n
      rw [hρ] at hs
      unfold symVal at hs
      have hj' : Nat.mod j 2 = 0 := hj
      rw [hj'] at hs
      simp only [Option.some.injEq] at hs
      refine ⟨ρ (Nat.div j 2) % 256, by rw [← hs], Nat.mod_lt _ (by decide), ?_⟩
      unfold evalE
      have h2 : Nat.mod (j + 2) 2 = 0 := by show (j + 2) % 2 = 0; omega
      rw [h2]
      show ρ ((j + 2) / 2 - 1) % 256 = ρ (j / 2) % 256
      rw [show (j + 2) / 2 - 1 = j / 2 by omega]
theorem knownOf_ok {E : Env} {x : AV} {c : Nat} (h : knownOf x = some c) : ∀ v, VRel E x v → v = .int .u8 (.ofNat c) ∧ c < 256 := by
  unfold knownOf at h
  split at h <;> (try (cases h; done))
  rename_i v
  rw [bb2_eq] at h
  cases hb : Nat.ble v 255 <;> simp only [hb, cond_true, cond_false, reduceCtorEq, Option.some.injEq] at h
  have hb := Nat.le_of_ble_eq_true hb
  subst h
  intro w hw
  cases hw
  exact ⟨rfl, by omega⟩
theorem okByte_ok {E : Env} {x : AV} {c : Nat} (h : okByte x = some c) (hns : ∃ ρ, E.sym.f = symVal ρ) : (∀ v, VRel E x v → ∃ c : Nat, v = .int .u8 (.ofNat c) ∧ c < 256) ∧ ∀ E' v, E'.sym = E.sym → VRel E' x v → VRel E x v := by
  unfold okByte at h
  split at h <;> (try (cases h; done))
  · rename_i v
    rw [bb2_eq] at h
    cases hb : Nat.ble v 255 <;> simp only [hb, cond_true, cond_false, reduceCtorEq, Option.some.injEq] at h
    have hb := Nat.le_of_ble_eq_true hb
    exact ⟨fun w hw => by cases hw; exact ⟨v, rfl, by omega⟩, fun E' w _ hw => by cases hw; exact .int _ _⟩
  · exact ⟨fun w hw => by
      cases hw with
      | sym _ hs hw => obtain ⟨m, rfl, hm⟩ := wrap_u8 hw; exact ⟨m, rfl, hm⟩, fun E' w he hw => by
      cases hw with
      | sym _ hs hw => exact .sym _ (by rw [← he]; exact hs) hw⟩
theorem wrapG_u8 (m : Nat) : wrapG .u8 (.ofNat m) = .ofNat (m % 256) := by
  show bb2 (Nat.ble m (topF .u8)) _ _ = _
  rw [bb2_eq]
  cases h : Nat.ble m (topF .u8) with
  | true =>
    have h : m ≤ 255 := Nat.le_of_ble_eq_true h
    rw [Nat.mod_eq_of_lt (by omega)]; rfl
  | false => rfl
theorem partG_eq (r : Nat) : partsG (.ofNat r) = [.int .u8 (.ofNat (crcPart 0 r)), .int .u8 (.ofNat (crcPart 1 r)), .int .u8 (.ofNat (crcPart 2 r)), .int .u8 (.ofNat (crcPart 3 r))] := by
  have e24 : shr2F (.ofNat r) (minF 24 (bitsF .u32)) = .ofNat (r / 16777216) := by rw [shr2F_eq]; rfl
  have e16 : shr2F (.ofNat r) (minF 16 (bitsF .u32)) = .ofNat (r / 65536) := by rw [shr2F_eq]; rfl
  have e8 : shr2F (.ofNat r) (minF 8 (bitsF .u32)) = .ofNat (r / 256) := by rw [shr2F_eq]; rfl
  show [AV.int .u8 (wrapG .u8 (shr2F (.ofNat r) (minF 24 (bitsF .u32)))), .int .u8 (wrapG .u8 (shr2F (.ofNat r) (minF 16 (bitsF .u32)))), .int .u8 (wrapG .u8 (shr2F (.ofNat r) (minF 8 (bitsF .u32)))), .int .u8 (wrapG .u8 (.ofNat r))] = _
  rw [e24, e16, e8, wrapG_u8, wrapG_u8, wrapG_u8, wrapG_u8]
  have h1 : crcPart 3 r = r % 256 := by show (r / 1) % 256 = r % 256; rw [Nat.div_one]
  rw [h1]
  rfl
/-- what the bytes behind are -/
theorem sumBytes_ok {E : Env} {ρ : Nat → Nat} (hρ : E.sym.f = symVal ρ) {l ps : List AV} (h : sumBytes l = some ps) (hlen : l.length ≤ 4096) {cs : List Nat} (hl : LRel E l (cs.map fun c => Value.int .u8 (.ofNat c))) (hc : ∀ c ∈ cs, c < 256) :
    LRel E ps [.int .u8 (.ofNat (crcPart 0 (crcSum cs))), .int .u8 (.ofNat (crcPart 1 (crcSum cs))), .int .u8 (.ofNat (crcPart 2 (crcSum cs))), .int .u8 (.ofNat (crcPart 3 (crcSum cs)))] := by
  have hll := hl.length
  simp only [List.length_map] at hll
  unfold sumBytes at h
  cases hk : mapO knownOf l with
  | some vs =>
    simp only [hk, Option.some.injEq] at h
    obtain ⟨k1, k2⟩ := mapO_ok hk
    have hvs : vs = cs := by
      apply List.ext_getElem?
      intro i
      by_cases hi : i < l.length
      · obtain ⟨x, hx, hkx⟩ := k2 i l[i] (List.getElem?_eq_getElem hi)
        obtain ⟨v, hv, hr⟩ := hl.get (List.getElem?_eq_getElem hi)
        obtain ⟨e1, e2⟩ := knownOf_ok hkx v hr
        rw [hx]
        rw [List.getElem?_map, List.getElem?_eq_getElem (by omega)] at hv
        simp only [Option.map_some, Option.some.injEq] at hv
        rw [List.getElem?_eq_getElem (by omega)]
        rw [← hv] at e1
        have e1 : cs[i]'(by omega) = x := by injection e1 with _ e; injection e
        rw [e1]
      · rw [List.getElem?_eq_none (by omega), List.getElem?_eq_none (by omega)]
    subst hvs
    rw [← h, sumK_eq]
    have h3 : Nat.mod (List.foldl crcByte 4294967295 vs) 256 = crcPart 3 (crcSum vs) := by show _ = (crcSum vs / 1) % 256; rw [Nat.div_one]; rfl
    rw [h3]
    exact .cons (.int _ _) (.cons (.int _ _) (.cons (.int _ _) (.cons (.int _ _) .nil)))
  | none =>
    simp only [hk] at h
    cases hm : mapO codeOf l with
    | none => simp only [hm] at h; cases h
    | some es =>
      simp only [hm, Option.some.injEq] at h
      obtain ⟨k1, k2⟩ := mapO_ok hm
      have hes : ∀ e ∈ es, 0 < e ∧ e < 4294967296 := fun e he => by
        obtain ⟨i, hi, rfl⟩ := List.mem_iff_getElem.1 he
        obtain ⟨x, hx, hkx⟩ := k2 i (l[i]'(by omega)) (List.getElem?_eq_getElem _)
        rw [List.getElem?_eq_getElem hi] at hx
        injection hx with hx
        rw [hx]
        obtain ⟨a, b, _⟩ := codeOf_ok hρ hkx
        exact ⟨a, b⟩
      have hev : es.map (evalE ρ) = cs := by
        apply List.ext_getElem?
        intro i
        by_cases hi : i < l.length
        · obtain ⟨x, hx, hkx⟩ := k2 i l[i] (List.getElem?_eq_getElem hi)
          obtain ⟨v, hv, hr⟩ := hl.get (List.getElem?_eq_getElem hi)
          obtain ⟨_, _, q⟩ := codeOf_ok hρ hkx
          obtain ⟨c, e1, e2, e3⟩ := q v hr
          rw [List.getElem?_map, hx]
          rw [List.getElem?_map, List.getElem?_eq_getElem (by omega)] at hv
          simp only [Option.map_some, Option.some.injEq] at hv
          rw [List.getElem?_eq_getElem (by omega)]
          rw [← hv] at e1
          have e1 : cs[i]'(by omega) = c := by injection e1 with _ e; injection e
          simp only [Option.map_some]
          rw [e3, e1]
        · rw [List.getElem?_eq_none (by simp; omega), List.getElem?_eq_none (by omega)]
      have hdec : decL 4096 (encL es) = es := decL_enc es 4096 (by omega) hes
      have hs : ∀ q, q < 4 → symVal ρ (2 * (4 * encL es + q) + 1) = some (Int.ofNat (crcPart q (crcSum cs))) := fun q hq => by
        unfold symVal
        have h1 : Nat.mod (2 * (4 * encL es + q) + 1) 2 = 1 := by show (2 * (4 * encL es + q) + 1) % 2 = 1; omega
        rw [h1]
        have h2 : Nat.div (2 * (4 * encL es + q) + 1) 2 = 4 * encL es + q := by show (2 * (4 * encL es + q) + 1) / 2 = _; omega
        have h3 : Nat.mod (4 * encL es + q) 4 = q := by show (4 * encL es + q) % 4 = q; omega
        have h4 : Nat.div (4 * encL es + q) 4 = encL es := by show (4 * encL es + q) / 4 = _; omega
        simp only [h2, h3, h4, hdec, hev]
      have hw : ∀ q r, IntKind.u8.wrap (Int.ofNat (crcPart q r)) = Int.ofNat (crcPart q r) := fun q r => by
        have : crcPart q r < 256 := Nat.mod_lt _ (by decide)
        have e : (Int.ofNat (crcPart q r) : Int) = (crcPart q r : Int) := rfl
        rw [e]
        simp only [IntKind.wrap, IntKind.bits, IntKind.signed]
        simp
        omega
      rw [← h, encF_eq]
      exact .cons (.sym _ (by rw [hρ]; exact hs 0 (by omega)) (hw _ _)) (.cons (.sym _ (by rw [hρ]; exact hs 1 (by omega)) (hw _ _)) (.cons (.sym _ (by rw [hρ]; exact hs 2 (by omega)) (hw _ _)) (.cons (.sym _ (by rw [hρ]; exact hs 3 (by omega)) (hw _ _)) .nil)))

theorem take_all {α : Type} (l : List α) {n : Nat} (h : n ≤ l.length) : (l.take n).length = n := by simp; omega
theorem s233 : ∀ args aw res, g233 args aw = some res → callable Tryz.prog 233 = true ∧ ∀ E w cargs, LRel E args cargs → Rel E aw w →
    Calls Tryz.prog 233 cargs.toArray w fun e w' => ∃ E', E.Le E' ∧ ResRel E' res e w' := by
  intro args aw res h
  unfold g233 at h
  split at h
  · rename_i id n cap
    rw [bb2_eq] at h
    cases hn : isLen n <;> simp only [hn, cond_true, cond_false] at h
    · exact cAny_ok _ _ _ _ h
    rw [awGet_eq] at h
    split at h <;> (try (cases h; done))
    rename_i l e b hg
    rw [bb2_eq, lenF_eq] at h
    cases hb : Nat.ble n l.length <;> simp only [hb, cond_true, cond_false, reduceCtorEq] at h
    have hb := Nat.le_of_ble_eq_true hb
    cases hok : mapO okByte l with
    | none => simp only [hok] at h; cases h
    | some ks =>
      simp only [hok] at h
      rw [takeF_eq] at h
      cases hps : sumBytes (l.take n) with
      | none => simp only [hps] at h; cases h
      | some ps =>
        simp only [hps, Option.some.injEq] at h
        rw [appF_eq, awAdd_eq] at h
        subst h
        obtain ⟨_, hok2⟩ := mapO_ok hok
        have run := sealRun hn
        have hcall : callable Tryz.prog 233 = true := by
          have := run (List.replicate n 0) (by simp) [] 0 true (.known 0)
          unfold see at this
          split at this
          · rename_i h0; exact (cSeal_ok _ _ _ _ h0).1
          · cases this
        refine ⟨hcall, fun E w cargs hr hR => ?_⟩
        obtain ⟨ρ, hρ⟩ := hR.ns.1
        cases hr with
        | cons r1 t1 =>
          cases t1
          rename_i cv0
          obtain ⟨L, hL, ho⟩ := hR.obj id _ hg
          obtain ⟨c, fz, g1, g2, g3, g4, g5⟩ := ho
          -- the bytes as they are
          have each : ∀ (i : Nat) (a : AV), l[i]? = some a → ∃ m : Nat, c[L.base + i]? = some (.int .u8 (.ofNat m)) ∧ m < 256 ∧ VRel E a (.int .u8 (.ofNat m)) := fun i a hi => by
            obtain ⟨v, hv, hra⟩ := g5 i a hi
            obtain ⟨x, _, hx⟩ := hok2 i a hi
            obtain ⟨m, rfl, hm⟩ := (okByte_ok (E := E) hx ⟨ρ, hρ⟩).1 v hra
            exact ⟨m, hv, hm, hra⟩
          let bs : List Nat := (List.range n).map fun i => match c[L.base + i]? with | some (.int _ (.ofNat m)) => m | _ => 0
          have hbl : bs.length = n := by simp [bs]
          have hbs : ∀ i, i < n → ∀ m, c[L.base + i]? = some (.int .u8 (.ofNat m)) → bs[i]? = some m := fun i hi m hm => by
            simp only [bs, List.getElem?_map, List.getElem?_range hi, Option.map_some, hm]
          have h256 : ∀ x ∈ bs, x < 256 := fun x hx => by
            obtain ⟨i, hi, rfl⟩ := List.mem_iff_getElem.1 hx
            obtain ⟨m, e1, e2, _⟩ := each i (l[i]'(by omega)) (List.getElem?_eq_getElem _)
            have := hbs i (by omega) m e1
            rw [List.getElem?_eq_getElem hi] at this
            injection this with this
            rw [this]; exact e2
          have hrel : LRel E (l.take n) (bs.map fun m => Value.int .u8 (.ofNat m)) := by
            refine LRel.of_get (by simp [hbl]; omega) fun i a ha => ?_
            rw [List.getElem?_take] at ha
            split at ha <;> (try (cases ha; done))
            rename_i hi
            obtain ⟨m, e1, e2, e3⟩ := each i a ha
            exact ⟨_, by rw [List.getElem?_map, hbs i hi m e1]; rfl, e3⟩
          have hR0 : Rel (oneE E w L) (ofObjs [.cells ((bs.map Int.ofNat).map (AV.int .u8) ++ l.drop n) e b] 1) w := by
            refine oneE_rel hR ⟨c, fz, g1, g2, by simp [hbl]; omega, fun q => ?_, fun i a ha => ?_⟩
            · obtain ⟨q1, q2⟩ := g4 q
              exact ⟨q1, by simp [hbl]; omega⟩
            · by_cases hi : i < n
              · rw [List.getElem?_append_left (by simp [hbl]; omega)] at ha
                obtain ⟨m, e1, e2, e3⟩ := each i (l[i]'(by omega)) (List.getElem?_eq_getElem _)
                simp only [List.map_map, List.getElem?_map, hbs i hi m e1, Option.map_some, Option.some.injEq, Function.comp] at ha
                subst ha
                exact ⟨_, e1, .int _ _⟩
              · rw [List.getElem?_append_right (by simp [hbl]; omega)] at ha
                simp only [List.length_map, hbl, List.getElem?_drop] at ha
                rw [show n + (i - n) = i by omega] at ha
                obtain ⟨v, hv, hra⟩ := g5 i a ha
                obtain ⟨x, _, hx⟩ := hok2 i a ha
                exact ⟨v, hv, (okByte_ok (E := oneE E w L) hx ⟨ρ, hρ⟩).2 E v rfl hra⟩
          have hrun := run (bs.map Int.ofNat) (by simp [hbl]) (l.drop n) e b cap
          have hfold : foldR (bs.map Int.ofNat) = .ofNat (crcSum bs) := (foldG_eq bs (by decide) h256).1
          rw [hfold, partG_eq] at hrun
          unfold see at hrun
          split at hrun <;> (try (cases hrun; done))
          rename_i k n2 cap2 aw2 h0
          simp only [Option.some.injEq, Prod.mk.injEq] at hrun
          obtain ⟨rfl, rfl, rfl, hg0, hg3⟩ := hrun
          have r1' : VRel (oneE E w L) (.slc (some (0, 0)) n cap) cv0 := by
            cases r1 with
            | slc hL2 ha =>
              rw [hL] at hL2; injection hL2 with hL2; subst hL2
              exact .slc (L := L) rfl ha
            | slcUp hL2 q1 q2 q3 =>
              rw [hL] at hL2; injection hL2 with hL2; subst hL2
              exact .slcUp (L := L) rfl q1 q2 q3
          refine ((cSeal_ok _ _ _ _ h0).2 (oneE E w L) w _ (.cons r1' .nil) hR0).mono fun en w' hres => ?_
          obtain ⟨E1, hle, hres⟩ := hres
          cases en with
          | returned cv =>
            obtain ⟨hR1, hv⟩ := hres
            have hsym : E1.sym = E.sym := hle.2.1
            have hL0 : E1.loc[0]? = some L := hle.loc (i := 0) rfl
            obtain ⟨L2, hL2, c2, fz2, k1, k2, k3, k4, k5⟩ := hR1.obj 0 _ hg0
            rw [hL0] at hL2; injection hL2 with hL2; subst hL2
            have hback : Rel E aw w' := oneE_back hR hg rfl hL hle hR1 ⟨c2, fz2, k1, k2, by simp [hbl] at k3; omega, fun q => by
              obtain ⟨q1, q2⟩ := k4 q
              exact ⟨q1, by simp [hbl] at q2; omega⟩, fun i a ha => by
              by_cases hi : i < n
              · obtain ⟨m, e1, e2, e3⟩ := each i a ha
                obtain ⟨v, hv, hr⟩ := k5 i (.int .u8 (.ofNat m)) (by
                  rw [List.getElem?_append_left (by simp [hbl]; omega)]
                  simp only [List.map_map, List.getElem?_map, hbs i hi m e1, Option.map_some, Function.comp])
                cases hr
                exact ⟨_, hv, e3⟩
              · obtain ⟨v, hv, hr⟩ := k5 i a (by
                  rw [List.getElem?_append_right (by simp [hbl]; omega)]
                  simp only [List.length_map, hbl, List.getElem?_drop]
                  rw [show n + (i - n) = i by omega]
                  exact ha)
                obtain ⟨x, _, hx⟩ := hok2 i a ha
                exact ⟨v, hv, (okByte_ok (E := E) hx ⟨ρ, hρ⟩).2 E1 v hsym hr⟩⟩
            obtain ⟨L3, hL3, ho3⟩ := hR1.obj 3 _ hg3
            obtain ⟨hne, hfr, htk⟩ := oneE_new hR hg rfl hL hle hR1 hg0 rfl hg3 rfl (by decide) hL3
            have hps2 := sumBytes_ok hρ hps (by rw [take_all l hb]; unfold isLen at hn; simp only [bb2_eq] at hn; cases q1 : Nat.beq n 5 <;> cases q2 : Nat.beq n 13 <;> simp only [q1, q2, cond_true, cond_false] at hn <;> simp only [Nat.beq_eq] at * <;> omega) hrel h256
            have hnew : ORel (E.put L3) L3 w' (.cells (l.take n ++ ps) 5 true) := by
              obtain ⟨c3, fz3, m1, m2, m3, m4, m5⟩ := ho3
              have hlp := hps2.length
              refine ⟨c3, fz3, m1, m2, (by simp [hbl] at m3; simp at hlp; simp [hlp]; omega), (fun q => by cases q), fun i a ha => ?_⟩
              have conv : LRel E (l.take n ++ ps) (((bs.map fun m => Value.int .u8 (.ofNat m))) ++ [.int .u8 (.ofNat (crcPart 0 (crcSum bs))), .int .u8 (.ofNat (crcPart 1 (crcSum bs))), .int .u8 (.ofNat (crcPart 2 (crcSum bs))), .int .u8 (.ofNat (crcPart 3 (crcSum bs)))]) := LRel.append hrel hps2
              obtain ⟨v, hv, hr⟩ := conv.get ha
              have hx : ∃ x, ((bs.map Int.ofNat).map (AV.int .u8) ++ [AV.int .u8 (.ofNat (crcPart 0 (crcSum bs))), .int .u8 (.ofNat (crcPart 1 (crcSum bs))), .int .u8 (.ofNat (crcPart 2 (crcSum bs))), .int .u8 (.ofNat (crcPart 3 (crcSum bs)))])[i]? = some x ∧ ∀ u, VRel E1 x u → u = v := by
                by_cases hi : i < n
                · rw [List.getElem?_append_left (by simp [hbl]; omega)] at hv
                  rw [List.getElem?_map, List.getElem?_eq_getElem (by omega)] at hv
                  simp only [Option.map_some, Option.some.injEq] at hv
                  subst hv
                  refine ⟨.int .u8 (.ofNat (bs[i]'(by omega))), ?_, fun u hu => by cases hu; rfl⟩
                  rw [List.getElem?_append_left (by simp [hbl]; omega)]
                  simp only [List.map_map, List.getElem?_map, List.getElem?_eq_getElem (show i < bs.length by omega), Option.map_some, Function.comp]
                · rw [List.getElem?_append_right (by simp [hbl]; omega)] at hv
                  rw [List.getElem?_append_right (by simp [hbl]; omega)]
                  simp only [List.length_map, hbl] at hv ⊢
                  rcases hq : i - n with _ | _ | _ | _ | q <;> rw [hq] at hv <;> simp at hv
                  all_goals subst hv; exact ⟨_, rfl, fun u hu => by cases hu; rfl⟩
              obtain ⟨x, hx1, hx2⟩ := hx
              obtain ⟨u, hu, hur⟩ := m5 i x hx1
              rw [hx2 u hur] at hu
              exact ⟨v, hu, hr.mono (E.put_le L3)⟩
            refine ⟨E.put L3, E.put_le L3, hback.addAt hne hfr htk hnew, ?_⟩
            cases hv with
            | slcUp hL4 q1 q2 q3 =>
              rw [hL3] at hL4; injection hL4 with hL4; subst hL4
              exact .slcUp (by rw [hback.nx]; exact E.put_new L3) q1 q2 q3
          | panicked ch => exact hres.elim
          | outgrown => exact hres.elim
  · exact cAny_ok _ _ _ _ h
end Go.Proofs.YtbilacojhmohmaaGreat.Ae
