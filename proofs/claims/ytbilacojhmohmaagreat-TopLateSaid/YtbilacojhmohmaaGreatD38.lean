/- A tick, as a step of the law's memory; The ticks of the law, each kind, as steps of its memory. No condition. -/
import Derived.Test.YtbilacojhmohmaaGreatD28
import Derived.Test.YtbilacojhmohmaaGreatD29
import Derived.Test.YtbilacojhmohmaaGreatD30
import Derived.Test.YtbilacojhmohmaaGreatD31
import Derived.Test.YtbilacojhmohmaaGreatD32
import Derived.Test.YtbilacojhmohmaaGreatD33
import Derived.Test.YtbilacojhmohmaaGreatD34
import Derived.Test.YtbilacojhmohmaaGreatD36
import Derived.Test.YtbilacojhmohmaaGreatD37
set_option linter.unusedVariables false
set_option linter.unusedSimpArgs false
noncomputable section
namespace Go.Proofs.YtbilacojhmohmaaGreat.Ae
open Go
theorem ren1_id : ∀ a : AV, ren1 (fun q => q) a = a
 | .ptr (some (_, _)) => rfl
 | .ptr none => rfl
 | .slc (some (_, _)) _ _ => rfl
 | .slc none _ _ => rfl
 | .map (some _) => rfl
 | .map none => rfl
 | .undef => rfl
 | .int _ _ => rfl
 | .sym _ _ => rfl
 | .bool _ => rfl
 | .str _ => rfl
 | .func _ _ _ => rfl
 | .nilFunc => rfl
 | .iface _ _ => rfl
 | .nilIface => rfl
 | .agg _ => rfl
 | .tuple _ => rfl
 | .sl _ => rfl
theorem map_id' {α : Type} {f : α → α} (h : ∀ a, f a = a) (l : List α) : l.map f = l := by
 conv => rhs; rw [← List.map_id l]
 exact List.map_congr_left fun a _ => h a
theorem renV_id (a : AV) : renV (fun q => q) a = a := by
 cases a with
 | agg l => show AV.agg (l.map _) = _; rw [map_id' ren1_id]
 | ptr a => exact ren1_id (.ptr a)
 | slc a n c => exact ren1_id (.slc a n c)
 | map a => exact ren1_id (.map a)
 | _ => rfl
theorem renO_id (o : AO) : renO (fun q => q) o = o := by
 cases o with
 | cells l e b => show AO.cells (l.map _) e b = _; rw [map_id' renV_id]
 | map es c =>
  show AO.map (es.map _) c = _
  rw [map_id' (fun e => by rw [renV_id, renV_id])]
 | rom l e => show AO.rom (l.map _) e = _; rw [map_id' renV_id]
 | gen g =>
  cases g with
  | ty ts e =>
   show AO.gen (.ty (ts.map _) e) = _
   rw [map_id' (fun t => by
    cases t with
    | av a => show CT.av (renV _ a) = _; rw [renV_id]
    | anyI k => rfl
    | anyB => rfl
    | oneOf l => show CT.oneOf (l.map _) = _; rw [map_id' renV_id])]
  | _ => rfl
 | _ => rfl
section
variable {fr : Nat → Option Obj} {sy : SymW} {tk : Nat → Option Tok}
theorem tick_turn {f : Nat → Nat} {ids ops : List Nat} {B T : List AO} {aw1 : AW} (hids : ids.map (fun j => awGet aw1 (f j)) = ids.map (fun j => (B[j]?).map (renO f))) (hops : ops.map (awGet aw1) = ops.map (fun j => B[j]?))
  (hfo : ∀ j ∈ ops, f j = j) (inj : ∀ a b, a < 46 → b < 46 → f a = f b → a = b) (hT : T.length = 46) (hok : ∀ n ∈ T, okO 46 n = true)
  (hk : ∀ (j : Nat) (n : AO), T[j]? = some n → n = .dead ∨ (B[j]? = some n ∧ (j ∈ ids ∨ (j ∈ ops ∧ renO f n = n)))) (hlaw : ∀ q, lawP q = true → f q = q)
  {E : Env} {w : World} (hK : LawK fr sy tk E) (h : Rel E aw1 w) : ∃ E', LawK fr sy tk E' ∧ Rel E' (ofObjs T 46) w ∧ ∀ q, lawP q = true → ∀ L, E.loc[q]? = some L → E'.loc[q]? = some L := by
 have hren := h.renO (os := T) (f := f) (fun a b x y ha hb _ _ hab => by
  have ha := (lgs.1 ha).1
  have hb := (lgs.1 hb).1
  rw [hT] at ha hb
  exact inj a b ha hb hab) (fun o ho => by rw [hT]; exact hok o ho) fun j n hj => by
   rcases hk j n hj with rfl | ⟨hB, hi | ⟨ho, hs⟩⟩
   ·exact .inl rfl
   ·right
    have := List.map_inj_left.1 hids j hi
    rw [hB, awGet_eq] at this; exact this
   ·right
    have := List.map_inj_left.1 hops j ho
    rw [hB, awGet_eq] at this
    rw [hfo j ho, hs]; exact this
 rw [hT] at hren
 exact ⟨renE E f 46, hK.ren _ _, hren, fun q hq L hL => renE_loc (by rcases lawP_ok hq with rfl | ⟨_, b⟩ <;> omega) (by rw [hlaw q hq]; exact hL)⟩
end
def lawO (len : Nat) (S : List Nat) (u : Nat → Nat) (d : Nat → Bool) : Nat → AO := fun q => bif Nat.beq q 1 then netO S.length else bif Nat.beq q 2 then lstQ S.length else bif Nat.beq q 28 then bO len else bif Nat.beq q 29 then wO u else bif Nat.beq q 30 then dO len d else pkO len S (q - 35)
theorem lawO_pk {len : Nat} {S : List Nat} {u : Nat → Nat} {d : Nat → Bool} {q : Nat} : lawO len S u d (35 + q) = pkO len S q := by
 unfold lawO
 have h : ∀ n, n < 35 → Nat.beq (35 + q) n = false := fun n hn => by
  cases hq : Nat.beq (35 + q) n with
  | true => have := nbt hq; omega
  | false => rfl
 rw [h 1 (by decide), h 2 (by decide), h 28 (by decide), h 29 (by decide), h 30 (by decide), show 35 + q - 35 = q by omega]; rfl
theorem lawM_mT {len now now' : Nat} {ev : AV} {S : List Nat} {R : List AO} {nb e31 e32 : AO} {u : Nat → Nat} {d : Nat → Bool} : lawM len now ev S R (zW len now' (bodO len) nb u d e31 e32) = mT len now ev R (zT len now' nb e31 e32 (lawO len S u d)) (lawO len S u d) := by
 unfold lawM mT
 have : (List.range 11).map (pkO len S) = (List.range 11).map fun q => lawO len S u d (35 + q) := List.map_congr_left fun q _ => lawO_pk.symm
 rw [this]; rfl
theorem bO_scal {len : Nat} : ∀ a ∈ (List.range len).map fun q => AV.sym .u8 (2 * q), Scal a := fun a ha => by
 obtain ⟨x, _, rfl⟩ := List.mem_map.1 ha
 exact .inr ⟨_, _, rfl⟩
theorem wO_scal {u : Nat → Nat} : ∀ a ∈ (List.range 10).map fun j => AV.int .u8 (.ofNat (u j)), Scal a := fun a ha => by
 obtain ⟨x, _, rfl⟩ := List.mem_map.1 ha
 exact .inl ⟨_, _, rfl⟩
theorem dO_still {f : Nat → Nat} {len : Nat} {d : Nat → Bool} : Still f 46 (dO len d) := by
 refine ⟨?_, List.all_eq_true.2 fun a ha => ?_⟩
 ·show AO.cells (((List.range (kOf len)).map fun j => AV.bool (d j)).map (renV f)) 4 false = _
  rw [List.map_map]; rfl
 ·obtain ⟨x, _, rfl⟩ := List.mem_map.1 ha
  rfl
theorem lstQ_still {f : Nat → Nat} {L : Nat} (hL : L ≤ 11) (hf : ∀ q, 35 ≤ q → q < 46 → f q = q) : Still f 46 (lstQ L) := by
 refine ⟨?_, qEs_ok hL⟩
 show AO.cells ((qEs L).map (renV f)) 37 true = _
 have : (qEs L).map (renV f) = qEs L := by
  unfold qEs
  rw [List.map_map]
  refine List.map_congr_left fun j hj => ?_
  have := List.mem_range.1 hj
  show pkV (f (35 + j)) = _
  rw [hf _ (by omega) (by omega)]
 rw [this]; rfl
theorem lawO_still {f : Nat → Nat} {len : Nat} {S : List Nat} {u : Nat → Nat} {d : Nat → Bool} (hS : S.length ≤ 11) (h2 : f 2 = 2) (hf : ∀ q, 35 ≤ q → q < 46 → f q = q) (q : Nat) : Still f 46 (lawO len S u d q) := by
 unfold lawO
 cases Nat.beq q 1 with
 | true => exact ⟨by show AO.cells [.slc (some (f 2, 0)) S.length (.upto 1 S.length)] 144 false = _; rw [h2]; rfl, rfl⟩
 | false =>
  cases Nat.beq q 2 with
  | true => exact lstQ_still hS hf
  | false =>
   cases Nat.beq q 28 with
   | true => exact .rom bO_scal
   | false =>
    cases Nat.beq q 29 with
    | true => exact .rom wO_scal
    | false =>
     cases Nat.beq q 30 with
     | true => exact dO_still
     | false => exact .pk
theorem zW_still {len now : Nat} {nb e31 e32 : AO} {u : Nat → Nat} {d : Nat → Bool} {ev : AV} (hn : ∀ f : Nat → Nat, (∀ q, 17 ≤ q → q < 35 → f q = q) → Still f 46 nb ∧ Still f 46 e31 ∧ Still f 46 e32 ∧ renV f ev = ev ∧ okV 46 ev = true) : StillZ (zW len now (bodO len) nb u d e31 e32) ev := by
 refine ⟨rfl, fun f hf x hx => ?_, fun f hf => (hn f hf).2.2.2⟩
 obtain ⟨n1, n2, n3, _⟩ := hn f hf
 simp only [zW, zL, List.mem_cons, List.not_mem_nil, or_false] at hx
 rcases hx with rfl | rfl | rfl | rfl | rfl | rfl | rfl | rfl | rfl | rfl | rfl | rfl | rfl | rfl | rfl | rfl | rfl | rfl
 ·refine ⟨?_, rfl⟩
  show AO.cells [vI 2, vI 170, vI 2, vI 100, vI 1000, vP (f 19), .slc (some (f 20, 0)) 1 (.upto 6 1), .map (some (f 21)), vP (f 22), vP (f 23), vP (f 24), vP (f 25), vI now, .int .u16 (.ofNat (kOf len))] 131 false = _
  rw [hf 19 (by decide) (by decide), hf 20 (by decide) (by decide), hf 21 (by decide) (by decide), hf 22 (by decide) (by decide), hf 23 (by decide) (by decide), hf 24 (by decide) (by decide), hf 25 (by decide) (by decide)]
 ·exact n1
 ·exact .scal fieldCells_scal
 ·exact ⟨rfl, rfl⟩
 ·refine ⟨?_, rfl⟩
  show AO.map [⟨vW 1, .slc (some (f 26, 0)) len (.upto 1 len), 0⟩] 1 = _
  rw [hf 26 (by decide) (by decide)]
 ·exact ⟨rfl, rfl⟩
 ·refine ⟨?_, rfl⟩
  show AO.cells [.map (some (f 27))] 184 false = _
  rw [hf 27 (by decide) (by decide)]
 ·exact ⟨rfl, rfl⟩
 ·exact ⟨rfl, rfl⟩
 ·exact .scal bO_scal
 ·exact ⟨rfl, rfl⟩
 ·exact .rom bO_scal
 ·exact .rom wO_scal
 ·exact dO_still
 ·exact n2
 ·exact n3
 ·exact ⟨rfl, rfl⟩
 ·exact ⟨rfl, rfl⟩
theorem lawM_okO {len now : Nat} {ev : AV} {S : List Nat} {R Z : List AO} (hS : S.length ≤ 11) (hR : ∀ x ∈ R, okO 46 x = true) (hZ : StillZ Z ev) : ∀ x ∈ lawM len now ev S R Z, okO 46 x = true := by
 intro x hx
 simp only [lawM, List.mem_append, List.mem_cons, List.not_mem_nil, or_false] at hx
 rcases hx with (rfl | rfl | rfl) | hx | hx | hx
 ·exact (ses_still (f := fun q => q) rfl rfl rfl rfl (renV_id _) (hZ.ev (fun q => q) fun _ _ _ => rfl).2).2
 ·rfl
 ·exact qEs_ok hS
 ·exact hR x hx
 ·exact (hZ.z (fun q => q) (fun _ _ _ => rfl) x hx).2
 ·obtain ⟨j, _, rfl⟩ := List.mem_map.1 hx
  exact (Still.pk (f := fun q => q)).2
theorem fT_inj {a b c x y : Nat} (ha : 46 ≤ a) (hb : 46 ≤ b) (hab : a ≠ b) (hc : c = 32 ∨ (46 ≤ c ∧ c ≠ a ∧ c ≠ b)) (hx : x < 46) (hy : y < 46) (h : fT a b c x = fT a b c y) : x = y := by
 have key : ∀ z, fT a b c z = if z = 16 then a else if z = 31 then b else if z = 32 then c else z := fun z => by
  unfold fT
  cases h1 : Nat.beq z 16 with
  | true => rw [if_pos (nbt h1)]; rfl
  | false =>
   rw [if_neg (ne_of_beq h1)]
   cases h2 : Nat.beq z 31 with
   | true => rw [if_pos (nbt h2)]; rfl
   | false =>
    rw [if_neg (ne_of_beq h2)]
    cases h3 : Nat.beq z 32 with
    | true => rw [if_pos (nbt h3)]; rfl
    | false => rw [if_neg (ne_of_beq h3)]; rfl
 rw [key, key] at h
 (repeat' split at h) <;> omega
theorem fT_lo {a b c q : Nat} (h : q ≠ 16 ∧ q ≠ 31 ∧ q ≠ 32) : fT a b c q = q := by
 unfold fT
 have e : ∀ n, q ≠ n → Nat.beq q n = false := fun n hn => by
  cases hq : Nat.beq q n with
  | true => exact (hn (nbt hq)).elim
  | false => rfl
 rw [e 16 h.1, e 31 h.2.1, e 32 h.2.2]; rfl
def Ticks (len now : Nat) (ev : AV) (R : List AO) (nb e31 e32 : AO) (ev' : AV) (R' : List AO) (nb' e31' e32' : AO) : Prop := ∀ (fr : Nat → Option Obj) (sy : SymW) (tk : Nat → Option Tok) (S : List Nat) (u : Nat → Nat) (d : Nat → Bool), S.length ≤ 11 →
 ∃ v awR, CallsAt 11 [vP 0, stepV 2 0] (ofObjs (lawM len now ev S R (zW len now (bodO len) nb u d e31 e32)) 46) (.ret v awR) ∧
  ∀ E w, LawK fr sy tk E → Rel E awR w → ∃ E', LawK fr sy tk E' ∧ Rel E' (ofObjs (lawM len (now + 1) ev' S R' (zW len (now + 1) (bodO len) nb' u d e31' e32')) 46) w ∧ ∀ q, lawP q = true → ∀ L, E.loc[q]? = some L → E'.loc[q]? = some L
def clsB (ids ops : List Nat) (B : List AO) : Bool := (List.range 46).all fun j => bb2 (inL j ids) true (bb2 (inL j ops) true (isDeadO (B[j]?)))
theorem clsB_ok {ids ops : List Nat} {B : List AO} (h : clsB ids ops B = true) {j : Nat} {n : AO} (hj : j < 46) (hb : B[j]? = some n) : j ∈ ids ∨ j ∈ ops ∨ n = .dead := by
 have h := List.all_eq_true.1 h j (List.mem_range.2 hj)
 rw [bb2_eq, bb2_eq] at h
 cases h1 : inL j ids with
 | true => exact .inl (inL_ok h1)
 | false =>
  rw [h1, cond_false] at h
  cases h2 : inL j ops with
  | true => exact .inr (.inl (inL_ok h2))
  | false =>
   rw [h2, cond_false] at h
   exact .inr (.inr (isDeadO_ok h hb))
theorem ops_law {j : Nat} (h : j ∈ opIds) : (j = 1 ∨ j = 2 ∨ j = 28 ∨ j = 29 ∨ j = 30) ∨ (35 ≤ j ∧ j < 46) := by
 simp only [opIds, List.mem_cons, List.not_mem_nil, or_false] at h
 omega
theorem mT_O {len now : Nat} {ev : AV} {R : List AO} {nb e31 e32 : AO} {O : Nat → AO} (hR : R.length = 14) {j : Nat} (h : (j = 1 ∨ j = 2 ∨ j = 28 ∨ j = 29 ∨ j = 30) ∨ (35 ≤ j ∧ j < 46)) : (mT len now ev R (zT len now nb e31 e32 O) O)[j]? = some (O j) := by
 have hZ : (zT len now nb e31 e32 O).length = 18 := rfl
 unfold mT
 rcases h with (rfl | rfl | rfl | rfl | rfl) | ⟨h1, h2⟩
 ·rfl
 ·rfl
 ·rw [lar (by simp), lar (by simp [hR]), lal (by simp [hR, hZ])]
  simp only [List.length_cons, List.length_nil, hR]; rfl
 ·rw [lar (by simp), lar (by simp [hR]), lal (by simp [hR, hZ])]
  simp only [List.length_cons, List.length_nil, hR]; rfl
 ·rw [lar (by simp), lar (by simp [hR]), lal (by simp [hR, hZ])]
  simp only [List.length_cons, List.length_nil, hR]; rfl
 ·obtain ⟨q, rfl⟩ : ∃ q, j = 35 + q := ⟨j - 35, by omega⟩
  rw [lar (by simp; omega), lar (by simp [hR]; omega), lar (by simp [hR, hZ]; omega), List.getElem?_map]
  rw [show 35 + q - [sesL len now ev, O 1, O 2].length - R.length - (zT len now nb e31 e32 O).length = q by simp [hR, hZ]; omega, List.getElem?_range (by omega)]; rfl
theorem ticks_of {len now : Nat} {ev ev' : AV} {R R' : List AO} {nb e31 e32 nb1 nb' e31' e32' : AO} {f : Nat → Nat} {ids : List Nat} {v : AV} {nx : Nat} (hR' : R'.length = 14)
  (he : ∀ O : Nat → AO, tickAt len f ids (mT len now ev R (zT len now nb e31 e32 O) O) = wantT v f ids (mT len (now + 1) ev' R' (zT len (now + 1) nb1 e31' e32' O) O) nx)
  (hcl : ∀ O : Nat → AO, clsB ids opIds (mT len (now + 1) ev' R' (zT len (now + 1) nb1 e31' e32' O) O) = true)
  (hTB : ∀ O : Nat → AO, mT len (now + 1) ev' R' (zT len (now + 1) nb' e31' e32' O) O = mT len (now + 1) ev' R' (zT len (now + 1) nb1 e31' e32' O) O ∨ mT len (now + 1) ev' R' (zT len (now + 1) nb' e31' e32' O) O = (mT len (now + 1) ev' R' (zT len (now + 1) nb1 e31' e32' O) O).set 18 .dead)
  (hf : ∀ j, j ≠ 16 → j ≠ 31 → j ≠ 32 → f j = j) (inj : ∀ a b, a < 46 → b < 46 → f a = f b → a = b) (hRo : ∀ x ∈ R', okO 46 x = true)
  (hZ : ∀ u d, StillZ (zW len (now + 1) (bodO len) nb' u d e31' e32') ev') : Ticks len now ev R nb e31 e32 ev' R' nb' e31' e32' := by
 intro fr sy tk S u d hS
 obtain ⟨O, hO⟩ : ∃ O, O = lawO len S u d := ⟨_, rfl⟩
 have e := he O
 unfold tickAt seeT wantT at e
 split at e <;> (try (cases e; done))
 rename_i v1 aw1 hc
 simp only [sI, pmi] at e
 obtain ⟨rfl, h1, h2, h3⟩ := e
 rw [hO, ← lawM_mT] at hc
 refine ⟨v1, aw1, CallsAt.of (cLat_ok len) hc, fun E w hK hR2 => ?_⟩
 have hT : (lawM len (now + 1) ev' S R' (zW len (now + 1) (bodO len) nb' u d e31' e32')) = mT len (now + 1) ev' R' (zT len (now + 1) nb' e31' e32' O) O := by rw [hO]; exact lawM_mT
 have hlen : (mT len (now + 1) ev' R' (zT len (now + 1) nb' e31' e32' O) O).length = 46 := by rw [← hT]; exact lawM_len hR' rfl
 refine tick_turn (f := f) (ids := ids) (ops := opIds) (B := mT len (now + 1) ev' R' (zT len (now + 1) nb1 e31' e32' O) O) h1 h2 (fun j hj => ?_) inj (lawM_len hR' rfl) (lawM_okO hS hRo (hZ u d)) (fun j n hj => ?_) (fun q hq => hf q (by rcases lawP_ok hq with rfl | ⟨_, _⟩ <;> omega) (by rcases lawP_ok hq with rfl | ⟨_, _⟩ <;> omega) (by rcases lawP_ok hq with rfl | ⟨_, _⟩ <;> omega)) hK hR2
 ·rcases ops_law hj with (rfl | rfl | rfl | rfl | rfl) | ⟨_, _⟩ <;> exact hf _ (by omega) (by omega) (by omega)
 ·rw [hT] at hj
  have hlt := (lgs.1 hj).1
  rw [hlen] at hlt
  have hB : n = .dead ∨ (mT len (now + 1) ev' R' (zT len (now + 1) nb1 e31' e32' O) O)[j]? = some n := by
   rcases hTB O with e | e
   ·rw [e] at hj; exact .inr hj
   ·rw [e, List.getElem?_set] at hj
    split at hj
    ·split at hj <;> (try (cases hj; done))
     injection hj with hj; exact .inl hj.symm
    ·exact .inr hj
  rcases hB with hB | hB
  ·exact .inl hB
  ·rcases clsB_ok (hcl O) hlt hB with h | h | h
   ·exact .inr ⟨hB, .inl h⟩
   ·refine .inr ⟨hB, .inr ⟨h, ?_⟩⟩
    have hn := mT_O (len := len) (now := now + 1) (ev := ev') (R := R') (nb := nb1) (e31 := e31') (e32 := e32') (O := O) hR' (ops_law h)
    rw [hB] at hn; injection hn with hn
    rw [hn, hO]
    exact (lawO_still hS (hf 2 (by decide) (by decide) (by decide)) (fun q h1 h2 => hf q (by omega) (by omega) (by omega)) j).1
   ·exact .inl h
theorem ticks_ofU {len now : Nat} {ev ev' : AV} {R R' : List AO} {e31 e32 : AO} {ids : List Nat} {v : AV} {nx : Nat} (hR' : R'.length = 14)
  (he : ∀ O : Nat → AO, tickU len ids (mT len now ev R (zT len now .dead e31 e32 O) O) = wantU v ids (mT len (now + 1) ev' R' (zT len (now + 1) .dead e31 e32 O) O) nx)
  (hcl : ∀ O : Nat → AO, clsB ids opU (mT len (now + 1) ev' R' (zT len (now + 1) .dead e31 e32 O) O) = true) (hRo : ∀ x ∈ R', okO 46 x = true)
  (hZ : ∀ u d, StillZ (zW len (now + 1) (bodO len) .dead u d e31 e32) ev') : Ticks len now ev R .dead e31 e32 ev' R' .dead e31 e32 := by
 intro fr sy tk S u d hS
 obtain ⟨O, hO⟩ : ∃ O, O = lawO len S u d := ⟨_, rfl⟩
 have e := he O
 unfold tickU seeU wantU at e
 split at e <;> (try (cases e; done))
 rename_i v1 aw1 hc
 simp only [sI, pmi] at e
 obtain ⟨rfl, h1, h2, h3⟩ := e
 rw [hO, ← lawM_mT] at hc
 refine ⟨v1, aw1, CallsAt.of (cLat_ok len) hc, fun E w hK hR2 => ?_⟩
 have hT : (lawM len (now + 1) ev' S R' (zW len (now + 1) (bodO len) .dead u d e31 e32)) = mT len (now + 1) ev' R' (zT len (now + 1) .dead e31 e32 O) O := by rw [hO]; exact lawM_mT
 have hlen : (mT len (now + 1) ev' R' (zT len (now + 1) .dead e31 e32 O) O).length = 46 := by rw [← hT]; exact lawM_len hR' rfl
 refine tick_turn (f := fun q => q) (ids := ids) (ops := opU) (B := mT len (now + 1) ev' R' (zT len (now + 1) .dead e31 e32 O) O) ?_ h2 (fun j hj => rfl) (fun _ _ _ _ h => h) (lawM_len hR' rfl) (lawM_okO hS hRo (hZ u d)) (fun j n hj => ?_) (fun q hq => rfl) hK hR2
 ·rw [h1]
  refine List.map_congr_left fun j _ => ?_
  cases (mT len (now + 1) ev' R' (zT len (now + 1) .dead e31 e32 O) O)[j]? with
  | none => rfl
  | some x => rw [Option.map_some, renO_id]
 ·rw [hT] at hj
  have hlt := (lgs.1 hj).1
  rw [hlen] at hlt
  rcases clsB_ok (hcl O) hlt hj with h | h | h
  ·exact .inr ⟨hj, .inl h⟩
  ·exact .inr ⟨hj, .inr ⟨h, renO_id _⟩⟩
  ·exact .inl h
theorem nows_mem {len now : Nat} {ns : List Nat} (hl : len ∈ lens) (hn : now ∈ ns) : (len, now) ∈ nowsL ns := List.mem_flatMap.2 ⟨len, hl, List.mem_map.2 ⟨now, hn, rfl⟩⟩
theorem part_mem {len n now : Nat} {ns : List Nat} (hl : len ∈ lens) (h1 : 1 ≤ n) (h2 : n < kOf len) (hn : now ∈ ns) : (len, n, now) ∈ partL ns := by
 refine List.mem_flatMap.2 ⟨len, hl, List.mem_flatMap.2 ⟨n - 1, List.mem_range.2 (by omega), List.mem_map.2 ⟨now, hn, ?_⟩⟩⟩
 rw [show n - 1 + 1 = n by omega]
theorem stillU {len now : Nat} {u : Nat → Nat} {d : Nat → Bool} : StillZ (zW len now (bodO len) nb0 u d .dead .dead) vN := zW_still fun f hf => ⟨⟨rfl, rfl⟩, still_dead, still_dead, rfl, rfl⟩
theorem evV_still {f : Nat → Nat} (hf : ∀ q, 17 ≤ q → q < 35 → f q = q) : renV f evV = evV ∧ okV 46 evV = true := ⟨by show AV.slc (some (f 31, 0)) 1 (.upto 4 1) = _; rw [hf 31 (by decide) (by decide)]; rfl, rfl⟩
theorem stillC {len now : Nat} {u : Nat → Nat} {d : Nat → Bool} : StillZ (zW len now (bodO len) .dead u d evC .dead) evV := zW_still fun f hf => ⟨still_dead, ⟨rfl, rfl⟩, still_dead, evV_still hf⟩
theorem stillR {len now at' : Nat} {u : Nat → Nat} {d : Nat → Bool} : StillZ (zW len now (bodO len) .dead u d (evR len at') (bodO len)) evV := zW_still fun f hf => ⟨still_dead, ⟨by show AO.cells [vI 1, vW 1, vI at', .slc (some (f 32, 0)) len (.upto 1 len)] 42 true = _; rw [hf 32 (by decide) (by decide)]; rfl, rfl⟩, .scal bO_scal, evV_still hf⟩
section
variable {len now n : Nat} {β : Nat → Bool}
theorem ticks_A (hl : len ∈ lens) (hn : now ∈ [1, 2, 3, 4, 5, 6]) : Ticks len now vN (rcvA len) nb0 .dead .dead vN (rcvA len) nb0 .dead .dead :=
 ticks_of (f := fun q => q) (nb1 := nb0) rfl (fun O => List.map_inj_left.1 (tk_A O) (len, now) (nows_mem hl hn)) (fun O => by kernel_rfl) (fun O => .inl rfl) (fun _ _ _ _ => rfl) (fun _ _ _ _ h => h) (rcvX_ok rfl rfl rfl rfl rfl rfl) fun u d => stillU
theorem ticks_P (hl : len ∈ lens) (h1 : 1 ≤ n) (h2 : n < kOf len) (hn : now ∈ [1, 2, 3, 4, 5, 6]) : Ticks len now vN (rcvB len n β) nb0 .dead .dead vN (rcvB len n β) nb0 .dead .dead := by
 have h12 : now ∈ [1, 2] ∨ now ∈ [3, 4] ∨ now ∈ [5, 6] := by
  simp only [List.mem_cons, List.not_mem_nil, or_false] at hn ⊢
  omega
 have ok : ∀ x ∈ rcvB len n β, okO 46 x = true := rcvX_ok rfl rfl rfl rfl rfl rfl
 rcases h12 with h | h | h
 ·exact ticks_of (f := fun q => q) (nb1 := nb0) rfl (fun O => List.map_inj_left.1 (tk_P1 O β) (len, n, now) (part_mem hl h1 h2 h)) (fun O => by kernel_rfl) (fun O => .inl rfl) (fun _ _ _ _ => rfl) (fun _ _ _ _ h => h) ok fun u d => stillU
 ·exact ticks_of (f := fun q => q) (nb1 := nb0) rfl (fun O => List.map_inj_left.1 (tk_P2 O β) (len, n, now) (part_mem hl h1 h2 h)) (fun O => by kernel_rfl) (fun O => .inl rfl) (fun _ _ _ _ => rfl) (fun _ _ _ _ h => h) ok fun u d => stillU
 ·exact ticks_of (f := fun q => q) (nb1 := nb0) rfl (fun O => List.map_inj_left.1 (tk_P3 O β) (len, n, now) (part_mem hl h1 h2 h)) (fun O => by kernel_rfl) (fun O => .inl rfl) (fun _ _ _ _ => rfl) (fun _ _ _ _ h => h) ok fun u d => stillU
theorem ticks_K1 (hl : len ∈ lens) : Ticks len 1 vN (rcvB len (kOf len) β) nb0 .dead .dead vN (rcvB len (kOf len) β) nb0 .dead .dead :=
 ticks_of (f := fun q => q) (nb1 := nb0) rfl (fun O => List.map_inj_left.1 (tk_K1 O β) (len, 1) (nows_mem hl (by simp))) (fun O => by kernel_rfl) (fun O => .inl rfl) (fun _ _ _ _ => rfl) (fun _ _ _ _ h => h) (rcvX_ok rfl rfl rfl rfl rfl rfl) fun u d => stillU
theorem ticks_KR (hl : len ∈ lens) (hn : now ∈ [2, 3, 4, 5, 6, 7]) : Ticks len now vN (rcvB len (kOf len) β) nb0 .dead .dead evV (rcvT len 1 1) .dead (evR len (now + 1)) (bodO len) :=
 ticks_of (nb1 := nb0) rfl (fun O => List.map_inj_left.1 (tk_KR O β) (len, now) (nows_mem hl hn)) (fun O => by kernel_rfl) (fun O => .inr (by kernel_rfl)) (fun j h1 h2 h3 => fT_lo ⟨h1, h2, h3⟩) (fun a b ha hb h => fT_inj (by decide) (by omega) (by omega) (.inr ⟨by omega, by omega, by omega⟩) ha hb h) (rcvX_ok rfl rfl rfl rfl rfl rfl) fun u d => stillR
theorem ticks_AC (hl : len ∈ lens) : Ticks len 7 vN (rcvA len) nb0 .dead .dead evV (rcvT len 0 2) .dead evC .dead :=
 ticks_of (nb1 := .dead) rfl (fun O => List.map_inj_left.1 (tk_AC O) (len, 7) (nows_mem hl (by simp))) (fun O => by kernel_rfl) (fun O => .inl rfl) (fun j h1 h2 h3 => fT_lo ⟨h1, h2, h3⟩) (fun a b ha hb h => fT_inj (by decide) (by decide) (by decide) (.inl rfl) ha hb h) (rcvX_ok rfl rfl rfl rfl rfl rfl) fun u d => stillC
theorem ticks_PC (hl : len ∈ lens) (h1 : 1 ≤ n) (h2 : n < kOf len) : Ticks len 7 vN (rcvB len n β) nb0 .dead .dead evV (rcvT len 1 2) .dead evC .dead :=
 ticks_of (nb1 := .dead) rfl (fun O => List.map_inj_left.1 (tk_PC O β) (len, n, 7) (part_mem hl h1 h2 (by simp))) (fun O => by kernel_rfl) (fun O => .inl rfl) (fun j h1 h2 h3 => fT_lo ⟨h1, h2, h3⟩) (fun a b ha hb h => fT_inj (by decide) (by decide) (by decide) (.inl rfl) ha hb h) (rcvX_ok rfl rfl rfl rfl rfl rfl) fun u d => stillC
theorem ticks_R {at' c : Nat} (hl : len ∈ lens) (hn : now ∈ [3, 4, 5, 6, 7, 8, 9, 10, 11, 12, 13, 14]) : Ticks len now evV (rcvT len c 1) .dead (evR len at') (bodO len) evV (rcvT len c 1) .dead (evR len at') (bodO len) :=
 ticks_ofU rfl (fun O => List.map_inj_left.1 (tk_R O c (evR len at') (bodO len)) (len, now) (nows_mem hl hn)) (fun O => by kernel_rfl) (rcvX_ok rfl rfl rfl rfl rfl rfl) fun u d => stillR
theorem ticks_C {c : Nat} (hl : len ∈ lens) (hn : now ∈ [8, 9, 10, 11, 12, 13, 14]) : Ticks len now evV (rcvT len c 2) .dead evC .dead evV (rcvT len c 2) .dead evC .dead :=
 ticks_ofU rfl (fun O => List.map_inj_left.1 (tk_C O c evC .dead) (len, now) (nows_mem hl hn)) (fun O => by kernel_rfl) (rcvX_ok rfl rfl rfl rfl rfl rfl) fun u d => stillC
end
def cnt (k : Nat) (d : Nat → Bool) : Nat := ((List.range k).filter d).length
theorem cnt_put : ∀ {k i : Nat} {d : Nat → Bool}, i < k → d i = false → cnt k (put1 d i) = cnt k d + 1
 | 0, i, d, h, _ => by omega
 | k + 1, i, d, h, hd => by
  unfold cnt
  rw [List.range_succ, List.filter_append, List.filter_append, List.length_append, List.length_append]
  by_cases hi : i < k
  ·have := cnt_put hi hd
   unfold cnt at this
   rw [this]
   have hk : Nat.beq k i = false := by
    cases hq : Nat.beq k i with
    | true => have := nbt hq; omega
    | false => rfl
   have e : put1 d i k = d k := by unfold put1; rw [hk]; rfl
   have : [k].filter (put1 d i) = [k].filter d := by simp [List.filter_cons, e]
   rw [this]; omega
  ·have : i = k := by omega
   subst this
   have e1 : [i].filter (put1 d i) = [i] := by simp [put1_at]
   have e2 : [i].filter d = [] := by simp [hd]
   rw [e1, e2]
   have e3 : (List.range i).filter (put1 d i) = (List.range i).filter d := List.filter_congr fun j hj => by
    have := List.mem_range.1 hj
    have hq : Nat.beq j i = false := by
     cases hq : Nat.beq j i with
     | true => have := nbt hq; omega
     | false => rfl
    unfold put1
    rw [hq]; rfl
   rw [e3]; simp
theorem cnt_zero {k : Nat} {d : Nat → Bool} (h : cnt k d = 0) : ∀ j, j < k → d j = false := fun j hj => by
 have h := List.eq_nil_of_length_eq_zero h
 cases hd : d j with
 | false => rfl
 | true =>
  have : j ∈ (List.range k).filter d := List.mem_filter.2 ⟨List.mem_range.2 hj, hd⟩
  rw [h] at this; cases this
theorem cnt_le {k : Nat} {d : Nat → Bool} : cnt k d ≤ k := by
 have := List.length_filter_le d (List.range k)
 simpa [cnt] using this
theorem cnt_all {k : Nat} {d : Nat → Bool} : cnt k d = k ↔ ∀ j, j < k → d j = true := by
 unfold cnt
 constructor
 ·intro h j hj
  have h2 : ((List.range k).filter d).length = (List.range k).length := by simpa using h
  exact List.length_filter_eq_length_iff.1 h2 j (List.mem_range.2 hj)
 ·intro h
  have h2 := (List.length_filter_eq_length_iff (p := d) (l := List.range k)).2 fun j hj => h j (List.mem_range.1 hj)
  simpa using h2
def rcvU (len : Nat) (d : Nat → Bool) : List AO := if cnt (kOf len) d = 0 then rcvA len else rcvB len (cnt (kOf len) d) d
theorem rcvU_len {len : Nat} {d : Nat → Bool} : (rcvU len d).length = 14 := by
 unfold rcvU
 split <;> rfl
theorem rcvU_still {len : Nat} {d : Nat → Bool} {p : Nat} : ∀ x ∈ rcvU len d, Still (fB p) 46 x := by
 unfold rcvU
 split
 ·exact rcvA_still (fB_rcv p)
 ·exact rcvB_still (fB_rcv p)
theorem phaseU {len now : Nat} (hl : len ∈ lens) : Phase len now (rcvU len) := by
 intro d i he hi hd
 have hc := cnt_put hi hd
 have h2 : rcvU len (put1 d i) = rcvB len (cnt (kOf len) d + 1) (put1 d i) := by
  unfold rcvU
  rw [hc, if_neg (by omega)]
 rw [h2]
 refine ⟨?_, hears_C hl hi put1_at⟩
 unfold rcvU
 by_cases h0 : cnt (kOf len) d = 0
 ·rw [if_pos h0, h0]
  have hdf : d = fun _ => false := by
   funext j
   by_cases hj : j < kOf len
   ·exact cnt_zero h0 j hj
   ·exact he j (by omega)
  have : put1 d i = fun j => bb2 (Nat.beq j i) true false := by rw [hdf]; rfl
  rw [this]
  exact hears_A hl hi
 ·rw [if_neg h0]
  exact hears_B hl hi hd
theorem phaseT {len now c wv : Nat} (hl : len ∈ lens) (hw : wv = 1 ∨ wv = 2) : Phase len now (fun _ => rcvT len c wv) := fun d i _ hi _ => ⟨hears_T hl hi hw, hears_T hl hi hw⟩
section
variable {fr : Nat → Option Obj} {sy : SymW} {tk : Nat → Option Tok}
theorem tick_end {Q : Post'} {tm : List (Nat × AV)} {M M' : List AO} {a c d : Nat} {z : List AV} {ps : List (Nat × Nat × Opd)} {awR : AW} {v : AV}
  (ha : Nat.blt a 170 = true) (hc : Nat.blt c 170 = true) (hd : Nat.blt d 170 = true) (hac : a ≠ c)
  (htm : ∀ s v, (s, v) ∈ tm → (tmOf tm .leaf).get s s = some v ∧ s ≠ a ∧ s ≠ c ∧ s ≠ d ∧ okP lawP v = true)
  (h5 : (5, vP 0) ∈ tm) (hfill : ∀ t : Tr AV, xfill t z ps = some [vI 2, vW 0, vI 0, vN, vI 0, vI 0, vI 0, vN, vI 0, vI 0, .bool false, .int .u8 (.ofNat 0)])
  (hcall : CallsAt 11 [vP 0, stepV 2 0] (ofObjs M 46) (.ret v awR)) (hcl : callable Tryz.prog 11 = true)
  (hturn : ∀ E w, LawK fr sy tk E → Rel E awR w → ∃ E', LawK fr sy tk E' ∧ Rel E' (ofObjs M' 46) w ∧ ∀ q, lawP q = true → ∀ L, E.loc[q]? = some L → E'.loc[q]? = some L)
  (hq : ∀ E ca w, LawK fr sy tk E → ActRel E ⟨tmOf tm .leaf, 170, []⟩ ca → Rel E (ofObjs M' 46) w → Q .normal ca w) :
  GoodK Tryz.prog (cDraw Tryz.prog) (LawK fr sy tk) (.region [.op (some a) none (.mv (.t 5)), .op (some c) none (.build z ps), .call (some d) none 11 [.t a, .t c]]) Q ⟨tmOf tm .leaf, 170, []⟩ (ofObjs M 46) := by
 obtain ⟨g5, _⟩ := htm _ _ h5
 refine GoodK.region (GoodI.op (v := vP 0) (aw1 := ofObjs M 46) LawK.le cAny_ok (by simp only [xop, Opd.ev, g5]) ha ?_)
 refine GoodI.op (v := stepV 2 0) (aw1 := ofObjs M 46) LawK.le cAny_ok (by simp only [xop, hfill]; rfl) hc ?_
 refine GoodI.calls (α := Unit) (p := fun _ => True) (v := fun _ => v) (aw2 := fun _ => awR) (vs := [vP 0, stepV 2 0]) LawK.le ?_ hcl (fun E w cargs hE hr hR => (hcall E w cargs hr hR).mono fun e w' h => ⟨(), trivial, h⟩) hd fun _ _ => ?_
 ·have e1 : Opd.ev (((tmOf tm .leaf).set a a (vP 0)).set c c (stepV 2 0)) (.t a) = some (vP 0) := (tgo hac).trans (Tr.get_set_same ..)
  have e2 : Opd.ev (((tmOf tm .leaf).set a a (vP 0)).set c c (stepV 2 0)) (.t c) = some (stepV 2 0) := Tr.get_set_same ..
  simp only [evs, e1, e2]
 ·refine GoodI.turn (tm := tm) (aw' := ofObjs M' 46) (fun E w hE hR => ?_) (GoodI.nil fun E ca w hE hA hR => hq E ca w hE hA hR)
  obtain ⟨E', h1, h2, h3⟩ := hturn E w hE hR
  refine ⟨E', h1, h2, fun s u hsu => ?_⟩
  obtain ⟨q1, q2, q4, q5, q6⟩ := htm s u hsu
  exact ⟨u, (tgo q5).trans ((tgo q4).trans ((tgo q2).trans q1)), fun cv hcv => hcv.keepP h3 q6⟩
variable {len now m t : Nat} {last : Int} {u w : Nat → Nat}
theorem tmT_in {n : Nat} {a : AV} (hx : 12 < n) : ∀ s v, (s, v) ∈ tmT len m last t → (tmOf (tmT len m last t ++ [(n, a)]) .leaf).get s s = some v := by
 intro s v hsv
 have hap : ∀ (l : List (Nat × AV)) (t0 : Tr AV), tmOf (l ++ [(n, a)]) t0 = (tmOf l t0).set n n a := by
  intro l
  induction l with
  | nil => intro t0; show trSet t0 n a = _; exact trSet_eq _ _ _
  | cons y l ih => intro t0; exact ih _
 rw [hap]
 simp only [tmT, List.mem_cons, List.not_mem_nil, or_false, pmi] at hsv
 rcases hsv with ⟨rfl, rfl⟩ | ⟨rfl, rfl⟩ | ⟨rfl, rfl⟩ | ⟨rfl, rfl⟩ | ⟨rfl, rfl⟩ | ⟨rfl, rfl⟩ | ⟨rfl, rfl⟩ <;> (rw [tgo (by omega)]; rfl)
theorem tmT_tmI {p i : Nat} : ∀ s v, (s, v) ∈ tmT len m last t → (tmOf (tmI len m last t p i) .leaf).get s s = some v := by
 intro s v hsv
 simp only [tmT, List.mem_cons, List.not_mem_nil, or_false, pmi] at hsv
 rcases hsv with ⟨rfl, rfl⟩ | ⟨rfl, rfl⟩ | ⟨rfl, rfl⟩ | ⟨rfl, rfl⟩ | ⟨rfl, rfl⟩ | ⟨rfl, rfl⟩ | ⟨rfl, rfl⟩ <;> rfl
theorem dn_turn {k : Nat} (hw2 : ∀ j, k ≤ j → t + 1 < w j) : dn w t k = dn w (t + 1) 0 := by
 funext j
 unfold dn
 rw [blt_iff (a := j) (b := 0), decide_eq_false (Nat.not_lt_zero j), cond_false, blt_iff (a := j)]
 by_cases h : j < k
 ·rw [decide_eq_true h, cond_true, blt_iff, ble_iff]
  by_cases h2 : w j ≤ t
  ·rw [decide_eq_true h2, decide_eq_true (by omega : w j < t + 1)]
  ·rw [decide_eq_false h2, decide_eq_false (by omega : ¬ w j < t + 1)]
 ·have := hw2 j (by omega)
  rw [decide_eq_false h, cond_false, blt_iff, blt_iff, decide_eq_false (by omega : ¬ w j < t), decide_eq_false (by omega : ¬ w j < t + 1)]
theorem outer_step {ev ev' : AV} {Rf : (Nat → Bool) → List AO} {R' : List AO} {nb e31 e32 nb' e31' e32' : AO} (hl : len ∈ lens) (ht : t < 14) (hRf : ∀ d, (Rf d).length = 14) (hR' : R'.length = 14) (hRs : ∀ d p, ∀ x ∈ Rf d, Still (fB p) 46 x) (hZ : ∀ d, StillZ (zW len (t + 1) (bodO len) nb u d e31 e32) ev) (hP : Phase len (t + 1) Rf)
  (hu : ∀ j, j < 10 → u j < 256) (hw : ∀ j, j < kOf len → w j = u j % 12) (hw2 : ∀ j, kOf len ≤ j → t + 1 < w j) {QL : Post'} (htick : Ticks len (t + 1) ev (Rf (dn w (t + 1) 0)) nb e31 e32 ev' R' nb' e31' e32')
  (ih : GoodLK Tryz.prog (cDraw Tryz.prog) (LawK fr sy tk) ltA QL ⟨tmOf (tmT len m last (t + 1)) .leaf, 170, []⟩ (ofObjs (lawM len (t + 1 + 1) ev' (qS (kOf len) (dn w (t + 1) 0)) R' (zW len (t + 1 + 1) (bodO len) nb' u (dn w (t + 1) 0) e31' e32')) 46)) :
  GoodLK Tryz.prog (cDraw Tryz.prog) (LawK fr sy tk) ltA QL ⟨tmOf (tmT len m last t) .leaf, 170, []⟩ (ofObjs (lawM len (t + 1) ev (qS (kOf len) (dn w t 0)) (Rf (dn w t 0)) (zW len (t + 1) (bodO len) nb u (dn w t 0) e31 e32)) 46) := by
 have hk := kOf_le hl
 obtain ⟨O, hO⟩ := lawM_mW (len := len) (now := t + 1) (ev := ev) (bd := bodO len) (nb := nb) (e31 := e31) (e32 := e32) (u := u) (S := qS (kOf len) (dn w t 0)) (d := dn w t 0) (hRf (dn w t 0))
 have hlen : (lawM len (t + 1) ev (qS (kOf len) (dn w t 0)) (Rf (dn w t 0)) (zW len (t + 1) (bodO len) nb u (dn w t 0) e31 e32)).length = 46 := lawM_len (hRf _) rfl
 refine GoodLK.of ?_
 show GoodK _ _ _ (.seq (.seq ltT (.cond (.t 78) .skip (.exit 2))) (.seq (.block 3 ltB) ltN)) _ _ _
 have eT := List.map_inj_left.1 (ltT_all O (wO u) (dO len (dn w t 0)) len m last) t (List.mem_range.2 (by omega))
 rw [← hO] at eT
 refine GoodK.into (GoodK.piece LawK.le hlen eT (GoodK.cond (u := true) ((tm_ev (l := tmT len m last t) (n := 78)).trans (congrArg (fun b => some (AV.bool b)) (blt_iff.trans (decide_eq_true ht)))) (fun _ => GoodK.skipTo LawK.le (GoodK.fewer (tmT_in (by decide)) (GoodK.into (GoodK.block ?_)))) fun h => by cases h))
 show GoodK _ _ _ (.seq ltP (.seq (.seq li0 (.block 4 (.loop liA))) ltK)) _ _ _
 have eP := ltP_all O (wO u) (dO len (dn w t 0)) len m last t
 have e0 := li0_all O (wO u) (dO len (dn w t 0)) len m last t
 rw [← hO] at eP e0
 refine GoodK.piece LawK.le hlen eP (GoodK.into (GoodK.piece LawK.le hlen e0 (GoodK.block (GoodK.loop ?_))))
 refine inner_loop (t := t) hl hRf hRs hZ hP hu hw (fun j hj => by have := hw2 j hj; omega) (fun p E ca w' hE hA hR => ?_) (kOf len) 0 (by omega)
 intro c hc
 rw [dn_turn hw2] at hR
 obtain ⟨v, awR, hcall, hturn⟩ := htick fr sy tk (qS (kOf len) (dn w (t + 1) 0)) u (dn w (t + 1) 0) (Nat.le_trans qS_len (by omega))
 refine (tick_end (Q := Exit.inBlock 3 (thenC Tryz.prog (cDraw Tryz.prog) ltN (loopQ Tryz.prog (cDraw Tryz.prog) ltA QL))) rfl rfl rfl (by decide) (fun s v hsv => ?_) (by simp [tmI]) (fun t => rfl) hcall (by kernel_rfl) hturn fun E ca w' hE hA hR => ?_ : GoodK Tryz.prog (cDraw Tryz.prog) (LawK fr sy tk) ltK _ ⟨tmOf (tmI len m last t p (kOf len)) .leaf, 170, []⟩ _) c hc E ca w' hE hA hR
 ·obtain ⟨q1, q2, q3, q4, q5, q6⟩ := tmI_ok (len := len) (m := m) (last := last) (t := t) (p := p) (i := kOf len) (a := 115) (b := 115) (c := 116) (d := 117) ⟨by decide, by decide, by decide, by decide⟩ s v hsv
  exact ⟨q1, q2, q4, q5, q6⟩
 ·show thenC Tryz.prog (cDraw Tryz.prog) ltN (loopQ Tryz.prog (cDraw Tryz.prog) ltA QL) .normal ca w'
  intro c hc
  obtain ⟨O2, hO2⟩ := lawM_mW (len := len) (now := t + 1 + 1) (ev := ev') (bd := bodO len) (nb := nb') (e31 := e31') (e32 := e32') (u := u) (S := qS (kOf len) (dn w (t + 1) 0)) (d := dn w (t + 1) 0) hR'
  have eN := List.map_inj_left.1 (ltN_all O2 (wO u) (dO len (dn w (t + 1) 0)) len m last) t (List.mem_range.2 ht)
  rw [← hO2] at eN
  refine (GoodK.fewer tmT_tmI (GoodK.pieceEnd LawK.le (lawM_len hR' rfl) eN fun E ca w hE hA hR => ?_) : GoodK Tryz.prog (cDraw Tryz.prog) (LawK fr sy tk) ltN (loopQ Tryz.prog (cDraw Tryz.prog) ltA QL) _ _) c hc E ca w' hE hA hR
  intro c' hc'
  exact ih c' hc' E ca w hE hA hR
theorem outer_end {ev : AV} {R : List AO} {nb e31 e32 : AO} {d : Nat → Bool} {S : List Nat} (hR : R.length = 14) {Q0 : Post'}
  (hQ : ∀ E ca w', LawK fr sy tk E → ActRel E ⟨tmOf (tmT len m last 14) .leaf, 170, []⟩ ca → Rel E (ofObjs (lawM len now ev S R (zW len now (bodO len) nb u d e31 e32)) 46) w' → Q0 .normal ca w') :
  GoodLK Tryz.prog (cDraw Tryz.prog) (LawK fr sy tk) ltA (Exit.inBlock 2 Q0) ⟨tmOf (tmT len m last 14) .leaf, 170, []⟩ (ofObjs (lawM len now ev S R (zW len now (bodO len) nb u d e31 e32)) 46) := by
 obtain ⟨O, hO⟩ := lawM_mW (len := len) (now := now) (ev := ev) (bd := bodO len) (nb := nb) (e31 := e31) (e32 := e32) (u := u) (S := S) (d := d) hR
 refine GoodLK.of ?_
 show GoodK _ _ _ (.seq (.seq ltT (.cond (.t 78) .skip (.exit 2))) (.seq (.block 3 ltB) ltN)) _ _ _
 have eT := List.map_inj_left.1 (ltT_all O (wO u) (dO len d) len m last) 14 (List.mem_range.2 (by omega))
 rw [← hO] at eT
 refine GoodK.into (GoodK.piece LawK.le (lawM_len hR rfl) eT (GoodK.cond (u := false) ((tm_ev (l := tmT len m last 14) (n := 78)).trans rfl) (fun h => by cases h) fun _ => GoodK.fewer (tmT_in (by decide)) (GoodK.exitTo LawK.le fun E ca w' hE hA hR => ?_)))
 show Q0 .normal ca w'
 exact hQ E ca w' hE hA hR
end
section
variable {fr : Nat → Option Obj} {sy : SymW} {tk : Nat → Option Tok} {len m L : Nat} {last : Int} {u w : Nat → Nat} {Q0 : Post'}
theorem told_R {c at' : Nat} (hl : len ∈ lens) (hu : ∀ j, j < 10 → u j < 256) (hw : ∀ j, j < kOf len → w j = u j % 12) (hw2 : ∀ j, kOf len ≤ j → w j = 99)
  (hQ : ∀ E ca w', LawK fr sy tk E → ActRel E ⟨tmOf (tmT len m last 14) .leaf, 170, []⟩ ca → Rel E (ofObjs (lawM len 15 evV (qS (kOf len) (dn w 14 0)) (rcvT len c 1) (zW len 15 (bodO len) .dead u (dn w 14 0) (evR len at') (bodO len))) 46) w' → Q0 .normal ca w') :
  ∀ e t, t + e = 14 → 2 ≤ t → GoodLK Tryz.prog (cDraw Tryz.prog) (LawK fr sy tk) ltA (Exit.inBlock 2 Q0) ⟨tmOf (tmT len m last t) .leaf, 170, []⟩ (ofObjs (lawM len (t + 1) evV (qS (kOf len) (dn w t 0)) (rcvT len c 1) (zW len (t + 1) (bodO len) .dead u (dn w t 0) (evR len at') (bodO len))) 46)
 | 0, t, he, h2 => by
  have : t = 14 := by omega
  subst this
  exact outer_end rfl hQ
 | e + 1, t, he, h2 => by
  refine outer_step (Rf := fun _ => rcvT len c 1) hl (by omega) (fun _ => rfl) rfl (fun d p => rcvT_still (fB_rcv p)) (fun d => stillR) (phaseT hl (.inl rfl)) hu hw (fun j hj => by rw [hw2 j hj]; omega) (ticks_R hl (by simp only [List.mem_cons, List.not_mem_nil, or_false]; omega)) (told_R hl hu hw hw2 hQ e (t + 1) (by omega) (by omega))
theorem told_C {c : Nat} (hl : len ∈ lens) (hu : ∀ j, j < 10 → u j < 256) (hw : ∀ j, j < kOf len → w j = u j % 12) (hw2 : ∀ j, kOf len ≤ j → w j = 99)
  (hQ : ∀ E ca w', LawK fr sy tk E → ActRel E ⟨tmOf (tmT len m last 14) .leaf, 170, []⟩ ca → Rel E (ofObjs (lawM len 15 evV (qS (kOf len) (dn w 14 0)) (rcvT len c 2) (zW len 15 (bodO len) .dead u (dn w 14 0) evC .dead)) 46) w' → Q0 .normal ca w') :
  ∀ e t, t + e = 14 → 7 ≤ t → GoodLK Tryz.prog (cDraw Tryz.prog) (LawK fr sy tk) ltA (Exit.inBlock 2 Q0) ⟨tmOf (tmT len m last t) .leaf, 170, []⟩ (ofObjs (lawM len (t + 1) evV (qS (kOf len) (dn w t 0)) (rcvT len c 2) (zW len (t + 1) (bodO len) .dead u (dn w t 0) evC .dead)) 46)
 | 0, t, he, h2 => by
  have : t = 14 := by omega
  subst this
  exact outer_end rfl hQ
 | e + 1, t, he, h2 => by
  refine outer_step (Rf := fun _ => rcvT len c 2) hl (by omega) (fun _ => rfl) rfl (fun d p => rcvT_still (fB_rcv p)) (fun d => stillC) (phaseT hl (.inr rfl)) hu hw (fun j hj => by rw [hw2 j hj]; omega) (ticks_C hl (by simp only [List.mem_cons, List.not_mem_nil, or_false]; omega)) (told_C hl hu hw hw2 hQ e (t + 1) (by omega) (by omega))
def tStar (L : Nat) : Nat := if L ≤ 6 then (if L = 0 then 1 else L) else 6
theorem dn0 {t j : Nat} : dn w (t + 1) 0 j = decide (w j ≤ t) := by
 unfold dn
 rw [blt_iff (a := j), decide_eq_false (Nat.not_lt_zero j), cond_false, blt_iff]
 by_cases h : w j ≤ t
 ·rw [decide_eq_true h, decide_eq_true (by omega : w j < t + 1)]
 ·rw [decide_eq_false h, decide_eq_false (by omega : ¬ w j < t + 1)]
theorem cnt_dn {t : Nat} (hL1 : ∀ j, j < kOf len → w j ≤ L) (hL2 : ∃ j, j < kOf len ∧ w j = L) : cnt (kOf len) (dn w (t + 1) 0) = kOf len ↔ L ≤ t := by
 rw [cnt_all]
 constructor
 ·intro h
  obtain ⟨j, hj, e⟩ := hL2
  have := h j hj
  rw [dn0, e] at this
  exact of_decide_eq_true this
 ·intro h j hj
  rw [dn0]
  exact decide_eq_true (Nat.le_trans (hL1 j hj) h)
theorem untold (hl : len ∈ lens) (hu : ∀ j, j < 10 → u j < 256) (hw : ∀ j, j < kOf len → w j = u j % 12) (hw2 : ∀ j, kOf len ≤ j → w j = 99) (hL1 : ∀ j, j < kOf len → w j ≤ L) (hL2 : ∃ j, j < kOf len ∧ w j = L)
  (hQR : L ≤ 6 → ∀ E ca w', LawK fr sy tk E → ActRel E ⟨tmOf (tmT len m last 14) .leaf, 170, []⟩ ca → Rel E (ofObjs (lawM len 15 evV (qS (kOf len) (dn w 14 0)) (rcvT len 1 1) (zW len 15 (bodO len) .dead u (dn w 14 0) (evR len (tStar L + 1 + 1)) (bodO len))) 46) w' → Q0 .normal ca w')
  (hQC : 7 ≤ L → ∀ c E ca w', LawK fr sy tk E → ActRel E ⟨tmOf (tmT len m last 14) .leaf, 170, []⟩ ca → Rel E (ofObjs (lawM len 15 evV (qS (kOf len) (dn w 14 0)) (rcvT len c 2) (zW len 15 (bodO len) .dead u (dn w 14 0) evC .dead)) 46) w' → Q0 .normal ca w') :
  ∀ e t, t + e = tStar L → GoodLK Tryz.prog (cDraw Tryz.prog) (LawK fr sy tk) ltA (Exit.inBlock 2 Q0) ⟨tmOf (tmT len m last t) .leaf, 170, []⟩ (ofObjs (lawM len (t + 1) vN (qS (kOf len) (dn w t 0)) (rcvU len (dn w t 0)) (zW len (t + 1) (bodO len) nb0 u (dn w t 0) .dead .dead)) 46)
 | 0, t, he => by
  have hts : t = tStar L := by omega
  have h6 : t ≤ 6 ∧ 1 ≤ t := by rw [hts]; unfold tStar; split <;> (try split) <;> omega
  have hkp : kOf len ≠ 0 := ne_of_beq (kOf_pos hl)
  have hc := cnt_dn (t := t) hL1 hL2
  by_cases hL : L ≤ 6
  ·have hLt : L ≤ t := by rw [hts]; unfold tStar; rw [if_pos hL]; split <;> omega
   have hk := hc.2 hLt
   have hr : rcvU len (dn w (t + 1) 0) = rcvB len (kOf len) (dn w (t + 1) 0) := by unfold rcvU; rw [hk, if_neg hkp]
   refine outer_step (Rf := rcvU len) hl (by omega) (fun _ => rcvU_len) rfl (fun d p => rcvU_still) (fun d => stillU) (phaseU hl) hu hw (fun j hj => by rw [hw2 j hj]; omega) (by rw [hr]; exact ticks_KR hl (by simp only [List.mem_cons, List.not_mem_nil, or_false]; omega)) ?_
   rw [hts]
   exact told_R hl hu hw hw2 (hQR hL) (14 - (tStar L + 1)) (tStar L + 1) (by omega) (by omega)
  ·have ht6 : t = 6 := by rw [hts]; unfold tStar; rw [if_neg hL]
   subst ht6
   have hk : cnt (kOf len) (dn w (6 + 1) 0) < kOf len := Nat.lt_of_le_of_ne cnt_le fun e => by have := hc.1 e; omega
   by_cases h0 : cnt (kOf len) (dn w (6 + 1) 0) = 0
   ·have hr : rcvU len (dn w (6 + 1) 0) = rcvA len := by unfold rcvU; rw [if_pos h0]
    exact outer_step (Rf := rcvU len) hl (by omega) (fun _ => rcvU_len) rfl (fun d p => rcvU_still) (fun d => stillU) (phaseU hl) hu hw (fun j hj => by rw [hw2 j hj]; omega) (by rw [hr]; exact ticks_AC hl) (told_C hl hu hw hw2 (hQC (by omega) 0) 7 7 (by omega) (by omega))
   ·have hr : rcvU len (dn w (6 + 1) 0) = rcvB len (cnt (kOf len) (dn w (6 + 1) 0)) (dn w (6 + 1) 0) := by unfold rcvU; rw [if_neg h0]
    exact outer_step (Rf := rcvU len) hl (by omega) (fun _ => rcvU_len) rfl (fun d p => rcvU_still) (fun d => stillU) (phaseU hl) hu hw (fun j hj => by rw [hw2 j hj]; omega) (by rw [hr]; exact ticks_PC hl (by omega) hk) (told_C hl hu hw hw2 (hQC (by omega) 1) 7 7 (by omega) (by omega))
 | e + 1, t, he => by
  have h6 : t + 1 ≤ tStar L := by omega
  have h7 : tStar L ≤ 6 := by unfold tStar; split <;> (try split) <;> omega
  have hkp : kOf len ≠ 0 := ne_of_beq (kOf_pos hl)
  have hc := cnt_dn (t := t) hL1 hL2
  have ih := untold hl hu hw hw2 hL1 hL2 hQR hQC e (t + 1) (by omega)
  by_cases hLt : L ≤ t
  ·have hk := hc.2 hLt
   have ht0 : t = 0 := by unfold tStar at h6; split at h6 <;> (try split at h6) <;> omega
   subst ht0
   have hr : rcvU len (dn w (0 + 1) 0) = rcvB len (kOf len) (dn w (0 + 1) 0) := by unfold rcvU; rw [hk, if_neg hkp]
   rw [hr] at ih
   exact outer_step (Rf := rcvU len) hl (by omega) (fun _ => rcvU_len) rfl (fun d p => rcvU_still) (fun d => stillU) (phaseU hl) hu hw (fun j hj => by rw [hw2 j hj]; omega) (by rw [hr]; exact ticks_K1 hl) ih
  ·have hk : cnt (kOf len) (dn w (t + 1) 0) < kOf len := Nat.lt_of_le_of_ne cnt_le fun e => hLt (hc.1 e)
   by_cases h0 : cnt (kOf len) (dn w (t + 1) 0) = 0
   ·have hr : rcvU len (dn w (t + 1) 0) = rcvA len := by unfold rcvU; rw [if_pos h0]
    rw [hr] at ih
    exact outer_step (Rf := rcvU len) hl (by omega) (fun _ => rcvU_len) rfl (fun d p => rcvU_still) (fun d => stillU) (phaseU hl) hu hw (fun j hj => by rw [hw2 j hj]; omega) (by rw [hr]; exact ticks_A hl (by simp only [List.mem_cons, List.not_mem_nil, or_false]; omega)) ih
   ·have hr : rcvU len (dn w (t + 1) 0) = rcvB len (cnt (kOf len) (dn w (t + 1) 0)) (dn w (t + 1) 0) := by unfold rcvU; rw [if_neg h0]
    rw [hr] at ih
    exact outer_step (Rf := rcvU len) hl (by omega) (fun _ => rcvU_len) rfl (fun d p => rcvU_still) (fun d => stillU) (phaseU hl) hu hw (fun j hj => by rw [hw2 j hj]; omega) (by rw [hr]; exact ticks_P hl (by omega) hk (by simp only [List.mem_cons, List.not_mem_nil, or_false]; omega)) ih
end
def lwE : CC := .seq lw14 (.seq lw15 (.seq lw16 (.seq lw17 (.seq lw18 .ret))))
def mFin (O : Nat → AO) (len : Nat) (e31 e32 : AO) : List AO := (List.range 46).map fun q => bif Nat.beq q 0 then sesL len 15 evV else bif Nat.beq q 28 then bO len else bif Nat.beq q 31 then e31 else bif Nat.beq q 32 then e32 else O q
def endAt (O : Nat → AO) (m len L : Nat) (e31 e32 : AO) : Option (Option AV) := bRn (nat_lit 170) (at170 lwE (tmOf (tmT len m (.ofNat L) 14) .leaf) (ofObjs (mFin O len e31 e32) (nat_lit 46))) fun t aw => some (trGet t (nat_lit 4))
def enL (ls : List Nat) : List (Nat × Nat) := lens.flatMap fun len => ls.map fun L => (len, L)
theorem en_R : ∀ (O : Nat → AO) (m : Nat), (enL [0, 1, 2, 3, 4, 5, 6]).map (fun x => endAt O m x.1 x.2 (evR x.1 (tStar x.2 + 1 + 1)) (bodO x.1)) = (enL [0, 1, 2, 3, 4, 5, 6]).map fun _ => some (some (.bool true)) := by
 intro O m
 kernel_rfl
theorem en_C : ∀ (O : Nat → AO) (m : Nat) (e32 : AO), (enL [7, 8, 9, 10, 11]).map (fun x => endAt O m x.1 x.2 evC e32) = (enL [7, 8, 9, 10, 11]).map fun _ => some (some (.bool true)) := by
 intro O m e32
 kernel_rfl
def atS (c : CC) (t : Tr AV) (aw : AW) : Option Out := kCode cTop c (nat_lit 1000) t (nat_lit 170) [] aw
theorem atS_eq (c : CC) (t : Tr AV) (aw : AW) : atS c t aw = xcode cTop 1000 c ⟨t, 170, []⟩ aw := kCode_eq cTop c 1000 t 170 [] aw
def baseS (k : Nat) : Nat := 412 + 44 * (k - 1) + 5 * k * (k - 1)
def lowS : List Nat := [290, 288, 0, 287, 281, 282, 285, 286, 279, 280, 0, 283, 284, 0, 0, 0, 0, 276, 289, 269, 302, 275, 270, 272, 273, 274, 304, 271, 0, 1]
def fS (k q : Nat) : Nat := bif Nat.beq q 2 then baseS k + 30 * (k - 1) + 2 else bif Nat.beq q 10 then 315 + 6 * k else bif Nat.blt q 30 then lowS.getD q 0 else bif Nat.blt q 35 then 10000 + q else baseS k + 30 * (q - 35)
def rcv0 (len : Nat) : List AO := [
 .cells [vI 2, vI 170, vI 2, vI 100, vI 1000, vP 4, vP 5, vP 6, vP 7, vQ 0, vQ 0] 142 false,
 .cells [vP 8, vI 2, vI 100, vI 2, .map (some 9)] 191 false,
 .cells [.slc (some (10, 0)) 1 (.upto 6 1), vN] 194 false,
 .cells [vP 11, .map (some 12), vQ 0, .bool false, vQ 0, vQ 0] 199 false,
 .cells [.int .u16 (.ofNat 0), .bool false, vI 0] 201 false,
 .cells fieldCells 177 false,
 .map [] 0,
 .cells [vW 1, vI 1, vN, vI len, vI 3, vI 8] 31 true,
 .cells [vQ 0, .bool false] 267 false,
 .map [] 0,
 .dead, .dead, .dead, .dead]
def z0 (len : Nat) (u : Nat → Nat) (d : AO) : List AO := zL len 1 (bodO len) nb0 (bO len) (wO u) d .dead .dead
def law0 (len : Nat) (u : Nat → Nat) : List AO := lawM len 1 vN (List.range (kOf len)) (rcv0 len) (z0 len u .dead)
def idsS (k : Nat) : List Nat := [0, 1, 2, 3, 4, 5, 6, 7, 8, 9, 10, 11, 12, 17, 18, 19, 20, 21, 22, 23, 24, 25, 26, 27, 28, 29] ++ (List.range k).map (35 + ·)
def startAt (u : Nat → Nat) (m len : Nat) : Option SeenD :=
 bNn (nat_lit 170) (atS lw0 (tmOf [(0, .slc (some (0, 0)) len (.upto 1 len)), (1, .slc (some (1, 0)) (m + 10) (.upto 1 (m + 10)))] .leaf) (ofObjs [bO len, wO u] (nat_lit 2))) fun t aw => bNn (nat_lit 170) (atS lw1d t aw) fun t aw => bb2 (isFalseV (trGet t (nat_lit 18))) (bNn (nat_lit 170) (atS lw2d t aw) fun t aw => bb2 (isFalseV (trGet t (nat_lit 31)))
  (bNn (nat_lit 170) (atS lw3 t aw) fun t aw => bNn (nat_lit 170) (atS lw4d t aw) fun t aw => bb2 (isFalseV (trGet t (nat_lit 42))) (bNn (nat_lit 170) (atS lw5 t aw) fun t aw => bNn (nat_lit 170) (atS lw6 t aw) fun t aw => bNn (nat_lit 170) (atS lw7 t aw) fun t aw => bNn (nat_lit 170) (atS lw8 t aw) fun t aw => bNn (nat_lit 170) (atS lw9d t aw) fun t aw => bb2 (isFalseV (trGet t (nat_lit 61)))
   (bNn (nat_lit 170) (atS lw10 t aw) (seeD [0, 1, 5, 8, 9] ((idsS (kOf len)).map (fS (kOf len))))) none) none) none) none
def startW (u : Nat → Nat) (m len : Nat) : Option SeenD := some ([some (.slc (some (0, 0)) len (.upto 1 len)), some (.slc (some (1, 0)) (m + 10) (.upto 1 (m + 10))), some (vP 290), some (vI (kOf len)), some (vI 0)], (idsS (kOf len)).map (fun j => ((law0 len u)[j]?).map (renO (fS (kOf len)))), baseS (kOf len) + 30 * (kOf len - 1) + 7)
def lawS (len : Nat) (u : Nat → Nat) (d : AO) : List AO := lawM len 1 vN (List.range (kOf len)) (rcvA len) (z0 len u d)
theorem lawS_len {len : Nat} {u : Nat → Nat} {d : AO} : (lawS len u d).length = 46 := lawM_len rfl rfl
theorem lawS_mW {len : Nat} {u : Nat → Nat} {d : AO} : lawS len u d = mW (fun q => (lawS len u d).getD q .dead) (wO u) d := (mW_eq lawS_len (lawM_Z (R := rcvA len) (Z := z0 len u d) (u := 12) rfl rfl (by omega)) (lawM_Z (R := rcvA len) (Z := z0 len u d) (u := 13) rfl rfl (by omega))).symm
def lastF (u : Nat → Nat) : Nat → Int
 | 0 => .ofNat 0
 | i + 1 => mxW (lastF u i) (u i)
def lastN (u : Nat → Nat) : Nat → Nat
 | 0 => 0
 | i + 1 => if lastN u i < u i % 12 then u i % 12 else lastN u i
theorem lastF_eq (u : Nat → Nat) : ∀ i, lastF u i = .ofNat (lastN u i)
 | 0 => rfl
 | i + 1 => by
  show mxW (lastF u i) (u i) = _
  rw [lastF_eq u i]
  unfold mxW
  show (bif Nat.blt (lastN u i) (Nat.mod (u i) 12) then _ else _) = Int.ofNat (if lastN u i < u i % 12 then u i % 12 else lastN u i)
  rw [blt_iff]
  by_cases h : lastN u i < u i % 12
  ·rw [decide_eq_true (show lastN u i < Nat.mod (u i) 12 from h), if_pos h]; rfl
  ·rw [decide_eq_false (show ¬ lastN u i < Nat.mod (u i) 12 from h), if_neg h]; rfl
theorem lastN_ge {u : Nat → Nat} : ∀ {k j : Nat}, j < k → u j % 12 ≤ lastN u k
 | k + 1, j, h => by
  show _ ≤ if lastN u k < u k % 12 then u k % 12 else lastN u k
  by_cases hj : j = k
  ·subst hj; split <;> omega
  ·have := lastN_ge (u := u) (show j < k by omega)
   split <;> omega
theorem lastN_is {u : Nat → Nat} : ∀ {k : Nat}, 0 < k → ∃ j, j < k ∧ u j % 12 = lastN u k
 | 1, _ => ⟨0, by omega, by
   show _ = if 0 < u 0 % 12 then u 0 % 12 else 0
   split <;> omega⟩
 | k + 2, _ => by
  obtain ⟨j, h1, h2⟩ := lastN_is (u := u) (show 0 < k + 1 by omega)
  by_cases h : lastN u (k + 1) < u (k + 1) % 12
  ·exact ⟨k + 1, by omega, by show _ = if lastN u (k + 1) < u (k + 1) % 12 then _ else _; rw [if_pos h]⟩
  ·exact ⟨j, by omega, by show _ = if lastN u (k + 1) < u (k + 1) % 12 then _ else _; rw [if_neg h]; exact h2⟩
theorem lastN_lt {u : Nat → Nat} : ∀ k, lastN u k ≤ 11
 | 0 => by show 0 ≤ 11; omega
 | k + 1 => by
  have := lastN_lt (u := u) k
  have h2 : u k % 12 < 12 := Nat.mod_lt _ (by decide)
  show (if lastN u k < u k % 12 then u k % 12 else lastN u k) ≤ 11
  split <;> omega
section
variable {fr : Nat → Option Obj} {sy : SymW} {tk : Nat → Option Tok} {len m : Nat} {u : Nat → Nat}
theorem tmG_in {last : Int} {i n : Nat} {a : AV} (hx : 10 < n) : ∀ s v, (s, v) ∈ tmG len m last i → (tmOf (tmG len m last i ++ [(n, a)]) .leaf).get s s = some v := by
 intro s v hsv
 have hap : ∀ (l : List (Nat × AV)) (t0 : Tr AV), tmOf (l ++ [(n, a)]) t0 = (tmOf l t0).set n n a := by
  intro l
  induction l with
  | nil => intro t0; show trSet t0 n a = _; exact trSet_eq _ _ _
  | cons y l ih => intro t0; exact ih _
 rw [hap]
 simp only [tmG, List.mem_cons, List.not_mem_nil, or_false, pmi] at hsv
 rcases hsv with ⟨rfl, rfl⟩ | ⟨rfl, rfl⟩ | ⟨rfl, rfl⟩ | ⟨rfl, rfl⟩ | ⟨rfl, rfl⟩ | ⟨rfl, rfl⟩ <;> (rw [tgo (by omega)]; rfl)
theorem tmF_tmG {last : Int} {i : Nat} : ∀ s v, (s, v) ∈ tmF len m last → (tmOf (tmG len m last i) .leaf).get s s = some v := by
 intro s v hsv
 simp only [tmF, List.mem_cons, List.not_mem_nil, or_false, pmi] at hsv
 rcases hsv with ⟨rfl, rfl⟩ | ⟨rfl, rfl⟩ | ⟨rfl, rfl⟩ | ⟨rfl, rfl⟩ | ⟨rfl, rfl⟩ <;> rfl
theorem first_loop (hl : len ∈ lens) (hu : ∀ j, j < 10 → u j < 256) {Q0 : Post'}
  (hQ : ∀ E ca w', LawK fr sy tk E → ActRel E ⟨tmOf (tmF len m (lastF u (kOf len))) .leaf, 170, []⟩ ca → Rel E (ofObjs (lawS len u .dead) 46) w' → Q0 .normal ca w') :
  ∀ e i, i + e = kOf len → GoodLK Tryz.prog (cDraw Tryz.prog) (LawK fr sy tk) lfA (Exit.inBlock 0 Q0) ⟨tmOf (tmG len m (lastF u i) i) .leaf, 170, []⟩ (ofObjs (lawS len u .dead) 46)
 | e, i, he => by
  have hk := kOf_le hl
  refine GoodLK.of ?_
  show GoodK _ _ _ (.seq (.seq lfT (.cond (.t 64) .skip (.exit 0))) (.seq (.block 1 lfB) lfN)) _ _ _
  have eT := List.map_inj_left.1 (lfT_all (fun q => (lawS len u .dead).getD q .dead) (wO u) .dead m (lastF u i)) (len, i) (liX_mem hl (by omega))
  dsimp only at eT
  rw [← lawS_mW] at eT
  match e, he with
  | 0, he =>
   have : i = kOf len := by omega
   subst this
   refine GoodK.into (GoodK.piece LawK.le lawS_len eT (GoodK.cond (u := false) ((tm_ev (l := tmG len m (lastF u (kOf len)) (kOf len)) (n := 64)).trans (congrArg (fun b => some (AV.bool b)) (blt_iff.trans (decide_eq_false (Nat.lt_irrefl _))))) (fun h => by cases h) fun _ => GoodK.fewer (tmG_in (by decide)) (GoodK.fewer tmF_tmG (GoodK.exitTo LawK.le fun E ca w' hE hA hR => ?_))))
   show Q0 .normal ca w'
   exact hQ E ca w' hE hA hR
  | e + 1, he =>
   have hi : i < kOf len := by omega
   have ih := first_loop hl hu hQ e (i + 1) (by omega)
   refine GoodK.into (GoodK.piece LawK.le lawS_len eT (GoodK.cond (u := true) ((tm_ev (l := tmG len m (lastF u i) i) (n := 64)).trans (congrArg (fun b => some (AV.bool b)) (blt_iff.trans (decide_eq_true hi)))) (fun _ => GoodK.skipTo LawK.le (GoodK.fewer (tmG_in (by decide)) (GoodK.into (GoodK.block ?_)))) fun h => by cases h))
   have eB := List.map_inj_left.1 (lfB_all (fun q => (lawS len u .dead).getD q .dead) .dead (fun j => .int .u8 (.ofNat (u j))) len m (lastF u i)) (i, u i) (iuL_mem (by omega) (hu i (by omega)))
   dsimp only at eB
   rw [← wO_at, ← lawS_mW] at eB
   refine GoodK.pieceEnd LawK.le lawS_len eB fun E ca w' hE hA hR => ?_
   show thenC Tryz.prog (cDraw Tryz.prog) lfN (loopQ Tryz.prog (cDraw Tryz.prog) lfA (Exit.inBlock 0 Q0)) .normal ca w'
   intro c hc
   have eN := List.map_inj_left.1 (lfN_all (fun q => (lawS len u .dead).getD q .dead) (wO u) .dead len m (lastF u (i + 1))) i (List.mem_range.2 (by omega))
   rw [← lawS_mW] at eN
   refine (GoodK.pieceEnd LawK.le lawS_len eN fun E ca w hE hA hR => ?_ : GoodK Tryz.prog (cDraw Tryz.prog) (LawK fr sy tk) lfN (loopQ Tryz.prog (cDraw Tryz.prog) lfA (Exit.inBlock 0 Q0)) ⟨tmOf (tmG len m (lastF u (i + 1)) i) .leaf, 170, []⟩ _) c hc E ca w' hE hA hR
   intro c' hc'
   exact ih c' hc' E ca w hE hA hR
end
def newAt (O : Nat → AO) (w : AO) (m : Nat) (last : Int) (len : Nat) : Option SeenD := bNn (nat_lit 170) (at170 lw12 (tmOf (tmF len m last) .leaf) (ofObjs (mW O w .dead) (nat_lit 46))) (seeD ((tmF len m last).map (·.1) ++ [11]) (List.range 46 ++ [46]))
theorem new_all : ∀ (O : Nat → AO) (w : AO) (m : Nat) (last : Int), lens.map (newAt O w m last) = lens.map fun len => some ((tmF len m last).map (fun x => some x.2) ++ [some (.slc (some (46, 0)) (kOf len) (.known (kOf len)))], (mW O w .dead).map some ++ [some (dO len fun _ => false)], 47) := by
 intro O w m last
 kernel_rfl
theorem mFin_eq {M : List AO} {len : Nat} {e31 e32 : AO} (hl : M.length = 46) (h0 : M[0]? = some (sesL len 15 evV)) (h1 : M[28]? = some (bO len)) (h2 : M[31]? = some e31) (h3 : M[32]? = some e32) : mFin (fun q => M.getD q .dead) len e31 e32 = M := by
 refine List.ext_getElem? fun j => ?_
 by_cases h : j < 46
 ·unfold mFin
  rw [List.getElem?_map, List.getElem?_range h, Option.map_some]
  cases hb : Nat.beq j 0 with
  | true => rw [nbt hb, h0]; rfl
  | false =>
   cases hb2 : Nat.beq j 28 with
   | true => rw [nbt hb2, h1]; rfl
   | false =>
    cases hb3 : Nat.beq j 31 with
    | true => rw [nbt hb3, h2]; rfl
    | false =>
     cases hb4 : Nat.beq j 32 with
     | true => rw [nbt hb4, h3]; rfl
     | false =>
      rw [cond_false, cond_false, cond_false, cond_false]
      show some (M.getD j .dead) = _
      rw [List.getD_eq_getElem?_getD, lge (by omega)]; rfl
 ·rw [List.getElem?_eq_none (by simp [mFin]; omega), List.getElem?_eq_none (by omega)]
def LateQ (fr : Nat → Option Obj) (sy : SymW) (tk : Nat → Option Tok) : Post' := fun e ca w' => e = .ret ∧ ca.defers = [] ∧ ca.tmps[4]? = some (.bool true) ∧ ∃ E aw, LawK fr sy tk E ∧ Rel E aw w'
section
variable {fr : Nat → Option Obj} {sy : SymW} {tk : Nat → Option Tok} {len m L : Nat} {u : Nat → Nat}
theorem end_of {O : Nat → AO} {e31 e32 : AO} (h : endAt O m len L e31 e32 = some (some (.bool true))) : GoodK Tryz.prog (cDraw Tryz.prog) (LawK fr sy tk) lwE (LateQ fr sy tk) ⟨tmOf (tmT len m (.ofNat L) 14) .leaf, 170, []⟩ (ofObjs (mFin O len e31 e32) 46) := by
 unfold endAt at h
 obtain ⟨t, aw, e, h⟩ := bRn_ok h
 rw [at170_eq] at e
 simp only [sI, trGet_eq] at h
 refine GoodK.run LawK.le cAny_ok drAny e fun E x ca w hE hR hA hX => ?_
 cases x <;> simp only [XRel] at hX
 obtain ⟨v, hv, hr⟩ := hA.tmps 4 _ h
 cases hr
 exact ⟨rfl, defs_nil hA, hv, E, aw, hE, hR⟩
theorem en_mem {ls : List Nat} (hl : len ∈ lens) (hL : L ∈ ls) : (len, L) ∈ enL ls := List.mem_flatMap.2 ⟨len, hl, List.mem_map.2 ⟨L, hL, rfl⟩⟩
theorem end_R {now c : Nat} {S : List Nat} {d : Nat → Bool} (hl : len ∈ lens) (hL : L ≤ 6) : GoodK Tryz.prog (cDraw Tryz.prog) (LawK fr sy tk) lwE (LateQ fr sy tk) ⟨tmOf (tmT len m (.ofNat L) 14) .leaf, 170, []⟩ (ofObjs (lawM len 15 evV S (rcvT len c 1) (zW len 15 (bodO len) .dead u d (evR len (tStar L + 1 + 1)) (bodO len))) 46) := by
 have e := List.map_inj_left.1 (en_R (fun q => (lawM len 15 evV S (rcvT len c 1) (zW len 15 (bodO len) .dead u d (evR len (tStar L + 1 + 1)) (bodO len))).getD q .dead) m) (len, L) (en_mem hl (by simp only [List.mem_cons, List.not_mem_nil, or_false]; omega))
 have h := end_of (fr := fr) (sy := sy) (tk := tk) e
 have hR : (rcvT len c 1).length = 14 := rfl
 have hZ : (zW len 15 (bodO len) .dead u d (evR len (tStar L + 1 + 1)) (bodO len)).length = 18 := rfl
 rw [mFin_eq (lawM_len hR hZ) rfl (lawM_Z (u := 11) hR hZ (by omega)) (lawM_Z (u := 14) hR hZ (by omega)) (lawM_Z (u := 15) hR hZ (by omega))] at h
 exact h
theorem end_C {now c : Nat} {S : List Nat} {d : Nat → Bool} (hl : len ∈ lens) (hL : 7 ≤ L) (hL2 : L ≤ 11) : GoodK Tryz.prog (cDraw Tryz.prog) (LawK fr sy tk) lwE (LateQ fr sy tk) ⟨tmOf (tmT len m (.ofNat L) 14) .leaf, 170, []⟩ (ofObjs (lawM len 15 evV S (rcvT len c 2) (zW len 15 (bodO len) .dead u d evC .dead)) 46) := by
 have e := List.map_inj_left.1 (en_C (fun q => (lawM len 15 evV S (rcvT len c 2) (zW len 15 (bodO len) .dead u d evC .dead)).getD q .dead) m .dead) (len, L) (en_mem hl (by simp only [List.mem_cons, List.not_mem_nil, or_false]; omega))
 have h := end_of (fr := fr) (sy := sy) (tk := tk) e
 have hR : (rcvT len c 2).length = 14 := rfl
 have hZ : (zW len 15 (bodO len) .dead u d evC .dead).length = 18 := rfl
 rw [mFin_eq (lawM_len hR hZ) rfl (lawM_Z (u := 11) hR hZ (by omega)) (lawM_Z (u := 14) hR hZ (by omega)) (lawM_Z (u := 15) hR hZ (by omega))] at h
 exact h
theorem lawS_still {f : Nat → Nat} (hf : ∀ q, q < 46 → q ≠ 30 → f q = q) {d : Nat → Bool} (hk : kOf len ≤ 11) : ∀ x ∈ lawS len u (dO len d), Still f 46 x := by
 intro x hx
 simp only [lawS, lawM, List.mem_append, List.mem_cons, List.not_mem_nil, or_false] at hx
 rcases hx with (rfl | rfl | rfl) | hx | hx | hx
 ·exact ses_still (hf 17 (by decide) (by decide)) (hf 3 (by decide) (by decide)) (hf 1 (by decide) (by decide)) (hf 18 (by decide) (by decide)) rfl rfl
 ·refine ⟨?_, rfl⟩
  show AO.cells [.slc (some (f 2, 0)) (List.range (kOf len)).length (.upto 1 (List.range (kOf len)).length)] 144 false = _
  rw [hf 2 (by decide) (by decide)]; rfl
 ·exact lstQ_still (by rw [List.length_range]; exact hk) fun q h1 h2 => hf q h2 (by omega)
 ·exact rcvA_still (fun q h1 h2 => hf q (by omega) (by omega)) x hx
 ·simp only [z0, zL, List.mem_cons, List.not_mem_nil, or_false] at hx
  rcases hx with rfl | rfl | rfl | rfl | rfl | rfl | rfl | rfl | rfl | rfl | rfl | rfl | rfl | rfl | rfl | rfl | rfl | rfl
  ·refine ⟨?_, rfl⟩
   show AO.cells [vI 2, vI 170, vI 2, vI 100, vI 1000, vP (f 19), .slc (some (f 20, 0)) 1 (.upto 6 1), .map (some (f 21)), vP (f 22), vP (f 23), vP (f 24), vP (f 25), vI 1, .int .u16 (.ofNat (kOf len))] 131 false = _
   rw [hf 19 (by decide) (by decide), hf 20 (by decide) (by decide), hf 21 (by decide) (by decide), hf 22 (by decide) (by decide), hf 23 (by decide) (by decide), hf 24 (by decide) (by decide), hf 25 (by decide) (by decide)]
  ·exact ⟨rfl, rfl⟩
  ·exact .scal fieldCells_scal
  ·exact ⟨rfl, rfl⟩
  ·refine ⟨?_, rfl⟩
   show AO.map [⟨vW 1, .slc (some (f 26, 0)) len (.upto 1 len), 0⟩] 1 = _
   rw [hf 26 (by decide) (by decide)]
  ·exact ⟨rfl, rfl⟩
  ·refine ⟨?_, rfl⟩
   show AO.cells [.map (some (f 27))] 184 false = _
   rw [hf 27 (by decide) (by decide)]
  ·exact ⟨rfl, rfl⟩
  ·exact ⟨rfl, rfl⟩
  ·exact .scal bO_scal
  ·exact ⟨rfl, rfl⟩
  ·exact .rom bO_scal
  ·exact .rom wO_scal
  ·exact dO_still
  ·exact ⟨rfl, rfl⟩
  ·exact ⟨rfl, rfl⟩
  ·exact ⟨rfl, rfl⟩
  ·exact ⟨rfl, rfl⟩
 ·obtain ⟨j, _, rfl⟩ := List.mem_map.1 hx
  exact .pk
theorem lawZ_other {now now' : Nat} {ev : AV} {S : List Nat} {R : List AO} {bd nb b0 w0 e31 e32 d d' : AO} (hR : R.length = 14) {j : Nat} (h30 : j ≠ 30) : (lawM len now ev S R (zL len now' bd nb b0 w0 d e31 e32))[j]? = (lawM len now ev S R (zL len now' bd nb b0 w0 d' e31 e32))[j]? := by
 have hZ : ∀ d : AO, (zL len now' bd nb b0 w0 d e31 e32).length = 18 := fun _ => rfl
 by_cases h46 : j < 46
 ·by_cases h3 : j < 3
  ·match j, h3 with
   | 0, _ => rfl
   | 1, _ => rfl
   | 2, _ => rfl
  ·by_cases h17 : j < 17
   ·obtain ⟨v, rfl⟩ : ∃ v, j = 3 + v := ⟨j - 3, by omega⟩
    rw [lawM_R hR (by omega), lawM_R hR (by omega)]
   ·by_cases h35 : j < 35
    ·obtain ⟨v, rfl⟩ : ∃ v, j = 17 + v := ⟨j - 17, by omega⟩
     rw [lawM_Z hR (hZ d) (by omega), lawM_Z hR (hZ d') (by omega)]
     match v, h30 with
     | 0, _ => rfl
     | 1, _ => rfl
     | 2, _ => rfl
     | 3, _ => rfl
     | 4, _ => rfl
     | 5, _ => rfl
     | 6, _ => rfl
     | 7, _ => rfl
     | 8, _ => rfl
     | 9, _ => rfl
     | 10, _ => rfl
     | 11, _ => rfl
     | 12, _ => rfl
     | 13, h => exact (h rfl).elim
     | v + 14, _ => rfl
    ·obtain ⟨v, rfl⟩ : ∃ v, j = 35 + v := ⟨j - 35, by omega⟩
     rw [lawM_Q hR (hZ d) (by omega), lawM_Q hR (hZ d') (by omega)]
 ·rw [List.getElem?_eq_none (by rw [lawM_len hR (hZ d)]; omega), List.getElem?_eq_none (by rw [lawM_len hR (hZ d')]; omega)]
theorem law_tail (hl : len ∈ lens) (hu : ∀ j, j < 10 → u j < 256) :
  GoodK Tryz.prog (cDraw Tryz.prog) (LawK fr sy tk) (.seq lw12 (.seq lw13 lwE)) (LateQ fr sy tk) ⟨tmOf (tmF len m (lastF u (kOf len))) .leaf, 170, []⟩ (ofObjs (lawS len u .dead) 46) := by
 have hk := kOf_le hl
 have hkp : 0 < kOf len := Nat.pos_of_ne_zero (ne_of_beq (kOf_pos hl))
 have e := List.map_inj_left.1 (new_all (fun q => (lawS len u .dead).getD q .dead) (wO u) m (lastF u (kOf len))) len hl
 unfold newAt at e
 rw [← lawS_mW] at e
 obtain ⟨t, aw, e1, e⟩ := bNn_ok e
 simp only [seeD, sI, pmi] at e
 obtain ⟨ht, hm, hn⟩ := e
 rw [at170_eq] at e1
 obtain ⟨g1, g2⟩ := see_split (by rw [lawS_len]) hm
 simp only [List.map_cons, List.map_nil, List.cons.injEq, and_true, awGet_eq] at g2
 rw [List.map_append] at ht
 obtain ⟨ht1, ht2⟩ := List.append_inj ht (by simp)
 have hts := slots_of ht1
 simp only [List.map_cons, List.map_nil, List.cons.injEq, and_true, trGet_eq] at ht2
 refine GoodK.seq LawK.le cAny_ok drAny e1 (GoodK.turn (tm := tmF len m (lastF u (kOf len)) ++ [(11, dV len)]) (aw' := ofObjs (lawS len u (dO len fun _ => false)) 46) (fun E w hE hR => ?_) ?_)
 ·obtain ⟨f, hf⟩ : ∃ f : Nat → Nat, f = fun q => if q = 30 then 46 else q := ⟨_, rfl⟩
  have f1 : ∀ q, q ≠ 30 → f q = q := fun q hq => by rw [hf]; exact if_neg hq
  have f2 : f 30 = 46 := by rw [hf]; exact if_pos rfl
  have hst := lawS_still (len := len) (u := u) (f := f) (fun q _ hq => f1 q hq) (d := fun _ => false) (by omega)
  have hren := hR.renO (os := lawS len u (dO len fun _ => false)) (f := f) (fun a b x y ha hb _ _ hab => by
   have ha := (lgs.1 ha).1
   have hb := (lgs.1 hb).1
   rw [lawS_len] at ha hb
   rw [hf] at hab
   simp only at hab
   split at hab <;> split at hab <;> omega) (fun o ho => by rw [lawS_len]; exact (hst o ho).2) fun j n hj => by
    right
    rw [(hst n (List.mem_of_getElem? hj)).1]
    by_cases h30 : j = 30
    ·subst h30
     rw [f2]
     have : (lawS len u (dO len fun _ => false))[30]? = some (dO len fun _ => false) := lawM_Z (R := rcvA len) (Z := z0 len u (dO len fun _ => false)) (u := 13) rfl rfl (by omega)
     rw [this] at hj; injection hj with hj; subst hj
     exact g2
    ·rw [f1 j h30]
     exact g1 j n ((lawZ_other (R := rcvA len) rfl h30).trans hj)
  rw [lawS_len] at hren
  refine ⟨renE E f 46, hE.ren _ _, hren, fun s v hsv => ?_⟩
  have hloc : ∀ q, q < 46 → q ≠ 30 → ∀ L, E.loc[q]? = some L → (renE E f 46).loc[q]? = some L := fun q h1 h2 L hL => renE_loc h1 (by rw [f1 q h2]; exact hL)
  rcases List.mem_append.1 hsv with h | h
  ·refine ⟨v, hts s v h, fun cv hcv => ?_⟩
   have hok : okP (fun q => bb2 (Nat.blt q 30) true false) v = true := by
    simp only [tmF, List.mem_cons, List.not_mem_nil, or_false, pmi] at h
    rcases h with ⟨_, rfl⟩ | ⟨_, rfl⟩ | ⟨_, rfl⟩ | ⟨_, rfl⟩ | ⟨_, rfl⟩ <;> rfl
   refine hcv.keepP (fun q hq => ?_) hok
   have : q < 30 := by
    rw [bb2_eq] at hq
    cases hb : Nat.blt q 30 with
    | true => exact nbl hb
    | false => rw [hb] at hq; cases hq
   exact hloc q (by omega) (by omega)
  ·simp only [List.mem_cons, List.not_mem_nil, or_false, pmi] at h
   obtain ⟨rfl, rfl⟩ := h
   refine ⟨_, ht2, fun cv hcv => ?_⟩
   have h46 : ∀ L, E.loc[46]? = some L → (renE E f 46).loc[30]? = some L := fun L hL => renE_loc (by omega) (by rw [f2]; exact hL)
   cases hcv with
   | slc hL a => exact .slc (h46 _ hL) a
 ·obtain ⟨w, hw⟩ : ∃ w : Nat → Nat, w = fun j => if j < kOf len then u j % 12 else 99 := ⟨_, rfl⟩
  have w1 : ∀ j, j < kOf len → w j = u j % 12 := fun j hj => by rw [hw]; exact if_pos hj
  have w2 : ∀ j, kOf len ≤ j → w j = 99 := fun j hj => by rw [hw]; exact if_neg (by omega)
  have hL := lastN_lt (u := u) (kOf len)
  have hlast := lastF_eq u (kOf len)
  rw [hlast]
  have hd0 : dn w 0 0 = fun _ => false := by
   funext j
   unfold dn
   rw [blt_iff (a := j), decide_eq_false (Nat.not_lt_zero j), cond_false, blt_iff, decide_eq_false (Nat.not_lt_zero _)]
  have hM : lawS len u (dO len fun _ => false) = lawM len (0 + 1) vN (qS (kOf len) (dn w 0 0)) (rcvU len (dn w 0 0)) (zW len (0 + 1) (bodO len) nb0 u (dn w 0 0) .dead .dead) := by
   rw [hd0]
   have q1 : qS (kOf len) (fun _ => false) = List.range (kOf len) := by
    unfold qS
    rw [List.filter_eq_self]
    exact fun _ _ => rfl
   have q2 : rcvU len (fun _ => false) = rcvA len := by
    unfold rcvU
    rw [if_pos]
    unfold cnt
    rw [List.length_eq_zero_iff, List.filter_eq_nil_iff]
    exact fun _ _ h => by cases h
   rw [q1, q2]; rfl
  refine GoodK.into ?_
  show GoodK _ _ _ (.seq lt0 (.block 2 (.loop ltA))) _ _ _
  have e0 := lt0_all (fun q => (lawS len u (dO len fun _ => false)).getD q .dead) (wO u) (dO len fun _ => false) len m (.ofNat (lastN u (kOf len)))
  rw [← lawS_mW] at e0
  refine GoodK.piece LawK.le lawS_len e0 (GoodK.block (GoodK.loop ?_))
  rw [hM]
  refine untold (L := lastN u (kOf len)) (w := w) hl hu w1 w2 (fun j hj => by rw [w1 j hj]; exact lastN_ge hj) ?_ (fun h6 E ca w' hE hA hR c hc => end_R (now := 0) hl h6 c hc E ca w' hE hA hR) (fun h7 c0 E ca w' hE hA hR c hc => end_C (now := 0) hl h7 hL c hc E ca w' hE hA hR) (tStar (lastN u (kOf len))) 0 (by omega)
  obtain ⟨j, h1, h2⟩ := lastN_is (u := u) hkp
  exact ⟨j, h1, by rw [w1 j h1]; exact h2⟩
end
end Go.Proofs.YtbilacojhmohmaaGreat.Ae
end
