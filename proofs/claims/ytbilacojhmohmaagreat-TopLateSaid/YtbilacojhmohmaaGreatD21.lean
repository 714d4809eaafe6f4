/- The law's memory, and what a packet's steps do to it; The law's memory behind a packet's steps, told anew. No condition. -/
import Derived.Test.YtbilacojhmohmaaGreatD20
set_option linter.unusedVariables false
set_option linter.unusedSimpArgs false
noncomputable section
namespace Go.Proofs.YtbilacojhmohmaaGreat.Ae
open Go
def gL (len : Nat) (ev : AV) : Nat → AV := fun q => match q with
 | 0 => vI 2
 | 1 => vI 170
 | 2 => vI 2
 | 3 => vI 100
 | 4 => vI 1000
 | 5 => vP 17
 | 6 => vP 18
 | 7 => ev
 | 8 => vQ (kOf len)
 | 9 => vQ (17 * kOf len)
 | _ => vQ 0
def sesL (len now : Nat) (ev : AV) : AO := sesG (gL len ev) (.ofNat now)
def zL (len now : Nat) (bd nb bO wO dO e31 e32 : AO) : List AO := [
 .cells [vI 2, vI 170, vI 2, vI 100, vI 1000, vP 19, .slc (some (20, 0)) 1 (.upto 6 1), .map (some 21), vP 22, vP 23, vP 24, vP 25, vI now, .int .u16 (.ofNat (kOf len))] 131 false,
 nb,
 .cells fieldCells 177 false,
 .cells [vW 1, vI 1, vN, vI len, vI 3, vI 8] 31 true,
 .map [⟨vW 1, .slc (some (26, 0)) len (.upto 1 len), 0⟩] 1,
 .cells [vN] 181 false,
 .cells [.map (some 27)] 184 false,
 .cells [vQ 0, .bool false] 186 false,
 .cells [vI 0, .bool false] 188 false,
 bd,
 .map [⟨vW 1, .agg [vI (kOf len), vI (kOf len + 64)], 0⟩] 1,
 bO, wO, dO, e31, e32, .dead, .dead]
def pkO (len : Nat) (S : List Nat) (j : Nat) : AO := match S[j]? with
 | some i => .cells (pktL len i) 5 true
 | none => .dead
def lawM (len now : Nat) (ev : AV) (S : List Nat) (R Z : List AO) : List AO := [sesL len now ev, netO S.length, lstQ S.length] ++ (R ++ (Z ++ (List.range 11).map (pkO len S)))
section
variable {len now : Nat} {ev : AV} {S : List Nat} {R Z : List AO}
theorem lawM_len (hR : R.length = 14) (hZ : Z.length = 18) : (lawM len now ev S R Z).length = 46 := by simp [lawM, hR, hZ]
theorem lawM_R {u : Nat} (hR : R.length = 14) (hu : u < 14) : (lawM len now ev S R Z)[3 + u]? = R[u]? := by
 unfold lawM
 rw [lar (by simp), lal (by simp [hR]; omega)]
 congr 1; simp
theorem lawM_Z {u : Nat} (hR : R.length = 14) (hZ : Z.length = 18) (hu : u < 18) : (lawM len now ev S R Z)[17 + u]? = Z[u]? := by
 unfold lawM
 rw [lar (by simp; omega), lar (by simp [hR]; omega), lal (by simp [hR, hZ]; omega)]
 congr 1; simp [hR]; omega
theorem lawM_Q {u : Nat} (hR : R.length = 14) (hZ : Z.length = 18) (hu : u < 11) : (lawM len now ev S R Z)[35 + u]? = some (pkO len S u) := by
 unfold lawM
 rw [lar (by simp; omega), lar (by simp [hR]; omega), lar (by simp [hR, hZ]; omega), List.getElem?_map]
 rw [show 35 + u - [sesL len now ev, netO S.length, lstQ S.length].length - R.length - Z.length = u by simp [hR, hZ]; omega, List.getElem?_range hu]; rfl
theorem lawM_mQ {i p : Nat} (hR : R.length = 14) (hZ : Z.length = 18) (hS : S.length ≤ 11) (hp : S[p]? = some i) : lawM len now ev S R Z = mQ (gL len ev) (.ofNat now) S.length p (pkD len i) (withR (fun q => (lawM len now ev S R Z).getD q .dead) R) 43 := by
 have hpl : p < S.length := (lgs.1 hp).1
 refine List.ext_getElem? fun j => ?_
 by_cases h46 : j < 46
 ·by_cases h3 : j < 3
  ·match j, h3 with
   | 0, _ => rfl
   | 1, _ => rfl
   | 2, _ => rfl
  ·rw [mQ_get (by omega) (by omega)]
   by_cases h17 : j < 17
   ·obtain ⟨u, rfl⟩ : ∃ u, j = 3 + u := ⟨j - 3, by omega⟩
    have hu : u < 14 := by omega
    have hb : Nat.beq (3 + u) (35 + p) = false := by
     cases hq : Nat.beq (3 + u) (35 + p) with
     | true => have := nbt hq; omega
     | false => rfl
    have hx := lge (l := R) (i := u) (by omega)
    rw [lawM_R hR hu, hb, cond_false, hx, withR_lo hx hu]
   ·cases hb : Nat.beq j (35 + p) with
    | true =>
     have := nbt hb
     subst this
     rw [lawM_Q hR hZ (by omega), cond_true, pkD_eq]
     unfold pkO
     rw [hp]
    | false =>
     rw [cond_false, withR_hi (by omega)]
     have hlt : j < (lawM len now ev S R Z).length := by rw [lawM_len hR hZ]; exact h46
     rw [List.getD_eq_getElem?_getD, lge hlt]; rfl
 ·rw [List.getElem?_eq_none (by rw [lawM_len hR hZ]; omega), List.getElem?_eq_none (by rw [mQ_len]; omega)]
end
structure LawK (fr : Nat → Option Obj) (sy : SymW) (tk : Nat → Option Tok) (E : Env) : Prop where
 fr : E.fr = fr
 sym : E.sym = sy
 tok : ∀ b x, tk b = some x → E.tk b = some x
theorem LawK.le {fr : Nat → Option Obj} {sy : SymW} {tk : Nat → Option Tok} (E E' : Env) (h : LawK fr sy tk E) (hle : E.Le E') : LawK fr sy tk E' := ⟨hle.2.2.1.trans h.fr, hle.2.1.trans h.sym, fun b x hb => hle.2.2.2 _ _ (h.tok b x hb)⟩
theorem LawK.ren {fr : Nat → Option Obj} {sy : SymW} {tk : Nat → Option Tok} {E : Env} (h : LawK fr sy tk E) (f : Nat → Nat) (N : Nat) : LawK fr sy tk (renE E f N) := ⟨h.fr, h.sym, h.tok⟩
theorem renV_scal {f : Nat → Nat} {a : AV} (h : Scal a) : renV f a = a := by
 rcases h with ⟨k, n, rfl⟩ | ⟨k, q, rfl⟩ <;> rfl
theorem map_scal {f : Nat → Nat} {l : List AV} (h : ∀ a ∈ l, Scal a) : l.map (renV f) = l := by
 conv => rhs; rw [← List.map_id l]
 exact List.map_congr_left fun a ha => renV_scal (h a ha)
theorem okV_scal {N : Nat} {a : AV} (h : Scal a) : okV N a = true := by
 rcases h with ⟨k, n, rfl⟩ | ⟨k, q, rfl⟩ <;> rfl
theorem all_scal {N : Nat} {l : List AV} (h : ∀ a ∈ l, Scal a) : l.all (okV N) = true := List.all_eq_true.2 fun a ha => okV_scal (h a ha)
theorem pktL_scal {len i : Nat} : ∀ a ∈ pktL len i, Scal a := fun a ha => by
 unfold pktL pktH at ha
 rcases List.mem_append.1 ha with ha | ha
 ·rcases List.mem_append.1 ha with ha | ha
  ·obtain ⟨x, _, rfl⟩ := List.mem_map.1 ha
   exact .inl ⟨_, _, rfl⟩
  ·exact datL_scal a ha
 ·obtain ⟨x, _, rfl⟩ := List.mem_map.1 ha
  exact .inr ⟨_, _, rfl⟩
def Still (f : Nat → Nat) (N : Nat) (o : AO) : Prop := renO f o = o ∧ okO N o = true
theorem Still.pk {f : Nat → Nat} {N len j : Nat} {S : List Nat} : Still f N (pkO len S j) := by
 unfold pkO
 cases S[j]? with
 | none => exact ⟨rfl, rfl⟩
 | some i =>
  refine ⟨?_, all_scal pktL_scal⟩
  show AO.cells ((pktL len i).map (renV f)) 5 true = _
  rw [map_scal pktL_scal]
theorem Still.scal {f : Nat → Nat} {N : Nat} {l : List AV} {e : TypeId} {b : Bool} (h : ∀ a ∈ l, Scal a) : Still f N (.cells l e b) := by
 refine ⟨?_, all_scal h⟩
 show AO.cells (l.map (renV f)) e b = _
 rw [map_scal h]
theorem Still.rom {f : Nat → Nat} {N : Nat} {l : List AV} (h : ∀ a ∈ l, Scal a) : Still f N (.rom l 5) := by
 refine ⟨?_, ?_⟩
 ·show AO.rom (l.map (renV f)) 5 = _
  rw [map_scal h]
 ·show ((l.all (okV N)) && !((5 : TypeId) == 28)) = true
  rw [all_scal h]; rfl
def fD (p : Nat) (A : Bool) (q : Nat) : Nat := if q < 35 then (bif A then (if q = 13 then 100 else if q = 14 then 99 else if q = 15 then 98 else q) else q) else if q < 35 + p then q else q + 1
theorem fD_lo {p q : Nat} {A : Bool} (h : q < 35) (h2 : q < 13 ∨ 15 < q) : fD p A q = q := by
 unfold fD
 rw [if_pos h]
 cases A with
 | false => rfl
 | true => rw [cond_true, if_neg (by omega), if_neg (by omega), if_neg (by omega)]
theorem fD_hi {p u : Nat} {A : Bool} : fD p A (35 + u) = 35 + (if u < p then u else u + 1) := by
 unfold fD
 rw [if_neg (by omega)]
 by_cases h : u < p
 ·rw [if_pos (by omega), if_pos h]
 ·rw [if_neg (by omega), if_neg h]; omega
theorem fD_inj {p a b : Nat} {A : Bool} (ha : a < 46) (hb : b < 46) (h : fD p A a = fD p A b) : a = b := by
 unfold fD at h
 cases A with
 | false =>
  simp only [cond_false] at h
  (repeat' split at h) <;> omega
 | true =>
  simp only [cond_true] at h
  (repeat' split at h) <;> omega
theorem retell_slc {E : Env} {aw : AW} {w : World} {q n lo lo' : Nat} (hR : Rel E aw w) (hg : aw.get q = some (.cells [.slc (some (2, 0)) n (.upto 1 lo)] 144 false)) (hn : lo' ≤ n) : Rel E (aw.set q (.cells [.slc (some (2, 0)) n (.upto 1 lo')] 144 false)) w := by
 refine hR.retell hg rfl fun L hL ho => ?_
 refine ORel.cells_conv (l := [.slc (some (2, 0)) n (.upto 1 lo)]) rfl (fun i a ha => ?_) ho
 match i, ha with
 | 0, ha =>
  injection ha with ha; subst ha
  refine ⟨_, rfl, fun v hv => ?_⟩
  cases hv with
  | slcUp h1 h2 h3 h4 => exact .slcUp h1 h2 (by omega) h4
 | i + 1, ha => cases ha
theorem retell_pre {E : Env} {aw : AW} {w : World} {q : Nat} {l m : List AV} {e : TypeId} (hR : Rel E aw w) (hg : aw.get q = some (.cells (l ++ m) e true)) : Rel E (aw.set q (.cells l e true)) w := by
 refine hR.retell hg rfl fun L hL ho => ?_
 obtain ⟨c, fz, h1, h2, h3, _, h5⟩ := ho
 refine ⟨c, fz, h1, h2, by rw [List.length_append] at h3; omega, fun h => (by cases h), fun i a ha => h5 i a ?_⟩
 rw [lal (lgs.1 ha).1]; exact ha
theorem qEs_at {L j : Nat} (h : j < L) : (qEs L)[j]? = some (pkV (35 + j)) := by
 unfold qEs
 rw [List.getElem?_map, List.getElem?_range h]; rfl
theorem qEs_len {L : Nat} : (qEs L).length = L := by simp [qEs]
theorem qEs_erase {L p : Nat} {A : Bool} (hp : p < L) : (qEs L).eraseIdx p = (qEs (L - 1)).map (renV (fD p A)) := by
 refine List.ext_getElem? fun j => ?_
 rw [List.getElem?_eraseIdx, List.getElem?_map]
 by_cases h : j < L - 1
 ·rw [qEs_at h]
  show _ = some (pkV (fD p A (35 + j)))
  rw [fD_hi]
  by_cases hj : j < p
  ·rw [if_pos hj, qEs_at (by omega), if_pos hj]
  ·rw [if_neg hj, qEs_at (by omega), if_neg hj]
 ·rw [List.getElem?_eq_none (l := qEs (L - 1)) (by rw [qEs_len]; omega)]
  by_cases hj : j < p
  ·omega
  ·rw [if_neg hj, List.getElem?_eq_none (by rw [qEs_len]; omega)]; rfl
theorem qEs_ok {L : Nat} (h : L ≤ 11) : (qEs L).all (okV 46) = true := List.all_eq_true.2 fun a ha => by
 obtain ⟨j, hj, rfl⟩ := List.mem_map.1 ha
 have := List.mem_range.1 hj
 exact Nat.ble_eq_true_of_le (by omega : 35 + j + 1 ≤ 46)
theorem ses_still {len now : Nat} {ev : AV} {f : Nat → Nat} (h1 : f 17 = 17) (h2 : f 3 = 3) (h3 : f 1 = 1) (h4 : f 18 = 18) (he : renV f ev = ev) (ho : okV 46 ev = true) : Still f 46 (sesL len now ev) := by
 refine ⟨?_, ?_⟩
 ·show AO.cells [vI 2, vI 170, vI 2, vI 100, vI 1000, vP (f 17), vP (f 3), vP (f 1), vP (f 18), .int .i64 (.ofNat now), renV f ev, vQ (kOf len), vQ (17 * kOf len), vQ 0, vQ 0, vQ 0, vQ 0] 91 false = _
  rw [h1, h2, h3, h4, he]; rfl
 ·show ([vI 2, vI 170, vI 2, vI 100, vI 1000, vP 17, vP 3, vP 1, vP 18, .int .i64 (.ofNat now), ev, vQ (kOf len), vQ (17 * kOf len), vQ 0, vQ 0, vQ 0, vQ 0] : List AV).all (okV 46) = true
  simp only [List.all_cons, ho, List.all_nil, Bool.and_true, Bool.true_and]; rfl
section
variable {fr : Nat → Option Obj} {sy : SymW} {tk : Nat → Option Tok} {len now i p : Nat} {ev : AV} {S : List Nat} {R R' R'' Z tl : List AO} {A : Bool}
theorem law_deliv {E : Env} {w : World} (hK : LawK fr sy tk E) (hR : R.length = 14) (hR' : R'.length = 14) (hR'' : R''.length = 14) (hZ : Z.length = 18) (hS : S.length ≤ 11) (hp : S[p]? = some i)
  (hev : renV (fD p A) ev = ev ∧ okV 46 ev = true) (hZs : ∀ z ∈ Z, Still (fD p A) 46 z) (hRo : ∀ x ∈ R'', okO 46 x = true)
  (hRr : ∀ (u : Nat) (x : AO), R''[u]? = some x → x = .dead ∨ (∃ u', fD p A (3 + u) = 3 + u' ∧ R'[u']? = some (renO (fD p A) x)) ∨ ∃ v, fD p A (3 + u) = 53 + v ∧ tl[v]? = some (renO (fD p A) x))
  (h : Rel E (ofObjs (m65 (mHd (gL len ev) (.ofNat now) S.length p len i (withS fun q => (lawM len now ev S R Z).getD q .dead)) R' len i ++ tl) (53 + tl.length)) w) :
  ∃ E', LawK fr sy tk E' ∧ Rel E' (ofObjs (lawM len now ev (S.eraseIdx p) R'' Z) 46) w ∧ ∀ q, q < 35 → q < 13 ∨ 15 < q → ∀ L, E.loc[q]? = some L → E'.loc[q]? = some L := by
 have hpl : p < S.length := (lgs.1 hp).1
 obtain ⟨O, hO⟩ : ∃ O, O = mHd (gL len ev) (.ofNat now) S.length p len i (withS fun q => (lawM len now ev S R Z).getD q .dead) := ⟨_, rfl⟩
 rw [← hO] at h
 obtain ⟨aw0, h0⟩ : ∃ aw0, aw0 = ofObjs (m65 O R' len i ++ tl) (53 + tl.length) := ⟨_, rfl⟩
 rw [← h0] at h
 have lg : (m65 O R' len i ++ tl).length = 53 + tl.length := by rw [List.length_append, m65_len hR']
 have gO : ∀ j, (j < 3 ∨ 17 ≤ j) → j < 52 → aw0.get j = some (O j) := fun j h1 h2 => by
  have hx := lge (l := m65 O R' len i ++ tl) (i := j) (by rw [lg]; omega)
  rw [h0, ofObjs_get]
  rcases m65_at hR' hx with ⟨_, e⟩ | ⟨u, e, hu⟩ | ⟨_, _, e⟩ | ⟨e, _⟩ | ⟨e, _⟩
  ·rw [hx, e]
  ·have := (lgs.1 hu).1; omega
  ·rw [hx, e]
  ·omega
  ·omega
 have gR : ∀ u x, R'[u]? = some x → aw0.get (3 + u) = some x := fun u x hu => by
  have hlt := (lgs.1 hu).1
  have hx := lge (l := m65 O R' len i ++ tl) (i := 3 + u) (by rw [lg]; omega)
  rw [h0, ofObjs_get]
  rcases m65_at hR' hx with ⟨e, _⟩ | ⟨u', e, hu'⟩ | ⟨e, _, _⟩ | ⟨e, _⟩ | ⟨e, _⟩
  ·omega
  ·have : u = u' := by omega
   subst this
   rw [hx, ← hu', hu]
  ·omega
  ·omega
  ·omega
 have gT : ∀ v x, tl[v]? = some x → aw0.get (53 + v) = some x := fun v x hv => by
  rw [h0, ofObjs_get, lar (by rw [m65_len hR']; omega), m65_len hR', show 53 + v - 53 = v by omega]; exact hv
 have gZ : ∀ u, u < 18 → aw0.get (17 + u) = Z[u]? := fun u hu => by
  rw [gO _ (.inr (by omega)) (by omega), hO]
  have h3 : 17 + u = (14 + u) + 3 := by omega
  have hx := lge (l := Z) (i := u) (by omega)
  have hm : mHd (gL len ev) (.ofNat now) S.length p len i (withS fun q => (lawM len now ev S R Z).getD q .dead) (17 + u) = (bif Nat.beq (17 + u) (35 + p) then AO.cells (pktL len i) 5 true else bif Nat.beq (17 + u) 50 then .cells [vI 0, vN] 35 false else bif Nat.blt (17 + u) 49 then (withS fun q => (lawM len now ev S R Z).getD q .dead) (17 + u) else .dead) := by rw [h3]; rfl
  rw [hm]
  have q1 : Nat.beq (17 + u) (35 + p) = false := by
   cases hq : Nat.beq (17 + u) (35 + p) with
   | true => have := nbt hq; omega
   | false => rfl
  have q2 : Nat.beq (17 + u) 50 = false := by
   cases hq : Nat.beq (17 + u) 50 with
   | true => have := nbt hq; omega
   | false => rfl
  rw [q1, q2, show Nat.blt (17 + u) 49 = true from Nat.ble_eq_true_of_le (by omega : 17 + u + 1 ≤ 49), cond_false, cond_false, cond_true, withS_lo (by omega), List.getD_eq_getElem?_getD, lawM_Z hR hZ hu, hx]; rfl
 have gQ : ∀ u, u < 11 → aw0.get (35 + u) = some (pkO len S u) := fun u hu => by
  rw [gO _ (.inr (by omega)) (by omega), hO]
  have h3 : 35 + u = (32 + u) + 3 := by omega
  have hm : mHd (gL len ev) (.ofNat now) S.length p len i (withS fun q => (lawM len now ev S R Z).getD q .dead) (35 + u) = (bif Nat.beq (35 + u) (35 + p) then AO.cells (pktL len i) 5 true else bif Nat.beq (35 + u) 50 then .cells [vI 0, vN] 35 false else bif Nat.blt (35 + u) 49 then (withS fun q => (lawM len now ev S R Z).getD q .dead) (35 + u) else .dead) := by rw [h3]; rfl
  rw [hm]
  by_cases hup : u = p
  ·subst hup
   have q1 : Nat.beq (35 + u) (35 + u) = true := by simp
   rw [q1, cond_true]
   unfold pkO
   rw [hp]
  ·have q1 : Nat.beq (35 + u) (35 + p) = false := by
    cases hq : Nat.beq (35 + u) (35 + p) with
    | true => have := nbt hq; omega
    | false => rfl
   have q2 : Nat.beq (35 + u) 50 = false := by
    cases hq : Nat.beq (35 + u) 50 with
    | true => have := nbt hq; omega
    | false => rfl
   rw [q1, q2, show Nat.blt (35 + u) 49 = true from Nat.ble_eq_true_of_le (by omega : 35 + u + 1 ≤ 49), cond_false, cond_false, cond_true, withS_lo (by omega), List.getD_eq_getElem?_getD, lawM_Q hR hZ hu]; rfl
 have g0 : aw0.get 0 = some (sesL len now ev) := by rw [gO 0 (.inl (by omega)) (by omega), hO]; rfl
 have g1 : aw0.get 1 = some (.cells [.slc (some (2, 0)) (S.length - 1) (.upto 1 S.length)] 144 false) := by rw [gO 1 (.inl (by omega)) (by omega), hO]; rfl
 have g2 : aw0.get 2 = some (.cells ((qEs S.length).eraseIdx p ++ [vN]) 37 true) := by rw [gO 2 (.inl (by omega)) (by omega), hO]; rfl
 have h1 := retell_slc (lo' := S.length - 1) h g1 (Nat.le_refl _)
 have h2 := retell_pre (q := 2) h1 ((tgo (by decide)).trans g2)
 obtain ⟨aw2, ha2⟩ : ∃ aw2, aw2 = (aw0.set 1 (.cells [.slc (some (2, 0)) (S.length - 1) (.upto 1 (S.length - 1))] 144 false)).set 2 (.cells ((qEs S.length).eraseIdx p) 37 true) := ⟨_, rfl⟩
 rw [← ha2] at h2
 have k2 : aw2.get 2 = some (.cells ((qEs S.length).eraseIdx p) 37 true) := by rw [ha2]; exact Tr.get_set_same ..
 have k1 : aw2.get 1 = some (.cells [.slc (some (2, 0)) (S.length - 1) (.upto 1 (S.length - 1))] 144 false) := by rw [ha2]; exact (tgo (by decide)).trans (Tr.get_set_same ..)
 have ko : ∀ q, q ≠ 1 → q ≠ 2 → aw2.get q = aw0.get q := fun q h1 h2 => by rw [ha2]; exact (tgo h2).trans (tgo h1)
 have hel : (S.eraseIdx p).length = S.length - 1 := by rw [List.length_eraseIdx, if_pos hpl]
 have hos : (lawM len now ev (S.eraseIdx p) R'' Z).length = 46 := lawM_len hR'' hZ
 have key : ∀ (j : Nat) (n : AO), (lawM len now ev (S.eraseIdx p) R'' Z)[j]? = some n → okO 46 n = true ∧ (n = .dead ∨ aw2.get (fD p A j) = some (renO (fD p A) n)) := fun j n hj => by
  have hlt := (lgs.1 hj).1
  rw [hos] at hlt
  by_cases j3 : j < 3
  ·match j, j3, hj with
   | 0, _, hj =>
    injection hj with hj; subst hj
    obtain ⟨s1, s2⟩ := ses_still (len := len) (now := now) (ev := ev) (f := fD p A) (fD_lo (by decide) (.inr (by decide))) (fD_lo (by decide) (.inl (by decide))) (fD_lo (by decide) (.inl (by decide))) (fD_lo (by decide) (.inr (by decide))) hev.1 hev.2
    exact ⟨s2, .inr (by rw [s1, fD_lo (by decide) (.inl (by decide)), ko 0 (by decide) (by decide)]; exact g0)⟩
   | 1, _, hj =>
    injection hj with hj; subst hj
    refine ⟨rfl, .inr ?_⟩
    rw [fD_lo (by decide) (.inl (by decide)), k1, hel]
    show _ = some (AO.cells [.slc (some (fD p A 2, 0)) (S.length - 1) (.upto 1 (S.length - 1))] 144 false)
    rw [fD_lo (by decide) (.inl (by decide))]
   | 2, _, hj =>
    injection hj with hj; subst hj
    refine ⟨qEs_ok (by rw [hel]; omega), .inr ?_⟩
    rw [fD_lo (by decide) (.inl (by decide)), k2, hel, qEs_erase (A := A) hpl]; rfl
  ·by_cases j17 : j < 17
   ·obtain ⟨u, rfl⟩ : ∃ u, j = 3 + u := ⟨j - 3, by omega⟩
    rw [lawM_R hR'' (by omega)] at hj
    refine ⟨hRo n (List.mem_of_getElem? hj), ?_⟩
    rcases hRr u n hj with rfl | ⟨u', e1, e2⟩ | ⟨v, e1, e2⟩
    ·exact .inl rfl
    ·right
     rw [e1, ko _ (by omega) (by omega)]; exact gR u' _ e2
    ·right
     rw [e1, ko _ (by omega) (by omega)]; exact gT v _ e2
   ·by_cases j35 : j < 35
    ·obtain ⟨u, rfl⟩ : ∃ u, j = 17 + u := ⟨j - 17, by omega⟩
     rw [lawM_Z hR'' hZ (by omega)] at hj
     obtain ⟨s1, s2⟩ := hZs n (List.mem_of_getElem? hj)
     exact ⟨s2, .inr (by rw [s1, fD_lo j35 (.inr (by omega)), ko _ (by omega) (by omega), gZ u (by omega)]; exact hj)⟩
    ·obtain ⟨u, rfl⟩ : ∃ u, j = 35 + u := ⟨j - 35, by omega⟩
     rw [lawM_Q hR'' hZ (by omega), sI] at hj
     subst hj
     obtain ⟨s1, s2⟩ := Still.pk (f := fD p A) (N := 46) (len := len) (j := u) (S := S.eraseIdx p)
     refine ⟨s2, ?_⟩
     rw [s1]
     have hpk : pkO len (S.eraseIdx p) u = pkO len S (if u < p then u else u + 1) := by
      unfold pkO
      rw [List.getElem?_eraseIdx]
      by_cases hu : u < p
      ·rw [if_pos hu, if_pos hu]
      ·rw [if_neg hu, if_neg hu]
     by_cases h10 : (if u < p then u else u + 1) < 11
     ·right
      rw [fD_hi, ko _ (by omega) (by omega), gQ _ h10, hpk]
     ·left
      rw [hpk]
      unfold pkO
      rw [List.getElem?_eq_none (by omega)]
 have hren := h2.renO (os := lawM len now ev (S.eraseIdx p) R'' Z) (f := fD p A) (fun a b x y ha hb _ _ hab => by
  have ha := (lgs.1 ha).1
  have hb := (lgs.1 hb).1
  rw [hos] at ha hb
  exact fD_inj ha hb hab) (fun o ho => by
  rw [hos]
  obtain ⟨j, hj⟩ := List.mem_iff_getElem?.1 ho
  exact (key j o hj).1) fun j n hj => (key j n hj).2
 rw [hos] at hren
 exact ⟨renE E (fD p A) 46, hK.ren _ _, hren, fun q hq hq2 L hL => renE_loc (by omega) (by rw [fD_lo hq hq2]; exact hL)⟩
end
def fB (p q : Nat) : Nat := if q < 35 then (if q = 2 then 54 else q) else if q < 35 + p then q else if q = 35 + p then 52 else q - 1
theorem fB_lo {p q : Nat} (h : q < 35) (h2 : q ≠ 2) : fB p q = q := by
 unfold fB
 rw [if_pos h, if_neg h2]
theorem fB_hi {p u : Nat} : fB p (35 + u) = if u < p then 35 + u else if u = p then 52 else 34 + u := by
 unfold fB
 rw [if_neg (by omega)]
 by_cases h : u < p
 ·rw [if_pos (by omega), if_pos h]
 ·rw [if_neg (by omega), if_neg h]
  by_cases h2 : u = p
  ·rw [if_pos (by omega), if_pos h2]
  ·rw [if_neg (by omega), if_neg h2]; omega
theorem fB_inj {p a b : Nat} (ha : a < 46) (hb : b < 46) (h : fB p a = fB p b) : a = b := by
 unfold fB at h
 (repeat' split at h) <;> omega
theorem qEs_ins {L p : Nat} (hp : p < L) : (qEs L).insertIdx p (pkV 52) = (qEs (L + 1)).map (renV (fB p)) := by
 refine List.ext_getElem? fun j => ?_
 rw [List.getElem?_insertIdx, List.getElem?_map]
 by_cases h : j < L + 1
 ·rw [qEs_at h]
  show _ = some (pkV (fB p (35 + j)))
  rw [fB_hi]
  by_cases hj : j < p
  ·rw [if_pos hj, if_pos hj, qEs_at (by omega)]
  ·rw [if_neg hj, if_neg hj]
   by_cases hjp : j = p
   ·rw [if_pos hjp, if_pos hjp, if_pos (by rw [qEs_len]; omega)]
   ·rw [if_neg hjp, if_neg hjp, qEs_at (by omega)]
    rw [show 35 + (j - 1) = 34 + j by omega]
 ·rw [List.getElem?_eq_none (l := qEs (L + 1)) (by rw [qEs_len]; omega)]
  rw [if_neg (by omega), if_neg (by omega), List.getElem?_eq_none (by rw [qEs_len]; omega)]; rfl
section
variable {fr : Nat → Option Obj} {sy : SymW} {tk : Nat → Option Tok} {len now i p : Nat} {ev : AV} {S : List Nat} {R Z : List AO}
theorem dbl11 (hR : R.length = 14) (hZ : Z.length = 18) (hS : S.length ≤ 10) (hp : S[p]? = some i) : ∃ aw1, CallsAt 11 [vP 0, stepV 5 p] (ofObjs (lawM len now ev S R Z) 46) (.ret (.agg [vI 0, vN]) aw1) ∧ aw1.nx = 55 ∧ aw1.get 0 = some (sesL len now ev) ∧
  aw1.get 1 = some (.cells [.slc (some (54, 0)) (S.length + 1) (.upto 1 (S.length + 1))] 144 false) ∧ aw1.get 52 = some (.cells (pktL len i) 5 true) ∧ aw1.get 54 = some (.cells ((qEs S.length).insertIdx p (pkV 52)) 37 true) ∧
  ∀ j x, 3 ≤ j → (lawM len now ev S R Z)[j]? = some x → aw1.get j = some x := by
 have hpl : p < S.length := (lgs.1 hp).1
 have e := List.map_inj_left.1 (dbGo_all len (gL len ev) (.ofNat now) (pkD len i) (withR (fun q => (lawM len now ev S R Z).getD q .dead) R)) (p, S.length) (pLs_mem hS hpl)
 unfold dbGo at e
 dsimp only at e
 rw [← lawM_mQ hR hZ (by omega) hp] at e
 unfold see65 at e
 split at e <;> (try (cases e; done))
 rename_i v aw1 hc
 simp only [sI, pmi] at e
 obtain ⟨rfl, hm, hn⟩ := e
 have hm : awGet aw1 0 :: (((List.range 43).map (3 + ·) ++ [1, 52, 54]).map (awGet aw1)) = _ := hm
 rw [List.map_append, List.cons_append] at hm
 injection hm with h0 hm
 obtain ⟨h1, h2⟩ := List.append_inj hm (by simp)
 simp only [List.map_cons, List.map_nil, List.cons.injEq, and_true, awGet_eq, pkD_eq] at h2
 rw [awGet_eq] at h0
 refine ⟨aw1, CallsAt.of (cLat_ok len) hc, hn, h0, h2.1, h2.2.1, h2.2.2, fun j x h3 hj => ?_⟩
 have hlt := (lgs.1 hj).1
 rw [lawM_len hR hZ] at hlt
 obtain ⟨u, rfl⟩ : ∃ u, j = 3 + u := ⟨j - 3, by omega⟩
 have hu := congrArg (·[u]?) h1
 simp only [List.getElem?_map, List.getElem?_range (show u < 43 by omega), Option.map_some, sI, awGet_eq] at hu
 have e2 := (congrArg (·[3 + u]?) (lawM_mQ (len := len) (now := now) (ev := ev) hR hZ (show S.length ≤ 11 by omega) hp)).trans (mQ_get (by omega) (by omega))
 rw [hu, ← hj]
 exact e2.symm
theorem law_doubl {E : Env} {w : World} {aw1 : AW} (hK : LawK fr sy tk E) (hR : R.length = 14) (hZ : Z.length = 18) (hS : S.length ≤ 10) (hp : S[p]? = some i)
  (hev : renV (fB p) ev = ev ∧ okV 46 ev = true) (hZs : ∀ z ∈ Z, Still (fB p) 46 z) (hRs : ∀ x ∈ R, Still (fB p) 46 x)
  (g0 : aw1.get 0 = some (sesL len now ev)) (g1 : aw1.get 1 = some (.cells [.slc (some (54, 0)) (S.length + 1) (.upto 1 (S.length + 1))] 144 false)) (g52 : aw1.get 52 = some (.cells (pktL len i) 5 true)) (g54 : aw1.get 54 = some (.cells ((qEs S.length).insertIdx p (pkV 52)) 37 true))
  (gl : ∀ j x, 3 ≤ j → (lawM len now ev S R Z)[j]? = some x → aw1.get j = some x) (h : Rel E aw1 w) :
  ∃ E', LawK fr sy tk E' ∧ Rel E' (ofObjs (lawM len now ev (S.insertIdx p i) R Z) 46) w ∧ ∀ q, q < 35 → q ≠ 2 → ∀ L, E.loc[q]? = some L → E'.loc[q]? = some L := by
 have hpl : p < S.length := (lgs.1 hp).1
 have hel : (S.insertIdx p i).length = S.length + 1 := List.length_insertIdx_of_le_length (show p ≤ S.length by omega) i
 have hos : (lawM len now ev (S.insertIdx p i) R Z).length = 46 := lawM_len hR hZ
 have key : ∀ (j : Nat) (n : AO), (lawM len now ev (S.insertIdx p i) R Z)[j]? = some n → okO 46 n = true ∧ (n = .dead ∨ aw1.get (fB p j) = some (renO (fB p) n)) := fun j n hj => by
  have hlt := (lgs.1 hj).1
  rw [hos] at hlt
  by_cases j3 : j < 3
  ·match j, j3, hj with
   | 0, _, hj =>
    injection hj with hj; subst hj
    obtain ⟨s1, s2⟩ := ses_still (len := len) (now := now) (ev := ev) (f := fB p) (fB_lo (by decide) (by decide)) (fB_lo (by decide) (by decide)) (fB_lo (by decide) (by decide)) (fB_lo (by decide) (by decide)) hev.1 hev.2
    exact ⟨s2, .inr (by rw [s1, fB_lo (by decide) (by decide)]; exact g0)⟩
   | 1, _, hj =>
    injection hj with hj; subst hj
    refine ⟨rfl, .inr ?_⟩
    rw [fB_lo (by decide) (by decide), g1, hel]; rfl
   | 2, _, hj =>
    injection hj with hj; subst hj
    refine ⟨qEs_ok (by rw [hel]; omega), .inr ?_⟩
    show aw1.get 54 = _
    rw [g54, hel, qEs_ins hpl]; rfl
  ·by_cases j17 : j < 17
   ·obtain ⟨u, rfl⟩ : ∃ u, j = 3 + u := ⟨j - 3, by omega⟩
    have hj0 := hj
    rw [lawM_R hR (by omega)] at hj
    obtain ⟨s1, s2⟩ := hRs n (List.mem_of_getElem? hj)
    exact ⟨s2, .inr (by rw [s1, fB_lo (by omega) (by omega)]; exact gl _ _ (by omega) (by rw [lawM_R hR (by omega)]; exact hj))⟩
   ·by_cases j35 : j < 35
    ·obtain ⟨u, rfl⟩ : ∃ u, j = 17 + u := ⟨j - 17, by omega⟩
     rw [lawM_Z hR hZ (by omega)] at hj
     obtain ⟨s1, s2⟩ := hZs n (List.mem_of_getElem? hj)
     exact ⟨s2, .inr (by rw [s1, fB_lo j35 (by omega)]; exact gl _ _ (by omega) (by rw [lawM_Z hR hZ (by omega)]; exact hj))⟩
    ·obtain ⟨u, rfl⟩ : ∃ u, j = 35 + u := ⟨j - 35, by omega⟩
     rw [lawM_Q hR hZ (by omega), sI] at hj
     subst hj
     obtain ⟨s1, s2⟩ := Still.pk (f := fB p) (N := 46) (len := len) (j := u) (S := S.insertIdx p i)
     refine ⟨s2, .inr ?_⟩
     rw [s1, fB_hi]
     have hpk : pkO len (S.insertIdx p i) u = if u < p then pkO len S u else if u = p then .cells (pktL len i) 5 true else pkO len S (u - 1) := by
      unfold pkO
      rw [List.getElem?_insertIdx]
      by_cases hu : u < p
      ·rw [if_pos hu, if_pos hu]
      ·rw [if_neg hu, if_neg hu]
       by_cases hup : u = p
       ·rw [if_pos hup, if_pos hup, if_pos (by omega)]
       ·rw [if_neg hup, if_neg hup]
     rw [hpk]
     by_cases hu : u < p
     ·rw [if_pos hu, if_pos hu]
      exact gl _ _ (by omega) (lawM_Q hR hZ (by omega))
     ·rw [if_neg hu, if_neg hu]
      by_cases hup : u = p
      ·rw [if_pos hup, if_pos hup]; exact g52
      ·rw [if_neg hup, if_neg hup, show 34 + u = 35 + (u - 1) by omega]
       exact gl _ _ (by omega) (lawM_Q hR hZ (by omega))
 have hren := h.renO (os := lawM len now ev (S.insertIdx p i) R Z) (f := fB p) (fun a b x y ha hb _ _ hab => by
  have ha := (lgs.1 ha).1
  have hb := (lgs.1 hb).1
  rw [hos] at ha hb
  exact fB_inj ha hb hab) (fun o ho => by
  rw [hos]
  obtain ⟨j, hj⟩ := List.mem_iff_getElem?.1 ho
  exact (key j o hj).1) fun j n hj => (key j n hj).2
 rw [hos] at hren
 exact ⟨renE E (fB p) 46, hK.ren _ _, hren, fun q hq hq2 L hL => renE_loc (by omega) (by rw [fB_lo hq hq2]; exact hL)⟩
end
end Go.Proofs.YtbilacojhmohmaaGreat.Ae
end
