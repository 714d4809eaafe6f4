/- The first loop with which a line more comes, whatever lines are there. No condition. -/
import Derived.Test.YtbilacojhmohmaaGreatD14
import Derived.Test.YtbilacojhmohmaaGreatD15
import Derived.Test.YtbilacojhmohmaaGreatD16
set_option linter.unusedVariables false
set_option linter.unusedSimpArgs false
noncomputable section
namespace Go.Proofs.YtbilacojhmohmaaGreat.Ae
open Go
section
theorem lens_split {len : Nat} (h : len ∈ lens) : len ∈ [1, 2, 3, 4, 5, 6, 7, 8, 9, 10, 11, 12, 13, 14] ∨ len ∈ [15, 16, 17, 18] ∨ len ∈ [19, 20] := by
 have e : lens = [1, 2, 3, 4, 5, 6, 7, 8, 9, 10, 11, 12, 13, 14] ++ ([15, 16, 17, 18] ++ [19, 20]) := rfl
 rw [e, List.mem_append, List.mem_append] at h
 exact h
theorem adP_mem {ls : List Nat} {len i j x : Nat} (hl : len ∈ ls) (hj : j < kOf len) (h : (i = 0 ∧ x = 1) ∨ (i < kOf len ∧ x = 0)) : ((len, j), (i, x)) ∈ adP ls := by
 refine List.mem_flatMap.2 ⟨len, hl, List.mem_flatMap.2 ⟨j, List.mem_range.2 hj, ?_⟩⟩
 rcases h with ⟨rfl, rfl⟩ | ⟨hi, rfl⟩
 ·exact List.mem_cons_self ..
 ·exact List.mem_cons_of_mem _ (List.mem_map.2 ⟨i, List.mem_range.2 hi, rfl⟩)
theorem ad_round {len i j x : Nat} (hl : len ∈ lens) (hj : j < kOf len) (h : (i = 0 ∧ x = 1) ∨ (i < kOf len ∧ x = 0)) (o3 o4 it : AO) (X : Nat → AO) (es : List AEnt) (c : Nat) : adRound o3 o4 it X es c ((len, j), (i, x)) = adRoundW o3 o4 it X es c ((len, j), (i, x)) := by
 rcases lens_split hl with h1 | h1 | h1
 ·exact List.map_inj_left.1 (adR_1 o3 o4 it X es c) _ (adP_mem h1 hj h)
 ·exact List.map_inj_left.1 (adR_2 o3 o4 it X es c) _ (adP_mem h1 hj h)
 ·exact List.map_inj_left.1 (adR_3 o3 o4 it X es c) _ (adP_mem h1 hj h)
theorem adP2_mem {ls : List Nat} {len i j : Nat} (hl : len ∈ ls) (hi : i < kOf len) (hj : j < kOf len) (hne : i ≠ j) : (len, i, j) ∈ adP2 ls := by
 refine List.mem_flatMap.2 ⟨len, hl, List.mem_flatMap.2 ⟨j, List.mem_range.2 hj, List.mem_map.2 ⟨i, List.mem_filter.2 ⟨List.mem_range.2 hi, ?_⟩, rfl⟩⟩⟩
 cases hb : Nat.beq i j with
 | true => exact (hne (nbt hb)).elim
 | false => rfl
theorem ad_swap1 {len i j : Nat} (hl : len ∈ lens) (hi : i < kOf len) (hj : j < kOf len) (hne : i ≠ j) (o3 o4 it : AO) (X : Nat → AO) (es : List AEnt) (c : Nat) : adSwap o3 o4 it X es c (len, i, j) = adSwapW o3 o4 it X es c (len, i, j) := by
 rcases lens_split hl with h1 | h1 | h1
 ·exact List.map_inj_left.1 (adS_1 o3 o4 it X es c) _ (adP2_mem h1 hi hj hne)
 ·exact List.map_inj_left.1 (adS_2 o3 o4 it X es c) _ (adP2_mem h1 hi hj hne)
 ·exact List.map_inj_left.1 (adS_3 o3 o4 it X es c) _ (adP2_mem h1 hi hj hne)
theorem see_split {aw : AW} {l : List AO} {m : Nat} {ids2 : List Nat} {os2 : List (Option AO)} (hl : l.length = m) (h : (List.range m ++ ids2).map (awGet aw) = l.map some ++ os2) : (∀ (j : Nat) (n : AO), l[j]? = some n → aw.get j = some n) ∧ ids2.map (awGet aw) = os2 := by
 rw [List.map_append] at h
 obtain ⟨h1, h2⟩ := List.append_inj h (by simp [hl])
 refine ⟨fun j n hj => ?_, h2⟩
 have hlt := (lgs.1 hj).1
 have := congrArg (·[j]?) h1
 simp only [List.getElem?_map, hj, Option.map_some] at this
 rw [List.getElem?_range (by omega), Option.map_some, sI, awGet_eq] at this
 exact this
theorem addM_len {len : Nat} {o3 o4 : AO} {X : Nat → AO} {es : List AEnt} {c : Nat} {tl : List AO} : (addM len o3 o4 X es c tl).length = 5 + kOf len + tl.length := by simp [addM]; omega
theorem addM_app {len : Nat} {o3 o4 : AO} {X : Nat → AO} {es : List AEnt} {c : Nat} {tl : List AO} : addM len o3 o4 X es c tl = addM len o3 o4 X es c [] ++ tl := by simp [addM]
theorem addM_tail {len : Nat} {o3 o4 : AO} {X : Nat → AO} {es : List AEnt} {c : Nat} {tl : List AO} {u q : Nat} (hq : q = 5 + kOf len + u) : (addM len o3 o4 X es c tl)[q]? = tl[u]? := by
 rw [addM_app, lar (by rw [addM_len]; simp; omega), addM_len]
 congr 1; simp; omega
theorem addM_head {len : Nat} {o3 o4 : AO} {X : Nat → AO} {es : List AEnt} {c : Nat} {tl : List AO} {q : Nat} (hq : q < 5 + kOf len) : (addM len o3 o4 X es c tl)[q]? = (addM len o3 o4 X es c [])[q]? := by
 rw [addM_app, lal (by rw [addM_len]; simpa using hq)]
theorem map_inj {α β : Type} {f : α → β} : ∀ {l : List α}, (l.map f).Nodup → ∀ {x y}, x ∈ l → y ∈ l → f x = f y → x = y
 | [], _, x, y, hx, _, _ => by cases hx
 | a :: l, hn, x, y, hx, hy, h => by
  simp only [List.map_cons, List.nodup_cons] at hn
  rcases List.mem_cons.1 hx with ex | hx' <;> rcases List.mem_cons.1 hy with ey | hy'
  ·exact ex.trans ey.symm
  ·subst ex; exact (hn.1 (List.mem_map.2 ⟨y, hy', h.symm⟩)).elim
  ·subst ey; exact (hn.1 (List.mem_map.2 ⟨x, hx', h⟩)).elim
  ·exact map_inj hn.2 hx' hy' h
def ad3 (len i : Nat) : AO := .rom (rowL (kOf len) i) 5
def ad4 (len i : Nat) : AO := .rom (datL len i) 5
def adX (len : Nat) (T : List (Nat × Nat × Loc)) : Nat → AO := fun j => bif T.any (fun x => Nat.beq x.1 j) then romO len j else .dead
def adEs (len : Nat) (T : List (Nat × Nat × Loc)) : List AEnt := linEs (kOf len) (5 + ·) T
def adMem (len i : Nat) (T : List (Nat × Nat × Loc)) (es : List AEnt) (c : Nat) (tl : List AO) : List AO := addM len (ad3 len i) (ad4 len i) (adX len T) es c tl
theorem putX_id {len : Nat} {T : List (Nat × Nat × Loc)} {x : Nat × Nat × Loc} (hx : x ∈ T) : putX (adX len T) x.1 (romO len x.1) = adX len T := by
 funext q
 unfold putX
 cases hb : Nat.beq q x.1 with
 | false => rfl
 | true =>
  have e := nbt hb
  subst e
  have : T.any (fun y => Nat.beq y.1 x.1) = true := List.any_eq_true.2 ⟨x, hx, by simp⟩
  simp [adX, this]
theorem fieldCells_scal : ∀ a ∈ fieldCells, Scal a := by
 have h : fieldCells.all (fun a => match a with | .int _ _ => true | _ => false) = true := by kernel_rfl
 intro a ha
 have := List.all_eq_true.1 h a ha
 split at this
 ·exact .inl ⟨_, _, rfl⟩
 ·cases this
theorem rowL_scal {k i : Nat} : ∀ a ∈ rowL k i, Scal a := fun a ha => by
 obtain ⟨x, _, rfl⟩ := List.mem_map.1 ha
 exact .inl ⟨_, _, rfl⟩
theorem zerL_scal {k : Nat} : ∀ a ∈ zerL k, Scal a := fun a ha => by
 obtain ⟨x, _, rfl⟩ := List.mem_map.1 ha
 exact .inl ⟨_, _, rfl⟩
theorem datL_scal {len i : Nat} : ∀ a ∈ datL len i, Scal a := fun a ha =>
 lineL_scal (len := len) (k := 0) (i := i) a (by show a ∈ ([] : List AV) ++ datL len i; simpa using ha)
section
variable {E E' : Env} {len i c : Nat} {T : List (Nat × Nat × Loc)} {es : List AEnt} {L : Loc} {w : World}
theorem adMem_keep (hs : E'.sym = E.sym) (ht : ∀ b x, E.tk b = some x → E'.tk b = some x) (hloc : ∀ j, j < 5 → ∀ L, E.loc[j]? = some L → E'.loc[j]? = some L) {j : Nat} {n : AO} (h0 : j ≠ 0) (hj : (adMem len i T es c [])[j]? = some n) (h : ORel E L w n) : ORel E' L w n := by
 match j, hj with
 | 0, _ => exact (h0 rfl).elim
 | 1, hj => injection hj with hj; subst hj; exact h.cells_scal hs fieldCells_scal
 | 2, hj =>
  injection hj with hj; subst hj
  refine h.rom_conv ht (by decide) rfl fun q a ha => ?_
  match q, ha with
  | 0, ha => injection ha with ha; subst ha; exact ⟨_, rfl, fun v hv => by cases hv with | ptr hL => exact .ptr (hloc 1 (by omega) _ hL)⟩
  | 1, ha => injection ha with ha; subst ha; exact ⟨_, rfl, fun v hv => by cases hv; exact .int _ _⟩
  | 2, ha => injection ha with ha; subst ha; exact ⟨_, rfl, fun v hv => by cases hv; exact .int _ _⟩
  | 3, ha => injection ha with ha; subst ha; exact ⟨_, rfl, fun v hv => by cases hv with | map hL hb => exact .map (hloc 0 (by omega) _ hL) hb⟩
  | q + 4, ha => cases ha
 | 3, hj => injection hj with hj; subst hj; exact h.rom_scal hs ht (by decide) rowL_scal
 | 4, hj => injection hj with hj; subst hj; exact h.rom_scal hs ht (by decide) datL_scal
 | j + 5, hj =>
  have hj : ((List.range (kOf len)).map (adX len T) ++ [])[j]? = some n := hj
  rw [List.append_nil, List.getElem?_map, Option.map_eq_some_iff] at hj
  obtain ⟨y, _, rfl⟩ := hj
  unfold adX at h ⊢
  cases hb : T.any (fun x => Nat.beq x.1 y) with
  | true => rw [hb] at h; exact h.rom_scal hs ht (by decide) lineL_scal
  | false => trivial
theorem map_keep (hloc : ∀ x ∈ T, ∀ L, E.loc[5 + x.1]? = some L → E'.loc[5 + x.1]? = some L) (h : ORel E L w (.map (adEs len T) c)) : ORel E' L w (.map (adEs len T) c) := by
 obtain ⟨h0, ces, h1, h2⟩ := h
 exact ⟨h0, ces, h1, linEs_conv hloc h2⟩
theorem iter_keep {seen : List Nat} {s st : Nat} (hloc : ∀ L, E.loc[0]? = some L → E'.loc[0]? = some L) (h : ORel E L w (.iter (some 0) s seen st)) : ORel E' L w (.iter (some 0) s seen st) := by
 obtain ⟨h0, cm, h1, h2⟩ := h
 exact ⟨h0, cm, h1, by cases h2 with | map hL hb => exact .map (hloc _ hL) hb⟩
end
structure AddK (E0 : Env) (w0 : World) (live rest : List Loc) (len : Nat) (T : List (Nat × Nat × Loc)) (S : List Nat) (E : Env) : Prop where
 mix : MixK E0 w0 live rest E
 new : ∀ j ∈ S, j < kOf len ∧ ∃ L, E.loc[5 + j]? = some L ∧ LineLoc E len (kOf len) j L ∧ w0.heap[L.block]? = none
 old : ∀ x ∈ T, x.1 ∉ S → E.loc[5 + x.1]? = some x.2.2
theorem AddK.le {E0 : Env} {w0 : World} {live rest : List Loc} {len : Nat} {T : List (Nat × Nat × Loc)} {S : List Nat} (E E' : Env) (h : AddK E0 w0 live rest len T S E) (hle : E.Le E') : AddK E0 w0 live rest len T S E' :=
 ⟨h.mix.le hle, fun j hj => let ⟨h1, L, h2, h3, h4⟩ := h.new j hj; ⟨h1, L, hle.loc h2, h3.mono hle.2.1 hle.2.2.2, h4⟩, fun x hx hn => hle.loc (h.old x hx hn)⟩
inductive AdV (len : Nat) (ss : List Nat) : AV → AV → Prop
 | bas : AdV len ss adBas adBas
 | num (n : Nat) : AdV len ss (adNum n) (adNum n)
 | ln {u s q p : Nat} (h : ss[u]? = some s) (hp : p = s) (hq : q = 5 + kOf len + u) : AdV len ss (adLn len p) (adLn len q)
 | it {u s q p : Nat} (h : ss[u]? = some s) (hp : p = s) (hq : q = 5 + kOf len + u) : AdV len ss (.ptr (some (p, 0))) (.ptr (some (q, 0)))
def AdO (n : AO) : Prop := ∀ (E E' : Env) (L : Loc) (w : World), E'.sym = E.sym → (∀ L, E.loc[0]? = some L → E'.loc[0]? = some L) → ORel E L w n → ORel E' L w n
theorem AdO.scal {l : List AV} {e : TypeId} {b : Bool} (h : ∀ a ∈ l, Scal a) : AdO (.cells l e b) := fun E E' L w hs _ ho => ho.cells_scal hs h
theorem AdO.iter {seen : List Nat} {s st : Nat} : AdO (.iter (some 0) s seen st) := fun E E' L w _ h0 ho => iter_keep h0 ho
theorem AdO.cur {len i x : Nat} : AdO (adCur len i x) := by
 unfold adCur
 cases Nat.beq x 0 with
 | true => exact .scal lineL_scal
 | false => exact .scal zerL_scal
theorem ad_turn {E0 : Env} {w0 : World} {live rest : List Loc} {len i c : Nat} {S : List Nat} {T : List (Nat × Nat × Loc)} (hlr : (live ++ rest).length = 5) (hTk : ∀ x ∈ T, x.1 < kOf len) {t : Tr AV} {aw : AW} {tm : List (Nat × AV)} {tl : List AO} {ss : List Nat}
  (h0 : ∀ (j : Nat) (n : AO), (adMem len i T (adEs len T) c [])[j]? = some n → aw.get j = some n) (hl : ss.length = tl.length) (h1 : ∀ (u : Nat) (n : AO), tl[u]? = some n → ∃ s, ss[u]? = some s ∧ aw.get s = some n)
  (hss : ∀ s ∈ ss, 5 + kOf len ≤ s) (nd : ss.Nodup) (htl : ∀ n ∈ tl, AdO n) (htm : ∀ s v, (s, v) ∈ tm → ∃ v0, t.get s s = some v0 ∧ AdV len ss v0 v) :
  Turn (AddK E0 w0 live rest len T S) t aw tm (ofObjs (adMem len i T (adEs len T) c tl) (5 + kOf len + tl.length)) := by
 intro E w hK hR
 obtain ⟨src, hsrc⟩ : ∃ src : Nat → Nat, src = fun j => if j < 5 + kOf len then j else ss.getD (j - (5 + kOf len)) 0 := ⟨_, rfl⟩
 have s1 : ∀ j, j < 5 + kOf len → src j = j := fun j hj => by rw [hsrc]; exact if_pos hj
 have s2 : ∀ u s, ss[u]? = some s → src (5 + kOf len + u) = s := fun u s hu => by
  rw [hsrc]
  show (if 5 + kOf len + u < 5 + kOf len then _ else _) = s
  rw [if_neg (by omega), show 5 + kOf len + u - (5 + kOf len) = u by omega, List.getD_eq_getElem?_getD, hu]; rfl
 have hos : (adMem len i T (adEs len T) c tl).length = 5 + kOf len + tl.length := addM_len
 have g1 : ∀ j, j < 5 + kOf len → ∀ L, E.loc[j]? = some L → (renE E src (5 + kOf len + tl.length)).loc[j]? = some L := fun j hj L hL => renE_loc (by omega) (by rw [s1 j hj]; exact hL)
 have g2 : ∀ u s, ss[u]? = some s → ∀ L, E.loc[s]? = some L → (renE E src (5 + kOf len + tl.length)).loc[5 + kOf len + u]? = some L := fun u s hu L hL => renE_loc (by have := (lgs.1 hu).1; omega) (by rw [s2 u s hu]; exact hL)
 refine ⟨renE E src (5 + kOf len + tl.length), ⟨⟨hK.mix.sym, hK.mix.tk, fun j L hj => ?_⟩, fun j hj => ?_, fun x hx hn => g1 _ (by have := hTk x hx; omega) _ (hK.old x hx hn)⟩, ?_, fun s v hsv => ?_⟩
 ·have := (lgs.1 hj).1
  exact g1 j (by omega) L (hK.mix.loc j L hj)
 ·obtain ⟨h2, L, h3, h4, h5⟩ := hK.new j hj
  exact ⟨h2, L, g1 _ (by omega) L h3, h4.mono (E := E) (E' := renE E src (5 + kOf len + tl.length)) rfl (fun _ _ h => h), h5⟩
 ·have := Rel.renum hR (os := adMem len i T (adEs len T) c tl) (src := src) (fun a b ha hb hab => ?_) (fun j n hj => ?_)
  ·rw [hos] at this; exact this
  ·rw [hos] at ha hb
   by_cases h2 : a < 5 + kOf len <;> by_cases h3 : b < 5 + kOf len
   ·rwa [s1 a h2, s1 b h3] at hab
   ·obtain ⟨u, rfl⟩ : ∃ u, b = 5 + kOf len + u := ⟨b - (5 + kOf len), by omega⟩
    have hu : u < ss.length := by omega
    rw [s1 a h2, s2 u ss[u] (lge hu)] at hab
    have := hss ss[u] (List.getElem_mem hu)
    omega
   ·obtain ⟨u, rfl⟩ : ∃ u, a = 5 + kOf len + u := ⟨a - (5 + kOf len), by omega⟩
    have hu : u < ss.length := by omega
    rw [s1 b h3, s2 u ss[u] (lge hu)] at hab
    have := hss ss[u] (List.getElem_mem hu)
    omega
   ·obtain ⟨u, rfl⟩ : ∃ u, a = 5 + kOf len + u := ⟨a - (5 + kOf len), by omega⟩
    obtain ⟨v, rfl⟩ : ∃ v, b = 5 + kOf len + v := ⟨b - (5 + kOf len), by omega⟩
    have hu : u < ss.length := by omega
    have hv : v < ss.length := by omega
    rw [s2 u ss[u] (lge hu), s2 v ss[v] (lge hv)] at hab
    have := (List.getElem_inj nd).1 hab
    omega
  ·rw [hos]
   have hlt := (lgs.1 hj).1
   rw [hos] at hlt
   by_cases h2 : j < 5 + kOf len
   ·have hj' : (adMem len i T (adEs len T) c [])[j]? = some n := by rw [← hj]; exact (addM_head h2).symm
    refine .inr ⟨n, by rw [s1 j h2]; exact h0 j n hj', id, fun L hL ho => ?_⟩
    by_cases hz : j = 0
    ·subst hz
     injection hj' with hj'; subst hj'
     exact map_keep (fun x hx => g1 _ (by have := hTk x hx; omega)) ho
    ·exact adMem_keep (E := E) (E' := renE E src (5 + kOf len + tl.length)) (es := adEs len T) (c := c) rfl (fun _ _ h => h) (fun q hq => g1 q (by omega)) hz hj' ho
   ·obtain ⟨u, rfl⟩ : ∃ u, j = 5 + kOf len + u := ⟨j - (5 + kOf len), by omega⟩
    have hj' : tl[u]? = some n := by rw [← hj]; exact (addM_tail rfl).symm
    obtain ⟨s, hs, hg⟩ := h1 u n hj'
    exact .inr ⟨n, by rw [s2 u s hs]; exact hg, id, fun L hL ho => htl n (List.mem_of_getElem? hj') E _ L w rfl (g1 0 (by omega)) ho⟩
 ·obtain ⟨v0, h2, h3⟩ := htm s v hsv
  refine ⟨v0, h2, fun cv hcv => ?_⟩
  cases h3 with
  | bas =>
   have hcv : VRel E (.ptr (some (2, 0))) cv := hcv
   cases hcv with
   | ptr hL => exact .ptr (g1 2 (by omega) _ hL)
  | num m =>
   have hcv : VRel E (.int .i64 (.ofNat m)) cv := hcv
   cases hcv; exact .int _ _
  | ln hu hp hq =>
   subst hq hp
   rename_i u p
   have hcv : VRel E (.slc (some (p, 0)) (kOf len + 2) (.upto 1 (kOf len + 2))) cv := hcv
   cases hcv with
   | slcUp hL a1 a2 a3 => exact .slcUp (g2 u p hu _ hL) a1 a2 a3
  | it hu hp hq =>
   subst hq hp
   cases hcv with
   | ptr hL => exact .ptr (g2 _ _ hu _ hL)
theorem tgo {α : Type} {t : Tr α} {i j : Nat} {x : α} (h : j ≠ i) : (t.set i i x).get j j = t.get j j := Tr.get_set_other h t i j
theorem adMem_len {len i c : Nat} {T : List (Nat × Nat × Loc)} {es : List AEnt} {tl : List AO} : (adMem len i T es c tl).length = 5 + kOf len + tl.length := addM_len
theorem adMem_tail {len i c u q : Nat} {T : List (Nat × Nat × Loc)} {es : List AEnt} {tl : List AO} (hq : q = 5 + kOf len + u) : (adMem len i T es c tl)[q]? = tl[u]? := addM_tail hq
theorem adMem_head {len i c q : Nat} {T : List (Nat × Nat × Loc)} {es : List AEnt} {tl : List AO} (hq : q < 5 + kOf len) : (adMem len i T es c tl)[q]? = (adMem len i T es c [])[q]? := addM_head hq
theorem adMem_lt {len i c q : Nat} {T : List (Nat × Nat × Loc)} {es : List AEnt} {y : AO} (hq : (adMem len i T es c [])[q]? = some y) : q < 5 + kOf len := by
 have := (lgs.1 hq).1
 rw [adMem_len] at this
 simpa using this
theorem adMem_line {len i c j : Nat} {T : List (Nat × Nat × Loc)} {es : List AEnt} {tl : List AO} (hj : j < kOf len) : (adMem len i T es c tl)[5 + j]? = some (adX len T j) := by
 rw [Nat.add_comm 5 j]
 show ((List.range (kOf len)).map (adX len T) ++ tl)[j]? = _
 rw [lal (by simpa using hj), List.getElem?_map, List.getElem?_range hj]; rfl
def adT3 (len : Nat) : List (Nat × AV) := [(0, adBas), (7, adLn len (5 + kOf len)), (43, adIt len)]
open Classical in
def adVis (i : Nat) (seen : List Nat) (T : List (Nat × Nat × Loc)) : Nat := if ∃ y ∈ T, y.1 = i ∧ y.2.1 ∈ seen then 1 else 0
theorem adVis_or (i : Nat) (seen : List Nat) (T : List (Nat × Nat × Loc)) : adVis i seen T = 0 ∨ adVis i seen T = 1 := by
 unfold adVis; split
 ·exact .inr rfl
 ·exact .inl rfl
def adNx (v i j : Nat) : Nat := bif Nat.beq v 0 then (bif Nat.beq j i then 1 else 0) else 1
theorem adVis_next {i c : Nat} {seen : List Nat} {T : List (Nat × Nat × Loc)} (hb : (T.map (·.2.1)).Nodup) {x : Nat × Nat × Loc} (hx : x ∈ T) : adNx (adVis i seen T) i x.1 = adVis i (seen ++ [x.2.1]) T := by
 by_cases h : ∃ y ∈ T, y.1 = i ∧ y.2.1 ∈ seen
 ·have h2 : ∃ y ∈ T, y.1 = i ∧ y.2.1 ∈ seen ++ [x.2.1] := by
   obtain ⟨y, h1, h2, h3⟩ := h
   exact ⟨y, h1, h2, List.mem_append_left _ h3⟩
  unfold adVis
  rw [if_pos h, if_pos h2]; rfl
 ·by_cases hi : x.1 = i
  ·have h2 : ∃ y ∈ T, y.1 = i ∧ y.2.1 ∈ seen ++ [x.2.1] := ⟨x, hx, hi, by simp⟩
   unfold adVis
   rw [if_neg h, if_pos h2]
   simp [adNx, hi]
  ·have h2 : ¬ ∃ y ∈ T, y.1 = i ∧ y.2.1 ∈ seen ++ [x.2.1] := fun ⟨y, h1, h3, h4⟩ => by
    rcases List.mem_append.1 h4 with h4 | h4
    ·exact h ⟨y, h1, h3, h4⟩
    ·simp only [List.mem_cons, List.not_mem_nil, or_false] at h4
     have := map_inj hb h1 hx h4
     subst this
     exact hi h3
   have hb2 : Nat.beq x.1 i = false := by
    cases hq : Nat.beq x.1 i with
    | true => exact (hi (nbt hq)).elim
    | false => rfl
   unfold adVis
   rw [if_neg h, if_neg h2]
   simp only [adNx, hb2]; rfl
theorem adVis_all {E : Env} {len i n c : Nat} {β : Nat → Bool} {seen : List Nat} {T : List (Nat × Nat × Loc)} (hi : i < kOf len) (hT : LinT E len (kOf len) n β T c) (h : ∀ x ∈ T, x.2.1 ∈ seen) : adVis i seen T = bif β i then 1 else 0 := by
 unfold adVis
 cases hb : β i with
 | true =>
  obtain ⟨x, hx, e⟩ := hT.has i hi hb
  rw [if_pos ⟨x, hx, e, h x hx⟩]; rfl
 | false =>
  rw [if_neg fun ⟨y, h1, h2, _⟩ => by
   have := (hT.all y h1).2.1
   rw [h2, hb] at this; cases this]; rfl
theorem ad_round1 {len i j v c : Nat} {T : List (Nat × Nat × Loc)} {es : List AEnt} {it : AO} (hl : len ∈ lens) (hi : i < kOf len) {x : Nat × Nat × Loc} (hx : x ∈ T) (hxj : x.1 = j) (hj : j < kOf len) (hv : v = 0 ∨ v = 1) : ∃ t1 aw1 t2 aw2,
  xcode cMul 1000 (.region add3E) ⟨tmOf (adRowT len j) .leaf, 123, []⟩ (ofObjs (adMem len i T es c [adCur len i v, it]) (7 + kOf len)) = some ⟨.norm, ⟨t1, 123, []⟩, aw1⟩ ∧
  xcode cMul 1000 (.draw add3D add3R) ⟨t1, 123, []⟩ aw1 = some ⟨.norm, ⟨t2, 123, []⟩, aw2⟩ ∧ (t2.get 0 0 = some adBas ∧ t2.get 7 7 = some (adLn len (8 + kOf len)) ∧ t2.get 43 43 = some (adIt len)) ∧
  (∀ (q : Nat) (n : AO), (adMem len i T es c [])[q]? = some n → aw2.get q = some n) ∧ aw2.get (6 + kOf len) = some it ∧ aw2.get (8 + kOf len) = some (adCur len i (adNx v i j)) := by
 subst hxj
 have key : ∀ i' x', ((i' = 0 ∧ x' = 1) ∨ (i' < kOf len ∧ x' = 0)) → adCur len i' x' = adCur len i v → (bif Nat.beq x' 0 then bif Nat.beq x.1 i' then zerO len else linO len i' else zerO len) = adCur len i (adNx v i x.1) → ∃ t1 aw1 t2 aw2,
   xcode cMul 1000 (.region add3E) ⟨tmOf (adRowT len x.1) .leaf, 123, []⟩ (ofObjs (adMem len i T es c [adCur len i v, it]) (7 + kOf len)) = some ⟨.norm, ⟨t1, 123, []⟩, aw1⟩ ∧
   xcode cMul 1000 (.draw add3D add3R) ⟨t1, 123, []⟩ aw1 = some ⟨.norm, ⟨t2, 123, []⟩, aw2⟩ ∧ (t2.get 0 0 = some adBas ∧ t2.get 7 7 = some (adLn len (8 + kOf len)) ∧ t2.get 43 43 = some (adIt len)) ∧
   (∀ (q : Nat) (n : AO), (adMem len i T es c [])[q]? = some n → aw2.get q = some n) ∧ aw2.get (6 + kOf len) = some it ∧ aw2.get (8 + kOf len) = some (adCur len i (adNx v i x.1)) := by
  intro i' x' h1 h2 h3
  have er := ad_round hl hj h1 (ad3 len i) (ad4 len i) it (adX len T) es c
  unfold adRound adRoundW at er
  dsimp only at er
  rw [putX_id hx, h2, h3] at er
  obtain ⟨t1, aw1, e1, er⟩ := bNn_ok er
  obtain ⟨t2, aw2, e2, er⟩ := bNn_ok er
  simp only [adSee, sI, pmi] at er
  obtain ⟨ht, hm, hn⟩ := er
  rw [at123_eq] at e1 e2
  simp only [List.map_cons, List.map_nil, List.cons.injEq, and_true, trGet_eq] at ht
  obtain ⟨g1, g2⟩ := see_split (by rw [addM_len]; simp) hm
  simp only [List.map_cons, List.map_nil, List.cons.injEq, and_true, awGet_eq] at g2
  exact ⟨t1, aw1, t2, aw2, e1, e2, ⟨ht.1, ht.2.1, ht.2.2⟩, g1, g2.1, g2.2⟩
 rcases hv with rfl | rfl
 ·refine key i 0 (.inr ⟨hi, rfl⟩) rfl ?_
  unfold adNx
  cases Nat.beq x.1 i <;> rfl
 ·exact key 0 1 (.inl ⟨rfl, rfl⟩) rfl rfl
section
variable {E0 : Env} {w0 : World} {live rest : List Loc} {len i c n : Nat} {β : Nat → Bool} {T : List (Nat × Nat × Loc)}
theorem adEs_mem {e : AEnt} (he : e ∈ adEs len T) : ∃ x ∈ T, e = ⟨adNum x.1, adLn len (5 + x.1), x.2.1⟩ := by
 obtain ⟨x, hx, rfl⟩ := List.mem_map.1 he
 exact ⟨x, hx, rfl⟩
theorem adEs_borns : (adEs len T).map (·.born) = T.map (·.2.1) := by
 unfold adEs linEs
 rw [List.map_map]; rfl
theorem ad_step1 (hlr : (live ++ rest).length = 5) (hl : len ∈ lens) (hi : i < kOf len) (hT : LinT E0 len (kOf len) n β T c) {Q0 : Post'}
  (hQ : ∀ E ca w, AddK E0 w0 live rest len T [] E → ActRel E ⟨tmOf (adT1 len) .leaf, 123, []⟩ ca → Rel E (ofObjs (adMem len i T (adEs len T) c [adCur len i (bif β i then 1 else 0)]) (6 + kOf len)) w → Q0 .normal ca w) (seen : List Nat)
  (ih : ∀ x ∈ T, x.2.1 ∉ seen → GoodLK Tryz.prog (cDraw Tryz.prog) (AddK E0 w0 live rest len T []) add3B (Exit.inBlock 0 Q0) ⟨tmOf (adT3 len) .leaf, 123, []⟩ (ofObjs (adMem len i T (adEs len T) c [adCur len i (adVis i (seen ++ [x.2.1]) T), .iter (some 0) c (seen ++ [x.2.1]) c]) (7 + kOf len))) :
  GoodLK Tryz.prog (cDraw Tryz.prog) (AddK E0 w0 live rest len T []) add3B (Exit.inBlock 0 Q0) ⟨tmOf (adT3 len) .leaf, 123, []⟩ (ofObjs (adMem len i T (adEs len T) c [adCur len i (adVis i seen T), .iter (some 0) c seen c]) (7 + kOf len)) := by
 have hTk : ∀ x ∈ T, x.1 < kOf len := fun x hx => (hT.all x hx).1
 refine GoodLK.of ?_
 show GoodK Tryz.prog (cDraw Tryz.prog) _ (.seq add3N (.seq (.cond (.t 45) .skip (.exit 0)) (.block 1 add3K))) _ _ _
 refine GoodK.into (GoodK.region (GoodI.next (m := 0) (id := 6 + kOf len) (since := c) (st := c) (seen := seen) (es := adEs len T) (clock := c) AddK.le rfl rfl ?_ ?_ (fun e he => ?_) (Nat.le_refl _) (fun hall => ?_) fun e he hn => ?_))
 ·rw [ofObjs_get]
  exact adMem_tail (u := 1) (by omega)
 ·rw [ofObjs_get]; rfl
 ·obtain ⟨x, hx, rfl⟩ := adEs_mem he
  exact hT.old x hx
 ·have hall' : ∀ x ∈ T, x.2.1 ∈ seen := fun x hx => hall _ (List.mem_map.2 ⟨x, hx, rfl⟩)
  refine GoodI.op (v := .bool false) (aw1 := ofObjs (adMem len i T (adEs len T) c [adCur len i (adVis i seen T), .iter (some 0) c seen c]) (7 + kOf len)) AddK.le cMul_ok (by simp only [xop, Opd.ev, Tr.get_set_same]; rfl) rfl (GoodI.last ?_)
  have h45 : Opd.ev (((tmOf (adT3 len) .leaf).set 44 44 (.tuple [.bool false])).set 45 45 (.bool false)) (.t 45) = some (.bool false) := Tr.get_set_same ..
  have hg : ∀ q, q ≠ 44 → q ≠ 45 → (((tmOf (adT3 len) .leaf).set 44 44 (.tuple [.bool false])).set 45 45 (.bool false)).get q q = (tmOf (adT3 len) .leaf).get q q := fun q h1 h2 => by rw [Tr.get_set_other h2, Tr.get_set_other h1]
  refine GoodK.run (n := 3) AddK.le cMul_ok drMul (seq_exit (n := 2) (k := 0) (by rw [show (2 : Nat) = 1 + 1 from rfl, cond_b (u := false) h45]; rfl)) fun E e ca w hE hR hA hX => ?_
  cases e <;> simp only [XRel] at hX
  subst hX
  simp only [loopQ, Exit.inBlock, if_true]
  obtain ⟨E', h1, h2, h3⟩ := ad_turn (tm := adT1 len) (tl := [adCur len i (adVis i seen T)]) (ss := [5 + kOf len]) (t := _) hlr hTk (fun j m hj => by rw [ofObjs_get]; exact (adMem_head (adMem_lt hj)).trans hj) rfl
   (fun u m hu => by
    match u, hu with
    | 0, hu => exact ⟨_, rfl, by rw [ofObjs_get]; exact (adMem_tail (u := 0) (by omega)).trans hu⟩
    | u + 1, hu => cases hu) (by simp) (by simp) (fun m hm => by simp only [List.mem_cons, List.not_mem_nil, or_false] at hm; subst hm; exact .cur) (fun s v hsv => by
    simp only [adT1, List.mem_cons, List.not_mem_nil, or_false, pmi] at hsv
    rcases hsv with ⟨rfl, rfl⟩ | ⟨rfl, rfl⟩
    ·exact ⟨adBas, (hg 0 (by decide) (by decide)).trans rfl, .bas⟩
    ·exact ⟨adLn len (5 + kOf len), (hg 7 (by decide) (by decide)).trans rfl, .ln (u := 0) rfl rfl (by omega)⟩) E w hE hR
  rw [adVis_all hi hT hall'] at h2
  exact hQ E' ca w h1 (act_turn h3 hA) (by rw [show 6 + kOf len = 5 + kOf len + [adCur len i (bif β i then 1 else 0)].length by simp; omega]; exact h2)
 ·obtain ⟨x, hx, rfl⟩ := adEs_mem he
  have hn : x.2.1 ∉ seen := hn
  refine GoodI.op (v := .bool true) (aw1 := (ofObjs (adMem len i T (adEs len T) c [adCur len i (adVis i seen T), .iter (some 0) c seen c]) (7 + kOf len)).set (6 + kOf len) (.iter (some 0) c (seen ++ [x.2.1]) c)) AddK.le cMul_ok (by simp only [xop, Opd.ev, Tr.get_set_same]; rfl) rfl (GoodI.last ?_)
  obtain ⟨t, ht⟩ : ∃ t, t = (((tmOf (adT3 len) .leaf).set 44 44 (.tuple [.bool true, adNum x.1, adLn len (5 + x.1)])).set 45 45 (.bool true)) := ⟨_, rfl⟩
  have h45 : Opd.ev t (.t 45) = some (.bool true) := by rw [ht]; exact Tr.get_set_same ..
  have hg : ∀ q, q ≠ 44 → q ≠ 45 → t.get q q = (tmOf (adT3 len) .leaf).get q q := fun q h1 h2 => by rw [ht, Tr.get_set_other h2, Tr.get_set_other h1]
  obtain ⟨aw, haw⟩ : ∃ aw, aw = (ofObjs (adMem len i T (adEs len T) c [adCur len i (adVis i seen T), .iter (some 0) c seen c]) (7 + kOf len)).set (6 + kOf len) (.iter (some 0) c (seen ++ [x.2.1]) c) := ⟨_, rfl⟩
  have g6 : aw.get (6 + kOf len) = some (.iter (some 0) c (seen ++ [x.2.1]) c) := by rw [haw]; exact Tr.get_set_same ..
  have g7 : ∀ q, q ≠ 6 + kOf len → aw.get q = (adMem len i T (adEs len T) c [adCur len i (adVis i seen T), .iter (some 0) c seen c])[q]? := fun q hq => by
   rw [haw]
   exact (tgo hq).trans (ofObjs_get _ _ q)
  have gnx : aw.nx = 7 + kOf len := by rw [haw]; rfl
  show GoodK Tryz.prog (cDraw Tryz.prog) _ _ _ ⟨((tmOf (adT3 len) .leaf).set 44 44 (.tuple [.bool true, adNum x.1, adLn len (5 + x.1)])).set 45 45 (.bool true), 123, []⟩ ((ofObjs (adMem len i T (adEs len T) c [adCur len i (adVis i seen T), .iter (some 0) c seen c]) (7 + kOf len)).set (6 + kOf len) (.iter (some 0) c (seen ++ [x.2.1]) c))
  rw [← ht, ← haw]
  refine GoodK.seq (n := 2) (a1 := ⟨t, 123, []⟩) (aw1 := aw) AddK.le cMul_ok drMul (by rw [show (2 : Nat) = 1 + 1 from rfl, cond_b (u := true) h45]; rfl) (GoodK.block ?_)
  show GoodK Tryz.prog (cDraw Tryz.prog) _ (.seq (.region (.op (some 46) none (.entry (.t 43)) :: add3E)) (.draw add3D add3R)) _ _ _
  refine GoodK.items (GoodI.entry (seen := seen) (es := adEs len T) (e := ⟨adNum x.1, adLn len (5 + x.1), x.2.1⟩) (id := 6 + kOf len) (m := 0) (since := c) (st := c) AddK.le rfl ((hg 43 (by decide) (by decide)).trans rfl) g6 ((g7 0 (by omega)).trans rfl) he (by rw [adEs_borns]; exact hT.borns) ?_)
  obtain ⟨t1, aw1, t2, aw2, e1, e2, ⟨k0, k7, k43⟩, m1, m2, m3⟩ := ad_round1 (es := adEs len T) (c := c) (it := .iter (some 0) c (seen ++ [x.2.1]) c) hl hi hx rfl (hTk x hx) (adVis_or i seen T)
  rw [adVis_next (c := c) hT.borns hx] at m3
  have hlen : (adMem len i T (adEs len T) c [adCur len i (adVis i seen T), .iter (some 0) c (seen ++ [x.2.1]) c]).length = 7 + kOf len := by
   rw [adMem_len]; simp; omega
  refine GoodI.canon (tm := adRowT len x.1) (os := adMem len i T (adEs len T) c [adCur len i (adVis i seen T), .iter (some 0) c (seen ++ [x.2.1]) c]) (fun s v hsv => ?_) (gnx.trans hlen.symm) (fun q y hq => ?_) ?_
  ·simp only [adRowT, List.mem_cons, List.not_mem_nil, or_false, pmi] at hsv
   rcases hsv with ⟨rfl, rfl⟩ | ⟨rfl, rfl⟩ | ⟨rfl, rfl⟩ | ⟨rfl, rfl⟩
   ·exact (tgo (by decide)).trans ((hg 0 (by decide) (by decide)).trans rfl)
   ·exact (tgo (by decide)).trans ((hg 7 (by decide) (by decide)).trans rfl)
   ·exact (tgo (by decide)).trans ((hg 43 (by decide) (by decide)).trans rfl)
   ·exact Tr.get_set_same ..
  ·by_cases h6 : q = 6 + kOf len
   ·subst h6
    rw [g6, ← hq, adMem_tail (len := len) (q := 6 + kOf len) (u := 1) (by omega)]; rfl
   ·rw [g7 q h6, ← hq]
    by_cases h5 : q < 5 + kOf len
    ·exact (adMem_head h5).trans (adMem_head h5).symm
    ·have hlt := (lgs.1 hq).1
     rw [hlen] at hlt
     have hq5 : q = 5 + kOf len + 0 := by omega
     rw [adMem_tail hq5, adMem_tail hq5]; rfl
  ·rw [hlen]
   refine GoodI.all AddK.le cMul_ok (show xitems cMul add3E _ _ = _ from e1) fun E ca w hE hA hR c' hc' => ?_
   refine (GoodK.run AddK.le cMul_ok drMul e2 fun E e ca w hE hR hA hX => ?_ : GoodK Tryz.prog (cDraw Tryz.prog) (AddK E0 w0 live rest len T []) (.draw add3D add3R) _ ⟨t1, 123, []⟩ aw1) c' hc' E ca w hE hA hR
   cases e <;> simp only [XRel] at hX
   show ∀ c, cCode Tryz.prog (cDraw Tryz.prog) c = some add3B → LoopAt Tryz.prog c _ ca w
   intro c'' hc''
   obtain ⟨E', h1, h2, h3⟩ := ad_turn (tm := adT3 len) (tl := [adCur len i (adVis i (seen ++ [x.2.1]) T), .iter (some 0) c (seen ++ [x.2.1]) c]) (ss := [8 + kOf len, 6 + kOf len]) hlr hTk m1 rfl
    (fun u m hu => by
     match u, hu with
     | 0, hu => injection hu with hu; subst hu; exact ⟨_, rfl, m3⟩
     | 1, hu => injection hu with hu; subst hu; exact ⟨_, rfl, m2⟩
     | u + 2, hu => cases hu) (by simp <;> omega) (by simp) (fun m hm => by
      simp only [List.mem_cons, List.not_mem_nil, or_false] at hm
      rcases hm with rfl | rfl
      ·exact .cur
      ·exact .iter) (fun s v hsv => by
     simp only [adT3, List.mem_cons, List.not_mem_nil, or_false, pmi] at hsv
     rcases hsv with ⟨rfl, rfl⟩ | ⟨rfl, rfl⟩ | ⟨rfl, rfl⟩
     ·exact ⟨_, k0, .bas⟩
     ·exact ⟨_, k7, .ln (u := 0) rfl rfl (by omega)⟩
     ·exact ⟨_, k43, .it (u := 1) rfl rfl (by omega)⟩) E w hE hR
   have h2 : Rel E' (ofObjs (adMem len i T (adEs len T) c [adCur len i (adVis i (seen ++ [x.2.1]) T), .iter (some 0) c (seen ++ [x.2.1]) c]) (7 + kOf len)) w := by
    rw [show 7 + kOf len = 5 + kOf len + [adCur len i (adVis i (seen ++ [x.2.1]) T), .iter (some 0) c (seen ++ [x.2.1]) c].length by simp; omega]; exact h2
   exact ih x hx hn c'' hc'' E' ca w h1 (act_turn h3 hA) h2
theorem filt_lt {x : Nat × Nat × Loc} {seen : List Nat} (hx : x ∈ T) (hn : x.2.1 ∉ seen) {d : Nat} (h : (T.filter fun y => !(seen.contains y.2.1)).length ≤ d + 1) : (T.filter fun y => !((seen ++ [x.2.1]).contains y.2.1)).length ≤ d := by
 have e : (T.filter fun y => !((seen ++ [x.2.1]).contains y.2.1)) = (T.filter fun y => !(seen.contains y.2.1)).filter fun y => !(y.2.1 == x.2.1) := by
  rw [List.filter_filter]
  congr 1; funext y
  by_cases h1 : y.2.1 = x.2.1 <;> simp [List.contains_eq_mem, h1]
 rw [e]
 have : ((T.filter fun y => !(seen.contains y.2.1)).filter fun y => !(y.2.1 == x.2.1)).length < (T.filter fun y => !(seen.contains y.2.1)).length := by
  rw [List.length_filter_lt_length_iff_exists]
  exact ⟨x, List.mem_filter.2 ⟨hx, by simp [hn]⟩, by simp⟩
 omega
theorem ad_loop1 (hlr : (live ++ rest).length = 5) (hl : len ∈ lens) (hi : i < kOf len) (hT : LinT E0 len (kOf len) n β T c) {Q0 : Post'}
  (hQ : ∀ E ca w, AddK E0 w0 live rest len T [] E → ActRel E ⟨tmOf (adT1 len) .leaf, 123, []⟩ ca → Rel E (ofObjs (adMem len i T (adEs len T) c [adCur len i (bif β i then 1 else 0)]) (6 + kOf len)) w → Q0 .normal ca w) :
  ∀ (d : Nat) (seen : List Nat), (T.filter fun x => !(seen.contains x.2.1)).length ≤ d →
  GoodLK Tryz.prog (cDraw Tryz.prog) (AddK E0 w0 live rest len T []) add3B (Exit.inBlock 0 Q0) ⟨tmOf (adT3 len) .leaf, 123, []⟩ (ofObjs (adMem len i T (adEs len T) c [adCur len i (adVis i seen T), .iter (some 0) c seen c]) (7 + kOf len)) := by
 intro d
 induction d with
 | zero =>
  intro seen hd
  refine ad_step1 hlr hl hi hT hQ seen fun x hx hn => ?_
  have : x ∈ T.filter fun y => !(seen.contains y.2.1) := List.mem_filter.2 ⟨hx, by simp [hn]⟩
  rw [List.eq_nil_of_length_eq_zero (Nat.le_zero.1 hd)] at this
  cases this
 | succ d ih =>
  intro seen hd
  exact ad_step1 hlr hl hi hT hQ seen fun x hx hn => ih _ (filt_lt hx hn hd)
end
end
end Go.Proofs.YtbilacojhmohmaaGreat.Ae
end
