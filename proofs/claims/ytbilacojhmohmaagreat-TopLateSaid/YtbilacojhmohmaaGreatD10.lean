/- A code run in pieces: what is asked of a number that is not known, a call told by hand. No condition. -/
import Derived.Test.YtbilacojhmohmaaGreatD08
set_option linter.unusedVariables false
set_option linter.unusedSimpArgs false
noncomputable section
namespace Go.Proofs.YtbilacojhmohmaaGreat.Ae
open Go
theorem inv_cond {P : Program} {dr : Array Oper → Option (List CR × List CR)} {c : Code} {o : Opd} {x y : CC} (h : cCode P dr c = some (.cond o x y)) : ∃ oc c1 c2, c = .cond oc c1 c2 ∧ cOpd oc = some o ∧ cCode P dr c1 = some x ∧ cCode P dr c2 = some y := by
 cases c <;> simp only [cCode] at h <;> (try (cases h; done))
 ·split at h <;> split at h <;> simp at h
 ·split at h <;> (try (cases h; done))
  split at h <;> (try (cases h; done))
 ·split at h <;> (try (cases h; done))
  split at h <;> (try (cases h; done))
  split at h <;> (try (cases h; done))
  simp at h; obtain ⟨rfl, rfl, rfl⟩ := h
  exact ⟨_, _, _, rfl, by assumption, by assumption, by assumption⟩
 ·split at h <;> (try (cases h; done))
 ·split at h <;> (try (cases h; done))
theorem inv_region {P : Program} {dr : Array Oper → Option (List CR × List CR)} {c : Code} {l : List CR} (h : cCode P dr c = some (.region l)) : ∃ id ops, c = .region id ops false ∧ cItems P ops (List.range ops.size) = some l := by
 cases c <;> simp only [cCode] at h <;> (try (cases h; done))
 ·split at h <;> split at h <;> simp at h
  subst h
  exact ⟨_, _, rfl, by assumption⟩
 ·split at h <;> (try (cases h; done))
  split at h <;> (try (cases h; done))
 ·split at h <;> (try (cases h; done))
  split at h <;> (try (cases h; done))
  split at h <;> (try (cases h; done))
 ·split at h <;> (try (cases h; done))
 ·split at h <;> (try (cases h; done))
theorem upon_mono2 {P : Program} {o : Oper} {a : Act} {N N' : Act → World → Prop} {Q Q' : Exit → Act → World → Prop} {r : Result Next} (hN : ∀ a w, N a w → N' a w) (hQ : ∀ e a w, e ≠ .normal → Q e a w → Q' e a w) (h : o.upon P a N Q r) : o.upon P a N' Q' r := by
 unfold Oper.upon at h ⊢
 split at h
 ·exact hN _ _ h
 ·exact hN _ _ h
 ·exact hN _ _ h
 ·refine Calls.mono h fun e w he => ?_
  cases e with
  | returned v => exact hN _ _ he
  | panicked ch => exact hQ _ _ _ (by simp) he
  | outgrown => obtain ⟨a, w, he⟩ := he; exact ⟨a, w, hQ _ _ _ (by simp) he⟩
 ·exact Rows.mono h fun v w he => hN _ _ he
 ·exact hQ _ _ _ (by simp) h
 ·exact h.elim
theorem wpOps_append {P : Program} {ops : Array Oper} {Q : Exit → Act → World → Prop} {l2 : List Nat} : ∀ {l1 : List Nat} {ca : Act} {w : World}, wpOps P ops (fun e a w => match e with | .normal => wpOps P ops Q l2 a w | e => Q e a w) l1 ca w → wpOps P ops Q (l1 ++ l2) ca w
 | [], ca, w, h => h
 | i :: l1, ca, w, h => by
  show wpOps P ops Q (i :: (l1 ++ l2)) ca w
  simp only [wpOps] at h ⊢
  cases ho : ops[i]? with
  | none => simp only [ho] at h ⊢; exact wpOps_append h
  | some o =>
   simp only [ho] at h ⊢
   split at h
   ·rename_i hw
    rw [if_pos hw]
    rcases h with h | ⟨h1, h2⟩
    ·refine .inl (upon_mono2 (fun a w h => wpOps_append h) (fun e a w hne h => ?_) h)
     cases e <;> first | exact (hne rfl).elim | exact h
    ·refine .inr ⟨h1, ?_⟩
     obtain ⟨a, w, h2⟩ := h2
     exact ⟨a, w, h2⟩
   ·rename_i hw
    rw [if_neg hw]
    exact wpOps_append h
theorem items_split {P : Program} {ops : Array Oper} : ∀ {l : List Nat} {m1 m2 : List CR}, cItems P ops l = some (m1 ++ m2) → ∃ l1 l2, l = l1 ++ l2 ∧ cItems P ops l1 = some m1 ∧ cItems P ops l2 = some m2
 | l, [], m2, h => ⟨[], l, rfl, rfl, h⟩
 | [], c :: m1, m2, h => by simp [cItems] at h
 | i :: l, c :: m1, m2, h => by
  simp only [cItems] at h
  split at h <;> (try (cases h; done))
  rename_i o ho
  split at h <;> (try (cases h; done))
  rename_i c' hc
  split at h <;> (try (cases h; done))
  rename_i m hm
  simp only [List.cons_append, sI, List.cons.injEq] at h
  obtain ⟨rfl, rfl⟩ := h
  obtain ⟨l1, l2, rfl, h1, h2⟩ := items_split hm
  exact ⟨i :: l1, l2, rfl, by simp only [cItems, ho, hc, h1], h2⟩
section
variable {P : Program} {dr : Array Oper → Option (List CR × List CR)} {K : Env → Prop} {call : Call} {cc x y b : CC} {Q : Exit → Act → World → Prop} {a a1 : AAct} {aw aw1 : AW}
theorem GoodK.cond {o : Opd} {u : Bool} (ho : o.ev a.tmps = some (.bool u)) (ht : u = true → GoodK P dr K x Q a aw) (hf : u = false → GoodK P dr K y Q a aw) : GoodK P dr K (.cond o x y) Q a aw := by
 intro c hc E ca w hE hA hR
 obtain ⟨oc, c1, c2, rfl, h0, h1, h2⟩ := inv_cond hc
 have hr := opd_sound hA h0 ho
 cases hev : ca.eval oc <;> rw [hev] at hr <;> cases hr
 refine wp_cond hev ?_
 cases u with
 | true => exact ht rfl c1 h1 E ca w hE hA hR
 | false => exact hf rfl c2 h2 E ca w hE hA hR
def GoodI (P : Program) (K : Env → Prop) (l : List CR) (Q : Post') (a : AAct) (aw : AW) : Prop :=
 ∀ ops li, cItems P ops li = some l → ∀ E ca w, K E → ActRel E a ca → Rel E aw w → wpOps P ops Q li ca w
theorem GoodK.region {l : List CR} (h : GoodI P K l Q a aw) : GoodK P dr K (.region l) Q a aw := by
 intro c hc E ca w hE hA hR
 obtain ⟨id, ops, rfl, hi⟩ := inv_region hc
 exact wp_region (h ops _ hi E ca w hE hA hR)
theorem GoodI.nil (h : ∀ E ca w, K E → ActRel E a ca → Rel E aw w → Q .normal ca w) : GoodI P K [] Q a aw := by
 intro ops li hi E ca w hE hA hR
 cases li with
 | nil => exact h E ca w hE hA hR
 | cons i li =>
  simp only [cItems] at hi
  split at hi <;> (try (cases hi; done))
  split at hi <;> (try (cases hi; done))
  split at hi <;> (try (cases hi; done))
theorem GoodI.pre (hK : ∀ E E', K E → E.Le E' → K E') (hcall : CallOK P call) {l1 l2 : List CR} (h : xitems call l1 a aw = some ⟨.norm, a1, aw1⟩) (h2 : GoodI P K l2 Q a1 aw1) : GoodI P K (l1 ++ l2) Q a aw := by
 intro ops li hi E ca w hE hA hR
 obtain ⟨m1, m2, rfl, hi1, hi2⟩ := items_split hi
 refine wpOps_append (items_sound hcall m1 hi1 h hA hR fun e a2 w2 ⟨E1, hle1, hR1, hA1, hX1⟩ => ?_)
 cases e <;> simp only [XRel] at hX1
 exact h2 ops m2 hi2 E1 a2 w2 (hK E E1 hE hle1) hA1 hR1
theorem GoodI.all (hK : ∀ E E', K E → E.Le E' → K E') (hcall : CallOK P call) {l : List CR} (h : xitems call l a aw = some ⟨.norm, a1, aw1⟩) (hk : ∀ E ca w, K E → ActRel E a1 ca → Rel E aw1 w → Q .normal ca w) : GoodI P K l Q a aw := by
 have := GoodI.pre (l2 := []) hK hcall h (GoodI.nil hk)
 rw [List.append_nil] at this
 exact this
theorem GoodI.calls (hK : ∀ E E', K E → E.Le E' → K E') {α : Type} {post : List CR} {d f n : Nat} {ags : List Opd} {t : Tr AV} {vs : List AV} {v : α → AV} {aw2 : α → AW} {p : α → Prop} (hv : evs t ags = some vs) (hf : callable P f = true)
  (hcall : ∀ E w cargs, K E → LRel E vs cargs → Rel E aw w → Calls P f cargs.toArray w fun e w' => ∃ z, p z ∧ ∃ E', E.Le E' ∧ ResRel E' (.ret (v z) (aw2 z)) e w')
  (hd : Nat.blt d n = true) (h2 : ∀ z, p z → GoodI P K post Q ⟨t.set d d (v z), n, []⟩ (aw2 z)) : GoodI P K (.call (some d) none f ags :: post) Q ⟨t, n, []⟩ aw := by
 intro ops li hi E ca w hE hA hR
 cases li with
 | nil => simp [cItems] at hi
 | cons i l2 =>
  simp only [cItems] at hi
  split at hi <;> (try (cases hi; done))
  rename_i o ho
  split at hi <;> (try (cases hi; done))
  rename_i c' hci
  split at hi <;> (try (cases hi; done))
  rename_i m hm
  simp only [sI, List.cons.injEq] at hi
  obtain ⟨rfl, rfl⟩ := hi
  simp only [wpOps, ho]
  unfold cItem at hci
  split at hci
  ·rename_i f' args ts hop
   split at hci <;> (try (cases hci; done))
   rename_i g hg
   split at hci <;> (try (cases hci; done))
   rename_i as' has
   split at hci
   ·rename_i f''
    simp only [sI, CR.call.injEq] at hci
    obtain ⟨e1, e2, rfl, rfl⟩ := hci
    subst e2
    have hg1 : xguard (⟨t, n, []⟩ : AAct) none = some true := rfl
    rw [guard_sound hg hg1 hA, if_pos rfl]
    refine .inl ?_
    unfold Oper.wp
    rw [exec_call hop rfl (rfl : ca.eval (.func f'') = .func (.func f'') #[] #[]) hf]
    rw [Oper.upon_enter]
    have harr : (#[] ++ args.map ca.eval ++ #[] : Array Value) = (args.toList.map ca.eval).toArray := by apply Array.ext'; simp
    have hcl := hcall E w _ hE (opds_sound hA has hv) hR
    rw [harr]
    refine hcl.mono fun e w2 ⟨z, hz, E2, hle2, hres⟩ => ?_
    cases e with
    | panicked ch => exact hres.elim
    | outgrown => exact hres.elim
    | returned cv =>
     obtain ⟨hR2, hv2⟩ := hres
     have hput : (⟨t, n, []⟩ : AAct).put (some d) (v z) = some ⟨t.set d d (v z), n, []⟩ := by simp only [AAct.put, hd, cond_true]
     have hA2 := put_sound hput (hA.mono hle2) hv2
     show wpOps P ops _ l2 (ca.put o.dst cv) w2
     rw [e1]
     exact h2 z hz ops l2 hm E2 _ w2 (hK E E2 hE hle2) hA2 hR2
   ·split at hci <;> simp at hci
  ·split at hci <;> (try (cases hci; done))
   split at hci <;> (try (cases hci; done))
   split at hci <;> simp at hci
  ·split at hci <;> (try (cases hci; done))
   split at hci <;> simp at hci
  ·split at hci <;> (try (cases hci; done))
   split at hci <;> simp at hci
theorem GoodI.op {post : List CR} {d n : Nat} {c : COp} {t : Tr AV} {v : AV} (hK : ∀ E E', K E → E.Le E' → K E') (hcall : CallOK P call) (h : xop t aw c = some (v, aw1)) (hd : Nat.blt d n = true) (h2 : GoodI P K post Q ⟨t.set d d v, n, []⟩ aw1) : GoodI P K (.op (some d) none c :: post) Q ⟨t, n, []⟩ aw :=
 GoodI.pre (l1 := [.op (some d) none c]) hK hcall (by simp only [xitems, xguard, h, AAct.put, hd, cond_true]) h2
end
theorem Rel.retell {E : Env} {aw : AW} {w : World} {q : Nat} {o o' : AO} (h : Rel E aw w) (hg : aw.get q = some o) (hl : o.live = true) (ho : ∀ L, E.loc[q]? = some L → ORel E L w o → ORel E L w o') : Rel E (aw.set q o') w := by
 obtain ⟨L, hL, hr⟩ := h.obj q o hg
 exact h.update ⟨rfl, rfl⟩ hg hl hL (fun _ _ => rfl) (ho L hL hr)
def CT.fit : CT → AV → Prop
 | .av a, x => x = a
 | .anyI k, x => ∃ n : Int, x = .int k n
 | .anyB, x => ∃ b : Bool, x = .bool b
 | .oneOf l, x => x ∈ l
def Fits (ts : List CT) (l : List AV) : Prop := l.length = ts.length ∧ ∀ (i : Nat) (t : CT), ts[i]? = some t → ∃ a, l[i]? = some a ∧ t.fit a
theorem ty_open {E : Env} {L : Loc} {w : World} {ts : List CT} {e : TypeId} (h : ORel E L w (.gen (.ty ts e))) : ∃ l, Fits ts l ∧ ORel E L w (.cells l e false) := by
 obtain ⟨c, fz, h1, h2, h3, h4, h5⟩ := h
 have hex : ∀ i : Fin ts.length, ∃ a : AV, (ts[i]).fit a ∧ ∃ v, c[i.1]? = some v ∧ VRel E a v := fun i => by
  obtain ⟨v, hv, hr⟩ := h5 i.1 ts[i] (lge i.2)
  generalize ts[i] = t at hr
  cases t with
  | av a => exact ⟨a, rfl, v, hv, hr⟩
  | anyI k => obtain ⟨n, rfl⟩ := hr; exact ⟨.int k n, ⟨n, rfl⟩, _, hv, .int _ _⟩
  | anyB => obtain ⟨b, rfl⟩ := hr; exact ⟨.bool b, ⟨b, rfl⟩, _, hv, .bool _⟩
  | oneOf l => obtain ⟨a, ha, h⟩ := hr; exact ⟨a, ha, v, hv, h⟩
 obtain ⟨f, hf⟩ := Classical.axiomOfChoice hex
 have hg : ∀ i (hi : i < ts.length), (List.ofFn f)[i]? = some (f ⟨i, hi⟩) := fun i hi => by simp [List.getElem?_ofFn, hi]
 refine ⟨List.ofFn f, ⟨by simp, fun i t ht => ?_⟩, c, fz, h1, h2, by rw [h3]; simp [h4], fun _ => ⟨h3, by simp [h4]⟩, fun i a ha => ?_⟩
 ·have hi := (lgs.1 ht).1
  have e : ts[i] = t := (lgs.1 ht).2
  exact ⟨_, hg i hi, e ▸ (hf ⟨i, hi⟩).1⟩
 ·have hi : i < ts.length := by
   have := (lgs.1 ha).1
   simpa using this
  rw [hg i hi] at ha; injection ha with ha; subst ha
  rw [h3, Nat.zero_add]
  exact (hf ⟨i, hi⟩).2
theorem ty_shut {E : Env} {L : Loc} {w : World} {ts : List CT} {l : List AV} {e : TypeId} (hf : Fits ts l) (h : ORel E L w (.cells l e false)) : ORel E L w (.gen (.ty ts e)) := by
 obtain ⟨c, fz, h1, h2, h3, h4, h5⟩ := h
 obtain ⟨h6, h7⟩ := h4 rfl
 refine ⟨c, fz, h1, h2, h6, by rw [← hf.1, h7], fun i t ht => ?_⟩
 obtain ⟨a, ha, hfit⟩ := hf.2 i t ht
 obtain ⟨v, hv, hr⟩ := h5 i a ha
 rw [h6, Nat.zero_add] at hv
 refine ⟨v, hv, ?_⟩
 cases t with
 | av a' => cases hfit; exact hr
 | anyI k => obtain ⟨n, rfl⟩ := hfit; cases hr; exact ⟨n, rfl⟩
 | anyB => obtain ⟨b, rfl⟩ := hfit; cases hr; exact ⟨b, rfl⟩
 | oneOf l => exact ⟨a, hfit, hr⟩
def TyM (k : IntKind) (es : List AEnt) : Prop := ∀ e ∈ es, (∃ n : Int, e.key = .int k n) ∧ ∃ b : Bool, e.val = .bool b
theorem tym_open {E : Env} {L : Loc} {w : World} {k : IntKind} (h : ORel E L w (.gen (.tym k))) : ∃ es clock, TyM k es ∧ ORel E L w (.map es clock) := by
 obtain ⟨h0, ces, clock, h1, h2⟩ := h
 have key : ∀ l : List MapEntry, (∀ f ∈ l, (∃ n : Int, f.key = .int k n) ∧ ∃ b : Bool, f.val = .bool b) → ∃ es, TyM k es ∧ ERel E es l := by
  intro l
  induction l with
  | nil => exact fun _ => ⟨[], fun e he => (by cases he), .nil⟩
  | cons f l ih =>
   intro hl
   obtain ⟨es, h3, h4⟩ := ih fun g hg => hl g (List.mem_cons_of_mem _ hg)
   obtain ⟨⟨n, hn⟩, b, hb⟩ := hl f (by simp)
   refine ⟨⟨.int k n, .bool b, f.born⟩ :: es, fun e he => ?_, .cons (by rw [hn]; exact .int _ _) (by rw [hb]; exact .bool _) rfl h4⟩
   rcases List.mem_cons.1 he with rfl | he
   ·exact ⟨⟨n, rfl⟩, b, rfl⟩
   ·exact h3 e he
 obtain ⟨es, h3, h4⟩ := key ces.toList h2
 exact ⟨es, clock, h3, h0, ces, h1, h4⟩
theorem tym_shut {E : Env} {L : Loc} {w : World} {k : IntKind} {es : List AEnt} {clock : Nat} (ht : TyM k es) (h : ORel E L w (.map es clock)) : ORel E L w (.gen (.tym k)) := by
 obtain ⟨h0, ces, h1, h2⟩ := h
 have key : ∀ {es : List AEnt} {l : List MapEntry}, ERel E es l → TyM k es → ∀ f ∈ l, (∃ n : Int, f.key = .int k n) ∧ ∃ b : Bool, f.val = .bool b := by
  intro es l h
  induction h with
  | nil => intro _ f hf; cases hf
  | cons hk hv hb t ih =>
   rename_i e f l m
   intro ht g hg
   rcases List.mem_cons.1 hg with rfl | hg
   ·obtain ⟨⟨n, hn⟩, b, hb⟩ := ht e (by simp)
    rw [hn] at hk; rw [hb] at hv
    refine ⟨⟨n, ?_⟩, b, ?_⟩
    ·generalize g.key = q at hk; cases hk; rfl
    ·generalize g.val = q at hv; cases hv; rfl
   ·exact ih (fun e he => ht e (List.mem_cons_of_mem _ he)) g hg
 exact ⟨h0, ces, clock, h1, key h2 ht⟩
section
variable {P : Program} {dr : Array Oper → Option (List CR × List CR)} {K : Env → Prop} {cc : CC} {Q : Exit → Act → World → Prop} {a : AAct} {aw : AW}
theorem GoodK.rel {aw' : AW} (h : ∀ E w, K E → Rel E aw w → Rel E aw' w) (hg : GoodK P dr K cc Q a aw') : GoodK P dr K cc Q a aw :=
 fun c hc E ca w hE hA hR => hg c hc E ca w hE hA (h E w hE hR)
end
def subE (E : Env) (w : World) (locs : List Loc) : Env := ⟨locs, E.sym, fun b => if ∃ L ∈ locs, L.block = b then none else (match E.tk b with | some _ => none | none => w.heap[b]?), E.tk⟩
structure SubM (E : Env) (aw : AW) (ids : List Nat) (locs : List Loc) : Prop where
 len : ids.length = locs.length
 nd : ids.Nodup
 here : ∀ (i id : Nat), ids[i]? = some id → ∃ o L, aw.get id = some o ∧ o.live = true ∧ E.loc[id]? = some L ∧ locs[i]? = some L
section
variable {E E1 : Env} {aw aw1 : AW} {w w' : World} {ids : List Nat} {locs : List Loc}
theorem SubM.of_loc (hS : SubM E aw ids locs) {i : Nat} {L : Loc} (h : locs[i]? = some L) : ∃ id o, ids[i]? = some id ∧ aw.get id = some o ∧ o.live = true ∧ E.loc[id]? = some L := by
 have hi : i < ids.length := by rw [hS.len]; exact (lgs.1 h).1
 obtain ⟨o, L', h1, h2, h3, h4⟩ := hS.here i ids[i] (lge hi)
 rw [h] at h4; injection h4 with h4; subst h4
 exact ⟨ids[i], o, lge hi, h1, h2, h3⟩
theorem subE_fr {b : Nat} (h1 : ∀ L ∈ locs, L.block ≠ b) (h2 : E.tk b = none) : (subE E w locs).fr b = w.heap[b]? := by
 simp only [subE]
 rw [if_neg (fun ⟨L, hL, e⟩ => h1 L hL e), h2]
theorem sub_rel (hR : Rel E aw w) (hS : SubM E aw ids locs) {os : List AO} (hl : os.length = locs.length) (ho : ∀ (i : Nat) (o : AO), os[i]? = some o → ∃ L, locs[i]? = some L ∧ ORel (subE E w locs) L w o) : Rel (subE E w locs) (ofObjs os os.length) w := by
 refine ⟨hl, hR.ns, fun j x hj => ?_, fun i j oi oj Li Lj hi hj li lj ei ej e => ?_, fun b ob hb => ?_, fun i oi Li hi li ei => ?_, ⟨fun b x hb => ⟨(hR.tok.1 b x hb).1, ?_⟩, fun i oi Li hi li ei => ?_⟩⟩
 ·rw [ofObjs_get] at hj; exact ho j x hj
 ·obtain ⟨id, o, h1, h2, h3, h4⟩ := hS.of_loc (i := i) ei
  obtain ⟨id', o', h1', h2', h3', h4'⟩ := hS.of_loc (i := j) ej
  have := hR.inj id id' o o' Li Lj h2 h2' h3 h3' h4 h4' e
  subst this
  have hi := (lgs.1 h1).1
  have hj := (lgs.1 h1').1
  exact (List.getElem_inj (h₀ := hi) (h₁ := hj) hS.nd).1 ((lgs.1 h1).2.trans (lgs.1 h1').2.symm)
 ·simp only [subE] at hb
  split at hb
  ·cases hb
  ·split at hb
   ·cases hb
   ·exact hb
 ·simp only [subE]
  rw [if_pos ⟨Li, List.mem_of_getElem? ei, rfl⟩]
 ·have hb : E.tk b = some x := hb
  simp only [subE, hb]
  split <;> rfl
 ·obtain ⟨id, o, h1, h2, h3, h4⟩ := hS.of_loc (i := i) ei
  exact hR.tok.2 id o Li h2 h3 h4
theorem sub_keep (hle : (subE E w locs).Le E1) (h : Rel E1 aw1 w') {b : Nat} (h1 : ∀ L ∈ locs, L.block ≠ b) (h2 : E.tk b = none) (hlt : b < w.heap.size) : w'.heap[b]? = w.heap[b]? := by
 have : (subE E w locs).fr b = some w.heap[b] := by rw [subE_fr h1 h2, age hlt]
 rw [h.frame b _ (by rw [hle.2.2.1]; exact this), age hlt]
theorem sub_tk (hle : (subE E w locs).Le E1) (h : Rel E1 aw1 w') {b : Nat} (h1 : ∀ L ∈ locs, L.block ≠ b) (h2 : E.tk b = none) (hlt : b < w.heap.size) : E1.tk b = none := by
 have : (subE E w locs).fr b = some w.heap[b] := by rw [subE_fr h1 h2, age hlt]
 cases hq : E1.tk b with
 | none => rfl
 | some x =>
  have := (h.tok.1 b x hq).2
  rw [hle.2.2.1] at this
  simp_all
theorem SubM.apart (hR : Rel E aw w) (hS : SubM E aw ids locs) {j : Nat} {x : AO} {L : Loc} (hj : aw.get j = some x) (hx : x.live = true) (hL : E.loc[j]? = some L) (hn : j ∉ ids) : ∀ L' ∈ locs, L'.block ≠ L.block := fun L' hL' e => by
 obtain ⟨i, hi, rfl⟩ := List.mem_iff_getElem.1 hL'
 obtain ⟨id, o, h1, h2, h3, h4⟩ := hS.of_loc (i := i) (lge hi)
 have := hR.inj id j o x _ L h2 hj h3 hx h4 hL e
 subst this
 exact hn (List.mem_of_getElem? h1)
theorem sub_back (hR : Rel E aw w) (hS : SubM E aw ids locs) (hle : (subE E w locs).Le E1) (h : Rel E1 aw1 w') (hlive : ∀ i, i < locs.length → ∃ o, aw1.get i = some o ∧ o.live = true) :
  E.Le { E with tk := E1.tk } ∧ ∀ aw' : AW, aw'.nx = aw.nx → (∀ (j : Nat) (x : AO), aw'.get j = some x → (∃ (i : Nat) (L : Loc), ids[i]? = some j ∧ locs[i]? = some L ∧ ORel { E with tk := E1.tk } L w' x) ∨ (j ∉ ids ∧ aw.get j = some x)) → Rel { E with tk := E1.tk } aw' w' := by
 have hleE : E.Le { E with tk := E1.tk } := ⟨⟨[], by simp⟩, rfl, rfl, fun b o hb => hle.2.2.2 b o hb⟩
 refine ⟨hleE, fun aw' hnx hget => ?_⟩
 have old : ∀ {j x}, aw'.get j = some x → x.live = true → ∃ o, aw.get j = some o ∧ o.live = true := fun {j x} hj hx => by
  rcases hget j x hj with ⟨i, L, h1, h2, _⟩ | ⟨_, h2⟩
  ·obtain ⟨o, _, g1, g2, _⟩ := hS.here i j h1
   exact ⟨o, g1, g2⟩
  ·exact ⟨x, h2, hx⟩
 have hsym : E1.sym = E.sym := hle.2.1
 refine ⟨hnx.trans hR.nx, hsym ▸ h.ns, fun j x hj => ?_, fun i j oi oj Li Lj hi hj li lj ei ej e => ?_, fun b ob hb => ?_, fun i oi Li hi li ei => ?_, ⟨fun b x hb => ⟨(h.tok.1 b x hb).1, ?_⟩, fun i oi Li hi li ei => ?_⟩⟩
 ·rcases hget j x hj with ⟨i, L, h1, h2, h3⟩ | ⟨hn, h2⟩
  ·obtain ⟨o, L', _, _, g3, g4⟩ := hS.here i j h1
   rw [h2] at g4; injection g4 with g4; subst g4
   exact ⟨L, g3, h3⟩
  ·obtain ⟨L, hL, hr⟩ := hR.obj j x h2
   refine ⟨L, hL, ?_⟩
   cases hx : x.live with
   | false => cases x <;> first | trivial | exact ORel.mono hleE hr | simp [AO.live] at hx
   | true => exact ORel.mono hleE (hr.heap (sub_keep hle h (hS.apart hR h2 hx hL hn) (hR.tok.2 j x L h2 hx hL) (hr.lt hx)))
 ·obtain ⟨o, g1, g2⟩ := old hi li
  obtain ⟨o', g1', g2'⟩ := old hj lj
  exact hR.inj i j o o' Li Lj g1 g1' g2 g2' ei ej e
 ·have hb' := hR.frame b ob hb
  have htk : E.tk b = none := by
   cases ht : E.tk b with
   | none => rfl
   | some t => rw [(hR.tok.1 b t ht).2] at hb; cases hb
  rw [sub_keep hle h (fun L hL e => ?_) htk (agz.1 hb').1]
  ·exact hb'
  ·obtain ⟨i, hi, rfl⟩ := List.mem_iff_getElem.1 hL
   obtain ⟨id, o, h1, h2, h3, h4⟩ := hS.of_loc (i := i) (lge hi)
   have := hR.apart id o _ h2 h3 h4
   rw [e, hb] at this; cases this
 ·obtain ⟨o, g1, g2⟩ := old hi li
  exact hR.apart i o Li g1 g2 ei
 ·show E.fr b = none
  cases hf : E.fr b with
  | none => rfl
  | some ob =>
   have hb' := hR.frame b ob hf
   have htk : E.tk b = none := by
    cases ht : E.tk b with
    | none => rfl
    | some t => rw [(hR.tok.1 b t ht).2] at hf; cases hf
   have hb : E1.tk b = some x := hb
   rw [sub_tk hle h (fun L hL e => ?_) htk (agz.1 hb').1] at hb
   ·cases hb
   ·obtain ⟨i, hi, rfl⟩ := List.mem_iff_getElem.1 hL
    obtain ⟨id, o, h1, h2, h3, h4⟩ := hS.of_loc (i := i) (lge hi)
    have := hR.apart id o _ h2 h3 h4
    rw [e, hf] at this; cases this
 ·show E1.tk Li.block = none
  obtain ⟨o, g1, g2⟩ := old hi li
  by_cases hn : i ∈ ids
  ·obtain ⟨k, hk, rfl⟩ := List.mem_iff_getElem.1 hn
   obtain ⟨o', L', q1, q2, q3, q4⟩ := hS.here k _ (lge hk)
   have ei : E.loc[ids[k]]? = some Li := ei
   rw [q3] at ei; injection ei with ei; subst ei
   obtain ⟨o1, r1, r2⟩ := hlive k (by rw [← hS.len]; exact hk)
   exact h.tok.2 k o1 L' r1 r2 (hle.loc q4)
  ·obtain ⟨L, hL, hr⟩ := hR.obj i o g1
   have ei : E.loc[i]? = some Li := ei
   rw [hL] at ei; injection ei with ei; subst ei
   exact sub_tk hle h (hS.apart hR g1 g2 hL hn) (hR.tok.2 i o L g1 g2 hL) (hr.lt g2)
end
def bNn {β : Type} (n0 : Nat) (r : Option Out) (f : Tr AV → AW → Option β) : Option β :=
 Option.rec (motive := fun _ => Option β) none (fun o => Out.rec (motive := fun _ => Option β) (fun x act aw => AX.rec (motive := fun _ => Option β) (AAct.rec (motive := fun _ => Option β) (fun t n ds => List.rec (motive := fun _ => Option β) (bb2 (Nat.beq n n0) (f t aw) none) (fun _ _ _ => none) ds) act) (fun _ => none) none (fun _ => none) x) o) r
theorem bNn_ok {β : Type} {n0 : Nat} {r : Option Out} {f : Tr AV → AW → Option β} {b : β} (h : bNn n0 r f = some b) : ∃ t aw, r = some ⟨.norm, ⟨t, n0, []⟩, aw⟩ ∧ f t aw = some b := by
 cases r with
 | none => cases h
 | some o =>
  obtain ⟨x, ⟨t, n, ds⟩, aw⟩ := o
  cases x with
  | norm =>
   cases ds with
   | nil =>
    have h : bb2 (Nat.beq n n0) (f t aw) none = some b := h
    rw [bb2_eq] at h
    cases hn : Nat.beq n n0 <;> simp only [hn, cond_true, cond_false, reduceCtorEq] at h
    rw [nbt hn]
    exact ⟨t, aw, rfl, h⟩
   | cons d l => cases h
  | exit _ => cases h
  | ret => cases h
  | panic _ => cases h
def bRn {β : Type} (n0 : Nat) (r : Option Out) (f : Tr AV → AW → Option β) : Option β :=
 Option.rec (motive := fun _ => Option β) none (fun o => Out.rec (motive := fun _ => Option β) (fun x act aw => AX.rec (motive := fun _ => Option β) none (fun _ => none) (AAct.rec (motive := fun _ => Option β) (fun t n ds => List.rec (motive := fun _ => Option β) (bb2 (Nat.beq n n0) (f t aw) none) (fun _ _ _ => none) ds) act) (fun _ => none) x) o) r
theorem bRn_ok {β : Type} {n0 : Nat} {r : Option Out} {f : Tr AV → AW → Option β} {b : β} (h : bRn n0 r f = some b) : ∃ t aw, r = some ⟨.ret, ⟨t, n0, []⟩, aw⟩ ∧ f t aw = some b := by
 cases r with
 | none => cases h
 | some o =>
  obtain ⟨x, ⟨t, n, ds⟩, aw⟩ := o
  cases x with
  | norm => cases h
  | exit _ => cases h
  | ret =>
   cases ds with
   | nil =>
    have h : bb2 (Nat.beq n n0) (f t aw) none = some b := h
    rw [bb2_eq] at h
    cases hn : Nat.beq n n0 <;> simp only [hn, cond_true, cond_false, reduceCtorEq] at h
    rw [nbt hn]
    exact ⟨t, aw, rfl, h⟩
   | cons d l => cases h
  | panic _ => cases h
theorem Rel.less {E : Env} {aw aw' : AW} {w : World} (h : Rel E aw w) (hn : aw'.nx = aw.nx) (hg : ∀ (j : Nat) (x : AO), aw'.get j = some x → aw.get j = some x) : Rel E aw' w :=
 ⟨hn.trans h.nx, h.ns, fun j x hj => h.obj j x (hg j x hj), fun i j oi oj Li Lj hi hj => h.inj i j oi oj Li Lj (hg i oi hi) (hg j oj hj), h.frame, fun i oi Li hi => h.apart i oi Li (hg i oi hi), h.tok.1, fun i oi Li hi => h.tok.2 i oi Li (hg i oi hi)⟩
section
variable {P : Program} {dr : Array Oper → Option (List CR × List CR)} {K : Env → Prop} {cc : CC} {Q : Exit → Act → World → Prop} {aw : AW}
theorem act_less {E : Env} {t : Tr AV} {n : Nat} {tm : List (Nat × AV)} {ca : Act} (ht : ∀ s v, (s, v) ∈ tm → t.get s s = some v) (hA : ActRel E ⟨t, n, []⟩ ca) : ActRel E ⟨tmOf tm .leaf, n, []⟩ ca := by
 refine ⟨hA.size, fun s v hv => ?_, hA.defs⟩
 have hv : (tmOf tm .leaf).get s s = some v := hv
 rcases tmOf_get tm _ s v hv with hm | hm
 ·exact hA.tmps s v (ht s v hm)
 ·simp [Tr.get] at hm
theorem GoodK.canon {t : Tr AV} {n : Nat} {tm : List (Nat × AV)} {os : List AO} (ht : ∀ s v, (s, v) ∈ tm → t.get s s = some v) (hn : aw.nx = os.length) (ho : ∀ (j : Nat) (x : AO), os[j]? = some x → aw.get j = some x) (h : GoodK P dr K cc Q ⟨tmOf tm .leaf, n, []⟩ (ofObjs os os.length)) : GoodK P dr K cc Q ⟨t, n, []⟩ aw :=
 fun c hc E ca w hE hA hR => h c hc E ca w hE (act_less ht hA) (hR.less hn.symm fun j x hj => ho j x (by rw [ofObjs_get] at hj; exact hj))
theorem GoodI.canon {l : List CR} {t : Tr AV} {n : Nat} {tm : List (Nat × AV)} {os : List AO} (ht : ∀ s v, (s, v) ∈ tm → t.get s s = some v) (hn : aw.nx = os.length) (ho : ∀ (j : Nat) (x : AO), os[j]? = some x → aw.get j = some x) (h : GoodI P K l Q ⟨tmOf tm .leaf, n, []⟩ (ofObjs os os.length)) : GoodI P K l Q ⟨t, n, []⟩ aw :=
 fun ops li hc E ca w hE hA hR => h ops li hc E ca w hE (act_less ht hA) (hR.less hn.symm fun j x hj => ho j x (by rw [ofObjs_get] at hj; exact hj))
theorem GoodI.last {y : CC} {a : AAct} (h : GoodK P dr K y Q a aw) : GoodI P K [] (thenC P dr y Q) a aw := GoodI.nil fun E ca w hE hA hR c hc => h c hc E ca w hE hA hR
theorem GoodK.items {l : List CR} {y : CC} {a : AAct} (h : GoodI P K l (thenC P dr y Q) a aw) : GoodK P dr K (.seq (.region l) y) Q a aw := GoodK.into (GoodK.region h)
theorem GoodI.op0 {post : List CR} {call : Call} {aw1 : AW} {c : COp} {a : AAct} {v : AV} (hK : ∀ E E', K E → E.Le E' → K E') (hcall : CallOK P call) (h : xop a.tmps aw c = some (v, aw1)) (h2 : GoodI P K post Q a aw1) : GoodI P K (.op none none c :: post) Q a aw :=
 GoodI.pre (l1 := [.op none none c]) hK hcall (by simp only [xitems, xguard, h, AAct.put]) h2
theorem GoodK.skip {a : AAct} {call : Call} (hK : ∀ E E', K E → E.Le E' → K E') (hcall : CallOK P call) (hdr : DrawOK P call dr) (hk : ∀ E ca w, K E → Rel E aw w → ActRel E a ca → Q .normal ca w) : GoodK P dr K .skip Q a aw :=
 GoodK.run (n := 1) hK hcall hdr (o := ⟨.norm, a, aw⟩) rfl fun E e ca w hE hR hA hX => by
  cases e <;> simp only [XRel] at hX
  exact hk E ca w hE hR hA
end
end Go.Proofs.YtbilacojhmohmaaGreat.Ae
end
