/- The evaluator of code is sound: regions that draw no order, tests, loops. No condition. -/
import Derived.Test.YtbilacojhmohmaaGreatAeRun
namespace Go.Proofs.YtbilacojhmohmaaGreat.Ae
open Go
set_option linter.unusedVariables false
set_option linter.unusedSimpArgs false

section
variable {P : Program} {E : Env}

theorem exec_call {cl : Go.Call} {o : Oper} {ca : Act} {f : FuncId} {first cap : Array Value} {w : World} (ho : o.op = .call cl) {fo : Operand} (hcl : cl.callee = .value fo) (hf : ca.eval fo = .func (.func f) first cap) (hc : callable P f = true) :
    (execOp ca.eval o).run P w = .ok (.enter f (first ++ cl.args.map ca.eval ++ cap)) w := by
  simp only [execOp, ho, resolve, hcl, hf, Deferred.ofValue]
  have : invoke (.fn (.func f) cap) (first ++ cl.args.map ca.eval) = callFunc f (first ++ cl.args.map ca.eval ++ cap) := rfl
  simp only [Sem.run_bind, Sem.run_pure, Result.andThen_ok, this, run_callFunc hc]

/-- the operation itself, wanted -/
theorem wp_of_yes {o : Oper} {ca : Act} {w : World} {r : AV} {aw' : AW} {a a' : AAct} {out : Out} {next : Act → World → Prop} {Q : Exit → Act → World → Prop} (hy : Yes P o E ca w r aw') (hput : a.put o.dst r = some a') (hA : ActRel E a ca)
    (hk : ∀ E' ca' w', E.Le E' → ActRel E' a' ca' → Rel E' aw' w' → next ca' w') : o.wp P ca w next Q := by
  obtain ⟨E', w', hle, hR', h⟩ := hy
  unfold Oper.wp
  rcases h with ⟨v, hrun, hv⟩ | ⟨hrun, rfl⟩
  · rw [hrun]
    exact hk E' _ w' hle (put_sound hput (hA.mono hle) hv) hR'
  · rw [hrun]
    exact hk E' _ w' hle (put_sound hput (hA.mono hle) (.tuple .nil)) hR'

theorem items_sound {call : Call} (hcall : CallOK P call) {ops : Array Oper} : ∀ (l : List Nat) {items : List CR} {E : Env} {a : AAct} {ca : Act} {aw : AW} {w : World} {out : Out} {Q : Exit → Act → World → Prop}, cItems P ops l = some items → xitems call items a aw = some out →
    ActRel E a ca → Rel E aw w → (∀ e a w, Post E out e a w → Q e a w) → wpOps P ops Q l ca w
  | [], items, E, a, ca, aw, w, out, Q, hc, hx, hA, hR, hQ => by
    simp [cItems] at hc; subst hc
    simp [xitems] at hx; subst hx
    exact hQ _ _ _ ⟨E, .refl E, hR, hA, trivial⟩
  | i :: l, items, E, a, ca, aw, w, out, Q, hc, hx, hA, hR, hQ => by
    simp only [cItems] at hc
    split at hc <;> (try (cases hc; done))
    rename_i o ho
    split at hc <;> (try (cases hc; done))
    rename_i c hci
    split at hc <;> (try (cases hc; done))
    rename_i m hm
    simp at hc; subst hc
    have rest : ∀ E' a' aw' ca' w', E.Le E' → xitems call m a' aw' = some out → ActRel E' a' ca' → Rel E' aw' w' → wpOps P ops Q l ca' w' := fun E' a' aw' ca' w' hle h1 h2 h3 =>
      items_sound hcall l hm h1 h2 h3 fun e a w hp => hQ e a w (hp.mono hle)
    simp only [wpOps, ho]
    -- a guarded item
    have guarded : ∀ g, cGuard ops o.guard = some g → (∀ b, xguard a g = some b → (b = true → o.wp P ca w (wpOps P ops Q l) Q) ∧ (b = false → ∃ a', a.put o.dst (.tuple []) = some a' ∧ xitems call m a' aw = some out)) → (∃ b, xguard a g = some b) →
        (if Region.wanted o (yielded ops ca.tmps) = true then o.wp P ca w (wpOps P ops Q l) Q ∨ (o.asks P ca w ∧ LetsOut Q) else wpOps P ops Q l (ca.put o.dst undef) w) := by
      intro g hg hb hex
      obtain ⟨b, hgb⟩ := hex
      rw [guard_sound hg hgb hA]
      cases b with
      | true => rw [if_pos rfl]; exact .inl ((hb true hgb).1 rfl)
      | false =>
        rw [if_neg (by simp)]
        obtain ⟨a', h1, h2⟩ := (hb false hgb).2 rfl
        exact rest E a' aw _ w (.refl E) h2 (put_sound h1 hA (.tuple .nil)) hR
    unfold cItem at hci
    split at hci
    · -- a call
      rename_i f args ts hop
      split at hci <;> (try (cases hci; done))
      rename_i g hg
      split at hci <;> (try (cases hci; done))
      rename_i as has
      split at hci
      · rename_i f
        simp at hci; subst hci
        simp only [xitems] at hx
        refine guarded g hg (fun b hb => ⟨fun e => ?_, fun e => ?_⟩) ?_
        · subst e
          rw [hb] at hx
          simp only at hx
          split at hx <;> (try (cases hx; done))
          rename_i vs hvs
          refine call_sound hcall hx hA hR (opds_sound hA has hvs) (fun hf => ?_) rfl (fun E' a' aw' ca' w' => rest E' a' aw' ca' w') hQ
          rw [exec_call hop rfl (rfl : ca.eval (.func f) = .func (.func f) #[] #[]) hf]
          congr 2
          apply Array.ext'
          simp
        · subst e
          rw [hb] at hx
          simp only at hx
          split at hx <;> (try (cases hx; done))
          rename_i a' ha'
          exact ⟨a', ha', hx⟩
        · cases hgg : xguard a g with
          | none => rw [hgg] at hx; cases hx
          | some b => exact ⟨b, rfl⟩
      · split at hci <;> (try (cases hci; done))
        rename_i hnf fo hfo
        simp at hci; subst hci
        simp only [xitems] at hx
        refine guarded g hg (fun b hb => ⟨fun e => ?_, fun e => ?_⟩) ?_
        · subst e
          rw [hb] at hx
          simp only at hx
          split at hx <;> (try (cases hx; done))
          rename_i ff first cap hfv
          split at hx <;> (try (cases hx; done))
          rename_i vs hvs
          have hr := opd_sound hA hfo hfv
          cases hev : ca.eval f <;> rw [hev] at hr
          all_goals (try (cases hr; done))
          cases hr with
          | func _ h1 h2 =>
            rename_i fc cc
            refine call_sound hcall hx hA hR (LRel.append (LRel.append h1 (opds_sound hA has hvs)) h2) (fun hf => ?_) rfl (fun E' a' aw' ca' w' => rest E' a' aw' ca' w') hQ
            rw [exec_call hop rfl hev hf]
            congr 2
            apply Array.ext'
            simp
        · subst e
          rw [hb] at hx
          simp only at hx
          split at hx <;> (try (cases hx; done))
          rename_i a' ha'
          exact ⟨a', ha', hx⟩
        · cases hgg : xguard a g with
          | none => rw [hgg] at hx; cases hx
          | some b => exact ⟨b, rfl⟩
    · -- a deferred call
      rename_i f args ts hop
      split at hci <;> (try (cases hci; done))
      rename_i hg
      split at hci <;> (try (cases hci; done))
      rename_i as has
      split at hci <;> (try (cases hci; done))
      rename_i fo hfo
      simp at hci; subst hci
      simp only [xitems] at hx
      have hw : Region.wanted o (yielded ops ca.tmps) = true := by simp [Region.wanted, hg]
      rw [if_pos hw]
      refine .inl ?_
      split at hx <;> (try (cases hx; done))
      rename_i ff first cap hfv
      split at hx <;> (try (cases hx; done))
      rename_i vs hvs
      split at hx <;> (try (cases hx; done))
      rename_i a' ha'
      have hr := opd_sound hA hfo hfv
      cases hev : ca.eval f <;> rw [hev] at hr
      all_goals (try (cases hr; done))
      cases hr with
      | func _ h1 h2 =>
        rename_i fc cc
        unfold Oper.wp
        have hex : (execOp ca.eval o).run P w = .ok (.defer { target := .fn (.func ff) cc, args := fc ++ args.map ca.eval }) w := by
          simp only [execOp, hop, resolve, hev, Deferred.ofValue]
          rfl
        rw [hex, Oper.upon_defer]
        refine rest E a' aw _ w (.refl E) hx (put_sound ha' (x := undef) ⟨hA.size, hA.tmps, .cons rfl ?_ hA.defs⟩ (.tuple .nil)) hR
        have := LRel.append (LRel.append h1 (opds_sound hA has hvs)) h2
        simpa using this
    · -- a panic
      rename_i x hop
      split at hci <;> (try (cases hci; done))
      rename_i hg
      split at hci <;> (try (cases hci; done))
      rename_i ox hox
      simp at hci; subst hci
      simp only [xitems] at hx
      have hw : Region.wanted o (yielded ops ca.tmps) = true := by simp [Region.wanted, hg]
      rw [if_pos hw]
      refine .inl ?_
      split at hx <;> (try (cases hx; done))
      rename_i t v hv
      simp at hx; subst hx
      have hr := opd_sound hA hox hv
      cases hev : ca.eval x <;> rw [hev] at hr
      all_goals (try (cases hr; done))
      rename_i t' v'
      unfold Oper.wp
      have hex : (execOp ca.eval o).run P w = .halt (.panic (.iface t' v')) w := by
        simp [execOp, hop, hev, Instr.panic]
      rw [hex, Oper.upon_panic]
      exact hQ _ _ _ ⟨E, .refl E, hR, hA, _, rfl, hr⟩
    · -- anything else
      rename_i h1 h2 h3
      split at hci <;> (try (cases hci; done))
      rename_i g hg
      split at hci <;> (try (cases hci; done))
      rename_i c' hc'
      simp at hci; subst hci
      simp only [xitems] at hx
      refine guarded g hg (fun b hb => ⟨fun e => ?_, fun e => ?_⟩) ?_
      · subst e
        rw [hb] at hx
        simp only at hx
        split at hx <;> (try (cases hx; done))
        rename_i v aw' hv
        split at hx <;> (try (cases hx; done))
        rename_i a' ha'
        exact wp_of_yes (out := out) (op_sound hc' hv hA hR) ha' hA fun E' ca' w' hle h1 h2 => rest E' a' aw' ca' w' hle hx h1 h2
      · subst e
        rw [hb] at hx
        simp only at hx
        split at hx <;> (try (cases hx; done))
        rename_i a' ha'
        exact ⟨a', ha', hx⟩
      · cases hgg : xguard a g with
        | none => rw [hgg] at hx; cases hx
        | some b => exact ⟨b, rfl⟩

/-! ### code -/
/-- a loop, at the beginning of a round -/
def LoopAt (P : Program) (c : Code) (Q : Exit → Act → World → Prop) (a : Act) (w : World) : Prop :=
  ∀ (b : Frame) (k : List Item) (cs : List Frame), ∃ e a' w', Q e a' w' ∧ Arrives P (lone (b.at a (.code c :: .inLoop c :: k)) cs w) b k cs e a' w'
theorem LoopAt.wp {c : Code} {Q : Exit → Act → World → Prop} {a : Act} {w : World} (h : LoopAt P c Q a w) : (Code.loop c).wp P Q a w := by
  intro b k cs
  obtain ⟨e, a', w', hq, harr⟩ := h b k cs
  exact ⟨e, a', w', hq, .of_steps (.one step_loop) harr⟩
theorem LoopAt.round {c : Code} {Q : Exit → Act → World → Prop} {a : Act} {w : World} (h : c.wp P (Exit.then (LoopAt P c Q) Q) a w) : LoopAt P c Q a w := by
  intro b k cs
  obtain ⟨e, a₁, w₁, hq, harr⟩ := h b (.inLoop c :: k) cs
  cases e with
  | normal =>
    obtain ⟨e₂, a₂, w₂, hq₂, harr₂⟩ := hq b k cs
    exact ⟨e₂, a₂, w₂, hq₂, .of_steps (Steps.trans harr (.one step_inLoop)) harr₂⟩
  | exit id => exact ⟨_, a₁, w₁, hq, .pass (x := .inLoop c) rfl (fun _ _ => .inl (by simp)) harr⟩
  | goto l => exact ⟨_, a₁, w₁, hq, .pass (x := .inLoop c) rfl (fun _ _ => .inl (by simp)) harr⟩
  | ret => exact ⟨_, a₁, w₁, hq, .pass (x := .inLoop c) rfl (fun _ _ => .inl (by simp)) harr⟩
  | panic ch => exact ⟨_, a₁, w₁, hq, .pass (x := .inLoop c) rfl (fun _ _ => .inl (by simp)) harr⟩
  | outgrown => exact ⟨_, a₁, w₁, hq, .pass (x := .inLoop c) rfl (fun _ _ => .inl (by simp)) harr⟩

/-- the code, ahead of the run; 'dr': the regions that draw their order -/
def cCode (P : Program) (dr : Array Oper → Option (List CR × List CR)) : Code → Option CC
  | .skip => some .skip
  | .region id ops draw => match draw with
    | false => match cItems P ops (List.range ops.size) with
      | some l => some (.region l)
      | none => none
    | true => match dr ops with
      | some (l, r) => some (.draw l r)
      | none => none
  | .seq x y => match cCode P dr x with
    | some x => match cCode P dr y with
      | some y => some (.seq x y)
      | none => none
    | none => none
  | .cond c x y => match cOpd c with
    | some c => match cCode P dr x with
      | some x => match cCode P dr y with
        | some y => some (.cond c x y)
        | none => none
      | none => none
    | none => none
  | .block id b => match cCode P dr b with
    | some b => some (.block id b)
    | none => none
  | .loop b => match cCode P dr b with
    | some b => some (.loop b)
    | none => none
  | .exit id => some (.exit id)
  | .ret => some .ret
  | _ => none

/-- what 'dr' makes of a region that draws is sound -/
def DrawOK (P : Program) (call : Call) (dr : Array Oper → Option (List CR × List CR)) : Prop :=
  ∀ ops l r, dr ops = some (l, r) → ∀ id E a ca aw w o out, xitems call l a aw = some o → o.x = .norm → xitems call r o.act o.aw = some out → ActRel E a ca → Rel E aw w → (Code.region id ops true).wp P (Post E out) ca w

theorem code_sound {call : Call} (hcall : CallOK P call) {dr : Array Oper → Option (List CR × List CR)} (hdr : DrawOK P call dr) : ∀ (n : Nat) {c : Code} {cc : CC} {E : Env} {a : AAct} {ca : Act} {aw : AW} {w : World} {out : Out}, cCode P dr c = some cc → xcode call n cc a aw = some out →
    ActRel E a ca → Rel E aw w → c.wp P (Post E out) ca w ∧ ∀ b, c = .loop b → LoopAt P b (Post E out) ca w := by
  intro n
  induction n with
  | zero => intro c cc E a ca aw w out hc hx; simp [xcode] at hx
  | succ n ih =>
    intro c cc E a ca aw w out hc hx hA hR
    cases c with
    | skip =>
      simp [cCode] at hc; subst hc
      simp [xcode] at hx; subst hx
      exact ⟨wp_skip ⟨E, .refl E, hR, hA, trivial⟩, fun b e => by cases e⟩
    | region id ops draw =>
      cases draw with
      | false =>
        simp only [cCode] at hc
        split at hc <;> (try (cases hc; done))
        rename_i l hl
        simp at hc; subst hc
        simp only [xcode] at hx
        exact ⟨wp_region (items_sound hcall _ hl hx hA hR fun e a w h => h), fun b e => by cases e⟩
      | true =>
        simp only [cCode] at hc
        split at hc <;> (try (cases hc; done))
        rename_i l r hl
        simp at hc; subst hc
        simp only [xcode] at hx
        split at hx <;> (try (cases hx; done))
        rename_i o1 ho1
        split at hx <;> (try (cases hx; done))
        rename_i hn
        exact ⟨hdr ops l r hl id E a ca aw w o1 out ho1 hn hx hA hR, fun b e => by cases e⟩
    | seq x y =>
      simp only [cCode] at hc
      split at hc <;> (try (cases hc; done))
      rename_i cx hcx
      split at hc <;> (try (cases hc; done))
      rename_i cy hcy
      simp at hc; subst hc
      simp only [xcode] at hx
      split at hx <;> (try (cases hx; done))
      rename_i o1 ho1
      refine ⟨wp_seq (wp_mono (ih hcx ho1 hA hR).1 fun e a' w' hp => ?_), fun b e => by cases e⟩
      obtain ⟨E', hle, hR', hA', hX⟩ := hp
      split at hx
      · rename_i hn
        rw [hn] at hX
        cases e <;> simp only [XRel] at hX
        exact wp_mono (ih hcy hx hA' hR').1 fun e a w hp => hp.mono hle
      · rename_i hn
        simp at hx; subst hx
        have : Post E o1 e a' w' := ⟨E', hle, hR', hA', hX⟩
        cases e with
        | normal => cases hx1 : o1.x <;> rw [hx1] at hX <;> simp only [XRel] at hX; exact (hn hx1).elim
        | _ => exact this
    | cond co x y =>
      simp only [cCode] at hc
      split at hc <;> (try (cases hc; done))
      rename_i oc hoc
      split at hc <;> (try (cases hc; done))
      rename_i cx hcx
      split at hc <;> (try (cases hc; done))
      rename_i cy hcy
      simp at hc; subst hc
      simp only [xcode] at hx
      split at hx <;> (try (cases hx; done))
      rename_i b hb
      have hr := opd_sound hA hoc hb
      cases hev : ca.eval co <;> rw [hev] at hr <;> cases hr
      refine ⟨wp_cond hev ?_, fun b e => by cases e⟩
      cases b with
      | true => exact (ih hcx hx hA hR).1
      | false => exact (ih hcy hx hA hR).1
    | block id b =>
      simp only [cCode] at hc
      split at hc <;> (try (cases hc; done))
      rename_i cb hcb
      simp at hc; subst hc
      simp only [xcode] at hx
      split at hx <;> (try (cases hx; done))
      rename_i o1 ho1
      refine ⟨wp_block (wp_mono (ih hcb ho1 hA hR).1 fun e a' w' hp => ?_), fun b e => by cases e⟩
      obtain ⟨E', hle, hR', hA', hX⟩ := hp
      split at hx
      · rename_i id' hn
        rw [hn] at hX
        cases e <;> simp only [XRel] at hX
        subst hX
        simp only [Exit.inBlock]
        cases hb : Nat.beq id id' with
        | true =>
          simp only [hb, cond_true, Option.some.injEq] at hx
          subst hx
          rw [if_pos (Nat.eq_of_beq_eq_true hb).symm]
          exact ⟨E', hle, hR', hA', trivial⟩
        | false =>
          simp only [hb, cond_false, Option.some.injEq] at hx
          subst hx
          rw [if_neg fun e => ne_of_beq hb e.symm]
          exact ⟨E', hle, hR', hA', by rw [hn]; rfl⟩
      · rename_i hn
        simp at hx; subst hx
        have : Post E o1 e a' w' := ⟨E', hle, hR', hA', hX⟩
        cases e with
        | exit id' => cases hx1 : o1.x <;> rw [hx1] at hX <;> simp only [XRel] at hX; exact (hn _ hx1).elim
        | _ => exact this
    | loop b =>
      simp only [cCode] at hc
      split at hc <;> (try (cases hc; done))
      rename_i cb hcb
      simp at hc; subst hc
      simp only [xcode] at hx
      split at hx <;> (try (cases hx; done))
      rename_i o1 ho1
      have key : LoopAt P b (Post E out) ca w := by
        refine LoopAt.round (wp_mono (ih hcb ho1 hA hR).1 fun e a' w' hp => ?_)
        obtain ⟨E', hle, hR', hA', hX⟩ := hp
        split at hx
        · rename_i hn
          rw [hn] at hX
          cases e <;> simp only [XRel] at hX
          have := (ih (c := .loop b) (cc := .loop cb) (by simp [cCode, hcb]) hx hA' hR').2 b rfl
          intro fb k cs
          obtain ⟨e, a2, w2, hq, harr⟩ := this fb k cs
          exact ⟨e, a2, w2, hq.mono hle, harr⟩
        · rename_i hn
          simp at hx; subst hx
          have : Post E o1 e a' w' := ⟨E', hle, hR', hA', hX⟩
          cases e with
          | normal => cases hx1 : o1.x <;> rw [hx1] at hX <;> simp only [XRel] at hX; exact (hn hx1).elim
          | _ => exact this
      exact ⟨key.wp, fun b' e => by injection e with e; subst e; exact key⟩
    | exit id =>
      simp [cCode] at hc; subst hc
      simp [xcode] at hx; subst hx
      exact ⟨wp_exit ⟨E, .refl E, hR, hA, rfl⟩, fun b e => by cases e⟩
    | ret =>
      simp [cCode] at hc; subst hc
      simp [xcode] at hx; subst hx
      exact ⟨wp_ret ⟨E, .refl E, hR, hA, trivial⟩, fun b e => by cases e⟩
    | rangeFunc _ _ _ _ => simp [cCode] at hc
    | scope _ => simp [cCode] at hc
    | label _ => simp [cCode] at hc
    | goto _ => simp [cCode] at hc
    | refuse _ => simp [cCode] at hc
end
end Go.Proofs.YtbilacojhmohmaaGreat.Ae
