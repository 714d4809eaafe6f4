/- A call of a closure through a variable, and what stays of a variable in memory while a row is turned. No condition. -/
import Derived.Test.YtcehifhfgpodoaaWLast
import Derived.Test.YtcehifhfgpodoaaWMore
import Derived.Test.YtcehifhfgpodoaaWKept
namespace Go.Proofs.Ytcehifhfgpodoaa.Clo
open Go.RowKit Go.Proofs.YtcehifhfgpodoaaW.PrintWords Go.Proofs.YtcehifhfgpodoaaW.PrintLast Go.Proofs.YtcehifhfgpodoaaW.PrintMore
section
variable {P : Program} {ops : Array Oper} {Q : Exit → Act → World → Prop}
theorem goesV_ {oi : Oper} {N : Option Tmp} {a : Act} {w : World} {K : Act → World → Prop} {f : FuncId} {fn : Func} {as : Array Operand} {ts : Array TypeId} {t : Operand} {cb : Array Value} (hf : P.funcs[f]? = some fn) (hname : (fn.name == "runtime.NumGoroutine") = false) (hb : fn.body.isSome = true) (args : Array Value)
    (hw : Region.wanted oi (yielded ops a.tmps) = true) (hN : oi.dst = N) (hop : oi.op = .call { callee := .value t, args := as, argTypes := ts }) (hv : a.eval t = .func (.func f) #[] cb) (hargs : as.map a.eval ++ cb = args)
    (h : Calls P f args w fun e w' => ∃ v, e = .returned v ∧ K (a.put N v) w') : if Region.wanted oi (yielded ops a.tmps) = true then Oper.wp P oi a w K Q else K (a.put N undef) w := by
  refine call_ f args hw hN ?_ h
  have he := enters_ hf hname hb args w
  unfold execOp
  subst hargs
  simp [hop, hv, resolve, Deferred.ofValue, invoke, he]
end
section
variable {w w0 W : World} {S S2 : Nat → Prop} {a : Addr} {v : Value}
theorem cell_came (h : w0.cell? a = some v) (hb : Below w0.heap.size w0 W) (hS : ∀ k, S k → w0.heap.size ≤ k) : ∀ W', Kept W W' S → W'.cell? a = some v := fun W' hk => by
  have hlt := World.block_lt_of_cell? _ _ h
  have e : W'.heap[a.block]? = w0.heap[a.block]? := (hk.2 a.block (Nat.lt_of_lt_of_le hlt hb.size) (fun h2 => by have := hS _ h2; omega)).trans (hb.block _ hlt)
  rw [World.cell?_of_block e]
  exact h
theorem cell_call (h : ∀ W', Kept w W' S → W'.cell? a = some v) (hk : Kept w W S) (hs : ∀ k, S2 k → S k ∨ w.heap.size ≤ k) : ∀ W', Kept W W' S2 → W'.cell? a = some v := fun W' hk' => h W' (hk.then_ hk' hs)
end
end Go.Proofs.Ytcehifhfgpodoaa.Clo
