/- A call of a Go function as a step of a region that draws its order. -/
import Derived.Test.YtfblkahjefdmaaaPgO
namespace Go.Proofs.Ytfblkahjefdmaaa
open Go.RowKit

theorem run_enter {P : Program} {f : FuncId} {fn : Func} (hf : P.funcs[f]? = some fn) (hname : (fn.name == "runtime.NumGoroutine") = false) (hb : fn.body.isNone = false) (args : Array Value) (w : World) : (callFunc f args).run P w = .ok (.enter f args) w := by
  have h1 : fn.name ≠ "runtime.NumGoroutine" := by simpa using hname
  obtain ⟨c, hc⟩ : ∃ c, fn.body = some c := by
    cases h : fn.body with
    | none => rw [h] at hb; cases hb
    | some c => exact ⟨c, rfl⟩
  simp [callFunc, hf, h1, hc]
theorem step_go {P : Program} {ops : Array Oper} {o : Oper} {a : Act} {w : World} {K : Act → World → Prop} {Q : Exit → Act → World → Prop} {E : Prop} (id : Nat) (hcf : ∀ args w, (callFunc id args).run P w = .ok (.enter id args) w) (hgd : o.guard = none) (args : Array Operand) (ts : Array TypeId)
    (ho : o.op = .call { callee := .value (.func id), args := args, argTypes := ts }) (vs : Array Value) (hvs : args.map a.eval = vs) (C : Ending → World → Prop) (hc : Calls P id vs w C)
    (h : ∀ e w', C e w' → ∃ v, e = .returned v ∧ K (a.put o.dst v) w') : if Region.wanted o (yielded ops a.tmps) = true then Oper.wp P o a w K Q else E := by
  have hw : Region.wanted o (yielded ops a.tmps) = true := by simp [Region.wanted, hgd]
  rw [if_pos hw]
  have hrun : (execOp a.eval o).run P w = .ok (.enter id vs) w := by
    subst hvs
    simp [execOp, ho, resolve, invoke, Act.eval, go_sem, hcf]
  unfold Oper.wp
  rw [hrun, Oper.upon_enter]
  refine hc.mono ?_
  intro e w' hce
  obtain ⟨v, rfl, hk⟩ := h e w' hce
  exact hk
theorem enter_moved (args : Array Value) (w : World) : (callFunc 98 args).run Try.prog w = .ok (.enter 98 args) w := run_enter Try.func98 (by kernel_rfl) (by kernel_rfl) args w
theorem enter_split (args : Array Value) (w : World) : (callFunc 123 args).run Try.prog w = .ok (.enter 123 args) w := run_enter Try.func123 (by kernel_rfl) (by kernel_rfl) args w
theorem enter_jump (args : Array Value) (w : World) : (callFunc 124 args).run Try.prog w = .ok (.enter 124 args) w := run_enter Try.func124 (by kernel_rfl) (by kernel_rfl) args w
theorem enter_row (args : Array Value) (w : World) : (callFunc 66 args).run Try.prog w = .ok (.enter 66 args) w := run_enter Try.func66 (by kernel_rfl) (by kernel_rfl) args w
theorem enter_save (args : Array Value) (w : World) : (callFunc 67 args).run Try.prog w = .ok (.enter 67 args) w := run_enter Try.func67 (by kernel_rfl) (by kernel_rfl) args w
end Go.Proofs.Ytfblkahjefdmaaa
