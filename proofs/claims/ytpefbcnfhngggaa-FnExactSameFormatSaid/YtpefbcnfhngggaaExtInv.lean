/- A call through an interface in a drawn region that only reads. -/
import Derived.Test.YtpefbcnfhngggaaExt3
namespace Go.Proofs.Ytpefbcnfhngggaa
open Go.RowKit Go.Sort

theorem ext_method (k : Int) (v : Value) (w : World) : (method (Try.prog.types.size + Made.depth) (extT k) v "loop.example/g00518/impl.extends").run Try.prog w = .ok (extF' k, v) w := by
  unfold extT extF'
  split
  · kernel_rfl
  · split
    · kernel_rfl
    · kernel_rfl
theorem ext_called (k : Int) (args : Array Value) (w : World) : (callFunc (extF' k) args).run Try.prog w = .ok (.enter (extF' k) args) w := by
  unfold extF'
  split
  · kernel_rfl
  · split
    · kernel_rfl
    · kernel_rfl
theorem quiet_invoke {P : Program} {C : World → Prop} {a : Act} {o : Oper} {K : Act → Prop} (r x : Operand) (name : String) (argTypes : Array TypeId) (hop : o.op = .call { callee := .invoke r name, args := #[x], argTypes := argTypes })
    (t : TypeId) (v y : Value) (f : FuncId) (hr : a.eval r = .iface t v) (hx : a.eval x = y) (hm : ∀ w, (method (P.types.size + Made.depth) t v name).run P w = .ok (f, v) w) (hf : ∀ args w, (callFunc f args).run P w = .ok (.enter f args) w) (res : Value)
    (hc : ∀ w, C w → Calls P f #[v, y] w (fun e w'' => e = .returned res ∧ C w'')) (hk : K (a.put o.dst res)) : o.quiet P a C K := by
  refine ⟨res, fun w hw => ?_, hk⟩
  unfold Oper.quietAt execOp
  simp only [hop]
  have hp : ∀ w, (program : Sem Program).run P w = .ok P w := fun w => rfl
  simp [resolve, invoke, hr, hx, callMethod, hm, hp, hf, Result.andThen]
  exact ⟨rfl, hc w hw⟩
end Go.Proofs.Ytpefbcnfhngggaa
