/- How long a slice is, as a step. -/
import Derived.Test.YtideopnblhbngaaDoorRelyMore
import Derived.Test.YtideopnblhbngaaDoorWide
namespace Go.Proofs.YtideopnblhbngaaDoor
open Go.RowKit Go.Shelf
attribute [local go_sem] Oper.semAt_some
theorem gives_len2 {P : Program} {o : Oper} {ρ : Operand → Value} {w : World} {S : Value → World → Prop} (t e : TypeId) (x : Operand) (ho : o.op = .call { callee := .builtin .len, args := #[x], argTypes := #[t] }) (ht : P.underlying t = some (.slice e)) (A : Option Addr) (n c : Nat) (hx : ρ x = .slice A n c) (h : S (.int .i64 n) w) : Gives P o ρ w S := by
  refine gives_val (.int .i64 n) (w' := w) ?_ h
  unfold execOp
  simp only [ho, resolve, invoke, builtin, Sem.run_bind, Sem.run_pure, Result.andThen_ok, List.map_toArray, List.map_cons, List.map_nil, hx]
  simp [Builtin.len_, run_underlying ht]
  rfl
end Go.Proofs.YtideopnblhbngaaDoor
