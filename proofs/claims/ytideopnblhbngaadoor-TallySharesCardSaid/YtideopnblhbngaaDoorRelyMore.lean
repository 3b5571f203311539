/- Single operations of a region that draws its order. -/
import Derived.Test.YtideopnblhbngaaDoorRely
namespace Go.Proofs.YtideopnblhbngaaDoor
open Go.RowKit
variable {P : Program} {o : Oper} {ρ : Operand → Value} {w w' : World} {S : Value → World → Prop}

theorem gives_indexAt (t : TypeId) (x y : Operand) (ho : o.op = .indexAddr t x y) (a b v : Value) (hx : ρ x = a) (hy : ρ y = b) (hr : (Instr.indexAt t a b).run P w = .ok v w') (h : S v w') : Gives P o ρ w S := by
  refine gives_val v (w' := w') ?_ h
  unfold execOp
  simp only [ho, hx, hy, Sem.run_bind, hr, Result.andThen_ok, Sem.run_pure]
theorem gives_loadAt (t : TypeId) (x : Operand) (ho : o.op = .load t x) (a v : Value) (hx : ρ x = a) (hr : (Instr.loadAt t a).run P w = .ok v w') (h : S v w') : Gives P o ρ w S := by
  refine gives_val v (w' := w') ?_ h
  unfold execOp
  simp only [ho, hx, Sem.run_bind, hr, Result.andThen_ok, Sem.run_pure]
theorem gives_convert (s d : TypeId) (x : Operand) (ho : o.op = .convert s d x) (a v : Value) (hx : ρ x = a) (hr : (convert s d a).run P w = .ok v w') (h : S v w') : Gives P o ρ w S := by
  refine gives_val v (w' := w') ?_ h
  unfold execOp
  simp only [ho, hx, Sem.run_bind, hr, Result.andThen_ok, Sem.run_pure]
theorem gives_binOp (op : BinOp) (t t2 : TypeId) (x y : Operand) (ho : o.op = .binOp op t x y t2) (a b v : Value) (hx : ρ x = a) (hy : ρ y = b) (hg : (eqGuard op t x y a b).run P w = .ok () w) (hr : (binOp op t a b).run P w = .ok v w') (h : S v w') : Gives P o ρ w S := by
  refine gives_val v (w' := w') ?_ h
  unfold execOp
  simp only [ho, hx, hy, Sem.run_bind, hg, hr, Result.andThen_ok, Sem.run_pure]
theorem gives_unOp (op : UnOp) (t : TypeId) (x : Operand) (ho : o.op = .unOp op t x) (a v : Value) (hx : ρ x = a) (hr : (Op.unary op a).run P w = .ok v w') (h : S v w') : Gives P o ρ w S := by
  refine gives_val v (w' := w') ?_ h
  unfold execOp
  simp only [ho, hx, Sem.run_bind, hr, Result.andThen_ok, Sem.run_pure]
theorem gives_slice (t : TypeId) (x : Operand) (lo hi mx : Option Operand) (ho : o.op = .slice t x lo hi mx) (a v : Value) (l h' m : Option Value) (hx : ρ x = a) (hl : lo.map ρ = l) (hh : hi.map ρ = h') (hm : mx.map ρ = m) (hr : (Instr.sliceAt t a l h' m).run P w = .ok v w') (h : S v w') : Gives P o ρ w S := by
  refine gives_val v (w' := w') ?_ h
  unfold execOp
  simp only [ho, hx, hl, hh, hm, Sem.run_bind, hr, Result.andThen_ok, Sem.run_pure]
end Go.Proofs.YtideopnblhbngaaDoor
