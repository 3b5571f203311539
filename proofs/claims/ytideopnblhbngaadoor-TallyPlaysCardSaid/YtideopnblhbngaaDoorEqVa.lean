/- Whether two validators are equal, by the model's own test. -/
import Derived.Test.YtideopnblhbngaaDoorVal
namespace Go.Proofs.YtideopnblhbngaaDoor
open Go.RowKit

set_option maxRecDepth 100000 in
theorem part_key (k : List Int) (p : Int) (h : k.length = 16) (W : World) : (part 37 (vcells (k, p)).toArray 0).run Tryd.prog W = .ok (.agg (u8s k).toArray) W := by
  match k, h with
  | [a0, a1, a2, a3, a4, a5, a6, a7, a8, a9, a10, a11, a12, a13, a14, a15], _ =>
    simp only [vcells, u8s, List.map_cons, List.map_nil, List.cons_append, List.nil_append]
    go_simp
set_option maxRecDepth 100000 in
theorem part_pow (k : List Int) (p : Int) (h : k.length = 16) (W : World) : (part 3 (vcells (k, p)).toArray 16).run Tryd.prog W = .ok (.int .i64 p) W := by
  match k, h with
  | [a0, a1, a2, a3, a4, a5, a6, a7, a8, a9, a10, a11, a12, a13, a14, a15], _ =>
    simp only [vcells, u8s, List.map_cons, List.map_nil, List.cons_append, List.nil_append]
    go_simp
theorem fields39 : (Tryd.prog.fieldsOf 39).toList = [{ name := "Key", type := 37, offset := 0, embedded := false, tag := "", pkgPath := "", byteOffset := 0 }, { name := "Power", type := 3, offset := 16, embedded := false, tag := "", pkgPath := "", byteOffset := 16 }] := by kernel_rfl
set_option maxRecDepth 100000 in
theorem run_equal39 (a b : Va) (ha : a.1.length = 16) (hb : b.1.length = 16) (W : World) : (Op.equalIn 10000 39 (.agg (vcells a).toArray) (.agg (vcells b).toArray)).run Tryd.prog W = .ok (decide (a = b)) W := by
  obtain ⟨ka, pa⟩ := a
  obtain ⟨kb, pb⟩ := b
  rw [run_equalIn_struct W 9999 39 _ _ (by kernel_rfl) (by kernel_rfl), fields39]
  have e1 := run_equalIn_bytes (P := Tryd.prog) (w := W) 9997 37 5 16 ka kb Tryd.underlying37 Tryd.underlying5 (by kernel_rfl) ha hb
  have e2 := run_equalIn_int (P := Tryd.prog) W 9998 3 .i64 .i64 pa pb Tryd.underlying3
  simp only [Op.eqFields, Sem.run_bind, part_key ka pa ha, part_key kb pb hb, part_pow ka pa ha, part_pow kb pb hb, Result.andThen_ok, e1, e2, Sem.run_ite]
  by_cases h1 : ka = kb <;> by_cases h2 : pa = pb <;> simp [h1, h2]
theorem run_neq39 (a b : Va) (ha : a.1.length = 16) (hb : b.1.length = 16) (W : World) : (binOp .neq 39 (.agg (vcells a).toArray) (.agg (vcells b).toArray)).run Tryd.prog W = .ok (.bool (!decide (a = b))) W := by
  rw [run_neq_struct, run_equal39 a b ha hb]
  rfl
theorem run_neq37 (a b : List Int) (ha : a.length = 16) (hb : b.length = 16) (W : World) : (binOp .neq 37 (.agg (u8s a).toArray) (.agg (u8s b).toArray)).run Tryd.prog W = .ok (.bool (!decide (a = b))) W :=
  run_neq_bytes 37 5 16 a b Tryd.underlying37 Tryd.underlying5 (by kernel_rfl) ha hb
theorem run_eqb37 (a b : List Int) (ha : a.length = 16) (hb : b.length = 16) (W : World) : (binOp .eql 37 (.agg (u8s a).toArray) (.agg (u8s b).toArray)).run Tryd.prog W = .ok (.bool (decide (a = b))) W :=
  run_eql_bytes 37 5 16 a b Tryd.underlying37 Tryd.underlying5 (by kernel_rfl) ha hb
end Go.Proofs.YtideopnblhbngaaDoor
