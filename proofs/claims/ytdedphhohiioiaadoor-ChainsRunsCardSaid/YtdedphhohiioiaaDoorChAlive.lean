/- The chains' look at life: the digits of noughts. -/
import Derived.Test.YtdedphhohiioiaaDoorDig
namespace Go.Proofs.YtdedphhohiioiaaDoor
open Go.RowKit

theorem digits_noughts : digits (List.replicate 16 0) = List.replicate 64 0 ++ [3, 0, 0, 0] := by kernel_rfl

set_option maxHeartbeats 4000000 in
set_option maxRecDepth 100000 in
theorem alive_chains (w : World) : Calls Tryd.prog 36 #[] w fun e w' => e = .returned (.bool true) ∧ Below w.heap.size w w' := by
  go_enter Tryd.func36, Tryd.ntmps36
  go_wp2_with fail
  refine (digits_any (List.replicate 16 0) rfl (fun b hb => by rw [List.eq_of_mem_replicate hb]; omega) _).mono ?_
  rintro e w1 ⟨v, rfl, hown, hb1⟩
  obtain ⟨b, off, c, he, hc1, hc2, hcell⟩ := Row.of_own hown (by omega)
  have hl : (i64s (digits (List.replicate 16 0))).length = 68 := by rw [digits_noughts]; rfl
  rw [hl] at he hc1
  subst he
  rw [digits_noughts] at hcell
  have c0 := hcell 0 (.int .i64 0) rfl
  have c1 := hcell 63 (.int .i64 0) rfl
  have c2 := hcell 64 (.int .i64 3) rfl
  have c3 := hcell 65 (.int .i64 0) rfl
  have c4 := hcell 67 (.int .i64 0) rfl
  rw [Nat.add_zero] at c0
  have HB := Lib.hid hb1
  clear hcell hown hl hb1 hc2
  go_wp2
  go_ret
  exact ⟨rfl, HB.out⟩
end Go.Proofs.YtdedphhohiioiaaDoor
