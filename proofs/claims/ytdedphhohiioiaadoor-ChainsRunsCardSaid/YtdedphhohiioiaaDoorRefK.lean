/- The reference's table of constants. -/
import Derived.Test.YtdedphhohiioiaaDoorStr
namespace Go.Proofs.YtdedphhohiioiaaDoor
open Go.RowKit

set_option maxHeartbeats 4000000 in
set_option maxRecDepth 100000 in
theorem k_any (i : Nat) (hi : i < 64) (w : World) : Calls Tryd.prog 71 #[.int .i64 i] w fun e w' => e = .returned (.int .u32 (kk.getD i 0)) ∧ w' = w := by
  go_enter Tryd.func71, Tryd.ntmps71
  go_wp2_with (refine wpList_index_arr rfl 104 103 64 (.tmp 3) (.tmp 4) rfl (u32s kk).toArray .i64 (i : Int) (.int .u32 (kk.getD i 0)) rfl rfl Tryd.underlying104 _ Tryd.underlying103 rfl Tryd.size103 (by omega) (by omega) (by have hl : i < kk.length := hi; simp [u32s, List.getD_eq_getElem?_getD, hl]) ?_)
  go_ret
  exact ⟨rfl, rfl⟩
end Go.Proofs.YtdedphhohiioiaaDoor
