/- Words of 32 bits turned. -/
import Derived.Test.YtdedphhohiioiaaDoorRows
import Derived.Test.YtdedphhohiioiaaDoorOps
namespace Go.Proofs.YtdedphhohiioiaaDoor
open Go.RowKit

/-- Turned right: the divisor is 2^n, the factor 2^(32-n). -/
def rr (d m x : Int) : Int := bits .or .u32 (x / d) (x * m % 4294967296)
theorem or_comm_u32 (x y : Int) : bits .or .u32 x y = bits .or .u32 y x := by
  unfold bits
  dsimp only
  rw [BitVec.or_comm]
theorem bits_u32 (op : BinOp) (x y : Int) : 0 ≤ bits op .u32 x y ∧ bits op .u32 x y ≤ 4294967295 := by
  have h := bits_within op .u32 x y
  simpa [IntKind.min, IntKind.max, IntKind.signed, IntKind.bits] using h
theorem rr_range (d m x : Int) : 0 ≤ rr d m x ∧ rr d m x ≤ 4294967295 := bits_u32 _ _ _

theorem and_2 : bits .and .u64 (IntKind.u64.wrap (-2)) 31 = 30 := by kernel_rfl
set_option maxHeartbeats 400000 in
theorem rotl_2 (x : Int) (_h0 : 0 ≤ x) (_h1 : x ≤ 4294967295) (w : World) :
    Calls Tryd.prog 90 #[.int .u32 x, .int .i64 (-2)] w fun e w' => e = .returned (.int .u32 (rr 4 1073741824 x)) ∧ w = w' := by
  have h := and_2
  go_enter Tryd.func90, Tryd.ntmps90
  go_wp2
  go_ret
  exact ⟨by rw [rr, or_comm_u32]; rfl, rfl⟩
set_option maxHeartbeats 400000 in
theorem right_2 (x : Int) (_h0 : 0 ≤ x) (_h1 : x ≤ 4294967295) (w : World) :
    Calls Tryd.prog 72 #[.int .u32 x, .int .u64 2] w fun e w' => e = .returned (.int .u32 (rr 4 1073741824 x)) ∧ w = w' := by
  go_enter Tryd.func72, Tryd.ntmps72
  go_wp2
  go_ret
  exact ⟨rfl, rfl⟩

theorem and_6 : bits .and .u64 (IntKind.u64.wrap (-6)) 31 = 26 := by kernel_rfl
set_option maxHeartbeats 400000 in
theorem rotl_6 (x : Int) (_h0 : 0 ≤ x) (_h1 : x ≤ 4294967295) (w : World) :
    Calls Tryd.prog 90 #[.int .u32 x, .int .i64 (-6)] w fun e w' => e = .returned (.int .u32 (rr 64 67108864 x)) ∧ w = w' := by
  have h := and_6
  go_enter Tryd.func90, Tryd.ntmps90
  go_wp2
  go_ret
  exact ⟨by rw [rr, or_comm_u32]; rfl, rfl⟩
set_option maxHeartbeats 400000 in
theorem right_6 (x : Int) (_h0 : 0 ≤ x) (_h1 : x ≤ 4294967295) (w : World) :
    Calls Tryd.prog 72 #[.int .u32 x, .int .u64 6] w fun e w' => e = .returned (.int .u32 (rr 64 67108864 x)) ∧ w = w' := by
  go_enter Tryd.func72, Tryd.ntmps72
  go_wp2
  go_ret
  exact ⟨rfl, rfl⟩

theorem and_7 : bits .and .u64 (IntKind.u64.wrap (-7)) 31 = 25 := by kernel_rfl
set_option maxHeartbeats 400000 in
theorem rotl_7 (x : Int) (_h0 : 0 ≤ x) (_h1 : x ≤ 4294967295) (w : World) :
    Calls Tryd.prog 90 #[.int .u32 x, .int .i64 (-7)] w fun e w' => e = .returned (.int .u32 (rr 128 33554432 x)) ∧ w = w' := by
  have h := and_7
  go_enter Tryd.func90, Tryd.ntmps90
  go_wp2
  go_ret
  exact ⟨by rw [rr, or_comm_u32]; rfl, rfl⟩
set_option maxHeartbeats 400000 in
theorem right_7 (x : Int) (_h0 : 0 ≤ x) (_h1 : x ≤ 4294967295) (w : World) :
    Calls Tryd.prog 72 #[.int .u32 x, .int .u64 7] w fun e w' => e = .returned (.int .u32 (rr 128 33554432 x)) ∧ w = w' := by
  go_enter Tryd.func72, Tryd.ntmps72
  go_wp2
  go_ret
  exact ⟨rfl, rfl⟩

theorem and_11 : bits .and .u64 (IntKind.u64.wrap (-11)) 31 = 21 := by kernel_rfl
set_option maxHeartbeats 400000 in
theorem rotl_11 (x : Int) (_h0 : 0 ≤ x) (_h1 : x ≤ 4294967295) (w : World) :
    Calls Tryd.prog 90 #[.int .u32 x, .int .i64 (-11)] w fun e w' => e = .returned (.int .u32 (rr 2048 2097152 x)) ∧ w = w' := by
  have h := and_11
  go_enter Tryd.func90, Tryd.ntmps90
  go_wp2
  go_ret
  exact ⟨by rw [rr, or_comm_u32]; rfl, rfl⟩
set_option maxHeartbeats 400000 in
theorem right_11 (x : Int) (_h0 : 0 ≤ x) (_h1 : x ≤ 4294967295) (w : World) :
    Calls Tryd.prog 72 #[.int .u32 x, .int .u64 11] w fun e w' => e = .returned (.int .u32 (rr 2048 2097152 x)) ∧ w = w' := by
  go_enter Tryd.func72, Tryd.ntmps72
  go_wp2
  go_ret
  exact ⟨rfl, rfl⟩

theorem and_13 : bits .and .u64 (IntKind.u64.wrap (-13)) 31 = 19 := by kernel_rfl
set_option maxHeartbeats 400000 in
theorem rotl_13 (x : Int) (_h0 : 0 ≤ x) (_h1 : x ≤ 4294967295) (w : World) :
    Calls Tryd.prog 90 #[.int .u32 x, .int .i64 (-13)] w fun e w' => e = .returned (.int .u32 (rr 8192 524288 x)) ∧ w = w' := by
  have h := and_13
  go_enter Tryd.func90, Tryd.ntmps90
  go_wp2
  go_ret
  exact ⟨by rw [rr, or_comm_u32]; rfl, rfl⟩
set_option maxHeartbeats 400000 in
theorem right_13 (x : Int) (_h0 : 0 ≤ x) (_h1 : x ≤ 4294967295) (w : World) :
    Calls Tryd.prog 72 #[.int .u32 x, .int .u64 13] w fun e w' => e = .returned (.int .u32 (rr 8192 524288 x)) ∧ w = w' := by
  go_enter Tryd.func72, Tryd.ntmps72
  go_wp2
  go_ret
  exact ⟨rfl, rfl⟩

theorem and_17 : bits .and .u64 (IntKind.u64.wrap (-17)) 31 = 15 := by kernel_rfl
set_option maxHeartbeats 400000 in
theorem rotl_17 (x : Int) (_h0 : 0 ≤ x) (_h1 : x ≤ 4294967295) (w : World) :
    Calls Tryd.prog 90 #[.int .u32 x, .int .i64 (-17)] w fun e w' => e = .returned (.int .u32 (rr 131072 32768 x)) ∧ w = w' := by
  have h := and_17
  go_enter Tryd.func90, Tryd.ntmps90
  go_wp2
  go_ret
  exact ⟨by rw [rr, or_comm_u32]; rfl, rfl⟩
set_option maxHeartbeats 400000 in
theorem right_17 (x : Int) (_h0 : 0 ≤ x) (_h1 : x ≤ 4294967295) (w : World) :
    Calls Tryd.prog 72 #[.int .u32 x, .int .u64 17] w fun e w' => e = .returned (.int .u32 (rr 131072 32768 x)) ∧ w = w' := by
  go_enter Tryd.func72, Tryd.ntmps72
  go_wp2
  go_ret
  exact ⟨rfl, rfl⟩

theorem and_18 : bits .and .u64 (IntKind.u64.wrap (-18)) 31 = 14 := by kernel_rfl
set_option maxHeartbeats 400000 in
theorem rotl_18 (x : Int) (_h0 : 0 ≤ x) (_h1 : x ≤ 4294967295) (w : World) :
    Calls Tryd.prog 90 #[.int .u32 x, .int .i64 (-18)] w fun e w' => e = .returned (.int .u32 (rr 262144 16384 x)) ∧ w = w' := by
  have h := and_18
  go_enter Tryd.func90, Tryd.ntmps90
  go_wp2
  go_ret
  exact ⟨by rw [rr, or_comm_u32]; rfl, rfl⟩
set_option maxHeartbeats 400000 in
theorem right_18 (x : Int) (_h0 : 0 ≤ x) (_h1 : x ≤ 4294967295) (w : World) :
    Calls Tryd.prog 72 #[.int .u32 x, .int .u64 18] w fun e w' => e = .returned (.int .u32 (rr 262144 16384 x)) ∧ w = w' := by
  go_enter Tryd.func72, Tryd.ntmps72
  go_wp2
  go_ret
  exact ⟨rfl, rfl⟩

theorem and_19 : bits .and .u64 (IntKind.u64.wrap (-19)) 31 = 13 := by kernel_rfl
set_option maxHeartbeats 400000 in
theorem rotl_19 (x : Int) (_h0 : 0 ≤ x) (_h1 : x ≤ 4294967295) (w : World) :
    Calls Tryd.prog 90 #[.int .u32 x, .int .i64 (-19)] w fun e w' => e = .returned (.int .u32 (rr 524288 8192 x)) ∧ w = w' := by
  have h := and_19
  go_enter Tryd.func90, Tryd.ntmps90
  go_wp2
  go_ret
  exact ⟨by rw [rr, or_comm_u32]; rfl, rfl⟩
set_option maxHeartbeats 400000 in
theorem right_19 (x : Int) (_h0 : 0 ≤ x) (_h1 : x ≤ 4294967295) (w : World) :
    Calls Tryd.prog 72 #[.int .u32 x, .int .u64 19] w fun e w' => e = .returned (.int .u32 (rr 524288 8192 x)) ∧ w = w' := by
  go_enter Tryd.func72, Tryd.ntmps72
  go_wp2
  go_ret
  exact ⟨rfl, rfl⟩

theorem and_22 : bits .and .u64 (IntKind.u64.wrap (-22)) 31 = 10 := by kernel_rfl
set_option maxHeartbeats 400000 in
theorem rotl_22 (x : Int) (_h0 : 0 ≤ x) (_h1 : x ≤ 4294967295) (w : World) :
    Calls Tryd.prog 90 #[.int .u32 x, .int .i64 (-22)] w fun e w' => e = .returned (.int .u32 (rr 4194304 1024 x)) ∧ w = w' := by
  have h := and_22
  go_enter Tryd.func90, Tryd.ntmps90
  go_wp2
  go_ret
  exact ⟨by rw [rr, or_comm_u32]; rfl, rfl⟩
set_option maxHeartbeats 400000 in
theorem right_22 (x : Int) (_h0 : 0 ≤ x) (_h1 : x ≤ 4294967295) (w : World) :
    Calls Tryd.prog 72 #[.int .u32 x, .int .u64 22] w fun e w' => e = .returned (.int .u32 (rr 4194304 1024 x)) ∧ w = w' := by
  go_enter Tryd.func72, Tryd.ntmps72
  go_wp2
  go_ret
  exact ⟨rfl, rfl⟩

theorem and_25 : bits .and .u64 (IntKind.u64.wrap (-25)) 31 = 7 := by kernel_rfl
set_option maxHeartbeats 400000 in
theorem rotl_25 (x : Int) (_h0 : 0 ≤ x) (_h1 : x ≤ 4294967295) (w : World) :
    Calls Tryd.prog 90 #[.int .u32 x, .int .i64 (-25)] w fun e w' => e = .returned (.int .u32 (rr 33554432 128 x)) ∧ w = w' := by
  have h := and_25
  go_enter Tryd.func90, Tryd.ntmps90
  go_wp2
  go_ret
  exact ⟨by rw [rr, or_comm_u32]; rfl, rfl⟩
set_option maxHeartbeats 400000 in
theorem right_25 (x : Int) (_h0 : 0 ≤ x) (_h1 : x ≤ 4294967295) (w : World) :
    Calls Tryd.prog 72 #[.int .u32 x, .int .u64 25] w fun e w' => e = .returned (.int .u32 (rr 33554432 128 x)) ∧ w = w' := by
  go_enter Tryd.func72, Tryd.ntmps72
  go_wp2
  go_ret
  exact ⟨rfl, rfl⟩
end Go.Proofs.YtdedphhohiioiaaDoor
