/- Lemmas that laws of this seat rest on, part 11; each says its own conditions: ClimbE, TrAlive, TreesClimbsW. -/
import Derived.Test.YtdedphhohiioiaaDoorBase5
import Derived.Test.YtdedphhohiioiaaDoorBase8
import Derived.Test.YtdedphhohiioiaaDoorBase9
/- What trees.Climb does with an error. -/
namespace Go.Proofs.YtdedphhohiioiaaDoor
open Go.RowKit Go.Shelf

set_option maxHeartbeats 8000000 in
set_option maxRecDepth 100000 in
theorem climb_range (x : List Int) (i : Int) (A : Option Addr) (k c : Nat) (aR : Addr) (w : World) (hbad : ¬ (0 ≤ i ∧ i < 32)) (hf : w.cell? ⟨1, 0, none⟩ = some (errV aR)) :
    Calls Tryd.prog 44 #[.agg (u8s x).toArray, .int .i64 i, .slice A k c] w fun e w' => e = .returned (.tuple #[.agg (u8s zero16).toArray, errV aR]) ∧ Below w.heap.size w w' := by
  have hi43 : ∀ V : List Int, V.length = 16 → (Tryd.prog.info? 43).map (·.size) = some (u8s V).length := fun V h => by rw [u8s_len', h]; exact Tryd.size43
  obtain ⟨W0, hW0⟩ : ∃ W0, W0 = (w.alloc (.cells (u8s x).toArray 43)).alloc (Obj.cells (Array.replicate 16 (Value.int .u8 0)) 43) := ⟨_, rfl⟩
  have b0 : Below w.heap.size w W0 := by rw [hW0]; exact ((Below.refl _ _).alloc (Nat.le_refl _) _).alloc (by simp) _
  have q2 : W0.heap[w.heap.size + 1]? = some (Obj.cells (u8s zero16).toArray 43 (0, 0)) := by
    rw [hW0, zero_cells]
    have := heap_alloc_new (w.alloc (.cells (u8s x).toArray 43)) (Obj.cells (Array.replicate 16 (Value.int .u8 0)) 43)
    rwa [World.size_alloc] at this
  have CR := Lib.hid hf
  have B0 := Lib.hid b0
  have HZ := Lib.hid q2
  clear b0 q2 hf
  by_cases hneg : i < 0
  · go_enter Tryd.func44, Tryd.ntmps44
    go_wp2_with fail
    try change Code.wp _ _ _ _ ((w.alloc (.cells (u8s x).toArray 43)).alloc (Obj.cells (Array.replicate 16 (Value.int .u8 0)) 43))
    rw [← hW0]
    clear hW0
    refine wp_region_rely3 (by kernel_rfl) 3 (by kernel_rfl) (by kernel_rfl) (EZ w.heap.size (w.heap.size + 1)) (EZ.refl _ _) EZ.trans (fun ix => match ix with
      | 0 => fun _ v => v = .agg (u8s zero16).toArray
      | 1 => fun _ v => v = errV aR
      | 2 => fun _ v => v = undef
      | _ => fun _ _ => False) ?_
    simp (maxSteps := 10000000) only [Rely, List.take_succ_cons, List.take_zero, List.drop_succ_cons, List.drop_zero, Nat.reduceAdd, Nat.zero_add, Act.put, List.setIfInBounds_toArray, List.set_cons_succ, List.set_cons_zero]
    refine ⟨?_, ?_, ?_, ?_⟩
    · refine step_plain rfl fun vs wq hE hd => ?_
      exact gives_val (.agg (u8s zero16).toArray) (w' := wq) (by rw [zero_cells]; go_simp; rfl) ⟨EZ.refl _ _ _, fun _ _ => rfl⟩
    · refine step_plain rfl fun vs wq hE hd => ?_
      have hc := ez_cell B0.out hE CR.out
      exact gives_loadAt 57 _ rfl (.pointer (some ⟨1, 0, none⟩)) (errV aR) rfl (by go_simp) ⟨EZ.refl _ _ _, fun _ _ => rfl⟩
    · refine step_plain rfl fun vs wq hE hd => ?_
      refine gives_store_row 43 _ _ rfl (w.heap.size + 1) rfl (u8s zero16) (hd.1) 43 ⟨_, by rw [List.size_toArray], hE.2 HZ.out⟩ (hi43 _ zero16_len) (one_u8s _) fun w3 hp3 => ⟨⟨hp3.below (Below.refl _ _) (by omega), fun _ => hp3.blk⟩, fun _ _ => rfl⟩
    · intro vs w2 hE hR
      have h1 : vs 1 = errV aR := hR 1 (by omega)
      rw [h1]
      have HB2 := Lib.hid (B0.out.drew.trans hE.1)
      have HZ2 := Lib.hid (hE.2 HZ.out)
      clear hR hE h1
      go_wp2_with fail
      refine bodyPost_ret (v := .tuple #[.agg (u8s zero16).toArray, errV aR]) (results_cell_row_tmp rfl _ _ (w.heap.size + 1) 43 _ (0, 0) _ rfl HZ2.out Tryd.underlying43 rfl (by simpa using hi43 _ zero16_len) rfl) rfl ⟨rfl, HB2.out⟩
  · have hbig : (32 : Int) ≤ i := by omega
    go_enter Tryd.func44, Tryd.ntmps44
    go_wp2_with fail
    try change Code.wp _ _ _ _ ((w.alloc (.cells (u8s x).toArray 43)).alloc (Obj.cells (Array.replicate 16 (Value.int .u8 0)) 43))
    rw [← hW0]
    clear hW0
    refine wp_region_rely3 (by kernel_rfl) 3 (by kernel_rfl) (by kernel_rfl) (EZ w.heap.size (w.heap.size + 1)) (EZ.refl _ _) EZ.trans (fun ix => match ix with
      | 0 => fun _ v => v = .agg (u8s zero16).toArray
      | 1 => fun _ v => v = errV aR
      | 2 => fun _ v => v = undef
      | _ => fun _ _ => False) ?_
    simp (maxSteps := 10000000) only [Rely, List.take_succ_cons, List.take_zero, List.drop_succ_cons, List.drop_zero, Nat.reduceAdd, Nat.zero_add, Act.put, List.setIfInBounds_toArray, List.set_cons_succ, List.set_cons_zero]
    refine ⟨?_, ?_, ?_, ?_⟩
    · refine step_plain rfl fun vs wq hE hd => ?_
      exact gives_val (.agg (u8s zero16).toArray) (w' := wq) (by rw [zero_cells]; go_simp; rfl) ⟨EZ.refl _ _ _, fun _ _ => rfl⟩
    · refine step_plain rfl fun vs wq hE hd => ?_
      have hc := ez_cell B0.out hE CR.out
      exact gives_loadAt 57 _ rfl (.pointer (some ⟨1, 0, none⟩)) (errV aR) rfl (by go_simp) ⟨EZ.refl _ _ _, fun _ _ => rfl⟩
    · refine step_plain rfl fun vs wq hE hd => ?_
      refine gives_store_row 43 _ _ rfl (w.heap.size + 1) rfl (u8s zero16) (hd.1) 43 ⟨_, by rw [List.size_toArray], hE.2 HZ.out⟩ (hi43 _ zero16_len) (one_u8s _) fun w3 hp3 => ⟨⟨hp3.below (Below.refl _ _) (by omega), fun _ => hp3.blk⟩, fun _ _ => rfl⟩
    · intro vs w2 hE hR
      have h1 : vs 1 = errV aR := hR 1 (by omega)
      rw [h1]
      have HB2 := Lib.hid (B0.out.drew.trans hE.1)
      have HZ2 := Lib.hid (hE.2 HZ.out)
      clear hR hE h1
      go_wp2_with fail
      refine bodyPost_ret (v := .tuple #[.agg (u8s zero16).toArray, errV aR]) (results_cell_row_tmp rfl _ _ (w.heap.size + 1) 43 _ (0, 0) _ rfl HZ2.out Tryd.underlying43 rfl (by simpa using hi43 _ zero16_len) rfl) rfl ⟨rfl, HB2.out⟩

set_option maxHeartbeats 8000000 in
set_option maxRecDepth 100000 in
theorem climb_form (x : List Int) (i : Int) (A : Option Addr) (k c : Nat) (aF : Addr) (w : World) (h0 : 0 ≤ i) (h1 : i < 32) (hne : k ≠ 5) (hf : w.cell? ⟨0, 0, none⟩ = some (errV aF)) :
    Calls Tryd.prog 44 #[.agg (u8s x).toArray, .int .i64 i, .slice A k c] w fun e w' => e = .returned (.tuple #[.agg (u8s zero16).toArray, errV aF]) ∧ Below w.heap.size w w' := by
  have hi43 : ∀ V : List Int, V.length = 16 → (Tryd.prog.info? 43).map (·.size) = some (u8s V).length := fun V h => by rw [u8s_len', h]; exact Tryd.size43
  obtain ⟨W0, hW0⟩ : ∃ W0, W0 = (w.alloc (.cells (u8s x).toArray 43)).alloc (Obj.cells (Array.replicate 16 (Value.int .u8 0)) 43) := ⟨_, rfl⟩
  have b0 : Below w.heap.size w W0 := by rw [hW0]; exact ((Below.refl _ _).alloc (Nat.le_refl _) _).alloc (by simp) _
  have q2 : W0.heap[w.heap.size + 1]? = some (Obj.cells (u8s zero16).toArray 43 (0, 0)) := by
    rw [hW0, zero_cells]
    have := heap_alloc_new (w.alloc (.cells (u8s x).toArray 43)) (Obj.cells (Array.replicate 16 (Value.int .u8 0)) 43)
    rwa [World.size_alloc] at this
  have CR := Lib.hid hf
  have B0 := Lib.hid b0
  have HZ := Lib.hid q2
  clear b0 q2 hf
  have hkb : ((k : Int) != 5) = true := by simp; omega
  have hn0 : ¬ i < 0 := by omega
  have hn1 : ¬ (32 : Int) ≤ i := by omega
  go_enter Tryd.func44, Tryd.ntmps44
  go_wp2_with fail
  try change Code.wp _ _ _ _ ((w.alloc (.cells (u8s x).toArray 43)).alloc (Obj.cells (Array.replicate 16 (Value.int .u8 0)) 43))
  rw [← hW0]
  clear hW0
  refine wp_region_rely3 (by kernel_rfl) 3 (by kernel_rfl) (by kernel_rfl) (EZ w.heap.size (w.heap.size + 1)) (EZ.refl _ _) EZ.trans (fun ix => match ix with
    | 0 => fun _ v => v = .agg (u8s zero16).toArray
    | 1 => fun _ v => v = errV aF
    | 2 => fun _ v => v = undef
    | _ => fun _ _ => False) ?_
  simp (maxSteps := 10000000) only [Rely, List.take_succ_cons, List.take_zero, List.drop_succ_cons, List.drop_zero, Nat.reduceAdd, Nat.zero_add, Act.put, List.setIfInBounds_toArray, List.set_cons_succ, List.set_cons_zero]
  refine ⟨?_, ?_, ?_, ?_⟩
  · refine step_plain rfl fun vs wq hE hd => ?_
    exact gives_val (.agg (u8s zero16).toArray) (w' := wq) (by rw [zero_cells]; go_simp; rfl) ⟨EZ.refl _ _ _, fun _ _ => rfl⟩
  · refine step_plain rfl fun vs wq hE hd => ?_
    have hc := ez_cell B0.out hE CR.out
    exact gives_loadAt 57 _ rfl (.pointer (some ⟨0, 0, none⟩)) (errV aF) rfl (by go_simp) ⟨EZ.refl _ _ _, fun _ _ => rfl⟩
  · refine step_plain rfl fun vs wq hE hd => ?_
    refine gives_store_row 43 _ _ rfl (w.heap.size + 1) rfl (u8s zero16) (hd.1) 43 ⟨_, by rw [List.size_toArray], hE.2 HZ.out⟩ (hi43 _ zero16_len) (one_u8s _) fun w3 hp3 => ⟨⟨hp3.below (Below.refl _ _) (by omega), fun _ => hp3.blk⟩, fun _ _ => rfl⟩
  · intro vs w2 hE hR
    have h1 : vs 1 = errV aF := hR 1 (by omega)
    rw [h1]
    have HB2 := Lib.hid (B0.out.drew.trans hE.1)
    have HZ2 := Lib.hid (hE.2 HZ.out)
    clear hR hE h1
    go_wp2_with fail
    refine bodyPost_ret (v := .tuple #[.agg (u8s zero16).toArray, errV aF]) (results_cell_row_tmp rfl _ _ (w.heap.size + 1) 43 _ (0, 0) _ rfl HZ2.out Tryd.underlying43 rfl (by simpa using hi43 _ zero16_len) rfl) rfl ⟨rfl, HB2.out⟩
end Go.Proofs.YtdedphhohiioiaaDoor
/- The trees' look at life. -/
namespace Go.Proofs.YtdedphhohiioiaaDoor
open Go.RowKit

def one16 : List Int := [1, 0, 0, 0, 0, 0, 0, 0, 0, 0, 0, 0, 0, 0, 0, 0]
def two16 : List Int := [2, 0, 0, 0, 0, 0, 0, 0, 0, 0, 0, 0, 0, 0, 0, 0]
theorem join_apart : decide (joinC one16 two16 = joinC two16 one16) = false := by kernel_rfl
theorem one16_ok : u8s_ok one16 := by unfold u8s_ok one16; decide
theorem two16_ok : u8s_ok two16 := by unfold u8s_ok two16; decide

set_option maxHeartbeats 4000000 in
set_option maxRecDepth 100000 in
theorem alive_trees (w : World) (hk : w.rangeAt 18 0 (u32s kk)) (h18 : 18 < w.heap.size) :
    Calls Tryd.prog 41 #[] w fun e w' => e = .returned (.bool true) ∧ Below w.heap.size w w' := by
  have HK := Lib.hid hk
  clear hk
  obtain ⟨L1, hL1⟩ : ∃ l, l = one16 := ⟨_, rfl⟩
  obtain ⟨L2, hL2⟩ : ∃ l, l = two16 := ⟨_, rfl⟩
  obtain ⟨W0, hW0⟩ : ∃ W0, W0 = (w.alloc (.cells (u8s one16).toArray 43)).alloc (.cells (u8s two16).toArray 43) := ⟨_, rfl⟩
  have hx0 : W0.heap[w.heap.size]? = some (.cells (u8s L1).toArray 43 (0, 0)) := by rw [hW0, hL1]; exact heap_alloc2_old w _ _
  have hy0 : W0.heap[w.heap.size + 1]? = some (.cells (u8s L2).toArray 43 (0, 0)) := by
    rw [hW0, hL2]
    have := heap_alloc_new (w.alloc (.cells (u8s one16).toArray 43)) (.cells (u8s two16).toArray 43)
    rw [World.size_alloc] at this
    exact this
  have hb0 : Below w.heap.size w W0 := by rw [hW0]; exact ((Below.refl _ _).alloc (Nat.le_refl _) _).alloc (by simp) _
  have g1 : L1.length = 16 ∧ u8s_ok L1 := by rw [hL1]; exact ⟨rfl, one16_ok⟩
  have g2 : L2.length = 16 ∧ u8s_ok L2 := by rw [hL2]; exact ⟨rfl, two16_ok⟩
  have hi1 : (Tryd.prog.info? 43).map (·.size) = some (u8s L1).length := by rw [u8s_len', g1.1]; exact Tryd.size43
  have hi2 : (Tryd.prog.info? 43).map (·.size) = some (u8s L2).length := by rw [u8s_len', g2.1]; exact Tryd.size43
  obtain ⟨J1, hJ1⟩ : ∃ j, j = joinC L1 L2 := ⟨_, rfl⟩
  obtain ⟨J2, hJ2⟩ : ∃ j, j = joinC L2 L1 := ⟨_, rfl⟩
  have hne : decide (J1 = J2) = false := by rw [hJ1, hJ2, hL1, hL2]; exact join_apart
  have hj1 : J1.length = 16 := by rw [hJ1]; exact (join_good _ _).1
  have hj2 : J2.length = 16 := by rw [hJ2]; exact (join_good _ _).1
  have hsame := run_same16 J1 hj1
  have RX := Lib.hid (blk_range hx0)
  have RY := Lib.hid (blk_range hy0)
  have HB0 := Lib.hid hb0
  have G1 := Lib.hid g1
  have G2 := Lib.hid g2
  have I1 := Lib.hid hi1
  have I2 := Lib.hid hi2
  have HJ1 := Lib.hid hJ1.symm
  have HJ2 := Lib.hid hJ2.symm
  have HNE := Lib.hid hne
  have HJL1 := Lib.hid hj1
  have HJL2 := Lib.hid hj2
  clear hx0 hy0 hb0 g1 g2 hi1 hi2 hJ1 hJ2 hne hj1 hj2 hL1 hL2
  go_enter Tryd.func41, Tryd.ntmps41
  go_wp2_with fail
  change Code.wp _ _ _ _ ((w.alloc (.cells (u8s one16).toArray 43)).alloc (.cells (u8s two16).toArray 43))
  rw [← hW0]
  clear hW0
  refine wp_region_rely (by kernel_rfl) 16 (by kernel_rfl) (by kernel_rfl) Ext Ext.refl Ext.trans (fun ix => match ix with
    | 0 => fun _ v => v = .agg (u8s L1).toArray
    | 1 => fun _ v => v = .agg (u8s L2).toArray
    | 2 => fun _ v => v = .agg (u8s J1).toArray
    | 3 => fun _ v => v = .agg (u8s L2).toArray
    | 4 => fun _ v => v = .agg (u8s L1).toArray
    | 5 => fun _ v => v = .agg (u8s J2).toArray
    | 6 => fun _ v => v = .bool true
    | 7 => fun _ v => v = .bool true
    | 8 => fun _ v => v = .agg (u8s L1).toArray
    | 9 => fun _ v => v = .agg (u8s L2).toArray
    | 10 => fun _ v => v = .agg (u8s J1).toArray
    | 11 => fun _ v => v = .agg (u8s L1).toArray
    | 12 => fun _ v => v = .agg (u8s L2).toArray
    | 13 => fun _ v => v = .agg (u8s J1).toArray
    | 14 => fun _ v => v = .bool true
    | 15 => fun _ v => v = .bool true
    | _ => fun _ _ => False) ?_
  simp (maxSteps := 10000000) only [Rely, List.take_succ_cons, List.take_zero, List.drop_succ_cons, List.drop_zero, Nat.reduceAdd, Nat.zero_add, Act.put, List.setIfInBounds_toArray, List.set_cons_succ, List.set_cons_zero]
  refine ⟨?_, ?_, ?_, ?_, ?_, ?_, ?_, ?_, ?_, ?_, ?_, ?_, ?_, ?_, ?_, ?_, ?_⟩
  · refine step_plain rfl fun vs w1 hE hd => ?_
    exact gives_load_row 43 _ rfl w.heap.size 0 rfl (u8s L1) _ (range_below RX.out (ext_of_drew hE)) Tryd.underlying43 rfl I1.out ⟨Ext.refl _, fun _ _ => rfl⟩
  · refine step_plain rfl fun vs w1 hE hd => ?_
    exact gives_load_row 43 _ rfl (w.heap.size + 1) 0 rfl (u8s L2) _ (range_below RY.out (ext_of_drew hE)) Tryd.underlying43 rfl I2.out ⟨Ext.refl _, fun _ _ => rfl⟩
  · refine step_plain rfl fun vs w1 hE hd => ?_
    refine gives_call 54 Tryd.call54 _ _ rfl rfl [.agg (u8s L1).toArray, .agg (u8s L2).toArray] ?_ ?_
    · show [vs 0, vs 1] = _
      rw [show vs 0 = _ from (hd.1), show vs 1 = _ from (hd.2.1)]
    · refine (join_any L1 L2 G1.out.1 G1.out.2 G2.out.1 G2.out.2 w1 (range_below HK.out (HB0.out.trans (Below.mono (ext_of_drew hE) HB0.out.size))) (by have := (HB0.out.trans (Below.mono (ext_of_drew hE) HB0.out.size)).size; omega)).mono ?_
      rintro e w2 ⟨rfl, hb⟩
      exact ⟨_, rfl, hb, fun _ _ => congrArg (fun o => Value.agg (u8s o).toArray) HJ1.out⟩
  · refine step_plain rfl fun vs w1 hE hd => ?_
    exact gives_load_row 43 _ rfl (w.heap.size + 1) 0 rfl (u8s L2) _ (range_below RY.out (ext_of_drew hE)) Tryd.underlying43 rfl I2.out ⟨Ext.refl _, fun _ _ => rfl⟩
  · refine step_plain rfl fun vs w1 hE hd => ?_
    exact gives_load_row 43 _ rfl w.heap.size 0 rfl (u8s L1) _ (range_below RX.out (ext_of_drew hE)) Tryd.underlying43 rfl I1.out ⟨Ext.refl _, fun _ _ => rfl⟩
  · refine step_plain rfl fun vs w1 hE hd => ?_
    refine gives_call 54 Tryd.call54 _ _ rfl rfl [.agg (u8s L2).toArray, .agg (u8s L1).toArray] ?_ ?_
    · show [vs 3, vs 4] = _
      rw [show vs 3 = _ from (hd.1), show vs 4 = _ from (hd.2.1)]
    · refine (join_any L2 L1 G2.out.1 G2.out.2 G1.out.1 G1.out.2 w1 (range_below HK.out (HB0.out.trans (Below.mono (ext_of_drew hE) HB0.out.size))) (by have := (HB0.out.trans (Below.mono (ext_of_drew hE) HB0.out.size)).size; omega)).mono ?_
      rintro e w2 ⟨rfl, hb⟩
      exact ⟨_, rfl, hb, fun _ _ => congrArg (fun o => Value.agg (u8s o).toArray) HJ2.out⟩
  · refine step_plain rfl fun vs w1 hE hd => ?_
    exact gives_binOp .neq 43 _ _ _ rfl (.agg (u8s J1).toArray) (.agg (u8s J2).toArray) (.bool true) (show vs 2 = _ from (hd.1)) (show vs 5 = _ from (hd.2.1)) (by go_simp) (by rw [run_neq43 J1 J2 HJL1.out HJL2.out, HNE.out]; rfl) ⟨Ext.refl _, fun _ _ => rfl⟩
  · refine step_plain rfl fun vs w1 hE hd => ?_
    exact gives_move _ (.bool true) (.inl rfl) (show vs 6 = _ from hd.1) ⟨Ext.refl _, fun _ _ => rfl⟩
  · refine step_guard 7 true 12 rfl rfl (fun _ => rfl) fun vs w1 hE hd => ⟨hd.1, ?_⟩
    exact gives_load_row 43 _ rfl w.heap.size 0 rfl (u8s L1) _ (range_below RX.out (ext_of_drew hE)) Tryd.underlying43 rfl I1.out ⟨Ext.refl _, fun _ _ => rfl⟩
  · refine step_guard 7 true 12 rfl rfl (fun _ => rfl) fun vs w1 hE hd => ⟨hd.1, ?_⟩
    exact gives_load_row 43 _ rfl (w.heap.size + 1) 0 rfl (u8s L2) _ (range_below RY.out (ext_of_drew hE)) Tryd.underlying43 rfl I2.out ⟨Ext.refl _, fun _ _ => rfl⟩
  · refine step_guard 7 true 12 rfl rfl (fun _ => rfl) fun vs w1 hE hd => ⟨hd.2.2.1, ?_⟩
    refine gives_call 54 Tryd.call54 _ _ rfl rfl [.agg (u8s L1).toArray, .agg (u8s L2).toArray] ?_ ?_
    · show [vs 8, vs 9] = _
      rw [show vs 8 = _ from (hd.1), show vs 9 = _ from (hd.2.1)]
    · refine (join_any L1 L2 G1.out.1 G1.out.2 G2.out.1 G2.out.2 w1 (range_below HK.out (HB0.out.trans (Below.mono (ext_of_drew hE) HB0.out.size))) (by have := (HB0.out.trans (Below.mono (ext_of_drew hE) HB0.out.size)).size; omega)).mono ?_
      rintro e w2 ⟨rfl, hb⟩
      exact ⟨_, rfl, hb, fun _ _ => congrArg (fun o => Value.agg (u8s o).toArray) HJ1.out⟩
  · refine step_guard 7 true 12 rfl rfl (fun _ => rfl) fun vs w1 hE hd => ⟨hd.1, ?_⟩
    exact gives_load_row 43 _ rfl w.heap.size 0 rfl (u8s L1) _ (range_below RX.out (ext_of_drew hE)) Tryd.underlying43 rfl I1.out ⟨Ext.refl _, fun _ _ => rfl⟩
  · refine step_guard 7 true 12 rfl rfl (fun _ => rfl) fun vs w1 hE hd => ⟨hd.1, ?_⟩
    exact gives_load_row 43 _ rfl (w.heap.size + 1) 0 rfl (u8s L2) _ (range_below RY.out (ext_of_drew hE)) Tryd.underlying43 rfl I2.out ⟨Ext.refl _, fun _ _ => rfl⟩
  · refine step_guard 7 true 12 rfl rfl (fun _ => rfl) fun vs w1 hE hd => ⟨hd.2.2.2.1, ?_⟩
    refine gives_call 80 Tryd.call80 _ _ rfl rfl [.agg (u8s L1).toArray, .agg (u8s L2).toArray] ?_ ?_
    · show [vs 11, vs 12] = _
      rw [show vs 11 = _ from (hd.1), show vs 12 = _ from (hd.2.1)]
    · refine (refJoin_any L1 L2 G1.out.1 G1.out.2 G2.out.1 G2.out.2 w1).mono ?_
      rintro e w2 ⟨rfl, hb⟩
      exact ⟨_, rfl, hb, fun _ _ => congrArg (fun o => Value.agg (u8s o).toArray) HJ1.out⟩
  · refine step_guard 7 true 12 rfl rfl (fun _ => rfl) fun vs w1 hE hd => ⟨hd.2.2.1, ?_⟩
    exact gives_binOp .eql 43 _ _ _ rfl (.agg (u8s J1).toArray) (.agg (u8s J1).toArray) (.bool true) (show vs 10 = _ from hd.1) (show vs 13 = _ from hd.2.1) (by go_simp) (by go_simp) ⟨Ext.refl _, fun _ _ => rfl⟩
  · refine step_plain rfl fun vs w1 hE hd => ?_
    exact gives_pick _ _ _ (.bool true) true rfl (show vs 7 = _ from hd.1) (show vs 14 = _ from hd.2.1) ⟨Ext.refl _, fun _ _ => rfl⟩
  · intro vs w2 hE hR
    have h15 : vs 15 = .bool true := hR 15 (by omega)
    rw [h15]
    have hfin : Below w.heap.size w w2 := HB0.out.trans (Below.mono (ext_of_drew hE) HB0.out.size)
    clear hR hE h15
    go_wp2
    go_ret
    exact ⟨rfl, hfin⟩
end Go.Proofs.YtdedphhohiioiaaDoor
/- TreesClimbs: what the law does. -/
namespace Go.Proofs.YtdedphhohiioiaaDoor
open Go.RowKit Go.Shelf

set_option maxHeartbeats 8000000 in
set_option maxRecDepth 100000 in
theorem treesClimbs_any (x : List Int) (hl : x.length = 16) (hx : u8s_ok x) (i : Int) (A : Option Addr) (k c : Nat) (ds : List (List Int)) (al : List Addr) (w : World) (hd : Dgs w (.slice A k c) ds) (hkl : k = ds.length) (hS : SenN w al) (hk : w.rangeAt 18 0 (u32s kk)) (h18 : 18 < w.heap.size) :
    Calls Tryd.prog 12 #[.agg (u8s x).toArray, .int .i64 i, .slice A k c] w fun e w' => e = .returned (.bool true) ∧ Below w.heap.size w w' := by
  have hi43 : ∀ V : List Int, V.length = 16 → (Tryd.prog.info? 43).map (·.size) = some (u8s V).length := fun V h => by rw [u8s_len', h]; exact Tryd.size43
  obtain ⟨W0, hW0⟩ : ∃ W0, W0 = w.alloc (.cells (u8s x).toArray 43) := ⟨_, rfl⟩
  have b0 : Below w.heap.size w W0 := by rw [hW0]; exact (Below.refl _ _).alloc (Nat.le_refl _) _
  have q0 : W0.rangeAt w.heap.size 0 (u8s x) := by rw [hW0]; exact range_new w (u8s x) 43
  have B0 := Lib.hid b0
  have Q0 := Lib.hid q0
  have HD := Lib.hid hd
  have HKL := Lib.hid hkl
  have HL := Lib.hid hl
  have HX := Lib.hid hx
  have HS := Lib.hid hS
  have HK := Lib.hid hk
  clear b0 q0 hd hkl hl hx hS hk
  go_enter Tryd.func12, Tryd.ntmps12
  go_wp2_with fail
  change Calls _ _ _ (w.alloc (.cells (u8s x).toArray 43)) _
  rw [← hW0]
  clear hW0
  refine (alive_trees W0 (range_below HK.out B0.out) (Nat.lt_of_lt_of_le h18 B0.out.size)).mono ?_
  rintro e w1 ⟨rfl, hb1⟩
  have B1 := Lib.hid (B0.out.trans (hb1.mono B0.out.size))
  have R1 := Lib.hid (range_below Q0.out hb1)
  clear hb1 B0 Q0
  by_cases h100 : 20 < k
  · have hki : (20 : Int) < k := by omega
    go_wp2_with fail
    go_ret
    exact ⟨rfl, B1.out⟩
  have hki : ¬ (20 : Int) < k := by omega
  have D1 := Lib.hid (HD.out.below B1.out)
  have S1 := Lib.hid (HS.out.below B1.out)
  have K1 := Lib.hid (range_below HK.out B1.out)
  have h181 : 18 < w1.heap.size := Nat.lt_of_lt_of_le h18 B1.out.size
  by_cases hr : 0 ≤ i ∧ i < 32
  · obtain ⟨h0, h1⟩ := hr
    have hn0 : ¬ i < 0 := by omega
    have hn1 : ¬ (31 : Int) < i := by omega
    by_cases hk5 : k = 5
    · subst hk5
      obtain ⟨n, rfl⟩ : ∃ n : Nat, i = n := ⟨i.toNat, by omega⟩
      go_wp2_with (refine wpList_load_g rfl 43 (.tmp 3) rfl w.heap.size 0 rfl (u8s x) _ R1.out Tryd.underlying43 rfl (hi43 x HL.out) ?_)
      refine (climb_in x HL.out HX.out n (by omega) ds A 5 c w1 D1.out HKL.out rfl K1.out h181).mono ?_
      rintro e w2 ⟨rfl, hb2⟩
      obtain ⟨ST, hST⟩ : ∃ s, s = climbAt x n ds 5 := ⟨_, rfl⟩
      have hsl : ST.length = 16 := by rw [hST]; exact (climb_good x n ds HL.out HX.out 5).1
      rw [← hST]
      have HST := Lib.hid hST
      have HSL := Lib.hid hsl
      have HHN := Lib.hid (has_new w2 (Array.replicate 16 (Value.int .u8 0)) 43 (u8s ST).length (by rw [u8s_len', hsl]; rfl))
      have B2 := Lib.hid (B1.out.trans (hb2.mono B1.out.size))
      have R2 := Lib.hid (range_below R1.out hb2)
      have D2 := Lib.hid (D1.out.below hb2)
      clear hST hsl hb2
      go_wp2_with (refine wpList_store_row rfl 43 (.tmp 7) (.tmp 19) rfl w2.heap.size rfl (u8s ST) rfl 43 HHN.out (hi43 ST HSL.out) (one_u8s _) ?_; intro w3 hp3; have L3 : Below w2.heap.size w2 w3 := (hp3.below ((Below.refl _ _).alloc (Nat.le_refl _) _) (Nat.le_refl _)); have RS := Lib.hid (blk_range hp3.blk); have B3 := Lib.hid (B2.out.trans (L3.mono B2.out.size)); have R3 := Lib.hid (range_below R2.out L3); have D3 := Lib.hid (D2.out.below L3); clear hp3 L3)
      refine wp_region_rely (by kernel_rfl) 10 (by kernel_rfl) (by kernel_rfl) Ext Ext.refl Ext.trans (fun ix => match ix with
        | 0 => fun _ v => v = .nilIface
        | 1 => fun _ v => v = .bool true
        | 2 => fun _ v => v = .bool true
        | 3 => fun _ v => v = .agg (u8s ST).toArray
        | 4 => fun _ v => v = .agg (u8s x).toArray
        | 5 => fun _ v => v = .int .i64 (n : Int)
        | 6 => fun _ v => v = .slice A 5 c
        | 7 => fun _ v => v = .agg (u8s ST).toArray
        | 8 => fun _ v => v = .bool true
        | 9 => fun _ v => v = .bool true
        | _ => fun _ _ => False) ?_
      simp (maxSteps := 10000000) only [Rely, List.take_succ_cons, List.take_zero, List.drop_succ_cons, List.drop_zero, Nat.reduceAdd, Nat.zero_add, Act.put, List.setIfInBounds_toArray, List.set_cons_succ, List.set_cons_zero]
      refine ⟨?_, ?_, ?_, ?_, ?_, ?_, ?_, ?_, ?_, ?_, ?_⟩
      · refine step_plain rfl fun vs wq hE hd => ?_
        exact gives_move _ (.nilIface) (.inl rfl) rfl ⟨Ext.refl _, fun _ _ => rfl⟩
      · refine step_plain rfl fun vs wq hE hd => ?_
        exact gives_binOp .eql 57 _ _ _ rfl (.nilIface) (Value.nilIface) (.bool true) (show vs 0 = _ from hd.1) rfl (by go_simp) (by go_simp) ⟨Ext.refl _, fun _ _ => rfl⟩
      · refine step_plain rfl fun vs wq hE hd => ?_
        exact gives_move _ (.bool true) (.inl rfl) (show vs 1 = _ from hd.1) ⟨Ext.refl _, fun _ _ => rfl⟩
      · refine step_guard 2 true 50 rfl rfl (fun _ => rfl) fun vs wq hE hd => ⟨hd.1, ?_⟩
        exact gives_load_row 43 _ rfl w2.heap.size 0 rfl (u8s ST) _ (range_below RS.out (ext_of_drew hE)) Tryd.underlying43 rfl (hi43 ST HSL.out) ⟨Ext.refl _, fun _ _ => rfl⟩
      · refine step_guard 2 true 50 rfl rfl (fun _ => rfl) fun vs wq hE hd => ⟨hd.1, ?_⟩
        exact gives_load_row 43 _ rfl w.heap.size 0 rfl (u8s x) _ (range_below R3.out (ext_of_drew hE)) Tryd.underlying43 rfl (hi43 x HL.out) ⟨Ext.refl _, fun _ _ => rfl⟩
      · refine step_guard 2 true 50 rfl rfl (fun _ => rfl) fun vs wq hE hd => ⟨hd.1, ?_⟩
        exact gives_move _ (.int .i64 (n : Int)) (.inl rfl) rfl ⟨Ext.refl _, fun _ _ => rfl⟩
      · refine step_guard 2 true 50 rfl rfl (fun _ => rfl) fun vs wq hE hd => ⟨hd.1, ?_⟩
        exact gives_move _ (.slice A 5 c) (.inl rfl) rfl ⟨Ext.refl _, fun _ _ => rfl⟩
      · refine step_guard 2 true 50 rfl rfl (fun _ => rfl) fun vs wq hE hd => ⟨hd.2.2.2.1, ?_⟩
        refine gives_call 46 (enters_of Tryd.func46 (by kernel_rfl) rfl) _ _ rfl rfl [.agg (u8s x).toArray, .int .i64 (n : Int), .slice A 5 c] ?_ ?_
        · show [vs 4, vs 5, vs 6] = _
          rw [show vs 4 = _ from (hd.1), show vs 5 = _ from (hd.2.1), show vs 6 = _ from (hd.2.2.1)]
        · refine (refClimb_any x HL.out HX.out n (by omega) ds A 5 c wq (D3.out.below (ext_of_drew hE)) HKL.out (by omega)).mono ?_
          rintro _ w'' ⟨rfl, hb⟩
          exact ⟨_, rfl, hb, fun _ _ => by rw [HST.out]; rfl⟩
      · refine step_guard 2 true 50 rfl rfl (fun _ => rfl) fun vs wq hE hd => ⟨hd.2.2.1, ?_⟩
        have hsame := run_same16 ST HSL.out
        exact gives_binOp .eql 43 _ _ _ rfl (.agg (u8s ST).toArray) (.agg (u8s ST).toArray) (.bool true) (show vs 3 = _ from (hd.1)) (show vs 7 = _ from (hd.2.1)) (by go_simp) (by go_simp) ⟨Ext.refl _, fun _ _ => rfl⟩
      · refine step_plain rfl fun vs wq hE hd => ?_
        exact gives_pick _ _ _ (.bool true) true rfl (show vs 2 = _ from hd.1) (show vs 8 = _ from hd.2.1) ⟨Ext.refl _, fun _ _ => rfl⟩
      · intro vs wz hE hR
        have h9 : vs 9 = .bool true := hR 9 (by omega)
        have hb : Below w.heap.size w wz := B3.out.trans ((ext_of_drew hE).mono B3.out.size)
        have HB := Lib.hid hb
        rw [h9]
        clear hR hE h9 hb
        go_wp2
        go_ret
        exact ⟨rfl, HB.out⟩
    · have hkne : ((k : Int) != 5) = true := by simp; omega
      obtain ⟨aE, haE⟩ := sen_at S1.out 3 (by omega)
      have hcE := S1.out.cell 3 0 aE rfl haE
      go_wp2_with (refine wpList_load_g rfl 43 (.tmp 3) rfl w.heap.size 0 rfl (u8s x) _ R1.out Tryd.underlying43 rfl (hi43 x HL.out) ?_)
      refine (climb_form x i A k c aE w1 h0 h1 hk5 hcE).mono ?_
      rintro e w2 ⟨rfl, hb2⟩
      have HAE := Lib.hid haE
      have HHN := Lib.hid (has_new w2 (Array.replicate 16 (Value.int .u8 0)) 43 (u8s zero16).length (by rw [u8s_len', zero16_len]; rfl))
      have B2 := Lib.hid (B1.out.trans (hb2.mono B1.out.size))
      have S2 := Lib.hid (S1.out.below hb2)
      clear hb2 haE hcE
      go_wp2_with (first | (refine wpList_store_row rfl 43 (.tmp 7) (.tmp 19) rfl w2.heap.size rfl (u8s zero16) rfl 43 HHN.out (hi43 zero16 zero16_len) (one_u8s _) ?_; intro w3 hp3; have L3 : Below w2.heap.size w2 w3 := (hp3.below ((Below.refl _ _).alloc (Nat.le_refl _) _) (Nat.le_refl _)); have RS := Lib.hid (blk_range hp3.blk); have B3 := Lib.hid (B2.out.trans (L3.mono B2.out.size)); have S3 := Lib.hid (S2.out.below L3); clear hp3 L3) | (refine wpList_load_g rfl 43 (.tmp 7) rfl w2.heap.size 0 rfl (u8s zero16) _ RS.out Tryd.underlying43 rfl (hi43 _ zero16_len) ?_) | (refine wpList_eql43 rfl _ _ _ rfl zero16 zero16 rfl rfl zero16_len zero16_len (by go_simp) ?_; rw [decide_eq_true rfl]))
      refine (num_k S3.out 3 aE HAE.out 4 rfl).mono ?_
      rintro e w4 ⟨rfl, hb4⟩
      have B4 := Lib.hid (B3.out.trans (hb4.mono B3.out.size))
      clear hb4
      go_wp2_with fail
      go_ret
      exact ⟨rfl, B4.out⟩
  · by_cases hneg : i < 0
    · obtain ⟨aE, haE⟩ := sen_at S1.out 0 (by omega)
      have hcE := S1.out.cell 0 1 aE rfl haE
      go_wp2_with (refine wpList_load_g rfl 43 (.tmp 3) rfl w.heap.size 0 rfl (u8s x) _ R1.out Tryd.underlying43 rfl (hi43 x HL.out) ?_)
      refine (climb_range x i A k c aE w1 hr hcE).mono ?_
      rintro e w2 ⟨rfl, hb2⟩
      have HAE := Lib.hid haE
      have HHN := Lib.hid (has_new w2 (Array.replicate 16 (Value.int .u8 0)) 43 (u8s zero16).length (by rw [u8s_len', zero16_len]; rfl))
      have B2 := Lib.hid (B1.out.trans (hb2.mono B1.out.size))
      have S2 := Lib.hid (S1.out.below hb2)
      clear hb2 haE hcE
      go_wp2_with (first | (refine wpList_store_row rfl 43 (.tmp 7) (.tmp 19) rfl w2.heap.size rfl (u8s zero16) rfl 43 HHN.out (hi43 zero16 zero16_len) (one_u8s _) ?_; intro w3 hp3; have L3 : Below w2.heap.size w2 w3 := (hp3.below ((Below.refl _ _).alloc (Nat.le_refl _) _) (Nat.le_refl _)); have RS := Lib.hid (blk_range hp3.blk); have B3 := Lib.hid (B2.out.trans (L3.mono B2.out.size)); have S3 := Lib.hid (S2.out.below L3); clear hp3 L3) | (refine wpList_load_g rfl 43 (.tmp 7) rfl w2.heap.size 0 rfl (u8s zero16) _ RS.out Tryd.underlying43 rfl (hi43 _ zero16_len) ?_) | (refine wpList_eql43 rfl _ _ _ rfl zero16 zero16 rfl rfl zero16_len zero16_len (by go_simp) ?_; rw [decide_eq_true rfl]))
      refine (num_k S3.out 0 aE HAE.out 1 rfl).mono ?_
      rintro e w4 ⟨rfl, hb4⟩
      have B4 := Lib.hid (B3.out.trans (hb4.mono B3.out.size))
      clear hb4
      go_wp2_with fail
      go_ret
      exact ⟨rfl, B4.out⟩
    · have hbig : (31 : Int) < i := by omega
      obtain ⟨aE, haE⟩ := sen_at S1.out 0 (by omega)
      have hcE := S1.out.cell 0 1 aE rfl haE
      go_wp2_with (refine wpList_load_g rfl 43 (.tmp 3) rfl w.heap.size 0 rfl (u8s x) _ R1.out Tryd.underlying43 rfl (hi43 x HL.out) ?_)
      refine (climb_range x i A k c aE w1 hr hcE).mono ?_
      rintro e w2 ⟨rfl, hb2⟩
      have HAE := Lib.hid haE
      have HHN := Lib.hid (has_new w2 (Array.replicate 16 (Value.int .u8 0)) 43 (u8s zero16).length (by rw [u8s_len', zero16_len]; rfl))
      have B2 := Lib.hid (B1.out.trans (hb2.mono B1.out.size))
      have S2 := Lib.hid (S1.out.below hb2)
      clear hb2 haE hcE
      go_wp2_with (first | (refine wpList_store_row rfl 43 (.tmp 7) (.tmp 19) rfl w2.heap.size rfl (u8s zero16) rfl 43 HHN.out (hi43 zero16 zero16_len) (one_u8s _) ?_; intro w3 hp3; have L3 : Below w2.heap.size w2 w3 := (hp3.below ((Below.refl _ _).alloc (Nat.le_refl _) _) (Nat.le_refl _)); have RS := Lib.hid (blk_range hp3.blk); have B3 := Lib.hid (B2.out.trans (L3.mono B2.out.size)); have S3 := Lib.hid (S2.out.below L3); clear hp3 L3) | (refine wpList_load_g rfl 43 (.tmp 7) rfl w2.heap.size 0 rfl (u8s zero16) _ RS.out Tryd.underlying43 rfl (hi43 _ zero16_len) ?_) | (refine wpList_eql43 rfl _ _ _ rfl zero16 zero16 rfl rfl zero16_len zero16_len (by go_simp) ?_; rw [decide_eq_true rfl]))
      refine (num_k S3.out 0 aE HAE.out 1 rfl).mono ?_
      rintro e w4 ⟨rfl, hb4⟩
      have B4 := Lib.hid (B3.out.trans (hb4.mono B3.out.size))
      clear hb4
      go_wp2_with fail
      go_ret
      exact ⟨rfl, B4.out⟩
end Go.Proofs.YtdedphhohiioiaaDoor
