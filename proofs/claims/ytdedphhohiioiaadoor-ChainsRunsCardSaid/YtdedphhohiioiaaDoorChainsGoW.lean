/- The law ChainsGo, walked. -/
import Derived.Test.YtdedphhohiioiaaDoorRun
import Derived.Test.YtdedphhohiioiaaDoorChAlive
import Derived.Deep.QuietTactic
import Derived.BigQuiet
namespace Go.Proofs.YtdedphhohiioiaaDoor
open Go.RowKit

theorem run_join (l c : Int) (x : List Int) (f t : Int) (h0 : 0 ≤ f) (h1 : f ≤ t) (h2 : t ≤ 3) : runC l c (runC l c x 0 f) f t = runC l c x 0 t := by
  unfold runC
  rw [show (max f 0).toNat = (min f 3).toNat by omega]
  exact walk_join l c x _ _ _ (by omega) (by omega)
theorem run_good (l c : Int) (x : List Int) (f t : Int) (hl : x.length = 16) (hx : u8s_ok x) : (runC l c x f t).length = 16 ∧ u8s_ok (runC l c x f t) := walk_good l c x _ _ hl hx

set_option maxHeartbeats 4000000 in
set_option maxRecDepth 100000 in
theorem chainsGo_any (x : List Int) (hl : x.length = 16) (hx : u8s_ok x) (p0 p1 n0 n1 : Int) (hn0 : 0 ≤ n0) (hn1 : 0 ≤ n1) (w : World) (hk : w.rangeAt 18 0 (u32s kk)) (h18 : 18 < w.heap.size) :
    Calls Tryd.prog 9 #[.agg (u8s x).toArray, .agg #[.int .i64 p0, .int .i64 p1], .agg #[.int .u64 n0, .int .u64 n1]] w fun e w' => e = .returned (.bool true) ∧ Below w.heap.size w w' := by
  have HK := Lib.hid hk
  have HL := Lib.hid hl
  have HX := Lib.hid hx
  clear hk hl hx
  go_enter Tryd.func9, Tryd.ntmps9
  go_wp2_with fail
  obtain ⟨W0, hW0⟩ : ∃ W0, W0 = ((w.alloc (.cells (u8s x).toArray 43)).alloc (.cells #[.int .i64 p0, .int .i64 p1] 49)).alloc (.cells #[.int .u64 n0, .int .u64 n1] 50) := ⟨_, rfl⟩
  have q0 : W0.heap[w.heap.size]? = some (.cells (u8s x).toArray 43 (0, 0)) := by
    rw [hW0, Below.heap_alloc _ _ _ (by simp; omega), Below.heap_alloc _ _ _ (by simp)]
    exact heap_alloc_new w _
  have q1 : W0.heap[w.heap.size + 1]? = some (.cells #[.int .i64 p0, .int .i64 p1] 49 (0, 0)) := by
    rw [hW0, Below.heap_alloc _ _ _ (by simp)]
    have := heap_alloc_new (w.alloc (.cells (u8s x).toArray 43)) (.cells #[.int .i64 p0, .int .i64 p1] 49)
    simpa using this
  have q2 : W0.heap[w.heap.size + 1 + 1]? = some (.cells #[.int .u64 n0, .int .u64 n1] 50 (0, 0)) := by
    rw [hW0]
    have := heap_alloc_new ((w.alloc (.cells (u8s x).toArray 43)).alloc (.cells #[.int .i64 p0, .int .i64 p1] 49)) (.cells #[.int .u64 n0, .int .u64 n1] 50)
    simpa using this
  have hB0 : Below w.heap.size w W0 := by rw [hW0]; exact (((Below.refl _ _).alloc (Nat.le_refl _) _).alloc (by simp) _).alloc (by simp; omega) _
  rw [← hW0]
  clear hW0
  refine (alive_chains W0).mono ?_
  rintro e w1 ⟨rfl, hb1⟩
  have hB1 := hB0.trans (hb1.mono hB0.size)
  have r0 := blk_below q0 hb1
  have r1 := blk_below q1 hb1
  have r2 := blk_below q2 hb1
  have c40 : w1.cell? ⟨w.heap.size + 1, 0, none⟩ = some (.int .i64 p0) := blk_cell r1 0 _ rfl
  have c41 : w1.cell? ⟨w.heap.size + 1, 1, none⟩ = some (.int .i64 p1) := blk_cell r1 1 _ rfl
  have c50 : w1.cell? ⟨w.heap.size + 1 + 1, 0, none⟩ = some (.int .u64 n0) := blk_cell r2 0 _ rfl
  have c51 : w1.cell? ⟨w.heap.size + 1 + 1, 1, none⟩ = some (.int .u64 n1) := blk_cell r2 1 _ rfl
  have R0 := Lib.hid r0
  have B1 := Lib.hid hB1
  clear q0 q1 q2 hB0 hb1 hB1 r0 r1 r2
  go_wp2
  go_quiet (fail)
  go_wp2
  go_quiet (fail)
  have hi43 : ∀ V : List Int, V.length = 16 → (Tryd.prog.info? 43).map (·.size) = some (u8s V).length := fun V h => by rw [u8s_len', h]; exact Tryd.size43
  have RR : ∀ n, (w1.drewN n).rangeAt w.heap.size 0 (u8s x) := fun n => blk_range (w := w1.drewN n) R0.out
  have BD : ∀ n, Below w.heap.size w (w1.drewN n) := fun n => B1.out.trans ⟨rfl, rfl, rfl, Nat.le_refl _, fun _ _ => rfl⟩
  have hn4 : 0 ≤ n0 % 4 ∧ n0 % 4 ≤ 3 ∧ 0 ≤ n1 % 4 ∧ n1 % 4 ≤ 3 := by omega
  by_cases hgt : n1 % 4 < n0 % 4
  · go_wp2_with (refine wpList_load_g rfl 43 (.tmp 3) rfl w.heap.size 0 rfl (u8s x) _ (RR _) Tryd.underlying43 rfl (hi43 x HL.out) ?_)
    refine (run_any x HL.out HX.out p0 p1 0 (n1 % 4) _ (range_below HK.out (BD _)) (Nat.lt_of_lt_of_le h18 (BD _).size)).mono ?_
    rintro e w3 ⟨rfl, hb3⟩
    obtain ⟨V1, hV1⟩ : ∃ v, v = runC p0 p1 x 0 (n1 % 4) := ⟨_, rfl⟩
    rw [← hV1]
    obtain ⟨hl1, hx1⟩ := run_good p0 p1 x 0 (n1 % 4) HL.out HX.out
    rw [← hV1] at hl1 hx1
    have B3 := Lib.hid ((BD _).trans (hb3.mono (BD _).size))
    have RX3 := Lib.hid (range_below (RR _) hb3)
    have hh3 : ∀ Z : Array Value, Z.size = 16 → Has (w3.alloc (.cells Z 43)) w3.heap.size 43 (u8s V1).length := fun Z hZ => has_new w3 _ _ _ (by rw [hZ, u8s_len', hl1])
    have HV1 := Lib.hid hV1
    have HX1 := Lib.hid hx1
    clear hV1 hx1 hb3
    go_wp2_with (first | (refine wpList_store_row rfl 43 (.tmp 11) (.tmp 36) rfl w3.heap.size rfl (u8s V1) rfl 43 (hh3 _ rfl) (hi43 V1 hl1) (one_u8s _) ?_; intro w4 hp4; have L4 : Below w3.heap.size w3 w4 := (hp4.below ((Below.refl _ _).alloc (Nat.le_refl _) _) (Nat.le_refl _)); have RV4 := Lib.hid (blk_range hp4.blk); have B4 := Lib.hid (B3.out.trans (L4.mono B3.out.size)); have RX4 := Lib.hid (range_below RX3.out L4); clear hp4 L4) | (refine wpList_load_g rfl 43 (.tmp 11) rfl w3.heap.size 0 rfl (u8s V1) _ RV4.out Tryd.underlying43 rfl (hi43 V1 hl1) ?_))
    refine (run_any V1 hl1 HX1.out p0 p1 (n1 % 4) (n0 % 4) _ (range_below HK.out B4.out) (Nat.lt_of_lt_of_le h18 B4.out.size)).mono ?_
    rintro e w5 ⟨rfl, hb5⟩
    obtain ⟨V2, hV2⟩ : ∃ v, v = runC p0 p1 V1 (n1 % 4) (n0 % 4) := ⟨_, rfl⟩
    rw [← hV2]
    obtain ⟨hl2, hx2⟩ := run_good p0 p1 V1 (n1 % 4) (n0 % 4) hl1 HX1.out
    rw [← hV2] at hl2 hx2
    have hV2' : runC p0 p1 x 0 (n0 % 4) = V2 := by rw [hV2, HV1.out, run_join p0 p1 x (n1 % 4) (n0 % 4) (by omega) (by omega) (by omega)]
    obtain ⟨V3, hV3⟩ : ∃ v, v = runC p0 p1 x 0 3 := ⟨_, rfl⟩
    have hV3' : runC p0 p1 V2 (n0 % 4) 3 = V3 := by rw [← hV2', hV3, run_join p0 p1 x (n0 % 4) 3 (by omega) (by omega) (by omega)]
    have hl3 : V3.length = 16 := by rw [hV3]; exact (run_good p0 p1 x 0 3 HL.out HX.out).1
    have B5 := Lib.hid (B4.out.trans (hb5.mono B4.out.size))
    have RX5 := Lib.hid (range_below RX4.out hb5)
    have hh5 : ∀ Z : Array Value, Z.size = 16 → Has (w5.alloc (.cells Z 43)) w5.heap.size 43 (u8s V2).length := fun Z hZ => has_new w5 _ _ _ (by rw [hZ, u8s_len', hl2])
    have HV2 := Lib.hid hV2'
    have HV3 := Lib.hid hV3.symm
    have HV4 := Lib.hid hV3'
    have HX2 := Lib.hid hx2
    have hlx := HL.out
    have hsame2 := run_same16 V2 hl2
    have hsame3 := run_same16 V3 hl3
    clear hV2 hV2' hV3 hV3' hx2 hb5 HX1 HV1 B4 RX4 RV4 B3 RX3
    go_wp2_with (refine wpList_store_row rfl 43 (.tmp 12) (.tmp 42) rfl w5.heap.size rfl (u8s V2) rfl 43 (hh5 _ rfl) (hi43 V2 hl2) (one_u8s _) ?_; intro w6 hp6; have L6 : Below w5.heap.size w5 w6 := (hp6.below ((Below.refl _ _).alloc (Nat.le_refl _) _) (Nat.le_refl _)); have RV6 := Lib.hid (blk_range hp6.blk); have BS2 := Lib.hid (B5.out.trans (L6.mono B5.out.size)); have RX6 := Lib.hid (range_below RX5.out L6); clear hp6 L6)
    refine wp_region_rely (by kernel_rfl) 19 (by kernel_rfl) (by kernel_rfl) Ext Ext.refl Ext.trans (fun i => match i with
      | 0 => fun _ v => v = .agg (u8s V2).toArray
      | 1 => fun _ v => v = .agg (u8s x).toArray
      | 2 => fun _ v => v = .int .i64 p0
      | 3 => fun _ v => v = .int .i64 p1
      | 4 => fun _ v => v = .int .i64 (n0 % 4)
      | 5 => fun _ v => v = .agg (u8s V2).toArray
      | 6 => fun _ v => v = .bool true
      | 7 => fun _ v => v = .bool true
      | 8 => fun _ v => v = .agg (u8s V2).toArray
      | 9 => fun _ v => v = .int .i64 p0
      | 10 => fun _ v => v = .int .i64 p1
      | 11 => fun _ v => v = .int .i64 (n0 % 4)
      | 12 => fun _ v => v = .agg (u8s V3).toArray
      | 13 => fun _ v => v = .agg (u8s x).toArray
      | 14 => fun _ v => v = .int .i64 p0
      | 15 => fun _ v => v = .int .i64 p1
      | 16 => fun _ v => v = .agg (u8s V3).toArray
      | 17 => fun _ v => v = .bool true
      | 18 => fun _ v => v = .bool true
      | _ => fun _ _ => False) ?_
    simp (maxSteps := 10000000) only [Rely, List.take_succ_cons, List.take_zero, List.drop_succ_cons, List.drop_zero, Nat.reduceAdd, Nat.zero_add, Act.put, List.setIfInBounds_toArray, List.set_cons_succ, List.set_cons_zero]
    refine ⟨?_, ?_, ?_, ?_, ?_, ?_, ?_, ?_, ?_, ?_, ?_, ?_, ?_, ?_, ?_, ?_, ?_, ?_, ?_, ?_⟩
    · refine step_plain rfl fun vs w1 hE hd => ?_
      exact gives_load_row 43 _ rfl w5.heap.size 0 rfl (u8s V2) _ (range_below RV6.out (ext_of_drew hE)) Tryd.underlying43 rfl (hi43 V2 (by assumption)) ⟨Ext.refl _, fun _ _ => rfl⟩
    · refine step_plain rfl fun vs w1 hE hd => ?_
      exact gives_load_row 43 _ rfl w.heap.size 0 rfl (u8s x) _ (range_below RX6.out (ext_of_drew hE)) Tryd.underlying43 rfl (hi43 x (by assumption)) ⟨Ext.refl _, fun _ _ => rfl⟩
    · refine step_plain rfl fun vs w1 hE hd => ?_
      exact gives_move _ (.int .i64 p0) (.inl rfl) rfl ⟨Ext.refl _, fun _ _ => rfl⟩
    · refine step_plain rfl fun vs w1 hE hd => ?_
      exact gives_move _ (.int .i64 p1) (.inl rfl) rfl ⟨Ext.refl _, fun _ _ => rfl⟩
    · refine step_plain rfl fun vs w1 hE hd => ?_
      exact gives_move _ (.int .i64 (n0 % 4)) (.inl rfl) rfl ⟨Ext.refl _, fun _ _ => rfl⟩
    · refine step_plain rfl fun vs w1 hE hd => ?_
      refine gives_call 37 Tryd.call37 _ _ rfl rfl [.agg (u8s x).toArray, .int .i64 p0, .int .i64 p1, .int .i64 0, .int .i64 (n0 % 4)] ?_ ?_
      · show [vs 1, vs 2, vs 3, Value.int .i64 0, vs 4] = _
        rw [show vs 1 = _ from (hd.1), show vs 2 = _ from (hd.2.1), show vs 3 = _ from (hd.2.2.1), show vs 4 = _ from (hd.2.2.2.1)]
      · refine (run_any x HL.out HX.out p0 p1 0 (n0 % 4) w1 (range_below HK.out (BS2.out.trans (Below.mono (ext_of_drew hE) BS2.out.size))) (by have := (ext_of_drew hE).size; have := BS2.out.size; omega)).mono ?_
        rintro e w2 ⟨rfl, hb⟩
        exact ⟨_, rfl, hb, fun _ _ => congrArg (fun o => Value.agg (u8s o).toArray) HV2.out⟩
    · refine step_plain rfl fun vs w1 hE hd => ?_
      exact gives_binOp .eql 43 _ _ _ rfl (.agg (u8s V2).toArray) (.agg (u8s V2).toArray) (.bool true) (show vs 0 = _ from hd.1) (show vs 5 = _ from hd.2.1) (by go_simp) (by go_simp) ⟨Ext.refl _, fun _ _ => rfl⟩
    · refine step_plain rfl fun vs w1 hE hd => ?_
      exact gives_move _ (.bool true) (.inl rfl) (show vs 6 = _ from hd.1) ⟨Ext.refl _, fun _ _ => rfl⟩
    · refine step_guard 7 true 50 rfl rfl (fun _ => rfl) fun vs w1 hE hd => ⟨hd.1, ?_⟩
      exact gives_load_row 43 _ rfl w5.heap.size 0 rfl (u8s V2) _ (range_below RV6.out (ext_of_drew hE)) Tryd.underlying43 rfl (hi43 V2 (by assumption)) ⟨Ext.refl _, fun _ _ => rfl⟩
    · refine step_guard 7 true 50 rfl rfl (fun _ => rfl) fun vs w1 hE hd => ⟨hd.1, ?_⟩
      exact gives_move _ (.int .i64 p0) (.inl rfl) rfl ⟨Ext.refl _, fun _ _ => rfl⟩
    · refine step_guard 7 true 50 rfl rfl (fun _ => rfl) fun vs w1 hE hd => ⟨hd.1, ?_⟩
      exact gives_move _ (.int .i64 p1) (.inl rfl) rfl ⟨Ext.refl _, fun _ _ => rfl⟩
    · refine step_guard 7 true 50 rfl rfl (fun _ => rfl) fun vs w1 hE hd => ⟨hd.1, ?_⟩
      exact gives_move _ (.int .i64 (n0 % 4)) (.inl rfl) rfl ⟨Ext.refl _, fun _ _ => rfl⟩
    · refine step_guard 7 true 50 rfl rfl (fun _ => rfl) fun vs w1 hE hd => ⟨hd.2.2.2.2.1, ?_⟩
      refine gives_call 37 Tryd.call37 _ _ rfl rfl [.agg (u8s V2).toArray, .int .i64 p0, .int .i64 p1, .int .i64 (n0 % 4), .int .i64 3] ?_ ?_
      · show [vs 8, vs 9, vs 10, vs 11, Value.int .i64 3] = _
        rw [show vs 8 = _ from (hd.1), show vs 9 = _ from (hd.2.1), show vs 10 = _ from (hd.2.2.1), show vs 11 = _ from (hd.2.2.2.1)]
      · refine (run_any V2 hl2 HX2.out p0 p1 (n0 % 4) 3 w1 (range_below HK.out (BS2.out.trans (Below.mono (ext_of_drew hE) BS2.out.size))) (by have := (ext_of_drew hE).size; have := BS2.out.size; omega)).mono ?_
        rintro e w2 ⟨rfl, hb⟩
        exact ⟨_, rfl, hb, fun _ _ => congrArg (fun o => Value.agg (u8s o).toArray) HV4.out⟩
    · refine step_guard 7 true 50 rfl rfl (fun _ => rfl) fun vs w1 hE hd => ⟨hd.1, ?_⟩
      exact gives_load_row 43 _ rfl w.heap.size 0 rfl (u8s x) _ (range_below RX6.out (ext_of_drew hE)) Tryd.underlying43 rfl (hi43 x (by assumption)) ⟨Ext.refl _, fun _ _ => rfl⟩
    · refine step_guard 7 true 50 rfl rfl (fun _ => rfl) fun vs w1 hE hd => ⟨hd.1, ?_⟩
      exact gives_move _ (.int .i64 p0) (.inl rfl) rfl ⟨Ext.refl _, fun _ _ => rfl⟩
    · refine step_guard 7 true 50 rfl rfl (fun _ => rfl) fun vs w1 hE hd => ⟨hd.1, ?_⟩
      exact gives_move _ (.int .i64 p1) (.inl rfl) rfl ⟨Ext.refl _, fun _ _ => rfl⟩
    · refine step_guard 7 true 50 rfl rfl (fun _ => rfl) fun vs w1 hE hd => ⟨hd.2.2.2.2.1, ?_⟩
      refine gives_call 37 Tryd.call37 _ _ rfl rfl [.agg (u8s x).toArray, .int .i64 p0, .int .i64 p1, .int .i64 0, .int .i64 3] ?_ ?_
      · show [vs 13, vs 14, vs 15, Value.int .i64 0, Value.int .i64 3] = _
        rw [show vs 13 = _ from (hd.1), show vs 14 = _ from (hd.2.1), show vs 15 = _ from (hd.2.2.1)]
      · refine (run_any x HL.out HX.out p0 p1 0 3 w1 (range_below HK.out (BS2.out.trans (Below.mono (ext_of_drew hE) BS2.out.size))) (by have := (ext_of_drew hE).size; have := BS2.out.size; omega)).mono ?_
        rintro e w2 ⟨rfl, hb⟩
        exact ⟨_, rfl, hb, fun _ _ => congrArg (fun o => Value.agg (u8s o).toArray) HV3.out⟩
    · refine step_guard 7 true 50 rfl rfl (fun _ => rfl) fun vs w1 hE hd => ⟨hd.2.2.1, ?_⟩
      exact gives_binOp .eql 43 _ _ _ rfl (.agg (u8s V3).toArray) (.agg (u8s V3).toArray) (.bool true) (show vs 12 = _ from hd.1) (show vs 16 = _ from hd.2.1) (by go_simp) (by go_simp) ⟨Ext.refl _, fun _ _ => rfl⟩
    · refine step_plain rfl fun vs w1 hE hd => ?_
      exact gives_pick _ _ _ (.bool true) true rfl (show vs 7 = _ from hd.1) (show vs 17 = _ from hd.2.1) ⟨Ext.refl _, fun _ _ => rfl⟩
    · intro vs w2 hE hR
      have h18' : vs 18 = .bool true := hR 18 (by omega)
      rw [h18']
      have hfin : Below w.heap.size w w2 := BS2.out.trans (Below.mono (ext_of_drew hE) BS2.out.size)
      clear hR hE h18'
      go_wp2
      go_ret
      exact ⟨rfl, hfin⟩
  · go_wp2_with (refine wpList_load_g rfl 43 (.tmp 3) rfl w.heap.size 0 rfl (u8s x) _ (RR _) Tryd.underlying43 rfl (hi43 x HL.out) ?_)
    refine (run_any x HL.out HX.out p0 p1 0 (n0 % 4) _ (range_below HK.out (BD _)) (Nat.lt_of_lt_of_le h18 (BD _).size)).mono ?_
    rintro e w3 ⟨rfl, hb3⟩
    obtain ⟨V1, hV1⟩ : ∃ v, v = runC p0 p1 x 0 (n0 % 4) := ⟨_, rfl⟩
    rw [← hV1]
    obtain ⟨hl1, hx1⟩ := run_good p0 p1 x 0 (n0 % 4) HL.out HX.out
    rw [← hV1] at hl1 hx1
    have B3 := Lib.hid ((BD _).trans (hb3.mono (BD _).size))
    have RX3 := Lib.hid (range_below (RR _) hb3)
    have hh3 : ∀ Z : Array Value, Z.size = 16 → Has (w3.alloc (.cells Z 43)) w3.heap.size 43 (u8s V1).length := fun Z hZ => has_new w3 _ _ _ (by rw [hZ, u8s_len', hl1])
    have HV1 := Lib.hid hV1
    have HX1 := Lib.hid hx1
    clear hV1 hx1 hb3
    go_wp2_with (first | (refine wpList_store_row rfl 43 (.tmp 11) (.tmp 36) rfl w3.heap.size rfl (u8s V1) rfl 43 (hh3 _ rfl) (hi43 V1 hl1) (one_u8s _) ?_; intro w4 hp4; have L4 : Below w3.heap.size w3 w4 := (hp4.below ((Below.refl _ _).alloc (Nat.le_refl _) _) (Nat.le_refl _)); have RV4 := Lib.hid (blk_range hp4.blk); have B4 := Lib.hid (B3.out.trans (L4.mono B3.out.size)); have RX4 := Lib.hid (range_below RX3.out L4); clear hp4 L4) | (refine wpList_load_g rfl 43 (.tmp 11) rfl w3.heap.size 0 rfl (u8s V1) _ RV4.out Tryd.underlying43 rfl (hi43 V1 hl1) ?_))
    refine (run_any V1 hl1 HX1.out p0 p1 (n0 % 4) (n1 % 4) _ (range_below HK.out B4.out) (Nat.lt_of_lt_of_le h18 B4.out.size)).mono ?_
    rintro e w5 ⟨rfl, hb5⟩
    obtain ⟨V2, hV2⟩ : ∃ v, v = runC p0 p1 V1 (n0 % 4) (n1 % 4) := ⟨_, rfl⟩
    rw [← hV2]
    obtain ⟨hl2, hx2⟩ := run_good p0 p1 V1 (n0 % 4) (n1 % 4) hl1 HX1.out
    rw [← hV2] at hl2 hx2
    have hV2' : runC p0 p1 x 0 (n1 % 4) = V2 := by rw [hV2, HV1.out, run_join p0 p1 x (n0 % 4) (n1 % 4) (by omega) (by omega) (by omega)]
    obtain ⟨V3, hV3⟩ : ∃ v, v = runC p0 p1 x 0 3 := ⟨_, rfl⟩
    have hV3' : runC p0 p1 V2 (n1 % 4) 3 = V3 := by rw [← hV2', hV3, run_join p0 p1 x (n1 % 4) 3 (by omega) (by omega) (by omega)]
    have hl3 : V3.length = 16 := by rw [hV3]; exact (run_good p0 p1 x 0 3 HL.out HX.out).1
    have B5 := Lib.hid (B4.out.trans (hb5.mono B4.out.size))
    have RX5 := Lib.hid (range_below RX4.out hb5)
    have hh5 : ∀ Z : Array Value, Z.size = 16 → Has (w5.alloc (.cells Z 43)) w5.heap.size 43 (u8s V2).length := fun Z hZ => has_new w5 _ _ _ (by rw [hZ, u8s_len', hl2])
    have HV2 := Lib.hid hV2'
    have HV3 := Lib.hid hV3.symm
    have HV4 := Lib.hid hV3'
    have HX2 := Lib.hid hx2
    have hlx := HL.out
    have hsame2 := run_same16 V2 hl2
    have hsame3 := run_same16 V3 hl3
    clear hV2 hV2' hV3 hV3' hx2 hb5 HX1 HV1 B4 RX4 RV4 B3 RX3
    go_wp2_with (refine wpList_store_row rfl 43 (.tmp 12) (.tmp 42) rfl w5.heap.size rfl (u8s V2) rfl 43 (hh5 _ rfl) (hi43 V2 hl2) (one_u8s _) ?_; intro w6 hp6; have L6 : Below w5.heap.size w5 w6 := (hp6.below ((Below.refl _ _).alloc (Nat.le_refl _) _) (Nat.le_refl _)); have RV6 := Lib.hid (blk_range hp6.blk); have BS2 := Lib.hid (B5.out.trans (L6.mono B5.out.size)); have RX6 := Lib.hid (range_below RX5.out L6); clear hp6 L6)
    refine wp_region_rely (by kernel_rfl) 19 (by kernel_rfl) (by kernel_rfl) Ext Ext.refl Ext.trans (fun i => match i with
      | 0 => fun _ v => v = .agg (u8s V2).toArray
      | 1 => fun _ v => v = .agg (u8s x).toArray
      | 2 => fun _ v => v = .int .i64 p0
      | 3 => fun _ v => v = .int .i64 p1
      | 4 => fun _ v => v = .int .i64 (n1 % 4)
      | 5 => fun _ v => v = .agg (u8s V2).toArray
      | 6 => fun _ v => v = .bool true
      | 7 => fun _ v => v = .bool true
      | 8 => fun _ v => v = .agg (u8s V2).toArray
      | 9 => fun _ v => v = .int .i64 p0
      | 10 => fun _ v => v = .int .i64 p1
      | 11 => fun _ v => v = .int .i64 (n1 % 4)
      | 12 => fun _ v => v = .agg (u8s V3).toArray
      | 13 => fun _ v => v = .agg (u8s x).toArray
      | 14 => fun _ v => v = .int .i64 p0
      | 15 => fun _ v => v = .int .i64 p1
      | 16 => fun _ v => v = .agg (u8s V3).toArray
      | 17 => fun _ v => v = .bool true
      | 18 => fun _ v => v = .bool true
      | _ => fun _ _ => False) ?_
    simp (maxSteps := 10000000) only [Rely, List.take_succ_cons, List.take_zero, List.drop_succ_cons, List.drop_zero, Nat.reduceAdd, Nat.zero_add, Act.put, List.setIfInBounds_toArray, List.set_cons_succ, List.set_cons_zero]
    refine ⟨?_, ?_, ?_, ?_, ?_, ?_, ?_, ?_, ?_, ?_, ?_, ?_, ?_, ?_, ?_, ?_, ?_, ?_, ?_, ?_⟩
    · refine step_plain rfl fun vs w1 hE hd => ?_
      exact gives_load_row 43 _ rfl w5.heap.size 0 rfl (u8s V2) _ (range_below RV6.out (ext_of_drew hE)) Tryd.underlying43 rfl (hi43 V2 (by assumption)) ⟨Ext.refl _, fun _ _ => rfl⟩
    · refine step_plain rfl fun vs w1 hE hd => ?_
      exact gives_load_row 43 _ rfl w.heap.size 0 rfl (u8s x) _ (range_below RX6.out (ext_of_drew hE)) Tryd.underlying43 rfl (hi43 x (by assumption)) ⟨Ext.refl _, fun _ _ => rfl⟩
    · refine step_plain rfl fun vs w1 hE hd => ?_
      exact gives_move _ (.int .i64 p0) (.inl rfl) rfl ⟨Ext.refl _, fun _ _ => rfl⟩
    · refine step_plain rfl fun vs w1 hE hd => ?_
      exact gives_move _ (.int .i64 p1) (.inl rfl) rfl ⟨Ext.refl _, fun _ _ => rfl⟩
    · refine step_plain rfl fun vs w1 hE hd => ?_
      exact gives_move _ (.int .i64 (n1 % 4)) (.inl rfl) rfl ⟨Ext.refl _, fun _ _ => rfl⟩
    · refine step_plain rfl fun vs w1 hE hd => ?_
      refine gives_call 37 Tryd.call37 _ _ rfl rfl [.agg (u8s x).toArray, .int .i64 p0, .int .i64 p1, .int .i64 0, .int .i64 (n1 % 4)] ?_ ?_
      · show [vs 1, vs 2, vs 3, Value.int .i64 0, vs 4] = _
        rw [show vs 1 = _ from (hd.1), show vs 2 = _ from (hd.2.1), show vs 3 = _ from (hd.2.2.1), show vs 4 = _ from (hd.2.2.2.1)]
      · refine (run_any x HL.out HX.out p0 p1 0 (n1 % 4) w1 (range_below HK.out (BS2.out.trans (Below.mono (ext_of_drew hE) BS2.out.size))) (by have := (ext_of_drew hE).size; have := BS2.out.size; omega)).mono ?_
        rintro e w2 ⟨rfl, hb⟩
        exact ⟨_, rfl, hb, fun _ _ => congrArg (fun o => Value.agg (u8s o).toArray) HV2.out⟩
    · refine step_plain rfl fun vs w1 hE hd => ?_
      exact gives_binOp .eql 43 _ _ _ rfl (.agg (u8s V2).toArray) (.agg (u8s V2).toArray) (.bool true) (show vs 0 = _ from hd.1) (show vs 5 = _ from hd.2.1) (by go_simp) (by go_simp) ⟨Ext.refl _, fun _ _ => rfl⟩
    · refine step_plain rfl fun vs w1 hE hd => ?_
      exact gives_move _ (.bool true) (.inl rfl) (show vs 6 = _ from hd.1) ⟨Ext.refl _, fun _ _ => rfl⟩
    · refine step_guard 7 true 50 rfl rfl (fun _ => rfl) fun vs w1 hE hd => ⟨hd.1, ?_⟩
      exact gives_load_row 43 _ rfl w5.heap.size 0 rfl (u8s V2) _ (range_below RV6.out (ext_of_drew hE)) Tryd.underlying43 rfl (hi43 V2 (by assumption)) ⟨Ext.refl _, fun _ _ => rfl⟩
    · refine step_guard 7 true 50 rfl rfl (fun _ => rfl) fun vs w1 hE hd => ⟨hd.1, ?_⟩
      exact gives_move _ (.int .i64 p0) (.inl rfl) rfl ⟨Ext.refl _, fun _ _ => rfl⟩
    · refine step_guard 7 true 50 rfl rfl (fun _ => rfl) fun vs w1 hE hd => ⟨hd.1, ?_⟩
      exact gives_move _ (.int .i64 p1) (.inl rfl) rfl ⟨Ext.refl _, fun _ _ => rfl⟩
    · refine step_guard 7 true 50 rfl rfl (fun _ => rfl) fun vs w1 hE hd => ⟨hd.1, ?_⟩
      exact gives_move _ (.int .i64 (n1 % 4)) (.inl rfl) rfl ⟨Ext.refl _, fun _ _ => rfl⟩
    · refine step_guard 7 true 50 rfl rfl (fun _ => rfl) fun vs w1 hE hd => ⟨hd.2.2.2.2.1, ?_⟩
      refine gives_call 37 Tryd.call37 _ _ rfl rfl [.agg (u8s V2).toArray, .int .i64 p0, .int .i64 p1, .int .i64 (n1 % 4), .int .i64 3] ?_ ?_
      · show [vs 8, vs 9, vs 10, vs 11, Value.int .i64 3] = _
        rw [show vs 8 = _ from (hd.1), show vs 9 = _ from (hd.2.1), show vs 10 = _ from (hd.2.2.1), show vs 11 = _ from (hd.2.2.2.1)]
      · refine (run_any V2 hl2 HX2.out p0 p1 (n1 % 4) 3 w1 (range_below HK.out (BS2.out.trans (Below.mono (ext_of_drew hE) BS2.out.size))) (by have := (ext_of_drew hE).size; have := BS2.out.size; omega)).mono ?_
        rintro e w2 ⟨rfl, hb⟩
        exact ⟨_, rfl, hb, fun _ _ => congrArg (fun o => Value.agg (u8s o).toArray) HV4.out⟩
    · refine step_guard 7 true 50 rfl rfl (fun _ => rfl) fun vs w1 hE hd => ⟨hd.1, ?_⟩
      exact gives_load_row 43 _ rfl w.heap.size 0 rfl (u8s x) _ (range_below RX6.out (ext_of_drew hE)) Tryd.underlying43 rfl (hi43 x (by assumption)) ⟨Ext.refl _, fun _ _ => rfl⟩
    · refine step_guard 7 true 50 rfl rfl (fun _ => rfl) fun vs w1 hE hd => ⟨hd.1, ?_⟩
      exact gives_move _ (.int .i64 p0) (.inl rfl) rfl ⟨Ext.refl _, fun _ _ => rfl⟩
    · refine step_guard 7 true 50 rfl rfl (fun _ => rfl) fun vs w1 hE hd => ⟨hd.1, ?_⟩
      exact gives_move _ (.int .i64 p1) (.inl rfl) rfl ⟨Ext.refl _, fun _ _ => rfl⟩
    · refine step_guard 7 true 50 rfl rfl (fun _ => rfl) fun vs w1 hE hd => ⟨hd.2.2.2.2.1, ?_⟩
      refine gives_call 37 Tryd.call37 _ _ rfl rfl [.agg (u8s x).toArray, .int .i64 p0, .int .i64 p1, .int .i64 0, .int .i64 3] ?_ ?_
      · show [vs 13, vs 14, vs 15, Value.int .i64 0, Value.int .i64 3] = _
        rw [show vs 13 = _ from (hd.1), show vs 14 = _ from (hd.2.1), show vs 15 = _ from (hd.2.2.1)]
      · refine (run_any x HL.out HX.out p0 p1 0 3 w1 (range_below HK.out (BS2.out.trans (Below.mono (ext_of_drew hE) BS2.out.size))) (by have := (ext_of_drew hE).size; have := BS2.out.size; omega)).mono ?_
        rintro e w2 ⟨rfl, hb⟩
        exact ⟨_, rfl, hb, fun _ _ => congrArg (fun o => Value.agg (u8s o).toArray) HV3.out⟩
    · refine step_guard 7 true 50 rfl rfl (fun _ => rfl) fun vs w1 hE hd => ⟨hd.2.2.1, ?_⟩
      exact gives_binOp .eql 43 _ _ _ rfl (.agg (u8s V3).toArray) (.agg (u8s V3).toArray) (.bool true) (show vs 12 = _ from hd.1) (show vs 16 = _ from hd.2.1) (by go_simp) (by go_simp) ⟨Ext.refl _, fun _ _ => rfl⟩
    · refine step_plain rfl fun vs w1 hE hd => ?_
      exact gives_pick _ _ _ (.bool true) true rfl (show vs 7 = _ from hd.1) (show vs 17 = _ from hd.2.1) ⟨Ext.refl _, fun _ _ => rfl⟩
    · intro vs w2 hE hR
      have h18' : vs 18 = .bool true := hR 18 (by omega)
      rw [h18']
      have hfin : Below w.heap.size w w2 := BS2.out.trans (Below.mono (ext_of_drew hE) BS2.out.size)
      clear hR hE h18'
      go_wp2
      go_ret
      exact ⟨rfl, hfin⟩
end Go.Proofs.YtdedphhohiioiaaDoor
