/- What ChainsSigns rests on, part 9 of 14: lemmas without conditions of their own. -/
import Derived.Deep.QuietTactic
import Derived.BigQuiet
import Derived.Test.YtdedphhohiioiaaDoorChainsSignsP8
/- The law ChainsGo, walked. -/
namespace Go.Proofs.YtdedphhohiioiaaDoor
open Go.RowKit

theorem run_join (l c : Int) (x : List Int) (f t : Int) (h0 : 0 ≤ f) (h1 : f ≤ t) (h2 : t ≤ 3) : runC l c (runC l c x 0 f) f t = runC l c x 0 t := by
  unfold runC
  rw [show (max f 0).toNat = (min f 3).toNat by omega]
  exact walk_join l c x _ _ _ (by omega) (by omega)
theorem run_good (l c : Int) (x : List Int) (f t : Int) (hl : x.length = 16) (hx : u8s_ok x) : (runC l c x f t).length = 16 ∧ u8s_ok (runC l c x f t) := walk_good l c x _ _ hl hx

set_option maxHeartbeats 4000000 in
set_option maxRecDepth 100000 in
theorem chainsGo_any (x : List Int) (hl : x.length = 16) (hx : u8s_ok x) (p0 p1 n0 n1 : Int) (hn0 : 0 ≤ n0) (hn1 : 0 ≤ n1) (w : World) (hk : w.rangeAt 18 0 (u32s kk)) (h18 : 18 < w.heap.size) :
    Calls Tryd.prog 9 #[.agg (u8s x).toArray, .agg #[.int .i64 p0, .int .i64 p1], .agg #[.int .u64 n0, .int .u64 n1]] w fun e w' => e = .returned (.bool true) ∧ Below w.heap.size w w' := by
  have HK := Lib.hid hk
  have HL := Lib.hid hl
  have HX := Lib.hid hx
  clear hk hl hx
  go_enter Tryd.func9, Tryd.ntmps9
  go_wp2_with fail
  obtain ⟨W0, hW0⟩ : ∃ W0, W0 = ((w.alloc (.cells (u8s x).toArray 43)).alloc (.cells #[.int .i64 p0, .int .i64 p1] 49)).alloc (.cells #[.int .u64 n0, .int .u64 n1] 50) := ⟨_, rfl⟩
  have q0 : W0.heap[w.heap.size]? = some (.cells (u8s x).toArray 43 (0, 0)) := by
    rw [hW0, Below.heap_alloc _ _ _ (by simp; omega), Below.heap_alloc _ _ _ (by simp)]
    exact heap_alloc_new w _
  have q1 : W0.heap[w.heap.size + 1]? = some (.cells #[.int .i64 p0, .int .i64 p1] 49 (0, 0)) := by
    rw [hW0, Below.heap_alloc _ _ _ (by simp)]
    have := heap_alloc_new (w.alloc (.cells (u8s x).toArray 43)) (.cells #[.int .i64 p0, .int .i64 p1] 49)
    simpa using this
  have q2 : W0.heap[w.heap.size + 1 + 1]? = some (.cells #[.int .u64 n0, .int .u64 n1] 50 (0, 0)) := by
    rw [hW0]
    have := heap_alloc_new ((w.alloc (.cells (u8s x).toArray 43)).alloc (.cells #[.int .i64 p0, .int .i64 p1] 49)) (.cells #[.int .u64 n0, .int .u64 n1] 50)
    simpa using this
  have hB0 : Below w.heap.size w W0 := by rw [hW0]; exact (((Below.refl _ _).alloc (Nat.le_refl _) _).alloc (by simp) _).alloc (by simp; omega) _
  rw [← hW0]
  clear hW0
  refine (alive_chains W0).mono ?_
  rintro e w1 ⟨rfl, hb1⟩
  have hB1 := hB0.trans (hb1.mono hB0.size)
  have r0 := blk_below q0 hb1
  have r1 := blk_below q1 hb1
  have r2 := blk_below q2 hb1
  have c40 : w1.cell? ⟨w.heap.size + 1, 0, none⟩ = some (.int .i64 p0) := blk_cell r1 0 _ rfl
  have c41 : w1.cell? ⟨w.heap.size + 1, 1, none⟩ = some (.int .i64 p1) := blk_cell r1 1 _ rfl
  have c50 : w1.cell? ⟨w.heap.size + 1 + 1, 0, none⟩ = some (.int .u64 n0) := blk_cell r2 0 _ rfl
  have c51 : w1.cell? ⟨w.heap.size + 1 + 1, 1, none⟩ = some (.int .u64 n1) := blk_cell r2 1 _ rfl
  have R0 := Lib.hid r0
  have B1 := Lib.hid hB1
  clear q0 q1 q2 hB0 hb1 hB1 r0 r1 r2
  go_wp2
  go_quiet (fail)
  go_wp2
  go_quiet (fail)
  have hi43 : ∀ V : List Int, V.length = 16 → (Tryd.prog.info? 43).map (·.size) = some (u8s V).length := fun V h => by rw [u8s_len', h]; exact Tryd.size43
  have RR : ∀ n, (w1.drewN n).rangeAt w.heap.size 0 (u8s x) := fun n => blk_range (w := w1.drewN n) R0.out
  have BD : ∀ n, Below w.heap.size w (w1.drewN n) := fun n => B1.out.trans ⟨rfl, rfl, rfl, Nat.le_refl _, fun _ _ => rfl⟩
  have hn4 : 0 ≤ n0 % 4 ∧ n0 % 4 ≤ 3 ∧ 0 ≤ n1 % 4 ∧ n1 % 4 ≤ 3 := by omega
  by_cases hgt : n1 % 4 < n0 % 4
  · go_wp2_with (refine wpList_load_g rfl 43 (.tmp 3) rfl w.heap.size 0 rfl (u8s x) _ (RR _) Tryd.underlying43 rfl (hi43 x HL.out) ?_)
    refine (run_any x HL.out HX.out p0 p1 0 (n1 % 4) _ (range_below HK.out (BD _)) (Nat.lt_of_lt_of_le h18 (BD _).size)).mono ?_
    rintro e w3 ⟨rfl, hb3⟩
    obtain ⟨V1, hV1⟩ : ∃ v, v = runC p0 p1 x 0 (n1 % 4) := ⟨_, rfl⟩
    rw [← hV1]
    obtain ⟨hl1, hx1⟩ := run_good p0 p1 x 0 (n1 % 4) HL.out HX.out
    rw [← hV1] at hl1 hx1
    have B3 := Lib.hid ((BD _).trans (hb3.mono (BD _).size))
    have RX3 := Lib.hid (range_below (RR _) hb3)
    have hh3 : ∀ Z : Array Value, Z.size = 16 → Has (w3.alloc (.cells Z 43)) w3.heap.size 43 (u8s V1).length := fun Z hZ => has_new w3 _ _ _ (by rw [hZ, u8s_len', hl1])
    have HV1 := Lib.hid hV1
    have HX1 := Lib.hid hx1
    clear hV1 hx1 hb3
    go_wp2_with (first | (refine wpList_store_row rfl 43 (.tmp 11) (.tmp 36) rfl w3.heap.size rfl (u8s V1) rfl 43 (hh3 _ rfl) (hi43 V1 hl1) (one_u8s _) ?_; intro w4 hp4; have L4 : Below w3.heap.size w3 w4 := (hp4.below ((Below.refl _ _).alloc (Nat.le_refl _) _) (Nat.le_refl _)); have RV4 := Lib.hid (blk_range hp4.blk); have B4 := Lib.hid (B3.out.trans (L4.mono B3.out.size)); have RX4 := Lib.hid (range_below RX3.out L4); clear hp4 L4) | (refine wpList_load_g rfl 43 (.tmp 11) rfl w3.heap.size 0 rfl (u8s V1) _ RV4.out Tryd.underlying43 rfl (hi43 V1 hl1) ?_))
    refine (run_any V1 hl1 HX1.out p0 p1 (n1 % 4) (n0 % 4) _ (range_below HK.out B4.out) (Nat.lt_of_lt_of_le h18 B4.out.size)).mono ?_
    rintro e w5 ⟨rfl, hb5⟩
    obtain ⟨V2, hV2⟩ : ∃ v, v = runC p0 p1 V1 (n1 % 4) (n0 % 4) := ⟨_, rfl⟩
    rw [← hV2]
    obtain ⟨hl2, hx2⟩ := run_good p0 p1 V1 (n1 % 4) (n0 % 4) hl1 HX1.out
    rw [← hV2] at hl2 hx2
    have hV2' : runC p0 p1 x 0 (n0 % 4) = V2 := by rw [hV2, HV1.out, run_join p0 p1 x (n1 % 4) (n0 % 4) (by omega) (by omega) (by omega)]
    obtain ⟨V3, hV3⟩ : ∃ v, v = runC p0 p1 x 0 3 := ⟨_, rfl⟩
    have hV3' : runC p0 p1 V2 (n0 % 4) 3 = V3 := by rw [← hV2', hV3, run_join p0 p1 x (n0 % 4) 3 (by omega) (by omega) (by omega)]
    have hl3 : V3.length = 16 := by rw [hV3]; exact (run_good p0 p1 x 0 3 HL.out HX.out).1
    have B5 := Lib.hid (B4.out.trans (hb5.mono B4.out.size))
    have RX5 := Lib.hid (range_below RX4.out hb5)
    have hh5 : ∀ Z : Array Value, Z.size = 16 → Has (w5.alloc (.cells Z 43)) w5.heap.size 43 (u8s V2).length := fun Z hZ => has_new w5 _ _ _ (by rw [hZ, u8s_len', hl2])
    have HV2 := Lib.hid hV2'
    have HV3 := Lib.hid hV3.symm
    have HV4 := Lib.hid hV3'
    have HX2 := Lib.hid hx2
    have hlx := HL.out
    have hsame2 := run_same16 V2 hl2
    have hsame3 := run_same16 V3 hl3
    clear hV2 hV2' hV3 hV3' hx2 hb5 HX1 HV1 B4 RX4 RV4 B3 RX3
    go_wp2_with (refine wpList_store_row rfl 43 (.tmp 12) (.tmp 42) rfl w5.heap.size rfl (u8s V2) rfl 43 (hh5 _ rfl) (hi43 V2 hl2) (one_u8s _) ?_; intro w6 hp6; have L6 : Below w5.heap.size w5 w6 := (hp6.below ((Below.refl _ _).alloc (Nat.le_refl _) _) (Nat.le_refl _)); have RV6 := Lib.hid (blk_range hp6.blk); have BS2 := Lib.hid (B5.out.trans (L6.mono B5.out.size)); have RX6 := Lib.hid (range_below RX5.out L6); clear hp6 L6)
    refine wp_region_rely (by kernel_rfl) 19 (by kernel_rfl) (by kernel_rfl) Ext Ext.refl Ext.trans (fun i => match i with
      | 0 => fun _ v => v = .agg (u8s V2).toArray
      | 1 => fun _ v => v = .agg (u8s x).toArray
      | 2 => fun _ v => v = .int .i64 p0
      | 3 => fun _ v => v = .int .i64 p1
      | 4 => fun _ v => v = .int .i64 (n0 % 4)
      | 5 => fun _ v => v = .agg (u8s V2).toArray
      | 6 => fun _ v => v = .bool true
      | 7 => fun _ v => v = .bool true
      | 8 => fun _ v => v = .agg (u8s V2).toArray
      | 9 => fun _ v => v = .int .i64 p0
      | 10 => fun _ v => v = .int .i64 p1
      | 11 => fun _ v => v = .int .i64 (n0 % 4)
      | 12 => fun _ v => v = .agg (u8s V3).toArray
      | 13 => fun _ v => v = .agg (u8s x).toArray
      | 14 => fun _ v => v = .int .i64 p0
      | 15 => fun _ v => v = .int .i64 p1
      | 16 => fun _ v => v = .agg (u8s V3).toArray
      | 17 => fun _ v => v = .bool true
      | 18 => fun _ v => v = .bool true
      | _ => fun _ _ => False) ?_
    simp (maxSteps := 10000000) only [Rely, List.take_succ_cons, List.take_zero, List.drop_succ_cons, List.drop_zero, Nat.reduceAdd, Nat.zero_add, Act.put, List.setIfInBounds_toArray, List.set_cons_succ, List.set_cons_zero]
    refine ⟨?_, ?_, ?_, ?_, ?_, ?_, ?_, ?_, ?_, ?_, ?_, ?_, ?_, ?_, ?_, ?_, ?_, ?_, ?_, ?_⟩
    · refine step_plain rfl fun vs w1 hE hd => ?_
      exact gives_load_row 43 _ rfl w5.heap.size 0 rfl (u8s V2) _ (range_below RV6.out (ext_of_drew hE)) Tryd.underlying43 rfl (hi43 V2 (by assumption)) ⟨Ext.refl _, fun _ _ => rfl⟩
    · refine step_plain rfl fun vs w1 hE hd => ?_
      exact gives_load_row 43 _ rfl w.heap.size 0 rfl (u8s x) _ (range_below RX6.out (ext_of_drew hE)) Tryd.underlying43 rfl (hi43 x (by assumption)) ⟨Ext.refl _, fun _ _ => rfl⟩
    · refine step_plain rfl fun vs w1 hE hd => ?_
      exact gives_move _ (.int .i64 p0) (.inl rfl) rfl ⟨Ext.refl _, fun _ _ => rfl⟩
    · refine step_plain rfl fun vs w1 hE hd => ?_
      exact gives_move _ (.int .i64 p1) (.inl rfl) rfl ⟨Ext.refl _, fun _ _ => rfl⟩
    · refine step_plain rfl fun vs w1 hE hd => ?_
      exact gives_move _ (.int .i64 (n0 % 4)) (.inl rfl) rfl ⟨Ext.refl _, fun _ _ => rfl⟩
    · refine step_plain rfl fun vs w1 hE hd => ?_
      refine gives_call 37 Tryd.call37 _ _ rfl rfl [.agg (u8s x).toArray, .int .i64 p0, .int .i64 p1, .int .i64 0, .int .i64 (n0 % 4)] ?_ ?_
      · show [vs 1, vs 2, vs 3, Value.int .i64 0, vs 4] = _
        rw [show vs 1 = _ from (hd.1), show vs 2 = _ from (hd.2.1), show vs 3 = _ from (hd.2.2.1), show vs 4 = _ from (hd.2.2.2.1)]
      · refine (run_any x HL.out HX.out p0 p1 0 (n0 % 4) w1 (range_below HK.out (BS2.out.trans (Below.mono (ext_of_drew hE) BS2.out.size))) (by have := (ext_of_drew hE).size; have := BS2.out.size; omega)).mono ?_
        rintro e w2 ⟨rfl, hb⟩
        exact ⟨_, rfl, hb, fun _ _ => congrArg (fun o => Value.agg (u8s o).toArray) HV2.out⟩
    · refine step_plain rfl fun vs w1 hE hd => ?_
      exact gives_binOp .eql 43 _ _ _ rfl (.agg (u8s V2).toArray) (.agg (u8s V2).toArray) (.bool true) (show vs 0 = _ from hd.1) (show vs 5 = _ from hd.2.1) (by go_simp) (by go_simp) ⟨Ext.refl _, fun _ _ => rfl⟩
    · refine step_plain rfl fun vs w1 hE hd => ?_
      exact gives_move _ (.bool true) (.inl rfl) (show vs 6 = _ from hd.1) ⟨Ext.refl _, fun _ _ => rfl⟩
    · refine step_guard 7 true 50 rfl rfl (fun _ => rfl) fun vs w1 hE hd => ⟨hd.1, ?_⟩
      exact gives_load_row 43 _ rfl w5.heap.size 0 rfl (u8s V2) _ (range_below RV6.out (ext_of_drew hE)) Tryd.underlying43 rfl (hi43 V2 (by assumption)) ⟨Ext.refl _, fun _ _ => rfl⟩
    · refine step_guard 7 true 50 rfl rfl (fun _ => rfl) fun vs w1 hE hd => ⟨hd.1, ?_⟩
      exact gives_move _ (.int .i64 p0) (.inl rfl) rfl ⟨Ext.refl _, fun _ _ => rfl⟩
    · refine step_guard 7 true 50 rfl rfl (fun _ => rfl) fun vs w1 hE hd => ⟨hd.1, ?_⟩
      exact gives_move _ (.int .i64 p1) (.inl rfl) rfl ⟨Ext.refl _, fun _ _ => rfl⟩
    · refine step_guard 7 true 50 rfl rfl (fun _ => rfl) fun vs w1 hE hd => ⟨hd.1, ?_⟩
      exact gives_move _ (.int .i64 (n0 % 4)) (.inl rfl) rfl ⟨Ext.refl _, fun _ _ => rfl⟩
    · refine step_guard 7 true 50 rfl rfl (fun _ => rfl) fun vs w1 hE hd => ⟨hd.2.2.2.2.1, ?_⟩
      refine gives_call 37 Tryd.call37 _ _ rfl rfl [.agg (u8s V2).toArray, .int .i64 p0, .int .i64 p1, .int .i64 (n0 % 4), .int .i64 3] ?_ ?_
      · show [vs 8, vs 9, vs 10, vs 11, Value.int .i64 3] = _
        rw [show vs 8 = _ from (hd.1), show vs 9 = _ from (hd.2.1), show vs 10 = _ from (hd.2.2.1), show vs 11 = _ from (hd.2.2.2.1)]
      · refine (run_any V2 hl2 HX2.out p0 p1 (n0 % 4) 3 w1 (range_below HK.out (BS2.out.trans (Below.mono (ext_of_drew hE) BS2.out.size))) (by have := (ext_of_drew hE).size; have := BS2.out.size; omega)).mono ?_
        rintro e w2 ⟨rfl, hb⟩
        exact ⟨_, rfl, hb, fun _ _ => congrArg (fun o => Value.agg (u8s o).toArray) HV4.out⟩
    · refine step_guard 7 true 50 rfl rfl (fun _ => rfl) fun vs w1 hE hd => ⟨hd.1, ?_⟩
      exact gives_load_row 43 _ rfl w.heap.size 0 rfl (u8s x) _ (range_below RX6.out (ext_of_drew hE)) Tryd.underlying43 rfl (hi43 x (by assumption)) ⟨Ext.refl _, fun _ _ => rfl⟩
    · refine step_guard 7 true 50 rfl rfl (fun _ => rfl) fun vs w1 hE hd => ⟨hd.1, ?_⟩
      exact gives_move _ (.int .i64 p0) (.inl rfl) rfl ⟨Ext.refl _, fun _ _ => rfl⟩
    · refine step_guard 7 true 50 rfl rfl (fun _ => rfl) fun vs w1 hE hd => ⟨hd.1, ?_⟩
      exact gives_move _ (.int .i64 p1) (.inl rfl) rfl ⟨Ext.refl _, fun _ _ => rfl⟩
    · refine step_guard 7 true 50 rfl rfl (fun _ => rfl) fun vs w1 hE hd => ⟨hd.2.2.2.2.1, ?_⟩
      refine gives_call 37 Tryd.call37 _ _ rfl rfl [.agg (u8s x).toArray, .int .i64 p0, .int .i64 p1, .int .i64 0, .int .i64 3] ?_ ?_
      · show [vs 13, vs 14, vs 15, Value.int .i64 0, Value.int .i64 3] = _
        rw [show vs 13 = _ from (hd.1), show vs 14 = _ from (hd.2.1), show vs 15 = _ from (hd.2.2.1)]
      · refine (run_any x HL.out HX.out p0 p1 0 3 w1 (range_below HK.out (BS2.out.trans (Below.mono (ext_of_drew hE) BS2.out.size))) (by have := (ext_of_drew hE).size; have := BS2.out.size; omega)).mono ?_
        rintro e w2 ⟨rfl, hb⟩
        exact ⟨_, rfl, hb, fun _ _ => congrArg (fun o => Value.agg (u8s o).toArray) HV3.out⟩
    · refine step_guard 7 true 50 rfl rfl (fun _ => rfl) fun vs w1 hE hd => ⟨hd.2.2.1, ?_⟩
      exact gives_binOp .eql 43 _ _ _ rfl (.agg (u8s V3).toArray) (.agg (u8s V3).toArray) (.bool true) (show vs 12 = _ from hd.1) (show vs 16 = _ from hd.2.1) (by go_simp) (by go_simp) ⟨Ext.refl _, fun _ _ => rfl⟩
    · refine step_plain rfl fun vs w1 hE hd => ?_
      exact gives_pick _ _ _ (.bool true) true rfl (show vs 7 = _ from hd.1) (show vs 17 = _ from hd.2.1) ⟨Ext.refl _, fun _ _ => rfl⟩
    · intro vs w2 hE hR
      have h18' : vs 18 = .bool true := hR 18 (by omega)
      rw [h18']
      have hfin : Below w.heap.size w w2 := BS2.out.trans (Below.mono (ext_of_drew hE) BS2.out.size)
      clear hR hE h18'
      go_wp2
      go_ret
      exact ⟨rfl, hfin⟩
  · go_wp2_with (refine wpList_load_g rfl 43 (.tmp 3) rfl w.heap.size 0 rfl (u8s x) _ (RR _) Tryd.underlying43 rfl (hi43 x HL.out) ?_)
    refine (run_any x HL.out HX.out p0 p1 0 (n0 % 4) _ (range_below HK.out (BD _)) (Nat.lt_of_lt_of_le h18 (BD _).size)).mono ?_
    rintro e w3 ⟨rfl, hb3⟩
    obtain ⟨V1, hV1⟩ : ∃ v, v = runC p0 p1 x 0 (n0 % 4) := ⟨_, rfl⟩
    rw [← hV1]
    obtain ⟨hl1, hx1⟩ := run_good p0 p1 x 0 (n0 % 4) HL.out HX.out
    rw [← hV1] at hl1 hx1
    have B3 := Lib.hid ((BD _).trans (hb3.mono (BD _).size))
    have RX3 := Lib.hid (range_below (RR _) hb3)
    have hh3 : ∀ Z : Array Value, Z.size = 16 → Has (w3.alloc (.cells Z 43)) w3.heap.size 43 (u8s V1).length := fun Z hZ => has_new w3 _ _ _ (by rw [hZ, u8s_len', hl1])
    have HV1 := Lib.hid hV1
    have HX1 := Lib.hid hx1
    clear hV1 hx1 hb3
    go_wp2_with (first | (refine wpList_store_row rfl 43 (.tmp 11) (.tmp 36) rfl w3.heap.size rfl (u8s V1) rfl 43 (hh3 _ rfl) (hi43 V1 hl1) (one_u8s _) ?_; intro w4 hp4; have L4 : Below w3.heap.size w3 w4 := (hp4.below ((Below.refl _ _).alloc (Nat.le_refl _) _) (Nat.le_refl _)); have RV4 := Lib.hid (blk_range hp4.blk); have B4 := Lib.hid (B3.out.trans (L4.mono B3.out.size)); have RX4 := Lib.hid (range_below RX3.out L4); clear hp4 L4) | (refine wpList_load_g rfl 43 (.tmp 11) rfl w3.heap.size 0 rfl (u8s V1) _ RV4.out Tryd.underlying43 rfl (hi43 V1 hl1) ?_))
    refine (run_any V1 hl1 HX1.out p0 p1 (n0 % 4) (n1 % 4) _ (range_below HK.out B4.out) (Nat.lt_of_lt_of_le h18 B4.out.size)).mono ?_
    rintro e w5 ⟨rfl, hb5⟩
    obtain ⟨V2, hV2⟩ : ∃ v, v = runC p0 p1 V1 (n0 % 4) (n1 % 4) := ⟨_, rfl⟩
    rw [← hV2]
    obtain ⟨hl2, hx2⟩ := run_good p0 p1 V1 (n0 % 4) (n1 % 4) hl1 HX1.out
    rw [← hV2] at hl2 hx2
    have hV2' : runC p0 p1 x 0 (n1 % 4) = V2 := by rw [hV2, HV1.out, run_join p0 p1 x (n0 % 4) (n1 % 4) (by omega) (by omega) (by omega)]
    obtain ⟨V3, hV3⟩ : ∃ v, v = runC p0 p1 x 0 3 := ⟨_, rfl⟩
    have hV3' : runC p0 p1 V2 (n1 % 4) 3 = V3 := by rw [← hV2', hV3, run_join p0 p1 x (n1 % 4) 3 (by omega) (by omega) (by omega)]
    have hl3 : V3.length = 16 := by rw [hV3]; exact (run_good p0 p1 x 0 3 HL.out HX.out).1
    have B5 := Lib.hid (B4.out.trans (hb5.mono B4.out.size))
    have RX5 := Lib.hid (range_below RX4.out hb5)
    have hh5 : ∀ Z : Array Value, Z.size = 16 → Has (w5.alloc (.cells Z 43)) w5.heap.size 43 (u8s V2).length := fun Z hZ => has_new w5 _ _ _ (by rw [hZ, u8s_len', hl2])
    have HV2 := Lib.hid hV2'
    have HV3 := Lib.hid hV3.symm
    have HV4 := Lib.hid hV3'
    have HX2 := Lib.hid hx2
    have hlx := HL.out
    have hsame2 := run_same16 V2 hl2
    have hsame3 := run_same16 V3 hl3
    clear hV2 hV2' hV3 hV3' hx2 hb5 HX1 HV1 B4 RX4 RV4 B3 RX3
    go_wp2_with (refine wpList_store_row rfl 43 (.tmp 12) (.tmp 42) rfl w5.heap.size rfl (u8s V2) rfl 43 (hh5 _ rfl) (hi43 V2 hl2) (one_u8s _) ?_; intro w6 hp6; have L6 : Below w5.heap.size w5 w6 := (hp6.below ((Below.refl _ _).alloc (Nat.le_refl _) _) (Nat.le_refl _)); have RV6 := Lib.hid (blk_range hp6.blk); have BS2 := Lib.hid (B5.out.trans (L6.mono B5.out.size)); have RX6 := Lib.hid (range_below RX5.out L6); clear hp6 L6)
    refine wp_region_rely (by kernel_rfl) 19 (by kernel_rfl) (by kernel_rfl) Ext Ext.refl Ext.trans (fun i => match i with
      | 0 => fun _ v => v = .agg (u8s V2).toArray
      | 1 => fun _ v => v = .agg (u8s x).toArray
      | 2 => fun _ v => v = .int .i64 p0
      | 3 => fun _ v => v = .int .i64 p1
      | 4 => fun _ v => v = .int .i64 (n1 % 4)
      | 5 => fun _ v => v = .agg (u8s V2).toArray
      | 6 => fun _ v => v = .bool true
      | 7 => fun _ v => v = .bool true
      | 8 => fun _ v => v = .agg (u8s V2).toArray
      | 9 => fun _ v => v = .int .i64 p0
      | 10 => fun _ v => v = .int .i64 p1
      | 11 => fun _ v => v = .int .i64 (n1 % 4)
      | 12 => fun _ v => v = .agg (u8s V3).toArray
      | 13 => fun _ v => v = .agg (u8s x).toArray
      | 14 => fun _ v => v = .int .i64 p0
      | 15 => fun _ v => v = .int .i64 p1
      | 16 => fun _ v => v = .agg (u8s V3).toArray
      | 17 => fun _ v => v = .bool true
      | 18 => fun _ v => v = .bool true
      | _ => fun _ _ => False) ?_
    simp (maxSteps := 10000000) only [Rely, List.take_succ_cons, List.take_zero, List.drop_succ_cons, List.drop_zero, Nat.reduceAdd, Nat.zero_add, Act.put, List.setIfInBounds_toArray, List.set_cons_succ, List.set_cons_zero]
    refine ⟨?_, ?_, ?_, ?_, ?_, ?_, ?_, ?_, ?_, ?_, ?_, ?_, ?_, ?_, ?_, ?_, ?_, ?_, ?_, ?_⟩
    · refine step_plain rfl fun vs w1 hE hd => ?_
      exact gives_load_row 43 _ rfl w5.heap.size 0 rfl (u8s V2) _ (range_below RV6.out (ext_of_drew hE)) Tryd.underlying43 rfl (hi43 V2 (by assumption)) ⟨Ext.refl _, fun _ _ => rfl⟩
    · refine step_plain rfl fun vs w1 hE hd => ?_
      exact gives_load_row 43 _ rfl w.heap.size 0 rfl (u8s x) _ (range_below RX6.out (ext_of_drew hE)) Tryd.underlying43 rfl (hi43 x (by assumption)) ⟨Ext.refl _, fun _ _ => rfl⟩
    · refine step_plain rfl fun vs w1 hE hd => ?_
      exact gives_move _ (.int .i64 p0) (.inl rfl) rfl ⟨Ext.refl _, fun _ _ => rfl⟩
    · refine step_plain rfl fun vs w1 hE hd => ?_
      exact gives_move _ (.int .i64 p1) (.inl rfl) rfl ⟨Ext.refl _, fun _ _ => rfl⟩
    · refine step_plain rfl fun vs w1 hE hd => ?_
      exact gives_move _ (.int .i64 (n1 % 4)) (.inl rfl) rfl ⟨Ext.refl _, fun _ _ => rfl⟩
    · refine step_plain rfl fun vs w1 hE hd => ?_
      refine gives_call 37 Tryd.call37 _ _ rfl rfl [.agg (u8s x).toArray, .int .i64 p0, .int .i64 p1, .int .i64 0, .int .i64 (n1 % 4)] ?_ ?_
      · show [vs 1, vs 2, vs 3, Value.int .i64 0, vs 4] = _
        rw [show vs 1 = _ from (hd.1), show vs 2 = _ from (hd.2.1), show vs 3 = _ from (hd.2.2.1), show vs 4 = _ from (hd.2.2.2.1)]
      · refine (run_any x HL.out HX.out p0 p1 0 (n1 % 4) w1 (range_below HK.out (BS2.out.trans (Below.mono (ext_of_drew hE) BS2.out.size))) (by have := (ext_of_drew hE).size; have := BS2.out.size; omega)).mono ?_
        rintro e w2 ⟨rfl, hb⟩
        exact ⟨_, rfl, hb, fun _ _ => congrArg (fun o => Value.agg (u8s o).toArray) HV2.out⟩
    · refine step_plain rfl fun vs w1 hE hd => ?_
      exact gives_binOp .eql 43 _ _ _ rfl (.agg (u8s V2).toArray) (.agg (u8s V2).toArray) (.bool true) (show vs 0 = _ from hd.1) (show vs 5 = _ from hd.2.1) (by go_simp) (by go_simp) ⟨Ext.refl _, fun _ _ => rfl⟩
    · refine step_plain rfl fun vs w1 hE hd => ?_
      exact gives_move _ (.bool true) (.inl rfl) (show vs 6 = _ from hd.1) ⟨Ext.refl _, fun _ _ => rfl⟩
    · refine step_guard 7 true 50 rfl rfl (fun _ => rfl) fun vs w1 hE hd => ⟨hd.1, ?_⟩
      exact gives_load_row 43 _ rfl w5.heap.size 0 rfl (u8s V2) _ (range_below RV6.out (ext_of_drew hE)) Tryd.underlying43 rfl (hi43 V2 (by assumption)) ⟨Ext.refl _, fun _ _ => rfl⟩
    · refine step_guard 7 true 50 rfl rfl (fun _ => rfl) fun vs w1 hE hd => ⟨hd.1, ?_⟩
      exact gives_move _ (.int .i64 p0) (.inl rfl) rfl ⟨Ext.refl _, fun _ _ => rfl⟩
    · refine step_guard 7 true 50 rfl rfl (fun _ => rfl) fun vs w1 hE hd => ⟨hd.1, ?_⟩
      exact gives_move _ (.int .i64 p1) (.inl rfl) rfl ⟨Ext.refl _, fun _ _ => rfl⟩
    · refine step_guard 7 true 50 rfl rfl (fun _ => rfl) fun vs w1 hE hd => ⟨hd.1, ?_⟩
      exact gives_move _ (.int .i64 (n1 % 4)) (.inl rfl) rfl ⟨Ext.refl _, fun _ _ => rfl⟩
    · refine step_guard 7 true 50 rfl rfl (fun _ => rfl) fun vs w1 hE hd => ⟨hd.2.2.2.2.1, ?_⟩
      refine gives_call 37 Tryd.call37 _ _ rfl rfl [.agg (u8s V2).toArray, .int .i64 p0, .int .i64 p1, .int .i64 (n1 % 4), .int .i64 3] ?_ ?_
      · show [vs 8, vs 9, vs 10, vs 11, Value.int .i64 3] = _
        rw [show vs 8 = _ from (hd.1), show vs 9 = _ from (hd.2.1), show vs 10 = _ from (hd.2.2.1), show vs 11 = _ from (hd.2.2.2.1)]
      · refine (run_any V2 hl2 HX2.out p0 p1 (n1 % 4) 3 w1 (range_below HK.out (BS2.out.trans (Below.mono (ext_of_drew hE) BS2.out.size))) (by have := (ext_of_drew hE).size; have := BS2.out.size; omega)).mono ?_
        rintro e w2 ⟨rfl, hb⟩
        exact ⟨_, rfl, hb, fun _ _ => congrArg (fun o => Value.agg (u8s o).toArray) HV4.out⟩
    · refine step_guard 7 true 50 rfl rfl (fun _ => rfl) fun vs w1 hE hd => ⟨hd.1, ?_⟩
      exact gives_load_row 43 _ rfl w.heap.size 0 rfl (u8s x) _ (range_below RX6.out (ext_of_drew hE)) Tryd.underlying43 rfl (hi43 x (by assumption)) ⟨Ext.refl _, fun _ _ => rfl⟩
    · refine step_guard 7 true 50 rfl rfl (fun _ => rfl) fun vs w1 hE hd => ⟨hd.1, ?_⟩
      exact gives_move _ (.int .i64 p0) (.inl rfl) rfl ⟨Ext.refl _, fun _ _ => rfl⟩
    · refine step_guard 7 true 50 rfl rfl (fun _ => rfl) fun vs w1 hE hd => ⟨hd.1, ?_⟩
      exact gives_move _ (.int .i64 p1) (.inl rfl) rfl ⟨Ext.refl _, fun _ _ => rfl⟩
    · refine step_guard 7 true 50 rfl rfl (fun _ => rfl) fun vs w1 hE hd => ⟨hd.2.2.2.2.1, ?_⟩
      refine gives_call 37 Tryd.call37 _ _ rfl rfl [.agg (u8s x).toArray, .int .i64 p0, .int .i64 p1, .int .i64 0, .int .i64 3] ?_ ?_
      · show [vs 13, vs 14, vs 15, Value.int .i64 0, Value.int .i64 3] = _
        rw [show vs 13 = _ from (hd.1), show vs 14 = _ from (hd.2.1), show vs 15 = _ from (hd.2.2.1)]
      · refine (run_any x HL.out HX.out p0 p1 0 3 w1 (range_below HK.out (BS2.out.trans (Below.mono (ext_of_drew hE) BS2.out.size))) (by have := (ext_of_drew hE).size; have := BS2.out.size; omega)).mono ?_
        rintro e w2 ⟨rfl, hb⟩
        exact ⟨_, rfl, hb, fun _ _ => congrArg (fun o => Value.agg (u8s o).toArray) HV3.out⟩
    · refine step_guard 7 true 50 rfl rfl (fun _ => rfl) fun vs w1 hE hd => ⟨hd.2.2.1, ?_⟩
      exact gives_binOp .eql 43 _ _ _ rfl (.agg (u8s V3).toArray) (.agg (u8s V3).toArray) (.bool true) (show vs 12 = _ from hd.1) (show vs 16 = _ from hd.2.1) (by go_simp) (by go_simp) ⟨Ext.refl _, fun _ _ => rfl⟩
    · refine step_plain rfl fun vs w1 hE hd => ?_
      exact gives_pick _ _ _ (.bool true) true rfl (show vs 7 = _ from hd.1) (show vs 17 = _ from hd.2.1) ⟨Ext.refl _, fun _ _ => rfl⟩
    · intro vs w2 hE hR
      have h18' : vs 18 = .bool true := hR 18 (by omega)
      rw [h18']
      have hfin : Below w.heap.size w w2 := BS2.out.trans (Below.mono (ext_of_drew hE) BS2.out.size)
      clear hR hE h18'
      go_wp2
      go_ret
      exact ⟨rfl, hfin⟩
end Go.Proofs.YtdedphhohiioiaaDoor
/- The ends of chains, plain: a signature's are those of the secrets. -/
namespace Go.Proofs.YtdedphhohiioiaaDoor
open Go.RowKit

/-- A digest. -/
abbrev Dg := { x : List Int // x.length = 16 ∧ u8s_ok x }
def dgv (x : Dg) : Value := .agg (u8s x.1).toArray
/-- The end of the j-th chain of a seed. -/
def pubAt (l : Int) (x : List Int) (j : Nat) : List Int := runC l j (secretC l j x) 0 3
def pubE (l : Int) (x : List Int) (i : Nat) : List (List Int) := (List.range i).map (pubAt l x)
/-- The end that what is handed in comes to. -/
def recAt (l : Int) (ds : List (List Int)) (m : List Int) (j : Nat) : List Int := runC l j (ds.getD j []) ((digits m).getD j 0) 3
def recE (l : Int) (ds : List (List Int)) (m : List Int) (i : Nat) : List (List Int) := (List.range i).map (recAt l ds m)
/-- The public digest of ends. -/
def publicC (l : Int) (es : List (List Int)) : List Int := short 3 [[l % 256], es.flatten]

theorem pubE_succ (l : Int) (x : List Int) (i : Nat) : pubE l x (i + 1) = pubE l x i ++ [pubAt l x i] := by simp [pubE, List.range_succ]
theorem recE_succ (l : Int) (ds : List (List Int)) (m : List Int) (i : Nat) : recE l ds m (i + 1) = recE l ds m i ++ [recAt l ds m i] := by simp [recE, List.range_succ]
theorem pubE_len (l : Int) (x : List Int) (i : Nat) : (pubE l x i).length = i := by simp [pubE]
theorem recE_len (l : Int) (ds : List (List Int)) (m : List Int) (i : Nat) : (recE l ds m i).length = i := by simp [recE]
theorem publicC_good (l : Int) (es : List (List Int)) : (publicC l es).length = 16 ∧ u8s_ok (publicC l es) := ⟨short_len _ _, short_ok _ _⟩
theorem flat_len (es : List (List Int)) (h : ∀ e ∈ es, e.length = 16) : es.flatten.length = 16 * es.length := by
  induction es with
  | nil => rfl
  | cons e es ih =>
    rw [List.flatten_cons, List.length_append, ih (fun e he => h e (by simp [he])), h e (by simp), List.length_cons]
    omega
theorem flat_ok (es : List (List Int)) (h : ∀ e ∈ es, u8s_ok e) : u8s_ok es.flatten := by
  intro b hb
  obtain ⟨e, he, hbe⟩ := List.mem_flatten.1 hb
  exact h e he b hbe
theorem public_small (l : Int) (es : List (List Int)) (h : ∀ e ∈ es, e.length = 16) (hn : es.length ≤ 1000) : (framed 3 [[l % 256], es.flatten]).length ≤ 1099511627776 := by
  have := flat_len es h
  simp only [framed, be4, List.length_append, List.length_cons, List.length_nil, List.flatMap_cons, List.flatMap_nil]
  omega
theorem pubAt_good (l : Int) (x : List Int) (j : Nat) : (pubAt l x j).length = 16 ∧ u8s_ok (pubAt l x j) := runC_good _ _ _ _ _ (secret_good _ _ _).1 (secret_good _ _ _).2
theorem recAt_good (l : Int) (ds : List (List Int)) (m : List Int) (j : Nat) (h : (ds.getD j []).length = 16 ∧ u8s_ok (ds.getD j [])) : (recAt l ds m j).length = 16 ∧ u8s_ok (recAt l ds m j) := runC_good _ _ _ _ _ h.1 h.2
theorem digit_in (m : List Int) (j : Nat) : 0 ≤ (digits m).getD j 0 ∧ (digits m).getD j 0 ≤ 3 := by
  rw [List.getD_eq_getElem?_getD]
  cases h : (digits m)[j]? with
  | none => simp
  | some d => exact digits_range m d (List.mem_of_getElem? h)
/-- A signature's ends are the secrets'. -/
theorem rec_sig (l : Int) (x m : List Int) (n i : Nat) (h : i ≤ n) : recE l (sigC l x m n) m i = pubE l x i := by
  unfold recE pubE
  refine List.map_congr_left fun j hj => ?_
  have hji : j < i := List.mem_range.1 hj
  unfold recAt pubAt
  have e : (sigC l x m n).getD j [] = sigAt l x m j := by
    rw [List.getD_eq_getElem?_getD]
    simp [sigC, List.getElem?_map, List.getElem?_range (show j < n by omega)]
  rw [e]
  unfold sigAt
  have := digit_in m j
  exact run_join l j _ _ _ this.1 this.2 (by omega)
end Go.Proofs.YtdedphhohiioiaaDoor
/- What quorateref03.Digits does. -/
namespace Go.Proofs.YtdedphhohiioiaaDoor
open Go.RowKit

theorem unit_at (wo : World) (j : Nat) (hj : j < 4) : (wo.alloc (.cells #[.int .i64 64, .int .i64 16, .int .i64 4, .int .i64 1] 3)).cell? ⟨wo.heap.size, j, none⟩ = some (.int .i64 ([64, 16, 4, 1].getD j 0)) := by
  rw [cell_of_row _ _ _ _ _ _ (heap_alloc_new wo _)]
  have h : j = 0 ∨ j = 1 ∨ j = 2 ∨ j = 3 := by omega
  rcases h with rfl | rfl | rfl | rfl <;> rfl

set_option maxHeartbeats 4000000 in
set_option maxRecDepth 100000 in
theorem refDigits_any (bs : List Int) (hl : bs.length = 16) (hb : ∀ b ∈ bs, 0 ≤ b ∧ b ≤ 255) (w : World) :
    Calls Tryd.prog 51 #[.agg (u8s bs).toArray] w fun e w' => ∃ v, e = .returned v ∧ w'.ownsRow w.heap.size 3 1 v 68 (i64s (digits bs)) ∧ Below w.heap.size w w' := by
  obtain ⟨i0, hi, hz0, hz1, hz2⟩ := info_parts Tryd.info3
  have hs : (Tryd.prog.info? 43).map (·.size) = some (u8s bs).toArray.size := by rw [Tryd.size43]; simp [u8s, hl]
  have HL := Lib.hid hl
  have HS := Lib.hid hs
  clear hl hs
  go_enter Tryd.func51, Tryd.ntmps51
  go_wp2_with (refine wpList_load_row rfl 43 (.tmp 1) rfl w.heap.size rfl 43 (u8s bs).toArray (0,0) _ (by first | exact heap_alloc_new w _ | exact heap_alloc2_old w _ _) Tryd.underlying43 rfl HS.out ?_)
  go_loopw [3, 4, 6, 7, 9, 10, 13, 18] (fun v s _ _ _ _ i _ wr => ∃ (k : Nat) (m : Int), k ≤ 16 ∧ i = .int .i64 k ∧ wr.ownsRow w.heap.size 3 1 v (4 * k) (i64s (top (bs.take k))) ∧ s = .int .i64 m ∧ m = lack (top (bs.take k)) ∧ Below w.heap.size w wr)
    (fun _ _ _ _ _ _ i _ _ => 16 - (intOf i).toNat)
  case atStart => exact ⟨0, 0, by omega, rfl, by have := own_empty (base := w.heap.size) (e := 3) (w.alloc (.cells (u8s bs).toArray 43)) #[] rfl (by simp); simpa [top, i64s] using this, rfl, rfl, ((Below.refl _ _).alloc (Nat.le_refl _) _).alloc (by simp) _⟩
  case round =>
    obtain ⟨k, m, hk, rfl, hown, rfl, hm, hbl⟩ := hrel
    by_cases hlt : k < 16
    · have HM0 := Lib.hid hm
      clear hm
      obtain ⟨b, hbd⟩ : ∃ b, b = bs.getD k 0 := ⟨_, rfl⟩
      have hbk : (u8s bs).toArray[(k : Int).toNat]? = some (.int .u8 b) := by
        have := HL.out
        simp [u8s, hbd, List.getElem?_eq_getElem (show k < bs.length by omega)]
      have hb0 : 0 ≤ b ∧ b ≤ 255 := by
        have := HL.out
        rw [hbd, List.getD_eq_getElem?_getD, List.getElem?_eq_getElem (show k < bs.length by omega)]
        exact hb _ (List.getElem_mem _)
      have HB := Lib.hid hbd
      have HBK := Lib.hid hbk
      clear hbd hbk
      go_wp2_with (refine wpList_index_arr rfl 43 5 16 (.tmp 12) (.tmp 13) rfl (u8s bs).toArray .i64 k (.int .u8 b) rfl rfl Tryd.underlying43 _ Tryd.underlying5 rfl Tryd.size5 (by omega) (by omega) HBK.out ?_)
      obtain ⟨wo, rfl⟩ : ∃ wo : World, wo = wr := ⟨_, rfl⟩
      go_loopw [3, 4, 9, 10, 20] (fun v s _ _ i wr => ∃ (j : Nat) (m : Int), j ≤ 4 ∧ i = .int .i64 j ∧ wr.ownsRow w.heap.size 3 1 v (4 * k + j) (i64s (top (bs.take k) ++ (four b).take j)) ∧ s = .int .i64 m ∧ m = lack (top (bs.take k) ++ (four b).take j) ∧ Below w.heap.size w wr ∧
          wr.heap[wo.heap.size]? = some (.cells #[.int .i64 64, .int .i64 16, .int .i64 4, .int .i64 1] 3 (0, 0)) ∧ v.ownBlock ≠ some wo.heap.size)
        (fun _ _ _ _ i _ => 4 - (intOf i).toNat)
      case atStart => exact ⟨0, _, by omega, rfl, by simpa using hown.alloc _, rfl, by simpa using HM0.out, hbl.alloc hbl.size _, heap_alloc_new _ _, fun e => by have := hown.lt _ e; omega⟩
      case round =>
        obtain ⟨j, m, hj, rfl, hown, rfl, hm, hbl, hU, hne⟩ := hrel
        have hlen := dig_bd bs k j b (by omega) hj
        rw [← hm] at hlen
        have HM := Lib.hid hm
        clear hm
        have hj4 : j = 0 ∨ j = 1 ∨ j = 2 ∨ j = 3 ∨ j = 4 := by omega
        have hc0 := cell_of_row wr _ 0 _ _ _ hU
        have hc1 := cell_of_row wr _ 1 _ _ _ hU
        have hc2 := cell_of_row wr _ 2 _ _ _ hU
        have hc3 := cell_of_row wr _ 3 _ _ _ hU
        simp at hc0 hc1 hc2 hc3
        rcases hj4 with rfl | rfl | rfl | rfl | rfl
        · have ha : b / 64 % 4 = b / 64 % 4 := by omega
          go_wp2_with (first | (at_builtin; refine app1 w.heap.size rfl (.tmp 28) (.tmp 30) 69 3 (.int .i64 0) 1 8 rfl Tryd.underlying69 Tryd.info3 rfl (by omega) (by omega) _ _ _ rfl 1 [.int .i64 _] rfl rfl (by simp [Value.oneCell']) hown hbl (by omega) hbl.size ?_; intro v' w1 hap))
          go_roundw
          case rel => exact ⟨1, _, by omega, rfl, by simpa [i64s, four] using hap.own, rfl, by have := HM.out; simp only [lack_append, four, lack, List.take] at this ⊢; omega, hap.below, hap.blk hU hne, hap.ne (Array.getElem?_eq_some_iff.1 hU).1 hne⟩
          case measure => simp [intOf]
        · have ha : b / 16 % 4 = b / 16 % 4 := by omega
          go_wp2_with (first | (at_builtin; refine app1 w.heap.size rfl (.tmp 28) (.tmp 30) 69 3 (.int .i64 0) 1 8 rfl Tryd.underlying69 Tryd.info3 rfl (by omega) (by omega) _ _ _ rfl 1 [.int .i64 _] rfl rfl (by simp [Value.oneCell']) hown hbl (by omega) hbl.size ?_; intro v' w1 hap))
          go_roundw
          case rel => exact ⟨2, _, by omega, rfl, by simpa [i64s, four] using hap.own, rfl, by have := HM.out; simp only [lack_append, four, lack, List.take] at this ⊢; omega, hap.below, hap.blk hU hne, hap.ne (Array.getElem?_eq_some_iff.1 hU).1 hne⟩
          case measure => simp [intOf]
        · have ha : b / 4 % 4 = b / 4 % 4 := by omega
          go_wp2_with (first | (at_builtin; refine app1 w.heap.size rfl (.tmp 28) (.tmp 30) 69 3 (.int .i64 0) 1 8 rfl Tryd.underlying69 Tryd.info3 rfl (by omega) (by omega) _ _ _ rfl 1 [.int .i64 _] rfl rfl (by simp [Value.oneCell']) hown hbl (by omega) hbl.size ?_; intro v' w1 hap))
          go_roundw
          case rel => exact ⟨3, _, by omega, rfl, by simpa [i64s, four] using hap.own, rfl, by have := HM.out; simp only [lack_append, four, lack, List.take] at this ⊢; omega, hap.below, hap.blk hU hne, hap.ne (Array.getElem?_eq_some_iff.1 hU).1 hne⟩
          case measure => simp [intOf]
        · have ha : b / 1 % 4 = b % 4 := by omega
          go_wp2_with (first | (at_builtin; refine app1 w.heap.size rfl (.tmp 28) (.tmp 30) 69 3 (.int .i64 0) 1 8 rfl Tryd.underlying69 Tryd.info3 rfl (by omega) (by omega) _ _ _ rfl 1 [.int .i64 _] rfl rfl (by simp [Value.oneCell']) hown hbl (by omega) hbl.size ?_; intro v' w1 hap))
          go_roundw
          case rel => exact ⟨4, _, by omega, rfl, by simpa [i64s, four] using hap.own, rfl, by have := HM.out; simp only [lack_append, four, lack, List.take] at this ⊢; omega, hap.below, hap.blk hU hne, hap.ne (Array.getElem?_eq_some_iff.1 hU).1 hne⟩
          case measure => simp [intOf]
        · clear hj
          go_wp2
          go_roundw
          case rel =>
            have hlen := HL.out
            have e : top (bs.take (k + 1)) = top (bs.take k) ++ (four b).take 4 := by
              have hbd := HB.out
              rw [List.getD_eq_getElem?_getD, List.getElem?_eq_getElem (show k < bs.length by omega)] at hbd
              simp only [Option.getD_some] at hbd
              rw [top_take_succ bs k (by omega), ← hbd]; rfl
            exact ⟨k + 1, _, by omega, by go_num, by rw [e]; exact hown, rfl, by rw [e]; exact HM.out, hbl⟩
          case measure => simp [intOf]; omega
    · have hlen := HL.out
      have hk16 : 4 * k = 64 := by omega
      rw [List.take_of_length_le (by omega)] at hown hm
      rw [hk16] at hown
      clear hk16
      have hbd := lack_range (top bs) (top_range bs)
      rw [← hm, top_len] at hbd
      have HM := Lib.hid hm
      clear hm
      have hbd2 : 0 ≤ m ∧ m ≤ 192 := by omega
      clear hbd hlen
      have hq : m / 64 = m / 64 % 4 := by omega
      have HQ := Lib.hid hq
      clear hq
      go_wp2_with (first | (at_builtin; refine app1 w.heap.size rfl (.tmp 38) (.tmp 49) 69 3 (.int .i64 0) 1 8 rfl Tryd.underlying69 Tryd.info3 rfl (by omega) (by omega) _ _ _ rfl 4 [.int .i64 (m / 64), .int .i64 (m / 16 % 4), .int .i64 (m / 4 % 4), .int .i64 (m % 4)] rfl rfl (by simp [Value.oneCell']) hown hbl (by omega) hbl.size ?_; intro v' w1 hap))
      go_ret
      exact ⟨_, rfl, by have := HM.out; rw [digits, ← this]; have h2 := hap.own; rw [HQ.out] at h2; simpa [i64s, last4] using h2, hap.below⟩
end Go.Proofs.YtdedphhohiioiaaDoor
/- What the reference's Ended, Public, Recover and Sign do. -/
namespace Go.Proofs.YtdedphhohiioiaaDoor
open Go.RowKit

set_option maxHeartbeats 4000000 in
set_option maxRecDepth 100000 in
theorem ended_any (l : Int) (FL : List Int) (hok : u8s_ok FL) (hz : FL.length ≤ 2000) (w : World) :
    Calls Tryd.prog 87 #[.int .i64 l, .string (strOfNums FL)] w fun e w' => e = .returned (.agg (u8s (short 3 [[l % 256], FL])).toArray) ∧ Below w.heap.size w w' := by
  have hb0 : Below w.heap.size w (w.alloc (.cells (Array.replicate 16 (Value.int .u8 0)) 43)) := (Below.refl _ _).alloc (Nat.le_refl _) _
  have hh0 : Has (w.alloc (.cells (Array.replicate 16 (Value.int .u8 0)) 43)) w.heap.size 43 16 := has_new w _ _ _ rfl
  have B0 := Lib.hid hb0
  have H0 := Lib.hid hh0
  have HX := Lib.hid hok
  clear hb0 hh0 hok
  go_enter Tryd.func87, Tryd.ntmps87
  go_wp2_with fail
  refine (one_any l _).mono ?_
  rintro e w2 ⟨rfl, hb2⟩
  have B2 := Lib.hid (B0.out.trans (hb2.mono B0.out.size))
  have H2 := Lib.hid (H0.out.below hb2)
  clear hb2 B0 H0
  obtain ⟨ST, hST⟩ : ∃ s, s = short 3 [[l % 256], FL] := ⟨_, rfl⟩
  have hSl : ST.length = 16 := by rw [hST]; exact short_len _ _
  have hmap : [strOfNums [l % 256], strOfNums FL].map sb = [[l % 256], FL] := by
    simp only [List.map_cons, List.map_nil]
    rw [sb_str _ (one_ok l), sb_str FL HX.out]
  have htx := Txs.new w2 [strOfNums [l % 256], strOfNums FL] (by simp)
  have hi43' : (Tryd.prog.info? 43).map (·.size) = some (u8s ST).length := by rw [u8s_len', hSl]; exact Tryd.size43
  have hsm : (framed 3 [[l % 256], FL]).length ≤ 1099511627776 := by
    simp only [framed, be4, List.length_append, List.length_cons, List.length_nil, List.flatMap_cons, List.flatMap_nil]
    omega
  have HTX := Lib.hid htx
  have HST := Lib.hid hST
  have HSL := Lib.hid hSl
  have HM := Lib.hid hmap
  have HI' := Lib.hid hi43'
  have HSM := Lib.hid hsm
  clear htx hST hSl hmap hi43' hsm
  go_wp2_with fail
  refine (refof_any 3 [strOfNums [l % 256], strOfNums FL] _ 2 2 _ HTX.out rfl (by rw [HM.out]; exact HSM.out)).mono ?_
  rintro e w5 ⟨rfl, hb5⟩
  rw [HM.out, ← HST.out]
  have hb4 : Below w2.heap.size w2 w5 := ((Below.refl _ _).alloc (Nat.le_refl _) _).trans (hb5.mono (by simp))
  have B5 := Lib.hid (B2.out.trans (hb4.mono B2.out.size))
  have H5 : Hid (Has w5 w.heap.size 43 (u8s ST).length) := Lib.hid (by rw [u8s_len', HSL.out]; exact H2.out.below hb4)
  clear hb5 hb4 B2 H2 HTX HM
  go_wp2_with (refine wpList_store_row rfl 43 (.tmp 4) (.tmp 9) rfl w.heap.size rfl (u8s ST) rfl 43 H5.out HI'.out (one_u8s _) ?_; intro w10 hp10)
  refine bodyPost_ret (v := .agg (u8s ST).toArray) (results_cell_row rfl _ _ w.heap.size 43 _ (0, 0) _ rfl hp10.blk Tryd.underlying43 rfl (by simpa using HI'.out)) rfl ⟨by rw [HST.out], hp10.below B5.out (Nat.le_refl _)⟩

theorem flat_succ (es : List (List Int)) (e : List Int) : (es ++ [e]).flatten = es.flatten ++ e := by simp
theorem pub_walk (l : Int) (x : List Int) (i : Nat) : walkC l i (short 1 [x, [l % 256], [(i : Int) % 256]]) 0 (3 : Int).toNat = pubAt l x i := rfl
theorem pubE_good (l : Int) (x : List Int) (i : Nat) : ∀ e ∈ pubE l x i, e.length = 16 ∧ u8s_ok e := by
  intro e he
  obtain ⟨j, _, rfl⟩ := List.mem_map.1 he
  exact pubAt_good l x j
theorem recE_good (l : Int) (ds : List (List Int)) (m : List Int) (i : Nat) (h : ∀ j, j < i → (ds.getD j []).length = 16 ∧ u8s_ok (ds.getD j [])) : ∀ e ∈ recE l ds m i, e.length = 16 ∧ u8s_ok e := by
  intro e he
  obtain ⟨j, hj, rfl⟩ := List.mem_map.1 he
  exact recAt_good l ds m j (h j (List.mem_range.1 hj))
theorem strOfNums_append (a b : List Int) : strOfNums (a ++ b) = strOfNums a ++ strOfNums b := by
  apply ByteArray.ext
  rw [ByteArray.data_append]
  simp [strOfNums]
theorem str_size (bs : List Int) : (strOfNums bs).size = bs.length := by rw [strOfNums_size]

set_option maxHeartbeats 4000000 in
set_option maxRecDepth 100000 in
theorem refPublic_any (x : List Int) (hl : x.length = 16) (hx : u8s_ok x) (l : Int) (w : World) :
    Calls Tryd.prog 56 #[.agg (u8s x).toArray, .int .i64 l] w fun e w' => e = .returned (.agg (u8s (publicC l (pubE l x 68))).toArray) ∧ Below w.heap.size w w' := by
  have hi43 : ∀ V : List Int, V.length = 16 → (Tryd.prog.info? 43).map (·.size) = some (u8s V).length := fun V h => by rw [u8s_len', h]; exact Tryd.size43
  have hra : ((w.alloc (.cells (u8s x).toArray 43)).alloc (.cells (Array.replicate 16 (Value.int .u8 0)) 43)).rangeAt w.heap.size 0 (u8s x) := World.rangeAt_alloc (range_new w (u8s x) 43) _
  have hb0 : Below w.heap.size w ((w.alloc (.cells (u8s x).toArray 43)).alloc (.cells (Array.replicate 16 (Value.int .u8 0)) 43)) := ((Below.refl _ _).alloc (Nat.le_refl _) _).alloc (by simp) _
  have hh0 : Has ((w.alloc (.cells (u8s x).toArray 43)).alloc (.cells (Array.replicate 16 (Value.int .u8 0)) 43)) (w.heap.size + 1) 43 16 := has_new2 w _ _ _ _ rfl
  have HRA := Lib.hid hra
  have B0 := Lib.hid hb0
  have H0 := Lib.hid hh0
  have HL := Lib.hid hl
  have HX := Lib.hid hx
  clear hra hb0 hh0 hl hx
  go_enter Tryd.func56, Tryd.ntmps56
  go_wp2
  change Code.wp _ _ _ _ ((w.alloc (.cells (u8s x).toArray 43)).alloc (.cells (Array.replicate 16 (Value.int .u8 0)) 43))
  generalize (w.alloc (.cells (u8s x).toArray 43)).alloc (.cells (Array.replicate 16 (Value.int .u8 0)) 43) = wo at *
  go_loopw [5, 6] (fun s k wr => ∃ (i : Nat) (S : ByteArray), i ≤ 68 ∧ s = .string S ∧ k = .int .i64 i ∧ Hid (S = strOfNums (pubE l x i).flatten) ∧ Hid (Below wo.heap.size wo wr))
    (fun _ k _ => 68 - (intOf k).toNat)
  case atStart => exact ⟨0, _, by omega, rfl, rfl, Lib.hid rfl, Lib.hid (Below.refl _ _)⟩
  case round =>
    obtain ⟨i, S, hi, rfl, rfl, hS, hbel⟩ := hrel
    by_cases hlt : i < 68
    · have RA := Lib.hid (range_below HRA.out hbel.out)
      have hil : (i : Int) < 68 := by omega
      have hsg := secret_good l i x
      obtain ⟨SE, hSE⟩ : ∃ s, s = short 1 [x, [l % 256], [(i : Int) % 256]] := ⟨_, rfl⟩
      rw [show secretC l i x = SE by rw [hSE]; rfl] at hsg
      have hpg := pubAt_good l x i
      have hpw : walkC l i SE 0 (3 : Int).toNat = pubAt l x i := by rw [hSE]; rfl
      obtain ⟨PE, hPE⟩ : ∃ s, s = pubAt l x i := ⟨_, rfl⟩
      rw [← hPE] at hpg hpw
      have hnx : strOfNums (pubE l x (i + 1)).flatten = S ++ strOfNums PE := by rw [pubE_succ, flat_succ, ← hPE, hS.out, strOfNums_append]
      have hsz : S.size + (strOfNums PE).size ≤ 2199023255552 := by
        rw [hS.out, str_size, str_size, hpg.1, flat_len _ (fun e he => (pubE_good l x i e he).1), pubE_len]
        omega
      have HSE := Lib.hid hSE
      have HSG := Lib.hid hsg
      have HPG := Lib.hid hpg
      have HPW := Lib.hid hpw
      have HNX := Lib.hid hnx
      have HSZ := Lib.hid hsz
      clear hSE hsg hpg hpw hnx hsz hPE hS
      go_wp2_with (refine wpList_load_g rfl 43 (.tmp 2) rfl w.heap.size 0 rfl (u8s x) _ RA.out Tryd.underlying43 rfl (hi43 x HL.out) ?_)
      refine (refSecret_any x HL.out HX.out l i wr).mono ?_
      rintro e w2 ⟨rfl, hb2⟩
      rw [← HSE.out]
      go_wp2_with fail
      refine (refRun_any SE HSG.out.1 HSG.out.2 l i 0 3 (by omega) w2).mono ?_
      rintro e w3 ⟨rfl, hb3⟩
      rw [HPW.out]
      go_wp2_with fail
      refine (text_any PE HPG.out.1 HPG.out.2 w3).mono ?_
      rintro e w4 ⟨rfl, hb4⟩
      have L4 : Below wr.heap.size wr w4 := hb2.trans ((hb3.trans (hb4.mono hb3.size)).mono hb2.size)
      have B4 := Lib.hid (hbel.out.trans (L4.mono hbel.out.size))
      clear hb2 hb3 hb4 L4 hbel
      go_wp2_with (refine wpList_add_str rfl 9 (.tmp 11) (.tmp 19) _ rfl S (strOfNums PE) rfl rfl HSZ.out ?_)
      go_roundw
      case rel => exact ⟨i + 1, _, by omega, rfl, by go_num, Lib.hid HNX.out.symm, B4⟩
      case measure => simp [intOf]; omega
    · obtain rfl : i = 68 := by omega
      obtain ⟨FL, hFL⟩ : ∃ f, f = (pubE l x 68).flatten := ⟨_, rfl⟩
      have hok : u8s_ok FL := by rw [hFL]; exact flat_ok _ (fun e he => (pubE_good l x 68 e he).2)
      have hfl : FL.length ≤ 2000 := by rw [hFL, flat_len _ (fun e he => (pubE_good l x 68 e he).1), pubE_len]; omega
      rw [← hFL] at hS
      obtain rfl := hS.out
      have hend : publicC l (pubE l x 68) = short 3 [[l % 256], FL] := by rw [hFL]; rfl
      obtain ⟨ST, hST⟩ : ∃ s, s = short 3 [[l % 256], FL] := ⟨_, rfl⟩
      have hsl : ST.length = 16 := by rw [hST]; exact short_len _ _
      rw [← hST] at hend
      have HI := Lib.hid (hi43 ST hsl)
      have HST := Lib.hid hST
      have HEN := Lib.hid hend
      have HSL := Lib.hid hsl
      have HCL := Lib.hid (ended_any l FL hok hfl wr)
      clear hFL hok hfl hS hend hST hsl
      go_wp2_with fail
      refine HCL.out.mono ?_
      rintro e w5 ⟨rfl, hb5⟩
      rw [← HST.out]
      have B5 := Lib.hid (B0.out.trans ((hbel.out.trans (hb5.mono hbel.out.size)).mono B0.out.size))
      have H5 : Hid (Has w5 (w.heap.size + 1) 43 (u8s ST).length) := Lib.hid (by rw [u8s_len', HSL.out]; exact H0.out.below (hbel.out.trans (hb5.mono hbel.out.size)))
      clear hb5 hbel HCL
      go_wp2_with (refine wpList_store_row rfl 43 (.tmp 4) (.tmp 23) rfl (w.heap.size + 1) rfl (u8s ST) rfl 43 H5.out HI.out (one_u8s _) ?_; intro w10 hp10)
      refine bodyPost_ret (v := .agg (u8s ST).toArray) (results_cell_row rfl _ _ (w.heap.size + 1) 43 _ (0, 0) _ rfl hp10.blk Tryd.underlying43 rfl (by simpa using HI.out)) rfl ⟨by rw [HEN.out], hp10.below B5.out (by omega)⟩
set_option maxHeartbeats 4000000 in
set_option maxRecDepth 100000 in
theorem refRecover_any (l : Int) (A : Option Addr) (k c : Nat) (ds : List (List Int)) (m : List Int) (w : World) (hd : Dgs w (.slice A k c) ds) (hds : k = ds.length) (hk68 : k = 68) (hlm : m.length = 16) (hm : u8s_ok m) :
    Calls Tryd.prog 55 #[.int .i64 l, .slice A k c, .agg (u8s m).toArray] w fun e w' => e = .returned (.agg (u8s (publicC l (recE l ds m 68))).toArray) ∧ Below w.heap.size w w' := by
  have hi43 : ∀ V : List Int, V.length = 16 → (Tryd.prog.info? 43).map (·.size) = some (u8s V).length := fun V h => by rw [u8s_len', h]; exact Tryd.size43
  obtain ⟨b, off, c', he, hc1, hc2, hc3, hrow⟩ := hd.cells (by intro e; rw [e] at hds; simp at hds; omega)
  simp only [Value.slice.injEq] at he
  obtain ⟨rfl, -, rfl⟩ := he
  have hdig := hd.at
  rw [← hds] at hc1 hrow hdig
  have hra : ((w.alloc (.cells (u8s m).toArray 43)).alloc (.cells (Array.replicate 16 (Value.int .u8 0)) 43)).rangeAt w.heap.size 0 (u8s m) := World.rangeAt_alloc (range_new w (u8s m) 43) _
  have hb0 : Below w.heap.size w ((w.alloc (.cells (u8s m).toArray 43)).alloc (.cells (Array.replicate 16 (Value.int .u8 0)) 43)) := ((Below.refl _ _).alloc (Nat.le_refl _) _).alloc (by simp) _
  have hh0 : Has ((w.alloc (.cells (u8s m).toArray 43)).alloc (.cells (Array.replicate 16 (Value.int .u8 0)) 43)) (w.heap.size + 1) 43 16 := has_new2 w _ _ _ _ rfl
  have HRA := Lib.hid hra
  have B0 := Lib.hid hb0
  have H0 := Lib.hid hh0
  have HL := Lib.hid hlm
  have HX := Lib.hid hm
  have HROW := Lib.hid hrow
  have HDG := Lib.hid hdig
  have HKK := Lib.hid hk68
  clear hra hb0 hh0 hlm hm hd hds hrow hdig hc2 hc3
  go_enter Tryd.func55, Tryd.ntmps55
  go_wp2_with (refine wpList_load_g rfl 43 (.tmp 5) rfl w.heap.size 0 rfl (u8s m) _ HRA.out Tryd.underlying43 rfl (hi43 m HL.out) ?_)
  change Calls _ _ _ ((w.alloc (.cells (u8s m).toArray 43)).alloc (.cells (Array.replicate 16 (Value.int .u8 0)) 43)) _
  generalize (w.alloc (.cells (u8s m).toArray 43)).alloc (.cells (Array.replicate 16 (Value.int .u8 0)) 43) = wo at *
  refine (refDigits_any m HL.out HX.out wo).mono ?_
  rintro e w2 ⟨dv, rfl, hdown, hb2⟩
  obtain ⟨db, doff, dc, hde, hdc1, hdc2, hdcell⟩ := Row.of_own hdown (by omega)
  have hdl : (digits m).length = 68 := by
    have := hdown.1
    simpa [i64s] using this
  have hil : (i64s (digits m)).length = 68 := by simp [i64s, hdl]
  rw [hil] at hde
  subst hde
  have B2 := Lib.hid (B0.out.trans (hb2.mono B0.out.size))
  have H2 := Lib.hid (H0.out.below hb2)
  have HD : Hid (∀ W, Below w2.heap.size w2 W → ∀ j : Nat, j < 68 → W.cell? ⟨db, doff + j, none⟩ = some (.int .i64 ((digits m).getD j 0))) := Lib.hid fun W hW j hj => by
    have hc := hdcell j (.int .i64 ((digits m).getD j 0)) (by simp [i64s, List.getD_eq_getElem?_getD, List.getElem?_eq_getElem (show j < (digits m).length by omega)])
    exact (hW.cell (p := ⟨db, doff + j, none⟩) (World.block_lt_of_cell? w2 _ hc)).trans hc
  clear hdown hb2 hdcell hdl hil hdc1 hdc2 B0 H0 HRA
  go_wp2_with fail
  go_loopw [7, 13] (fun s q wr => ∃ (i : Nat) (S : ByteArray), i ≤ 68 ∧ s = .string S ∧ q = .int .i64 i ∧ Hid (S = strOfNums (recE l ds m i).flatten) ∧ Hid (Below w2.heap.size w2 wr))
    (fun _ q _ => 68 - (intOf q).toNat)
  case atStart => exact ⟨0, _, by omega, rfl, rfl, Lib.hid rfl, Lib.hid (Below.refl _ _)⟩
  case round =>
    obtain ⟨i, S, hi, rfl, rfl, hS, hbel⟩ := hrel
    have BR : Hid (Below w.heap.size w wr) := Lib.hid (B2.out.trans (hbel.out.mono B2.out.size))
    by_cases hlt : i < 68
    · have hik : i < k := by have := HKK.out; omega
      have RA := Lib.hid (range_below (HROW.out i hik) BR.out)
      have hcd := HD.out wr hbel.out i hlt
      have hil : (i : Int) < 68 := by omega
      have hilk : (i : Int) < k := by omega
      have hsg := HDG.out i hik
      have hpg := recAt_good l ds m i hsg
      obtain ⟨dj, hdj⟩ : ∃ d, d = (digits m).getD i 0 := ⟨_, rfl⟩
      obtain ⟨dn, hdn⟩ : ∃ d : Nat, dj = d := ⟨dj.toNat, by have := (digit_in m i).1; omega⟩
      obtain ⟨SE, hSE⟩ : ∃ s, s = ds.getD i [] := ⟨_, rfl⟩
      have hpw : walkC l i SE dn (3 : Int).toNat = recAt l ds m i := by
        rw [hSE]
        show _ = walkC l i (ds.getD i []) (max ((digits m).getD i 0) 0).toNat (min 3 3 : Int).toNat
        rw [← hdj, hdn, show (max (dn : Int) 0).toNat = dn by omega]
        rfl
      rw [← hSE] at hsg RA
      rw [← hdj, hdn] at hcd
      obtain ⟨PE, hPE⟩ : ∃ s, s = recAt l ds m i := ⟨_, rfl⟩
      rw [← hPE] at hpg hpw
      have hrg := recE_good l ds m i (fun j hj => HDG.out j (by omega))
      have hnx : strOfNums (recE l ds m (i + 1)).flatten = S ++ strOfNums PE := by rw [recE_succ, flat_succ, ← hPE, hS.out, strOfNums_append]
      have hsz : S.size + (strOfNums PE).size ≤ 2199023255552 := by
        rw [hS.out, str_size, str_size, hpg.1, flat_len _ (fun e he => (hrg e he).1), recE_len]
        omega
      have HSG := Lib.hid hsg
      have HPG := Lib.hid hpg
      have HPW := Lib.hid hpw
      have HNX := Lib.hid hnx
      have HSZ := Lib.hid hsz
      clear hSE hsg hpg hpw hnx hsz hPE hS hrg hdj hdn
      go_wp2_with (refine wpList_load_g rfl 43 (.tmp 21) rfl b (off + i * 16) rfl (u8s SE) _ RA.out Tryd.underlying43 rfl (hi43 SE HSG.out.1) ?_)
      refine (refRun_any SE HSG.out.1 HSG.out.2 l i dn 3 (by omega) wr).mono ?_
      rintro e w3 ⟨rfl, hb3⟩
      rw [HPW.out]
      go_wp2_with fail
      refine (text_any PE HPG.out.1 HPG.out.2 w3).mono ?_
      rintro e w4 ⟨rfl, hb4⟩
      have L4 : Below wr.heap.size wr w4 := hb3.trans (hb4.mono hb3.size)
      have B4 := Lib.hid (hbel.out.trans (L4.mono hbel.out.size))
      clear hb3 hb4 L4 hbel
      go_wp2_with (refine wpList_add_str rfl 9 (.tmp 18) (.tmp 27) _ rfl S (strOfNums PE) rfl rfl HSZ.out ?_)
      go_roundw
      case rel => exact ⟨i + 1, _, by omega, rfl, by go_num, Lib.hid HNX.out.symm, B4⟩
      case measure => simp [intOf]; omega
    · obtain rfl : i = 68 := by omega
      have hrg := recE_good l ds m 68 (fun j hj => HDG.out j (by have := HKK.out; omega))
      obtain ⟨FL, hFL⟩ : ∃ f, f = (recE l ds m 68).flatten := ⟨_, rfl⟩
      have hok : u8s_ok FL := by rw [hFL]; exact flat_ok _ (fun e he => (hrg e he).2)
      have hfl : FL.length ≤ 2000 := by rw [hFL, flat_len _ (fun e he => (hrg e he).1), recE_len]; omega
      rw [← hFL] at hS
      obtain rfl := hS.out
      have hend : publicC l (recE l ds m 68) = short 3 [[l % 256], FL] := by rw [hFL]; rfl
      obtain ⟨ST, hST⟩ : ∃ s, s = short 3 [[l % 256], FL] := ⟨_, rfl⟩
      have hsl : ST.length = 16 := by rw [hST]; exact short_len _ _
      rw [← hST] at hend
      have HI := Lib.hid (hi43 ST hsl)
      have HST := Lib.hid hST
      have HEN := Lib.hid hend
      have HSL := Lib.hid hsl
      have HCL := Lib.hid (ended_any l FL hok hfl wr)
      clear hFL hok hfl hS hend hST hsl hrg
      go_wp2_with fail
      refine HCL.out.mono ?_
      rintro e w5 ⟨rfl, hb5⟩
      rw [← HST.out]
      have L5 := hbel.out.trans (hb5.mono hbel.out.size)
      have B5 := Lib.hid (B2.out.trans (L5.mono B2.out.size))
      have H5 : Hid (Has w5 (w.heap.size + 1) 43 (u8s ST).length) := Lib.hid (by rw [u8s_len', HSL.out]; exact H2.out.below L5)
      clear hb5 hbel HCL L5
      go_wp2_with (refine wpList_store_row rfl 43 (.tmp 6) (.tmp 32) rfl (w.heap.size + 1) rfl (u8s ST) rfl 43 H5.out HI.out (one_u8s _) ?_; intro w10 hp10)
      refine bodyPost_ret (v := .agg (u8s ST).toArray) (results_cell_row rfl _ _ (w.heap.size + 1) 43 _ (0, 0) _ rfl hp10.blk Tryd.underlying43 rfl (by simpa using HI.out)) rfl ⟨by rw [HEN.out], hp10.below B5.out (by omega)⟩
end Go.Proofs.YtdedphhohiioiaaDoor
