/- The law ChainsRuns, walked. -/
import Derived.Test.YtdedphhohiioiaaDoorSecret
import Derived.Test.YtdedphhohiioiaaDoorChAlive
import Derived.Test.YtdedphhohiioiaaDoorChainsGoW
namespace Go.Proofs.YtdedphhohiioiaaDoor
open Go.RowKit

theorem gives_max {P : Program} {o : Oper} {ρ : Operand → Value} {w : World} {S : Value → World → Prop} (x y : Operand) (ts : Array TypeId) (ho : o.op = .call { callee := .builtin .max, args := #[x, y], argTypes := ts }) (a b : Int) (hx : ρ x = .int .i64 a) (hy : ρ y = .int .i64 b) (h : S (.int .i64 (max a b)) w) : Gives P o ρ w S := by
  refine gives_val (.int .i64 (max a b)) (w' := w) ?_ h
  unfold execOp
  simp only [ho, resolve, invoke, builtin, Sem.run_bind, Sem.run_pure, Result.andThen_ok, List.map_toArray, List.map_cons, List.map_nil, hx, hy]
  go_simp
theorem gives_min {P : Program} {o : Oper} {ρ : Operand → Value} {w : World} {S : Value → World → Prop} (x y : Operand) (ts : Array TypeId) (ho : o.op = .call { callee := .builtin .min, args := #[x, y], argTypes := ts }) (a b : Int) (hx : ρ x = .int .i64 a) (hy : ρ y = .int .i64 b) (h : S (.int .i64 (min a b)) w) : Gives P o ρ w S := by
  refine gives_val (.int .i64 (min a b)) (w' := w) ?_ h
  unfold execOp
  simp only [ho, resolve, invoke, builtin, Sem.run_bind, Sem.run_pure, Result.andThen_ok, List.map_toArray, List.map_cons, List.map_nil, hx, hy]
  go_simp

set_option maxHeartbeats 4000000 in
set_option maxRecDepth 100000 in
theorem chainsRuns_any (x : List Int) (hl : x.length = 16) (hx : u8s_ok x) (p0 p1 fr to : Int) (w : World) (hk : w.rangeAt 18 0 (u32s kk)) (h18 : 18 < w.heap.size) :
    Calls Tryd.prog 10 #[.agg (u8s x).toArray, .agg #[.int .i64 p0, .int .i64 p1], .agg #[.int .i64 fr, .int .i64 to]] w fun e w' => e = .returned (.bool true) ∧ Below w.heap.size w w' := by
  have HK := Lib.hid hk
  have HL := Lib.hid hl
  have HX := Lib.hid hx
  clear hk hl hx
  have hi43 : ∀ V : List Int, V.length = 16 → (Tryd.prog.info? 43).map (·.size) = some (u8s V).length := fun V h => by rw [u8s_len', h]; exact Tryd.size43
  obtain ⟨W0, hW0⟩ : ∃ W0, W0 = ((w.alloc (.cells (u8s x).toArray 43)).alloc (.cells #[.int .i64 p0, .int .i64 p1] 49)).alloc (.cells #[.int .i64 fr, .int .i64 to] 49) := ⟨_, rfl⟩
  have q0 : W0.heap[w.heap.size]? = some (.cells (u8s x).toArray 43 (0, 0)) := by
    rw [hW0, Below.heap_alloc _ _ _ (by simp; omega), Below.heap_alloc _ _ _ (by simp)]
    exact heap_alloc_new w _
  have q1 : W0.heap[w.heap.size + 1]? = some (.cells #[.int .i64 p0, .int .i64 p1] 49 (0, 0)) := by
    rw [hW0, Below.heap_alloc _ _ _ (by simp)]
    have := heap_alloc_new (w.alloc (.cells (u8s x).toArray 43)) (.cells #[.int .i64 p0, .int .i64 p1] 49)
    simpa using this
  have q2 : W0.heap[w.heap.size + 1 + 1]? = some (.cells #[.int .i64 fr, .int .i64 to] 49 (0, 0)) := by
    rw [hW0]
    have := heap_alloc_new ((w.alloc (.cells (u8s x).toArray 43)).alloc (.cells #[.int .i64 p0, .int .i64 p1] 49)) (.cells #[.int .i64 fr, .int .i64 to] 49)
    simpa using this
  have hB0 : Below w.heap.size w W0 := by rw [hW0]; exact (((Below.refl _ _).alloc (Nat.le_refl _) _).alloc (by simp) _).alloc (by simp; omega) _
  have c50 : W0.cell? ⟨w.heap.size + 1 + 1, 0, none⟩ = some (.int .i64 fr) := blk_cell q2 0 _ rfl
  have c51 : W0.cell? ⟨w.heap.size + 1 + 1, 1, none⟩ = some (.int .i64 to) := blk_cell q2 1 _ rfl
  go_enter Tryd.func10, Tryd.ntmps10
  go_wp2_with fail
  rw [← hW0]
  have Q0 := Lib.hid q0
  have Q1 := Lib.hid q1
  have HB0 := Lib.hid hB0
  clear hW0 q0 q1 q2 hB0
  go_quiet (fail)
  go_wp2_with fail
  refine (alive_chains _).mono ?_
  rintro e w1 ⟨rfl, hb1⟩
  have hb1' : Below W0.heap.size W0 w1 := ⟨hb1.os, hb1.tape, hb1.output, hb1.size, hb1.block⟩
  have B1 := Lib.hid (HB0.out.trans (hb1'.mono HB0.out.size))
  have R0 := Lib.hid (blk_below Q0.out hb1')
  have R1 := Lib.hid (blk_below Q1.out hb1')
  have c40 : w1.cell? ⟨w.heap.size + 1, 0, none⟩ = some (.int .i64 p0) := blk_cell R1.out 0 _ rfl
  have c41 : w1.cell? ⟨w.heap.size + 1, 1, none⟩ = some (.int .i64 p1) := blk_cell R1.out 1 _ rfl
  clear hb1 hb1' Q0 Q1 HB0 c50 c51
  go_wp2_with (refine wpList_load_g rfl 43 (.tmp 3) rfl w.heap.size 0 rfl (u8s x) _ (blk_range R0.out) Tryd.underlying43 rfl (hi43 x HL.out) ?_)
  refine (run_any x HL.out HX.out p0 p1 fr to _ (range_below HK.out B1.out) (Nat.lt_of_lt_of_le h18 B1.out.size)).mono ?_
  rintro e w3 ⟨rfl, hb3⟩
  obtain ⟨V, hV⟩ : ∃ v, v = runC p0 p1 x fr to := ⟨_, rfl⟩
  rw [← hV]
  have hlv : V.length = 16 := by rw [hV]; exact (run_good p0 p1 x fr to HL.out HX.out).1
  have B3 := Lib.hid (B1.out.trans (hb3.mono B1.out.size))
  have R3 := Lib.hid (blk_below R0.out hb3)
  have R13 := Lib.hid (blk_below R1.out hb3)
  have hh3 : ∀ Z : Array Value, Z.size = 16 → Has (w3.alloc (.cells Z 43)) w3.heap.size 43 (u8s V).length := fun Z hZ => has_new w3 _ _ _ (by rw [hZ, u8s_len', hlv])
  have HV := Lib.hid hV
  obtain ⟨SC, hSC⟩ : ∃ s, s = secretC p0 p1 x := ⟨_, rfl⟩
  have hsl : SC.length = 16 := by rw [hSC]; exact short_len _ _
  have hsameS := run_same16 SC hsl
  have hsameV := run_same16 V hlv
  have HSC := Lib.hid hSC.symm
  have HSC2 : Hid (short 1 [x, [p0 % 256], [p1 % 256]] = SC) := Lib.hid (by rw [hSC]; rfl)
  have hlx := HL.out
  clear hV hb3 hSC c40 c41 R0 R1 B1
  go_wp2_with (refine wpList_store_row rfl 43 (.tmp 9) (.tmp 23) rfl w3.heap.size rfl (u8s V) rfl 43 (hh3 _ rfl) (hi43 V hlv) (one_u8s _) ?_; intro w4 hp4; have L4 : Below w3.heap.size w3 w4 := (hp4.below ((Below.refl _ _).alloc (Nat.le_refl _) _) (Nat.le_refl _)); have RV4 := Lib.hid (blk_range hp4.blk); have BS4 := Lib.hid (B3.out.trans (L4.mono B3.out.size)); have RX4 := Lib.hid (blk_range (blk_below R3.out L4)); have R14 := Lib.hid (blk_below R13.out L4); clear hp4 L4)
  have C0 : Hid (∀ W, Ext w4 W → W.cell? ⟨w.heap.size + 1, 0, none⟩ = some (.int .i64 p0)) := Lib.hid fun W h => blk_cell (blk_below R14.out h) 0 _ rfl
  have C1 : Hid (∀ W, Ext w4 W → W.cell? ⟨w.heap.size + 1, 1, none⟩ = some (.int .i64 p1)) := Lib.hid fun W h => blk_cell (blk_below R14.out h) 1 _ rfl
  clear R14 R13 R3 B3
  refine wp_region_rely (by kernel_rfl) 13 (by kernel_rfl) (by kernel_rfl) Ext Ext.refl Ext.trans (fun i => match i with
    | 0 => fun _ v => v = .agg (u8s x).toArray
    | 1 => fun _ v => v = .pointer (some ⟨w.heap.size + 1, 0, none⟩)
    | 2 => fun _ v => v = .int .i64 p0
    | 3 => fun _ v => v = .pointer (some ⟨w.heap.size + 1, 1, none⟩)
    | 4 => fun _ v => v = .int .i64 p1
    | 5 => fun _ v => v = .agg (u8s SC).toArray
    | 6 => fun _ v => v = .agg (u8s x).toArray
    | 7 => fun _ v => v = .pointer (some ⟨w.heap.size + 1, 0, none⟩)
    | 8 => fun _ v => v = .int .i64 p0
    | 9 => fun _ v => v = .pointer (some ⟨w.heap.size + 1, 1, none⟩)
    | 10 => fun _ v => v = .int .i64 p1
    | 11 => fun _ v => v = .agg (u8s SC).toArray
    | 12 => fun _ v => v = .bool false
    | _ => fun _ _ => False) ?_
  simp (maxSteps := 10000000) only [Rely, List.take_succ_cons, List.take_zero, List.drop_succ_cons, List.drop_zero, Nat.reduceAdd, Nat.zero_add, Act.put, List.setIfInBounds_toArray, List.set_cons_succ, List.set_cons_zero]
  refine ⟨?_, ?_, ?_, ?_, ?_, ?_, ?_, ?_, ?_, ?_, ?_, ?_, ?_, ?_⟩
  · refine step_plain rfl fun vs w1 hE hd => ?_
    exact gives_load_row 43 _ rfl w.heap.size 0 rfl (u8s x) _ (range_below RX4.out (ext_of_drew hE)) Tryd.underlying43 rfl (hi43 x (by assumption)) ⟨Ext.refl _, fun _ _ => rfl⟩
  · refine step_plain rfl fun vs w1 hE hd => ?_
    exact gives_indexAt 49 _ _ rfl (.pointer (some ⟨w.heap.size + 1, 0, none⟩)) (Value.int IntKind.i64 0) (.pointer (some ⟨w.heap.size + 1, 0, none⟩)) rfl rfl (by go_simp) ⟨Ext.refl _, fun _ _ => rfl⟩
  · refine step_plain rfl fun vs w1 hE hd => ?_
    have hc := C0.out w1 (ext_of_drew hE)
    exact gives_loadAt 3 _ rfl (.pointer (some ⟨w.heap.size + 1, 0, none⟩)) (.int .i64 p0) (show vs 1 = _ from hd.1) (by go_simp) ⟨Ext.refl _, fun _ _ => rfl⟩
  · refine step_plain rfl fun vs w1 hE hd => ?_
    exact gives_indexAt 49 _ _ rfl (.pointer (some ⟨w.heap.size + 1, 0, none⟩)) (Value.int IntKind.i64 1) (.pointer (some ⟨w.heap.size + 1, 1, none⟩)) rfl rfl (by go_simp) ⟨Ext.refl _, fun _ _ => rfl⟩
  · refine step_plain rfl fun vs w1 hE hd => ?_
    have hc := C1.out w1 (ext_of_drew hE)
    exact gives_loadAt 3 _ rfl (.pointer (some ⟨w.heap.size + 1, 1, none⟩)) (.int .i64 p1) (show vs 3 = _ from hd.1) (by go_simp) ⟨Ext.refl _, fun _ _ => rfl⟩
  · refine step_plain rfl fun vs w1 hE hd => ?_
    refine gives_call 38 Tryd.call38 _ _ rfl rfl [.agg (u8s x).toArray, .int .i64 p0, .int .i64 p1] ?_ ?_
    · show [vs 0, vs 2, vs 4] = _
      rw [show vs 0 = _ from (hd.1), show vs 2 = _ from (hd.2.1), show vs 4 = _ from (hd.2.2.1)]
    · refine (secret_any x HL.out HX.out p0 p1 w1 (range_below HK.out (BS4.out.trans (Below.mono (ext_of_drew hE) BS4.out.size))) (by have := (BS4.out.trans (Below.mono (ext_of_drew hE) BS4.out.size)).size; omega)).mono ?_
      rintro e w2 ⟨rfl, hb⟩
      exact ⟨_, rfl, hb, fun _ _ => congrArg (fun o => Value.agg (u8s o).toArray) HSC.out⟩
  · refine step_plain rfl fun vs w1 hE hd => ?_
    exact gives_load_row 43 _ rfl w.heap.size 0 rfl (u8s x) _ (range_below RX4.out (ext_of_drew hE)) Tryd.underlying43 rfl (hi43 x (by assumption)) ⟨Ext.refl _, fun _ _ => rfl⟩
  · refine step_plain rfl fun vs w1 hE hd => ?_
    exact gives_indexAt 49 _ _ rfl (.pointer (some ⟨w.heap.size + 1, 0, none⟩)) (Value.int IntKind.i64 0) (.pointer (some ⟨w.heap.size + 1, 0, none⟩)) rfl rfl (by go_simp) ⟨Ext.refl _, fun _ _ => rfl⟩
  · refine step_plain rfl fun vs w1 hE hd => ?_
    have hc := C0.out w1 (ext_of_drew hE)
    exact gives_loadAt 3 _ rfl (.pointer (some ⟨w.heap.size + 1, 0, none⟩)) (.int .i64 p0) (show vs 7 = _ from hd.1) (by go_simp) ⟨Ext.refl _, fun _ _ => rfl⟩
  · refine step_plain rfl fun vs w1 hE hd => ?_
    exact gives_indexAt 49 _ _ rfl (.pointer (some ⟨w.heap.size + 1, 0, none⟩)) (Value.int IntKind.i64 1) (.pointer (some ⟨w.heap.size + 1, 1, none⟩)) rfl rfl (by go_simp) ⟨Ext.refl _, fun _ _ => rfl⟩
  · refine step_plain rfl fun vs w1 hE hd => ?_
    have hc := C1.out w1 (ext_of_drew hE)
    exact gives_loadAt 3 _ rfl (.pointer (some ⟨w.heap.size + 1, 1, none⟩)) (.int .i64 p1) (show vs 9 = _ from hd.1) (by go_simp) ⟨Ext.refl _, fun _ _ => rfl⟩
  · refine step_plain rfl fun vs w1 hE hd => ?_
    refine gives_call 39 Tryd.call39 _ _ rfl rfl [.agg (u8s x).toArray, .int .i64 p0, .int .i64 p1] ?_ ?_
    · show [vs 6, vs 8, vs 10] = _
      rw [show vs 6 = _ from (hd.1), show vs 8 = _ from (hd.2.1), show vs 10 = _ from (hd.2.2.1)]
    · refine (refSecret_any x HL.out HX.out p0 p1 w1).mono ?_
      rintro e w2 ⟨rfl, hb⟩
      exact ⟨_, rfl, hb, fun _ _ => congrArg (fun o => Value.agg (u8s o).toArray) HSC2.out⟩
  · refine step_plain rfl fun vs w1 hE hd => ?_
    exact gives_binOp .neq 43 _ _ _ rfl (.agg (u8s SC).toArray) (.agg (u8s SC).toArray) (.bool false) (show vs 5 = _ from hd.1) (show vs 11 = _ from hd.2.1) (by go_simp) (by go_simp) ⟨Ext.refl _, fun _ _ => rfl⟩
  · intro vs w2 hE hR
    have h12 : vs 12 = .bool false := hR 12 (by omega)
    rw [h12]
    have E7 : Hid (Ext w4 w2) := Lib.hid (ext_of_drew hE)
    have B7 : Hid (Below w.heap.size w w2) := Lib.hid (BS4.out.trans (Below.mono E7.out BS4.out.size))
    clear hR hE h12
    by_cases hge : to ≤ fr
    · have hvx : V = x := by
        rw [HV.out, runC]
        exact walk_none _ _ _ _ _ (by omega)
      subst hvx
      clear HV
      go_wp2_with (first | (refine wpList_load_g rfl 43 (.tmp 9) rfl w3.heap.size 0 rfl (u8s V) _ (range_below RV4.out E7.out) Tryd.underlying43 rfl (hi43 V hlv) ?_) | (refine wpList_load_g rfl 43 (.tmp 3) rfl w.heap.size 0 rfl (u8s V) _ (range_below RX4.out E7.out) Tryd.underlying43 rfl (hi43 V hlv) ?_))
      go_ret
      exact ⟨rfl, B7.out⟩
    · obtain ⟨fn, hfn⟩ : ∃ n : Nat, n = (max fr 0).toNat := ⟨_, rfl⟩
      have HFN : Hid (max fr 0 = (fn : Int)) := Lib.hid (by omega)
      have HV2 : Hid (walkC p0 p1 x fn (min to 3).toNat = V) := Lib.hid (by rw [HV.out, runC, hfn])
      clear hfn
      go_wp2_with fail
      refine wp_region_rely (by kernel_rfl) 12 (by kernel_rfl) (by kernel_rfl) Ext Ext.refl Ext.trans (fun i => match i with
        | 0 => fun _ v => v = .agg (u8s V).toArray
        | 1 => fun _ v => v = .agg (u8s x).toArray
        | 2 => fun _ v => v = .pointer (some ⟨w.heap.size + 1, 0, none⟩)
        | 3 => fun _ v => v = .int .i64 p0
        | 4 => fun _ v => v = .pointer (some ⟨w.heap.size + 1, 1, none⟩)
        | 5 => fun _ v => v = .int .i64 p1
        | 6 => fun _ v => v = .int .i64 fr
        | 7 => fun _ v => v = .int .i64 (max fr 0)
        | 8 => fun _ v => v = .int .i64 to
        | 9 => fun _ v => v = .int .i64 (min to 3)
        | 10 => fun _ v => v = .agg (u8s V).toArray
        | 11 => fun _ v => v = .bool true
        | _ => fun _ _ => False) ?_
      simp (maxSteps := 10000000) only [Rely, List.take_succ_cons, List.take_zero, List.drop_succ_cons, List.drop_zero, Nat.reduceAdd, Nat.zero_add, Act.put, List.setIfInBounds_toArray, List.set_cons_succ, List.set_cons_zero]
      refine ⟨?_, ?_, ?_, ?_, ?_, ?_, ?_, ?_, ?_, ?_, ?_, ?_, ?_⟩
      · refine step_plain rfl fun vs w1 hE hd => ?_
        exact gives_load_row 43 _ rfl w3.heap.size 0 rfl (u8s V) _ (range_below RV4.out (Ext.trans E7.out (ext_of_drew hE))) Tryd.underlying43 rfl (hi43 V (by assumption)) ⟨Ext.refl _, fun _ _ => rfl⟩
      · refine step_plain rfl fun vs w1 hE hd => ?_
        exact gives_load_row 43 _ rfl w.heap.size 0 rfl (u8s x) _ (range_below RX4.out (Ext.trans E7.out (ext_of_drew hE))) Tryd.underlying43 rfl (hi43 x (by assumption)) ⟨Ext.refl _, fun _ _ => rfl⟩
      · refine step_plain rfl fun vs w1 hE hd => ?_
        exact gives_indexAt 49 _ _ rfl (.pointer (some ⟨w.heap.size + 1, 0, none⟩)) (Value.int IntKind.i64 0) (.pointer (some ⟨w.heap.size + 1, 0, none⟩)) rfl rfl (by go_simp) ⟨Ext.refl _, fun _ _ => rfl⟩
      · refine step_plain rfl fun vs w1 hE hd => ?_
        have hc := C0.out w1 (Ext.trans E7.out (ext_of_drew hE))
        exact gives_loadAt 3 _ rfl (.pointer (some ⟨w.heap.size + 1, 0, none⟩)) (.int .i64 p0) (show vs 2 = _ from hd.1) (by go_simp) ⟨Ext.refl _, fun _ _ => rfl⟩
      · refine step_plain rfl fun vs w1 hE hd => ?_
        exact gives_indexAt 49 _ _ rfl (.pointer (some ⟨w.heap.size + 1, 0, none⟩)) (Value.int IntKind.i64 1) (.pointer (some ⟨w.heap.size + 1, 1, none⟩)) rfl rfl (by go_simp) ⟨Ext.refl _, fun _ _ => rfl⟩
      · refine step_plain rfl fun vs w1 hE hd => ?_
        have hc := C1.out w1 (Ext.trans E7.out (ext_of_drew hE))
        exact gives_loadAt 3 _ rfl (.pointer (some ⟨w.heap.size + 1, 1, none⟩)) (.int .i64 p1) (show vs 4 = _ from hd.1) (by go_simp) ⟨Ext.refl _, fun _ _ => rfl⟩
      · refine step_plain rfl fun vs w1 hE hd => ?_
        exact gives_move _ (.int .i64 fr) (.inl rfl) rfl ⟨Ext.refl _, fun _ _ => rfl⟩
      · refine step_plain rfl fun vs w1 hE hd => ?_
        exact gives_max _ _ _ rfl fr 0 (show vs 6 = _ from (hd.1)) rfl ⟨Ext.refl _, fun _ _ => rfl⟩
      · refine step_plain rfl fun vs w1 hE hd => ?_
        exact gives_move _ (.int .i64 to) (.inl rfl) rfl ⟨Ext.refl _, fun _ _ => rfl⟩
      · refine step_plain rfl fun vs w1 hE hd => ?_
        exact gives_min _ _ _ rfl to 3 (show vs 8 = _ from (hd.1)) rfl ⟨Ext.refl _, fun _ _ => rfl⟩
      · refine step_plain rfl fun vs w1 hE hd => ?_
        refine gives_call 40 Tryd.call40 _ _ rfl rfl [.agg (u8s x).toArray, .int .i64 p0, .int .i64 p1, .int .i64 fn, .int .i64 (min to 3)] ?_ ?_
        · show [vs 1, vs 3, vs 5, vs 7, vs 9] = _
          rw [show vs 1 = _ from (hd.1), show vs 3 = _ from (hd.2.1), show vs 5 = _ from (hd.2.2.1), show vs 7 = _ from (hd.2.2.2.1), show vs 9 = _ from (hd.2.2.2.2.1), HFN.out]
        · refine (refRun_any x HL.out HX.out p0 p1 fn (min to 3) (by omega) w1).mono ?_
          rintro e w2 ⟨rfl, hb⟩
          exact ⟨_, rfl, hb, fun _ _ => congrArg (fun o => Value.agg (u8s o).toArray) HV2.out⟩
      · refine step_plain rfl fun vs w1 hE hd => ?_
        exact gives_binOp .eql 43 _ _ _ rfl (.agg (u8s V).toArray) (.agg (u8s V).toArray) (.bool true) (show vs 0 = _ from hd.1) (show vs 10 = _ from hd.2.1) (by go_simp) (by go_simp) ⟨Ext.refl _, fun _ _ => rfl⟩
      · intro vs w2 hE hR
        have h11 : vs 11 = .bool true := hR 11 (by omega)
        rw [h11]
        have hfin : Below w.heap.size w w2 := B7.out.trans (Below.mono (ext_of_drew hE) B7.out.size)
        clear hR hE h11
        go_wp2
        go_ret
        exact ⟨rfl, hfin⟩
end Go.Proofs.YtdedphhohiioiaaDoor
