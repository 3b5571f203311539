/- Lemmas that laws of this seat rest on, part 14; each says its own conditions: TreesWaysW. -/
import Derived.Test.YtdedphhohiioiaaDoorBase5
import Derived.Test.YtdedphhohiioiaaDoorBase11
import Derived.Test.YtdedphhohiioiaaDoorBase13
/- TreesWays: what the law does. -/
namespace Go.Proofs.YtdedphhohiioiaaDoor
open Go.RowKit Go.Shelf

theorem own_blk2 {w : World} {base e s n : Nat} {v : Value} {xs : List Value} (hn : 0 < n) (h : w.ownsRow base e s v n xs) : ∃ g c cur, v = .slice (some ⟨g, 0, none⟩) n c ∧ base ≤ g ∧ w.heap[g]? = some (.cells cur e (0, 0)) := by
  rcases h.2 with ⟨e, h0⟩ | ⟨g, cap, cur, e, hb, hg, _⟩
  · exact absurd h0 (by omega)
  · exact ⟨g, cap, cur, e, hb, hg⟩
theorem fl_fl (q : Nat) : fl (fl q) = q := by unfold fl; split <;> split <;> omega
theorem fl_half (q : Nat) : fl q / 2 = q / 2 := by unfold fl; split <;> omega
theorem fl_32 (q : Nat) (h : q < 32) : fl q < 32 := by unfold fl; split <;> omega
theorem fl_pow (q j : Nat) : fl q / 2 ^ (j + 1) = q / 2 ^ (j + 1) := by
  rw [Nat.pow_succ, Nat.mul_comm, ← Nat.div_div_eq_div_mul, ← Nat.div_div_eq_div_mul, fl_half]
theorem way_tail (ds : List (List Int)) (i : Nat) : (wayT ds (fl i) 5).drop 1 = (wayT ds i 5).drop 1 := by
  unfold wayT wayP
  rw [← List.map_drop, ← List.map_drop]
  refine List.map_congr_left fun j hj => ?_
  have hj1 : 1 ≤ j := by
    simp [List.range_succ] at hj
    omega
  obtain ⟨m, rfl⟩ : ∃ m, j = m + 1 := ⟨j - 1, by omega⟩
  rw [fl_pow]
theorem way_first (ds : List (List Int)) (i : Nat) : (wayT ds i 5).getD 0 [] = ds.getD (fl i) [] := by
  simp [wayT, wayP, lev, List.range_succ]
theorem Dgs.tail {w : World} {b o n c : Nat} {ds : List (List Int)} (h : Dgs w (.slice (some ⟨b, o, none⟩) n c) ds) (hn : n = ds.length) (h2 : 2 ≤ n) : Dgs w (.slice (some ⟨b, o + 1 * 16, none⟩) (n - 1) (c - 1)) (ds.drop 1) := by
  have hne : ds ≠ [] := by intro e; rw [e] at hn; simp at hn; omega
  obtain ⟨b', o', c', e, h1, hm, hb, hr⟩ := h.cells hne
  simp only [Value.slice.injEq, Option.some.injEq, Addr.mk.injEq] at e
  obtain ⟨⟨rfl, rfl, -⟩, -, rfl⟩ := e
  refine ⟨⟨_, _, by rw [List.length_drop, hn]⟩, fun _ => ⟨b, o + 1 * 16, c - 1, by rw [List.length_drop, hn], by rw [List.length_drop]; omega, by omega, hb, fun i hi => ?_⟩, fun d hd => h.good d (List.mem_of_mem_drop hd)⟩
  rw [List.length_drop] at hi
  have := hr (i + 1) (by omega)
  rw [show o + (i + 1) * 16 = o + 1 * 16 + i * 16 by omega] at this
  rw [List.getD_eq_getElem?_getD, List.getElem?_drop, Nat.add_comm 1 i, ← List.getD_eq_getElem?_getD]
  exact this

set_option maxHeartbeats 8000000 in
set_option maxRecDepth 100000 in
theorem treesWays_any (ds : List (List Int)) (A : Option Addr) (k c : Nat) (i0 : Int) (w : World) (hd : Dgs w (.slice A k c) ds) (hkl : k = ds.length) (hk : w.rangeAt 18 0 (u32s kk)) (h18 : 18 < w.heap.size) :
    Calls Tryd.prog 11 #[.slice A k c, .int .i64 i0] w fun e w' => e = .returned (.bool true) ∧ Below w.heap.size w w' := by
  have hi43 : ∀ V : List Int, V.length = 16 → (Tryd.prog.info? 43).map (·.size) = some (u8s V).length := fun V h => by rw [u8s_len', h]; exact Tryd.size43
  have HD := Lib.hid hd
  have HKL := Lib.hid hkl
  have HK := Lib.hid hk
  clear hd hkl hk
  go_enter Tryd.func11, Tryd.ntmps11
  go_wp2_with fail
  refine (alive_trees w HK.out h18).mono ?_
  rintro e w1 ⟨rfl, hb1⟩
  have B1 := Lib.hid hb1
  clear hb1
  by_cases hk32 : k = 32
  case neg =>
    have hkne : ((k : Int) != 32) = true := by simp; omega
    go_wp2_with fail
    go_ret
    exact ⟨rfl, B1.out⟩
  subst hk32
  have hds : ds.length = 32 := HKL.out.symm
  have hne : ds ≠ [] := by intro e; rw [e] at hds; simp at hds
  obtain ⟨b0, o0, c', he, hc0, hbb, hrow0⟩ := slice_form HD.out hne
  simp only [Value.slice.injEq] at he
  obtain ⟨rfl, -, rfl⟩ := he
  rw [hds] at hrow0
  have HDS := Lib.hid hds
  have HROW := Lib.hid hrow0
  clear hds hne hc0 hrow0
  obtain ⟨u, hu⟩ : ∃ u, IntKind.u64.wrap i0 = u := ⟨_, rfl⟩
  have hu0 : 0 ≤ u ∧ u < 18446744073709551616 := by rw [← hu, IntKind.wrap_u64]; omega
  obtain ⟨hu1, hu2⟩ := hu0
  obtain ⟨i, hi⟩ : ∃ i : Nat, u % 32 = i := ⟨(u % 32).toNat, by omega⟩
  have hi32 : i < 32 := by omega
  have hxor := xor_fl i hi32
  have hfl := fl_32 i hi32
  go_wp2_with fail
  refine (path_ok ds (some ⟨b0, o0, none⟩) 32 c i hi32 w1 (HD.out.below B1.out) HDS.out.symm rfl (range_below HK.out B1.out) (Nat.lt_of_lt_of_le h18 B1.out.size)).mono ?_
  rintro e w2 ⟨v5, rfl, ro5, hb2⟩
  obtain ⟨b5, c5, _, rfl, _, _⟩ := own_blk2 (by omega) ro5
  have B2 := Lib.hid (B1.out.trans (hb2.mono B1.out.size))
  have O5 := Lib.hid ro5
  clear hb2 ro5
  go_wp2_with fail
  refine (path_ok ds (some ⟨b0, o0, none⟩) 32 c (fl i) hfl w2 (HD.out.below B2.out) HDS.out.symm rfl (range_below HK.out B2.out) (Nat.lt_of_lt_of_le h18 B2.out.size)).mono ?_
  rintro e w3 ⟨v7, rfl, ro7, hb3⟩
  obtain ⟨b7, c7, _, rfl, _, _⟩ := own_blk2 (by omega) ro7
  have B3 := Lib.hid (B2.out.trans (hb3.mono B2.out.size))
  have hg := HD.out.good
  have dg5 : Dgs w3 (.slice (some ⟨b5, 0, none⟩) 5 c5) (wayT ds i 5) := Dgs.of_own (own_bel O5.out hb3) (wayT_len ds i 5).symm (wayT_good ds i hi32 HDS.out hg 5 (by omega))
  have dg7 : Dgs w3 (.slice (some ⟨b7, 0, none⟩) 5 c7) (wayT ds (fl i) 5) := Dgs.of_own ro7 (wayT_len ds (fl i) 5).symm (wayT_good ds (fl i) hfl HDS.out hg 5 (by omega))
  obtain ⟨_, _, _, e5, hc5, _, r5⟩ := slice_form dg5 (by intro e; have := wayT_len ds i 5; rw [e] at this; simp at this)
  obtain ⟨_, _, _, e7, hc7, _, r7⟩ := slice_form dg7 (by intro e; have := wayT_len ds (fl i) 5; rw [e] at this; simp at this)
  simp only [Value.slice.injEq, Option.some.injEq, Addr.mk.injEq] at e5 e7
  obtain ⟨⟨rfl, rfl, -⟩, -, rfl⟩ := e5
  obtain ⟨⟨rfl, rfl, -⟩, -, rfl⟩ := e7
  rw [wayT_len] at hc5 hc7 r5 r7
  have r50 := r5 0 (by omega)
  have r70 := r7 0 (by omega)
  rw [way_first, Nat.zero_mul, Nat.add_zero] at r50 r70
  rw [fl_fl] at r70
  have rF := range_below (HROW.out (fl i) hfl) B3.out
  have rI := range_below (HROW.out i hi32) B3.out
  have gF := HD.out.at (fl i) (by rw [HDS.out]; exact hfl)
  have gI := HD.out.at i (by rw [HDS.out]; exact hi32)
  obtain ⟨LF, hLF⟩ : ∃ d, d = ds.getD (fl i) [] := ⟨_, rfl⟩
  obtain ⟨LI, hLI⟩ : ∃ d, d = ds.getD i [] := ⟨_, rfl⟩
  rw [← hLF] at r50 rF gF
  rw [← hLI] at r70 rI gI
  have t5 := dg5.tail (wayT_len ds i 5).symm (by omega)
  have t7 := dg7.tail (wayT_len ds (fl i) 5).symm (by omega)
  rw [way_tail] at t7
  obtain ⟨WT, hWT⟩ : ∃ d, d = (wayT ds i 5).drop 1 := ⟨_, rfl⟩
  rw [← hWT] at t5 t7
  have R5 := Lib.hid r50
  have R7 := Lib.hid r70
  have RF := Lib.hid rF
  have RI := Lib.hid rI
  have GLLF := Lib.hid gF.1
  have GLLI := Lib.hid gI.1
  have DT5 := Lib.hid t5
  have DT7 := Lib.hid t7
  have HWT : Hid (5 - 1 = WT.length) := Lib.hid (by rw [hWT, List.length_drop, wayT_len])
  have HXOR := Lib.hid hxor
  have HFL : Hid ((fl i : Int) < 32) := Lib.hid (by omega)
  have hiI : (i : Int) < 32 := by omega
  clear r50 r70 rF rI gF gI hLF hLI dg5 dg7 r5 r7 t5 t7 hWT hg ro7 hb3 O5 hxor hu hu1 hu2
  go_wp2_with fail
  refine wp_region_rely (by kernel_rfl) 44 (by kernel_rfl) (by kernel_rfl) Ext Ext.refl Ext.trans (fun ix => match ix with
    | 0 => fun _ v => v = .nilIface
    | 1 => fun _ v => v = .bool true
    | 2 => fun _ v => v = .bool true
    | 3 => fun _ v => v = .nilIface
    | 4 => fun _ v => v = .bool true
    | 5 => fun _ v => v = .bool true
    | 6 => fun _ v => v = .bool true
    | 7 => fun _ v => v = .slice (some ⟨b5, 0, none⟩) 5 c5
    | 8 => fun _ v => v = .int .i64 5
    | 9 => fun _ v => v = .bool true
    | 10 => fun _ v => v = .bool true
    | 11 => fun _ v => v = .bool true
    | 12 => fun _ v => v = .slice (some ⟨b7, 0, none⟩) 5 c7
    | 13 => fun _ v => v = .int .i64 5
    | 14 => fun _ v => v = .bool true
    | 15 => fun _ v => v = .bool true
    | 16 => fun _ v => v = .bool true
    | 17 => fun _ v => v = .slice (some ⟨b5, 0, none⟩) 5 c5
    | 18 => fun _ v => v = .pointer (some ⟨b5, 0, none⟩)
    | 19 => fun _ v => v = .agg (u8s LF).toArray
    | 20 => fun _ v => v = .slice (some ⟨b0, o0, none⟩) 32 c
    | 21 => fun _ v => v = .int .i64 (i : Int)
    | 22 => fun _ v => v = .int .i64 (fl i : Int)
    | 23 => fun _ v => v = .pointer (some ⟨b0, o0 + fl i * 16, none⟩)
    | 24 => fun _ v => v = .agg (u8s LF).toArray
    | 25 => fun _ v => v = .bool true
    | 26 => fun _ v => v = .bool true
    | 27 => fun _ v => v = .bool true
    | 28 => fun _ v => v = .slice (some ⟨b7, 0, none⟩) 5 c7
    | 29 => fun _ v => v = .pointer (some ⟨b7, 0, none⟩)
    | 30 => fun _ v => v = .agg (u8s LI).toArray
    | 31 => fun _ v => v = .slice (some ⟨b0, o0, none⟩) 32 c
    | 32 => fun _ v => v = .int .i64 (i : Int)
    | 33 => fun _ v => v = .pointer (some ⟨b0, o0 + i * 16, none⟩)
    | 34 => fun _ v => v = .agg (u8s LI).toArray
    | 35 => fun _ v => v = .bool true
    | 36 => fun _ v => v = .bool true
    | 37 => fun _ v => v = .bool true
    | 38 => fun _ v => v = .slice (some ⟨b5, 0, none⟩) 5 c5
    | 39 => fun _ v => v = .slice (some ⟨b5, 0 + 1 * 16, none⟩) (5 - 1) (c5 - 1)
    | 40 => fun _ v => v = .slice (some ⟨b7, 0, none⟩) 5 c7
    | 41 => fun _ v => v = .slice (some ⟨b7, 0 + 1 * 16, none⟩) (5 - 1) (c7 - 1)
    | 42 => fun _ v => v = .bool true
    | 43 => fun _ v => v = .bool true
    | _ => fun _ _ => False) ?_
  simp (maxSteps := 10000000) only [Rely, List.take_succ_cons, List.take_zero, List.drop_succ_cons, List.drop_zero, Nat.reduceAdd, Nat.zero_add, Act.put, List.setIfInBounds_toArray, List.set_cons_succ, List.set_cons_zero]
  refine ⟨?_, ?_, ?_, ?_, ?_, ?_, ?_, ?_, ?_, ?_, ?_, ?_, ?_, ?_, ?_, ?_, ?_, ?_, ?_, ?_, ?_, ?_, ?_, ?_, ?_, ?_, ?_, ?_, ?_, ?_, ?_, ?_, ?_, ?_, ?_, ?_, ?_, ?_, ?_, ?_, ?_, ?_, ?_, ?_, ?_⟩
  · refine step_plain rfl fun vs wq hE hd => ?_
    exact gives_move _ (.nilIface) (.inl rfl) rfl ⟨Ext.refl _, fun _ _ => rfl⟩
  · refine step_plain rfl fun vs wq hE hd => ?_
    exact gives_binOp .eql 57 _ _ _ rfl (.nilIface) (Value.nilIface) (.bool true) (show vs 0 = _ from hd.1) rfl (by go_simp) (by go_simp) ⟨Ext.refl _, fun _ _ => rfl⟩
  · refine step_plain rfl fun vs wq hE hd => ?_
    exact gives_move _ (.bool true) (.inl rfl) (show vs 1 = _ from hd.1) ⟨Ext.refl _, fun _ _ => rfl⟩
  · refine step_guard 2 true 33 rfl rfl (fun _ => rfl) fun vs wq hE hd => ⟨hd.1, ?_⟩
    exact gives_move _ (.nilIface) (.inl rfl) rfl ⟨Ext.refl _, fun _ _ => rfl⟩
  · refine step_guard 2 true 33 rfl rfl (fun _ => rfl) fun vs wq hE hd => ⟨hd.2.1, ?_⟩
    exact gives_binOp .eql 57 _ _ _ rfl (.nilIface) (Value.nilIface) (.bool true) (show vs 3 = _ from hd.1) rfl (by go_simp) (by go_simp) ⟨Ext.refl _, fun _ _ => rfl⟩
  · refine step_plain rfl fun vs wq hE hd => ?_
    exact gives_pick _ _ _ (.bool true) true rfl (show vs 2 = _ from hd.1) (show vs 4 = _ from hd.2.1) ⟨Ext.refl _, fun _ _ => rfl⟩
  · refine step_plain rfl fun vs wq hE hd => ?_
    exact gives_move _ (.bool true) (.inl rfl) (show vs 5 = _ from hd.1) ⟨Ext.refl _, fun _ _ => rfl⟩
  · refine step_guard 6 true 37 rfl rfl (fun _ => rfl) fun vs wq hE hd => ⟨hd.1, ?_⟩
    exact gives_move _ (.slice (some ⟨b5, 0, none⟩) 5 c5) (.inl rfl) rfl ⟨Ext.refl _, fun _ _ => rfl⟩
  · refine step_guard 6 true 37 rfl rfl (fun _ => rfl) fun vs wq hE hd => ⟨hd.2.1, ?_⟩
    exact gives_len55 _ rfl _ 5 _ (show vs 7 = _ from (hd.1)) ⟨Ext.refl _, fun _ _ => rfl⟩
  · refine step_guard 6 true 37 rfl rfl (fun _ => rfl) fun vs wq hE hd => ⟨hd.2.1, ?_⟩
    exact gives_binOp .eql 3 _ _ _ rfl (.int .i64 5) (Value.int IntKind.i64 5) (.bool true) (show vs 8 = _ from hd.1) rfl (by go_simp) (by go_simp) ⟨Ext.refl _, fun _ _ => rfl⟩
  · refine step_plain rfl fun vs wq hE hd => ?_
    exact gives_pick _ _ _ (.bool true) true rfl (show vs 6 = _ from hd.1) (show vs 9 = _ from hd.2.1) ⟨Ext.refl _, fun _ _ => rfl⟩
  · refine step_plain rfl fun vs wq hE hd => ?_
    exact gives_move _ (.bool true) (.inl rfl) (show vs 10 = _ from hd.1) ⟨Ext.refl _, fun _ _ => rfl⟩
  · refine step_guard 11 true 42 rfl rfl (fun _ => rfl) fun vs wq hE hd => ⟨hd.1, ?_⟩
    exact gives_move _ (.slice (some ⟨b7, 0, none⟩) 5 c7) (.inl rfl) rfl ⟨Ext.refl _, fun _ _ => rfl⟩
  · refine step_guard 11 true 42 rfl rfl (fun _ => rfl) fun vs wq hE hd => ⟨hd.2.1, ?_⟩
    exact gives_len55 _ rfl _ 5 _ (show vs 12 = _ from (hd.1)) ⟨Ext.refl _, fun _ _ => rfl⟩
  · refine step_guard 11 true 42 rfl rfl (fun _ => rfl) fun vs wq hE hd => ⟨hd.2.1, ?_⟩
    exact gives_binOp .eql 3 _ _ _ rfl (.int .i64 5) (Value.int IntKind.i64 5) (.bool true) (show vs 13 = _ from hd.1) rfl (by go_simp) (by go_simp) ⟨Ext.refl _, fun _ _ => rfl⟩
  · refine step_plain rfl fun vs wq hE hd => ?_
    exact gives_pick _ _ _ (.bool true) true rfl (show vs 11 = _ from hd.1) (show vs 14 = _ from hd.2.1) ⟨Ext.refl _, fun _ _ => rfl⟩
  · refine step_plain rfl fun vs wq hE hd => ?_
    exact gives_move _ (.bool true) (.inl rfl) (show vs 15 = _ from hd.1) ⟨Ext.refl _, fun _ _ => rfl⟩
  · refine step_guard 16 true 47 rfl rfl (fun _ => rfl) fun vs wq hE hd => ⟨hd.1, ?_⟩
    exact gives_move _ (.slice (some ⟨b5, 0, none⟩) 5 c5) (.inl rfl) rfl ⟨Ext.refl _, fun _ _ => rfl⟩
  · refine step_guard 16 true 47 rfl rfl (fun _ => rfl) fun vs wq hE hd => ⟨hd.2.1, ?_⟩
    exact gives_indexAt 55 _ _ rfl (.slice (some ⟨b5, 0, none⟩) 5 c5) (Value.int IntKind.i64 0) (.pointer (some ⟨b5, 0, none⟩)) (show vs 17 = _ from hd.1) rfl (by go_simp) ⟨Ext.refl _, fun _ _ => rfl⟩
  · refine step_guard 16 true 47 rfl rfl (fun _ => rfl) fun vs wq hE hd => ⟨hd.2.1, ?_⟩
    exact gives_load_row 43 _ rfl b5 0 (show vs 18 = _ from (hd.1)) (u8s LF) _ (range_below R5.out (ext_of_drew hE)) Tryd.underlying43 rfl (hi43 LF GLLF.out) ⟨Ext.refl _, fun _ _ => rfl⟩
  · refine step_guard 16 true 47 rfl rfl (fun _ => rfl) fun vs wq hE hd => ⟨hd.1, ?_⟩
    exact gives_move _ (.slice (some ⟨b0, o0, none⟩) 32 c) (.inl rfl) rfl ⟨Ext.refl _, fun _ _ => rfl⟩
  · refine step_guard 16 true 47 rfl rfl (fun _ => rfl) fun vs wq hE hd => ⟨hd.1, ?_⟩
    exact gives_move _ (.int .i64 (i : Int)) (.inl rfl) rfl ⟨Ext.refl _, fun _ _ => rfl⟩
  · refine step_guard 16 true 47 rfl rfl (fun _ => rfl) fun vs wq hE hd => ⟨hd.2.1, ?_⟩
    exact gives_binOp .xor 3 _ _ _ rfl (.int .i64 (i : Int)) (.int .i64 1) (.int .i64 (fl i : Int)) (show vs 21 = _ from (hd.1)) rfl (by go_simp) (by have hx := HXOR.out; go_simp) ⟨Ext.refl _, fun _ _ => rfl⟩
  · refine step_guard 16 true 47 rfl rfl (fun _ => rfl) fun vs wq hE hd => ⟨hd.2.2.1, ?_⟩
    exact gives_indexAt 55 _ _ rfl (.slice (some ⟨b0, o0, none⟩) 32 c) (.int .i64 (fl i : Int)) (.pointer (some ⟨b0, o0 + fl i * 16, none⟩)) (show vs 20 = _ from (hd.1)) (show vs 22 = _ from (hd.2.1)) (by have hq := HFL.out; go_simp) ⟨Ext.refl _, fun _ _ => rfl⟩
  · refine step_guard 16 true 47 rfl rfl (fun _ => rfl) fun vs wq hE hd => ⟨hd.2.1, ?_⟩
    exact gives_load_row 43 _ rfl b0 (o0 + fl i * 16) (show vs 23 = _ from (hd.1)) (u8s LF) _ (range_below RF.out (ext_of_drew hE)) Tryd.underlying43 rfl (hi43 LF GLLF.out) ⟨Ext.refl _, fun _ _ => rfl⟩
  · refine step_guard 16 true 47 rfl rfl (fun _ => rfl) fun vs wq hE hd => ⟨hd.2.2.1, ?_⟩
    have hsame := run_same16 LF GLLF.out
    exact gives_binOp .eql 43 _ _ _ rfl (.agg (u8s LF).toArray) (.agg (u8s LF).toArray) (.bool true) (show vs 19 = _ from (hd.1)) (show vs 24 = _ from (hd.2.1)) (by go_simp) (by go_simp) ⟨Ext.refl _, fun _ _ => rfl⟩
  · refine step_plain rfl fun vs wq hE hd => ?_
    exact gives_pick _ _ _ (.bool true) true rfl (show vs 16 = _ from hd.1) (show vs 25 = _ from hd.2.1) ⟨Ext.refl _, fun _ _ => rfl⟩
  · refine step_plain rfl fun vs wq hE hd => ?_
    exact gives_move _ (.bool true) (.inl rfl) (show vs 26 = _ from hd.1) ⟨Ext.refl _, fun _ _ => rfl⟩
  · refine step_guard 27 true 58 rfl rfl (fun _ => rfl) fun vs wq hE hd => ⟨hd.1, ?_⟩
    exact gives_move _ (.slice (some ⟨b7, 0, none⟩) 5 c7) (.inl rfl) rfl ⟨Ext.refl _, fun _ _ => rfl⟩
  · refine step_guard 27 true 58 rfl rfl (fun _ => rfl) fun vs wq hE hd => ⟨hd.2.1, ?_⟩
    exact gives_indexAt 55 _ _ rfl (.slice (some ⟨b7, 0, none⟩) 5 c7) (Value.int IntKind.i64 0) (.pointer (some ⟨b7, 0, none⟩)) (show vs 28 = _ from hd.1) rfl (by go_simp) ⟨Ext.refl _, fun _ _ => rfl⟩
  · refine step_guard 27 true 58 rfl rfl (fun _ => rfl) fun vs wq hE hd => ⟨hd.2.1, ?_⟩
    exact gives_load_row 43 _ rfl b7 0 (show vs 29 = _ from (hd.1)) (u8s LI) _ (range_below R7.out (ext_of_drew hE)) Tryd.underlying43 rfl (hi43 LI GLLI.out) ⟨Ext.refl _, fun _ _ => rfl⟩
  · refine step_guard 27 true 58 rfl rfl (fun _ => rfl) fun vs wq hE hd => ⟨hd.1, ?_⟩
    exact gives_move _ (.slice (some ⟨b0, o0, none⟩) 32 c) (.inl rfl) rfl ⟨Ext.refl _, fun _ _ => rfl⟩
  · refine step_guard 27 true 58 rfl rfl (fun _ => rfl) fun vs wq hE hd => ⟨hd.1, ?_⟩
    exact gives_move _ (.int .i64 (i : Int)) (.inl rfl) rfl ⟨Ext.refl _, fun _ _ => rfl⟩
  · refine step_guard 27 true 58 rfl rfl (fun _ => rfl) fun vs wq hE hd => ⟨hd.2.2.1, ?_⟩
    exact gives_indexAt 55 _ _ rfl (.slice (some ⟨b0, o0, none⟩) 32 c) (.int .i64 (i : Int)) (.pointer (some ⟨b0, o0 + i * 16, none⟩)) (show vs 31 = _ from hd.1) (show vs 32 = _ from hd.2.1) (by go_simp) ⟨Ext.refl _, fun _ _ => rfl⟩
  · refine step_guard 27 true 58 rfl rfl (fun _ => rfl) fun vs wq hE hd => ⟨hd.2.1, ?_⟩
    exact gives_load_row 43 _ rfl b0 (o0 + i * 16) (show vs 33 = _ from (hd.1)) (u8s LI) _ (range_below RI.out (ext_of_drew hE)) Tryd.underlying43 rfl (hi43 LI GLLI.out) ⟨Ext.refl _, fun _ _ => rfl⟩
  · refine step_guard 27 true 58 rfl rfl (fun _ => rfl) fun vs wq hE hd => ⟨hd.2.2.1, ?_⟩
    have hsame := run_same16 LI GLLI.out
    exact gives_binOp .eql 43 _ _ _ rfl (.agg (u8s LI).toArray) (.agg (u8s LI).toArray) (.bool true) (show vs 30 = _ from (hd.1)) (show vs 34 = _ from (hd.2.1)) (by go_simp) (by go_simp) ⟨Ext.refl _, fun _ _ => rfl⟩
  · refine step_plain rfl fun vs wq hE hd => ?_
    exact gives_pick _ _ _ (.bool true) true rfl (show vs 27 = _ from hd.1) (show vs 35 = _ from hd.2.1) ⟨Ext.refl _, fun _ _ => rfl⟩
  · refine step_plain rfl fun vs wq hE hd => ?_
    exact gives_move _ (.bool true) (.inl rfl) (show vs 36 = _ from hd.1) ⟨Ext.refl _, fun _ _ => rfl⟩
  · refine step_guard 37 true 68 rfl rfl (fun _ => rfl) fun vs wq hE hd => ⟨hd.1, ?_⟩
    exact gives_move _ (.slice (some ⟨b5, 0, none⟩) 5 c5) (.inl rfl) rfl ⟨Ext.refl _, fun _ _ => rfl⟩
  · refine step_guard 37 true 68 rfl rfl (fun _ => rfl) fun vs wq hE hd => ⟨hd.2.1, ?_⟩
    exact gives_slice 55 _ _ _ _ rfl (.slice (some ⟨b5, 0, none⟩) 5 c5) (.slice (some ⟨b5, 0 + 1 * 16, none⟩) (5 - 1) (c5 - 1)) (some (.int .i64 ((1 : Nat) : Int))) none none (show vs 38 = _ from (hd.1)) rfl rfl rfl (slice55_l b5 0 5 c5 1 (by omega) (by omega) _) ⟨Ext.refl _, fun _ _ => rfl⟩
  · refine step_guard 37 true 68 rfl rfl (fun _ => rfl) fun vs wq hE hd => ⟨hd.1, ?_⟩
    exact gives_move _ (.slice (some ⟨b7, 0, none⟩) 5 c7) (.inl rfl) rfl ⟨Ext.refl _, fun _ _ => rfl⟩
  · refine step_guard 37 true 68 rfl rfl (fun _ => rfl) fun vs wq hE hd => ⟨hd.2.1, ?_⟩
    exact gives_slice 55 _ _ _ _ rfl (.slice (some ⟨b7, 0, none⟩) 5 c7) (.slice (some ⟨b7, 0 + 1 * 16, none⟩) (5 - 1) (c7 - 1)) (some (.int .i64 ((1 : Nat) : Int))) none none (show vs 40 = _ from (hd.1)) rfl rfl rfl (slice55_l b7 0 5 c7 1 (by omega) (by omega) _) ⟨Ext.refl _, fun _ _ => rfl⟩
  · refine step_guard 37 true 68 rfl rfl (fun _ => rfl) fun vs wq hE hd => ⟨hd.2.2.1, ?_⟩
    refine gives_call 43 (enters_of Tryd.func43 (by kernel_rfl) rfl) _ _ rfl rfl [.slice (some ⟨b5, 0 + 1 * 16, none⟩) (5 - 1) (c5 - 1), .slice (some ⟨b7, 0 + 1 * 16, none⟩) (5 - 1) (c7 - 1)] ?_ ?_
    · show [vs 39, vs 41] = _
      rw [show vs 39 = _ from (hd.1), show vs 41 = _ from (hd.2.1)]
    · refine (same_any WT WT _ _ (5 - 1) (5 - 1) _ _ wq (DT5.out.below (ext_of_drew hE)) (DT7.out.below (ext_of_drew hE)) HWT.out HWT.out (by omega)).mono ?_
      rintro _ w'' ⟨rfl, hb⟩
      exact ⟨_, rfl, hb, fun _ _ => by rw [decide_eq_true rfl]; rfl⟩
  · refine step_plain rfl fun vs wq hE hd => ?_
    exact gives_pick _ _ _ (.bool true) true rfl (show vs 37 = _ from hd.1) (show vs 42 = _ from hd.2.1) ⟨Ext.refl _, fun _ _ => rfl⟩
  · intro vs wz hE hR
    have h43 : vs 43 = .bool true := hR 43 (by omega)
    have hb := B3.out.trans ((ext_of_drew hE).mono B3.out.size)
    have HB := Lib.hid hb
    rw [h43]
    clear hR hE h43 hb
    go_wp2
    go_ret
    exact ⟨rfl, HB.out⟩
end Go.Proofs.YtdedphhohiioiaaDoor
