/- What Secret of the chains does. -/
import Derived.Test.YtdedphhohiioiaaDoorRefChain
namespace Go.Proofs.YtdedphhohiioiaaDoor
open Go.RowKit

set_option maxHeartbeats 4000000 in
set_option maxRecDepth 100000 in
theorem secret_any (x : List Int) (hl : x.length = 16) (hx : u8s_ok x) (l c : Int) (w : World) (hk : w.rangeAt 18 0 (u32s kk)) (h18 : 18 < w.heap.size) :
    Calls Tryd.prog 38 #[.agg (u8s x).toArray, .int .i64 l, .int .i64 c] w fun e w' => e = .returned (.agg (u8s (secretC l c x)).toArray) ∧ Below w.heap.size w w' := by
  have HK := Lib.hid hk
  clear hk
  go_enter Tryd.func38, Tryd.ntmps38
  have hx0 : ((w.alloc (.cells (u8s x).toArray 43)).alloc (Obj.cells (Array.replicate 16 (Value.int .u8 0)) 43)).heap[w.heap.size]? = some (.cells (u8s x).toArray 43 (0, 0)) := heap_alloc2_old w _ _
  have hr0 : Has ((w.alloc (.cells (u8s x).toArray 43)).alloc (Obj.cells (Array.replicate 16 (Value.int .u8 0)) 43)) (w.heap.size + 1) 43 16 := has_new2 w _ _ _ _ rfl
  have hb0 : Below w.heap.size w ((w.alloc (.cells (u8s x).toArray 43)).alloc (Obj.cells (Array.replicate 16 (Value.int .u8 0)) 43)) := ((Below.refl _ _).alloc (Nat.le_refl _) _).alloc (by simp) _
  go_wp2_with fail
  change Code.wp _ _ _ _ ((w.alloc (.cells (u8s x).toArray 43)).alloc (Obj.cells (Array.replicate 16 (Value.int .u8 0)) 43))
  generalize (w.alloc (.cells (u8s x).toArray 43)).alloc (Obj.cells (Array.replicate 16 (Value.int .u8 0)) 43) = wr at *
  have hbx : Bs wr (.slice (some ⟨w.heap.size, 0, none⟩) x.length 16) x := Bs.of_blk hx0 hx (by omega) (by unfold maxLen; omega)
  rw [hl] at hbx
  obtain ⟨ST, hST⟩ : ∃ s, s = secretC l c x := ⟨_, rfl⟩
  have hSl : ST.length = 16 := by rw [hST]; exact short_len _ _
  have hfl := secret_small l c x hl
  have hi43 : (Tryd.prog.info? 43).map (·.size) = some (u8s ST).length := by rw [u8s_len', hSl]; exact Tryd.size43
  have hhas : ∀ w3, Ext wr w3 → Has w3 (w.heap.size + 1) 43 (u8s ST).length := fun w3 h => by
    rw [u8s_len', hSl]
    exact hr0.below h
  have HBX := Lib.hid hbx
  have HFL := Lib.hid hfl
  have HST := Lib.hid hST
  have HI := Lib.hid hi43
  have HH := Lib.hid hhas
  have HB0 := Lib.hid hb0
  clear hbx hfl hST hi43 hhas hSl hx0 hr0 hb0 hl hx
  refine wp_region_rely (by kernel_rfl) 7 (by kernel_rfl) (by kernel_rfl) Ext Ext.refl Ext.trans (fun i' => match i' with
    | 0 => fun _ v => v = .slice (some ⟨w.heap.size, 0, none⟩) 16 16
    | 1 => fun _ v => v = .int .i64 l
    | 2 => fun w v => Bs w v [l % 256]
    | 3 => fun _ v => v = .int .i64 c
    | 4 => fun w v => Bs w v [c % 256]
    | 5 => fun w v => ∃ A, v = .slice A 3 3 ∧ Bss w (.slice A 3 3) [x, [l % 256], [c % 256]]
    | 6 => fun _ v => v = .agg (u8s ST).toArray
    | _ => fun _ _ => False) ?_
  simp (maxSteps := 10000000) only [Rely, List.take_succ_cons, List.take_zero, List.drop_succ_cons, List.drop_zero, Nat.reduceAdd, Nat.zero_add, Act.put, List.setIfInBounds_toArray, List.set_cons_succ, List.set_cons_zero]
  refine ⟨?_, ?_, ?_, ?_, ?_, ?_, ?_, ?_⟩
  · refine step_plain rfl fun vs w1 hE hd => ?_
    exact gives_slice 43 _ none none none rfl (.pointer (some ⟨w.heap.size, 0, none⟩)) (.slice (some ⟨w.heap.size, 0, none⟩) 16 16) none none none rfl rfl rfl rfl (slice43 _ _) ⟨Ext.refl _, fun _ _ => rfl⟩
  · refine step_plain rfl fun vs w1 hE hd => ?_
    exact gives_move _ (.int .i64 l) (.inl rfl) rfl ⟨Ext.refl _, fun _ _ => rfl⟩
  · refine step_plain rfl fun vs w1 hE hd => ?_
    refine gives_call 76 Tryd.call76 _ _ rfl rfl [.int .i64 l] (congrArg (fun x => [x]) (hd.1)) ?_
    refine (small_any l w1).mono ?_
    rintro e w2 ⟨rfl, rfl⟩
    exact ⟨_, rfl, (Below.refl _ _).alloc (Nat.le_refl _) _, fun _ h => (Bs.new1 w1 l).below h⟩
  · refine step_plain rfl fun vs w1 hE hd => ?_
    exact gives_move _ (.int .i64 c) (.inl rfl) rfl ⟨Ext.refl _, fun _ _ => rfl⟩
  · refine step_plain rfl fun vs w1 hE hd => ?_
    refine gives_call 76 Tryd.call76 _ _ rfl rfl [.int .i64 c] (congrArg (fun x => [x]) (hd.1)) ?_
    refine (small_any c w1).mono ?_
    rintro e w2 ⟨rfl, rfl⟩
    exact ⟨_, rfl, (Below.refl _ _).alloc (Nat.le_refl _) _, fun _ h => (Bs.new1 w1 c).below h⟩
  · refine step_plain rfl fun vs w1 hE hd => ?_
    have e0 : vs 0 = _ := hd.1
    have b2 : Bs w1 (vs 2) [l % 256] := hd.2.1
    have b4 : Bs w1 (vs 4) [c % 256] := hd.2.2.1
    have bx : Bs w1 _ x := HBX.out.below (ext_of_drew hE)
    obtain ⟨A2, c2, e2⟩ := b2.form
    obtain ⟨A4, c4, e4⟩ := b4.form
    rw [e2] at b2
    rw [e4] at b4
    refine gives_build 30 3 _ rfl #[(0, .slice (some ⟨w.heap.size, 0, none⟩) 16 16), (1, .slice A2 1 c2), (2, .slice A4 1 c4)] ?_ _ (build30' _ _ _ _ _ _ _ _ _ _) ⟨(Below.refl _ _).alloc (Nat.le_refl _) _, fun w5 h5 => ⟨_, rfl, Bss.below (Bss.new w1 [.slice (some ⟨w.heap.size, 0, none⟩) 16 16, .slice A2 1 c2, .slice A4 1 c4] [x, [l % 256], [c % 256]] rfl (fun j hj => ?_) (by simp)) h5⟩⟩
    · simp only [List.map_toArray, List.map_cons, List.map_nil]
      show #[(0, vs 0), (1, vs 2), (2, vs 4)] = _
      rw [e0, e2, e4]
      rfl
    · have hj4 : j = 0 ∨ j = 1 ∨ j = 2 := by simp at hj; omega
      rcases hj4 with rfl | rfl | rfl
      · exact bx
      · exact b2
      · exact b4
  · refine step_plain rfl fun vs w1 hE hd => ?_
    obtain ⟨A7, e7, b7⟩ : ∃ A, vs 5 = .slice A 3 3 ∧ Bss w1 (.slice A 3 3) [x, [l % 256], [c % 256]] := hd.1
    have hw1 : Below w.heap.size w w1 := HB0.out.trans (Below.mono (ext_of_drew hE) HB0.out.size)
    refine gives_call 33 Tryd.call33 _ _ rfl rfl [.int .i64 1, .slice A7 3 3] (congrArg (fun x => [Value.int .i64 1, x]) e7) ?_
    refine (of_any 1 [x, [l % 256], [c % 256]] A7 3 3 w1 b7 rfl HFL.out (range_below HK.out hw1) (by have := hw1.size; omega)).mono ?_
    rintro e w2 ⟨rfl, hb⟩
    exact ⟨_, rfl, hb, fun _ _ => by rw [HST.out]; rfl⟩
  · intro vs w3 hE hR
    have h8 : vs 6 = .agg (u8s ST).toArray := hR 6 (by omega)
    rw [h8]
    have he : Ext wr w3 := ext_of_drew hE
    have HH3 := Lib.hid (HH.out w3 he)
    have HB3 := Lib.hid (HB0.out.trans (Below.mono he HB0.out.size))
    clear hR hE h8 HH he
    go_wp2_with (refine wpList_store_row rfl 43 (.tmp 6) (.tmp 13) rfl (w.heap.size + 1) rfl (u8s ST) rfl 43 HH3.out HI.out (one_u8s _) ?_; intro w10 hp10)
    refine bodyPost_ret (v := .agg (u8s ST).toArray) (results_cell_row rfl _ _ (w.heap.size + 1) 43 _ (0, 0) _ rfl hp10.blk Tryd.underlying43 rfl (by simpa using HI.out)) rfl ⟨by rw [HST.out], hp10.below HB3.out (by omega)⟩
end Go.Proofs.YtdedphhohiioiaaDoor
