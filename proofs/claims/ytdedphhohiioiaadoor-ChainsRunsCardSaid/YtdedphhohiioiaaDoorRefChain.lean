/- What the reference's Step, Secret and Run do. -/
import Derived.Test.YtdedphhohiioiaaDoorText
namespace Go.Proofs.YtdedphhohiioiaaDoor
open Go.RowKit

theorem Txs.new (w : World) (ss : List ByteArray) (hz : ss.length ≤ 1000) : Txs (w.alloc (.cells (strs ss).toArray 9)) (.slice (some ⟨w.heap.size, 0, none⟩) ss.length ss.length) ss := by
  refine ⟨⟨_, _, rfl⟩, fun _ => ⟨w.heap.size, 0, ss.length, rfl, Nat.le_refl _, by unfold maxLen; omega, by simp, fun i hi => ?_⟩⟩
  rw [Nat.zero_add, cell_of_row _ _ _ _ _ _ (heap_alloc_new w _)]
  simp [strs, List.getD_eq_getElem?_getD, hi]

theorem step_small (l c : Int) (x : List Int) (k : Int) (hl : x.length = 16) : (framed 2 [x, [l % 256], [c % 256], [k % 256]]).length ≤ 1099511627776 := by simp [framed, be4, hl]
def secretC (l c : Int) (x : List Int) : List Int := short 1 [x, [l % 256], [c % 256]]
theorem secret_small (l c : Int) (x : List Int) (hl : x.length = 16) : (framed 1 [x, [l % 256], [c % 256]]).length ≤ 1099511627776 := by simp [framed, be4, hl]

set_option maxHeartbeats 4000000 in
set_option maxRecDepth 100000 in
theorem step_any (x : List Int) (hl : x.length = 16) (hx : u8s_ok x) (l c k : Int) (w : World) :
    Calls Tryd.prog 79 #[.agg (u8s x).toArray, .int .i64 l, .int .i64 c, .int .i64 k] w fun e w' => e = .returned (.agg (u8s (short 2 [x, [l % 256], [c % 256], [k % 256]])).toArray) ∧ Below w.heap.size w w' := by
  have hi43 : (Tryd.prog.info? 43).map (·.size) = some (u8s x).length := by rw [u8s_len', hl]; exact Tryd.size43
  have hra : ((w.alloc (.cells (u8s x).toArray 43)).alloc (.cells (Array.replicate 16 (Value.int .u8 0)) 43)).rangeAt w.heap.size 0 (u8s x) := World.rangeAt_alloc (range_new w (u8s x) 43) _
  have hb0 : Below w.heap.size w ((w.alloc (.cells (u8s x).toArray 43)).alloc (.cells (Array.replicate 16 (Value.int .u8 0)) 43)) := ((Below.refl _ _).alloc (Nat.le_refl _) _).alloc (by simp) _
  have hh0 : Has ((w.alloc (.cells (u8s x).toArray 43)).alloc (.cells (Array.replicate 16 (Value.int .u8 0)) 43)) (w.heap.size + 1) 43 16 := has_new2 w _ _ _ _ rfl
  have HRA := Lib.hid hra
  have HI := Lib.hid hi43
  have B0 := Lib.hid hb0
  have H0 := Lib.hid hh0
  have HL := Lib.hid hl
  have HX := Lib.hid hx
  clear hra hi43 hb0 hh0 hl hx
  go_enter Tryd.func79, Tryd.ntmps79
  go_wp2_with (refine wpList_load_g rfl 43 (.tmp 4) rfl w.heap.size 0 rfl (u8s x) _ HRA.out Tryd.underlying43 rfl HI.out ?_)
  refine (text_any x HL.out HX.out _).mono ?_
  rintro e w1 ⟨rfl, hb1⟩
  have B1 := Lib.hid (B0.out.trans (hb1.mono B0.out.size))
  have H1 := Lib.hid (H0.out.below hb1)
  clear hb1 B0 H0
  go_wp2_with fail
  refine (one_any l _).mono ?_
  rintro e w2 ⟨rfl, hb2⟩
  have B2 := Lib.hid (B1.out.trans (hb2.mono B1.out.size))
  have H2 := Lib.hid (H1.out.below hb2)
  clear hb2 B1 H1
  go_wp2_with fail
  refine (one_any c _).mono ?_
  rintro e w3 ⟨rfl, hb3⟩
  have B3 := Lib.hid (B2.out.trans (hb3.mono B2.out.size))
  have H3 := Lib.hid (H2.out.below hb3)
  clear hb3 B2 H2
  go_wp2_with fail
  refine (one_any k _).mono ?_
  rintro e w4 ⟨rfl, hb4⟩
  have B4 := Lib.hid (B3.out.trans (hb4.mono B3.out.size))
  have H4 := Lib.hid (H3.out.below hb4)
  clear hb4 B3 H3
  obtain ⟨ST, hST⟩ : ∃ s, s = short 2 [x, [l % 256], [c % 256], [k % 256]] := ⟨_, rfl⟩
  have hSl : ST.length = 16 := by rw [hST]; exact short_len _ _
  have hmap : [strOfNums x, strOfNums [l % 256], strOfNums [c % 256], strOfNums [k % 256]].map sb = [x, [l % 256], [c % 256], [k % 256]] := by
    simp only [List.map_cons, List.map_nil]
    rw [sb_str x HX.out, sb_str _ (one_ok l), sb_str _ (one_ok c), sb_str _ (one_ok k)]
  have htx := Txs.new w4 [strOfNums x, strOfNums [l % 256], strOfNums [c % 256], strOfNums [k % 256]] (by simp)
  have hi43' : (Tryd.prog.info? 43).map (·.size) = some (u8s ST).length := by rw [u8s_len', hSl]; exact Tryd.size43
  have HTX := Lib.hid htx
  have HST := Lib.hid hST
  have HSL := Lib.hid hSl
  have HM := Lib.hid hmap
  have HI' := Lib.hid hi43'
  clear htx hST hSl hmap hi43'
  go_wp2_with fail
  refine (refof_any 2 [strOfNums x, strOfNums [l % 256], strOfNums [c % 256], strOfNums [k % 256]] _ 4 4 _ HTX.out rfl (by rw [HM.out]; exact step_small l c x k HL.out)).mono ?_
  rintro e w5 ⟨rfl, hb5⟩
  rw [HM.out, ← HST.out]
  have hb4 : Below w4.heap.size w4 w5 := ((Below.refl _ _).alloc (Nat.le_refl _) _).trans (hb5.mono (by simp))
  have B5 := Lib.hid (B4.out.trans (hb4.mono B4.out.size))
  have H5 : Hid (Has w5 (w.heap.size + 1) 43 (u8s ST).length) := Lib.hid (by rw [u8s_len', HSL.out]; exact H4.out.below hb4)
  clear hb5 hb4 B4 H4 HTX HM
  go_wp2_with (refine wpList_store_row rfl 43 (.tmp 8) (.tmp 18) rfl (w.heap.size + 1) rfl (u8s ST) rfl 43 H5.out HI'.out (one_u8s _) ?_; intro w10 hp10)
  refine bodyPost_ret (v := .agg (u8s ST).toArray) (results_cell_row rfl _ _ (w.heap.size + 1) 43 _ (0, 0) _ rfl hp10.blk Tryd.underlying43 rfl (by simpa using HI'.out)) rfl ⟨by rw [HST.out], hp10.below B5.out (by omega)⟩

set_option maxHeartbeats 4000000 in
set_option maxRecDepth 100000 in
theorem refSecret_any (x : List Int) (hl : x.length = 16) (hx : u8s_ok x) (l c : Int) (w : World) :
    Calls Tryd.prog 39 #[.agg (u8s x).toArray, .int .i64 l, .int .i64 c] w fun e w' => e = .returned (.agg (u8s (short 1 [x, [l % 256], [c % 256]])).toArray) ∧ Below w.heap.size w w' := by
  have hi43 : (Tryd.prog.info? 43).map (·.size) = some (u8s x).length := by rw [u8s_len', hl]; exact Tryd.size43
  have hra : ((w.alloc (.cells (u8s x).toArray 43)).alloc (.cells (Array.replicate 16 (Value.int .u8 0)) 43)).rangeAt w.heap.size 0 (u8s x) := World.rangeAt_alloc (range_new w (u8s x) 43) _
  have hb0 : Below w.heap.size w ((w.alloc (.cells (u8s x).toArray 43)).alloc (.cells (Array.replicate 16 (Value.int .u8 0)) 43)) := ((Below.refl _ _).alloc (Nat.le_refl _) _).alloc (by simp) _
  have hh0 : Has ((w.alloc (.cells (u8s x).toArray 43)).alloc (.cells (Array.replicate 16 (Value.int .u8 0)) 43)) (w.heap.size + 1) 43 16 := has_new2 w _ _ _ _ rfl
  have HRA := Lib.hid hra
  have HI := Lib.hid hi43
  have B0 := Lib.hid hb0
  have H0 := Lib.hid hh0
  have HL := Lib.hid hl
  have HX := Lib.hid hx
  clear hra hi43 hb0 hh0 hl hx
  go_enter Tryd.func39, Tryd.ntmps39
  go_wp2_with (refine wpList_load_g rfl 43 (.tmp 3) rfl w.heap.size 0 rfl (u8s x) _ HRA.out Tryd.underlying43 rfl HI.out ?_)
  refine (text_any x HL.out HX.out _).mono ?_
  rintro e w1 ⟨rfl, hb1⟩
  have B1 := Lib.hid (B0.out.trans (hb1.mono B0.out.size))
  have H1 := Lib.hid (H0.out.below hb1)
  clear hb1 B0 H0
  go_wp2_with fail
  refine (one_any l _).mono ?_
  rintro e w2 ⟨rfl, hb2⟩
  have B2 := Lib.hid (B1.out.trans (hb2.mono B1.out.size))
  have H2 := Lib.hid (H1.out.below hb2)
  clear hb2 B1 H1
  go_wp2_with fail
  refine (one_any c _).mono ?_
  rintro e w3 ⟨rfl, hb3⟩
  have B3 := Lib.hid (B2.out.trans (hb3.mono B2.out.size))
  have H3 := Lib.hid (H2.out.below hb3)
  clear hb3 B2 H2
  obtain ⟨ST, hST⟩ : ∃ s, s = short 1 [x, [l % 256], [c % 256]] := ⟨_, rfl⟩
  have hSl : ST.length = 16 := by rw [hST]; exact short_len _ _
  have hmap : [strOfNums x, strOfNums [l % 256], strOfNums [c % 256]].map sb = [x, [l % 256], [c % 256]] := by
    simp only [List.map_cons, List.map_nil]
    rw [sb_str x HX.out, sb_str _ (one_ok l), sb_str _ (one_ok c)]
  have htx := Txs.new w3 [strOfNums x, strOfNums [l % 256], strOfNums [c % 256]] (by simp)
  have hi43' : (Tryd.prog.info? 43).map (·.size) = some (u8s ST).length := by rw [u8s_len', hSl]; exact Tryd.size43
  have HTX := Lib.hid htx
  have HST := Lib.hid hST
  have HSL := Lib.hid hSl
  have HM := Lib.hid hmap
  have HI' := Lib.hid hi43'
  clear htx hST hSl hmap hi43'
  go_wp2_with fail
  refine (refof_any 1 [strOfNums x, strOfNums [l % 256], strOfNums [c % 256]] _ 3 3 _ HTX.out rfl (by rw [HM.out]; exact secret_small l c x HL.out)).mono ?_
  rintro e w5 ⟨rfl, hb5⟩
  rw [HM.out, ← HST.out]
  have hb4 : Below w3.heap.size w3 w5 := ((Below.refl _ _).alloc (Nat.le_refl _) _).trans (hb5.mono (by simp))
  have B5 := Lib.hid (B3.out.trans (hb4.mono B3.out.size))
  have H5 : Hid (Has w5 (w.heap.size + 1) 43 (u8s ST).length) := Lib.hid (by rw [u8s_len', HSL.out]; exact H3.out.below hb4)
  clear hb5 hb4 B3 H3 HTX HM
  go_wp2_with (refine wpList_store_row rfl 43 (.tmp 6) (.tmp 14) rfl (w.heap.size + 1) rfl (u8s ST) rfl 43 H5.out HI'.out (one_u8s _) ?_; intro w10 hp10)
  refine bodyPost_ret (v := .agg (u8s ST).toArray) (results_cell_row rfl _ _ (w.heap.size + 1) 43 _ (0, 0) _ rfl hp10.blk Tryd.underlying43 rfl (by simpa using HI'.out)) rfl ⟨by rw [HST.out], hp10.below B5.out (by omega)⟩

set_option maxHeartbeats 4000000 in
set_option maxRecDepth 100000 in
theorem refRun_any (x : List Int) (hl : x.length = 16) (hx : u8s_ok x) (l c : Int) (fr : Nat) (to : Int) (hto : to ≤ 1000) (w : World) :
    Calls Tryd.prog 40 #[.agg (u8s x).toArray, .int .i64 l, .int .i64 c, .int .i64 fr, .int .i64 to] w fun e w' => e = .returned (.agg (u8s (walkC l c x fr to.toNat)).toArray) ∧ Below w.heap.size w w' := by
  have HL := Lib.hid hl
  have HX := Lib.hid hx
  clear hl hx
  go_enter Tryd.func40, Tryd.ntmps40
  go_wp2
  have hx0 : ((w.alloc (.cells (u8s x).toArray 43)).alloc (Obj.cells (Array.replicate 16 (Value.int .u8 0)) 43)).heap[w.heap.size]? = some (.cells (u8s (walkC l c x fr fr)).toArray 43 (0, 0)) := by
    rw [walk_none _ _ _ _ _ (Nat.le_refl _)]
    exact heap_alloc2_old w _ _
  have hr0 : Has ((w.alloc (.cells (u8s x).toArray 43)).alloc (Obj.cells (Array.replicate 16 (Value.int .u8 0)) 43)) (w.heap.size + 1) 43 16 := has_new2 w _ _ _ _ rfl
  have hb0 : Below w.heap.size w ((w.alloc (.cells (u8s x).toArray 43)).alloc (Obj.cells (Array.replicate 16 (Value.int .u8 0)) 43)) := ((Below.refl _ _).alloc (Nat.le_refl _) _).alloc (by simp) _
  have X0 := Lib.hid hx0
  have R0 := Lib.hid hr0
  have B0 := Lib.hid hb0
  change Code.wp _ _ _ _ ((w.alloc (.cells (u8s x).toArray 43)).alloc (Obj.cells (Array.replicate 16 (Value.int .u8 0)) 43))
  generalize (w.alloc (.cells (u8s x).toArray 43)).alloc (Obj.cells (Array.replicate 16 (Value.int .u8 0)) 43) = wo at *
  clear hx0 hr0 hb0
  go_loopw [11] (fun s wr => ∃ (i : Nat), s = .int .i64 i ∧ fr ≤ i ∧ (i = fr ∨ i ≤ to.toNat) ∧ Hid (wr.heap[w.heap.size]? = some (.cells (u8s (walkC l c x fr i)).toArray 43 (0, 0))) ∧ Hid (Has wr (w.heap.size + 1) 43 16) ∧ Hid (Below w.heap.size w wr))
    (fun s _ => to.toNat - (intOf s).toNat)
  case atStart => exact ⟨fr, rfl, Nat.le_refl _, .inl rfl, X0, R0, B0⟩
  case round =>
    clear X0 R0 B0
    obtain ⟨i, rfl, hai, hib, hXB, hR', hbel⟩ := hrel
    by_cases hlt : (i : Int) < to
    · obtain ⟨X, hX⟩ : ∃ X, X = walkC l c x fr i := ⟨_, rfl⟩
      have hgood := walk_good l c x fr i HL.out HX.out
      rw [← hX] at hgood hXB
      obtain ⟨hXl, hXo⟩ := hgood
      have hws : walkC l c x fr (i + 1) = short 2 [X, [l % 256], [c % 256], [(i : Int) % 256]] := by rw [walk_succ _ _ _ _ _ hai, hX]; rfl
      obtain ⟨ST, hST⟩ : ∃ s, s = short 2 [X, [l % 256], [c % 256], [(i : Int) % 256]] := ⟨_, rfl⟩
      have hSl : ST.length = 16 := by rw [hST]; exact short_len _ _
      rw [← hST] at hws
      have hi1 : (Tryd.prog.info? 43).map (·.size) = some (u8s X).length := by rw [u8s_len', hXl]; exact Tryd.size43
      have hi43 : (Tryd.prog.info? 43).map (·.size) = some (u8s ST).length := by rw [u8s_len', hSl]; exact Tryd.size43
      have hra : wr.rangeAt w.heap.size 0 (u8s X) := blk_range hXB.out
      have hhas : ∀ w3, Below wr.heap.size wr w3 → Has w3 w.heap.size 43 (u8s ST).length := fun w3 h => by
        rw [u8s_len', hSl]
        exact Has.below ⟨_, by simp only [List.size_toArray]; rw [u8s_len', hXl], hXB.out⟩ h
      have HWS := Lib.hid hws
      have HST := Lib.hid hST
      have HI := Lib.hid hi43
      have HI1 := Lib.hid hi1
      have HRA := Lib.hid hra
      have HH := Lib.hid hhas
      have HXO := Lib.hid hXo
      have HXL := Lib.hid hXl
      clear hws hST hi43 hhas hXl hXo hSl hX hXB hi1 hra
      go_wp2_with (refine wpList_load_g rfl 43 (.tmp 5) rfl w.heap.size 0 rfl (u8s X) _ HRA.out Tryd.underlying43 rfl HI1.out ?_)
      refine (step_any X HXL.out HXO.out l c i wr).mono ?_
      rintro e w3 ⟨rfl, hb3⟩
      rw [← HST.out]
      have HH3 := Lib.hid (HH.out w3 hb3)
      have HR3 := Lib.hid (hR'.out.below hb3)
      have HB3 := Lib.hid (hbel.out.trans (hb3.mono hbel.out.size))
      clear hb3 HH
      go_wp2_with (refine wpList_store_row rfl 43 (.tmp 5) (.tmp 22) rfl w.heap.size rfl (u8s ST) rfl 43 HH3.out HI.out (one_u8s _) ?_; intro w9 hp9)
      go_roundw
      case rel => exact ⟨i + 1, by go_num, by omega, .inr (by omega), Lib.hid (by rw [HWS.out]; exact hp9.blk), Lib.hid (HR3.out.same (hp9.other _ (by omega))), Lib.hid (hp9.below HB3.out (Nat.le_refl _))⟩
      case measure => simp [intOf]; omega
    · have hwk : walkC l c x fr i = walkC l c x fr to.toNat := by
        rcases hib with rfl | hib
        · rw [walk_none _ _ _ _ _ (Nat.le_refl _), walk_none _ _ _ _ _ (by omega)]
        · rw [show i = to.toNat by omega]
      rw [hwk] at hXB
      obtain ⟨SH, hSH⟩ : ∃ s, s = walkC l c x fr to.toNat := ⟨_, rfl⟩
      have hsl : SH.length = 16 := by rw [hSH]; exact (walk_good l c x _ _ HL.out HX.out).1
      have hi43 : (Tryd.prog.info? 43).map (·.size) = some (u8s SH).length := by rw [u8s_len', hsl]; exact Tryd.size43
      rw [← hSH] at hXB
      have hra : wr.rangeAt w.heap.size 0 (u8s SH) := blk_range hXB.out
      have hh : Has wr (w.heap.size + 1) 43 (u8s SH).length := by rw [u8s_len', hsl]; exact hR'.out
      have HRA := Lib.hid hra
      have HHH := Lib.hid hh
      have HI43 := Lib.hid hi43
      have HSH := Lib.hid hSH
      clear hra hh hi43 hSH hXB hR' hwk
      go_wp2_with (first | (refine wpList_load_g rfl 43 (.tmp 5) rfl w.heap.size 0 rfl (u8s SH) _ HRA.out Tryd.underlying43 rfl HI43.out ?_) | (refine wpList_store_row rfl 43 (.tmp 10) (.tmp 23) rfl (w.heap.size + 1) rfl (u8s SH) rfl 43 HHH.out HI43.out (one_u8s _) ?_; intro w10 hp10))
      refine bodyPost_ret (v := .agg (u8s SH).toArray) (results_cell_row rfl _ _ (w.heap.size + 1) 43 _ (0, 0) _ rfl hp10.blk Tryd.underlying43 rfl (by simpa using HI43.out)) rfl ⟨by rw [HSH.out], hp10.below hbel.out (by omega)⟩
end Go.Proofs.YtdedphhohiioiaaDoor
