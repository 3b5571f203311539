/- What ChainsSigns rests on, part 8 of 14: lemmas without conditions of their own. -/
import Derived.Test.YtdedphhohiioiaaDoorChainsSignsP7
/- What the reference's Step, Secret and Run do. -/
namespace Go.Proofs.YtdedphhohiioiaaDoor
open Go.RowKit

theorem Txs.new (w : World) (ss : List ByteArray) (hz : ss.length ≤ 1000) : Txs (w.alloc (.cells (strs ss).toArray 9)) (.slice (some ⟨w.heap.size, 0, none⟩) ss.length ss.length) ss := by
  refine ⟨⟨_, _, rfl⟩, fun _ => ⟨w.heap.size, 0, ss.length, rfl, Nat.le_refl _, by unfold maxLen; omega, by simp, fun i hi => ?_⟩⟩
  rw [Nat.zero_add, cell_of_row _ _ _ _ _ _ (heap_alloc_new w _)]
  simp [strs, List.getD_eq_getElem?_getD, hi]

theorem step_small (l c : Int) (x : List Int) (k : Int) (hl : x.length = 16) : (framed 2 [x, [l % 256], [c % 256], [k % 256]]).length ≤ 1099511627776 := by simp [framed, be4, hl]
def secretC (l c : Int) (x : List Int) : List Int := short 1 [x, [l % 256], [c % 256]]
theorem secret_small (l c : Int) (x : List Int) (hl : x.length = 16) : (framed 1 [x, [l % 256], [c % 256]]).length ≤ 1099511627776 := by simp [framed, be4, hl]

set_option maxHeartbeats 4000000 in
set_option maxRecDepth 100000 in
theorem step_any (x : List Int) (hl : x.length = 16) (hx : u8s_ok x) (l c k : Int) (w : World) :
    Calls Tryd.prog 79 #[.agg (u8s x).toArray, .int .i64 l, .int .i64 c, .int .i64 k] w fun e w' => e = .returned (.agg (u8s (short 2 [x, [l % 256], [c % 256], [k % 256]])).toArray) ∧ Below w.heap.size w w' := by
  have hi43 : (Tryd.prog.info? 43).map (·.size) = some (u8s x).length := by rw [u8s_len', hl]; exact Tryd.size43
  have hra : ((w.alloc (.cells (u8s x).toArray 43)).alloc (.cells (Array.replicate 16 (Value.int .u8 0)) 43)).rangeAt w.heap.size 0 (u8s x) := World.rangeAt_alloc (range_new w (u8s x) 43) _
  have hb0 : Below w.heap.size w ((w.alloc (.cells (u8s x).toArray 43)).alloc (.cells (Array.replicate 16 (Value.int .u8 0)) 43)) := ((Below.refl _ _).alloc (Nat.le_refl _) _).alloc (by simp) _
  have hh0 : Has ((w.alloc (.cells (u8s x).toArray 43)).alloc (.cells (Array.replicate 16 (Value.int .u8 0)) 43)) (w.heap.size + 1) 43 16 := has_new2 w _ _ _ _ rfl
  have HRA := Lib.hid hra
  have HI := Lib.hid hi43
  have B0 := Lib.hid hb0
  have H0 := Lib.hid hh0
  have HL := Lib.hid hl
  have HX := Lib.hid hx
  clear hra hi43 hb0 hh0 hl hx
  go_enter Tryd.func79, Tryd.ntmps79
  go_wp2_with (refine wpList_load_g rfl 43 (.tmp 4) rfl w.heap.size 0 rfl (u8s x) _ HRA.out Tryd.underlying43 rfl HI.out ?_)
  refine (text_any x HL.out HX.out _).mono ?_
  rintro e w1 ⟨rfl, hb1⟩
  have B1 := Lib.hid (B0.out.trans (hb1.mono B0.out.size))
  have H1 := Lib.hid (H0.out.below hb1)
  clear hb1 B0 H0
  go_wp2_with fail
  refine (one_any l _).mono ?_
  rintro e w2 ⟨rfl, hb2⟩
  have B2 := Lib.hid (B1.out.trans (hb2.mono B1.out.size))
  have H2 := Lib.hid (H1.out.below hb2)
  clear hb2 B1 H1
  go_wp2_with fail
  refine (one_any c _).mono ?_
  rintro e w3 ⟨rfl, hb3⟩
  have B3 := Lib.hid (B2.out.trans (hb3.mono B2.out.size))
  have H3 := Lib.hid (H2.out.below hb3)
  clear hb3 B2 H2
  go_wp2_with fail
  refine (one_any k _).mono ?_
  rintro e w4 ⟨rfl, hb4⟩
  have B4 := Lib.hid (B3.out.trans (hb4.mono B3.out.size))
  have H4 := Lib.hid (H3.out.below hb4)
  clear hb4 B3 H3
  obtain ⟨ST, hST⟩ : ∃ s, s = short 2 [x, [l % 256], [c % 256], [k % 256]] := ⟨_, rfl⟩
  have hSl : ST.length = 16 := by rw [hST]; exact short_len _ _
  have hmap : [strOfNums x, strOfNums [l % 256], strOfNums [c % 256], strOfNums [k % 256]].map sb = [x, [l % 256], [c % 256], [k % 256]] := by
    simp only [List.map_cons, List.map_nil]
    rw [sb_str x HX.out, sb_str _ (one_ok l), sb_str _ (one_ok c), sb_str _ (one_ok k)]
  have htx := Txs.new w4 [strOfNums x, strOfNums [l % 256], strOfNums [c % 256], strOfNums [k % 256]] (by simp)
  have hi43' : (Tryd.prog.info? 43).map (·.size) = some (u8s ST).length := by rw [u8s_len', hSl]; exact Tryd.size43
  have HTX := Lib.hid htx
  have HST := Lib.hid hST
  have HSL := Lib.hid hSl
  have HM := Lib.hid hmap
  have HI' := Lib.hid hi43'
  clear htx hST hSl hmap hi43'
  go_wp2_with fail
  refine (refof_any 2 [strOfNums x, strOfNums [l % 256], strOfNums [c % 256], strOfNums [k % 256]] _ 4 4 _ HTX.out rfl (by rw [HM.out]; exact step_small l c x k HL.out)).mono ?_
  rintro e w5 ⟨rfl, hb5⟩
  rw [HM.out, ← HST.out]
  have hb4 : Below w4.heap.size w4 w5 := ((Below.refl _ _).alloc (Nat.le_refl _) _).trans (hb5.mono (by simp))
  have B5 := Lib.hid (B4.out.trans (hb4.mono B4.out.size))
  have H5 : Hid (Has w5 (w.heap.size + 1) 43 (u8s ST).length) := Lib.hid (by rw [u8s_len', HSL.out]; exact H4.out.below hb4)
  clear hb5 hb4 B4 H4 HTX HM
  go_wp2_with (refine wpList_store_row rfl 43 (.tmp 8) (.tmp 18) rfl (w.heap.size + 1) rfl (u8s ST) rfl 43 H5.out HI'.out (one_u8s _) ?_; intro w10 hp10)
  refine bodyPost_ret (v := .agg (u8s ST).toArray) (results_cell_row rfl _ _ (w.heap.size + 1) 43 _ (0, 0) _ rfl hp10.blk Tryd.underlying43 rfl (by simpa using HI'.out)) rfl ⟨by rw [HST.out], hp10.below B5.out (by omega)⟩

set_option maxHeartbeats 4000000 in
set_option maxRecDepth 100000 in
theorem refSecret_any (x : List Int) (hl : x.length = 16) (hx : u8s_ok x) (l c : Int) (w : World) :
    Calls Tryd.prog 39 #[.agg (u8s x).toArray, .int .i64 l, .int .i64 c] w fun e w' => e = .returned (.agg (u8s (short 1 [x, [l % 256], [c % 256]])).toArray) ∧ Below w.heap.size w w' := by
  have hi43 : (Tryd.prog.info? 43).map (·.size) = some (u8s x).length := by rw [u8s_len', hl]; exact Tryd.size43
  have hra : ((w.alloc (.cells (u8s x).toArray 43)).alloc (.cells (Array.replicate 16 (Value.int .u8 0)) 43)).rangeAt w.heap.size 0 (u8s x) := World.rangeAt_alloc (range_new w (u8s x) 43) _
  have hb0 : Below w.heap.size w ((w.alloc (.cells (u8s x).toArray 43)).alloc (.cells (Array.replicate 16 (Value.int .u8 0)) 43)) := ((Below.refl _ _).alloc (Nat.le_refl _) _).alloc (by simp) _
  have hh0 : Has ((w.alloc (.cells (u8s x).toArray 43)).alloc (.cells (Array.replicate 16 (Value.int .u8 0)) 43)) (w.heap.size + 1) 43 16 := has_new2 w _ _ _ _ rfl
  have HRA := Lib.hid hra
  have HI := Lib.hid hi43
  have B0 := Lib.hid hb0
  have H0 := Lib.hid hh0
  have HL := Lib.hid hl
  have HX := Lib.hid hx
  clear hra hi43 hb0 hh0 hl hx
  go_enter Tryd.func39, Tryd.ntmps39
  go_wp2_with (refine wpList_load_g rfl 43 (.tmp 3) rfl w.heap.size 0 rfl (u8s x) _ HRA.out Tryd.underlying43 rfl HI.out ?_)
  refine (text_any x HL.out HX.out _).mono ?_
  rintro e w1 ⟨rfl, hb1⟩
  have B1 := Lib.hid (B0.out.trans (hb1.mono B0.out.size))
  have H1 := Lib.hid (H0.out.below hb1)
  clear hb1 B0 H0
  go_wp2_with fail
  refine (one_any l _).mono ?_
  rintro e w2 ⟨rfl, hb2⟩
  have B2 := Lib.hid (B1.out.trans (hb2.mono B1.out.size))
  have H2 := Lib.hid (H1.out.below hb2)
  clear hb2 B1 H1
  go_wp2_with fail
  refine (one_any c _).mono ?_
  rintro e w3 ⟨rfl, hb3⟩
  have B3 := Lib.hid (B2.out.trans (hb3.mono B2.out.size))
  have H3 := Lib.hid (H2.out.below hb3)
  clear hb3 B2 H2
  obtain ⟨ST, hST⟩ : ∃ s, s = short 1 [x, [l % 256], [c % 256]] := ⟨_, rfl⟩
  have hSl : ST.length = 16 := by rw [hST]; exact short_len _ _
  have hmap : [strOfNums x, strOfNums [l % 256], strOfNums [c % 256]].map sb = [x, [l % 256], [c % 256]] := by
    simp only [List.map_cons, List.map_nil]
    rw [sb_str x HX.out, sb_str _ (one_ok l), sb_str _ (one_ok c)]
  have htx := Txs.new w3 [strOfNums x, strOfNums [l % 256], strOfNums [c % 256]] (by simp)
  have hi43' : (Tryd.prog.info? 43).map (·.size) = some (u8s ST).length := by rw [u8s_len', hSl]; exact Tryd.size43
  have HTX := Lib.hid htx
  have HST := Lib.hid hST
  have HSL := Lib.hid hSl
  have HM := Lib.hid hmap
  have HI' := Lib.hid hi43'
  clear htx hST hSl hmap hi43'
  go_wp2_with fail
  refine (refof_any 1 [strOfNums x, strOfNums [l % 256], strOfNums [c % 256]] _ 3 3 _ HTX.out rfl (by rw [HM.out]; exact secret_small l c x HL.out)).mono ?_
  rintro e w5 ⟨rfl, hb5⟩
  rw [HM.out, ← HST.out]
  have hb4 : Below w3.heap.size w3 w5 := ((Below.refl _ _).alloc (Nat.le_refl _) _).trans (hb5.mono (by simp))
  have B5 := Lib.hid (B3.out.trans (hb4.mono B3.out.size))
  have H5 : Hid (Has w5 (w.heap.size + 1) 43 (u8s ST).length) := Lib.hid (by rw [u8s_len', HSL.out]; exact H3.out.below hb4)
  clear hb5 hb4 B3 H3 HTX HM
  go_wp2_with (refine wpList_store_row rfl 43 (.tmp 6) (.tmp 14) rfl (w.heap.size + 1) rfl (u8s ST) rfl 43 H5.out HI'.out (one_u8s _) ?_; intro w10 hp10)
  refine bodyPost_ret (v := .agg (u8s ST).toArray) (results_cell_row rfl _ _ (w.heap.size + 1) 43 _ (0, 0) _ rfl hp10.blk Tryd.underlying43 rfl (by simpa using HI'.out)) rfl ⟨by rw [HST.out], hp10.below B5.out (by omega)⟩

set_option maxHeartbeats 4000000 in
set_option maxRecDepth 100000 in
theorem refRun_any (x : List Int) (hl : x.length = 16) (hx : u8s_ok x) (l c : Int) (fr : Nat) (to : Int) (hto : to ≤ 1000) (w : World) :
    Calls Tryd.prog 40 #[.agg (u8s x).toArray, .int .i64 l, .int .i64 c, .int .i64 fr, .int .i64 to] w fun e w' => e = .returned (.agg (u8s (walkC l c x fr to.toNat)).toArray) ∧ Below w.heap.size w w' := by
  have HL := Lib.hid hl
  have HX := Lib.hid hx
  clear hl hx
  go_enter Tryd.func40, Tryd.ntmps40
  go_wp2
  have hx0 : ((w.alloc (.cells (u8s x).toArray 43)).alloc (Obj.cells (Array.replicate 16 (Value.int .u8 0)) 43)).heap[w.heap.size]? = some (.cells (u8s (walkC l c x fr fr)).toArray 43 (0, 0)) := by
    rw [walk_none _ _ _ _ _ (Nat.le_refl _)]
    exact heap_alloc2_old w _ _
  have hr0 : Has ((w.alloc (.cells (u8s x).toArray 43)).alloc (Obj.cells (Array.replicate 16 (Value.int .u8 0)) 43)) (w.heap.size + 1) 43 16 := has_new2 w _ _ _ _ rfl
  have hb0 : Below w.heap.size w ((w.alloc (.cells (u8s x).toArray 43)).alloc (Obj.cells (Array.replicate 16 (Value.int .u8 0)) 43)) := ((Below.refl _ _).alloc (Nat.le_refl _) _).alloc (by simp) _
  have X0 := Lib.hid hx0
  have R0 := Lib.hid hr0
  have B0 := Lib.hid hb0
  change Code.wp _ _ _ _ ((w.alloc (.cells (u8s x).toArray 43)).alloc (Obj.cells (Array.replicate 16 (Value.int .u8 0)) 43))
  generalize (w.alloc (.cells (u8s x).toArray 43)).alloc (Obj.cells (Array.replicate 16 (Value.int .u8 0)) 43) = wo at *
  clear hx0 hr0 hb0
  go_loopw [11] (fun s wr => ∃ (i : Nat), s = .int .i64 i ∧ fr ≤ i ∧ (i = fr ∨ i ≤ to.toNat) ∧ Hid (wr.heap[w.heap.size]? = some (.cells (u8s (walkC l c x fr i)).toArray 43 (0, 0))) ∧ Hid (Has wr (w.heap.size + 1) 43 16) ∧ Hid (Below w.heap.size w wr))
    (fun s _ => to.toNat - (intOf s).toNat)
  case atStart => exact ⟨fr, rfl, Nat.le_refl _, .inl rfl, X0, R0, B0⟩
  case round =>
    clear X0 R0 B0
    obtain ⟨i, rfl, hai, hib, hXB, hR', hbel⟩ := hrel
    by_cases hlt : (i : Int) < to
    · obtain ⟨X, hX⟩ : ∃ X, X = walkC l c x fr i := ⟨_, rfl⟩
      have hgood := walk_good l c x fr i HL.out HX.out
      rw [← hX] at hgood hXB
      obtain ⟨hXl, hXo⟩ := hgood
      have hws : walkC l c x fr (i + 1) = short 2 [X, [l % 256], [c % 256], [(i : Int) % 256]] := by rw [walk_succ _ _ _ _ _ hai, hX]; rfl
      obtain ⟨ST, hST⟩ : ∃ s, s = short 2 [X, [l % 256], [c % 256], [(i : Int) % 256]] := ⟨_, rfl⟩
      have hSl : ST.length = 16 := by rw [hST]; exact short_len _ _
      rw [← hST] at hws
      have hi1 : (Tryd.prog.info? 43).map (·.size) = some (u8s X).length := by rw [u8s_len', hXl]; exact Tryd.size43
      have hi43 : (Tryd.prog.info? 43).map (·.size) = some (u8s ST).length := by rw [u8s_len', hSl]; exact Tryd.size43
      have hra : wr.rangeAt w.heap.size 0 (u8s X) := blk_range hXB.out
      have hhas : ∀ w3, Below wr.heap.size wr w3 → Has w3 w.heap.size 43 (u8s ST).length := fun w3 h => by
        rw [u8s_len', hSl]
        exact Has.below ⟨_, by simp only [List.size_toArray]; rw [u8s_len', hXl], hXB.out⟩ h
      have HWS := Lib.hid hws
      have HST := Lib.hid hST
      have HI := Lib.hid hi43
      have HI1 := Lib.hid hi1
      have HRA := Lib.hid hra
      have HH := Lib.hid hhas
      have HXO := Lib.hid hXo
      have HXL := Lib.hid hXl
      clear hws hST hi43 hhas hXl hXo hSl hX hXB hi1 hra
      go_wp2_with (refine wpList_load_g rfl 43 (.tmp 5) rfl w.heap.size 0 rfl (u8s X) _ HRA.out Tryd.underlying43 rfl HI1.out ?_)
      refine (step_any X HXL.out HXO.out l c i wr).mono ?_
      rintro e w3 ⟨rfl, hb3⟩
      rw [← HST.out]
      have HH3 := Lib.hid (HH.out w3 hb3)
      have HR3 := Lib.hid (hR'.out.below hb3)
      have HB3 := Lib.hid (hbel.out.trans (hb3.mono hbel.out.size))
      clear hb3 HH
      go_wp2_with (refine wpList_store_row rfl 43 (.tmp 5) (.tmp 22) rfl w.heap.size rfl (u8s ST) rfl 43 HH3.out HI.out (one_u8s _) ?_; intro w9 hp9)
      go_roundw
      case rel => exact ⟨i + 1, by go_num, by omega, .inr (by omega), Lib.hid (by rw [HWS.out]; exact hp9.blk), Lib.hid (HR3.out.same (hp9.other _ (by omega))), Lib.hid (hp9.below HB3.out (Nat.le_refl _))⟩
      case measure => simp [intOf]; omega
    · have hwk : walkC l c x fr i = walkC l c x fr to.toNat := by
        rcases hib with rfl | hib
        · rw [walk_none _ _ _ _ _ (Nat.le_refl _), walk_none _ _ _ _ _ (by omega)]
        · rw [show i = to.toNat by omega]
      rw [hwk] at hXB
      obtain ⟨SH, hSH⟩ : ∃ s, s = walkC l c x fr to.toNat := ⟨_, rfl⟩
      have hsl : SH.length = 16 := by rw [hSH]; exact (walk_good l c x _ _ HL.out HX.out).1
      have hi43 : (Tryd.prog.info? 43).map (·.size) = some (u8s SH).length := by rw [u8s_len', hsl]; exact Tryd.size43
      rw [← hSH] at hXB
      have hra : wr.rangeAt w.heap.size 0 (u8s SH) := blk_range hXB.out
      have hh : Has wr (w.heap.size + 1) 43 (u8s SH).length := by rw [u8s_len', hsl]; exact hR'.out
      have HRA := Lib.hid hra
      have HHH := Lib.hid hh
      have HI43 := Lib.hid hi43
      have HSH := Lib.hid hSH
      clear hra hh hi43 hSH hXB hR' hwk
      go_wp2_with (first | (refine wpList_load_g rfl 43 (.tmp 5) rfl w.heap.size 0 rfl (u8s SH) _ HRA.out Tryd.underlying43 rfl HI43.out ?_) | (refine wpList_store_row rfl 43 (.tmp 10) (.tmp 23) rfl (w.heap.size + 1) rfl (u8s SH) rfl 43 HHH.out HI43.out (one_u8s _) ?_; intro w10 hp10))
      refine bodyPost_ret (v := .agg (u8s SH).toArray) (results_cell_row rfl _ _ (w.heap.size + 1) 43 _ (0, 0) _ rfl hp10.blk Tryd.underlying43 rfl (by simpa using HI43.out)) rfl ⟨by rw [HSH.out], hp10.below hbel.out (by omega)⟩
end Go.Proofs.YtdedphhohiioiaaDoor
/- What Secret of the chains does. -/
namespace Go.Proofs.YtdedphhohiioiaaDoor
open Go.RowKit

set_option maxHeartbeats 4000000 in
set_option maxRecDepth 100000 in
theorem secret_any (x : List Int) (hl : x.length = 16) (hx : u8s_ok x) (l c : Int) (w : World) (hk : w.rangeAt 18 0 (u32s kk)) (h18 : 18 < w.heap.size) :
    Calls Tryd.prog 38 #[.agg (u8s x).toArray, .int .i64 l, .int .i64 c] w fun e w' => e = .returned (.agg (u8s (secretC l c x)).toArray) ∧ Below w.heap.size w w' := by
  have HK := Lib.hid hk
  clear hk
  go_enter Tryd.func38, Tryd.ntmps38
  have hx0 : ((w.alloc (.cells (u8s x).toArray 43)).alloc (Obj.cells (Array.replicate 16 (Value.int .u8 0)) 43)).heap[w.heap.size]? = some (.cells (u8s x).toArray 43 (0, 0)) := heap_alloc2_old w _ _
  have hr0 : Has ((w.alloc (.cells (u8s x).toArray 43)).alloc (Obj.cells (Array.replicate 16 (Value.int .u8 0)) 43)) (w.heap.size + 1) 43 16 := has_new2 w _ _ _ _ rfl
  have hb0 : Below w.heap.size w ((w.alloc (.cells (u8s x).toArray 43)).alloc (Obj.cells (Array.replicate 16 (Value.int .u8 0)) 43)) := ((Below.refl _ _).alloc (Nat.le_refl _) _).alloc (by simp) _
  go_wp2_with fail
  change Code.wp _ _ _ _ ((w.alloc (.cells (u8s x).toArray 43)).alloc (Obj.cells (Array.replicate 16 (Value.int .u8 0)) 43))
  generalize (w.alloc (.cells (u8s x).toArray 43)).alloc (Obj.cells (Array.replicate 16 (Value.int .u8 0)) 43) = wr at *
  have hbx : Bs wr (.slice (some ⟨w.heap.size, 0, none⟩) x.length 16) x := Bs.of_blk hx0 hx (by omega) (by unfold maxLen; omega)
  rw [hl] at hbx
  obtain ⟨ST, hST⟩ : ∃ s, s = secretC l c x := ⟨_, rfl⟩
  have hSl : ST.length = 16 := by rw [hST]; exact short_len _ _
  have hfl := secret_small l c x hl
  have hi43 : (Tryd.prog.info? 43).map (·.size) = some (u8s ST).length := by rw [u8s_len', hSl]; exact Tryd.size43
  have hhas : ∀ w3, Ext wr w3 → Has w3 (w.heap.size + 1) 43 (u8s ST).length := fun w3 h => by
    rw [u8s_len', hSl]
    exact hr0.below h
  have HBX := Lib.hid hbx
  have HFL := Lib.hid hfl
  have HST := Lib.hid hST
  have HI := Lib.hid hi43
  have HH := Lib.hid hhas
  have HB0 := Lib.hid hb0
  clear hbx hfl hST hi43 hhas hSl hx0 hr0 hb0 hl hx
  refine wp_region_rely (by kernel_rfl) 7 (by kernel_rfl) (by kernel_rfl) Ext Ext.refl Ext.trans (fun i' => match i' with
    | 0 => fun _ v => v = .slice (some ⟨w.heap.size, 0, none⟩) 16 16
    | 1 => fun _ v => v = .int .i64 l
    | 2 => fun w v => Bs w v [l % 256]
    | 3 => fun _ v => v = .int .i64 c
    | 4 => fun w v => Bs w v [c % 256]
    | 5 => fun w v => ∃ A, v = .slice A 3 3 ∧ Bss w (.slice A 3 3) [x, [l % 256], [c % 256]]
    | 6 => fun _ v => v = .agg (u8s ST).toArray
    | _ => fun _ _ => False) ?_
  simp (maxSteps := 10000000) only [Rely, List.take_succ_cons, List.take_zero, List.drop_succ_cons, List.drop_zero, Nat.reduceAdd, Nat.zero_add, Act.put, List.setIfInBounds_toArray, List.set_cons_succ, List.set_cons_zero]
  refine ⟨?_, ?_, ?_, ?_, ?_, ?_, ?_, ?_⟩
  · refine step_plain rfl fun vs w1 hE hd => ?_
    exact gives_slice 43 _ none none none rfl (.pointer (some ⟨w.heap.size, 0, none⟩)) (.slice (some ⟨w.heap.size, 0, none⟩) 16 16) none none none rfl rfl rfl rfl (slice43 _ _) ⟨Ext.refl _, fun _ _ => rfl⟩
  · refine step_plain rfl fun vs w1 hE hd => ?_
    exact gives_move _ (.int .i64 l) (.inl rfl) rfl ⟨Ext.refl _, fun _ _ => rfl⟩
  · refine step_plain rfl fun vs w1 hE hd => ?_
    refine gives_call 76 Tryd.call76 _ _ rfl rfl [.int .i64 l] (congrArg (fun x => [x]) (hd.1)) ?_
    refine (small_any l w1).mono ?_
    rintro e w2 ⟨rfl, rfl⟩
    exact ⟨_, rfl, (Below.refl _ _).alloc (Nat.le_refl _) _, fun _ h => (Bs.new1 w1 l).below h⟩
  · refine step_plain rfl fun vs w1 hE hd => ?_
    exact gives_move _ (.int .i64 c) (.inl rfl) rfl ⟨Ext.refl _, fun _ _ => rfl⟩
  · refine step_plain rfl fun vs w1 hE hd => ?_
    refine gives_call 76 Tryd.call76 _ _ rfl rfl [.int .i64 c] (congrArg (fun x => [x]) (hd.1)) ?_
    refine (small_any c w1).mono ?_
    rintro e w2 ⟨rfl, rfl⟩
    exact ⟨_, rfl, (Below.refl _ _).alloc (Nat.le_refl _) _, fun _ h => (Bs.new1 w1 c).below h⟩
  · refine step_plain rfl fun vs w1 hE hd => ?_
    have e0 : vs 0 = _ := hd.1
    have b2 : Bs w1 (vs 2) [l % 256] := hd.2.1
    have b4 : Bs w1 (vs 4) [c % 256] := hd.2.2.1
    have bx : Bs w1 _ x := HBX.out.below (ext_of_drew hE)
    obtain ⟨A2, c2, e2⟩ := b2.form
    obtain ⟨A4, c4, e4⟩ := b4.form
    rw [e2] at b2
    rw [e4] at b4
    refine gives_build 30 3 _ rfl #[(0, .slice (some ⟨w.heap.size, 0, none⟩) 16 16), (1, .slice A2 1 c2), (2, .slice A4 1 c4)] ?_ _ (build30' _ _ _ _ _ _ _ _ _ _) ⟨(Below.refl _ _).alloc (Nat.le_refl _) _, fun w5 h5 => ⟨_, rfl, Bss.below (Bss.new w1 [.slice (some ⟨w.heap.size, 0, none⟩) 16 16, .slice A2 1 c2, .slice A4 1 c4] [x, [l % 256], [c % 256]] rfl (fun j hj => ?_) (by simp)) h5⟩⟩
    · simp only [List.map_toArray, List.map_cons, List.map_nil]
      show #[(0, vs 0), (1, vs 2), (2, vs 4)] = _
      rw [e0, e2, e4]
      rfl
    · have hj4 : j = 0 ∨ j = 1 ∨ j = 2 := by simp at hj; omega
      rcases hj4 with rfl | rfl | rfl
      · exact bx
      · exact b2
      · exact b4
  · refine step_plain rfl fun vs w1 hE hd => ?_
    obtain ⟨A7, e7, b7⟩ : ∃ A, vs 5 = .slice A 3 3 ∧ Bss w1 (.slice A 3 3) [x, [l % 256], [c % 256]] := hd.1
    have hw1 : Below w.heap.size w w1 := HB0.out.trans (Below.mono (ext_of_drew hE) HB0.out.size)
    refine gives_call 33 Tryd.call33 _ _ rfl rfl [.int .i64 1, .slice A7 3 3] (congrArg (fun x => [Value.int .i64 1, x]) e7) ?_
    refine (of_any 1 [x, [l % 256], [c % 256]] A7 3 3 w1 b7 rfl HFL.out (range_below HK.out hw1) (by have := hw1.size; omega)).mono ?_
    rintro e w2 ⟨rfl, hb⟩
    exact ⟨_, rfl, hb, fun _ _ => by rw [HST.out]; rfl⟩
  · intro vs w3 hE hR
    have h8 : vs 6 = .agg (u8s ST).toArray := hR 6 (by omega)
    rw [h8]
    have he : Ext wr w3 := ext_of_drew hE
    have HH3 := Lib.hid (HH.out w3 he)
    have HB3 := Lib.hid (HB0.out.trans (Below.mono he HB0.out.size))
    clear hR hE h8 HH he
    go_wp2_with (refine wpList_store_row rfl 43 (.tmp 6) (.tmp 13) rfl (w.heap.size + 1) rfl (u8s ST) rfl 43 HH3.out HI.out (one_u8s _) ?_; intro w10 hp10)
    refine bodyPost_ret (v := .agg (u8s ST).toArray) (results_cell_row rfl _ _ (w.heap.size + 1) 43 _ (0, 0) _ rfl hp10.blk Tryd.underlying43 rfl (by simpa using HI.out)) rfl ⟨by rw [HST.out], hp10.below HB3.out (by omega)⟩
end Go.Proofs.YtdedphhohiioiaaDoor
/- Plain lists: the digits of a digest. -/
namespace Go.Proofs.YtdedphhohiioiaaDoor

def four (b : Int) : List Int := [b / 64 % 4, b / 16 % 4, b / 4 % 4, b % 4]
def top (bs : List Int) : List Int := bs.flatMap four
def lack : List Int → Int
  | [] => 0
  | x :: xs => (3 - x) + lack xs
def last4 (s : Int) : List Int := [s / 64 % 4, s / 16 % 4, s / 4 % 4, s % 4]
def digits (bs : List Int) : List Int := top bs ++ last4 (lack (top bs))

theorem lack_append (xs ys : List Int) : lack (xs ++ ys) = lack xs + lack ys := by
  induction xs with
  | nil => simp [lack]
  | cons x xs ih => simp only [List.cons_append, lack, ih]; omega
theorem lack_one (x : Int) : lack [x] = 3 - x := by simp [lack]

theorem four_len (b : Int) : (four b).length = 4 := rfl
theorem top_len (bs : List Int) : (top bs).length = 4 * bs.length := by
  induction bs with
  | nil => rfl
  | cons b bs ih => simp only [top, List.flatMap_cons, List.length_append, List.length_cons] at ih ⊢; simp only [four_len, ih]; omega
theorem four_range (b : Int) : ∀ x ∈ four b, 0 ≤ x ∧ x ≤ 3 := by
  intro x hx
  simp only [four, List.mem_cons, List.not_mem_nil, or_false] at hx
  omega
theorem top_range (bs : List Int) : ∀ x ∈ top bs, 0 ≤ x ∧ x ≤ 3 := by
  intro x hx
  obtain ⟨b, _, hb⟩ := List.mem_flatMap.1 hx
  exact four_range b x hb
theorem lack_range (xs : List Int) (h : ∀ x ∈ xs, 0 ≤ x ∧ x ≤ 3) : 0 ≤ lack xs ∧ lack xs ≤ 3 * xs.length := by
  induction xs with
  | nil => simp [lack]
  | cons x xs ih =>
    have h1 := h x (by simp)
    have h2 := ih (fun y hy => h y (by simp [hy]))
    simp only [lack, List.length_cons]
    omega
theorem top_take_succ (bs : List Int) (k : Nat) (h : k < bs.length) : top (bs.take (k + 1)) = top (bs.take k) ++ four bs[k] := by
  rw [List.take_succ_eq_append_getElem h]
  unfold top
  rw [List.flatMap_append]
  simp
theorem digits_len (bs : List Int) : (digits bs).length = 4 * bs.length + 4 := by
  simp [digits, top_len, last4]
theorem digits_range (bs : List Int) : ∀ x ∈ digits bs, 0 ≤ x ∧ x ≤ 3 := by
  intro x hx
  rcases List.mem_append.1 hx with h | h
  · exact top_range bs x h
  · simp only [last4, List.mem_cons, List.not_mem_nil, or_false] at h
    omega
theorem dig_bd (bs : List Int) (k j : Nat) (b : Int) (hk : k ≤ 16) (hj : j ≤ 4) : 0 ≤ lack (top (bs.take k) ++ (four b).take j) ∧ lack (top (bs.take k) ++ (four b).take j) ≤ 3 * 68 := by
  have h := lack_range (top (bs.take k) ++ (four b).take j) (by
    intro x hx
    rcases List.mem_append.1 hx with h | h
    · exact top_range _ x h
    · exact four_range b x (List.mem_of_mem_take h))
  have h1 : (bs.take k).length ≤ k := List.length_take_le _ _
  simp only [List.length_append, top_len, List.length_take, four_len] at h
  omega
theorem dig_lo (bs : List Int) (k j : Nat) (b : Int) (hk : k ≤ 16) (hj : j ≤ 4) : 0 ≤ lack (top (bs.take k) ++ (four b).take j) := (dig_bd bs k j b hk hj).1
theorem dig_hi (bs : List Int) (k j : Nat) (b : Int) (hk : k ≤ 16) (hj : j ≤ 4) : lack (top (bs.take k) ++ (four b).take j) ≤ 3 * 68 := (dig_bd bs k j b hk hj).2
end Go.Proofs.YtdedphhohiioiaaDoor
/- What chains.Digits does. -/
namespace Go.Proofs.YtdedphhohiioiaaDoor
open Go.RowKit

theorem Tryd.info3 : (Tryd.prog.info? 3).map (fun i => (i.zero, i.size, i.bytes)) = some (some (.int .i64 0), 1, 8) := by kernel_rfl
theorem Tryd.size5 : (Tryd.prog.info? 5).map (·.size) = some 1 := by kernel_rfl


set_option maxHeartbeats 4000000 in
set_option maxRecDepth 100000 in
theorem digits_any (bs : List Int) (hl : bs.length = 16) (hb : ∀ b ∈ bs, 0 ≤ b ∧ b ≤ 255) (w : World) :
    Calls Tryd.prog 49 #[.agg (u8s bs).toArray] w fun e w' => ∃ v, e = .returned v ∧ w'.ownsRow w.heap.size 3 1 v 68 (i64s (digits bs)) ∧ Below w.heap.size w w' := by
  obtain ⟨i0, hi, hz0, hz1, hz2⟩ := info_parts Tryd.info3
  have hs : (Tryd.prog.info? 43).map (·.size) = some (u8s bs).toArray.size := by rw [Tryd.size43]; simp [u8s, hl]
  have HL := Lib.hid hl
  have HS := Lib.hid hs
  clear hl hs
  go_enter Tryd.func49, Tryd.ntmps49
  go_wp2_with (refine wpList_load_row rfl 43 (.tmp 1) rfl w.heap.size rfl 43 (u8s bs).toArray (0,0) _ (heap_alloc_new w _) Tryd.underlying43 rfl HS.out ?_)
  go_loopw [3, 4, 6, 7, 8, 11, 13] (fun v s _ _ _ i _ wr => ∃ (k : Nat) (m : Int), k ≤ 16 ∧ i = .int .i64 k ∧ wr.ownsRow w.heap.size 3 1 v (4 * k) (i64s (top (bs.take k))) ∧ s = .int .i64 m ∧ m = lack (top (bs.take k)) ∧ Below w.heap.size w wr)
    (fun _ _ _ _ _ i _ _ => 16 - (intOf i).toNat)
  case atStart => exact ⟨0, 0, by omega, rfl, World.ownsRow_nil _ _ _ _, rfl, rfl, (Below.refl _ _).alloc (Nat.le_refl _) _⟩
  case round =>
    obtain ⟨k, m, hk, rfl, hown, rfl, hm, hbl⟩ := hrel
    by_cases hlt : k < 16
    · have HM0 := Lib.hid hm
      clear hm
      obtain ⟨b, hbd⟩ : ∃ b, b = bs.getD k 0 := ⟨_, rfl⟩
      have hbk : (u8s bs).toArray[(k : Int).toNat]? = some (.int .u8 b) := by
        have := HL.out
        simp [u8s, hbd, List.getElem?_eq_getElem (show k < bs.length by omega)]
      have hb0 : 0 ≤ b ∧ b ≤ 255 := by
        have := HL.out
        rw [hbd, List.getD_eq_getElem?_getD, List.getElem?_eq_getElem (show k < bs.length by omega)]
        exact hb _ (List.getElem_mem _)
      have HB := Lib.hid hbd
      have HBK := Lib.hid hbk
      clear hbd hbk
      go_wp2_with (refine wpList_index_arr rfl 43 5 16 (.tmp 10) (.tmp 11) rfl (u8s bs).toArray .i64 k (.int .u8 b) rfl rfl Tryd.underlying43 _ Tryd.underlying5 rfl Tryd.size5 (by omega) (by omega) HBK.out ?_)
      obtain ⟨wo, rfl⟩ : ∃ wo : World, wo = wr := ⟨_, rfl⟩
      go_loopw [3, 4, 7, 8] (fun v s sh _ wr => ∃ (j : Nat) (n m : Int), n + 2 * j = 6 ∧ j ≤ 4 ∧ sh = .int .i64 n ∧ wr.ownsRow w.heap.size 3 1 v (4 * k + j) (i64s (top (bs.take k) ++ (four b).take j)) ∧ s = .int .i64 m ∧ m = lack (top (bs.take k) ++ (four b).take j) ∧ Below w.heap.size w wr)
        (fun _ _ sh _ _ => ((intOf sh) + 2).toNat)
      case atStart => exact ⟨0, 6, _, by omega, by omega, rfl, by simpa using hown, rfl, by simpa using HM0.out, hbl⟩
      case round =>
        obtain ⟨j, n, m, hn, hj, rfl, hown, rfl, hm, hbl⟩ := hrel
        have hlen := dig_bd bs k j b (by omega) hj
        rw [← hm] at hlen
        have HM := Lib.hid hm
        clear hm
        by_cases hlt : j < 4
        · have hj4 : j = 0 ∨ j = 1 ∨ j = 2 ∨ j = 3 := by omega
          rcases hj4 with rfl | rfl | rfl | rfl
          · obtain rfl : n = 6 := by omega
            clear hn
            have ha := i64_and3 (b / 64) (by omega) (by omega)
            go_wp2_with (first | (at_builtin; refine wpList_append_own _ rfl _ _ 69 rfl w.heap.size 3 i0 (.int .i64 0) 1 8 Tryd.underlying69 hi hz0 hz1 hz2 rfl (by decide) _ _ _ rfl (hown.alloc _) ⟨wr.heap.size, 0, none⟩ 1 1 [.int .i64 (b / 64 % 4)] rfl rfl (cell_one_new _ _ _) (by simp [Value.oneCell']) (by unfold maxLen; omega) (by omega) (by have := hbl.size; simp; omega) ?_; intro v' w1 hown' hgrow' _))
            go_roundw
            case rel => exact ⟨1, _, _, by omega, by omega, rfl, by simpa [i64s, four] using hown', rfl, by have := HM.out; simp only [lack_append, four, lack, List.take] at this ⊢; omega, below_app hbl hbl.size hown hgrow'⟩
            case measure => simp [intOf]
          · obtain rfl : n = 4 := by omega
            clear hn
            have ha := i64_and3 (b / 16) (by omega) (by omega)
            go_wp2_with (first | (at_builtin; refine wpList_append_own _ rfl _ _ 69 rfl w.heap.size 3 i0 (.int .i64 0) 1 8 Tryd.underlying69 hi hz0 hz1 hz2 rfl (by decide) _ _ _ rfl (hown.alloc _) ⟨wr.heap.size, 0, none⟩ 1 1 [.int .i64 (b / 16 % 4)] rfl rfl (cell_one_new _ _ _) (by simp [Value.oneCell']) (by unfold maxLen; omega) (by omega) (by have := hbl.size; simp; omega) ?_; intro v' w1 hown' hgrow' _))
            go_roundw
            case rel => exact ⟨2, _, _, by omega, by omega, rfl, by simpa [i64s, four] using hown', rfl, by have := HM.out; simp only [lack_append, four, lack, List.take] at this ⊢; omega, below_app hbl hbl.size hown hgrow'⟩
            case measure => simp [intOf]
          · obtain rfl : n = 2 := by omega
            clear hn
            have ha := i64_and3 (b / 4) (by omega) (by omega)
            go_wp2_with (first | (at_builtin; refine wpList_append_own _ rfl _ _ 69 rfl w.heap.size 3 i0 (.int .i64 0) 1 8 Tryd.underlying69 hi hz0 hz1 hz2 rfl (by decide) _ _ _ rfl (hown.alloc _) ⟨wr.heap.size, 0, none⟩ 1 1 [.int .i64 (b / 4 % 4)] rfl rfl (cell_one_new _ _ _) (by simp [Value.oneCell']) (by unfold maxLen; omega) (by omega) (by have := hbl.size; simp; omega) ?_; intro v' w1 hown' hgrow' _))
            go_roundw
            case rel => exact ⟨3, _, _, by omega, by omega, rfl, by simpa [i64s, four] using hown', rfl, by have := HM.out; simp only [lack_append, four, lack, List.take] at this ⊢; omega, below_app hbl hbl.size hown hgrow'⟩
            case measure => simp [intOf]
          · obtain rfl : n = 0 := by omega
            clear hn
            have ha := i64_and3 (b) (by omega) (by omega)
            go_wp2_with (first | (at_builtin; refine wpList_append_own _ rfl _ _ 69 rfl w.heap.size 3 i0 (.int .i64 0) 1 8 Tryd.underlying69 hi hz0 hz1 hz2 rfl (by decide) _ _ _ rfl (hown.alloc _) ⟨wr.heap.size, 0, none⟩ 1 1 [.int .i64 (b % 4)] rfl rfl (cell_one_new _ _ _) (by simp [Value.oneCell']) (by unfold maxLen; omega) (by omega) (by have := hbl.size; simp; omega) ?_; intro v' w1 hown' hgrow' _))
            go_roundw
            case rel => exact ⟨4, _, _, by omega, by omega, rfl, by simpa [i64s, four] using hown', rfl, by have := HM.out; simp only [lack_append, four, lack, List.take] at this ⊢; omega, below_app hbl hbl.size hown hgrow'⟩
            case measure => simp [intOf]
        · obtain rfl : j = 4 := by omega
          obtain rfl : n = -2 := by omega
          clear hn hlt
          go_wp2
          go_roundw
          case rel =>
            have hlen := HL.out
            have e : top (bs.take (k + 1)) = top (bs.take k) ++ (four b).take 4 := by
              have hbd := HB.out
              rw [List.getD_eq_getElem?_getD, List.getElem?_eq_getElem (show k < bs.length by omega)] at hbd
              simp only [Option.getD_some] at hbd
              rw [top_take_succ bs k (by omega), ← hbd]; rfl
            exact ⟨k + 1, _, by omega, by go_num, by rw [e]; exact hown, rfl, by rw [e]; exact HM.out, hbl⟩
          case measure => simp [intOf]; omega
    · have hlen := HL.out
      have hk16 : 4 * k = 64 := by omega
      rw [List.take_of_length_le (by omega)] at hown hm
      rw [hk16] at hown
      clear hk16
      have hbd := lack_range (top bs) (top_range bs)
      rw [← hm, top_len] at hbd
      have HM := Lib.hid hm
      clear hm
      have hbd2 : 0 ≤ m ∧ m ≤ 192 := by omega
      clear hbd hlen
      go_wp2
      clear hlt hk
      obtain ⟨wo, rfl⟩ : ∃ wo : World, wo = wr := ⟨_, rfl⟩
      go_loopw [3, 9] (fun v sh wr => ∃ (j : Nat) (n : Int), n + 2 * j = 6 ∧ j ≤ 4 ∧ sh = .int .i64 n ∧ wr.ownsRow w.heap.size 3 1 v (64 + j) (i64s (top bs ++ (last4 m).take j)) ∧ Below w.heap.size w wr)
        (fun _ sh _ => ((intOf sh) + 2).toNat)
      case atStart => exact ⟨0, 6, by omega, by omega, rfl, by simpa using hown, hbl⟩
      case round =>
        obtain ⟨j, n, hn, hj, rfl, hown, hbl⟩ := hrel
        have hj4 : j = 0 ∨ j = 1 ∨ j = 2 ∨ j = 3 ∨ j = 4 := by omega
        rcases hj4 with rfl | rfl | rfl | rfl | rfl
        · obtain rfl : n = 6 := by omega
          clear hn
          have ha := i64_and3 (m / 64) (by omega) (by omega)
          go_wp2_with (first | (at_builtin; refine wpList_append_own _ rfl _ _ 69 rfl w.heap.size 3 i0 (.int .i64 0) 1 8 Tryd.underlying69 hi hz0 hz1 hz2 rfl (by decide) _ _ _ rfl (hown.alloc _) ⟨wr.heap.size, 0, none⟩ 1 1 [.int .i64 (m / 64 % 4)] rfl rfl (cell_one_new _ _ _) (by simp [Value.oneCell']) (by unfold maxLen; omega) (by omega) (by have := hbl.size; simp; omega) ?_; intro v' w1 hown' hgrow' _))
          go_roundw
          case rel => exact ⟨1, _, by omega, by omega, rfl, by simpa [i64s, last4] using hown', below_app hbl hbl.size hown hgrow'⟩
          case measure => simp [intOf]
        · obtain rfl : n = 4 := by omega
          clear hn
          have ha := i64_and3 (m / 16) (by omega) (by omega)
          go_wp2_with (first | (at_builtin; refine wpList_append_own _ rfl _ _ 69 rfl w.heap.size 3 i0 (.int .i64 0) 1 8 Tryd.underlying69 hi hz0 hz1 hz2 rfl (by decide) _ _ _ rfl (hown.alloc _) ⟨wr.heap.size, 0, none⟩ 1 1 [.int .i64 (m / 16 % 4)] rfl rfl (cell_one_new _ _ _) (by simp [Value.oneCell']) (by unfold maxLen; omega) (by omega) (by have := hbl.size; simp; omega) ?_; intro v' w1 hown' hgrow' _))
          go_roundw
          case rel => exact ⟨2, _, by omega, by omega, rfl, by simpa [i64s, last4] using hown', below_app hbl hbl.size hown hgrow'⟩
          case measure => simp [intOf]
        · obtain rfl : n = 2 := by omega
          clear hn
          have ha := i64_and3 (m / 4) (by omega) (by omega)
          go_wp2_with (first | (at_builtin; refine wpList_append_own _ rfl _ _ 69 rfl w.heap.size 3 i0 (.int .i64 0) 1 8 Tryd.underlying69 hi hz0 hz1 hz2 rfl (by decide) _ _ _ rfl (hown.alloc _) ⟨wr.heap.size, 0, none⟩ 1 1 [.int .i64 (m / 4 % 4)] rfl rfl (cell_one_new _ _ _) (by simp [Value.oneCell']) (by unfold maxLen; omega) (by omega) (by have := hbl.size; simp; omega) ?_; intro v' w1 hown' hgrow' _))
          go_roundw
          case rel => exact ⟨3, _, by omega, by omega, rfl, by simpa [i64s, last4] using hown', below_app hbl hbl.size hown hgrow'⟩
          case measure => simp [intOf]
        · obtain rfl : n = 0 := by omega
          clear hn
          have ha := i64_and3 (m) (by omega) (by omega)
          go_wp2_with (first | (at_builtin; refine wpList_append_own _ rfl _ _ 69 rfl w.heap.size 3 i0 (.int .i64 0) 1 8 Tryd.underlying69 hi hz0 hz1 hz2 rfl (by decide) _ _ _ rfl (hown.alloc _) ⟨wr.heap.size, 0, none⟩ 1 1 [.int .i64 (m % 4)] rfl rfl (cell_one_new _ _ _) (by simp [Value.oneCell']) (by unfold maxLen; omega) (by omega) (by have := hbl.size; simp; omega) ?_; intro v' w1 hown' hgrow' _))
          go_roundw
          case rel => exact ⟨4, _, by omega, by omega, rfl, by simpa [i64s, last4] using hown', below_app hbl hbl.size hown hgrow'⟩
          case measure => simp [intOf]
        · obtain rfl : n = -2 := by omega
          clear hn
          go_wp2
          go_ret
          exact ⟨_, rfl, by have := HM.out; rw [digits, ← this]; exact hown, hbl⟩
end Go.Proofs.YtdedphhohiioiaaDoor
/- What Sign of the chains does, for a leaf that there is. -/
namespace Go.Proofs.YtdedphhohiioiaaDoor
open Go.RowKit

def dcells (ds : List (List Int)) : List Value := ds.flatMap u8s
theorem dcells_append (a b : List (List Int)) : dcells (a ++ b) = dcells a ++ dcells b := by simp [dcells]
theorem dcells_at (ds : List (List Int)) (h : ∀ d ∈ ds, d.length = 16) (i j : Nat) (hi : i < ds.length) (hj : j < 16) : (dcells ds)[i * 16 + j]? = (u8s (ds.getD i []))[j]? := by
  induction ds generalizing i with
  | nil => simp at hi
  | cons d ds ih =>
    have hd : (u8s d).length = 16 := by rw [u8s_len', h d (by simp)]
    rw [show dcells (d :: ds) = u8s d ++ dcells ds by simp [dcells]]
    cases i with
    | zero => rw [Nat.zero_mul, Nat.zero_add, List.getElem?_append_left (by omega)]; rfl
    | succ i =>
      rw [List.getElem?_append_right (by omega), hd, show (i + 1) * 16 + j - 16 = i * 16 + j by omega, ih (fun d hd => h d (by simp [hd])) i (by simpa using hi)]
      rfl
theorem Dgs.of_own {w : World} {base : Nat} {v : Value} {n : Nat} {ds : List (List Int)} (h : w.ownsRow base 43 16 v n (dcells ds)) (hn : n = ds.length) (hg : ∀ d ∈ ds, d.length = 16 ∧ u8s_ok d) : Dgs w v ds := by
  have hcells := @World.ownsRow.cells w base 43 16 v n (dcells ds) h
  have hlt := h.lt
  obtain ⟨_, h2⟩ := h
  rcases h2 with ⟨rfl, rfl⟩ | ⟨g, cap, cur, rfl, e1, e2, e3, e4, _, _⟩
  · cases ds with
    | nil => exact ⟨⟨_, _, rfl⟩, fun h => absurd rfl h, hg⟩
    | cons => simp at hn
  · subst hn
    refine ⟨⟨_, _, rfl⟩, fun _ => ⟨g, 0, cap, rfl, e3, e4, blk_lt e2, fun i hi j u hu => ?_⟩, hg⟩
    have hj : j < 16 := by
      have := (List.getElem?_eq_some_iff.1 hu).1
      rw [u8s_len', List.getD_eq_getElem?_getD, List.getElem?_eq_getElem hi] at this
      simpa [(hg _ (List.getElem_mem hi)).1] using this
    have := hcells rfl (i * 16 + j) u (by rw [dcells_at ds (fun d hd => (hg d hd).1) i j hi hj]; exact hu)
    rw [show (⟨g, 0, none⟩ : Addr).add (i * 16 + j) = ⟨g, 0 + i * 16 + j, none⟩ by unfold Addr.add; split <;> simp_all] at this
    exact this
theorem build55 (R : List Int) (h : R.length = 16) (w : World) : (Instr.buildSlice 55 1 #[(0, .agg (u8s R).toArray)]).run Tryd.prog w = .ok (.slice (some ⟨w.heap.size, 0, none⟩) 1 1) (w.alloc (.cells (u8s R).toArray 43)) := by
  match R, h with
  | [a0, a1, a2, a3, a4, a5, a6, a7, a8, a9, a10, a11, a12, a13, a14, a15], _ =>
    simp only [u8s, List.map_cons, List.map_nil]
    go_simp
theorem wpList_build_run {P : Program} {ops : Array Oper} {rest : List Oper} {o : Oper} {a : Act} {w w' : World} {Q : Exit → Act → World → Prop} (hw : Region.wanted o (yielded ops a.tmps) = true) (t : TypeId) (n : Nat) (parts : Array (Nat × Operand)) (ho : o.op = .buildSlice t n parts)
    (pv : Array (Nat × Value)) (hp : (parts.map fun (i, x) => (i, a.eval x)) = pv) (v : Value) (hr : (Instr.buildSlice t n pv).run P w = .ok v w') (h : wpList P ops Q rest (a.put o.dst v) w') : wpList P ops Q (o :: rest) a w := by
  refine wpList_step fun K hK => ?_
  rw [if_pos hw]
  unfold Oper.wp execOp
  simp only [ho, hp, Sem.run_bind, hr, Result.andThen_ok, Sem.run_pure]
  exact hK _ _ h
theorem Tryd.info43 : (Tryd.prog.info? 43).map (fun i => (i.zero, i.size, i.bytes)) = some (some (.agg (Array.replicate 16 (.int .u8 0))), 16, 16) := by kernel_rfl

theorem right_in (l : Int) (h0 : 0 ≤ l) (h1 : l < 32) (w : World) : Calls Tryd.prog 83 #[.int .i64 l] w fun e w' => e = .returned (.bool true) ∧ w' = w := by
  go_enter Tryd.func83, Tryd.ntmps83
  go_wp2
  go_ret
  exact ⟨rfl, rfl⟩

theorem ownsRow_mono {w : World} {base base' : Nat} {e : TypeId} {size : Nat} {v : Value} {n : Nat} {xs : List Value} (h : w.ownsRow base e size v n xs) (hb : base' ≤ base) : w.ownsRow base' e size v n xs := by
  obtain ⟨h1, h2⟩ := h
  refine ⟨h1, ?_⟩
  rcases h2 with h2 | ⟨g, cap, cur, e1, e2, e3⟩
  · exact .inl h2
  · exact .inr ⟨g, cap, cur, e1, by omega, e3⟩
def sigAt (l : Int) (x m : List Int) (j : Nat) : List Int := runC l j (secretC l j x) 0 ((digits m).getD j 0)
def sigC (l : Int) (x m : List Int) (i : Nat) : List (List Int) := (List.range i).map (sigAt l x m)
theorem sigC_succ (l : Int) (x m : List Int) (i : Nat) : sigC l x m (i + 1) = sigC l x m i ++ [sigAt l x m i] := by
  simp [sigC, List.range_succ]
theorem secret_good (l c : Int) (x : List Int) : (secretC l c x).length = 16 ∧ u8s_ok (secretC l c x) := ⟨short_len _ _, short_ok _ _⟩
theorem runC_good (l c : Int) (x : List Int) (f t : Int) (hl : x.length = 16) (hx : u8s_ok x) : (runC l c x f t).length = 16 ∧ u8s_ok (runC l c x f t) := walk_good l c x _ _ hl hx

set_option maxHeartbeats 4000000 in
set_option maxRecDepth 100000 in
theorem sign_any (x : List Int) (hl : x.length = 16) (hx : u8s_ok x) (l : Int) (h0 : 0 ≤ l) (h1 : l < 32) (m : List Int) (hlm : m.length = 16) (hm : u8s_ok m) (w : World) (hk : w.rangeAt 18 0 (u32s kk)) (h18 : 18 < w.heap.size) :
    Calls Tryd.prog 47 #[.agg (u8s x).toArray, .int .i64 l, .agg (u8s m).toArray] w fun e w' => ∃ v, e = .returned (.tuple #[v, .nilIface]) ∧ w'.ownsRow w.heap.size 43 16 v 68 (dcells (sigC l x m 68)) ∧ Below w.heap.size w w' := by
  have hi43 : ∀ V : List Int, V.length = 16 → (Tryd.prog.info? 43).map (·.size) = some (u8s V).length := fun V h => by rw [u8s_len', h]; exact Tryd.size43
  obtain ⟨W0, hW0⟩ : ∃ W0, W0 = (w.alloc (.cells (u8s x).toArray 43)).alloc (.cells (u8s m).toArray 43) := ⟨_, rfl⟩
  have q0 : W0.heap[w.heap.size]? = some (.cells (u8s x).toArray 43 (0, 0)) := by rw [hW0]; exact heap_alloc2_old w _ _
  have q1 : W0.heap[w.heap.size + 1]? = some (.cells (u8s m).toArray 43 (0, 0)) := by
    rw [hW0]
    have := heap_alloc_new (w.alloc (.cells (u8s x).toArray 43)) (.cells (u8s m).toArray 43)
    simpa using this
  have b0 : Below w.heap.size w W0 := by rw [hW0]; exact ((Below.refl _ _).alloc (Nat.le_refl _) _).alloc (by simp) _
  have HK := Lib.hid hk
  have HL := Lib.hid hl
  have HX := Lib.hid hx
  have HLM := Lib.hid hlm
  have HM := Lib.hid hm
  have Q0 := Lib.hid q0
  have Q1 := Lib.hid q1
  have B0 := Lib.hid b0
  clear hk hl hx hlm hm q0 q1 b0
  go_enter Tryd.func47, Tryd.ntmps47
  go_wp2_with fail
  rw [← hW0]
  clear hW0
  refine (right_in l h0 h1 W0).mono ?_
  rintro e w1 ⟨rfl, rfl⟩
  go_wp2_with (refine wpList_load_g rfl 43 (.tmp 5) rfl (w.heap.size + 1) 0 rfl (u8s m) _ (blk_range Q1.out) Tryd.underlying43 rfl (hi43 m HLM.out) ?_)
  refine (digits_any m HLM.out HM.out w1).mono ?_
  rintro e w2 ⟨dv, rfl, hdown, hb2⟩
  obtain ⟨db, doff, dc, hde, hdc1, hdc2, hdcell⟩ := Row.of_own hdown (by omega)
  have hdl : (digits m).length = 68 := by
    have := hdown.1
    simpa [i64s] using this
  have hil : (i64s (digits m)).length = 68 := by simp [i64s, hdl]
  rw [hil] at hde
  subst hde
  have Q2 := Lib.hid (blk_below Q0.out hb2)
  have B2 := Lib.hid (B0.out.trans (hb2.mono B0.out.size))
  have HD : Hid (∀ W, Below w2.heap.size w2 W → ∀ j : Nat, j < 68 → W.cell? ⟨db, doff + j, none⟩ = some (.int .i64 ((digits m).getD j 0))) := Lib.hid fun W hW j hj => by
    have hc := hdcell j (.int .i64 ((digits m).getD j 0)) (by simp [i64s, List.getD_eq_getElem?_getD, List.getElem?_eq_getElem (show j < (digits m).length by omega)])
    exact (hW.cell (p := ⟨db, doff + j, none⟩) (World.block_lt_of_cell? w2 _ hc)).trans hc
  clear hdown hb2 hdcell hdl hil Q0 Q1 B0 hdc1 hdc2
  go_wp2_with fail
  obtain ⟨i0, hi, hzz⟩ := Option.map_eq_some_iff.1 Tryd.info43
  go_loopw [8, 18] (fun v k wr => ∃ (i : Nat), i ≤ 68 ∧ k = .int .i64 i ∧ Hid (wr.ownsRow w2.heap.size 43 16 v i (dcells (sigC l x m i))) ∧ Hid (Below w2.heap.size w2 wr))
    (fun _ k _ => 68 - (intOf k).toNat)
  case atStart => exact ⟨0, by omega, rfl, Lib.hid (World.ownsRow_nil _ _ _ _), Lib.hid (Below.refl _ _)⟩
  case round =>
    obtain ⟨i, hi68, rfl, hown, hbel⟩ := hrel
    by_cases hlt : i < 68
    · have hcd := HD.out wr hbel.out i hlt
      have hra := range_below (blk_range Q2.out) hbel.out
      have RA := Lib.hid hra
      have BR : Hid (Below w.heap.size w wr) := Lib.hid (B2.out.trans (hbel.out.mono B2.out.size))
      obtain ⟨dj, hdj⟩ : ∃ d, d = (digits m).getD i 0 := ⟨_, rfl⟩
      rw [← hdj] at hcd
      have HDJ := Lib.hid hdj
      clear hra hdj
      go_wp2_with (refine wpList_load_g rfl 43 (.tmp 3) rfl w.heap.size 0 rfl (u8s x) _ RA.out Tryd.underlying43 rfl (hi43 x HL.out) ?_)
      refine (secret_any x HL.out HX.out l i wr (range_below HK.out BR.out) (Nat.lt_of_lt_of_le h18 BR.out.size)).mono ?_
      rintro e w3 ⟨rfl, hb3⟩
      have BR3 := Lib.hid (BR.out.trans (hb3.mono BR.out.size))
      have hs := secret_good l i x
      go_wp2_with fail
      refine (run_any (secretC l i x) hs.1 hs.2 l i 0 dj w3 (range_below HK.out BR3.out) (Nat.lt_of_lt_of_le h18 BR3.out.size)).mono ?_
      rintro e w4 ⟨rfl, hb4⟩
      have BR4 := Lib.hid (BR3.out.trans (hb4.mono BR3.out.size))
      have hb34 : Below wr.heap.size wr w4 := hb3.trans (hb4.mono hb3.size)
      have own4 : w4.ownsRow w2.heap.size 43 16 _ i (dcells (sigC l x m i)) := hown.out.kept (row := none) ⟨hb34.os, hb34.tape, hb34.output, hb34.size, fun k hk _ => hb34.block k hk⟩ (by
        cases h : Value.ownBlock _ with
        | none => exact .inl rfl
        | some k => exact .inr (by simp))
      obtain ⟨R, hR⟩ : ∃ r, r = runC l i (secretC l i x) 0 dj := ⟨_, rfl⟩
      have hRl : R.length = 16 := by rw [hR]; exact (runC_good l i _ 0 dj hs.1 hs.2).1
      have hsig : sigC l x m (i + 1) = sigC l x m i ++ [R] := by rw [sigC_succ, sigAt, ← HDJ.out, ← hR]
      rw [← hR]
      have OW4 := Lib.hid own4
      have HSIG := Lib.hid hsig
      have HRL := Lib.hid hRl
      have hz24 : w2.heap.size ≤ w4.heap.size := Nat.le_trans hbel.out.size hb34.size
      have L4 : Hid (Below w2.heap.size w2 w4) := Lib.hid (hbel.out.trans (hb34.mono hbel.out.size))
      have hwz : w.heap.size ≤ w4.heap.size := BR4.out.size
      clear own4 hsig hRl hR hs hb34 hb3 hb4 hown hbel BR BR3 RA hcd
      go_wp2_with (first | (refine wpList_build_run rfl 55 1 _ rfl #[(0, .agg (u8s R).toArray)] (by simp only [List.map_toArray, List.map_cons, List.map_nil]; rfl) _ (build55 R HRL.out w4) ?_) | (at_builtin; refine appN (w0 := w4) w2.heap.size rfl (.tmp 23) (.tmp 32) 55 43 (.agg (Array.replicate 16 (.int .u8 0))) 16 16 rfl Tryd.underlying55 Tryd.info43 rfl (by omega) (by omega) _ i _ rfl ⟨w4.heap.size, 0, none⟩ 1 1 (u8s R) rfl (by rw [u8s_len', HRL.out]) (fun j u hu => by rw [show (⟨w4.heap.size, 0, none⟩ : Addr).add j = ⟨w4.heap.size, 0 + j, none⟩ by unfold Addr.add; split <;> simp_all]; exact range_new w4 (u8s R) 43 j u hu) (one_u8s _) (OW4.out.alloc _) ((Below.refl _ _).alloc hz24 _) (by simp; omega) (by omega) ?_; intro v5 w5 ap5; have AP5 := Lib.hid ap5; clear ap5))
      have own5 : w5.ownsRow w2.heap.size 43 16 v5 (i + 1) (dcells (sigC l x m (i + 1))) := by
        rw [HSIG.out, dcells_append, show dcells [R] = u8s R by simp [dcells]]
        exact AP5.out.own
      go_roundw
      case rel => exact ⟨i + 1, by omega, by go_num, Lib.hid own5, Lib.hid (L4.out.trans AP5.out.below)⟩
      case measure => simp [intOf]; omega
    · obtain rfl : i = 68 := by omega
      have BR := Lib.hid (B2.out.trans (hbel.out.mono B2.out.size))
      go_wp2
      go_ret2
      exact ⟨_, rfl, ownsRow_mono hown.out B2.out.size, BR.out⟩

theorem sigC_len (l : Int) (x m : List Int) (i : Nat) : (sigC l x m i).length = i := by simp [sigC]
theorem sigC_good (l : Int) (x m : List Int) (i : Nat) : ∀ d ∈ sigC l x m i, d.length = 16 ∧ u8s_ok d := by
  intro d hd
  obtain ⟨j, _, rfl⟩ := List.mem_map.1 hd
  exact runC_good _ _ _ _ _ (secret_good _ _ _).1 (secret_good _ _ _).2
theorem sig_dgs {w : World} {base : Nat} {v : Value} {l : Int} {x m : List Int} (h : w.ownsRow base 43 16 v 68 (dcells (sigC l x m 68))) : Dgs w v (sigC l x m 68) :=
  Dgs.of_own h (sigC_len l x m 68).symm (sigC_good l x m 68)
end Go.Proofs.YtdedphhohiioiaaDoor
/- The chains' look at life: the digits of noughts. -/
namespace Go.Proofs.YtdedphhohiioiaaDoor
open Go.RowKit

theorem digits_noughts : digits (List.replicate 16 0) = List.replicate 64 0 ++ [3, 0, 0, 0] := by kernel_rfl

set_option maxHeartbeats 4000000 in
set_option maxRecDepth 100000 in
theorem alive_chains (w : World) : Calls Tryd.prog 36 #[] w fun e w' => e = .returned (.bool true) ∧ Below w.heap.size w w' := by
  go_enter Tryd.func36, Tryd.ntmps36
  go_wp2_with fail
  refine (digits_any (List.replicate 16 0) rfl (fun b hb => by rw [List.eq_of_mem_replicate hb]; omega) _).mono ?_
  rintro e w1 ⟨v, rfl, hown, hb1⟩
  obtain ⟨b, off, c, he, hc1, hc2, hcell⟩ := Row.of_own hown (by omega)
  have hl : (i64s (digits (List.replicate 16 0))).length = 68 := by rw [digits_noughts]; rfl
  rw [hl] at he hc1
  subst he
  rw [digits_noughts] at hcell
  have c0 := hcell 0 (.int .i64 0) rfl
  have c1 := hcell 63 (.int .i64 0) rfl
  have c2 := hcell 64 (.int .i64 3) rfl
  have c3 := hcell 65 (.int .i64 0) rfl
  have c4 := hcell 67 (.int .i64 0) rfl
  rw [Nat.add_zero] at c0
  have HB := Lib.hid hb1
  clear hcell hown hl hb1 hc2
  go_wp2
  go_ret
  exact ⟨rfl, HB.out⟩
end Go.Proofs.YtdedphhohiioiaaDoor
