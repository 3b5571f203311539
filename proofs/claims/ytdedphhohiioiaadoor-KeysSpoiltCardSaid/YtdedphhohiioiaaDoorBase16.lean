/- Lemmas that laws of this seat rest on, part 16; each says its own conditions: TreesAllW. -/
import Derived.Test.YtdedphhohiioiaaDoorBase15
/- TreesAll: what the law does. -/
namespace Go.Proofs.YtdedphhohiioiaaDoor
open Go.RowKit Go.Shelf

theorem climb_eq (x : List Int) (n : Nat) (ds : List (List Int)) : ∀ k, climbAt x n ds k = climbP joinC [] x n ds k
  | 0 => rfl
  | k + 1 => by
    show (if _ then _ else _) = (if _ then _ else _)
    rw [climb_eq x n ds k]
theorem climb_way (ds : List (List Int)) (h : ds.length = 32) (i : Nat) (hi : i < 32) : climbAt (ds.getD i []) i (wayT ds i 5) 5 = rootT ds := by
  rw [climb_eq]
  exact climb_root joinC [] 5 ds i (by rw [h]) hi
theorem way_last (ds : List (List Int)) (i : Nat) : (wayT ds i 5).getD 4 [] = (lev joinC ds 4).getD (fl (i / 16)) [] := by
  simp [wayT, wayP, List.range_succ]
theorem root_join (ds : List (List Int)) (h : ds.length = 32) : rootT ds = joinC ((lev joinC ds 4).getD 0 []) ((lev joinC ds 4).getD 1 []) := by
  have h4 := lev32_len ds h 4 (by omega)
  have := up_at joinC [] (lev joinC ds 4) 0 (by rw [h4]; decide)
  rw [show up joinC (lev joinC ds 4) = lev joinC ds 5 from rfl, lev5 ds h] at this
  simpa using this
theorem there_blk {w : World} {b t : Nat} {cs : List Value} (h : w.heap[b]? = some (.cells cs.toArray t (0, 0))) : w.there b 0 cs.length := fun j hj => ⟨by
  rw [Nat.zero_add, blk_cell h j cs[j] (List.getElem?_eq_getElem hj)]
  rfl, blk_free h _⟩
theorem there_below {w w' : World} {b o n : Nat} (h : w.there b o n) (hb : Below w.heap.size w w') : w'.there b o n := fun j hj => by
  obtain ⟨h1, h2⟩ := h j hj
  obtain ⟨v, hv⟩ := Option.isSome_iff_exists.1 h1
  have hlt := World.block_lt_of_cell? w _ hv
  have hblk := hb.block b hlt
  refine ⟨by rw [World.cell?_of_block (a := ⟨b, o + j, none⟩) hblk]; exact h1, ?_⟩
  rw [← h2]
  simp only [World.frozen?, hblk]
theorem there_at {w : World} {b n : Nat} (h : w.there b 0 n) (o m : Nat) (hm : o + m ≤ n) : w.there b o m := fun j hj => by
  have := h (o + j) (by omega)
  rwa [Nat.zero_add] at this
theorem setCells_other (b : Nat) : ∀ (vs : List Value) (o : Nat) (w : World) (k : Nat), k ≠ b → (w.setCells b o vs).heap[k]? = w.heap[k]?
  | [], _, _, _, _ => rfl
  | v :: vs, o, w, k, hk => (setCells_other b vs (o + 1) (w.setCell ⟨b, o, none⟩ v) k hk).trans (heap_setCell_other w ⟨b, o, none⟩ k v hk)
theorem setCells_below {n₀ : Nat} {w0 : World} (b : Nat) (hb : n₀ ≤ b) : ∀ (vs : List Value) (o : Nat) (w : World), Below n₀ w0 w → Below n₀ w0 (w.setCells b o vs)
  | [], _, _, h => h
  | v :: vs, o, w, h => setCells_below b hb vs (o + 1) _ (h.setCell (p := ⟨b, o, none⟩) hb v)
theorem Tryd.size73a : (Tryd.prog.info? 73).map (·.size) = some 32 := by kernel_rfl
def zero32 : List Int := List.replicate 32 0
/-- What the loop over all leaves holds. -/
structure AlI (w : World) (br bl : Nat) (ds : List (List Int)) (i : Nat) (W : World) : Prop where
  th : W.there bl 0 32
  q1 : 1 ≤ i → W.rangeAt bl 0 (u8s ((lev joinC ds 4).getD 1 []))
  q0 : 17 ≤ i → W.rangeAt bl 16 (u8s ((lev joinC ds 4).getD 0 []))
  rt : W.rangeAt br 0 (u8s (rootT ds))
  bel : Below w.heap.size w W
theorem AlI.go {w W W' : World} {br bl : Nat} {ds : List (List Int)} {i : Nat} (h : AlI w br bl ds i W) (hb : Below W.heap.size W W') : AlI w br bl ds i W' :=
  ⟨there_below h.th hb, fun x => range_below (h.q1 x) hb, fun x => range_below (h.q0 x) hb, range_below h.rt hb, h.bel.trans (hb.mono h.bel.size)⟩

set_option maxHeartbeats 8000000 in
set_option maxRecDepth 100000 in
theorem treesAll_any (ds : List (List Int)) (A : Option Addr) (k c : Nat) (w : World) (hd : Dgs w (.slice A k c) ds) (hkl : k = ds.length) (hk : w.rangeAt 18 0 (u32s kk)) (h18 : 18 < w.heap.size) :
    Calls Tryd.prog 15 #[.slice A k c] w fun e w' => e = .returned (.bool true) ∧ Below w.heap.size w w' := by
  have hi43 : ∀ V : List Int, V.length = 16 → (Tryd.prog.info? 43).map (·.size) = some (u8s V).length := fun V h => by rw [u8s_len', h]; exact Tryd.size43
  have HD := Lib.hid hd
  have HKL := Lib.hid hkl
  have HK := Lib.hid hk
  clear hd hkl hk
  go_enter Tryd.func15, Tryd.ntmps15
  go_wp2_with fail
  refine (alive_trees w HK.out h18).mono ?_
  rintro e w1 ⟨rfl, hb1⟩
  have B1 := Lib.hid hb1
  clear hb1
  by_cases hk32 : k = 32
  case neg =>
    have hkne : ((k : Int) != 32) = true := by simp; omega
    go_wp2_with fail
    go_ret
    exact ⟨rfl, B1.out⟩
  subst hk32
  have hds : ds.length = 32 := HKL.out.symm
  have hne : ds ≠ [] := by intro e; rw [e] at hds; simp at hds
  obtain ⟨b0, o0, c', he, hc0, hbb, hrow0⟩ := slice_form HD.out hne
  simp only [Value.slice.injEq] at he
  obtain ⟨rfl, -, rfl⟩ := he
  rw [hds] at hrow0
  have HDS := Lib.hid hds
  have HG := Lib.hid HD.out.good
  have HROW := Lib.hid hrow0
  clear hne hc0 hrow0
  go_wp2_with fail
  refine (root_ok ds (some ⟨b0, o0, none⟩) 32 c w1 (HD.out.below B1.out) HDS.out.symm rfl (range_below HK.out B1.out) (Nat.lt_of_lt_of_le h18 B1.out.size)).mono ?_
  rintro e w2 ⟨rfl, hb2⟩
  obtain ⟨RO, hRO⟩ : ∃ s, s = rootT ds := ⟨_, rfl⟩
  have hgr := rootT_good ds HDS.out HG.out
  rw [← hRO] at hgr ⊢
  have HRO := Lib.hid hRO
  have GLRO := Lib.hid hgr.1
  have HHN := Lib.hid (has_new w2 (Array.replicate 16 (Value.int .u8 0)) 43 (u8s RO).length (by rw [u8s_len', hgr.1]; rfl))
  have B2 := Lib.hid (B1.out.trans (hb2.mono B1.out.size))
  have hi73 : (Tryd.prog.info? 73).map (·.size) = some (u8s zero32).length := by rw [u8s_len']; exact Tryd.size73a
  clear hb2 hRO hgr
  go_wp2_with (first | (refine wpList_store_row rfl 43 (.tmp 3) (.tmp 20) rfl w2.heap.size rfl (u8s RO) rfl 43 HHN.out (hi43 RO GLRO.out) (one_u8s _) ?_; intro w3 hp3; have L3 : Below w2.heap.size w2 w3 := (hp3.below ((Below.refl _ _).alloc (Nat.le_refl _) _) (Nat.le_refl _)); have R3 := Lib.hid (blk_range hp3.blk); have B3 := Lib.hid (B2.out.trans (L3.mono B2.out.size)); have z3 := Lib.hid (show w2.heap.size < w3.heap.size by rw [hp3.size]; simp); clear hp3 L3) | (refine wpList_store_row rfl 73 (.tmp 5) (.tmp 24) rfl w3.heap.size rfl (u8s zero32) rfl 73 (has_new w3 _ _ _ (by rw [u8s_len']; rfl)) hi73 (one_u8s _) ?_; intro w4 hp4; have L4 : Below w3.heap.size w3 w4 := (hp4.below ((Below.refl _ _).alloc (Nat.le_refl _) _) (Nat.le_refl _)); have I4 : Hid (AlI w w2.heap.size w3.heap.size ds 0 w4) := Lib.hid ⟨(by have := there_blk hp4.blk; rw [u8s_len'] at this; exact this), fun h => absurd h (by omega), fun h => absurd h (by omega), (by rw [← HRO.out]; exact range_below R3.out L4), B3.out.trans (L4.mono B3.out.size)⟩; clear hp4 L4))
  have hq1 : ((lev joinC ds 4).getD 1 []).length = 16 ∧ u8s_ok ((lev joinC ds 4).getD 1 []) := by
    have h4 := lev32_len ds HDS.out 4 (by omega)
    rw [List.getD_eq_getElem?_getD, List.getElem?_eq_getElem (by rw [h4]; decide)]
    exact lev_good ds HG.out 4 _ (List.getElem_mem _)
  have hq0 : ((lev joinC ds 4).getD 0 []).length = 16 ∧ u8s_ok ((lev joinC ds 4).getD 0 []) := by
    have h4 := lev32_len ds HDS.out 4 (by omega)
    rw [List.getD_eq_getElem?_getD, List.getElem?_eq_getElem (by rw [h4]; decide)]
    exact lev_good ds HG.out 4 _ (List.getElem_mem _)
  have GQ0 := Lib.hid hq0
  have GQ1 := Lib.hid hq1
  have ZL := Lib.hid z3.out
  clear hq0 hq1 z3 R3 hi73 HHN B3
  go_loopw [27] (fun q wr => ∃ (i : Nat), i ≤ 32 ∧ q = .int .i64 i ∧ Hid (AlI w w2.heap.size w3.heap.size ds i wr))
    (fun q _ => 32 - (intOf q).toNat)
  case atStart => exact ⟨0, by omega, rfl, I4⟩
  case round =>
    clear I4
    obtain ⟨i, hi, rfl, hin⟩ := hrel
    by_cases hlt : i < 32
    · have hil : (i : Int) < 32 := by omega
      have hrx := range_below (HROW.out i hlt) hin.out.bel
      have hgx := HD.out.at i (by rw [HDS.out]; exact hlt)
      have hcw := climb_way ds HDS.out i hlt
      obtain ⟨X, hX⟩ : ∃ d, d = ds.getD i [] := ⟨_, rfl⟩
      rw [← hX] at hrx hgx hcw
      have RX := Lib.hid hrx
      have GX := Lib.hid hgx
      have HCW := Lib.hid hcw
      have HNX := Lib.hid (has_new wr (Array.replicate 16 (Value.int .u8 0)) 43 (u8s X).length (by rw [u8s_len', hgx.1]; rfl))
      clear hrx hgx hcw hX
      go_wp2_with (first | (refine wpList_load_g rfl 43 (.tmp 30) rfl b0 (o0 + i * 16) rfl (u8s X) _ RX.out Tryd.underlying43 rfl (hi43 X GX.out.1) ?_) | (refine wpList_store_row rfl 43 (.tmp 7) (.tmp 31) rfl wr.heap.size rfl (u8s X) rfl 43 HNX.out (hi43 X GX.out.1) (one_u8s _) ?_; intro w5 hp5; have L5 : Below wr.heap.size wr w5 := (hp5.below ((Below.refl _ _).alloc (Nat.le_refl _) _) (Nat.le_refl _)); have X5 := Lib.hid (blk_range hp5.blk); have I5 := Lib.hid (hin.out.go L5); clear hp5 L5))
      refine (path_ok ds (some ⟨b0, o0, none⟩) 32 c i hlt w5 (HD.out.below I5.out.bel) HDS.out.symm rfl (range_below HK.out I5.out.bel) (Nat.lt_of_lt_of_le h18 I5.out.bel.size)).mono ?_
      rintro e w6 ⟨v6, rfl, ro6, hb6⟩
      obtain ⟨bp, cp, _, rfl, hbp, _⟩ := own_blk2 (by omega) ro6
      have hb5 : w3.heap.size < w5.heap.size := by
        obtain ⟨v, hv⟩ := Option.isSome_iff_exists.1 (I5.out.th 0 (by omega)).1
        exact World.block_lt_of_cell? w5 _ hv
      have HBP : Hid (bp ≠ w3.heap.size) := Lib.hid (by omega)
      clear hbp hb5
      have DP6 := Lib.hid (way_dgs hlt HDS.out HG.out ro6)
      have X6 := Lib.hid (range_below X5.out hb6)
      have I6 := Lib.hid (I5.out.go hb6)
      clear ro6 hb6 hin
      go_wp2_with (refine wpList_load_g rfl 43 (.tmp 7) rfl wr.heap.size 0 rfl (u8s X) _ X6.out Tryd.underlying43 rfl (hi43 X GX.out.1) ?_)
      refine (climb_in X GX.out.1 GX.out.2 i hlt (wayT ds i 5) (some ⟨bp, 0, none⟩) 5 cp w6 DP6.out (wayT_len ds i 5).symm rfl (range_below HK.out I6.out.bel) (Nat.lt_of_lt_of_le h18 I6.out.bel.size)).mono ?_
      rintro e w7 ⟨rfl, hb7⟩
      rw [HCW.out, ← HRO.out]
      have DP7 := Lib.hid (DP6.out.below hb7)
      have I7 := Lib.hid (I6.out.go hb7)
      have HN7 := Lib.hid (has_new w7 (Array.replicate 16 (Value.int .u8 0)) 43 (u8s RO).length (by rw [u8s_len', GLRO.out]; rfl))
      have hr4 : w7.rangeAt bp 64 (u8s ((wayT ds i 5).getD 4 [])) := by
        obtain ⟨_, _, _, e4, _, _, r4⟩ := slice_form DP7.out (by intro e; have := wayT_len ds i 5; rw [e] at this; simp at this)
        simp only [Value.slice.injEq, Option.some.injEq, Addr.mk.injEq] at e4
        obtain ⟨⟨rfl, rfl, -⟩, -, -⟩ := e4
        exact r4 4 (by rw [wayT_len]; omega)
      rw [way_last] at hr4
      obtain ⟨q, hq⟩ : ∃ q : Nat, (i : Int) / 16 = q := ⟨i / 16, by omega⟩
      have hq16 : i / 16 = q := by omega
      have hq2 : (q : Int) < 2 := by omega
      rw [hq16] at hr4
      have hgq : ((lev joinC ds 4).getD (fl q) []).length = 16 ∧ u8s_ok ((lev joinC ds 4).getD (fl q) []) := by
        rcases (show q = 0 ∨ q = 1 by omega) with rfl | rfl
        · exact GQ1.out
        · exact GQ0.out
      obtain ⟨QQ, hQQ⟩ : ∃ d, d = (lev joinC ds 4).getD (fl q) [] := ⟨_, rfl⟩
      rw [← hQQ] at hr4 hgq
      have RP7 := Lib.hid hr4
      have GLQQ := Lib.hid hgq.1
      have HQQ := Lib.hid hQQ
      have HQ := Lib.hid hq
      have HQ2 := Lib.hid hq2
      have hsame := run_same16 RO GLRO.out
      clear hb7 hr4 hgq hQQ hq16
      by_cases hz : (i : Int) % 16 = 0
      · go_wp2_with (first | (refine wpList_store_row rfl 43 (.tmp 10) (.tmp 43) rfl w7.heap.size rfl (u8s RO) rfl 43 HN7.out (hi43 RO GLRO.out) (one_u8s _) ?_; intro w8 hp8; have L8 : Below w7.heap.size w7 w8 := (hp8.below ((Below.refl _ _).alloc (Nat.le_refl _) _) (Nat.le_refl _)); have T8 := Lib.hid (blk_range hp8.blk); have DP8 := Lib.hid (DP7.out.below L8); have I8 := Lib.hid (I7.out.go L8); have RT8 : Hid (w8.rangeAt w2.heap.size 0 (u8s RO)) := Lib.hid (by rw [HRO.out]; exact I8.out.rt); have RP8 := Lib.hid (range_below RP7.out L8); clear hp8 L8) | (refine wpList_load_g rfl 43 (.tmp 10) rfl w7.heap.size 0 rfl (u8s RO) _ T8.out Tryd.underlying43 rfl (hi43 RO GLRO.out) ?_) | (refine wpList_load_g rfl 43 (.tmp 3) rfl w2.heap.size 0 rfl (u8s RO) _ RT8.out Tryd.underlying43 rfl (hi43 RO GLRO.out) ?_) | (refine wpList_load_g rfl 43 (.tmp 67) rfl bp 64 rfl (u8s QQ) _ RP8.out Tryd.underlying43 rfl (hi43 QQ GLQQ.out) ?_) | (refine wpList_store_mid rfl 43 (.tmp 69) (.tmp 68) rfl w3.heap.size (q * 16) (u8s QQ).toArray rfl rfl (there_at I8.out.th (q * 16) _ (by rw [List.size_toArray, u8s_len', GLQQ.out]; have := HQ2.out; omega)) (by simpa using hi43 QQ GLQQ.out) (all_oneCell_toArray (one_u8s _)) ?_))
        obtain ⟨w9, hw9⟩ : ∃ x, x = w8.setCells w3.heap.size (q * 16) (u8s QQ).toArray.toList := ⟨_, rfl⟩
        rw [← hw9]
        have hth : w8.there w3.heap.size (q * 16) (u8s QQ).length := there_at I8.out.th (q * 16) _ (by rw [u8s_len', GLQQ.out]; have := HQ2.out; omega)
        have hl16 : (u8s QQ).length = 16 := by rw [u8s_len', GLQQ.out]
        have rl9 : w9.rangeAt w3.heap.size (q * 16) (u8s QQ) := by rw [hw9]; exact World.rangeAt_setCells_same w8 w3.heap.size (q * 16) (u8s QQ) hth
        have rp9 : w9.rangeAt bp 64 (u8s QQ) := by rw [hw9]; exact World.rangeAt_setCells_apart RP8.out _ _ _ (.inl HBP.out)
        have rt9 : w9.rangeAt w2.heap.size 0 (u8s (rootT ds)) := by rw [hw9]; exact World.rangeAt_setCells_apart I8.out.rt _ _ _ (.inl (by have := ZL.out; omega))
        have th9 : w9.there w3.heap.size 0 32 := by rw [hw9]; exact World.there_setCells I8.out.th _ _ _
        have bl9 : Below w.heap.size w w9 := by rw [hw9]; exact setCells_below _ (by have := ZL.out; have := B2.out.size; omega) _ _ _ I8.out.bel
        have i9 : AlI w w2.heap.size w3.heap.size ds (i + 1) w9 := by
          have hqc : q = 0 ∨ q = 1 := by have := HQ2.out; omega
          refine ⟨th9, fun _ => ?_, fun h17 => ?_, rt9, bl9⟩
          · rcases hqc with rfl | rfl
            · rw [HQQ.out] at rl9
              exact rl9
            · rw [hw9]
              have hi1 : 1 ≤ i := by have := HQ.out; omega
              have hq1l : (u8s ((lev joinC ds 4).getD 1 [])).length = 16 := by rw [u8s_len', GQ1.out.1]
              exact World.rangeAt_setCells_apart (I8.out.q1 hi1) _ _ _ (.inr (.inl (by rw [hq1l]; omega)))
          · have hq1 : q = 1 := by have := HQ.out; omega
            subst hq1
            rw [HQQ.out] at rl9
            exact rl9
        have RPA := Lib.hid rp9
        have RLA := Lib.hid rl9
        have IA := Lib.hid i9
        clear rl9 rp9 rt9 th9 bl9 i9 hth hl16 hw9 RT8 T8
        try go_wp2_with fail
        refine wp_region_rely (by kernel_rfl) 8 (by kernel_rfl) (by kernel_rfl) Ext Ext.refl Ext.trans (fun ix => match ix with
          | 0 => fun _ v => v = .slice (some ⟨bp, 0, none⟩) 5 cp
          | 1 => fun _ v => v = .pointer (some ⟨bp, 64, none⟩)
          | 2 => fun _ v => v = .agg (u8s QQ).toArray
          | 3 => fun _ v => v = .int .i64 (i : Int)
          | 4 => fun _ v => v = .int .i64 (q : Int)
          | 5 => fun _ v => v = .pointer (some ⟨w3.heap.size, q * 16, none⟩)
          | 6 => fun _ v => v = .agg (u8s QQ).toArray
          | 7 => fun _ v => v = .bool false
          | _ => fun _ _ => False) ?_
        simp (maxSteps := 10000000) only [Rely, List.take_succ_cons, List.take_zero, List.drop_succ_cons, List.drop_zero, Nat.reduceAdd, Nat.zero_add, Act.put, List.setIfInBounds_toArray, List.set_cons_succ, List.set_cons_zero]
        refine ⟨?_, ?_, ?_, ?_, ?_, ?_, ?_, ?_, ?_⟩
        · refine step_plain rfl fun vs wq hE hd => ?_
          exact gives_move _ (.slice (some ⟨bp, 0, none⟩) 5 cp) (.inl rfl) rfl ⟨Ext.refl _, fun _ _ => rfl⟩
        · refine step_plain rfl fun vs wq hE hd => ?_
          exact gives_indexAt 55 _ _ rfl (.slice (some ⟨bp, 0, none⟩) 5 cp) (Value.int IntKind.i64 4) (.pointer (some ⟨bp, 64, none⟩)) (show vs 0 = _ from hd.1) rfl (by go_simp) ⟨Ext.refl _, fun _ _ => rfl⟩
        · refine step_plain rfl fun vs wq hE hd => ?_
          exact gives_load_row 43 _ rfl bp 64 (show vs 1 = _ from (hd.1)) (u8s QQ) _ (range_below RPA.out (ext_of_drew hE)) Tryd.underlying43 rfl (hi43 QQ GLQQ.out) ⟨Ext.refl _, fun _ _ => rfl⟩
        · refine step_plain rfl fun vs wq hE hd => ?_
          exact gives_move _ (.int .i64 (i : Int)) (.inl rfl) rfl ⟨Ext.refl _, fun _ _ => rfl⟩
        · refine step_plain rfl fun vs wq hE hd => ?_
          exact gives_binOp .quo 3 _ _ _ rfl (.int .i64 (i : Int)) (.int .i64 16) (.int .i64 (q : Int)) (show vs 3 = _ from (hd.1)) rfl (by go_simp) (by have hx := HQ.out; have h2 := HQ2.out; have hw : IntKind.i64.wrap (q : Int) = q := (by rw [IntKind.wrap_i64]; omega); go_simp) ⟨Ext.refl _, fun _ _ => rfl⟩
        · refine step_plain rfl fun vs wq hE hd => ?_
          exact gives_indexAt 73 _ _ rfl (.pointer (some ⟨w3.heap.size, 0, none⟩)) (.int .i64 (q : Int)) (.pointer (some ⟨w3.heap.size, q * 16, none⟩)) rfl (show vs 4 = _ from (hd.1)) (by have hq := HQ2.out; go_simp) ⟨Ext.refl _, fun _ _ => rfl⟩
        · refine step_plain rfl fun vs wq hE hd => ?_
          exact gives_load_row 43 _ rfl w3.heap.size (q * 16) (show vs 5 = _ from (hd.1)) (u8s QQ) _ (range_below RLA.out (ext_of_drew hE)) Tryd.underlying43 rfl (hi43 QQ GLQQ.out) ⟨Ext.refl _, fun _ _ => rfl⟩
        · refine step_plain rfl fun vs wq hE hd => ?_
          have hsame := run_same16 QQ GLQQ.out
          exact gives_binOp .neq 43 _ _ _ rfl (.agg (u8s QQ).toArray) (.agg (u8s QQ).toArray) (.bool false) (show vs 2 = _ from (hd.1)) (show vs 6 = _ from (hd.2.1)) (by go_simp) (by go_simp) ⟨Ext.refl _, fun _ _ => rfl⟩
        · intro vs wz hE hR
          have h7 : vs 7 = .bool false := hR 7 (by omega)
          have IZ := Lib.hid (IA.out.go (ext_of_drew hE))
          rw [h7]
          clear hR hE h7
          go_wp2
          go_roundw
          case rel => exact ⟨i + 1, by omega, by go_num, IZ⟩
          case measure => simp [intOf]; omega
      · go_wp2_with (first | (refine wpList_store_row rfl 43 (.tmp 10) (.tmp 43) rfl w7.heap.size rfl (u8s RO) rfl 43 HN7.out (hi43 RO GLRO.out) (one_u8s _) ?_; intro w8 hp8; have L8 : Below w7.heap.size w7 w8 := (hp8.below ((Below.refl _ _).alloc (Nat.le_refl _) _) (Nat.le_refl _)); have T8 := Lib.hid (blk_range hp8.blk); have DP8 := Lib.hid (DP7.out.below L8); have I8 := Lib.hid (I7.out.go L8); have RT8 : Hid (w8.rangeAt w2.heap.size 0 (u8s RO)) := Lib.hid (by rw [HRO.out]; exact I8.out.rt); have RP8 := Lib.hid (range_below RP7.out L8); clear hp8 L8) | (refine wpList_load_g rfl 43 (.tmp 10) rfl w7.heap.size 0 rfl (u8s RO) _ T8.out Tryd.underlying43 rfl (hi43 RO GLRO.out) ?_) | (refine wpList_load_g rfl 43 (.tmp 3) rfl w2.heap.size 0 rfl (u8s RO) _ RT8.out Tryd.underlying43 rfl (hi43 RO GLRO.out) ?_))
        have hqc : q = 0 ∨ q = 1 := by have := HQ2.out; omega
        have hi0 : 1 ≤ i := by omega
        have rl8 : w8.rangeAt w3.heap.size (q * 16) (u8s QQ) := by
          rw [HQQ.out]
          rcases hqc with rfl | rfl
          · exact I8.out.q1 hi0
          · exact I8.out.q0 (by have := HQ.out; omega)
        have RPB := Lib.hid RP8.out
        have RLB := Lib.hid rl8
        have IB : Hid (AlI w w2.heap.size w3.heap.size ds (i + 1) w8) := Lib.hid ⟨I8.out.th, fun _ => I8.out.q1 hi0, fun h17 => I8.out.q0 (by have := HQ.out; omega), I8.out.rt, I8.out.bel⟩
        clear rl8 RT8 T8 I8 RP8
        try go_wp2_with fail
        refine wp_region_rely (by kernel_rfl) 8 (by kernel_rfl) (by kernel_rfl) Ext Ext.refl Ext.trans (fun ix => match ix with
          | 0 => fun _ v => v = .slice (some ⟨bp, 0, none⟩) 5 cp
          | 1 => fun _ v => v = .pointer (some ⟨bp, 64, none⟩)
          | 2 => fun _ v => v = .agg (u8s QQ).toArray
          | 3 => fun _ v => v = .int .i64 (i : Int)
          | 4 => fun _ v => v = .int .i64 (q : Int)
          | 5 => fun _ v => v = .pointer (some ⟨w3.heap.size, q * 16, none⟩)
          | 6 => fun _ v => v = .agg (u8s QQ).toArray
          | 7 => fun _ v => v = .bool false
          | _ => fun _ _ => False) ?_
        simp (maxSteps := 10000000) only [Rely, List.take_succ_cons, List.take_zero, List.drop_succ_cons, List.drop_zero, Nat.reduceAdd, Nat.zero_add, Act.put, List.setIfInBounds_toArray, List.set_cons_succ, List.set_cons_zero]
        refine ⟨?_, ?_, ?_, ?_, ?_, ?_, ?_, ?_, ?_⟩
        · refine step_plain rfl fun vs wq hE hd => ?_
          exact gives_move _ (.slice (some ⟨bp, 0, none⟩) 5 cp) (.inl rfl) rfl ⟨Ext.refl _, fun _ _ => rfl⟩
        · refine step_plain rfl fun vs wq hE hd => ?_
          exact gives_indexAt 55 _ _ rfl (.slice (some ⟨bp, 0, none⟩) 5 cp) (Value.int IntKind.i64 4) (.pointer (some ⟨bp, 64, none⟩)) (show vs 0 = _ from hd.1) rfl (by go_simp) ⟨Ext.refl _, fun _ _ => rfl⟩
        · refine step_plain rfl fun vs wq hE hd => ?_
          exact gives_load_row 43 _ rfl bp 64 (show vs 1 = _ from (hd.1)) (u8s QQ) _ (range_below RPB.out (ext_of_drew hE)) Tryd.underlying43 rfl (hi43 QQ GLQQ.out) ⟨Ext.refl _, fun _ _ => rfl⟩
        · refine step_plain rfl fun vs wq hE hd => ?_
          exact gives_move _ (.int .i64 (i : Int)) (.inl rfl) rfl ⟨Ext.refl _, fun _ _ => rfl⟩
        · refine step_plain rfl fun vs wq hE hd => ?_
          exact gives_binOp .quo 3 _ _ _ rfl (.int .i64 (i : Int)) (.int .i64 16) (.int .i64 (q : Int)) (show vs 3 = _ from (hd.1)) rfl (by go_simp) (by have hx := HQ.out; have h2 := HQ2.out; have hw : IntKind.i64.wrap (q : Int) = q := (by rw [IntKind.wrap_i64]; omega); go_simp) ⟨Ext.refl _, fun _ _ => rfl⟩
        · refine step_plain rfl fun vs wq hE hd => ?_
          exact gives_indexAt 73 _ _ rfl (.pointer (some ⟨w3.heap.size, 0, none⟩)) (.int .i64 (q : Int)) (.pointer (some ⟨w3.heap.size, q * 16, none⟩)) rfl (show vs 4 = _ from (hd.1)) (by have hq := HQ2.out; go_simp) ⟨Ext.refl _, fun _ _ => rfl⟩
        · refine step_plain rfl fun vs wq hE hd => ?_
          exact gives_load_row 43 _ rfl w3.heap.size (q * 16) (show vs 5 = _ from (hd.1)) (u8s QQ) _ (range_below RLB.out (ext_of_drew hE)) Tryd.underlying43 rfl (hi43 QQ GLQQ.out) ⟨Ext.refl _, fun _ _ => rfl⟩
        · refine step_plain rfl fun vs wq hE hd => ?_
          have hsame := run_same16 QQ GLQQ.out
          exact gives_binOp .neq 43 _ _ _ rfl (.agg (u8s QQ).toArray) (.agg (u8s QQ).toArray) (.bool false) (show vs 2 = _ from (hd.1)) (show vs 6 = _ from (hd.2.1)) (by go_simp) (by go_simp) ⟨Ext.refl _, fun _ _ => rfl⟩
        · intro vs wz hE hR
          have h7 : vs 7 = .bool false := hR 7 (by omega)
          have IZ := Lib.hid (IB.out.go (ext_of_drew hE))
          rw [h7]
          clear hR hE h7
          go_wp2
          go_roundw
          case rel => exact ⟨i + 1, by omega, by go_num, IZ⟩
          case measure => simp [intOf]; omega
    · obtain rfl : i = 32 := by omega
      have R0 := Lib.hid (hin.out.q0 (by omega))
      have R1 := Lib.hid (hin.out.q1 (by omega))
      have RT : Hid (wr.rangeAt w2.heap.size 0 (u8s RO)) := Lib.hid (by rw [HRO.out]; exact hin.out.rt)
      have BR := Lib.hid hin.out.bel
      have hjr := root_join ds HDS.out
      rw [← HRO.out] at hjr
      obtain ⟨Q0, hQ0⟩ : ∃ d, d = (lev joinC ds 4).getD 0 [] := ⟨_, rfl⟩
      obtain ⟨Q1, hQ1⟩ : ∃ d, d = (lev joinC ds 4).getD 1 [] := ⟨_, rfl⟩
      rw [← hQ0] at R0 GQ0 hjr
      rw [← hQ1] at R1 GQ1 hjr
      have GLQ0 := Lib.hid GQ0.out.1
      have GOQ0 := Lib.hid GQ0.out.2
      have GLQ1 := Lib.hid GQ1.out.1
      have GOQ1 := Lib.hid GQ1.out.2
      have HJR := Lib.hid hjr
      clear hin hQ0 hQ1 hjr
      go_wp2_with fail
      refine wp_region_rely (by kernel_rfl) 7 (by kernel_rfl) (by kernel_rfl) Ext Ext.refl Ext.trans (fun ix => match ix with
        | 0 => fun _ v => v = .pointer (some ⟨w3.heap.size, 16, none⟩)
        | 1 => fun _ v => v = .agg (u8s Q0).toArray
        | 2 => fun _ v => v = .pointer (some ⟨w3.heap.size, 0, none⟩)
        | 3 => fun _ v => v = .agg (u8s Q1).toArray
        | 4 => fun _ v => v = .agg (u8s RO).toArray
        | 5 => fun _ v => v = .agg (u8s RO).toArray
        | 6 => fun _ v => v = .bool true
        | _ => fun _ _ => False) ?_
      simp (maxSteps := 10000000) only [Rely, List.take_succ_cons, List.take_zero, List.drop_succ_cons, List.drop_zero, Nat.reduceAdd, Nat.zero_add, Act.put, List.setIfInBounds_toArray, List.set_cons_succ, List.set_cons_zero]
      refine ⟨?_, ?_, ?_, ?_, ?_, ?_, ?_, ?_⟩
      · refine step_plain rfl fun vs wq hE hd => ?_
        exact gives_indexAt 73 _ _ rfl (.pointer (some ⟨w3.heap.size, 0, none⟩)) (Value.int IntKind.i64 1) (.pointer (some ⟨w3.heap.size, 16, none⟩)) rfl rfl (by go_simp) ⟨Ext.refl _, fun _ _ => rfl⟩
      · refine step_plain rfl fun vs wq hE hd => ?_
        exact gives_load_row 43 _ rfl w3.heap.size 16 (show vs 0 = _ from (hd.1)) (u8s Q0) _ (range_below R0.out (ext_of_drew hE)) Tryd.underlying43 rfl (hi43 Q0 GLQ0.out) ⟨Ext.refl _, fun _ _ => rfl⟩
      · refine step_plain rfl fun vs wq hE hd => ?_
        exact gives_indexAt 73 _ _ rfl (.pointer (some ⟨w3.heap.size, 0, none⟩)) (Value.int IntKind.i64 0) (.pointer (some ⟨w3.heap.size, 0, none⟩)) rfl rfl (by go_simp) ⟨Ext.refl _, fun _ _ => rfl⟩
      · refine step_plain rfl fun vs wq hE hd => ?_
        exact gives_load_row 43 _ rfl w3.heap.size 0 (show vs 2 = _ from (hd.1)) (u8s Q1) _ (range_below R1.out (ext_of_drew hE)) Tryd.underlying43 rfl (hi43 Q1 GLQ1.out) ⟨Ext.refl _, fun _ _ => rfl⟩
      · refine step_plain rfl fun vs wq hE hd => ?_
        refine gives_call 54 (enters_of Tryd.func54 (by kernel_rfl) rfl) _ _ rfl rfl [.agg (u8s Q0).toArray, .agg (u8s Q1).toArray] ?_ ?_
        · show [vs 1, vs 3] = _
          rw [show vs 1 = _ from (hd.1), show vs 3 = _ from (hd.2.1)]
        · have hbq := BR.out.trans ((ext_of_drew hE).mono BR.out.size)
          refine (join_any Q0 Q1 GLQ0.out GOQ0.out GLQ1.out GOQ1.out wq (range_below HK.out hbq) (Nat.lt_of_lt_of_le h18 hbq.size)).mono ?_
          rintro _ w'' ⟨rfl, hb⟩
          exact ⟨_, rfl, hb, fun _ _ => by rw [HJR.out]; rfl⟩
      · refine step_plain rfl fun vs wq hE hd => ?_
        exact gives_load_row 43 _ rfl w2.heap.size 0 rfl (u8s RO) _ (range_below RT.out (ext_of_drew hE)) Tryd.underlying43 rfl (hi43 RO GLRO.out) ⟨Ext.refl _, fun _ _ => rfl⟩
      · refine step_plain rfl fun vs wq hE hd => ?_
        have hsame := run_same16 RO GLRO.out
        exact gives_binOp .eql 43 _ _ _ rfl (.agg (u8s RO).toArray) (.agg (u8s RO).toArray) (.bool true) (show vs 4 = _ from (hd.1)) (show vs 5 = _ from (hd.2.1)) (by go_simp) (by go_simp) ⟨Ext.refl _, fun _ _ => rfl⟩
      · intro vs wz hE hR
        have h6 : vs 6 = .bool true := hR 6 (by omega)
        have HB := Lib.hid (BR.out.trans ((ext_of_drew hE).mono BR.out.size))
        rw [h6]
        clear hR hE h6
        go_wp2
        go_ret
        exact ⟨rfl, HB.out⟩
end Go.Proofs.YtdedphhohiioiaaDoor
