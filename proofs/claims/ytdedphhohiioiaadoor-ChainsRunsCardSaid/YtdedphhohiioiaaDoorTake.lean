/- What the method take of hash's state does. -/
import Derived.Test.YtdedphhohiioiaaDoorSched
namespace Go.Proofs.YtdedphhohiioiaaDoor
open Go.RowKit

theorem Tryd.size103 : (Tryd.prog.info? 103).map (·.size) = some 1 := by kernel_rfl
theorem Tryd.size105 : (Tryd.prog.info? 105).map (·.size) = some 8 := by kernel_rfl

set_option maxHeartbeats 4000000 in
set_option maxRecDepth 100000 in
theorem take_any (s : St) (hs : s.ok) (rest : List Value) (T hb : Nat) (bs : List Int) (hbs : ∀ b ∈ bs, B8 b) (b off n c : Nat) (hn : 64 ≤ n) (hn2 : n ≤ 9223372036854775807) (w : World)
    (hblk : w.heap[hb]? = some (.cells (u32s s.list ++ rest).toArray T (0, 0))) (hk : w.rangeAt 18 0 (u32s kk))
    (hc : ∀ j, j < 64 → w.cell? ⟨b, off + j, none⟩ = some (.int .u8 (bs.getD j 0))) :
    Calls Tryd.prog 74 #[.pointer (some ⟨hb, 0, none⟩), .slice (some ⟨b, off, none⟩) n c] w fun e w' => e = .returned (.tuple #[]) ∧
      w'.heap[hb]? = some (.cells (u32s (s.comp bs).list ++ rest).toArray T (0, 0)) ∧ w.grownBy w' (some hb) := by
  obtain ⟨sa, sb, sc, sd, se, sf, sg, sh⟩ := s
  obtain ⟨ra, rb, rc, rd, re, rf, rg, rh⟩ := hs
  have HC := Lib.hid hc
  have HB := Lib.hid hblk
  have HK := Lib.hid hk
  clear hc hblk hk
  go_enter Tryd.func74, Tryd.ntmps74
  go_wp2_with fail
  refine (sched_any bs hbs b off n c hn hn2 _ HC.out).mono ?_
  rintro e w1 ⟨ws, HW, hwl, hwr, rfl, hb1⟩
  have hi : (Tryd.prog.info? 104).map (·.size) = some (u32s ws).length := by rw [u32s_len, hwl]; exact Tryd.size104
  have hone : ∀ v ∈ u32s ws, v.oneCell' = true := by
    intro v hv
    obtain ⟨x, _, rfl⟩ := List.mem_map.1 hv
    rfl
  have hhas : ∀ o : Array Value, o.size = 64 → Has (w1.alloc (.cells o 104)) w1.heap.size 104 (u32s ws).length := fun o ho => ⟨o, by rw [u32s_len, hwl, ho], heap_alloc_new w1 _⟩
  have HI := Lib.hid hi
  have HO := Lib.hid hone
  have HH := Lib.hid hhas
  have HR := Lib.hid hwr
  have HL := Lib.hid hwl
  clear hi hone hhas hwr hwl
  go_wp2_with (refine wpList_store_row rfl 104 (.tmp 4) (.tmp 21) rfl w1.heap.size rfl (u32s ws) rfl 104 (HH.out _ rfl) HI.out HO.out ?_; intro w2 hp)
  have hlt : hb < w.heap.size := blk_lt HB.out
  have hb2 : w2.heap[hb]? = some (.cells (u32s (St.list ⟨sa, sb, sc, sd, se, sf, sg, sh⟩) ++ rest).toArray T (0, 0)) := by
    rw [hp.other hb (by have := hb1.size; omega), Below.heap_alloc w1 _ hb (by have := hb1.size; omega)]
    exact blk_below HB.out hb1
  have c0 : w2.cell? ⟨hb, 0, none⟩ = some (.int .u32 sa) := blk_cell hb2 0 _ rfl
  have c1 : w2.cell? ⟨hb, 1, none⟩ = some (.int .u32 sb) := blk_cell hb2 1 _ rfl
  have c2 : w2.cell? ⟨hb, 2, none⟩ = some (.int .u32 sc) := blk_cell hb2 2 _ rfl
  have c3 : w2.cell? ⟨hb, 3, none⟩ = some (.int .u32 sd) := blk_cell hb2 3 _ rfl
  have c4 : w2.cell? ⟨hb, 4, none⟩ = some (.int .u32 se) := blk_cell hb2 4 _ rfl
  have c5 : w2.cell? ⟨hb, 5, none⟩ = some (.int .u32 sf) := blk_cell hb2 5 _ rfl
  have c6 : w2.cell? ⟨hb, 6, none⟩ = some (.int .u32 sg) := blk_cell hb2 6 _ rfl
  have c7 : w2.cell? ⟨hb, 7, none⟩ = some (.int .u32 sh) := blk_cell hb2 7 _ rfl
  have HB2 := Lib.hid hb2
  have hbl2 : Below w.heap.size w w2 := hp.below (hb1.alloc hb1.size _) hb1.size
  have HP := Lib.hid hp.blk
  have hP1 : w.heap.size ≤ w1.heap.size := hb1.size
  have hP2 : w1.heap.size < w2.heap.size := by rw [hp.size]; simp
  clear hb2 hp hb1
  unfold U at ra rb rc rd re rf rg rh
  go_quiet (fail)
  go_wp2_with fail
  go_quiet (fail)
  generalize hwq : w2.drewN _ = wq
  have HP2 : Hid (wq.heap[w1.heap.size]? = some (.cells (u32s ws).toArray 104 (0, 0))) := by rw [← hwq]; exact HP.out
  have HB3 : Hid (wq.heap[hb]? = some (.cells (u32s (St.list ⟨sa, sb, sc, sd, se, sf, sg, sh⟩) ++ rest).toArray T (0, 0))) := by rw [← hwq]; exact HB2.out
  have hbq : Below w.heap.size w wq := by rw [← hwq]; exact hbl2.trans ⟨rfl, rfl, rfl, Nat.le_refl _, fun _ _ => rfl⟩
  clear hwq hbl2 HB2 HP c0 c1 c2 c3 c4 c5 c6 c7
  go_wp2
  have HQ18 : Hid (wq.rangeAt 18 0 (u32s kk)) := range_below HK.out hbq
  go_loopw [5, 6, 7, 8, 9, 10, 11, 12, 13, 14, 15, 16, 17, 54] (fun va vc ve vg vb vd vf vh _ _ _ _ _ i wr => ∃ (k m : Nat) (pa pb pc pd pe pf pg ph : Int), k ≤ 64 ∧ i = .int .i64 k ∧ va = .int .u32 pa ∧ vb = .int .u32 pb ∧ vc = .int .u32 pc ∧ vd = .int .u32 pd ∧ ve = .int .u32 pe ∧ vf = .int .u32 pf ∧ vg = .int .u32 pg ∧ vh = .int .u32 ph ∧ wr = wq.drewN m ∧ (⟨pa, pb, pc, pd, pe, pf, pg, ph⟩ : St) = (⟨sa, sb, sc, sd, se, sf, sg, sh⟩ : St).rnds ws k)
    (fun _ _ _ _ _ _ _ _ _ _ _ _ _ i _ => 64 - (intOf i).toNat)
  case atStart => exact ⟨0, _, sa, sb, sc, sd, se, sf, sg, sh, by omega, rfl, rfl, rfl, rfl, rfl, rfl, rfl, rfl, rfl, rfl, rfl⟩
  case round =>
    obtain ⟨k, m, pa, pb, pc, pd, pe, pf, pg, ph, hk, rfl, rfl, rfl, rfl, rfl, rfl, rfl, rfl, rfl, rfl, hst⟩ := hrel
    obtain ⟨qa, qb, qc, qd, qe, qf, qg, qh⟩ : St.ok ⟨pa, pb, pc, pd, pe, pf, pg, ph⟩ := by rw [hst]; exact St.rnds_ok ⟨ra, rb, rc, rd, re, rf, rg, rh⟩ ws k
    have HS := Lib.hid hst
    clear hst
    by_cases hlt : k < 64
    · obtain ⟨kv, hkv⟩ : ∃ v, v = kk.getD k 0 := ⟨_, rfl⟩
      obtain ⟨wv, hwv⟩ : ∃ v, v = ws.getD k 0 := ⟨_, rfl⟩
      have rk : U kv := hkv ▸ getD_range kk_range k
      have rw_ : U wv := hwv ▸ getD_range HR.out k
      have ck : wq.cell? ⟨18, k, none⟩ = some (.int .u32 kv) := by
        have h := HQ18.out k (.int .u32 kv) (by rw [hkv]; simp [u32s, List.getD_eq_getElem?_getD, show k < kk.length by rw [kk_len]; exact hlt])
        rwa [Nat.zero_add] at h
      have cw : wq.cell? ⟨w1.heap.size, k, none⟩ = some (.int .u32 wv) := blk_cell HP2.out k _ (by have := HL.out; rw [hwv]; simp [u32s, List.getD_eq_getElem?_getD, show k < ws.length by omega])
      have HKV := Lib.hid hkv
      have HWV := Lib.hid hwv
      clear hkv hwv
      unfold U at qa qb qc qd qe qf qg qh rk rw_
      have k0 : 0 ≤ (k : Int) := by omega
      have k1 : (k : Int) < 64 := by omega
      go_wp2_with (go_at_call 90; first | ((with_reducible refine (rotl_6 _ (by omega) (by omega) _).mono ?_); rintro e w' ⟨rfl, rfl⟩) | ((with_reducible refine (rotl_11 _ (by omega) (by omega) _).mono ?_); rintro e w' ⟨rfl, rfl⟩) | ((with_reducible refine (rotl_25 _ (by omega) (by omega) _).mono ?_); rintro e w' ⟨rfl, rfl⟩))
      go_quiet (fail)
      go_wp2_with (go_at_call 90; first | ((with_reducible refine (rotl_2 _ (by omega) (by omega) _).mono ?_); rintro e w' ⟨rfl, rfl⟩) | ((with_reducible refine (rotl_13 _ (by omega) (by omega) _).mono ?_); rintro e w' ⟨rfl, rfl⟩) | ((with_reducible refine (rotl_22 _ (by omega) (by omega) _).mono ?_); rintro e w' ⟨rfl, rfl⟩))
      go_roundw
      case rel =>
        refine ⟨k + 1, _, _, _, _, _, _, _, _, _, by omega, by go_num, rfl, rfl, rfl, rfl, rfl, rfl, rfl, rfl, rfl, ?_⟩
        rw [St.rnds, ← HS.out, ← HKV.out, ← HWV.out]
        rfl
      case measure => simp [intOf]; omega
    · have hk64 : k = 64 := by omega
      have hg0 : w.grownBy (wq.drewN m) (some hb) := ⟨hbq.os, hbq.tape, hbq.output, hbq.size, fun j hj _ => hbq.block j hj⟩
      have H64 := Lib.hid hk64
      clear hk64
      go_wp2
      clear hlt hk
      obtain ⟨wo, hwo⟩ : ∃ wo : World, wo = wq.drewN m := ⟨_, rfl⟩
      rw [← hwo] at hg0 ⊢
      have HB4 : Hid (wo.heap[hb]? = some (.cells (u32s (St.list ⟨sa, sb, sc, sd, se, sf, sg, sh⟩) ++ rest).toArray T (0, 0))) := by rw [hwo]; exact HB3.out
      clear hwo
      obtain ⟨xs, hxs⟩ : ∃ xs, xs = St.list ⟨sa, sb, sc, sd, se, sf, sg, sh⟩ := ⟨_, rfl⟩
      obtain ⟨vs, hvs⟩ : ∃ vs, vs = St.list ⟨pa, pb, pc, pd, pe, pf, pg, ph⟩ := ⟨_, rfl⟩
      obtain ⟨ys, hys⟩ : ∃ ys, ys = (St.add ⟨sa, sb, sc, sd, se, sf, sg, sh⟩ ⟨pa, pb, pc, pd, pe, pf, pg, ph⟩).list := ⟨_, rfl⟩
      have xl : xs.length = 8 := by rw [hxs]; rfl
      have yl : ys.length = 8 := by rw [hys]; rfl
      have xr : ∀ x ∈ xs, U x := by rw [hxs]; exact St.list_ok ⟨ra, rb, rc, rd, re, rf, rg, rh⟩
      have vr : ∀ x ∈ vs, U x := by rw [hvs]; exact St.list_ok ⟨qa, qb, qc, qd, qe, qf, qg, qh⟩
      have yat : ∀ j, j < 8 → ys.getD j 0 = (xs.getD j 0 + vs.getD j 0) % 4294967296 := fun j hj => by rw [hys, hxs, hvs]; exact St.add_at _ _ j hj
      have hagg : Value.agg #[.int .u32 pa, .int .u32 pb, .int .u32 pc, .int .u32 pd, .int .u32 pe, .int .u32 pf, .int .u32 pg, .int .u32 ph] = .agg (u32s vs).toArray := by rw [hvs]; rfl
      rw [hagg]
      have vl : vs.length = 8 := by rw [hvs]; rfl
      have HB5 : Hid (wo.heap[hb]? = some (.cells (u32s xs ++ rest).toArray T (0, 0))) := by rw [hxs]; exact HB4.out
      have HYS := Lib.hid hys
      have XL := Lib.hid xl
      have YL := Lib.hid yl
      have VL := Lib.hid vl
      have YA := Lib.hid yat
      have XR := Lib.hid xr
      have VR := Lib.hid vr
      clear hxs hvs hys xl yl vl yat xr vr hagg HB4 HB3 HP2 HQ18 hbq
      go_loopw [18, 19, 128] (fun _ _ i wr => ∃ j : Nat, j ≤ 8 ∧ i = .int .i64 j ∧ wr.heap[hb]? = some (.cells (u32s (over xs ys j) ++ rest).toArray T (0, 0)) ∧ w.grownBy wr (some hb))
        (fun _ _ i _ => 8 - (intOf i).toNat)
      case atStart => exact ⟨0, by omega, rfl, by rw [over_zero]; exact HB5.out, hg0⟩
      case round =>
        obtain ⟨j, hj, rfl, hblk, hg⟩ := hrel
        by_cases hlt : j < 8
        · obtain ⟨xv, hxv⟩ : ∃ v, v = xs.getD j 0 := ⟨_, rfl⟩
          obtain ⟨vv, hvv⟩ : ∃ v, v = vs.getD j 0 := ⟨_, rfl⟩
          have rx : U xv := hxv ▸ getD_range XR.out j
          have rv : U vv := hvv ▸ getD_range VR.out j
          have hiv : (u32s vs).toArray[(j : Int).toNat]? = some (.int .u32 vv) := by
            have := VL.out
            simp [u32s, hvv, List.getD_eq_getElem?_getD, show j < vs.length by omega]
          have ol := over_len xs ys j 8 XL.out YL.out hj
          have cx : wr.cell? ⟨hb, j, none⟩ = some (.int .u32 xv) := by
            refine blk_cell hblk j _ ?_
            rw [List.getElem?_append_left (by rw [u32s_len]; omega), hxv, ← over_at xs ys j 8 XL.out YL.out hlt]
            simp [u32s, List.getD_eq_getElem?_getD, show j < (over xs ys j).length by omega]
          have fx : wr.frozen? ⟨hb, j, none⟩ = false := blk_free hblk j
          have hy : ys.getD j 0 = (xv + vv) % 4294967296 := by rw [YA.out j hlt, hxv, hvv]
          have HIV := Lib.hid hiv
          have HY := Lib.hid hy
          have HBL := Lib.hid hblk
          have OL := Lib.hid ol
          clear hxv hvv hiv hy hblk ol
          unfold U at rx rv
          have j0 : 0 ≤ (j : Int) := by omega
          have j1 : (j : Int) < 8 := by omega
          go_wp2_with (refine wpList_index_arr rfl 105 103 8 (.tmp 127) (.tmp 128) rfl (u32s vs).toArray .i64 j (.int .u32 vv) rfl rfl Tryd.underlying105 _ Tryd.underlying103 rfl Tryd.size103 (by omega) (by omega) HIV.out ?_)
          go_still_tail 8, (by kernel_rfl)
          change wpList _ _ _ _ _ wr.drew
          have cx2 : wr.drew.cell? ⟨hb, j, none⟩ = some (.int .u32 xv) := cx
          have fx2 : wr.drew.frozen? ⟨hb, j, none⟩ = false := fx
          go_wp2
          go_roundw
          case rel =>
            refine ⟨j + 1, by omega, by go_num, ?_, ?_⟩
            · have h := blk_set (w := wr.drew) HBL.out j (.int .u32 ((xv + vv) % 4294967296))
              rw [List.set_append_left _ _ (by rw [u32s_len, OL.out]; omega)] at h
              have e : (u32s (over xs ys j)).set j (.int .u32 ((xv + vv) % 4294967296)) = u32s (over xs ys (j + 1)) := by
                rw [← HY.out, ← over_set xs ys j 8 XL.out YL.out hlt, u32s, u32s, List.map_set]
              rw [e] at h
              exact h
            · exact World.grownBy.trans hg ⟨rfl, rfl, rfl, by simp, fun i hi hne => by
                have : i ≠ hb := fun e => hne (by rw [e])
                exact heap_setCell_other wr.drew ⟨hb, j, none⟩ i _ this⟩
          case measure => simp [intOf]; omega
        · have hj8 : j = 8 := by omega
          rw [hj8, over_all xs ys 8 XL.out YL.out] at hblk
          have HBL := Lib.hid hblk
          clear hblk hj8
          go_wp2
          go_end0
          refine ⟨rfl, ?_, hg⟩
          have hw := HW.out
          have hs := HS.out
          rw [H64.out, hw] at hs
          rw [St.comp, ← hs, ← HYS.out]
          exact HBL.out
end Go.Proofs.YtdedphhohiioiaaDoor
