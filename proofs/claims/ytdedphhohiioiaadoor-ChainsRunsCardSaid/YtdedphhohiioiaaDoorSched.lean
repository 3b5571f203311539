/- What hash.schedule does. -/
import Derived.Test.YtdedphhohiioiaaDoorSha
import Derived.StillTailTactics
import Derived.Deep.QuietTactic
import Derived.BigQuiet
import Derived.IntWalk
namespace Go.Proofs.YtdedphhohiioiaaDoor
open Go.RowKit

theorem Tryd.size104 : (Tryd.prog.info? 104).map (·.size) = some 64 := by kernel_rfl

set_option maxHeartbeats 4000000 in
set_option maxRecDepth 100000 in
theorem sched_any (bs : List Int) (hb : ∀ b ∈ bs, B8 b) (b off n c : Nat) (hn : 64 ≤ n) (hn2 : n ≤ 9223372036854775807) (w : World) (hc : ∀ j, j < 64 → w.cell? ⟨b, off + j, none⟩ = some (.int .u8 (bs.getD j 0))) :
    Calls Tryd.prog 89 #[.slice (some ⟨b, off, none⟩) n c] w fun e w' => ∃ ws, Hid (ws = sch bs) ∧ ws.length = 64 ∧ (∀ x ∈ ws, U x) ∧ e = .returned (.agg (u32s ws).toArray) ∧ Below w.heap.size w w' := by
  have HC := Lib.hid hc
  have hbb : b < w.heap.size := World.block_lt_of_cell? w _ (hc 0 (by omega))
  clear hc
  go_enter Tryd.func89, Tryd.ntmps89
  go_wp2
  go_loopw [4, 10] (fun _ i wr => ∃ k : Nat, k ≤ 16 ∧ i = .int .i64 k ∧ wr.heap[w.heap.size + 1]? = some (.cells (u32s (pad 64 (words bs k))).toArray 104 (0, 0)) ∧ Below w.heap.size w wr ∧ Has wr w.heap.size 104 64)
    (fun _ i _ => 16 - (intOf i).toNat)
  case atStart => exact ⟨0, by omega, rfl, heap_alloc2_new w _ _, ((Below.refl _ _).alloc (Nat.le_refl _) _).alloc (by simp) _, ⟨_, rfl, heap_alloc2_old w _ _⟩⟩
  case round =>
    obtain ⟨k, hk, rfl, hblk, hbl, hhas⟩ := hrel
    by_cases hlt : k < 16
    · obtain ⟨x0, hx0⟩ : ∃ x, x = bs.getD (4 * k) 0 := ⟨_, rfl⟩
      obtain ⟨x1, hx1⟩ : ∃ x, x = bs.getD (4 * k + 1) 0 := ⟨_, rfl⟩
      obtain ⟨x2, hx2⟩ : ∃ x, x = bs.getD (4 * k + 2) 0 := ⟨_, rfl⟩
      obtain ⟨x3, hx3⟩ : ∃ x, x = bs.getD (4 * k + 3) 0 := ⟨_, rfl⟩
      have r0 : B8 x0 := hx0 ▸ byte_at hb _
      have r1 : B8 x1 := hx1 ▸ byte_at hb _
      have r2 : B8 x2 := hx2 ▸ byte_at hb _
      have r3 : B8 x3 := hx3 ▸ byte_at hb _
      have c0 : wr.cell? ⟨b, off + 4 * k, none⟩ = some (.int .u8 x0) := by rw [hbl.cell (p := ⟨b, off + 4 * k, none⟩) hbb, HC.out (4 * k) (by omega), hx0]
      have c1 : wr.cell? ⟨b, off + (4 * k + 1), none⟩ = some (.int .u8 x1) := by rw [hbl.cell (p := ⟨b, off + (4 * k + 1), none⟩) hbb, HC.out (4 * k + 1) (by omega), hx1]
      have c2 : wr.cell? ⟨b, off + (4 * k + 2), none⟩ = some (.int .u8 x2) := by rw [hbl.cell (p := ⟨b, off + (4 * k + 2), none⟩) hbb, HC.out (4 * k + 2) (by omega), hx2]
      have c3 : wr.cell? ⟨b, off + (4 * k + 3), none⟩ = some (.int .u8 x3) := by rw [hbl.cell (p := ⟨b, off + (4 * k + 3), none⟩) hbb, HC.out (4 * k + 3) (by omega), hx3]
      unfold B8 at r0 r1 r2 r3
      have H0 := Lib.hid hx0
      have H1 := Lib.hid hx1
      have H2 := Lib.hid hx2
      have H3 := Lib.hid hx3
      have HK := Lib.hid hblk
      clear hx0 hx1 hx2 hx3 hblk
      have w0 : IntKind.i64.wrap (4 * (k : Int)) = 4 * k := IntWalk.i64_in _ (by omega)
      have w1 : IntKind.i64.wrap (4 * (k : Int) + 1) = 4 * k + 1 := IntWalk.i64_in _ (by omega)
      have w2 : IntKind.i64.wrap (4 * (k : Int) + 2) = 4 * k + 2 := IntWalk.i64_in _ (by omega)
      have w3 : IntKind.i64.wrap (4 * (k : Int) + 3) = 4 * k + 3 := IntWalk.i64_in _ (by omega)
      have t0 : (4 * (k : Int)).toNat = 4 * k := by omega
      have t1 : (4 * (k : Int) + 1).toNat = 4 * k + 1 := by omega
      have t2 : (4 * (k : Int) + 2).toNat = 4 * k + 2 := by omega
      have t3 : (4 * (k : Int) + 3).toNat = 4 * k + 3 := by omega
      have n0 : 0 ≤ 4 * (k : Int) := by omega
      have n1 : 0 ≤ 4 * (k : Int) + 1 := by omega
      have n2 : 0 ≤ 4 * (k : Int) + 2 := by omega
      have n3 : 0 ≤ 4 * (k : Int) + 3 := by omega
      have l0 : 4 * (k : Int) < n := by omega
      have l1 : 4 * (k : Int) + 1 < n := by omega
      have l2 : 4 * (k : Int) + 2 < n := by omega
      have l3 : 4 * (k : Int) + 3 < n := by omega
      go_wp2
      go_still_tail 34, (by kernel_rfl)
      rw [or_word x0 x1 x2 x3 ⟨r0.1, r0.2⟩ ⟨r1.1, r1.2⟩ ⟨r2.1, r2.2⟩ ⟨r3.1, r3.2⟩]
      change wpList _ _ _ _ _ wr.drew
      have hlen : (u32s (pad 64 (words bs k))).length = 64 := by rw [u32s_len, pad_len _ _ (by rw [words_len]; omega)]
      have d0 : wr.drew.cell? ⟨w.heap.size + 1, k, none⟩ = some (u32s (pad 64 (words bs k)))[k] := blk_cell (w := wr.drew) HK.out k _ (by simp)
      have d1 : wr.drew.frozen? ⟨w.heap.size + 1, k, none⟩ = false := blk_free (w := wr.drew) HK.out k
      clear w0 w1 w2 w3 t0 t1 t2 t3 n0 n1 n2 n3 l0 l1 l2 l3 c0 c1 c2 c3
      go_wp2
      go_roundw
      case rel =>
        have e : (u32s (pad 64 (words bs k))).set k (.int .u32 (word x0 x1 x2 x3)) = u32s (pad 64 (words bs (k + 1))) := by
          have h := pad_set 64 (words bs k) (wordAt bs k) (by rw [words_len]; omega)
          rw [words_len] at h
          rw [words_succ, ← h, wordAt, ← H0.out, ← H1.out, ← H2.out, ← H3.out, u32s, u32s, List.map_set]
        refine ⟨k + 1, by omega, by go_num, ?_, ?_, ?_⟩
        · have := blk_set (w := wr.drew) HK.out k (.int .u32 (word x0 x1 x2 x3))
          rw [e] at this
          exact this
        · exact hbl.drew.setCell (by simp) _
        · exact Has.setCell (w := wr.drew) hhas _ _
      case measure => simp [intOf]; omega
    · have hkk : k = 16 := by omega
      rw [hkk] at hblk
      clear hkk
      go_wp2
      clear hlt hk
      obtain ⟨wo, rfl⟩ : ∃ wo : World, wo = wr := ⟨_, rfl⟩
      go_loopw [5, 6, 7, 8, 9] (fun i _ _ _ _ wr => ∃ k : Nat, k ≤ 48 ∧ i = .int .i64 (16 + (k : Int)) ∧ wr.heap[w.heap.size + 1]? = some (.cells (u32s (pad 64 (sched bs k))).toArray 104 (0, 0)) ∧ Below w.heap.size w wr ∧ Has wr w.heap.size 104 64)
        (fun i _ _ _ _ _ => 64 - (intOf i).toNat)
      case atStart => exact ⟨0, by omega, rfl, hblk, hbl, hhas⟩
      case round =>
        obtain ⟨k, hk, rfl, hblk, hbl, hhas⟩ := hrel
        by_cases hlt : k < 48
        · have sl := sched_len bs k
          have sr := sched_range hb k
          obtain ⟨xa, hxa⟩ : ∃ x, x = (sched bs k).getD k 0 := ⟨_, rfl⟩
          obtain ⟨xb, hxb⟩ : ∃ x, x = (sched bs k).getD (k + 1) 0 := ⟨_, rfl⟩
          obtain ⟨xc, hxc⟩ : ∃ x, x = (sched bs k).getD (k + 9) 0 := ⟨_, rfl⟩
          obtain ⟨xd, hxd⟩ : ∃ x, x = (sched bs k).getD (k + 14) 0 := ⟨_, rfl⟩
          have ra : U xa := hxa ▸ getD_range sr _
          have rb : U xb := hxb ▸ getD_range sr _
          have rc : U xc := hxc ▸ getD_range sr _
          have rd : U xd := hxd ▸ getD_range sr _
          have at_ : ∀ j, j < 16 + k → wr.cell? ⟨w.heap.size + 1, j, none⟩ = some (.int .u32 ((sched bs k).getD j 0)) := fun j hj => by
            refine blk_cell hblk j _ ?_
            rw [← pad_getD 64 (sched bs k) j (by omega)]
            have hpl := pad_len 64 (sched bs k) (by omega)
            simp [u32s, List.getD_eq_getElem?_getD, show j < (pad 64 (sched bs k)).length by omega]
          have ca : wr.cell? ⟨w.heap.size + 1, k, none⟩ = some (.int .u32 xa) := by rw [at_ k (by omega), hxa]
          have cb : wr.cell? ⟨w.heap.size + 1, k + 1, none⟩ = some (.int .u32 xb) := by rw [at_ (k + 1) (by omega), hxb]
          have cc : wr.cell? ⟨w.heap.size + 1, k + 9, none⟩ = some (.int .u32 xc) := by rw [at_ (k + 9) (by omega), hxc]
          have cd : wr.cell? ⟨w.heap.size + 1, k + 14, none⟩ = some (.int .u32 xd) := by rw [at_ (k + 14) (by omega), hxd]
          have hpl : (u32s (pad 64 (sched bs k))).length = 64 := by rw [u32s_len, pad_len _ _ (by omega)]
          obtain ⟨z0, d0⟩ : ∃ z, wr.cell? ⟨w.heap.size + 1, 16 + k, none⟩ = some z := ⟨_, blk_cell hblk (16 + k) (u32s (pad 64 (sched bs k)))[16 + k] (by simp)⟩
          have d1 : wr.frozen? ⟨w.heap.size + 1, 16 + k, none⟩ = false := blk_free hblk (16 + k)
          have HA := Lib.hid hxa
          have HB := Lib.hid hxb
          have HC' := Lib.hid hxc
          have HD := Lib.hid hxd
          have HK := Lib.hid hblk
          have SL := Lib.hid sl
          clear hxa hxb hxc hxd hblk at_ sl sr hpl
          unfold U at ra rb rc rd
          have e1 : IntKind.i64.wrap (16 + (k : Int) - 15) = k + 1 := (IntWalk.i64_in _ (by omega)).trans (by omega)
          have e2 : IntKind.i64.wrap (16 + (k : Int) - 2) = k + 14 := (IntWalk.i64_in _ (by omega)).trans (by omega)
          have e3 : IntKind.i64.wrap (16 + (k : Int) - 16) = k := (IntWalk.i64_in _ (by omega)).trans (by omega)
          have e4 : IntKind.i64.wrap (16 + (k : Int) - 7) = k + 9 := (IntWalk.i64_in _ (by omega)).trans (by omega)
          have n1 : 0 ≤ (k : Int) + 1 := by omega
          have n2 : 0 ≤ (k : Int) + 14 := by omega
          have n3 : 0 ≤ (k : Int) := by omega
          have n4 : 0 ≤ (k : Int) + 9 := by omega
          have t1 : ((k : Int) + 1).toNat = k + 1 := by omega
          have t2 : ((k : Int) + 14).toNat = k + 14 := by omega
          have t4 : ((k : Int) + 9).toNat = k + 9 := by omega
          have t5 : (16 + (k : Int)).toNat = 16 + k := by omega
          have l1 : (k : Int) + 1 < 64 := by omega
          have l2 : (k : Int) + 14 < 64 := by omega
          have l3 : (k : Int) < 64 := by omega
          have l4 : (k : Int) + 9 < 64 := by omega
          go_wp2_with fail
          go_quiet (fail)
          generalize hwq : wr.drewN _ = wq
          have qa : wq.cell? ⟨w.heap.size + 1, k, none⟩ = some (.int .u32 xa) := by rw [← hwq]; exact ca
          have qc : wq.cell? ⟨w.heap.size + 1, k + 9, none⟩ = some (.int .u32 xc) := by rw [← hwq]; exact cc
          have q0 : wq.cell? ⟨w.heap.size + 1, 16 + k, none⟩ = some z0 := by rw [← hwq]; exact d0
          have q1 : wq.frozen? ⟨w.heap.size + 1, 16 + k, none⟩ = false := by rw [← hwq]; exact d1
          have QK : Hid (wq.heap[w.heap.size + 1]? = some (.cells (u32s (pad 64 (sched bs k))).toArray 104 (0, 0))) := by rw [← hwq]; exact HK.out
          have qb : Below w.heap.size w wq := by rw [← hwq]; exact hbl.trans ⟨rfl, rfl, rfl, Nat.le_refl _, fun _ _ => rfl⟩
          have qh : Has wq w.heap.size 104 64 := by rw [← hwq]; exact hhas
          clear hwq ca cb cc cd d0 d1 HK hbl
          go_wp2_with (go_at_call 90; first | ((with_reducible refine (rotl_7 _ (by omega) (by omega) _).mono ?_); rintro e w' ⟨rfl, rfl⟩) | ((with_reducible refine (rotl_18 _ (by omega) (by omega) _).mono ?_); rintro e w' ⟨rfl, rfl⟩) | ((with_reducible refine (rotl_17 _ (by omega) (by omega) _).mono ?_); rintro e w' ⟨rfl, rfl⟩) | ((with_reducible refine (rotl_19 _ (by omega) (by omega) _).mono ?_); rintro e w' ⟨rfl, rfl⟩))
          go_still_tail 14, (by kernel_rfl)
          change wpList _ _ _ _ _ wq.drew
          have p0 : wq.drew.cell? ⟨w.heap.size + 1, 16 + k, none⟩ = some z0 := q0
          have p1 : wq.drew.frozen? ⟨w.heap.size + 1, 16 + k, none⟩ = false := q1
          go_wp2
          go_roundw
          case rel =>
            have e : (u32s (pad 64 (sched bs k))).set (16 + k) (.int .u32 (nextW (sched bs k) (16 + k))) = u32s (pad 64 (sched bs (k + 1))) := by
              have h := pad_set 64 (sched bs k) (nextW (sched bs k) (16 + k)) (by rw [SL.out]; omega)
              rw [SL.out] at h
              rw [sched, ← h, u32s, u32s, List.map_set]
            refine ⟨k + 1, by omega, by go_num, ?_, ?_, ?_⟩
            · have := blk_set (w := wq.drew) QK.out (16 + k) (.int .u32 (nextW (sched bs k) (16 + k)))
              rw [e] at this
              have hn : nextW (sched bs k) (16 + k) = (xa + sg0 xb + xc + sg1 xd) % 4294967296 := by
                rw [nextW, show 16 + k - 16 = k by omega, show 16 + k - 15 = k + 1 by omega, show 16 + k - 7 = k + 9 by omega, show 16 + k - 2 = k + 14 by omega, HA.out, HB.out, HC'.out, HD.out]
              rw [hn] at this
              exact this
            · exact qb.drew.setCell (by simp) _
            · exact Has.setCell (w := wq.drew) qh _ _
          case measure => simp [intOf]; omega
        · have hk48 : k = 48 := by omega
          have hsl : (sched bs k).length = 64 := by rw [sched_len]; omega
          have hra : wr.rangeAt (w.heap.size + 1) 0 (u32s (sched bs k)) := fun j v hv => by
            rw [pad_full 64 _ hsl] at hblk
            rw [Nat.zero_add]
            exact blk_cell hblk j v hv
          have hi : (Tryd.prog.info? 104).map (·.size) = some (u32s (sched bs k)).length := by
            rw [u32s_len, hsl]; exact Tryd.size104
          have HR := Lib.hid hra
          have HI := Lib.hid hi
          have H48 := Lib.hid hk48
          clear hra hi hk48 hblk hsl
          have h64 : (u32s (sched bs k)).length = 64 := by rw [u32s_len, sched_len, H48.out]
          have hone : ∀ v ∈ u32s (sched bs k), v.oneCell' = true := by
            intro v hv
            obtain ⟨x, _, rfl⟩ := List.mem_map.1 hv
            rfl
          have H64 := Lib.hid h64
          have HO := Lib.hid hone
          clear h64 hone
          go_wp2_with (first | (refine wpList_load_g rfl 104 (.tmp 3) rfl (w.heap.size + 1) 0 rfl (u32s (sched bs k)) _ HR.out Tryd.underlying104 rfl HI.out ?_) | (refine wpList_store_row rfl 104 (.tmp 2) (.tmp 92) rfl w.heap.size rfl (u32s (sched bs k)) rfl 104 (by rw [H64.out]; exact hhas) HI.out HO.out ?_; intro w1 hp))
          refine bodyPost_ret (v := .agg (u32s (sched bs k)).toArray) (results_cell_row rfl _ _ w.heap.size 104 _ (0, 0) _ rfl hp.blk Tryd.underlying104 rfl (by simpa using HI.out)) rfl ⟨_, (by rw [H48.out]; rfl : sched bs k = sch bs), by rw [sched_len, H48.out], sched_range hb k, rfl, hp.below hbl (Nat.le_refl _)⟩
end Go.Proofs.YtdedphhohiioiaaDoor
