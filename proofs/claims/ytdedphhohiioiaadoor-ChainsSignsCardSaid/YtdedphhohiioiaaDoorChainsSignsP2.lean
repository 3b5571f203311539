/- What ChainsSigns rests on, part 2 of 14: lemmas without conditions of their own. -/
import Derived.StillTailTactics
import Derived.Deep.QuietTactic
import Derived.BigQuiet
import Derived.IntWalk
import Derived.Test.YtdedphhohiioiaaDoorChainsSignsP1
/- What hash.schedule does. -/
namespace Go.Proofs.YtdedphhohiioiaaDoor
open Go.RowKit

theorem Tryd.size104 : (Tryd.prog.info? 104).map (·.size) = some 64 := by kernel_rfl

set_option maxHeartbeats 4000000 in
set_option maxRecDepth 100000 in
theorem sched_any (bs : List Int) (hb : ∀ b ∈ bs, B8 b) (b off n c : Nat) (hn : 64 ≤ n) (hn2 : n ≤ 9223372036854775807) (w : World) (hc : ∀ j, j < 64 → w.cell? ⟨b, off + j, none⟩ = some (.int .u8 (bs.getD j 0))) :
    Calls Tryd.prog 89 #[.slice (some ⟨b, off, none⟩) n c] w fun e w' => ∃ ws, Hid (ws = sch bs) ∧ ws.length = 64 ∧ (∀ x ∈ ws, U x) ∧ e = .returned (.agg (u32s ws).toArray) ∧ Below w.heap.size w w' := by
  have HC := Lib.hid hc
  have hbb : b < w.heap.size := World.block_lt_of_cell? w _ (hc 0 (by omega))
  clear hc
  go_enter Tryd.func89, Tryd.ntmps89
  go_wp2
  go_loopw [4, 10] (fun _ i wr => ∃ k : Nat, k ≤ 16 ∧ i = .int .i64 k ∧ wr.heap[w.heap.size + 1]? = some (.cells (u32s (pad 64 (words bs k))).toArray 104 (0, 0)) ∧ Below w.heap.size w wr ∧ Has wr w.heap.size 104 64)
    (fun _ i _ => 16 - (intOf i).toNat)
  case atStart => exact ⟨0, by omega, rfl, heap_alloc2_new w _ _, ((Below.refl _ _).alloc (Nat.le_refl _) _).alloc (by simp) _, ⟨_, rfl, heap_alloc2_old w _ _⟩⟩
  case round =>
    obtain ⟨k, hk, rfl, hblk, hbl, hhas⟩ := hrel
    by_cases hlt : k < 16
    · obtain ⟨x0, hx0⟩ : ∃ x, x = bs.getD (4 * k) 0 := ⟨_, rfl⟩
      obtain ⟨x1, hx1⟩ : ∃ x, x = bs.getD (4 * k + 1) 0 := ⟨_, rfl⟩
      obtain ⟨x2, hx2⟩ : ∃ x, x = bs.getD (4 * k + 2) 0 := ⟨_, rfl⟩
      obtain ⟨x3, hx3⟩ : ∃ x, x = bs.getD (4 * k + 3) 0 := ⟨_, rfl⟩
      have r0 : B8 x0 := hx0 ▸ byte_at hb _
      have r1 : B8 x1 := hx1 ▸ byte_at hb _
      have r2 : B8 x2 := hx2 ▸ byte_at hb _
      have r3 : B8 x3 := hx3 ▸ byte_at hb _
      have c0 : wr.cell? ⟨b, off + 4 * k, none⟩ = some (.int .u8 x0) := by rw [hbl.cell (p := ⟨b, off + 4 * k, none⟩) hbb, HC.out (4 * k) (by omega), hx0]
      have c1 : wr.cell? ⟨b, off + (4 * k + 1), none⟩ = some (.int .u8 x1) := by rw [hbl.cell (p := ⟨b, off + (4 * k + 1), none⟩) hbb, HC.out (4 * k + 1) (by omega), hx1]
      have c2 : wr.cell? ⟨b, off + (4 * k + 2), none⟩ = some (.int .u8 x2) := by rw [hbl.cell (p := ⟨b, off + (4 * k + 2), none⟩) hbb, HC.out (4 * k + 2) (by omega), hx2]
      have c3 : wr.cell? ⟨b, off + (4 * k + 3), none⟩ = some (.int .u8 x3) := by rw [hbl.cell (p := ⟨b, off + (4 * k + 3), none⟩) hbb, HC.out (4 * k + 3) (by omega), hx3]
      unfold B8 at r0 r1 r2 r3
      have H0 := Lib.hid hx0
      have H1 := Lib.hid hx1
      have H2 := Lib.hid hx2
      have H3 := Lib.hid hx3
      have HK := Lib.hid hblk
      clear hx0 hx1 hx2 hx3 hblk
      have w0 : IntKind.i64.wrap (4 * (k : Int)) = 4 * k := IntWalk.i64_in _ (by omega)
      have w1 : IntKind.i64.wrap (4 * (k : Int) + 1) = 4 * k + 1 := IntWalk.i64_in _ (by omega)
      have w2 : IntKind.i64.wrap (4 * (k : Int) + 2) = 4 * k + 2 := IntWalk.i64_in _ (by omega)
      have w3 : IntKind.i64.wrap (4 * (k : Int) + 3) = 4 * k + 3 := IntWalk.i64_in _ (by omega)
      have t0 : (4 * (k : Int)).toNat = 4 * k := by omega
      have t1 : (4 * (k : Int) + 1).toNat = 4 * k + 1 := by omega
      have t2 : (4 * (k : Int) + 2).toNat = 4 * k + 2 := by omega
      have t3 : (4 * (k : Int) + 3).toNat = 4 * k + 3 := by omega
      have n0 : 0 ≤ 4 * (k : Int) := by omega
      have n1 : 0 ≤ 4 * (k : Int) + 1 := by omega
      have n2 : 0 ≤ 4 * (k : Int) + 2 := by omega
      have n3 : 0 ≤ 4 * (k : Int) + 3 := by omega
      have l0 : 4 * (k : Int) < n := by omega
      have l1 : 4 * (k : Int) + 1 < n := by omega
      have l2 : 4 * (k : Int) + 2 < n := by omega
      have l3 : 4 * (k : Int) + 3 < n := by omega
      go_wp2
      go_still_tail 34, (by kernel_rfl)
      rw [or_word x0 x1 x2 x3 ⟨r0.1, r0.2⟩ ⟨r1.1, r1.2⟩ ⟨r2.1, r2.2⟩ ⟨r3.1, r3.2⟩]
      change wpList _ _ _ _ _ wr.drew
      have hlen : (u32s (pad 64 (words bs k))).length = 64 := by rw [u32s_len, pad_len _ _ (by rw [words_len]; omega)]
      have d0 : wr.drew.cell? ⟨w.heap.size + 1, k, none⟩ = some (u32s (pad 64 (words bs k)))[k] := blk_cell (w := wr.drew) HK.out k _ (by simp)
      have d1 : wr.drew.frozen? ⟨w.heap.size + 1, k, none⟩ = false := blk_free (w := wr.drew) HK.out k
      clear w0 w1 w2 w3 t0 t1 t2 t3 n0 n1 n2 n3 l0 l1 l2 l3 c0 c1 c2 c3
      go_wp2
      go_roundw
      case rel =>
        have e : (u32s (pad 64 (words bs k))).set k (.int .u32 (word x0 x1 x2 x3)) = u32s (pad 64 (words bs (k + 1))) := by
          have h := pad_set 64 (words bs k) (wordAt bs k) (by rw [words_len]; omega)
          rw [words_len] at h
          rw [words_succ, ← h, wordAt, ← H0.out, ← H1.out, ← H2.out, ← H3.out, u32s, u32s, List.map_set]
        refine ⟨k + 1, by omega, by go_num, ?_, ?_, ?_⟩
        · have := blk_set (w := wr.drew) HK.out k (.int .u32 (word x0 x1 x2 x3))
          rw [e] at this
          exact this
        · exact hbl.drew.setCell (by simp) _
        · exact Has.setCell (w := wr.drew) hhas _ _
      case measure => simp [intOf]; omega
    · have hkk : k = 16 := by omega
      rw [hkk] at hblk
      clear hkk
      go_wp2
      clear hlt hk
      obtain ⟨wo, rfl⟩ : ∃ wo : World, wo = wr := ⟨_, rfl⟩
      go_loopw [5, 6, 7, 8, 9] (fun i _ _ _ _ wr => ∃ k : Nat, k ≤ 48 ∧ i = .int .i64 (16 + (k : Int)) ∧ wr.heap[w.heap.size + 1]? = some (.cells (u32s (pad 64 (sched bs k))).toArray 104 (0, 0)) ∧ Below w.heap.size w wr ∧ Has wr w.heap.size 104 64)
        (fun i _ _ _ _ _ => 64 - (intOf i).toNat)
      case atStart => exact ⟨0, by omega, rfl, hblk, hbl, hhas⟩
      case round =>
        obtain ⟨k, hk, rfl, hblk, hbl, hhas⟩ := hrel
        by_cases hlt : k < 48
        · have sl := sched_len bs k
          have sr := sched_range hb k
          obtain ⟨xa, hxa⟩ : ∃ x, x = (sched bs k).getD k 0 := ⟨_, rfl⟩
          obtain ⟨xb, hxb⟩ : ∃ x, x = (sched bs k).getD (k + 1) 0 := ⟨_, rfl⟩
          obtain ⟨xc, hxc⟩ : ∃ x, x = (sched bs k).getD (k + 9) 0 := ⟨_, rfl⟩
          obtain ⟨xd, hxd⟩ : ∃ x, x = (sched bs k).getD (k + 14) 0 := ⟨_, rfl⟩
          have ra : U xa := hxa ▸ getD_range sr _
          have rb : U xb := hxb ▸ getD_range sr _
          have rc : U xc := hxc ▸ getD_range sr _
          have rd : U xd := hxd ▸ getD_range sr _
          have at_ : ∀ j, j < 16 + k → wr.cell? ⟨w.heap.size + 1, j, none⟩ = some (.int .u32 ((sched bs k).getD j 0)) := fun j hj => by
            refine blk_cell hblk j _ ?_
            rw [← pad_getD 64 (sched bs k) j (by omega)]
            have hpl := pad_len 64 (sched bs k) (by omega)
            simp [u32s, List.getD_eq_getElem?_getD, show j < (pad 64 (sched bs k)).length by omega]
          have ca : wr.cell? ⟨w.heap.size + 1, k, none⟩ = some (.int .u32 xa) := by rw [at_ k (by omega), hxa]
          have cb : wr.cell? ⟨w.heap.size + 1, k + 1, none⟩ = some (.int .u32 xb) := by rw [at_ (k + 1) (by omega), hxb]
          have cc : wr.cell? ⟨w.heap.size + 1, k + 9, none⟩ = some (.int .u32 xc) := by rw [at_ (k + 9) (by omega), hxc]
          have cd : wr.cell? ⟨w.heap.size + 1, k + 14, none⟩ = some (.int .u32 xd) := by rw [at_ (k + 14) (by omega), hxd]
          have hpl : (u32s (pad 64 (sched bs k))).length = 64 := by rw [u32s_len, pad_len _ _ (by omega)]
          obtain ⟨z0, d0⟩ : ∃ z, wr.cell? ⟨w.heap.size + 1, 16 + k, none⟩ = some z := ⟨_, blk_cell hblk (16 + k) (u32s (pad 64 (sched bs k)))[16 + k] (by simp)⟩
          have d1 : wr.frozen? ⟨w.heap.size + 1, 16 + k, none⟩ = false := blk_free hblk (16 + k)
          have HA := Lib.hid hxa
          have HB := Lib.hid hxb
          have HC' := Lib.hid hxc
          have HD := Lib.hid hxd
          have HK := Lib.hid hblk
          have SL := Lib.hid sl
          clear hxa hxb hxc hxd hblk at_ sl sr hpl
          unfold U at ra rb rc rd
          have e1 : IntKind.i64.wrap (16 + (k : Int) - 15) = k + 1 := (IntWalk.i64_in _ (by omega)).trans (by omega)
          have e2 : IntKind.i64.wrap (16 + (k : Int) - 2) = k + 14 := (IntWalk.i64_in _ (by omega)).trans (by omega)
          have e3 : IntKind.i64.wrap (16 + (k : Int) - 16) = k := (IntWalk.i64_in _ (by omega)).trans (by omega)
          have e4 : IntKind.i64.wrap (16 + (k : Int) - 7) = k + 9 := (IntWalk.i64_in _ (by omega)).trans (by omega)
          have n1 : 0 ≤ (k : Int) + 1 := by omega
          have n2 : 0 ≤ (k : Int) + 14 := by omega
          have n3 : 0 ≤ (k : Int) := by omega
          have n4 : 0 ≤ (k : Int) + 9 := by omega
          have t1 : ((k : Int) + 1).toNat = k + 1 := by omega
          have t2 : ((k : Int) + 14).toNat = k + 14 := by omega
          have t4 : ((k : Int) + 9).toNat = k + 9 := by omega
          have t5 : (16 + (k : Int)).toNat = 16 + k := by omega
          have l1 : (k : Int) + 1 < 64 := by omega
          have l2 : (k : Int) + 14 < 64 := by omega
          have l3 : (k : Int) < 64 := by omega
          have l4 : (k : Int) + 9 < 64 := by omega
          go_wp2_with fail
          go_quiet (fail)
          generalize hwq : wr.drewN _ = wq
          have qa : wq.cell? ⟨w.heap.size + 1, k, none⟩ = some (.int .u32 xa) := by rw [← hwq]; exact ca
          have qc : wq.cell? ⟨w.heap.size + 1, k + 9, none⟩ = some (.int .u32 xc) := by rw [← hwq]; exact cc
          have q0 : wq.cell? ⟨w.heap.size + 1, 16 + k, none⟩ = some z0 := by rw [← hwq]; exact d0
          have q1 : wq.frozen? ⟨w.heap.size + 1, 16 + k, none⟩ = false := by rw [← hwq]; exact d1
          have QK : Hid (wq.heap[w.heap.size + 1]? = some (.cells (u32s (pad 64 (sched bs k))).toArray 104 (0, 0))) := by rw [← hwq]; exact HK.out
          have qb : Below w.heap.size w wq := by rw [← hwq]; exact hbl.trans ⟨rfl, rfl, rfl, Nat.le_refl _, fun _ _ => rfl⟩
          have qh : Has wq w.heap.size 104 64 := by rw [← hwq]; exact hhas
          clear hwq ca cb cc cd d0 d1 HK hbl
          go_wp2_with (go_at_call 90; first | ((with_reducible refine (rotl_7 _ (by omega) (by omega) _).mono ?_); rintro e w' ⟨rfl, rfl⟩) | ((with_reducible refine (rotl_18 _ (by omega) (by omega) _).mono ?_); rintro e w' ⟨rfl, rfl⟩) | ((with_reducible refine (rotl_17 _ (by omega) (by omega) _).mono ?_); rintro e w' ⟨rfl, rfl⟩) | ((with_reducible refine (rotl_19 _ (by omega) (by omega) _).mono ?_); rintro e w' ⟨rfl, rfl⟩))
          go_still_tail 14, (by kernel_rfl)
          change wpList _ _ _ _ _ wq.drew
          have p0 : wq.drew.cell? ⟨w.heap.size + 1, 16 + k, none⟩ = some z0 := q0
          have p1 : wq.drew.frozen? ⟨w.heap.size + 1, 16 + k, none⟩ = false := q1
          go_wp2
          go_roundw
          case rel =>
            have e : (u32s (pad 64 (sched bs k))).set (16 + k) (.int .u32 (nextW (sched bs k) (16 + k))) = u32s (pad 64 (sched bs (k + 1))) := by
              have h := pad_set 64 (sched bs k) (nextW (sched bs k) (16 + k)) (by rw [SL.out]; omega)
              rw [SL.out] at h
              rw [sched, ← h, u32s, u32s, List.map_set]
            refine ⟨k + 1, by omega, by go_num, ?_, ?_, ?_⟩
            · have := blk_set (w := wq.drew) QK.out (16 + k) (.int .u32 (nextW (sched bs k) (16 + k)))
              rw [e] at this
              have hn : nextW (sched bs k) (16 + k) = (xa + sg0 xb + xc + sg1 xd) % 4294967296 := by
                rw [nextW, show 16 + k - 16 = k by omega, show 16 + k - 15 = k + 1 by omega, show 16 + k - 7 = k + 9 by omega, show 16 + k - 2 = k + 14 by omega, HA.out, HB.out, HC'.out, HD.out]
              rw [hn] at this
              exact this
            · exact qb.drew.setCell (by simp) _
            · exact Has.setCell (w := wq.drew) qh _ _
          case measure => simp [intOf]; omega
        · have hk48 : k = 48 := by omega
          have hsl : (sched bs k).length = 64 := by rw [sched_len]; omega
          have hra : wr.rangeAt (w.heap.size + 1) 0 (u32s (sched bs k)) := fun j v hv => by
            rw [pad_full 64 _ hsl] at hblk
            rw [Nat.zero_add]
            exact blk_cell hblk j v hv
          have hi : (Tryd.prog.info? 104).map (·.size) = some (u32s (sched bs k)).length := by
            rw [u32s_len, hsl]; exact Tryd.size104
          have HR := Lib.hid hra
          have HI := Lib.hid hi
          have H48 := Lib.hid hk48
          clear hra hi hk48 hblk hsl
          have h64 : (u32s (sched bs k)).length = 64 := by rw [u32s_len, sched_len, H48.out]
          have hone : ∀ v ∈ u32s (sched bs k), v.oneCell' = true := by
            intro v hv
            obtain ⟨x, _, rfl⟩ := List.mem_map.1 hv
            rfl
          have H64 := Lib.hid h64
          have HO := Lib.hid hone
          clear h64 hone
          go_wp2_with (first | (refine wpList_load_g rfl 104 (.tmp 3) rfl (w.heap.size + 1) 0 rfl (u32s (sched bs k)) _ HR.out Tryd.underlying104 rfl HI.out ?_) | (refine wpList_store_row rfl 104 (.tmp 2) (.tmp 92) rfl w.heap.size rfl (u32s (sched bs k)) rfl 104 (by rw [H64.out]; exact hhas) HI.out HO.out ?_; intro w1 hp))
          refine bodyPost_ret (v := .agg (u32s (sched bs k)).toArray) (results_cell_row rfl _ _ w.heap.size 104 _ (0, 0) _ rfl hp.blk Tryd.underlying104 rfl (by simpa using HI.out)) rfl ⟨_, (by rw [H48.out]; rfl : sched bs k = sch bs), by rw [sched_len, H48.out], sched_range hb k, rfl, hp.below hbl (Nat.le_refl _)⟩
end Go.Proofs.YtdedphhohiioiaaDoor
/- What the method take of hash's state does. -/
namespace Go.Proofs.YtdedphhohiioiaaDoor
open Go.RowKit

theorem Tryd.size103 : (Tryd.prog.info? 103).map (·.size) = some 1 := by kernel_rfl
theorem Tryd.size105 : (Tryd.prog.info? 105).map (·.size) = some 8 := by kernel_rfl

set_option maxHeartbeats 4000000 in
set_option maxRecDepth 100000 in
theorem take_any (s : St) (hs : s.ok) (rest : List Value) (T hb : Nat) (bs : List Int) (hbs : ∀ b ∈ bs, B8 b) (b off n c : Nat) (hn : 64 ≤ n) (hn2 : n ≤ 9223372036854775807) (w : World)
    (hblk : w.heap[hb]? = some (.cells (u32s s.list ++ rest).toArray T (0, 0))) (hk : w.rangeAt 18 0 (u32s kk))
    (hc : ∀ j, j < 64 → w.cell? ⟨b, off + j, none⟩ = some (.int .u8 (bs.getD j 0))) :
    Calls Tryd.prog 74 #[.pointer (some ⟨hb, 0, none⟩), .slice (some ⟨b, off, none⟩) n c] w fun e w' => e = .returned (.tuple #[]) ∧
      w'.heap[hb]? = some (.cells (u32s (s.comp bs).list ++ rest).toArray T (0, 0)) ∧ w.grownBy w' (some hb) := by
  obtain ⟨sa, sb, sc, sd, se, sf, sg, sh⟩ := s
  obtain ⟨ra, rb, rc, rd, re, rf, rg, rh⟩ := hs
  have HC := Lib.hid hc
  have HB := Lib.hid hblk
  have HK := Lib.hid hk
  clear hc hblk hk
  go_enter Tryd.func74, Tryd.ntmps74
  go_wp2_with fail
  refine (sched_any bs hbs b off n c hn hn2 _ HC.out).mono ?_
  rintro e w1 ⟨ws, HW, hwl, hwr, rfl, hb1⟩
  have hi : (Tryd.prog.info? 104).map (·.size) = some (u32s ws).length := by rw [u32s_len, hwl]; exact Tryd.size104
  have hone : ∀ v ∈ u32s ws, v.oneCell' = true := by
    intro v hv
    obtain ⟨x, _, rfl⟩ := List.mem_map.1 hv
    rfl
  have hhas : ∀ o : Array Value, o.size = 64 → Has (w1.alloc (.cells o 104)) w1.heap.size 104 (u32s ws).length := fun o ho => ⟨o, by rw [u32s_len, hwl, ho], heap_alloc_new w1 _⟩
  have HI := Lib.hid hi
  have HO := Lib.hid hone
  have HH := Lib.hid hhas
  have HR := Lib.hid hwr
  have HL := Lib.hid hwl
  clear hi hone hhas hwr hwl
  go_wp2_with (refine wpList_store_row rfl 104 (.tmp 4) (.tmp 21) rfl w1.heap.size rfl (u32s ws) rfl 104 (HH.out _ rfl) HI.out HO.out ?_; intro w2 hp)
  have hlt : hb < w.heap.size := blk_lt HB.out
  have hb2 : w2.heap[hb]? = some (.cells (u32s (St.list ⟨sa, sb, sc, sd, se, sf, sg, sh⟩) ++ rest).toArray T (0, 0)) := by
    rw [hp.other hb (by have := hb1.size; omega), Below.heap_alloc w1 _ hb (by have := hb1.size; omega)]
    exact blk_below HB.out hb1
  have c0 : w2.cell? ⟨hb, 0, none⟩ = some (.int .u32 sa) := blk_cell hb2 0 _ rfl
  have c1 : w2.cell? ⟨hb, 1, none⟩ = some (.int .u32 sb) := blk_cell hb2 1 _ rfl
  have c2 : w2.cell? ⟨hb, 2, none⟩ = some (.int .u32 sc) := blk_cell hb2 2 _ rfl
  have c3 : w2.cell? ⟨hb, 3, none⟩ = some (.int .u32 sd) := blk_cell hb2 3 _ rfl
  have c4 : w2.cell? ⟨hb, 4, none⟩ = some (.int .u32 se) := blk_cell hb2 4 _ rfl
  have c5 : w2.cell? ⟨hb, 5, none⟩ = some (.int .u32 sf) := blk_cell hb2 5 _ rfl
  have c6 : w2.cell? ⟨hb, 6, none⟩ = some (.int .u32 sg) := blk_cell hb2 6 _ rfl
  have c7 : w2.cell? ⟨hb, 7, none⟩ = some (.int .u32 sh) := blk_cell hb2 7 _ rfl
  have HB2 := Lib.hid hb2
  have hbl2 : Below w.heap.size w w2 := hp.below (hb1.alloc hb1.size _) hb1.size
  have HP := Lib.hid hp.blk
  have hP1 : w.heap.size ≤ w1.heap.size := hb1.size
  have hP2 : w1.heap.size < w2.heap.size := by rw [hp.size]; simp
  clear hb2 hp hb1
  unfold U at ra rb rc rd re rf rg rh
  go_quiet (fail)
  go_wp2_with fail
  go_quiet (fail)
  generalize hwq : w2.drewN _ = wq
  have HP2 : Hid (wq.heap[w1.heap.size]? = some (.cells (u32s ws).toArray 104 (0, 0))) := by rw [← hwq]; exact HP.out
  have HB3 : Hid (wq.heap[hb]? = some (.cells (u32s (St.list ⟨sa, sb, sc, sd, se, sf, sg, sh⟩) ++ rest).toArray T (0, 0))) := by rw [← hwq]; exact HB2.out
  have hbq : Below w.heap.size w wq := by rw [← hwq]; exact hbl2.trans ⟨rfl, rfl, rfl, Nat.le_refl _, fun _ _ => rfl⟩
  clear hwq hbl2 HB2 HP c0 c1 c2 c3 c4 c5 c6 c7
  go_wp2
  have HQ18 : Hid (wq.rangeAt 18 0 (u32s kk)) := range_below HK.out hbq
  go_loopw [5, 6, 7, 8, 9, 10, 11, 12, 13, 14, 15, 16, 17, 54] (fun va vc ve vg vb vd vf vh _ _ _ _ _ i wr => ∃ (k m : Nat) (pa pb pc pd pe pf pg ph : Int), k ≤ 64 ∧ i = .int .i64 k ∧ va = .int .u32 pa ∧ vb = .int .u32 pb ∧ vc = .int .u32 pc ∧ vd = .int .u32 pd ∧ ve = .int .u32 pe ∧ vf = .int .u32 pf ∧ vg = .int .u32 pg ∧ vh = .int .u32 ph ∧ wr = wq.drewN m ∧ (⟨pa, pb, pc, pd, pe, pf, pg, ph⟩ : St) = (⟨sa, sb, sc, sd, se, sf, sg, sh⟩ : St).rnds ws k)
    (fun _ _ _ _ _ _ _ _ _ _ _ _ _ i _ => 64 - (intOf i).toNat)
  case atStart => exact ⟨0, _, sa, sb, sc, sd, se, sf, sg, sh, by omega, rfl, rfl, rfl, rfl, rfl, rfl, rfl, rfl, rfl, rfl, rfl⟩
  case round =>
    obtain ⟨k, m, pa, pb, pc, pd, pe, pf, pg, ph, hk, rfl, rfl, rfl, rfl, rfl, rfl, rfl, rfl, rfl, rfl, hst⟩ := hrel
    obtain ⟨qa, qb, qc, qd, qe, qf, qg, qh⟩ : St.ok ⟨pa, pb, pc, pd, pe, pf, pg, ph⟩ := by rw [hst]; exact St.rnds_ok ⟨ra, rb, rc, rd, re, rf, rg, rh⟩ ws k
    have HS := Lib.hid hst
    clear hst
    by_cases hlt : k < 64
    · obtain ⟨kv, hkv⟩ : ∃ v, v = kk.getD k 0 := ⟨_, rfl⟩
      obtain ⟨wv, hwv⟩ : ∃ v, v = ws.getD k 0 := ⟨_, rfl⟩
      have rk : U kv := hkv ▸ getD_range kk_range k
      have rw_ : U wv := hwv ▸ getD_range HR.out k
      have ck : wq.cell? ⟨18, k, none⟩ = some (.int .u32 kv) := by
        have h := HQ18.out k (.int .u32 kv) (by rw [hkv]; simp [u32s, List.getD_eq_getElem?_getD, show k < kk.length by rw [kk_len]; exact hlt])
        rwa [Nat.zero_add] at h
      have cw : wq.cell? ⟨w1.heap.size, k, none⟩ = some (.int .u32 wv) := blk_cell HP2.out k _ (by have := HL.out; rw [hwv]; simp [u32s, List.getD_eq_getElem?_getD, show k < ws.length by omega])
      have HKV := Lib.hid hkv
      have HWV := Lib.hid hwv
      clear hkv hwv
      unfold U at qa qb qc qd qe qf qg qh rk rw_
      have k0 : 0 ≤ (k : Int) := by omega
      have k1 : (k : Int) < 64 := by omega
      go_wp2_with (go_at_call 90; first | ((with_reducible refine (rotl_6 _ (by omega) (by omega) _).mono ?_); rintro e w' ⟨rfl, rfl⟩) | ((with_reducible refine (rotl_11 _ (by omega) (by omega) _).mono ?_); rintro e w' ⟨rfl, rfl⟩) | ((with_reducible refine (rotl_25 _ (by omega) (by omega) _).mono ?_); rintro e w' ⟨rfl, rfl⟩))
      go_quiet (fail)
      go_wp2_with (go_at_call 90; first | ((with_reducible refine (rotl_2 _ (by omega) (by omega) _).mono ?_); rintro e w' ⟨rfl, rfl⟩) | ((with_reducible refine (rotl_13 _ (by omega) (by omega) _).mono ?_); rintro e w' ⟨rfl, rfl⟩) | ((with_reducible refine (rotl_22 _ (by omega) (by omega) _).mono ?_); rintro e w' ⟨rfl, rfl⟩))
      go_roundw
      case rel =>
        refine ⟨k + 1, _, _, _, _, _, _, _, _, _, by omega, by go_num, rfl, rfl, rfl, rfl, rfl, rfl, rfl, rfl, rfl, ?_⟩
        rw [St.rnds, ← HS.out, ← HKV.out, ← HWV.out]
        rfl
      case measure => simp [intOf]; omega
    · have hk64 : k = 64 := by omega
      have hg0 : w.grownBy (wq.drewN m) (some hb) := ⟨hbq.os, hbq.tape, hbq.output, hbq.size, fun j hj _ => hbq.block j hj⟩
      have H64 := Lib.hid hk64
      clear hk64
      go_wp2
      clear hlt hk
      obtain ⟨wo, hwo⟩ : ∃ wo : World, wo = wq.drewN m := ⟨_, rfl⟩
      rw [← hwo] at hg0 ⊢
      have HB4 : Hid (wo.heap[hb]? = some (.cells (u32s (St.list ⟨sa, sb, sc, sd, se, sf, sg, sh⟩) ++ rest).toArray T (0, 0))) := by rw [hwo]; exact HB3.out
      clear hwo
      obtain ⟨xs, hxs⟩ : ∃ xs, xs = St.list ⟨sa, sb, sc, sd, se, sf, sg, sh⟩ := ⟨_, rfl⟩
      obtain ⟨vs, hvs⟩ : ∃ vs, vs = St.list ⟨pa, pb, pc, pd, pe, pf, pg, ph⟩ := ⟨_, rfl⟩
      obtain ⟨ys, hys⟩ : ∃ ys, ys = (St.add ⟨sa, sb, sc, sd, se, sf, sg, sh⟩ ⟨pa, pb, pc, pd, pe, pf, pg, ph⟩).list := ⟨_, rfl⟩
      have xl : xs.length = 8 := by rw [hxs]; rfl
      have yl : ys.length = 8 := by rw [hys]; rfl
      have xr : ∀ x ∈ xs, U x := by rw [hxs]; exact St.list_ok ⟨ra, rb, rc, rd, re, rf, rg, rh⟩
      have vr : ∀ x ∈ vs, U x := by rw [hvs]; exact St.list_ok ⟨qa, qb, qc, qd, qe, qf, qg, qh⟩
      have yat : ∀ j, j < 8 → ys.getD j 0 = (xs.getD j 0 + vs.getD j 0) % 4294967296 := fun j hj => by rw [hys, hxs, hvs]; exact St.add_at _ _ j hj
      have hagg : Value.agg #[.int .u32 pa, .int .u32 pb, .int .u32 pc, .int .u32 pd, .int .u32 pe, .int .u32 pf, .int .u32 pg, .int .u32 ph] = .agg (u32s vs).toArray := by rw [hvs]; rfl
      rw [hagg]
      have vl : vs.length = 8 := by rw [hvs]; rfl
      have HB5 : Hid (wo.heap[hb]? = some (.cells (u32s xs ++ rest).toArray T (0, 0))) := by rw [hxs]; exact HB4.out
      have HYS := Lib.hid hys
      have XL := Lib.hid xl
      have YL := Lib.hid yl
      have VL := Lib.hid vl
      have YA := Lib.hid yat
      have XR := Lib.hid xr
      have VR := Lib.hid vr
      clear hxs hvs hys xl yl vl yat xr vr hagg HB4 HB3 HP2 HQ18 hbq
      go_loopw [18, 19, 128] (fun _ _ i wr => ∃ j : Nat, j ≤ 8 ∧ i = .int .i64 j ∧ wr.heap[hb]? = some (.cells (u32s (over xs ys j) ++ rest).toArray T (0, 0)) ∧ w.grownBy wr (some hb))
        (fun _ _ i _ => 8 - (intOf i).toNat)
      case atStart => exact ⟨0, by omega, rfl, by rw [over_zero]; exact HB5.out, hg0⟩
      case round =>
        obtain ⟨j, hj, rfl, hblk, hg⟩ := hrel
        by_cases hlt : j < 8
        · obtain ⟨xv, hxv⟩ : ∃ v, v = xs.getD j 0 := ⟨_, rfl⟩
          obtain ⟨vv, hvv⟩ : ∃ v, v = vs.getD j 0 := ⟨_, rfl⟩
          have rx : U xv := hxv ▸ getD_range XR.out j
          have rv : U vv := hvv ▸ getD_range VR.out j
          have hiv : (u32s vs).toArray[(j : Int).toNat]? = some (.int .u32 vv) := by
            have := VL.out
            simp [u32s, hvv, List.getD_eq_getElem?_getD, show j < vs.length by omega]
          have ol := over_len xs ys j 8 XL.out YL.out hj
          have cx : wr.cell? ⟨hb, j, none⟩ = some (.int .u32 xv) := by
            refine blk_cell hblk j _ ?_
            rw [List.getElem?_append_left (by rw [u32s_len]; omega), hxv, ← over_at xs ys j 8 XL.out YL.out hlt]
            simp [u32s, List.getD_eq_getElem?_getD, show j < (over xs ys j).length by omega]
          have fx : wr.frozen? ⟨hb, j, none⟩ = false := blk_free hblk j
          have hy : ys.getD j 0 = (xv + vv) % 4294967296 := by rw [YA.out j hlt, hxv, hvv]
          have HIV := Lib.hid hiv
          have HY := Lib.hid hy
          have HBL := Lib.hid hblk
          have OL := Lib.hid ol
          clear hxv hvv hiv hy hblk ol
          unfold U at rx rv
          have j0 : 0 ≤ (j : Int) := by omega
          have j1 : (j : Int) < 8 := by omega
          go_wp2_with (refine wpList_index_arr rfl 105 103 8 (.tmp 127) (.tmp 128) rfl (u32s vs).toArray .i64 j (.int .u32 vv) rfl rfl Tryd.underlying105 _ Tryd.underlying103 rfl Tryd.size103 (by omega) (by omega) HIV.out ?_)
          go_still_tail 8, (by kernel_rfl)
          change wpList _ _ _ _ _ wr.drew
          have cx2 : wr.drew.cell? ⟨hb, j, none⟩ = some (.int .u32 xv) := cx
          have fx2 : wr.drew.frozen? ⟨hb, j, none⟩ = false := fx
          go_wp2
          go_roundw
          case rel =>
            refine ⟨j + 1, by omega, by go_num, ?_, ?_⟩
            · have h := blk_set (w := wr.drew) HBL.out j (.int .u32 ((xv + vv) % 4294967296))
              rw [List.set_append_left _ _ (by rw [u32s_len, OL.out]; omega)] at h
              have e : (u32s (over xs ys j)).set j (.int .u32 ((xv + vv) % 4294967296)) = u32s (over xs ys (j + 1)) := by
                rw [← HY.out, ← over_set xs ys j 8 XL.out YL.out hlt, u32s, u32s, List.map_set]
              rw [e] at h
              exact h
            · exact World.grownBy.trans hg ⟨rfl, rfl, rfl, by simp, fun i hi hne => by
                have : i ≠ hb := fun e => hne (by rw [e])
                exact heap_setCell_other wr.drew ⟨hb, j, none⟩ i _ this⟩
          case measure => simp [intOf]; omega
        · have hj8 : j = 8 := by omega
          rw [hj8, over_all xs ys 8 XL.out YL.out] at hblk
          have HBL := Lib.hid hblk
          clear hblk hj8
          go_wp2
          go_end0
          refine ⟨rfl, ?_, hg⟩
          have hw := HW.out
          have hs := HS.out
          rw [H64.out, hw] at hs
          rw [St.comp, ← hs, ← HYS.out]
          exact HBL.out
end Go.Proofs.YtdedphhohiioiaaDoor
/- What hash.New does, and what a hash in memory is. -/
namespace Go.Proofs.YtdedphhohiioiaaDoor
open Go.RowKit

theorem Tryd.info5 : (Tryd.prog.info? 5).map (fun i => (i.zero, i.size, i.bytes)) = some (some (.int .u8 0), 1, 1) := by kernel_rfl
theorem Tryd.size108 : (Tryd.prog.info? 108).map (·.size) = some 8 := by kernel_rfl
theorem u8s_len' (bs : List Int) : (u8s bs).length = bs.length := by simp [u8s]

/-- A hash in block hb that has taken the bytes m in; rv: the slice of those that are left over. -/
structure HashAt (base : Nat) (w : World) (hb : Nat) (m : List Int) (rv : Value) : Prop where
  blk : w.heap[hb]? = some (.cells (u32s (stN m (m.length / 64)).list ++ [rv, .int .u64 m.length]).toArray 111 (0, 0))
  own : OwnO w base 5 rv (u8s (m.drop (64 * (m.length / 64))))
  ne : rv.ownBlock ≠ some hb
  bytes : u8s_ok m
  small : m.length ≤ 1099511627776

theorem HashAt.below {base : Nat} {w w' : World} {hb : Nat} {m : List Int} {rv : Value} (h : HashAt base w hb m rv) (hb' : Below w.heap.size w w') : HashAt base w' hb m rv :=
  ⟨blk_below h.blk hb', h.own.below hb', h.ne, h.bytes, h.small⟩

set_option maxHeartbeats 400000 in
theorem begin_any (w : World) : Calls Tryd.prog 73 #[] w fun e w' => e = .returned (.agg (u32s St.init.list).toArray) ∧ Below w.heap.size w w' := by
  go_enter Tryd.func73, Tryd.ntmps73
  go_wp2_with (refine wpList_store_row rfl 108 (.tmp 0) (.tmp 1) rfl w.heap.size rfl (u32s St.init.list) rfl 108 (has_new w _ _ _ rfl) Tryd.size108 (by decide) ?_; intro w1 hp)
  exact bodyPost_ret (v := .agg (u32s St.init.list).toArray) (results_cell_row rfl _ _ w.heap.size 108 _ (0, 0) _ rfl hp.blk Tryd.underlying108 rfl Tryd.size108) rfl ⟨rfl, hp.below ((Below.refl _ _).alloc (Nat.le_refl _) _) (Nat.le_refl _)⟩

set_option maxHeartbeats 400000 in
theorem new_any (w : World) : Calls Tryd.prog 30 #[] w fun e w' => ∃ hb, e = .returned (.pointer (some ⟨hb, 0, none⟩)) ∧ w.heap.size ≤ hb ∧ HashAt w.heap.size w' hb [] (.slice none 0 0) ∧ Below w.heap.size w w' := by
  go_enter Tryd.func30, Tryd.ntmps30
  go_wp2_with fail
  refine (begin_any _).mono ?_
  rintro e w1 ⟨rfl, hb1⟩
  go_wp2
  go_ret
  exact ⟨w1.heap.size, rfl, hb1.size, ⟨heap_alloc_new w1 _, .inl ⟨rfl, rfl⟩, by simp [Value.ownBlock], fun b hb => by simp at hb, by simp⟩, hb1.alloc hb1.size _⟩
end Go.Proofs.YtdedphhohiioiaaDoor
/- What the method Write of a hash does. -/
namespace Go.Proofs.YtdedphhohiioiaaDoor
open Go.RowKit

/-- Only block hb, and block r if there is one, have been written. -/
structure Only (hb : Nat) (r : Option Nat) (w w' : World) : Prop where
  os : w'.os = w.os
  tape : w'.tape = w.tape
  output : w'.output = w.output
  size : w.heap.size ≤ w'.heap.size
  block : ∀ k, k < w.heap.size → k ≠ hb → some k ≠ r → w'.heap[k]? = w.heap[k]?
theorem Only.below {hb B : Nat} {r : Option Nat} {w w' : World} (h : Only hb r w w') (h1 : B ≤ hb) (h2 : ∀ k, r = some k → B ≤ k) (h3 : B ≤ w.heap.size) : Below B w w' :=
  ⟨h.os, h.tape, h.output, h.size, fun k hk => h.block k (by omega) (by omega) (fun e => by have := h2 k e.symm; omega)⟩

theorem range_base {w w' : World} {B b o : Nat} {cs : List Value} (h : w.rangeAt b o cs) (hb : Below B w w') (hlt : b < B) : w'.rangeAt b o cs :=
  fun j v hv => (hb.cell (p := ⟨b, o + j, none⟩) hlt).trans (h j v hv)

def restLen (w : World) (hb : Nat) : Nat := match w.cell? ⟨hb, 8, none⟩ with
  | some (.slice _ n _) => n
  | _ => 0

theorem grown_set {w w1 : World} {hb i : Nat} (h : w.grownBy w1 (some hb)) (v : Value) : w.grownBy (w1.setCell ⟨hb, i, none⟩ v) (some hb) :=
  ⟨h.os, h.tape, h.output, by have := h.size; simpa using this, fun k hk hne => (heap_setCell_other w1 ⟨hb, i, none⟩ k v (fun e => hne (by rw [e]))).trans (h.block k hk hne)⟩
theorem Only.grown {hb : Nat} {r : Option Nat} {w w1 w2 : World} (h : Only hb r w w1) (hg : w1.grownBy w2 (some hb)) : Only hb r w w2 :=
  ⟨hg.os.trans h.os, hg.tape.trans h.tape, hg.output.trans h.output, Nat.le_trans h.size hg.size, fun k hk h1 h2 => (hg.block k (Nat.lt_of_lt_of_le hk h.size) (fun e => h1 (Option.some.inj e))).trans (h.block k hk h1 h2)⟩

/-- What a round of Write leaves. -/
theorem write_step {w wr w3 : World} {base hb q k c3 g off : Nat} {M : List Int} {N : Nat} {cnt nv : Value} {r : Option Nat} {a : Addr} (ha : a.block = g) (hk : 64 ≤ k) (hlen : (M.drop (64 * q)).length = k) (hkq : 64 * q + k = N)
    (hown : OwnO wr base 5 nv (u8s (M.drop (64 * (q + 1))))) (hnv : nv = .slice (some a) (k - 64) (c3 - 64))
    (honly : Only hb r w wr) (hgb : g ≠ hb) (hb3 : w3.heap[hb]? = some (.cells (u32s ((stN M q).comp ((M.drop (64 * q)).take 64)).list ++ [Value.slice (some ⟨g, off, none⟩) k c3, cnt]).toArray 111 (0, 0)))
    (hg3 : wr.drew.grownBy w3 (some hb)) :
    64 * (q + 1) + (k - 64) = N ∧ (w3.setCell ⟨hb, 8, none⟩ nv).heap[hb]? = some (.cells (u32s (stN M (q + 1)).list ++ [nv, cnt]).toArray 111 (0, 0)) ∧
      OwnO (w3.setCell ⟨hb, 8, none⟩ nv) base 5 nv (u8s (M.drop (64 * (q + 1)))) ∧ Only hb r w (w3.setCell ⟨hb, 8, none⟩ nv) ∧ restLen (w3.setCell ⟨hb, 8, none⟩ nv) hb = k - 64 := by
  have hg' : wr.grownBy w3 (some hb) := ⟨hg3.os, hg3.tape, hg3.output, hg3.size, hg3.block⟩
  have hblk : (w3.setCell ⟨hb, 8, none⟩ nv).heap[hb]? = some (.cells (u32s (stN M (q + 1)).list ++ [nv, cnt]).toArray 111 (0, 0)) := by
    rw [blk_set hb3 8 nv]
    rfl
  refine ⟨by omega, hblk, ?_, honly.grown (grown_set hg' nv), ?_⟩
  · refine hown.kept (grown_set hg' nv) (fun b hb' e => ?_)
    rw [hnv] at hb'
    simp only [Value.ownBlock, Option.some.injEq] at hb' e
    omega
  · unfold restLen
    rw [blk_cell hblk 8 nv rfl, hnv]

set_option maxHeartbeats 4000000 in
set_option maxRecDepth 100000 in
theorem write_any (base hb : Nat) (m bs : List Int) (rv : Value) (A : Option Addr) (n c : Nat) (w : World) (H : HashAt base w hb m rv) (hbs : u8s_ok bs) (hn : n = bs.length) (hsm : m.length + bs.length ≤ 1099511627776)
    (hsrc : ∀ w', (∀ k, k < w.heap.size → k ≠ hb → w'.heap[k]? = w.heap[k]?) → Src Tryd.prog 1 22 (.slice A n c) n (u8s bs) w') (hk : w.rangeAt 18 0 (u32s kk)) (hg1 : 18 < base) (hbase : base ≤ hb) :
    Calls Tryd.prog 32 #[.pointer (some ⟨hb, 0, none⟩), .slice A n c] w fun e w' => e = .returned (.tuple #[]) ∧
      ∃ rv', HashAt base w' hb (m ++ bs) rv' ∧ (rv'.ownBlock = rv.ownBlock ∨ ∃ b, rv'.ownBlock = some b ∧ w.heap.size ≤ b) ∧ Only hb rv.ownBlock w w' := by
  obtain ⟨hblk, hown, hne, hmb, hml⟩ := H
  obtain ⟨q0, hq0⟩ : ∃ q, q = m.length / 64 := ⟨_, rfl⟩
  obtain ⟨s0, hs0⟩ : ∃ s, s = stN m q0 := ⟨_, rfl⟩
  rw [← hq0] at hblk hown
  rw [← hs0] at hblk
  have hbl : hb < w.heap.size := blk_lt hblk
  have sl : (u32s s0.list).length = 8 := rfl
  have c9 : w.cell? ⟨hb, 9, none⟩ = some (.int .u64 m.length) := blk_cell hblk 9 _ rfl
  obtain ⟨A1, c1, rfl, hc1⟩ := hown.len
  rw [u8s_len'] at hblk hown hne hc1 ⊢
  generalize hn1 : (m.drop (64 * q0)).length = n1 at *
  have c8 : w.cell? ⟨hb, 8, none⟩ = some (.slice A1 n1 c1) := blk_cell hblk 8 _ rfl
  have f8 : w.frozen? ⟨hb, 8, none⟩ = false := blk_free hblk 8
  have f9 : w.frozen? ⟨hb, 9, none⟩ = false := blk_free hblk 9
  have wu : IntKind.u64.wrap (n : Int) = n := by rw [IntKind.wrap_u64]; omega
  have wv : IntKind.u64.wrap ((m.length : Int) + n) = m.length + n := by rw [IntKind.wrap_u64]; omega
  have HB := Lib.hid hblk
  have HO := Lib.hid hown
  have HS := Lib.hid hsrc
  have HK := Lib.hid hk
  have HN := Lib.hid hn
  have HQ := Lib.hid hq0
  have HS0 := Lib.hid hs0
  clear hblk hown hsrc hk hn hq0 hs0
  go_enter Tryd.func32, Tryd.ntmps32
  have hg9 : ∀ v, w.grownBy (w.setCell ⟨hb, 9, none⟩ v) (some hb) := fun v => ⟨rfl, rfl, rfl, by simp, fun i hi hne => heap_setCell_other w ⟨hb, 9, none⟩ i v (fun e => hne (by rw [e]))⟩
  have hown9 : ∀ v, OwnO (w.setCell ⟨hb, 9, none⟩ v) base 5 (.slice A1 n1 c1) (u8s (m.drop (64 * q0))) := fun v => HO.out.kept (hg9 v) (fun k hk e => hne (by rw [hk, e]))
  have hsrc9 : ∀ v, Src Tryd.prog 1 22 (.slice A n c) n (u8s bs) (w.setCell ⟨hb, 9, none⟩ v) := fun v => HS.out _ (fun k hk hkb => heap_setCell_other w ⟨hb, 9, none⟩ k v hkb)
  have hlen9 : (u8s (m.drop (64 * q0))).length + n ≤ 140737488355328 := by rw [u8s_len', HN.out, List.length_drop]; omega
  have HN1 := Lib.hid hn1
  clear hn1
  have HG9 := Lib.hid hg9
  have HO9 := Lib.hid hown9
  have HS9 := Lib.hid hsrc9
  have HL9 := Lib.hid hlen9
  clear hg9 hown9 hsrc9 hlen9
  have hblk9 : (w.setCell ⟨hb, 9, none⟩ (.int .u64 ((m.length : Int) + n))).heap[hb]? = some (.cells (u32s s0.list ++ [Value.slice A1 n1 c1, Value.int .u64 ((m.length : Int) + n)]).toArray 111 (0, 0)) := by
    rw [blk_set HB.out 9 _]
    rfl
  have HB9 := Lib.hid hblk9
  clear hblk9
  go_wp2_with (at_builtin; refine appO (w0 := w.setCell ⟨hb, 9, none⟩ (.int .u64 ((m.length : Int) + n))) base rfl (.tmp 18) (.tmp 19) 22 22 5 (.int .u8 0) 1 rfl Tryd.underlying22 Tryd.info5 rfl (by omega) _ _ rfl _ n (u8s bs) rfl (HS9.out _) (HO9.out _) (Below.refl _ _) (by simp; omega) (by have := HL9.out; omega) ?_; intro v1 w1 ap; obtain ⟨A2, c2, rfl, hc2⟩ := ap.own.len; rw [List.length_append, u8s_len', u8s_len', HN1.out, ← HN.out] at hc2 ap ⊢; have d0 := (ap.grown.block hb (by simpa using hbl) (Ne.symm hne)).trans HB9.out; have d8 := blk_cell d0 8 _ rfl; have e8 := blk_free d0 8; have D0 := Lib.hid d0; clear d0)
  obtain ⟨M, hM⟩ : ∃ M, M = m ++ bs := ⟨_, rfl⟩
  have hMl : M.length = m.length + n := by rw [hM, List.length_append, HN.out]
  have hMb : u8s_ok M := by rw [hM]; exact hmb.append hbs
  have hq64 : 64 * q0 ≤ m.length := by have := HQ.out; omega
  have hstart : stN M q0 = s0 := by rw [hM, stN_append m bs q0 hq64, HS0.out]
  have hrest : u8s (m.drop (64 * q0)) ++ u8s bs = u8s (M.drop (64 * q0)) := by rw [hM, List.drop_append_of_le_length hq64]; simp [u8s]
  have hn1 : n1 = m.length - 64 * q0 := by rw [← HN1.out, List.length_drop]
  have o1 := ap.own
  have o2 := ap.place
  have o3 := ap.grown
  rw [hrest] at o1
  generalize hW2 : w1.setCell ⟨hb, 8, none⟩ (.slice A2 (n1 + n) c2) = W2
  have hA2 : (Value.slice A2 (n1 + n) c2).ownBlock ≠ some hb := by
    rcases o2 with h | h
    · rw [h]; exact hne
    · rw [h]; simp; omega
  have b2 : W2.heap[hb]? = some (.cells (u32s (stN M q0).list ++ [Value.slice A2 (n1 + n) c2, Value.int .u64 ((m.length : Int) + n)]).toArray 111 (0, 0)) := by
    rw [← hW2, hstart, blk_set D0.out 8 _]
    rfl
  have own2 : OwnO W2 base 5 (.slice A2 (n1 + n) c2) (u8s (M.drop (64 * q0))) := by
    rw [← hW2]
    exact o1.kept (row := some hb) ⟨rfl, rfl, rfl, by simp, fun i hi hne => heap_setCell_other w1 ⟨hb, 8, none⟩ i _ (fun e => hne (by rw [e]))⟩ (fun k hk e => hA2 (by rw [hk, e]))
  have only2 : Only hb (Value.slice A1 n1 c1).ownBlock w W2 := by
    rw [← hW2]
    refine ⟨o3.os, o3.tape, o3.output, by have := o3.size; simpa using this, fun k hk hkb hkr => ?_⟩
    rw [heap_setCell_other w1 ⟨hb, 8, none⟩ k _ hkb, o3.block k (by simpa using hk) hkr]
    exact heap_setCell_other w ⟨hb, 9, none⟩ k _ hkb
  have pl2 : (Value.slice A2 (n1 + n) c2).ownBlock = (Value.slice A1 n1 c1).ownBlock ∨ ∃ b, (Value.slice A2 (n1 + n) c2).ownBlock = some b ∧ w.heap.size ≤ b := by
    rcases o2 with h | h
    · exact .inl h
    · exact .inr ⟨_, h, by simp⟩
  have HM := Lib.hid hM
  have HML := Lib.hid hMl
  have HHN1 := Lib.hid hn1
  have HBASE : Hid (∀ k, (Value.slice A1 n1 c1).ownBlock = some k → base ≤ k ∧ k < w.heap.size) := HO.out.lt
  clear hM hMl hn1 hstart hrest o1 o2 o3 ap D0 d8 e8 hW2 hA2 HG9 HO9 HS9 HL9 HB9 HS HB HO c8 c9 f8 f9 wu wv
  clear hc1 hc2
  go_loopw [23] (fun _ wr => ∃ (q k c : Nat) (A : Option Addr), q0 ≤ q ∧ 64 * q + k = m.length + n ∧ wr.heap[hb]? = some (.cells (u32s (stN M q).list ++ [Value.slice A k c, Value.int .u64 ((m.length : Int) + n)]).toArray 111 (0, 0)) ∧
      OwnO wr base 5 (.slice A k c) (u8s (M.drop (64 * q))) ∧ Only hb (Value.slice A1 n1 c1).ownBlock w wr ∧ ((Value.slice A k c).ownBlock = (Value.slice A1 n1 c1).ownBlock ∨ ∃ b, (Value.slice A k c).ownBlock = some b ∧ w.heap.size ≤ b))
    (fun _ wr => restLen wr hb)
  case atStart => exact ⟨q0, n1 + n, c2, A2, Nat.le_refl _, by have := HHN1.out; omega, b2, own2, only2, pl2⟩
  case round =>
    obtain ⟨q, k, c3, A3, hq, hkq, hblk, hown, honly, hpl⟩ := hrel
    have r8 : wr.cell? ⟨hb, 8, none⟩ = some (.slice A3 k c3) := blk_cell hblk 8 _ rfl
    have g8 : wr.frozen? ⟨hb, 8, none⟩ = false := blk_free hblk 8
    by_cases hge : 64 ≤ k
    · obtain ⟨g, off, rfl⟩ : ∃ g off, A3 = some ⟨g, off, none⟩ := by
        obtain ⟨b, off, c, he, _⟩ := hown.row (by rw [u8s_len', List.length_drop, HML.out]; omega)
        simp only [Value.slice.injEq] at he
        exact ⟨b, off, he.1⟩
      have hlen : (M.drop (64 * q)).length = k := by rw [List.length_drop, HML.out]; omega
      have hk3 : k ≤ c3 := by
        obtain ⟨A', c', he, hle⟩ := hown.len
        rw [u8s_len', hlen] at hle
        simp only [Value.slice.injEq] at he
        omega
      have hcells : ∀ j, j < 64 → wr.cell? ⟨g, off + j, none⟩ = some (.int .u8 (((M.drop (64 * q)).take 64).getD j 0)) := by
        obtain ⟨b, off', c, he, _, _, hc⟩ := hown.row (by rw [u8s_len', hlen]; omega)
        simp only [Value.slice.injEq, Option.some.injEq, Addr.mk.injEq] at he
        obtain ⟨⟨rfl, rfl, _⟩, _, rfl⟩ := he
        intro j hj
        refine hc j _ ?_
        simp only [u8s, List.getElem?_map, List.getD_eq_getElem?_getD, List.getElem?_take, if_pos hj]
        rw [List.getElem?_eq_getElem (by omega : j < (M.drop (64 * q)).length)]
        simp
      have hc64 : 64 ≤ c3 := by omega
      have hc0 : ¬ c3 = 0 := by omega
      have hci : (64 : Int) ≤ (c3 : Int) := by omega
      have hki : (64 : Int) ≤ (k : Int) := by omega
      have hk18 : wr.rangeAt 18 0 (u32s kk) := range_base (B := base) HK.out (honly.below hbase (fun k hk => (HBASE.out k hk).1) (by omega)) hg1
      go_wp2
      go_still_tail 8, (by kernel_rfl)
      change wpList _ _ _ _ _ wr.drew
      go_wp2_with fail
      refine (take_any (stN M q) (stN_ok M q) [Value.slice (some ⟨g, off, none⟩) k c3, Value.int .u64 ((m.length : Int) + n)] 111 hb ((M.drop (64 * q)).take 64) ((hMb.drop _).take _) g off 64 c3 (by omega) (by omega) wr.drew hblk hk18 hcells).mono ?_
      rintro e w3 ⟨rfl, hb3, hg3⟩
      have t8 : w3.cell? ⟨hb, 8, none⟩ = some (.slice (some ⟨g, off, none⟩) k c3) := blk_cell hb3 8 _ rfl
      have u8_ : w3.frozen? ⟨hb, 8, none⟩ = false := blk_free hb3 8
      have hgb : g ≠ hb := by
        intro e
        rcases hpl with h | ⟨b, h, hle⟩
        · rw [← h] at hne; simp [Value.ownBlock, e] at hne
        · simp [Value.ownBlock] at h; omega
      have hdrop := hown.drop (k := 64) (by rw [u8s_len', hlen]; omega)
      rw [show (u8s (M.drop (64 * q))).drop 64 = u8s (M.drop (64 * (q + 1))) by rw [u8s, ← List.map_drop, List.drop_drop]; rfl] at hdrop
      clear hown hcells hk18 hblk
      by_cases hcc : c3 = 64
      · subst hcc
        obtain rfl : k = 64 := by omega
        rw [if_pos rfl] at hdrop
        have hpl' : (Value.slice (some ⟨g, off, none⟩) 0 0).ownBlock = (Value.slice A1 n1 c1).ownBlock ∨ ∃ b, (Value.slice (some ⟨g, off, none⟩) 0 0).ownBlock = some b ∧ w.heap.size ≤ b := hpl
        have hstep := write_step (w := w) (a := ⟨g, off, none⟩) (g := g) (off := off) (c3 := 64) (nv := .slice (some ⟨g, off, none⟩) 0 0) (cnt := Value.int .u64 ((m.length : Int) + n)) (N := m.length + n) rfl hge hlen hkq hdrop rfl honly hgb hb3 hg3
        have HST := Lib.hid hstep
        clear hstep hdrop
        go_wp2
        go_roundw
        case rel =>
          obtain ⟨s1, s2, s3, s4, s5⟩ := HST.out
          exact ⟨q + 1, 0, 0, _, by omega, s1, s2, s3, s4, hpl'⟩
        case measure =>
          rw [HST.out.2.2.2.2]
          unfold restLen
          rw [r8]
          show (0 : Nat) < 64
          omega
      · rw [if_neg hcc] at hdrop
        have hpl' : (Value.slice (some ⟨g, off + 64, none⟩) (k - 64) (c3 - 64)).ownBlock = (Value.slice A1 n1 c1).ownBlock ∨ ∃ b, (Value.slice (some ⟨g, off + 64, none⟩) (k - 64) (c3 - 64)).ownBlock = some b ∧ w.heap.size ≤ b := hpl
        have hstep := write_step (w := w) (a := ⟨g, off + 64, none⟩) (g := g) (off := off) (c3 := c3) (nv := .slice (some ⟨g, off + 64, none⟩) (k - 64) (c3 - 64)) (cnt := Value.int .u64 ((m.length : Int) + n)) (N := m.length + n) rfl hge hlen hkq (by simpa using hdrop) rfl honly hgb hb3 hg3
        have HST := Lib.hid hstep
        clear hstep hdrop
        go_wp2
        go_roundw
        case rel =>
          obtain ⟨s1, s2, s3, s4, s5⟩ := HST.out
          exact ⟨q + 1, k - 64, c3 - 64, _, by omega, s1, s2, s3, s4, hpl'⟩
        case measure =>
          rw [HST.out.2.2.2.2]
          unfold restLen
          rw [r8]
          show k - 64 < k
          omega
    · have hq2 : q = M.length / 64 := by rw [HML.out]; omega
      have HF : HashAt base wr hb M (.slice A3 k c3) := by
        refine ⟨?_, ?_, ?_, hMb, by rw [HML.out, HN.out]; exact hsm⟩
        · rw [← hq2, HML.out]; simpa using hblk
        · rw [← hq2]; exact hown
        · rcases hpl with h | ⟨b, h, hle⟩
          · rw [h]; exact hne
          · rw [h]; simp; omega
      have HFF := Lib.hid HF
      clear HF hblk hown
      go_wp2
      go_end0
      rw [← HM.out]
      exact ⟨rfl, _, HFF.out, hpl, honly⟩
end Go.Proofs.YtdedphhohiioiaaDoor
