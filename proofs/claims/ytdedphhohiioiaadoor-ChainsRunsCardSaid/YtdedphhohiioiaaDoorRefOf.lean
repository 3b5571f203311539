/- What the reference's Of does. -/
import Derived.Test.YtdedphhohiioiaaDoorFramed
namespace Go.Proofs.YtdedphhohiioiaaDoor
open Go.RowKit

set_option maxHeartbeats 4000000 in
set_option maxRecDepth 100000 in
theorem refof_any (z : Int) (ss : List ByteArray) (A : Option Addr) (n c : Nat) (w : World) (hv : Txs w (.slice A n c) ss) (hn : n = ss.length) (hsm : (framed z (ss.map sb)).length ≤ 1099511627776) :
    Calls Tryd.prog 34 #[.int .i64 z, .slice A n c] w fun e w' => e = .returned (.agg (u8s (short z (ss.map sb))).toArray) ∧ Below w.heap.size w w' := by
  have HV := Lib.hid hv
  have HN := Lib.hid hn
  have HSM := Lib.hid hsm
  clear hv hn hsm
  go_enter Tryd.func34, Tryd.ntmps34
  go_wp2_with fail
  have b0 : Below w.heap.size w (w.alloc (Obj.cells (Array.replicate 16 (Value.int .u8 0)) 43)) := (Below.refl _ _).alloc (Nat.le_refl _) _
  refine (framed_any z ss A n c _ (HV.out.below b0) HN.out HSM.out).mono ?_
  rintro e w1 ⟨S, rfl, hS, hb1⟩
  have b1 : Below w.heap.size w w1 := b0.trans (hb1.mono b0.size)
  have h1 : Has w1 w.heap.size 43 16 := (has_new w _ _ _ rfl).below hb1
  have hsz : S.size ≤ 1099511627776 := by rw [← sb_len, hS]; exact HSM.out
  have B1 := Lib.hid b1
  have H1 := Lib.hid h1
  have HS := Lib.hid hS
  clear b0 b1 h1 hS hb1
  go_wp2_with fail
  refine (refsum_any S hsz _).mono ?_
  rintro e w2 ⟨rfl, hb2⟩
  rw [HS.out]
  have b2 : Below w.heap.size w w2 := B1.out.trans (hb2.mono B1.out.size)
  have h2 : Has w2 w.heap.size 43 16 := H1.out.below hb2
  obtain ⟨OUT, hOUT⟩ : ∃ o, o = sha (framed z (ss.map sb)) := ⟨_, rfl⟩
  have hol : OUT.length = 32 := by rw [hOUT, sha_len]
  have hi25 : (Tryd.prog.info? 25).map (·.size) = some (u8s OUT).length := by rw [u8s_len', hol]; exact Tryd.size25
  have hsh : short z (ss.map sb) = OUT.take 16 := by rw [hOUT]; rfl
  rw [← hOUT]
  have HSH := Lib.hid hsh
  have hhz : ∀ Z : Array Value, Z.size = 32 → Has (w2.alloc (.cells Z 25)) w2.heap.size 25 (u8s OUT).length := fun Z hZ => has_new w2 _ _ _ (by rw [hZ, u8s_len', hol])
  have hok : u8s_ok OUT := hOUT ▸ sha_ok _
  have HOK := Lib.hid hok
  have B2 := Lib.hid b2
  have H2 := Lib.hid h2
  have HOL := Lib.hid hol
  have HI := Lib.hid hi25
  have HZ := Lib.hid hhz
  clear hOUT hsh hol hi25 hhz b2 h2 hb2 B1 H1 HS hsz hok
  go_wp2_with (first
    | (refine wpList_store_row rfl 25 (.tmp 5) (.tmp 11) rfl w2.heap.size rfl (u8s OUT) rfl 25 (HZ.out _ rfl) HI.out (one_u8s _) ?_; intro w3 hp3))
  obtain ⟨OB, hOB⟩ : ∃ n, n = w3.heap.size := ⟨_, rfl⟩
  obtain ⟨SB, hSB⟩ : ∃ n, n = w2.heap.size := ⟨_, rfl⟩
  have hz3 : w3.heap.size = w2.heap.size + 1 := by have := hp3.size; simpa using this
  have b3 : Below w.heap.size w w3 := hp3.below (B2.out.alloc B2.out.size _) B2.out.size
  have hstart : (w3.alloc (Obj.cells (Array.replicate 16 (Value.int .u8 0)) 43)).heap[OB]? = some (.cells (u8s (pad 16 (OUT.take 0))).toArray 43 (0, 0)) := by rw [hOB]; exact heap_alloc_new w3 _
  have hwb := b3.alloc b3.size (Obj.cells (Array.replicate 16 (Value.int .u8 0)) 43)
  have h3 : Has w3 w.heap.size 43 16 := H2.out.same ((hp3.other _ (by have := H2.out.lt; omega)).trans (Below.heap_alloc w2 _ _ H2.out.lt))
  have hwh : Has (w3.alloc (Obj.cells (Array.replicate 16 (Value.int .u8 0)) 43)) w.heap.size 43 16 := h3.same (Below.heap_alloc w3 _ _ h3.lt)
  have hws : (w3.alloc (Obj.cells (Array.replicate 16 (Value.int .u8 0)) 43)).heap[SB]? = some (.cells (u8s OUT).toArray 25 (0, 0)) := by rw [hSB, Below.heap_alloc w3 _ _ (by omega)]; exact hp3.blk
  have hlt1 : w.heap.size < SB := by rw [hSB]; exact H2.out.lt
  have hlt2 : SB < OB := by omega
  rw [← hOB, ← hSB]
  have V1 := Lib.hid hstart
  have V2 := Lib.hid hwb
  have V3 := Lib.hid hws
  have V4 := Lib.hid hwh
  clear hstart hwb hwh hws h3 b3 hp3 hz3
  change Code.wp _ _ _ _ (w3.alloc (Obj.cells (Array.replicate 16 (Value.int .u8 0)) 43))
  generalize w3.alloc (Obj.cells (Array.replicate 16 (Value.int .u8 0)) 43) = wo at *
  clear HZ B2 H2 hOB hSB
  have hsl : (OUT.take 16).length = 16 := by rw [List.length_take, HOL.out]; rfl
  have hi43 : (Tryd.prog.info? 43).map (·.size) = some (u8s (OUT.take 16)).length := by rw [u8s_len', hsl]; exact Tryd.size43
  have HSL := Lib.hid hsl
  have HI43 := Lib.hid hi43
  clear hsl hi43
  go_loopw [7, 13] (fun _ s wr => ∃ (i : Nat), i ≤ 16 ∧ s = .int .i64 i ∧ Hid (wr.heap[OB]? = some (.cells (u8s (pad 16 (OUT.take i))).toArray 43 (0, 0))) ∧ Hid (Below w.heap.size w wr) ∧ Hid (wr.heap[SB]? = some (.cells (u8s OUT).toArray 25 (0, 0))) ∧ Hid (Has wr w.heap.size 43 16))
    (fun _ s _ => 16 - (intOf s).toNat)
  case atStart => exact ⟨0, by omega, rfl, V1, V2, V3, V4⟩
  case round =>
    clear V1 V2 V3 V4
    obtain ⟨i, hi, rfl, V1, V2, V3, V4⟩ := hrel
    by_cases hlt : i < 16
    · obtain ⟨y, hy⟩ : ∃ y, y = OUT.getD i 0 := ⟨_, rfl⟩
      have hol := HOL.out
      have htl : (OUT.take i).length = i := by rw [List.length_take]; omega
      have cy : wr.cell? ⟨SB, i, none⟩ = some (.int .u8 y) := blk_cell V3.out i _ (by rw [hy, u8s, List.getElem?_map, List.getD_eq_getElem?_getD, List.getElem?_eq_getElem (by omega)]; rfl)
      have hpl : (u8s (pad 16 (OUT.take i))).length = 16 := by rw [u8s_len', pad_len _ _ (by omega)]
      obtain ⟨z0, d0⟩ : ∃ z, wr.cell? ⟨OB, i, none⟩ = some z := ⟨_, blk_cell V1.out i (u8s (pad 16 (OUT.take i)))[i] (by simp)⟩
      have d1 : wr.frozen? ⟨OB, i, none⟩ = false := blk_free V1.out i
      have hset : (u8s (pad 16 (OUT.take i))).set i (.int .u8 y) = u8s (pad 16 (OUT.take (i + 1))) := by
        have h := pad_set 16 (OUT.take i) y (by omega)
        rw [htl] at h
        rw [List.take_succ_eq_append_getElem (by omega : i < OUT.length), show OUT[i] = y by rw [hy, List.getD_eq_getElem?_getD, List.getElem?_eq_getElem (by omega)]; rfl, ← h, u8s, u8s, List.map_set]
      have F1 : Hid ((wr.setCell ⟨OB, i, none⟩ (.int .u8 y)).heap[OB]? = some (.cells (u8s (pad 16 (OUT.take (i + 1)))).toArray 43 (0, 0))) := Lib.hid (by have := blk_set V1.out i (.int .u8 y); rw [hset] at this; exact this)
      have F2 : Hid (Below w.heap.size w (wr.setCell ⟨OB, i, none⟩ (.int .u8 y))) := Lib.hid (V2.out.setCell (by simp; omega) _)
      have F3 : Hid ((wr.setCell ⟨OB, i, none⟩ (.int .u8 y)).heap[SB]? = some (.cells (u8s OUT).toArray 25 (0, 0))) := Lib.hid (by rw [heap_setCell_other wr ⟨OB, i, none⟩ _ _ (by simp; omega)]; exact V3.out)
      have F4 : Hid (Has (wr.setCell ⟨OB, i, none⟩ (.int .u8 y)) w.heap.size 43 16) := Lib.hid (V4.out.setCell _ _)
      clear V1 V2 V3 V4 hset hpl hy hol htl
      go_wp2
      go_roundw
      case rel => exact ⟨i + 1, by omega, by go_num, F1, F2, F3, F4⟩
      case measure => simp [intOf]; omega
    · obtain rfl : i = 16 := by omega
      have hpf : pad 16 (OUT.take 16) = OUT.take 16 := pad_full _ _ HSL.out
      rw [hpf] at V1
      obtain ⟨SH, hSH'⟩ : ∃ s, s = OUT.take 16 := ⟨_, rfl⟩
      rw [← hSH'] at V1 HI43 HSL
      have hra : wr.rangeAt OB 0 (u8s SH) := blk_range V1.out
      have hh : Has wr w.heap.size 43 (u8s SH).length := by rw [u8s_len', HSL.out]; exact V4.out
      have HRA := Lib.hid hra
      have HH := Lib.hid hh
      have HSS : Hid (short z (ss.map sb) = SH) := Lib.hid (by rw [HSH.out, hSH'])
      clear hra hh V1 V3 V4 hSH' hpf
      go_wp2_with (first
        | (refine wpList_load_g rfl 43 (.tmp 6) rfl OB 0 rfl (u8s SH) _ HRA.out Tryd.underlying43 rfl HI43.out ?_)
        | (refine wpList_store_row rfl 43 (.tmp 4) (.tmp 22) rfl w.heap.size rfl (u8s SH) rfl 43 HH.out HI43.out (one_u8s _) ?_; intro w10 hp10))
      refine bodyPost_ret (v := .agg (u8s SH).toArray) (results_cell_row rfl _ _ w.heap.size 43 _ (0, 0) _ rfl hp10.blk Tryd.underlying43 rfl (by simpa using HI43.out)) rfl ⟨by rw [HSS.out], hp10.below V2.out (Nat.le_refl _)⟩
end Go.Proofs.YtdedphhohiioiaaDoor
