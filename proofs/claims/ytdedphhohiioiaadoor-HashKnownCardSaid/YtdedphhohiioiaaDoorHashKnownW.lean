/- The law HashKnown, walked. -/
import Derived.Test.YtdedphhohiioiaaDoorHashBytesW
import Derived.Test.YtdedphhohiioiaaDoorRelyMore
namespace Go.Proofs.YtdedphhohiioiaaDoor
open Go.RowKit

theorem sha_none : (sha []).take 4 = [227, 176, 196, 66] := by kernel_rfl
def two : List Int := [97, 98, 99, 100, 98, 99, 100, 101, 99, 100, 101, 102, 100, 101, 102, 103, 101, 102, 103, 104, 102, 103, 104, 105, 103, 104, 105, 106, 104, 105, 106, 107, 105, 106, 107, 108, 106, 107, 108, 109, 107, 108, 109, 110, 108, 109, 110, 111, 109, 110, 111, 112, 110, 111, 112, 113]
theorem sha_two : (sha two).take 4 = [36, 141, 106, 97] := by kernel_rfl
theorem cell_ext {w w' : World} {p : Addr} {v : Value} (h : Ext w w') (hc : w.cell? p = some v) : w'.cell? p = some v := (h.cell (World.block_lt_of_cell? w p hc)).trans hc
theorem ext_drew {w w' : World} (h : Ext w.drew w') : Ext w w' := (Below.refl w.heap.size w).drew.trans (Below.mono h (Nat.le_refl _))
theorem cell_bel {w w' : World} {p : Addr} {v : Value} (hc : w.cell? p = some v) (h : Below w.heap.size w w') : w'.cell? p = some v := (h.cell (World.block_lt_of_cell? w p hc)).trans hc
theorem sb_cut (s : ByteArray) (c : Nat) (_h : c ≤ s.size) : sb (s.extract 0 c) ++ sb (s.extract c s.size) = sb s := by
  unfold sb
  rw [Lib.extract_data, Lib.extract_data, ← List.map_append, Nat.sub_zero, List.drop_zero]
  have : s.data.toList.length = s.size := by simp
  rw [List.take_of_length_le (i := s.size - c) (by simp), List.take_append_drop]

set_option maxHeartbeats 8000000 in
set_option maxRecDepth 100000 in
theorem hashKnown_any (z0 z1 : Int) (w : World) (hk : w.rangeAt 18 0 (u32s kk)) (h18 : 18 < w.heap.size) :
    Calls Tryd.prog 5 #[.int .i64 z0, .int .i64 z1] w fun e w' => e = .returned (.bool true) ∧ Below w.heap.size w w' := by
  have HK := Lib.hid hk
  clear hk
  obtain ⟨u, hu, hu0⟩ : ∃ u, IntKind.u64.wrap z0 = u ∧ 0 ≤ u := ⟨_, rfl, by rw [IntKind.wrap_u64]; omega⟩
  obtain ⟨v, hv, hv0⟩ : ∃ v, IntKind.u64.wrap z1 = v ∧ 0 ≤ v := ⟨_, rfl, by rw [IntKind.wrap_u64]; omega⟩
  have hm : u % 3 = 0 ∨ u % 3 = 1 ∨ u % 3 = 2 := by omega
  rcases hm with hm | hm | hm
  · obtain ⟨c, hc, hcl⟩ : ∃ c : Nat, v % 1 = (c : Int) ∧ c ≤ 0 := ⟨(v % 1).toNat, by omega, by omega⟩
    go_enter Tryd.func5, Tryd.ntmps5
    go_wp2_with fail
    refine (alive_hash _ HK.out h18).mono ?_
    rintro e w1 ⟨rfl, hb1⟩
    have BA := Lib.hid hb1
    clear hb1
    go_wp2_with fail
    generalize hS : ({ data := #[] } : ByteArray) = S
    generalize hW0 : World.alloc (w1.alloc _) _ = W0
    obtain ⟨b5, hb5⟩ : ∃ b, b = w1.heap.size := ⟨_, rfl⟩
    obtain ⟨b6, hb6⟩ : ∃ b, b = w1.heap.size + 1 := ⟨_, rfl⟩
    rw [← hb6, ← hb5]
    have hsz : S.size = 0 := by rw [← hS]; rfl
    have hsb : sb S = [] := by rw [← hS]; kernel_rfl
    have hbl : Below w.heap.size w W0 := by rw [← hW0]; exact (BA.out.alloc BA.out.size _).alloc (by have := BA.out.size; simp; omega) _
    have g0 : W0.cell? ⟨b6, 0, none⟩ = some (.int .u8 227) := by rw [← hW0, hb6, ← World.size_alloc w1 _, cell_of_row _ _ _ _ _ _ (heap_alloc_new _ _)]; rfl
    have g1 : W0.cell? ⟨b6, 1, none⟩ = some (.int .u8 176) := by rw [← hW0, hb6, ← World.size_alloc w1 _, cell_of_row _ _ _ _ _ _ (heap_alloc_new _ _)]; rfl
    have g2 : W0.cell? ⟨b6, 2, none⟩ = some (.int .u8 196) := by rw [← hW0, hb6, ← World.size_alloc w1 _, cell_of_row _ _ _ _ _ _ (heap_alloc_new _ _)]; rfl
    have g3 : W0.cell? ⟨b6, 3, none⟩ = some (.int .u8 66) := by rw [← hW0, hb6, ← World.size_alloc w1 _, cell_of_row _ _ _ _ _ _ (heap_alloc_new _ _)]; rfl
    have HSB := Lib.hid hsb
    have HSS := Lib.hid hsz
    have HBL := Lib.hid hbl
    have G0 := Lib.hid g0
    have G1 := Lib.hid g1
    have G2 := Lib.hid g2
    have G3 := Lib.hid g3
    clear hsz hsb hbl g0 g1 g2 g3 hW0 hS hb5 hb6 BA
    obtain ⟨B, hB⟩ : ∃ B, B = W0.heap.size := ⟨_, rfl⟩
    have hwB : w.heap.size ≤ B := by rw [hB]; exact HBL.out.size
    refine (new_any _).mono ?_
    rintro e w2 ⟨hb, rfl, hlt, hat, hb2⟩
    rw [← hB] at hlt hat hb2
    have HAT := Lib.hid hat
    have HB2 := Lib.hid (HBL.out.trans (hb2.mono hwB))
    have HX2 : Hid (Below W0.heap.size W0 w2) := Lib.hid (by rw [← hB]; exact hb2)
    have hBz : B ≤ w2.heap.size := by rw [hB]; exact HX2.out.size
    have hbz : hb < w2.heap.size := blk_lt hat.blk
    have HBE := Lib.hid hB
    have hcS : 0 ≤ S.size := by rw [HSS.out]; omega
    have S1 := S
    have S2 := S
    have hcat : sb ByteArray.empty ++ sb S = sb S := rfl
    have hs1 : (ByteArray.empty).size ≤ 56 := by have h := congrArg List.length hcat; have h2 := HSS.out; simp only [List.length_append, sb_len] at h; omega
    have hs2 : (S).size ≤ 56 := by have h := congrArg List.length hcat; have h2 := HSS.out; simp only [List.length_append, sb_len] at h; omega
    have HCAT := Lib.hid hcat
    have hcI : (0 : Int) ≤ (S.size : Int) := by omega
    clear hat hb2 hB hcat
    have HLT := Lib.hid hlt
    clear hlt
    go_wp2_with (refine wpList_conv_own w2.heap.size rfl 9 22 5 (.tmp 38) rfl ByteArray.empty rfl Tryd.underlying9 Tryd.underlying22 Tryd.underlying5 (by decide) (Below.refl _ w2) (Nat.le_refl _) ?_; intro A3 c3 w3 own3 bel3; have O3 := Lib.hid own3; have B3 := Lib.hid bel3; clear own3 bel3)
    have HL3 := Lib.hid (HB2.out.trans (B3.out.mono (by omega)))
    have hat3 := HAT.out.below B3.out
    have hno3 : (Value.slice A3 (ByteArray.empty).size c3).ownBlock ≠ some hb := fun e => by have := O3.out.lt hb e; omega
    refine (write_bs B hb [] (sb ByteArray.empty) (.slice none 0 0) _ w3 hat3 (Bs.of_own O3.out (sb_ok _)) hno3 (by rw [sb_len]; simp only [List.length_nil]; omega) (range_below HK.out HL3.out) (by omega) HLT.out).mono ?_
    rintro e w4 ⟨rfl, rv4, hat4, _, honly4⟩
    have hl4 : Below w.heap.size w w4 := HL3.out.trans ((honly4.low hat3 HLT.out (Nat.le_trans hBz B3.out.size)).mono hwB)
    have hx4 : Below B w3 w4 := honly4.low hat3 HLT.out (Nat.le_trans hBz B3.out.size)
    have HX4 := Lib.hid (HX2.out.trans ((B3.out.mono hBz).trans hx4 |>.mono (by rw [← HBE.out]; exact Nat.le_refl _)))
    have hB4 : B ≤ w4.heap.size := Nat.le_trans (Nat.le_trans hBz B3.out.size) honly4.size
    have hbz4 : hb < w4.heap.size := blk_lt hat4.blk
    have HL4 := Lib.hid hl4
    have HAT4 := Lib.hid hat4
    clear hat3 hno3 hl4 hat4 hx4 honly4 O3 B3 HL3 HAT
    go_wp2_with (refine wpList_conv_own w4.heap.size rfl 9 22 5 (.tmp 44) rfl S rfl Tryd.underlying9 Tryd.underlying22 Tryd.underlying5 (by omega) (Below.refl _ w4) (Nat.le_refl _) ?_; intro A5 c5 w5 own5 bel5; have O5 := Lib.hid own5; have B5 := Lib.hid bel5; clear own5 bel5)
    have HL5 := Lib.hid (HL4.out.trans (B5.out.mono (by omega)))
    have hat5 := HAT4.out.below B5.out
    have hno5 : (Value.slice A5 (S).size c5).ownBlock ≠ some hb := fun e => by have := O5.out.lt hb e; omega
    refine (write_bs B hb _ (sb S) rv4 _ w5 hat5 (Bs.of_own O5.out (sb_ok _)) hno5 (by rw [sb_len, List.nil_append, sb_len]; omega) (range_below HK.out HL5.out) (by omega) HLT.out).mono ?_
    rintro e w6 ⟨rfl, rv6, hat6, _, honly6⟩
    have hx6 : Below B w5 w6 := honly6.low hat5 HLT.out (Nat.le_trans hB4 B5.out.size)
    have hl6 : Below w.heap.size w w6 := HL5.out.trans (hx6.mono hwB)
    have HX6 := Lib.hid (HX4.out.trans ((B5.out.mono hB4).trans hx6 |>.mono (by rw [← HBE.out]; exact Nat.le_refl _)))
    rw [List.nil_append, HCAT.out] at hat6
    have HL6 := Lib.hid hl6
    have HAT6 := Lib.hid hat6
    clear hat5 hno5 hl6 hat6 hx6 honly6 O5 B5 HL5 HAT4 HL4 HX4
    obtain ⟨OUT, hOUT⟩ : ∃ o, o = sha (sb S) := ⟨_, rfl⟩
    have hol : OUT.length = 32 := by rw [hOUT, sha_len]
    have h4 : OUT.take 4 = [227, 176, 196, 66] := by rw [hOUT, HSB.out]; exact sha_none
    have hsame := run_same32 OUT hol
    have hi25 : (Tryd.prog.info? 25).map (·.size) = some (u8s OUT).length := by rw [u8s_len', hol]; exact Tryd.size25
    have HOUT := Lib.hid hOUT
    have HI := Lib.hid hi25
    have H4 := Lib.hid h4
    have HOL := Lib.hid hol
    clear hOUT hol h4 hi25
    go_wp2_with fail
    refine (sumM_any B hb (sb S) rv6 w6 HAT6.out (range_below HK.out HL6.out)).mono ?_
    rintro e w7 ⟨rfl, hb7⟩
    rw [← HOUT.out]
    have HL7 := Lib.hid (HL6.out.trans (hb7.mono HL6.out.size))
    have HX7 := Lib.hid (HX6.out.trans (hb7.mono HX6.out.size))
    clear hb7 HAT6 HL6 HX6
    have hh : ∀ Z : Array Value, Z.size = 32 → Has (w7.alloc (.cells Z 25)) w7.heap.size 25 (u8s OUT).length := fun Z hZ => has_new w7 _ _ _ (by rw [hZ, u8s_len', HOL.out])
    have HH := Lib.hid hh
    clear hh
    go_wp2_with (refine wpList_store_row rfl 25 (.tmp 11) (.tmp 48) rfl w7.heap.size rfl (u8s OUT) rfl 25 (HH.out _ rfl) HI.out (one_u8s _) ?_; intro w9 hp9; have HP9 := Lib.hid hp9; clear hp9)
    have bel9 := HP9.out.below (HL7.out.alloc HL7.out.size _) HL7.out.size
    have bel9x := HP9.out.below (HX7.out.alloc HX7.out.size _) HX7.out.size
    have hat : ∀ (i : Nat) (x : Int), i < 4 → [227, 176, 196, 66][i]? = some x → (u8s OUT)[i]? = some (.int .u8 x) := fun i x hi hx => by
      rw [← H4.out, List.getElem?_take, if_pos hi] at hx
      simp [u8s, hx]
    have D0 := Lib.hid (blk_cell HP9.out.blk 0 _ (hat 0 227 (by decide) rfl))
    have D1 := Lib.hid (blk_cell HP9.out.blk 1 _ (hat 1 176 (by decide) rfl))
    have D2 := Lib.hid (blk_cell HP9.out.blk 2 _ (hat 2 196 (by decide) rfl))
    have D3 := Lib.hid (blk_cell HP9.out.blk 3 _ (hat 3 66 (by decide) rfl))
    have E0 := Lib.hid (cell_bel G0.out bel9x)
    have E1 := Lib.hid (cell_bel G1.out bel9x)
    have E2 := Lib.hid (cell_bel G2.out bel9x)
    have E3 := Lib.hid (cell_bel G3.out bel9x)
    have HR := Lib.hid (blk_range HP9.out.blk)
    have HKE := Lib.hid (range_below HK.out bel9)
    have BEL9 := Lib.hid bel9
    have hz9 : 18 < w9.heap.size := by have := bel9.size; omega
    have HLS : Hid ((sb S).length ≤ 1099511627776) := Lib.hid (by rw [sb_len, HSS.out]; omega)
    have HSZ : Hid (S.size ≤ 140737488355328) := Lib.hid (by rw [HSS.out]; omega)
    obtain ⟨b11, hb11⟩ : ∃ b, b = w7.heap.size := ⟨_, rfl⟩
    rw [← hb11] at D0 D1 D2 D3 HR ⊢
    clear hat bel9 bel9x HP9 hb11 HH HX7 HL7 G0 G1 G2 G3
    refine wp_region_rely (by kernel_rfl) 41 (by kernel_rfl) (by kernel_rfl) Ext Ext.refl Ext.trans (fun i => match i with
      | 0 => fun _ v => v = .pointer (some ⟨b11, 0, none⟩)
      | 1 => fun _ v => v = .int .u8 227
      | 2 => fun _ v => v = .int .i64 0
      | 3 => fun _ v => v = .pointer (some ⟨b6, 0, none⟩)
      | 4 => fun _ v => v = .pointer (some ⟨b6, 0, none⟩)
      | 5 => fun _ v => v = .int .u8 227
      | 6 => fun _ v => v = .bool true
      | 7 => fun _ v => v = .bool true
      | 8 => fun _ v => v = .pointer (some ⟨b11, 1, none⟩)
      | 9 => fun _ v => v = .int .u8 176
      | 10 => fun _ v => v = .int .i64 0
      | 11 => fun _ v => v = .pointer (some ⟨b6, 0, none⟩)
      | 12 => fun _ v => v = .pointer (some ⟨b6, 1, none⟩)
      | 13 => fun _ v => v = .int .u8 176
      | 14 => fun _ v => v = .bool true
      | 15 => fun _ v => v = .bool true
      | 16 => fun _ v => v = .bool true
      | 17 => fun _ v => v = .pointer (some ⟨b11, 2, none⟩)
      | 18 => fun _ v => v = .int .u8 196
      | 19 => fun _ v => v = .int .i64 0
      | 20 => fun _ v => v = .pointer (some ⟨b6, 0, none⟩)
      | 21 => fun _ v => v = .pointer (some ⟨b6, 2, none⟩)
      | 22 => fun _ v => v = .int .u8 196
      | 23 => fun _ v => v = .bool true
      | 24 => fun _ v => v = .bool true
      | 25 => fun _ v => v = .bool true
      | 26 => fun _ v => v = .pointer (some ⟨b11, 3, none⟩)
      | 27 => fun _ v => v = .int .u8 66
      | 28 => fun _ v => v = .int .i64 0
      | 29 => fun _ v => v = .pointer (some ⟨b6, 0, none⟩)
      | 30 => fun _ v => v = .pointer (some ⟨b6, 3, none⟩)
      | 31 => fun _ v => v = .int .u8 66
      | 32 => fun _ v => v = .bool true
      | 33 => fun _ v => v = .bool true
      | 34 => fun _ v => v = .bool true
      | 35 => fun _ v => v = .agg (u8s OUT).toArray
      | 36 => fun _ v => v = .string S
      | 37 => fun w v => ∃ A c, v = .slice A S.size c ∧ Bs w v (sb S)
      | 38 => fun _ v => v = .agg (u8s OUT).toArray
      | 39 => fun _ v => v = .bool true
      | 40 => fun _ v => v = .bool true
      | _ => fun _ _ => False) ?_
    simp (maxSteps := 10000000) only [Rely, List.take_succ_cons, List.take_zero, List.drop_succ_cons, List.drop_zero, Nat.reduceAdd, Nat.zero_add, Act.put, List.setIfInBounds_toArray, List.set_cons_succ, List.set_cons_zero]
    refine ⟨?_, ?_, ?_, ?_, ?_, ?_, ?_, ?_, ?_, ?_, ?_, ?_, ?_, ?_, ?_, ?_, ?_, ?_, ?_, ?_, ?_, ?_, ?_, ?_, ?_, ?_, ?_, ?_, ?_, ?_, ?_, ?_, ?_, ?_, ?_, ?_, ?_, ?_, ?_, ?_, ?_, ?_⟩
    · refine step_plain rfl fun vs w1 hE hd => ?_
      exact gives_indexAt 25 _ _ rfl (.pointer (some ⟨b11, 0, none⟩)) (Value.int IntKind.i64 0) (.pointer (some ⟨b11, 0, none⟩)) rfl rfl (by go_simp) ⟨Ext.refl _, fun _ _ => rfl⟩
    · refine step_plain rfl fun vs w1 hE hd => ?_
      have hc := cell_ext hE D0.out
      exact gives_loadAt 5 _ rfl (.pointer (some ⟨b11, 0, none⟩)) (.int .u8 227) (show vs 0 = _ from hd.1) (by go_simp) ⟨Ext.refl _, fun _ _ => rfl⟩
    · refine step_plain rfl fun vs w1 hE hd => ?_
      exact gives_move _ (.int .i64 0) (.inl rfl) rfl ⟨Ext.refl _, fun _ _ => rfl⟩
    · refine step_plain rfl fun vs w1 hE hd => ?_
      exact gives_indexAt 38 _ _ rfl (.pointer (some ⟨b6, 0, none⟩)) (.int .i64 0) (.pointer (some ⟨b6, 0, none⟩)) rfl (show vs 2 = _ from hd.1) (by go_simp) ⟨Ext.refl _, fun _ _ => rfl⟩
    · refine step_plain rfl fun vs w1 hE hd => ?_
      exact gives_indexAt 37 _ _ rfl (.pointer (some ⟨b6, 0, none⟩)) (Value.int IntKind.i64 0) (.pointer (some ⟨b6, 0, none⟩)) (show vs 3 = _ from hd.1) rfl (by go_simp) ⟨Ext.refl _, fun _ _ => rfl⟩
    · refine step_plain rfl fun vs w1 hE hd => ?_
      have hc := cell_ext hE E0.out
      exact gives_loadAt 5 _ rfl (.pointer (some ⟨b6, 0, none⟩)) (.int .u8 227) (show vs 4 = _ from hd.1) (by go_simp) ⟨Ext.refl _, fun _ _ => rfl⟩
    · refine step_plain rfl fun vs w1 hE hd => ?_
      exact gives_binOp .eql 5 _ _ _ rfl (.int .u8 227) (.int .u8 227) (.bool true) (show vs 1 = _ from hd.1) (show vs 5 = _ from hd.2.1) (by go_simp) (by go_simp) ⟨Ext.refl _, fun _ _ => rfl⟩
    · refine step_plain rfl fun vs w1 hE hd => ?_
      exact gives_move _ (.bool true) (.inl rfl) (show vs 6 = _ from hd.1) ⟨Ext.refl _, fun _ _ => rfl⟩
    · refine step_guard 7 true 56 rfl rfl (fun _ => rfl) fun vs w1 hE hd => ⟨hd.1, ?_⟩
      exact gives_indexAt 25 _ _ rfl (.pointer (some ⟨b11, 0, none⟩)) (Value.int IntKind.i64 1) (.pointer (some ⟨b11, 1, none⟩)) rfl rfl (by go_simp) ⟨Ext.refl _, fun _ _ => rfl⟩
    · refine step_guard 7 true 56 rfl rfl (fun _ => rfl) fun vs w1 hE hd => ⟨hd.2.1, ?_⟩
      have hc := cell_ext hE D1.out
      exact gives_loadAt 5 _ rfl (.pointer (some ⟨b11, 1, none⟩)) (.int .u8 176) (show vs 8 = _ from hd.1) (by go_simp) ⟨Ext.refl _, fun _ _ => rfl⟩
    · refine step_guard 7 true 56 rfl rfl (fun _ => rfl) fun vs w1 hE hd => ⟨hd.1, ?_⟩
      exact gives_move _ (.int .i64 0) (.inl rfl) rfl ⟨Ext.refl _, fun _ _ => rfl⟩
    · refine step_guard 7 true 56 rfl rfl (fun _ => rfl) fun vs w1 hE hd => ⟨hd.2.1, ?_⟩
      exact gives_indexAt 38 _ _ rfl (.pointer (some ⟨b6, 0, none⟩)) (.int .i64 0) (.pointer (some ⟨b6, 0, none⟩)) rfl (show vs 10 = _ from hd.1) (by go_simp) ⟨Ext.refl _, fun _ _ => rfl⟩
    · refine step_guard 7 true 56 rfl rfl (fun _ => rfl) fun vs w1 hE hd => ⟨hd.2.1, ?_⟩
      exact gives_indexAt 37 _ _ rfl (.pointer (some ⟨b6, 0, none⟩)) (Value.int IntKind.i64 1) (.pointer (some ⟨b6, 1, none⟩)) (show vs 11 = _ from hd.1) rfl (by go_simp) ⟨Ext.refl _, fun _ _ => rfl⟩
    · refine step_guard 7 true 56 rfl rfl (fun _ => rfl) fun vs w1 hE hd => ⟨hd.2.1, ?_⟩
      have hc := cell_ext hE E1.out
      exact gives_loadAt 5 _ rfl (.pointer (some ⟨b6, 1, none⟩)) (.int .u8 176) (show vs 12 = _ from hd.1) (by go_simp) ⟨Ext.refl _, fun _ _ => rfl⟩
    · refine step_guard 7 true 56 rfl rfl (fun _ => rfl) fun vs w1 hE hd => ⟨hd.2.2.1, ?_⟩
      exact gives_binOp .eql 5 _ _ _ rfl (.int .u8 176) (.int .u8 176) (.bool true) (show vs 9 = _ from hd.1) (show vs 13 = _ from hd.2.1) (by go_simp) (by go_simp) ⟨Ext.refl _, fun _ _ => rfl⟩
    · refine step_plain rfl fun vs w1 hE hd => ?_
      exact gives_pick _ _ _ (.bool true) true rfl (show vs 7 = _ from hd.1) (show vs 14 = _ from hd.2.1) ⟨Ext.refl _, fun _ _ => rfl⟩
    · refine step_plain rfl fun vs w1 hE hd => ?_
      exact gives_move _ (.bool true) (.inl rfl) (show vs 15 = _ from hd.1) ⟨Ext.refl _, fun _ _ => rfl⟩
    · refine step_guard 16 true 65 rfl rfl (fun _ => rfl) fun vs w1 hE hd => ⟨hd.1, ?_⟩
      exact gives_indexAt 25 _ _ rfl (.pointer (some ⟨b11, 0, none⟩)) (Value.int IntKind.i64 2) (.pointer (some ⟨b11, 2, none⟩)) rfl rfl (by go_simp) ⟨Ext.refl _, fun _ _ => rfl⟩
    · refine step_guard 16 true 65 rfl rfl (fun _ => rfl) fun vs w1 hE hd => ⟨hd.2.1, ?_⟩
      have hc := cell_ext hE D2.out
      exact gives_loadAt 5 _ rfl (.pointer (some ⟨b11, 2, none⟩)) (.int .u8 196) (show vs 17 = _ from hd.1) (by go_simp) ⟨Ext.refl _, fun _ _ => rfl⟩
    · refine step_guard 16 true 65 rfl rfl (fun _ => rfl) fun vs w1 hE hd => ⟨hd.1, ?_⟩
      exact gives_move _ (.int .i64 0) (.inl rfl) rfl ⟨Ext.refl _, fun _ _ => rfl⟩
    · refine step_guard 16 true 65 rfl rfl (fun _ => rfl) fun vs w1 hE hd => ⟨hd.2.1, ?_⟩
      exact gives_indexAt 38 _ _ rfl (.pointer (some ⟨b6, 0, none⟩)) (.int .i64 0) (.pointer (some ⟨b6, 0, none⟩)) rfl (show vs 19 = _ from hd.1) (by go_simp) ⟨Ext.refl _, fun _ _ => rfl⟩
    · refine step_guard 16 true 65 rfl rfl (fun _ => rfl) fun vs w1 hE hd => ⟨hd.2.1, ?_⟩
      exact gives_indexAt 37 _ _ rfl (.pointer (some ⟨b6, 0, none⟩)) (Value.int IntKind.i64 2) (.pointer (some ⟨b6, 2, none⟩)) (show vs 20 = _ from hd.1) rfl (by go_simp) ⟨Ext.refl _, fun _ _ => rfl⟩
    · refine step_guard 16 true 65 rfl rfl (fun _ => rfl) fun vs w1 hE hd => ⟨hd.2.1, ?_⟩
      have hc := cell_ext hE E2.out
      exact gives_loadAt 5 _ rfl (.pointer (some ⟨b6, 2, none⟩)) (.int .u8 196) (show vs 21 = _ from hd.1) (by go_simp) ⟨Ext.refl _, fun _ _ => rfl⟩
    · refine step_guard 16 true 65 rfl rfl (fun _ => rfl) fun vs w1 hE hd => ⟨hd.2.2.1, ?_⟩
      exact gives_binOp .eql 5 _ _ _ rfl (.int .u8 196) (.int .u8 196) (.bool true) (show vs 18 = _ from hd.1) (show vs 22 = _ from hd.2.1) (by go_simp) (by go_simp) ⟨Ext.refl _, fun _ _ => rfl⟩
    · refine step_plain rfl fun vs w1 hE hd => ?_
      exact gives_pick _ _ _ (.bool true) true rfl (show vs 16 = _ from hd.1) (show vs 23 = _ from hd.2.1) ⟨Ext.refl _, fun _ _ => rfl⟩
    · refine step_plain rfl fun vs w1 hE hd => ?_
      exact gives_move _ (.bool true) (.inl rfl) (show vs 24 = _ from hd.1) ⟨Ext.refl _, fun _ _ => rfl⟩
    · refine step_guard 25 true 74 rfl rfl (fun _ => rfl) fun vs w1 hE hd => ⟨hd.1, ?_⟩
      exact gives_indexAt 25 _ _ rfl (.pointer (some ⟨b11, 0, none⟩)) (Value.int IntKind.i64 3) (.pointer (some ⟨b11, 3, none⟩)) rfl rfl (by go_simp) ⟨Ext.refl _, fun _ _ => rfl⟩
    · refine step_guard 25 true 74 rfl rfl (fun _ => rfl) fun vs w1 hE hd => ⟨hd.2.1, ?_⟩
      have hc := cell_ext hE D3.out
      exact gives_loadAt 5 _ rfl (.pointer (some ⟨b11, 3, none⟩)) (.int .u8 66) (show vs 26 = _ from hd.1) (by go_simp) ⟨Ext.refl _, fun _ _ => rfl⟩
    · refine step_guard 25 true 74 rfl rfl (fun _ => rfl) fun vs w1 hE hd => ⟨hd.1, ?_⟩
      exact gives_move _ (.int .i64 0) (.inl rfl) rfl ⟨Ext.refl _, fun _ _ => rfl⟩
    · refine step_guard 25 true 74 rfl rfl (fun _ => rfl) fun vs w1 hE hd => ⟨hd.2.1, ?_⟩
      exact gives_indexAt 38 _ _ rfl (.pointer (some ⟨b6, 0, none⟩)) (.int .i64 0) (.pointer (some ⟨b6, 0, none⟩)) rfl (show vs 28 = _ from hd.1) (by go_simp) ⟨Ext.refl _, fun _ _ => rfl⟩
    · refine step_guard 25 true 74 rfl rfl (fun _ => rfl) fun vs w1 hE hd => ⟨hd.2.1, ?_⟩
      exact gives_indexAt 37 _ _ rfl (.pointer (some ⟨b6, 0, none⟩)) (Value.int IntKind.i64 3) (.pointer (some ⟨b6, 3, none⟩)) (show vs 29 = _ from hd.1) rfl (by go_simp) ⟨Ext.refl _, fun _ _ => rfl⟩
    · refine step_guard 25 true 74 rfl rfl (fun _ => rfl) fun vs w1 hE hd => ⟨hd.2.1, ?_⟩
      have hc := cell_ext hE E3.out
      exact gives_loadAt 5 _ rfl (.pointer (some ⟨b6, 3, none⟩)) (.int .u8 66) (show vs 30 = _ from hd.1) (by go_simp) ⟨Ext.refl _, fun _ _ => rfl⟩
    · refine step_guard 25 true 74 rfl rfl (fun _ => rfl) fun vs w1 hE hd => ⟨hd.2.2.1, ?_⟩
      exact gives_binOp .eql 5 _ _ _ rfl (.int .u8 66) (.int .u8 66) (.bool true) (show vs 27 = _ from hd.1) (show vs 31 = _ from hd.2.1) (by go_simp) (by go_simp) ⟨Ext.refl _, fun _ _ => rfl⟩
    · refine step_plain rfl fun vs w1 hE hd => ?_
      exact gives_pick _ _ _ (.bool true) true rfl (show vs 25 = _ from hd.1) (show vs 32 = _ from hd.2.1) ⟨Ext.refl _, fun _ _ => rfl⟩
    · refine step_plain rfl fun vs w1 hE hd => ?_
      exact gives_move _ (.bool true) (.inl rfl) (show vs 33 = _ from hd.1) ⟨Ext.refl _, fun _ _ => rfl⟩
    · refine step_guard 34 true 83 rfl rfl (fun _ => rfl) fun vs w1 hE hd => ⟨hd.1, ?_⟩
      exact gives_load_row 25 _ rfl b11 0 rfl (u8s OUT) _ (range_below HR.out (ext_drew hE)) Tryd.underlying25 rfl HI.out ⟨Ext.refl _, fun _ _ => rfl⟩
    · refine step_guard 34 true 83 rfl rfl (fun _ => rfl) fun vs w1 hE hd => ⟨hd.1, ?_⟩
      exact gives_move _ (.string S) (.inl rfl) rfl ⟨Ext.refl _, fun _ _ => rfl⟩
    · refine step_guard 34 true 83 rfl rfl (fun _ => rfl) fun vs w1 hE hd => ⟨hd.2.1, ?_⟩
      refine gives_convert 9 22 _ rfl (.string S) _ (show vs 36 = _ from (hd.1)) (Lib.run_convert_string_bytes w1 9 22 5 S Tryd.underlying9 Tryd.underlying22 Tryd.underlying5) ⟨below_conv w1 5 S, fun w'' h => ⟨_, _, rfl, Bs.below (Bs.of_own (own_conv w1 S HSZ.out (Nat.le_refl _)) (sb_ok S)) h⟩⟩
    · refine step_guard 34 true 83 rfl rfl (fun _ => rfl) fun vs w1 hE hd => ⟨hd.2.1, ?_⟩
      refine gives_call 27 Tryd.call27 _ _ rfl rfl [vs 37] rfl ?_
      obtain ⟨A, c, e37, hbs⟩ := (hd.1)
      refine (sumF_bs (sb S) _ w1 hbs HLS.out (range_below HKE.out (ext_drew hE)) (by have := (ext_drew hE).size; omega)).mono ?_
      rintro e w2 ⟨rfl, hb⟩
      exact ⟨_, rfl, hb, fun _ _ => congrArg (fun o => Value.agg (u8s o).toArray) HOUT.out.symm⟩
    · refine step_guard 34 true 83 rfl rfl (fun _ => rfl) fun vs w1 hE hd => ⟨hd.2.2.1, ?_⟩
      exact gives_binOp .eql 25 _ _ _ rfl (.agg (u8s OUT).toArray) (.agg (u8s OUT).toArray) (.bool true) (show vs 35 = _ from hd.1) (show vs 38 = _ from hd.2.1) (by go_simp) (by go_simp) ⟨Ext.refl _, fun _ _ => rfl⟩
    · refine step_plain rfl fun vs w1 hE hd => ?_
      exact gives_pick _ _ _ (.bool true) true rfl (show vs 34 = _ from hd.1) (show vs 39 = _ from hd.2.1) ⟨Ext.refl _, fun _ _ => rfl⟩
    · intro vs w2 hE hR
      have h40 : vs 40 = .bool true := hR 40 (by omega)
      rw [h40]
      have hfin : Below w.heap.size w w2 := BEL9.out.drew.trans (hE.mono (by have := BEL9.out.size; simpa using this))
      clear hR hE
      go_wp2
      go_ret
      exact ⟨rfl, hfin⟩
  · obtain ⟨c, hc, hcl⟩ : ∃ c : Nat, v % 4 = (c : Int) ∧ c ≤ 3 := ⟨(v % 4).toNat, by omega, by omega⟩
    go_enter Tryd.func5, Tryd.ntmps5
    go_wp2_with fail
    refine (alive_hash _ HK.out h18).mono ?_
    rintro e w1 ⟨rfl, hb1⟩
    have BA := Lib.hid hb1
    clear hb1
    go_wp2_with fail
    generalize hS : ({ data := #[97, 98, 99] } : ByteArray) = S
    generalize hW0 : World.alloc (w1.alloc _) _ = W0
    obtain ⟨b5, hb5⟩ : ∃ b, b = w1.heap.size := ⟨_, rfl⟩
    obtain ⟨b6, hb6⟩ : ∃ b, b = w1.heap.size + 1 := ⟨_, rfl⟩
    rw [← hb6, ← hb5]
    have hsz : S.size = 3 := by rw [← hS]; rfl
    have hsb : sb S = [97, 98, 99] := by rw [← hS]; kernel_rfl
    have hbl : Below w.heap.size w W0 := by rw [← hW0]; exact (BA.out.alloc BA.out.size _).alloc (by have := BA.out.size; simp; omega) _
    have g0 : W0.cell? ⟨b6, 4, none⟩ = some (.int .u8 186) := by rw [← hW0, hb6, ← World.size_alloc w1 _, cell_of_row _ _ _ _ _ _ (heap_alloc_new _ _)]; rfl
    have g1 : W0.cell? ⟨b6, 5, none⟩ = some (.int .u8 120) := by rw [← hW0, hb6, ← World.size_alloc w1 _, cell_of_row _ _ _ _ _ _ (heap_alloc_new _ _)]; rfl
    have g2 : W0.cell? ⟨b6, 6, none⟩ = some (.int .u8 22) := by rw [← hW0, hb6, ← World.size_alloc w1 _, cell_of_row _ _ _ _ _ _ (heap_alloc_new _ _)]; rfl
    have g3 : W0.cell? ⟨b6, 7, none⟩ = some (.int .u8 191) := by rw [← hW0, hb6, ← World.size_alloc w1 _, cell_of_row _ _ _ _ _ _ (heap_alloc_new _ _)]; rfl
    have HSB := Lib.hid hsb
    have HSS := Lib.hid hsz
    have HBL := Lib.hid hbl
    have G0 := Lib.hid g0
    have G1 := Lib.hid g1
    have G2 := Lib.hid g2
    have G3 := Lib.hid g3
    clear hsz hsb hbl g0 g1 g2 g3 hW0 hS hb5 hb6 BA
    obtain ⟨B, hB⟩ : ∃ B, B = W0.heap.size := ⟨_, rfl⟩
    have hwB : w.heap.size ≤ B := by rw [hB]; exact HBL.out.size
    refine (new_any _).mono ?_
    rintro e w2 ⟨hb, rfl, hlt, hat, hb2⟩
    rw [← hB] at hlt hat hb2
    have HAT := Lib.hid hat
    have HB2 := Lib.hid (HBL.out.trans (hb2.mono hwB))
    have HX2 : Hid (Below W0.heap.size W0 w2) := Lib.hid (by rw [← hB]; exact hb2)
    have hBz : B ≤ w2.heap.size := by rw [hB]; exact HX2.out.size
    have hbz : hb < w2.heap.size := blk_lt hat.blk
    have HBE := Lib.hid hB
    have hcS : c ≤ S.size := by rw [HSS.out]; omega
    obtain ⟨S1, hS1⟩ : ∃ s, S.extract 0 c = s := ⟨_, rfl⟩
    obtain ⟨S2, hS2⟩ : ∃ s, S.extract c S.size = s := ⟨_, rfl⟩
    have hcat : sb S1 ++ sb S2 = sb S := by rw [← hS1, ← hS2]; exact sb_cut S c hcS
    have hs1 : (S1).size ≤ 56 := by have h := congrArg List.length hcat; have h2 := HSS.out; simp only [List.length_append, sb_len] at h; omega
    have hs2 : (S2).size ≤ 56 := by have h := congrArg List.length hcat; have h2 := HSS.out; simp only [List.length_append, sb_len] at h; omega
    have HCAT := Lib.hid hcat
    have hcI : (c : Int) ≤ (S.size : Int) := by omega
    clear hat hb2 hB hcat
    have HLT := Lib.hid hlt
    clear hlt
    go_wp2_with (refine wpList_conv_own w2.heap.size rfl 9 22 5 (.tmp 38) rfl S1 rfl Tryd.underlying9 Tryd.underlying22 Tryd.underlying5 (by omega) (Below.refl _ w2) (Nat.le_refl _) ?_; intro A3 c3 w3 own3 bel3; have O3 := Lib.hid own3; have B3 := Lib.hid bel3; clear own3 bel3)
    have HL3 := Lib.hid (HB2.out.trans (B3.out.mono (by omega)))
    have hat3 := HAT.out.below B3.out
    have hno3 : (Value.slice A3 (S1).size c3).ownBlock ≠ some hb := fun e => by have := O3.out.lt hb e; omega
    refine (write_bs B hb [] (sb S1) (.slice none 0 0) _ w3 hat3 (Bs.of_own O3.out (sb_ok _)) hno3 (by rw [sb_len]; simp only [List.length_nil]; omega) (range_below HK.out HL3.out) (by omega) HLT.out).mono ?_
    rintro e w4 ⟨rfl, rv4, hat4, _, honly4⟩
    have hl4 : Below w.heap.size w w4 := HL3.out.trans ((honly4.low hat3 HLT.out (Nat.le_trans hBz B3.out.size)).mono hwB)
    have hx4 : Below B w3 w4 := honly4.low hat3 HLT.out (Nat.le_trans hBz B3.out.size)
    have HX4 := Lib.hid (HX2.out.trans ((B3.out.mono hBz).trans hx4 |>.mono (by rw [← HBE.out]; exact Nat.le_refl _)))
    have hB4 : B ≤ w4.heap.size := Nat.le_trans (Nat.le_trans hBz B3.out.size) honly4.size
    have hbz4 : hb < w4.heap.size := blk_lt hat4.blk
    have HL4 := Lib.hid hl4
    have HAT4 := Lib.hid hat4
    clear hat3 hno3 hl4 hat4 hx4 honly4 O3 B3 HL3 HAT
    go_wp2_with (refine wpList_conv_own w4.heap.size rfl 9 22 5 (.tmp 44) rfl S2 rfl Tryd.underlying9 Tryd.underlying22 Tryd.underlying5 (by omega) (Below.refl _ w4) (Nat.le_refl _) ?_; intro A5 c5 w5 own5 bel5; have O5 := Lib.hid own5; have B5 := Lib.hid bel5; clear own5 bel5)
    have HL5 := Lib.hid (HL4.out.trans (B5.out.mono (by omega)))
    have hat5 := HAT4.out.below B5.out
    have hno5 : (Value.slice A5 (S2).size c5).ownBlock ≠ some hb := fun e => by have := O5.out.lt hb e; omega
    refine (write_bs B hb _ (sb S2) rv4 _ w5 hat5 (Bs.of_own O5.out (sb_ok _)) hno5 (by rw [sb_len, List.nil_append, sb_len]; omega) (range_below HK.out HL5.out) (by omega) HLT.out).mono ?_
    rintro e w6 ⟨rfl, rv6, hat6, _, honly6⟩
    have hx6 : Below B w5 w6 := honly6.low hat5 HLT.out (Nat.le_trans hB4 B5.out.size)
    have hl6 : Below w.heap.size w w6 := HL5.out.trans (hx6.mono hwB)
    have HX6 := Lib.hid (HX4.out.trans ((B5.out.mono hB4).trans hx6 |>.mono (by rw [← HBE.out]; exact Nat.le_refl _)))
    rw [List.nil_append, HCAT.out] at hat6
    have HL6 := Lib.hid hl6
    have HAT6 := Lib.hid hat6
    clear hat5 hno5 hl6 hat6 hx6 honly6 O5 B5 HL5 HAT4 HL4 HX4
    obtain ⟨OUT, hOUT⟩ : ∃ o, o = sha (sb S) := ⟨_, rfl⟩
    have hol : OUT.length = 32 := by rw [hOUT, sha_len]
    have h4 : OUT.take 4 = [186, 120, 22, 191] := by rw [hOUT, HSB.out]; exact sha_abc
    have hsame := run_same32 OUT hol
    have hi25 : (Tryd.prog.info? 25).map (·.size) = some (u8s OUT).length := by rw [u8s_len', hol]; exact Tryd.size25
    have HOUT := Lib.hid hOUT
    have HI := Lib.hid hi25
    have H4 := Lib.hid h4
    have HOL := Lib.hid hol
    clear hOUT hol h4 hi25
    go_wp2_with fail
    refine (sumM_any B hb (sb S) rv6 w6 HAT6.out (range_below HK.out HL6.out)).mono ?_
    rintro e w7 ⟨rfl, hb7⟩
    rw [← HOUT.out]
    have HL7 := Lib.hid (HL6.out.trans (hb7.mono HL6.out.size))
    have HX7 := Lib.hid (HX6.out.trans (hb7.mono HX6.out.size))
    clear hb7 HAT6 HL6 HX6
    have hh : ∀ Z : Array Value, Z.size = 32 → Has (w7.alloc (.cells Z 25)) w7.heap.size 25 (u8s OUT).length := fun Z hZ => has_new w7 _ _ _ (by rw [hZ, u8s_len', HOL.out])
    have HH := Lib.hid hh
    clear hh
    go_wp2_with (refine wpList_store_row rfl 25 (.tmp 11) (.tmp 48) rfl w7.heap.size rfl (u8s OUT) rfl 25 (HH.out _ rfl) HI.out (one_u8s _) ?_; intro w9 hp9; have HP9 := Lib.hid hp9; clear hp9)
    have bel9 := HP9.out.below (HL7.out.alloc HL7.out.size _) HL7.out.size
    have bel9x := HP9.out.below (HX7.out.alloc HX7.out.size _) HX7.out.size
    have hat : ∀ (i : Nat) (x : Int), i < 4 → [186, 120, 22, 191][i]? = some x → (u8s OUT)[i]? = some (.int .u8 x) := fun i x hi hx => by
      rw [← H4.out, List.getElem?_take, if_pos hi] at hx
      simp [u8s, hx]
    have D0 := Lib.hid (blk_cell HP9.out.blk 0 _ (hat 0 186 (by decide) rfl))
    have D1 := Lib.hid (blk_cell HP9.out.blk 1 _ (hat 1 120 (by decide) rfl))
    have D2 := Lib.hid (blk_cell HP9.out.blk 2 _ (hat 2 22 (by decide) rfl))
    have D3 := Lib.hid (blk_cell HP9.out.blk 3 _ (hat 3 191 (by decide) rfl))
    have E0 := Lib.hid (cell_bel G0.out bel9x)
    have E1 := Lib.hid (cell_bel G1.out bel9x)
    have E2 := Lib.hid (cell_bel G2.out bel9x)
    have E3 := Lib.hid (cell_bel G3.out bel9x)
    have HR := Lib.hid (blk_range HP9.out.blk)
    have HKE := Lib.hid (range_below HK.out bel9)
    have BEL9 := Lib.hid bel9
    have hz9 : 18 < w9.heap.size := by have := bel9.size; omega
    have HLS : Hid ((sb S).length ≤ 1099511627776) := Lib.hid (by rw [sb_len, HSS.out]; omega)
    have HSZ : Hid (S.size ≤ 140737488355328) := Lib.hid (by rw [HSS.out]; omega)
    obtain ⟨b11, hb11⟩ : ∃ b, b = w7.heap.size := ⟨_, rfl⟩
    rw [← hb11] at D0 D1 D2 D3 HR ⊢
    clear hat bel9 bel9x HP9 hb11 HH HX7 HL7 G0 G1 G2 G3
    refine wp_region_rely (by kernel_rfl) 41 (by kernel_rfl) (by kernel_rfl) Ext Ext.refl Ext.trans (fun i => match i with
      | 0 => fun _ v => v = .pointer (some ⟨b11, 0, none⟩)
      | 1 => fun _ v => v = .int .u8 186
      | 2 => fun _ v => v = .int .i64 1
      | 3 => fun _ v => v = .pointer (some ⟨b6, 4, none⟩)
      | 4 => fun _ v => v = .pointer (some ⟨b6, 4, none⟩)
      | 5 => fun _ v => v = .int .u8 186
      | 6 => fun _ v => v = .bool true
      | 7 => fun _ v => v = .bool true
      | 8 => fun _ v => v = .pointer (some ⟨b11, 1, none⟩)
      | 9 => fun _ v => v = .int .u8 120
      | 10 => fun _ v => v = .int .i64 1
      | 11 => fun _ v => v = .pointer (some ⟨b6, 4, none⟩)
      | 12 => fun _ v => v = .pointer (some ⟨b6, 5, none⟩)
      | 13 => fun _ v => v = .int .u8 120
      | 14 => fun _ v => v = .bool true
      | 15 => fun _ v => v = .bool true
      | 16 => fun _ v => v = .bool true
      | 17 => fun _ v => v = .pointer (some ⟨b11, 2, none⟩)
      | 18 => fun _ v => v = .int .u8 22
      | 19 => fun _ v => v = .int .i64 1
      | 20 => fun _ v => v = .pointer (some ⟨b6, 4, none⟩)
      | 21 => fun _ v => v = .pointer (some ⟨b6, 6, none⟩)
      | 22 => fun _ v => v = .int .u8 22
      | 23 => fun _ v => v = .bool true
      | 24 => fun _ v => v = .bool true
      | 25 => fun _ v => v = .bool true
      | 26 => fun _ v => v = .pointer (some ⟨b11, 3, none⟩)
      | 27 => fun _ v => v = .int .u8 191
      | 28 => fun _ v => v = .int .i64 1
      | 29 => fun _ v => v = .pointer (some ⟨b6, 4, none⟩)
      | 30 => fun _ v => v = .pointer (some ⟨b6, 7, none⟩)
      | 31 => fun _ v => v = .int .u8 191
      | 32 => fun _ v => v = .bool true
      | 33 => fun _ v => v = .bool true
      | 34 => fun _ v => v = .bool true
      | 35 => fun _ v => v = .agg (u8s OUT).toArray
      | 36 => fun _ v => v = .string S
      | 37 => fun w v => ∃ A c, v = .slice A S.size c ∧ Bs w v (sb S)
      | 38 => fun _ v => v = .agg (u8s OUT).toArray
      | 39 => fun _ v => v = .bool true
      | 40 => fun _ v => v = .bool true
      | _ => fun _ _ => False) ?_
    simp (maxSteps := 10000000) only [Rely, List.take_succ_cons, List.take_zero, List.drop_succ_cons, List.drop_zero, Nat.reduceAdd, Nat.zero_add, Act.put, List.setIfInBounds_toArray, List.set_cons_succ, List.set_cons_zero]
    refine ⟨?_, ?_, ?_, ?_, ?_, ?_, ?_, ?_, ?_, ?_, ?_, ?_, ?_, ?_, ?_, ?_, ?_, ?_, ?_, ?_, ?_, ?_, ?_, ?_, ?_, ?_, ?_, ?_, ?_, ?_, ?_, ?_, ?_, ?_, ?_, ?_, ?_, ?_, ?_, ?_, ?_, ?_⟩
    · refine step_plain rfl fun vs w1 hE hd => ?_
      exact gives_indexAt 25 _ _ rfl (.pointer (some ⟨b11, 0, none⟩)) (Value.int IntKind.i64 0) (.pointer (some ⟨b11, 0, none⟩)) rfl rfl (by go_simp) ⟨Ext.refl _, fun _ _ => rfl⟩
    · refine step_plain rfl fun vs w1 hE hd => ?_
      have hc := cell_ext hE D0.out
      exact gives_loadAt 5 _ rfl (.pointer (some ⟨b11, 0, none⟩)) (.int .u8 186) (show vs 0 = _ from hd.1) (by go_simp) ⟨Ext.refl _, fun _ _ => rfl⟩
    · refine step_plain rfl fun vs w1 hE hd => ?_
      exact gives_move _ (.int .i64 1) (.inl rfl) rfl ⟨Ext.refl _, fun _ _ => rfl⟩
    · refine step_plain rfl fun vs w1 hE hd => ?_
      exact gives_indexAt 38 _ _ rfl (.pointer (some ⟨b6, 0, none⟩)) (.int .i64 1) (.pointer (some ⟨b6, 4, none⟩)) rfl (show vs 2 = _ from hd.1) (by go_simp) ⟨Ext.refl _, fun _ _ => rfl⟩
    · refine step_plain rfl fun vs w1 hE hd => ?_
      exact gives_indexAt 37 _ _ rfl (.pointer (some ⟨b6, 4, none⟩)) (Value.int IntKind.i64 0) (.pointer (some ⟨b6, 4, none⟩)) (show vs 3 = _ from hd.1) rfl (by go_simp) ⟨Ext.refl _, fun _ _ => rfl⟩
    · refine step_plain rfl fun vs w1 hE hd => ?_
      have hc := cell_ext hE E0.out
      exact gives_loadAt 5 _ rfl (.pointer (some ⟨b6, 4, none⟩)) (.int .u8 186) (show vs 4 = _ from hd.1) (by go_simp) ⟨Ext.refl _, fun _ _ => rfl⟩
    · refine step_plain rfl fun vs w1 hE hd => ?_
      exact gives_binOp .eql 5 _ _ _ rfl (.int .u8 186) (.int .u8 186) (.bool true) (show vs 1 = _ from hd.1) (show vs 5 = _ from hd.2.1) (by go_simp) (by go_simp) ⟨Ext.refl _, fun _ _ => rfl⟩
    · refine step_plain rfl fun vs w1 hE hd => ?_
      exact gives_move _ (.bool true) (.inl rfl) (show vs 6 = _ from hd.1) ⟨Ext.refl _, fun _ _ => rfl⟩
    · refine step_guard 7 true 56 rfl rfl (fun _ => rfl) fun vs w1 hE hd => ⟨hd.1, ?_⟩
      exact gives_indexAt 25 _ _ rfl (.pointer (some ⟨b11, 0, none⟩)) (Value.int IntKind.i64 1) (.pointer (some ⟨b11, 1, none⟩)) rfl rfl (by go_simp) ⟨Ext.refl _, fun _ _ => rfl⟩
    · refine step_guard 7 true 56 rfl rfl (fun _ => rfl) fun vs w1 hE hd => ⟨hd.2.1, ?_⟩
      have hc := cell_ext hE D1.out
      exact gives_loadAt 5 _ rfl (.pointer (some ⟨b11, 1, none⟩)) (.int .u8 120) (show vs 8 = _ from hd.1) (by go_simp) ⟨Ext.refl _, fun _ _ => rfl⟩
    · refine step_guard 7 true 56 rfl rfl (fun _ => rfl) fun vs w1 hE hd => ⟨hd.1, ?_⟩
      exact gives_move _ (.int .i64 1) (.inl rfl) rfl ⟨Ext.refl _, fun _ _ => rfl⟩
    · refine step_guard 7 true 56 rfl rfl (fun _ => rfl) fun vs w1 hE hd => ⟨hd.2.1, ?_⟩
      exact gives_indexAt 38 _ _ rfl (.pointer (some ⟨b6, 0, none⟩)) (.int .i64 1) (.pointer (some ⟨b6, 4, none⟩)) rfl (show vs 10 = _ from hd.1) (by go_simp) ⟨Ext.refl _, fun _ _ => rfl⟩
    · refine step_guard 7 true 56 rfl rfl (fun _ => rfl) fun vs w1 hE hd => ⟨hd.2.1, ?_⟩
      exact gives_indexAt 37 _ _ rfl (.pointer (some ⟨b6, 4, none⟩)) (Value.int IntKind.i64 1) (.pointer (some ⟨b6, 5, none⟩)) (show vs 11 = _ from hd.1) rfl (by go_simp) ⟨Ext.refl _, fun _ _ => rfl⟩
    · refine step_guard 7 true 56 rfl rfl (fun _ => rfl) fun vs w1 hE hd => ⟨hd.2.1, ?_⟩
      have hc := cell_ext hE E1.out
      exact gives_loadAt 5 _ rfl (.pointer (some ⟨b6, 5, none⟩)) (.int .u8 120) (show vs 12 = _ from hd.1) (by go_simp) ⟨Ext.refl _, fun _ _ => rfl⟩
    · refine step_guard 7 true 56 rfl rfl (fun _ => rfl) fun vs w1 hE hd => ⟨hd.2.2.1, ?_⟩
      exact gives_binOp .eql 5 _ _ _ rfl (.int .u8 120) (.int .u8 120) (.bool true) (show vs 9 = _ from hd.1) (show vs 13 = _ from hd.2.1) (by go_simp) (by go_simp) ⟨Ext.refl _, fun _ _ => rfl⟩
    · refine step_plain rfl fun vs w1 hE hd => ?_
      exact gives_pick _ _ _ (.bool true) true rfl (show vs 7 = _ from hd.1) (show vs 14 = _ from hd.2.1) ⟨Ext.refl _, fun _ _ => rfl⟩
    · refine step_plain rfl fun vs w1 hE hd => ?_
      exact gives_move _ (.bool true) (.inl rfl) (show vs 15 = _ from hd.1) ⟨Ext.refl _, fun _ _ => rfl⟩
    · refine step_guard 16 true 65 rfl rfl (fun _ => rfl) fun vs w1 hE hd => ⟨hd.1, ?_⟩
      exact gives_indexAt 25 _ _ rfl (.pointer (some ⟨b11, 0, none⟩)) (Value.int IntKind.i64 2) (.pointer (some ⟨b11, 2, none⟩)) rfl rfl (by go_simp) ⟨Ext.refl _, fun _ _ => rfl⟩
    · refine step_guard 16 true 65 rfl rfl (fun _ => rfl) fun vs w1 hE hd => ⟨hd.2.1, ?_⟩
      have hc := cell_ext hE D2.out
      exact gives_loadAt 5 _ rfl (.pointer (some ⟨b11, 2, none⟩)) (.int .u8 22) (show vs 17 = _ from hd.1) (by go_simp) ⟨Ext.refl _, fun _ _ => rfl⟩
    · refine step_guard 16 true 65 rfl rfl (fun _ => rfl) fun vs w1 hE hd => ⟨hd.1, ?_⟩
      exact gives_move _ (.int .i64 1) (.inl rfl) rfl ⟨Ext.refl _, fun _ _ => rfl⟩
    · refine step_guard 16 true 65 rfl rfl (fun _ => rfl) fun vs w1 hE hd => ⟨hd.2.1, ?_⟩
      exact gives_indexAt 38 _ _ rfl (.pointer (some ⟨b6, 0, none⟩)) (.int .i64 1) (.pointer (some ⟨b6, 4, none⟩)) rfl (show vs 19 = _ from hd.1) (by go_simp) ⟨Ext.refl _, fun _ _ => rfl⟩
    · refine step_guard 16 true 65 rfl rfl (fun _ => rfl) fun vs w1 hE hd => ⟨hd.2.1, ?_⟩
      exact gives_indexAt 37 _ _ rfl (.pointer (some ⟨b6, 4, none⟩)) (Value.int IntKind.i64 2) (.pointer (some ⟨b6, 6, none⟩)) (show vs 20 = _ from hd.1) rfl (by go_simp) ⟨Ext.refl _, fun _ _ => rfl⟩
    · refine step_guard 16 true 65 rfl rfl (fun _ => rfl) fun vs w1 hE hd => ⟨hd.2.1, ?_⟩
      have hc := cell_ext hE E2.out
      exact gives_loadAt 5 _ rfl (.pointer (some ⟨b6, 6, none⟩)) (.int .u8 22) (show vs 21 = _ from hd.1) (by go_simp) ⟨Ext.refl _, fun _ _ => rfl⟩
    · refine step_guard 16 true 65 rfl rfl (fun _ => rfl) fun vs w1 hE hd => ⟨hd.2.2.1, ?_⟩
      exact gives_binOp .eql 5 _ _ _ rfl (.int .u8 22) (.int .u8 22) (.bool true) (show vs 18 = _ from hd.1) (show vs 22 = _ from hd.2.1) (by go_simp) (by go_simp) ⟨Ext.refl _, fun _ _ => rfl⟩
    · refine step_plain rfl fun vs w1 hE hd => ?_
      exact gives_pick _ _ _ (.bool true) true rfl (show vs 16 = _ from hd.1) (show vs 23 = _ from hd.2.1) ⟨Ext.refl _, fun _ _ => rfl⟩
    · refine step_plain rfl fun vs w1 hE hd => ?_
      exact gives_move _ (.bool true) (.inl rfl) (show vs 24 = _ from hd.1) ⟨Ext.refl _, fun _ _ => rfl⟩
    · refine step_guard 25 true 74 rfl rfl (fun _ => rfl) fun vs w1 hE hd => ⟨hd.1, ?_⟩
      exact gives_indexAt 25 _ _ rfl (.pointer (some ⟨b11, 0, none⟩)) (Value.int IntKind.i64 3) (.pointer (some ⟨b11, 3, none⟩)) rfl rfl (by go_simp) ⟨Ext.refl _, fun _ _ => rfl⟩
    · refine step_guard 25 true 74 rfl rfl (fun _ => rfl) fun vs w1 hE hd => ⟨hd.2.1, ?_⟩
      have hc := cell_ext hE D3.out
      exact gives_loadAt 5 _ rfl (.pointer (some ⟨b11, 3, none⟩)) (.int .u8 191) (show vs 26 = _ from hd.1) (by go_simp) ⟨Ext.refl _, fun _ _ => rfl⟩
    · refine step_guard 25 true 74 rfl rfl (fun _ => rfl) fun vs w1 hE hd => ⟨hd.1, ?_⟩
      exact gives_move _ (.int .i64 1) (.inl rfl) rfl ⟨Ext.refl _, fun _ _ => rfl⟩
    · refine step_guard 25 true 74 rfl rfl (fun _ => rfl) fun vs w1 hE hd => ⟨hd.2.1, ?_⟩
      exact gives_indexAt 38 _ _ rfl (.pointer (some ⟨b6, 0, none⟩)) (.int .i64 1) (.pointer (some ⟨b6, 4, none⟩)) rfl (show vs 28 = _ from hd.1) (by go_simp) ⟨Ext.refl _, fun _ _ => rfl⟩
    · refine step_guard 25 true 74 rfl rfl (fun _ => rfl) fun vs w1 hE hd => ⟨hd.2.1, ?_⟩
      exact gives_indexAt 37 _ _ rfl (.pointer (some ⟨b6, 4, none⟩)) (Value.int IntKind.i64 3) (.pointer (some ⟨b6, 7, none⟩)) (show vs 29 = _ from hd.1) rfl (by go_simp) ⟨Ext.refl _, fun _ _ => rfl⟩
    · refine step_guard 25 true 74 rfl rfl (fun _ => rfl) fun vs w1 hE hd => ⟨hd.2.1, ?_⟩
      have hc := cell_ext hE E3.out
      exact gives_loadAt 5 _ rfl (.pointer (some ⟨b6, 7, none⟩)) (.int .u8 191) (show vs 30 = _ from hd.1) (by go_simp) ⟨Ext.refl _, fun _ _ => rfl⟩
    · refine step_guard 25 true 74 rfl rfl (fun _ => rfl) fun vs w1 hE hd => ⟨hd.2.2.1, ?_⟩
      exact gives_binOp .eql 5 _ _ _ rfl (.int .u8 191) (.int .u8 191) (.bool true) (show vs 27 = _ from hd.1) (show vs 31 = _ from hd.2.1) (by go_simp) (by go_simp) ⟨Ext.refl _, fun _ _ => rfl⟩
    · refine step_plain rfl fun vs w1 hE hd => ?_
      exact gives_pick _ _ _ (.bool true) true rfl (show vs 25 = _ from hd.1) (show vs 32 = _ from hd.2.1) ⟨Ext.refl _, fun _ _ => rfl⟩
    · refine step_plain rfl fun vs w1 hE hd => ?_
      exact gives_move _ (.bool true) (.inl rfl) (show vs 33 = _ from hd.1) ⟨Ext.refl _, fun _ _ => rfl⟩
    · refine step_guard 34 true 83 rfl rfl (fun _ => rfl) fun vs w1 hE hd => ⟨hd.1, ?_⟩
      exact gives_load_row 25 _ rfl b11 0 rfl (u8s OUT) _ (range_below HR.out (ext_drew hE)) Tryd.underlying25 rfl HI.out ⟨Ext.refl _, fun _ _ => rfl⟩
    · refine step_guard 34 true 83 rfl rfl (fun _ => rfl) fun vs w1 hE hd => ⟨hd.1, ?_⟩
      exact gives_move _ (.string S) (.inl rfl) rfl ⟨Ext.refl _, fun _ _ => rfl⟩
    · refine step_guard 34 true 83 rfl rfl (fun _ => rfl) fun vs w1 hE hd => ⟨hd.2.1, ?_⟩
      refine gives_convert 9 22 _ rfl (.string S) _ (show vs 36 = _ from (hd.1)) (Lib.run_convert_string_bytes w1 9 22 5 S Tryd.underlying9 Tryd.underlying22 Tryd.underlying5) ⟨below_conv w1 5 S, fun w'' h => ⟨_, _, rfl, Bs.below (Bs.of_own (own_conv w1 S HSZ.out (Nat.le_refl _)) (sb_ok S)) h⟩⟩
    · refine step_guard 34 true 83 rfl rfl (fun _ => rfl) fun vs w1 hE hd => ⟨hd.2.1, ?_⟩
      refine gives_call 27 Tryd.call27 _ _ rfl rfl [vs 37] rfl ?_
      obtain ⟨A, c, e37, hbs⟩ := (hd.1)
      refine (sumF_bs (sb S) _ w1 hbs HLS.out (range_below HKE.out (ext_drew hE)) (by have := (ext_drew hE).size; omega)).mono ?_
      rintro e w2 ⟨rfl, hb⟩
      exact ⟨_, rfl, hb, fun _ _ => congrArg (fun o => Value.agg (u8s o).toArray) HOUT.out.symm⟩
    · refine step_guard 34 true 83 rfl rfl (fun _ => rfl) fun vs w1 hE hd => ⟨hd.2.2.1, ?_⟩
      exact gives_binOp .eql 25 _ _ _ rfl (.agg (u8s OUT).toArray) (.agg (u8s OUT).toArray) (.bool true) (show vs 35 = _ from hd.1) (show vs 38 = _ from hd.2.1) (by go_simp) (by go_simp) ⟨Ext.refl _, fun _ _ => rfl⟩
    · refine step_plain rfl fun vs w1 hE hd => ?_
      exact gives_pick _ _ _ (.bool true) true rfl (show vs 34 = _ from hd.1) (show vs 39 = _ from hd.2.1) ⟨Ext.refl _, fun _ _ => rfl⟩
    · intro vs w2 hE hR
      have h40 : vs 40 = .bool true := hR 40 (by omega)
      rw [h40]
      have hfin : Below w.heap.size w w2 := BEL9.out.drew.trans (hE.mono (by have := BEL9.out.size; simpa using this))
      clear hR hE
      go_wp2
      go_ret
      exact ⟨rfl, hfin⟩
  · obtain ⟨c, hc, hcl⟩ : ∃ c : Nat, v % 57 = (c : Int) ∧ c ≤ 56 := ⟨(v % 57).toNat, by omega, by omega⟩
    go_enter Tryd.func5, Tryd.ntmps5
    go_wp2_with fail
    refine (alive_hash _ HK.out h18).mono ?_
    rintro e w1 ⟨rfl, hb1⟩
    have BA := Lib.hid hb1
    clear hb1
    go_wp2_with fail
    generalize hS : ({ data := #[97, 98, 99, 100, 98, 99, 100, 101, 99, 100, 101, 102, 100, 101, 102, 103, 101, 102, 103, 104, 102, 103, 104, 105, 103, 104, 105, 106, 104, 105, 106, 107, 105, 106, 107, 108, 106, 107, 108, 109, 107, 108, 109, 110, 108, 109, 110, 111, 109, 110, 111, 112, 110, 111, 112, 113] } : ByteArray) = S
    generalize hW0 : World.alloc (w1.alloc _) _ = W0
    obtain ⟨b5, hb5⟩ : ∃ b, b = w1.heap.size := ⟨_, rfl⟩
    obtain ⟨b6, hb6⟩ : ∃ b, b = w1.heap.size + 1 := ⟨_, rfl⟩
    rw [← hb6, ← hb5]
    have hsz : S.size = 56 := by rw [← hS]; rfl
    have hsb : sb S = two := by rw [← hS]; kernel_rfl
    have hbl : Below w.heap.size w W0 := by rw [← hW0]; exact (BA.out.alloc BA.out.size _).alloc (by have := BA.out.size; simp; omega) _
    have g0 : W0.cell? ⟨b6, 8, none⟩ = some (.int .u8 36) := by rw [← hW0, hb6, ← World.size_alloc w1 _, cell_of_row _ _ _ _ _ _ (heap_alloc_new _ _)]; rfl
    have g1 : W0.cell? ⟨b6, 9, none⟩ = some (.int .u8 141) := by rw [← hW0, hb6, ← World.size_alloc w1 _, cell_of_row _ _ _ _ _ _ (heap_alloc_new _ _)]; rfl
    have g2 : W0.cell? ⟨b6, 10, none⟩ = some (.int .u8 106) := by rw [← hW0, hb6, ← World.size_alloc w1 _, cell_of_row _ _ _ _ _ _ (heap_alloc_new _ _)]; rfl
    have g3 : W0.cell? ⟨b6, 11, none⟩ = some (.int .u8 97) := by rw [← hW0, hb6, ← World.size_alloc w1 _, cell_of_row _ _ _ _ _ _ (heap_alloc_new _ _)]; rfl
    have HSB := Lib.hid hsb
    have HSS := Lib.hid hsz
    have HBL := Lib.hid hbl
    have G0 := Lib.hid g0
    have G1 := Lib.hid g1
    have G2 := Lib.hid g2
    have G3 := Lib.hid g3
    clear hsz hsb hbl g0 g1 g2 g3 hW0 hS hb5 hb6 BA
    obtain ⟨B, hB⟩ : ∃ B, B = W0.heap.size := ⟨_, rfl⟩
    have hwB : w.heap.size ≤ B := by rw [hB]; exact HBL.out.size
    refine (new_any _).mono ?_
    rintro e w2 ⟨hb, rfl, hlt, hat, hb2⟩
    rw [← hB] at hlt hat hb2
    have HAT := Lib.hid hat
    have HB2 := Lib.hid (HBL.out.trans (hb2.mono hwB))
    have HX2 : Hid (Below W0.heap.size W0 w2) := Lib.hid (by rw [← hB]; exact hb2)
    have hBz : B ≤ w2.heap.size := by rw [hB]; exact HX2.out.size
    have hbz : hb < w2.heap.size := blk_lt hat.blk
    have HBE := Lib.hid hB
    have hcS : c ≤ S.size := by rw [HSS.out]; omega
    obtain ⟨S1, hS1⟩ : ∃ s, S.extract 0 c = s := ⟨_, rfl⟩
    obtain ⟨S2, hS2⟩ : ∃ s, S.extract c S.size = s := ⟨_, rfl⟩
    have hcat : sb S1 ++ sb S2 = sb S := by rw [← hS1, ← hS2]; exact sb_cut S c hcS
    have hs1 : (S1).size ≤ 56 := by have h := congrArg List.length hcat; have h2 := HSS.out; simp only [List.length_append, sb_len] at h; omega
    have hs2 : (S2).size ≤ 56 := by have h := congrArg List.length hcat; have h2 := HSS.out; simp only [List.length_append, sb_len] at h; omega
    have HCAT := Lib.hid hcat
    have hcI : (c : Int) ≤ (S.size : Int) := by omega
    clear hat hb2 hB hcat
    have HLT := Lib.hid hlt
    clear hlt
    go_wp2_with (refine wpList_conv_own w2.heap.size rfl 9 22 5 (.tmp 38) rfl S1 rfl Tryd.underlying9 Tryd.underlying22 Tryd.underlying5 (by omega) (Below.refl _ w2) (Nat.le_refl _) ?_; intro A3 c3 w3 own3 bel3; have O3 := Lib.hid own3; have B3 := Lib.hid bel3; clear own3 bel3)
    have HL3 := Lib.hid (HB2.out.trans (B3.out.mono (by omega)))
    have hat3 := HAT.out.below B3.out
    have hno3 : (Value.slice A3 (S1).size c3).ownBlock ≠ some hb := fun e => by have := O3.out.lt hb e; omega
    refine (write_bs B hb [] (sb S1) (.slice none 0 0) _ w3 hat3 (Bs.of_own O3.out (sb_ok _)) hno3 (by rw [sb_len]; simp only [List.length_nil]; omega) (range_below HK.out HL3.out) (by omega) HLT.out).mono ?_
    rintro e w4 ⟨rfl, rv4, hat4, _, honly4⟩
    have hl4 : Below w.heap.size w w4 := HL3.out.trans ((honly4.low hat3 HLT.out (Nat.le_trans hBz B3.out.size)).mono hwB)
    have hx4 : Below B w3 w4 := honly4.low hat3 HLT.out (Nat.le_trans hBz B3.out.size)
    have HX4 := Lib.hid (HX2.out.trans ((B3.out.mono hBz).trans hx4 |>.mono (by rw [← HBE.out]; exact Nat.le_refl _)))
    have hB4 : B ≤ w4.heap.size := Nat.le_trans (Nat.le_trans hBz B3.out.size) honly4.size
    have hbz4 : hb < w4.heap.size := blk_lt hat4.blk
    have HL4 := Lib.hid hl4
    have HAT4 := Lib.hid hat4
    clear hat3 hno3 hl4 hat4 hx4 honly4 O3 B3 HL3 HAT
    go_wp2_with (refine wpList_conv_own w4.heap.size rfl 9 22 5 (.tmp 44) rfl S2 rfl Tryd.underlying9 Tryd.underlying22 Tryd.underlying5 (by omega) (Below.refl _ w4) (Nat.le_refl _) ?_; intro A5 c5 w5 own5 bel5; have O5 := Lib.hid own5; have B5 := Lib.hid bel5; clear own5 bel5)
    have HL5 := Lib.hid (HL4.out.trans (B5.out.mono (by omega)))
    have hat5 := HAT4.out.below B5.out
    have hno5 : (Value.slice A5 (S2).size c5).ownBlock ≠ some hb := fun e => by have := O5.out.lt hb e; omega
    refine (write_bs B hb _ (sb S2) rv4 _ w5 hat5 (Bs.of_own O5.out (sb_ok _)) hno5 (by rw [sb_len, List.nil_append, sb_len]; omega) (range_below HK.out HL5.out) (by omega) HLT.out).mono ?_
    rintro e w6 ⟨rfl, rv6, hat6, _, honly6⟩
    have hx6 : Below B w5 w6 := honly6.low hat5 HLT.out (Nat.le_trans hB4 B5.out.size)
    have hl6 : Below w.heap.size w w6 := HL5.out.trans (hx6.mono hwB)
    have HX6 := Lib.hid (HX4.out.trans ((B5.out.mono hB4).trans hx6 |>.mono (by rw [← HBE.out]; exact Nat.le_refl _)))
    rw [List.nil_append, HCAT.out] at hat6
    have HL6 := Lib.hid hl6
    have HAT6 := Lib.hid hat6
    clear hat5 hno5 hl6 hat6 hx6 honly6 O5 B5 HL5 HAT4 HL4 HX4
    obtain ⟨OUT, hOUT⟩ : ∃ o, o = sha (sb S) := ⟨_, rfl⟩
    have hol : OUT.length = 32 := by rw [hOUT, sha_len]
    have h4 : OUT.take 4 = [36, 141, 106, 97] := by rw [hOUT, HSB.out]; exact sha_two
    have hsame := run_same32 OUT hol
    have hi25 : (Tryd.prog.info? 25).map (·.size) = some (u8s OUT).length := by rw [u8s_len', hol]; exact Tryd.size25
    have HOUT := Lib.hid hOUT
    have HI := Lib.hid hi25
    have H4 := Lib.hid h4
    have HOL := Lib.hid hol
    clear hOUT hol h4 hi25
    go_wp2_with fail
    refine (sumM_any B hb (sb S) rv6 w6 HAT6.out (range_below HK.out HL6.out)).mono ?_
    rintro e w7 ⟨rfl, hb7⟩
    rw [← HOUT.out]
    have HL7 := Lib.hid (HL6.out.trans (hb7.mono HL6.out.size))
    have HX7 := Lib.hid (HX6.out.trans (hb7.mono HX6.out.size))
    clear hb7 HAT6 HL6 HX6
    have hh : ∀ Z : Array Value, Z.size = 32 → Has (w7.alloc (.cells Z 25)) w7.heap.size 25 (u8s OUT).length := fun Z hZ => has_new w7 _ _ _ (by rw [hZ, u8s_len', HOL.out])
    have HH := Lib.hid hh
    clear hh
    go_wp2_with (refine wpList_store_row rfl 25 (.tmp 11) (.tmp 48) rfl w7.heap.size rfl (u8s OUT) rfl 25 (HH.out _ rfl) HI.out (one_u8s _) ?_; intro w9 hp9; have HP9 := Lib.hid hp9; clear hp9)
    have bel9 := HP9.out.below (HL7.out.alloc HL7.out.size _) HL7.out.size
    have bel9x := HP9.out.below (HX7.out.alloc HX7.out.size _) HX7.out.size
    have hat : ∀ (i : Nat) (x : Int), i < 4 → [36, 141, 106, 97][i]? = some x → (u8s OUT)[i]? = some (.int .u8 x) := fun i x hi hx => by
      rw [← H4.out, List.getElem?_take, if_pos hi] at hx
      simp [u8s, hx]
    have D0 := Lib.hid (blk_cell HP9.out.blk 0 _ (hat 0 36 (by decide) rfl))
    have D1 := Lib.hid (blk_cell HP9.out.blk 1 _ (hat 1 141 (by decide) rfl))
    have D2 := Lib.hid (blk_cell HP9.out.blk 2 _ (hat 2 106 (by decide) rfl))
    have D3 := Lib.hid (blk_cell HP9.out.blk 3 _ (hat 3 97 (by decide) rfl))
    have E0 := Lib.hid (cell_bel G0.out bel9x)
    have E1 := Lib.hid (cell_bel G1.out bel9x)
    have E2 := Lib.hid (cell_bel G2.out bel9x)
    have E3 := Lib.hid (cell_bel G3.out bel9x)
    have HR := Lib.hid (blk_range HP9.out.blk)
    have HKE := Lib.hid (range_below HK.out bel9)
    have BEL9 := Lib.hid bel9
    have hz9 : 18 < w9.heap.size := by have := bel9.size; omega
    have HLS : Hid ((sb S).length ≤ 1099511627776) := Lib.hid (by rw [sb_len, HSS.out]; omega)
    have HSZ : Hid (S.size ≤ 140737488355328) := Lib.hid (by rw [HSS.out]; omega)
    obtain ⟨b11, hb11⟩ : ∃ b, b = w7.heap.size := ⟨_, rfl⟩
    rw [← hb11] at D0 D1 D2 D3 HR ⊢
    clear hat bel9 bel9x HP9 hb11 HH HX7 HL7 G0 G1 G2 G3
    refine wp_region_rely (by kernel_rfl) 41 (by kernel_rfl) (by kernel_rfl) Ext Ext.refl Ext.trans (fun i => match i with
      | 0 => fun _ v => v = .pointer (some ⟨b11, 0, none⟩)
      | 1 => fun _ v => v = .int .u8 36
      | 2 => fun _ v => v = .int .i64 2
      | 3 => fun _ v => v = .pointer (some ⟨b6, 8, none⟩)
      | 4 => fun _ v => v = .pointer (some ⟨b6, 8, none⟩)
      | 5 => fun _ v => v = .int .u8 36
      | 6 => fun _ v => v = .bool true
      | 7 => fun _ v => v = .bool true
      | 8 => fun _ v => v = .pointer (some ⟨b11, 1, none⟩)
      | 9 => fun _ v => v = .int .u8 141
      | 10 => fun _ v => v = .int .i64 2
      | 11 => fun _ v => v = .pointer (some ⟨b6, 8, none⟩)
      | 12 => fun _ v => v = .pointer (some ⟨b6, 9, none⟩)
      | 13 => fun _ v => v = .int .u8 141
      | 14 => fun _ v => v = .bool true
      | 15 => fun _ v => v = .bool true
      | 16 => fun _ v => v = .bool true
      | 17 => fun _ v => v = .pointer (some ⟨b11, 2, none⟩)
      | 18 => fun _ v => v = .int .u8 106
      | 19 => fun _ v => v = .int .i64 2
      | 20 => fun _ v => v = .pointer (some ⟨b6, 8, none⟩)
      | 21 => fun _ v => v = .pointer (some ⟨b6, 10, none⟩)
      | 22 => fun _ v => v = .int .u8 106
      | 23 => fun _ v => v = .bool true
      | 24 => fun _ v => v = .bool true
      | 25 => fun _ v => v = .bool true
      | 26 => fun _ v => v = .pointer (some ⟨b11, 3, none⟩)
      | 27 => fun _ v => v = .int .u8 97
      | 28 => fun _ v => v = .int .i64 2
      | 29 => fun _ v => v = .pointer (some ⟨b6, 8, none⟩)
      | 30 => fun _ v => v = .pointer (some ⟨b6, 11, none⟩)
      | 31 => fun _ v => v = .int .u8 97
      | 32 => fun _ v => v = .bool true
      | 33 => fun _ v => v = .bool true
      | 34 => fun _ v => v = .bool true
      | 35 => fun _ v => v = .agg (u8s OUT).toArray
      | 36 => fun _ v => v = .string S
      | 37 => fun w v => ∃ A c, v = .slice A S.size c ∧ Bs w v (sb S)
      | 38 => fun _ v => v = .agg (u8s OUT).toArray
      | 39 => fun _ v => v = .bool true
      | 40 => fun _ v => v = .bool true
      | _ => fun _ _ => False) ?_
    simp (maxSteps := 10000000) only [Rely, List.take_succ_cons, List.take_zero, List.drop_succ_cons, List.drop_zero, Nat.reduceAdd, Nat.zero_add, Act.put, List.setIfInBounds_toArray, List.set_cons_succ, List.set_cons_zero]
    refine ⟨?_, ?_, ?_, ?_, ?_, ?_, ?_, ?_, ?_, ?_, ?_, ?_, ?_, ?_, ?_, ?_, ?_, ?_, ?_, ?_, ?_, ?_, ?_, ?_, ?_, ?_, ?_, ?_, ?_, ?_, ?_, ?_, ?_, ?_, ?_, ?_, ?_, ?_, ?_, ?_, ?_, ?_⟩
    · refine step_plain rfl fun vs w1 hE hd => ?_
      exact gives_indexAt 25 _ _ rfl (.pointer (some ⟨b11, 0, none⟩)) (Value.int IntKind.i64 0) (.pointer (some ⟨b11, 0, none⟩)) rfl rfl (by go_simp) ⟨Ext.refl _, fun _ _ => rfl⟩
    · refine step_plain rfl fun vs w1 hE hd => ?_
      have hc := cell_ext hE D0.out
      exact gives_loadAt 5 _ rfl (.pointer (some ⟨b11, 0, none⟩)) (.int .u8 36) (show vs 0 = _ from hd.1) (by go_simp) ⟨Ext.refl _, fun _ _ => rfl⟩
    · refine step_plain rfl fun vs w1 hE hd => ?_
      exact gives_move _ (.int .i64 2) (.inl rfl) rfl ⟨Ext.refl _, fun _ _ => rfl⟩
    · refine step_plain rfl fun vs w1 hE hd => ?_
      exact gives_indexAt 38 _ _ rfl (.pointer (some ⟨b6, 0, none⟩)) (.int .i64 2) (.pointer (some ⟨b6, 8, none⟩)) rfl (show vs 2 = _ from hd.1) (by go_simp) ⟨Ext.refl _, fun _ _ => rfl⟩
    · refine step_plain rfl fun vs w1 hE hd => ?_
      exact gives_indexAt 37 _ _ rfl (.pointer (some ⟨b6, 8, none⟩)) (Value.int IntKind.i64 0) (.pointer (some ⟨b6, 8, none⟩)) (show vs 3 = _ from hd.1) rfl (by go_simp) ⟨Ext.refl _, fun _ _ => rfl⟩
    · refine step_plain rfl fun vs w1 hE hd => ?_
      have hc := cell_ext hE E0.out
      exact gives_loadAt 5 _ rfl (.pointer (some ⟨b6, 8, none⟩)) (.int .u8 36) (show vs 4 = _ from hd.1) (by go_simp) ⟨Ext.refl _, fun _ _ => rfl⟩
    · refine step_plain rfl fun vs w1 hE hd => ?_
      exact gives_binOp .eql 5 _ _ _ rfl (.int .u8 36) (.int .u8 36) (.bool true) (show vs 1 = _ from hd.1) (show vs 5 = _ from hd.2.1) (by go_simp) (by go_simp) ⟨Ext.refl _, fun _ _ => rfl⟩
    · refine step_plain rfl fun vs w1 hE hd => ?_
      exact gives_move _ (.bool true) (.inl rfl) (show vs 6 = _ from hd.1) ⟨Ext.refl _, fun _ _ => rfl⟩
    · refine step_guard 7 true 56 rfl rfl (fun _ => rfl) fun vs w1 hE hd => ⟨hd.1, ?_⟩
      exact gives_indexAt 25 _ _ rfl (.pointer (some ⟨b11, 0, none⟩)) (Value.int IntKind.i64 1) (.pointer (some ⟨b11, 1, none⟩)) rfl rfl (by go_simp) ⟨Ext.refl _, fun _ _ => rfl⟩
    · refine step_guard 7 true 56 rfl rfl (fun _ => rfl) fun vs w1 hE hd => ⟨hd.2.1, ?_⟩
      have hc := cell_ext hE D1.out
      exact gives_loadAt 5 _ rfl (.pointer (some ⟨b11, 1, none⟩)) (.int .u8 141) (show vs 8 = _ from hd.1) (by go_simp) ⟨Ext.refl _, fun _ _ => rfl⟩
    · refine step_guard 7 true 56 rfl rfl (fun _ => rfl) fun vs w1 hE hd => ⟨hd.1, ?_⟩
      exact gives_move _ (.int .i64 2) (.inl rfl) rfl ⟨Ext.refl _, fun _ _ => rfl⟩
    · refine step_guard 7 true 56 rfl rfl (fun _ => rfl) fun vs w1 hE hd => ⟨hd.2.1, ?_⟩
      exact gives_indexAt 38 _ _ rfl (.pointer (some ⟨b6, 0, none⟩)) (.int .i64 2) (.pointer (some ⟨b6, 8, none⟩)) rfl (show vs 10 = _ from hd.1) (by go_simp) ⟨Ext.refl _, fun _ _ => rfl⟩
    · refine step_guard 7 true 56 rfl rfl (fun _ => rfl) fun vs w1 hE hd => ⟨hd.2.1, ?_⟩
      exact gives_indexAt 37 _ _ rfl (.pointer (some ⟨b6, 8, none⟩)) (Value.int IntKind.i64 1) (.pointer (some ⟨b6, 9, none⟩)) (show vs 11 = _ from hd.1) rfl (by go_simp) ⟨Ext.refl _, fun _ _ => rfl⟩
    · refine step_guard 7 true 56 rfl rfl (fun _ => rfl) fun vs w1 hE hd => ⟨hd.2.1, ?_⟩
      have hc := cell_ext hE E1.out
      exact gives_loadAt 5 _ rfl (.pointer (some ⟨b6, 9, none⟩)) (.int .u8 141) (show vs 12 = _ from hd.1) (by go_simp) ⟨Ext.refl _, fun _ _ => rfl⟩
    · refine step_guard 7 true 56 rfl rfl (fun _ => rfl) fun vs w1 hE hd => ⟨hd.2.2.1, ?_⟩
      exact gives_binOp .eql 5 _ _ _ rfl (.int .u8 141) (.int .u8 141) (.bool true) (show vs 9 = _ from hd.1) (show vs 13 = _ from hd.2.1) (by go_simp) (by go_simp) ⟨Ext.refl _, fun _ _ => rfl⟩
    · refine step_plain rfl fun vs w1 hE hd => ?_
      exact gives_pick _ _ _ (.bool true) true rfl (show vs 7 = _ from hd.1) (show vs 14 = _ from hd.2.1) ⟨Ext.refl _, fun _ _ => rfl⟩
    · refine step_plain rfl fun vs w1 hE hd => ?_
      exact gives_move _ (.bool true) (.inl rfl) (show vs 15 = _ from hd.1) ⟨Ext.refl _, fun _ _ => rfl⟩
    · refine step_guard 16 true 65 rfl rfl (fun _ => rfl) fun vs w1 hE hd => ⟨hd.1, ?_⟩
      exact gives_indexAt 25 _ _ rfl (.pointer (some ⟨b11, 0, none⟩)) (Value.int IntKind.i64 2) (.pointer (some ⟨b11, 2, none⟩)) rfl rfl (by go_simp) ⟨Ext.refl _, fun _ _ => rfl⟩
    · refine step_guard 16 true 65 rfl rfl (fun _ => rfl) fun vs w1 hE hd => ⟨hd.2.1, ?_⟩
      have hc := cell_ext hE D2.out
      exact gives_loadAt 5 _ rfl (.pointer (some ⟨b11, 2, none⟩)) (.int .u8 106) (show vs 17 = _ from hd.1) (by go_simp) ⟨Ext.refl _, fun _ _ => rfl⟩
    · refine step_guard 16 true 65 rfl rfl (fun _ => rfl) fun vs w1 hE hd => ⟨hd.1, ?_⟩
      exact gives_move _ (.int .i64 2) (.inl rfl) rfl ⟨Ext.refl _, fun _ _ => rfl⟩
    · refine step_guard 16 true 65 rfl rfl (fun _ => rfl) fun vs w1 hE hd => ⟨hd.2.1, ?_⟩
      exact gives_indexAt 38 _ _ rfl (.pointer (some ⟨b6, 0, none⟩)) (.int .i64 2) (.pointer (some ⟨b6, 8, none⟩)) rfl (show vs 19 = _ from hd.1) (by go_simp) ⟨Ext.refl _, fun _ _ => rfl⟩
    · refine step_guard 16 true 65 rfl rfl (fun _ => rfl) fun vs w1 hE hd => ⟨hd.2.1, ?_⟩
      exact gives_indexAt 37 _ _ rfl (.pointer (some ⟨b6, 8, none⟩)) (Value.int IntKind.i64 2) (.pointer (some ⟨b6, 10, none⟩)) (show vs 20 = _ from hd.1) rfl (by go_simp) ⟨Ext.refl _, fun _ _ => rfl⟩
    · refine step_guard 16 true 65 rfl rfl (fun _ => rfl) fun vs w1 hE hd => ⟨hd.2.1, ?_⟩
      have hc := cell_ext hE E2.out
      exact gives_loadAt 5 _ rfl (.pointer (some ⟨b6, 10, none⟩)) (.int .u8 106) (show vs 21 = _ from hd.1) (by go_simp) ⟨Ext.refl _, fun _ _ => rfl⟩
    · refine step_guard 16 true 65 rfl rfl (fun _ => rfl) fun vs w1 hE hd => ⟨hd.2.2.1, ?_⟩
      exact gives_binOp .eql 5 _ _ _ rfl (.int .u8 106) (.int .u8 106) (.bool true) (show vs 18 = _ from hd.1) (show vs 22 = _ from hd.2.1) (by go_simp) (by go_simp) ⟨Ext.refl _, fun _ _ => rfl⟩
    · refine step_plain rfl fun vs w1 hE hd => ?_
      exact gives_pick _ _ _ (.bool true) true rfl (show vs 16 = _ from hd.1) (show vs 23 = _ from hd.2.1) ⟨Ext.refl _, fun _ _ => rfl⟩
    · refine step_plain rfl fun vs w1 hE hd => ?_
      exact gives_move _ (.bool true) (.inl rfl) (show vs 24 = _ from hd.1) ⟨Ext.refl _, fun _ _ => rfl⟩
    · refine step_guard 25 true 74 rfl rfl (fun _ => rfl) fun vs w1 hE hd => ⟨hd.1, ?_⟩
      exact gives_indexAt 25 _ _ rfl (.pointer (some ⟨b11, 0, none⟩)) (Value.int IntKind.i64 3) (.pointer (some ⟨b11, 3, none⟩)) rfl rfl (by go_simp) ⟨Ext.refl _, fun _ _ => rfl⟩
    · refine step_guard 25 true 74 rfl rfl (fun _ => rfl) fun vs w1 hE hd => ⟨hd.2.1, ?_⟩
      have hc := cell_ext hE D3.out
      exact gives_loadAt 5 _ rfl (.pointer (some ⟨b11, 3, none⟩)) (.int .u8 97) (show vs 26 = _ from hd.1) (by go_simp) ⟨Ext.refl _, fun _ _ => rfl⟩
    · refine step_guard 25 true 74 rfl rfl (fun _ => rfl) fun vs w1 hE hd => ⟨hd.1, ?_⟩
      exact gives_move _ (.int .i64 2) (.inl rfl) rfl ⟨Ext.refl _, fun _ _ => rfl⟩
    · refine step_guard 25 true 74 rfl rfl (fun _ => rfl) fun vs w1 hE hd => ⟨hd.2.1, ?_⟩
      exact gives_indexAt 38 _ _ rfl (.pointer (some ⟨b6, 0, none⟩)) (.int .i64 2) (.pointer (some ⟨b6, 8, none⟩)) rfl (show vs 28 = _ from hd.1) (by go_simp) ⟨Ext.refl _, fun _ _ => rfl⟩
    · refine step_guard 25 true 74 rfl rfl (fun _ => rfl) fun vs w1 hE hd => ⟨hd.2.1, ?_⟩
      exact gives_indexAt 37 _ _ rfl (.pointer (some ⟨b6, 8, none⟩)) (Value.int IntKind.i64 3) (.pointer (some ⟨b6, 11, none⟩)) (show vs 29 = _ from hd.1) rfl (by go_simp) ⟨Ext.refl _, fun _ _ => rfl⟩
    · refine step_guard 25 true 74 rfl rfl (fun _ => rfl) fun vs w1 hE hd => ⟨hd.2.1, ?_⟩
      have hc := cell_ext hE E3.out
      exact gives_loadAt 5 _ rfl (.pointer (some ⟨b6, 11, none⟩)) (.int .u8 97) (show vs 30 = _ from hd.1) (by go_simp) ⟨Ext.refl _, fun _ _ => rfl⟩
    · refine step_guard 25 true 74 rfl rfl (fun _ => rfl) fun vs w1 hE hd => ⟨hd.2.2.1, ?_⟩
      exact gives_binOp .eql 5 _ _ _ rfl (.int .u8 97) (.int .u8 97) (.bool true) (show vs 27 = _ from hd.1) (show vs 31 = _ from hd.2.1) (by go_simp) (by go_simp) ⟨Ext.refl _, fun _ _ => rfl⟩
    · refine step_plain rfl fun vs w1 hE hd => ?_
      exact gives_pick _ _ _ (.bool true) true rfl (show vs 25 = _ from hd.1) (show vs 32 = _ from hd.2.1) ⟨Ext.refl _, fun _ _ => rfl⟩
    · refine step_plain rfl fun vs w1 hE hd => ?_
      exact gives_move _ (.bool true) (.inl rfl) (show vs 33 = _ from hd.1) ⟨Ext.refl _, fun _ _ => rfl⟩
    · refine step_guard 34 true 83 rfl rfl (fun _ => rfl) fun vs w1 hE hd => ⟨hd.1, ?_⟩
      exact gives_load_row 25 _ rfl b11 0 rfl (u8s OUT) _ (range_below HR.out (ext_drew hE)) Tryd.underlying25 rfl HI.out ⟨Ext.refl _, fun _ _ => rfl⟩
    · refine step_guard 34 true 83 rfl rfl (fun _ => rfl) fun vs w1 hE hd => ⟨hd.1, ?_⟩
      exact gives_move _ (.string S) (.inl rfl) rfl ⟨Ext.refl _, fun _ _ => rfl⟩
    · refine step_guard 34 true 83 rfl rfl (fun _ => rfl) fun vs w1 hE hd => ⟨hd.2.1, ?_⟩
      refine gives_convert 9 22 _ rfl (.string S) _ (show vs 36 = _ from (hd.1)) (Lib.run_convert_string_bytes w1 9 22 5 S Tryd.underlying9 Tryd.underlying22 Tryd.underlying5) ⟨below_conv w1 5 S, fun w'' h => ⟨_, _, rfl, Bs.below (Bs.of_own (own_conv w1 S HSZ.out (Nat.le_refl _)) (sb_ok S)) h⟩⟩
    · refine step_guard 34 true 83 rfl rfl (fun _ => rfl) fun vs w1 hE hd => ⟨hd.2.1, ?_⟩
      refine gives_call 27 Tryd.call27 _ _ rfl rfl [vs 37] rfl ?_
      obtain ⟨A, c, e37, hbs⟩ := (hd.1)
      refine (sumF_bs (sb S) _ w1 hbs HLS.out (range_below HKE.out (ext_drew hE)) (by have := (ext_drew hE).size; omega)).mono ?_
      rintro e w2 ⟨rfl, hb⟩
      exact ⟨_, rfl, hb, fun _ _ => congrArg (fun o => Value.agg (u8s o).toArray) HOUT.out.symm⟩
    · refine step_guard 34 true 83 rfl rfl (fun _ => rfl) fun vs w1 hE hd => ⟨hd.2.2.1, ?_⟩
      exact gives_binOp .eql 25 _ _ _ rfl (.agg (u8s OUT).toArray) (.agg (u8s OUT).toArray) (.bool true) (show vs 35 = _ from hd.1) (show vs 38 = _ from hd.2.1) (by go_simp) (by go_simp) ⟨Ext.refl _, fun _ _ => rfl⟩
    · refine step_plain rfl fun vs w1 hE hd => ?_
      exact gives_pick _ _ _ (.bool true) true rfl (show vs 34 = _ from hd.1) (show vs 39 = _ from hd.2.1) ⟨Ext.refl _, fun _ _ => rfl⟩
    · intro vs w2 hE hR
      have h40 : vs 40 = .bool true := hR 40 (by omega)
      rw [h40]
      have hfin : Below w.heap.size w w2 := BEL9.out.drew.trans (hE.mono (by have := BEL9.out.size; simpa using this))
      clear hR hE
      go_wp2
      go_ret
      exact ⟨rfl, hfin⟩
end Go.Proofs.YtdedphhohiioiaaDoor
