/- The law HashBytes, walked. -/
import Derived.Test.YtdedphhohiioiaaDoorAlive
namespace Go.Proofs.YtdedphhohiioiaaDoor
open Go.RowKit

theorem run_same32 (OUT : List Int) (h : OUT.length = 32) (W : World) : (Op.equalIn 10000 25 (.agg (u8s OUT).toArray) (.agg (u8s OUT).toArray)).run Tryd.prog W = .ok true W := by
  rw [run_equalIn_bytes 9998 25 5 32 OUT OUT Tryd.underlying25 Tryd.underlying5 (by kernel_rfl) h h]
  simp
theorem take_add (bs : List Int) (i : Nat) (h : i < bs.length) : bs.take (i + 1) = bs.take i ++ [bs.getD i 0] := by
  rw [List.take_succ_eq_append_getElem h]
  simp [List.getD_eq_getElem?_getD, h]

set_option maxHeartbeats 4000000 in
set_option maxRecDepth 100000 in
theorem hashBytes_any (bs : List Int) (A : Option Addr) (n c : Nat) (w : World) (hv : Bs w (.slice A n c) bs) (hn : n = bs.length) (hk : w.rangeAt 18 0 (u32s kk)) (h18 : 18 < w.heap.size) :
    Calls Tryd.prog 6 #[.slice A n c] w fun e w' => e = .returned (.bool true) ∧ Below w.heap.size w w' := by
  have HK := Lib.hid hk
  have HV := Lib.hid hv
  have HN := Lib.hid hn
  clear hk hv hn
  by_cases hlt : 300 < n
  · go_enter Tryd.func6, Tryd.ntmps6
    go_wp2_with (refine (alive_hash _ HK.out h18).mono ?_; rintro e w1 ⟨rfl, hb1⟩)
    go_ret
    exact ⟨rfl, hb1⟩
  · have hle : n ≤ 300 := by omega
    clear hlt
    go_enter Tryd.func6, Tryd.ntmps6
    go_wp2_with fail
    refine (alive_hash _ HK.out h18).mono ?_
    rintro e w1 ⟨rfl, hb1⟩
    have BA := Lib.hid hb1
    clear hb1
    go_wp2_with fail
    refine (new_any _).mono ?_
    rintro e w2 ⟨hb, rfl, hlt, hat, hb2⟩
    have HAT := Lib.hid hat
    have HLT := Lib.hid hlt
    have HB2 := Lib.hid hb2
    clear hat hlt hb2
    go_wp2
    obtain ⟨B, hB⟩ : ∃ B, B = w1.heap.size := ⟨_, rfl⟩
    rw [← hB] at HAT HLT HB2
    have h0 : w.heap.size ≤ B := by rw [hB]; exact BA.out.size
    have hW : Below w.heap.size w w2 := BA.out.trans (HB2.out.mono h0)
    have hBz : B ≤ w2.heap.size := by have := HB2.out.size; omega
    have hB18 : 18 < B := by omega
    have HW := Lib.hid hW
    clear hB hW BA
    go_loopw [14] (fun s wr => ∃ (i : Nat) (rv : Value), i ≤ n ∧ s = .int .i64 i ∧ Hid (HashAt B wr hb (bs.take i) rv) ∧ Hid (Below B w2 wr))
      (fun s _ => n - (intOf s).toNat)
    case atStart => exact ⟨0, _, by omega, rfl, HAT, Lib.hid (Below.refl _ _)⟩
    case round =>
      clear HAT
      obtain ⟨i, rv, hi, rfl, hat, hbel⟩ := hrel
      have hsz : B ≤ wr.heap.size := Nat.le_trans hBz hbel.out.size
      have hbl : hb < wr.heap.size := blk_lt hat.out.blk
      by_cases hlt : i < n
      · have hi2 : i < bs.length := by have := HN.out; omega
        obtain ⟨b, off, c', e1, h1, h2, h3, h4⟩ := (HV.out.below HW.out).cells (by intro e; rw [e] at hi2; simp at hi2)
        obtain ⟨x, hx⟩ : ∃ x, x = bs.getD i 0 := ⟨_, rfl⟩
        obtain ⟨b', off', c'', e1', _, _, h3', _⟩ := HV.out.cells (by intro e; rw [e] at hi2; simp at hi2)
        simp only [Value.slice.injEq] at e1 e1'
        obtain ⟨rfl, -, rfl⟩ := e1
        simp only [Option.some.injEq, Addr.mk.injEq] at e1'
        obtain ⟨⟨rfl, rfl, -⟩, -, -⟩ := e1'
        have hc := (hbel.out.cell (p := ⟨b, off + i, none⟩) (by simp; omega)).trans (h4 i hi2)
        rw [← hx] at hc
        have hxb : B8 x := hx ▸ byte_at HV.out.ok i
        have htk := take_add bs i hi2
        rw [← hx] at htk
        have HTK := Lib.hid htk
        have HXB := Lib.hid hxb
        clear hx htk h1 h2 h3 h3' h4 hi2 hxb
        have hil : (i : Int) < n := by omega
        have hsm : (bs.take i).length + [x].length ≤ 1099511627776 := by have h1 := List.length_take_le i bs; simp only [List.length_cons, List.length_nil]; omega
        have hno : (Value.slice (some ⟨wr.heap.size, 0, none⟩) 1 1).ownBlock ≠ some hb := by simp only [Value.ownBlock, ne_eq, Option.some.injEq]; omega
        go_wp2_with fail
        refine (write_bs B hb (bs.take i) [x] rv (.slice (some ⟨wr.heap.size, 0, none⟩) 1 1) (wr.alloc (.cells (u8s [x]).toArray 5)) (hat.out.below ((Below.refl _ _).alloc (Nat.le_refl _) _)) (Bs.new wr [x] (fun b hb => by simp at hb; rw [hb]; exact HXB.out) (by simp) (0, 0)) hno hsm (range_below HK.out (HW.out.trans ((hbel.out.alloc hsz _).mono h0))) hB18 HLT.out).mono ?_
        rintro e w5 ⟨rfl, rv', hat', _, honly⟩
        have hb5 : Below B w2 w5 := (hbel.out.alloc hsz _).trans (honly.low (hat.out.below ((Below.refl _ _).alloc (Nat.le_refl _) _)) HLT.out (by simp; omega))
        rw [← HTK.out] at hat'
        have HA5 := Lib.hid hat'
        have HB5 := Lib.hid hb5
        clear hat' hb5 honly hc
        go_wp2
        go_roundw
        case rel => exact ⟨i + 1, rv', by omega, by go_num, HA5, HB5⟩
        case measure => simp [intOf]; omega
      · have hin : i = n := by omega
        have htk : bs.take i = bs := List.take_of_length_le (by rw [hin, HN.out]; exact Nat.le_refl _)
        rw [htk] at hat
        clear htk
        go_wp2_with fail
        refine (write_bs B hb bs [] rv (.slice none 0 0) wr hat.out Bs.nil (by simp [Value.ownBlock]) (by have := HN.out; simp; omega) (range_below HK.out (HW.out.trans (hbel.out.mono h0))) hB18 HLT.out).mono ?_
        rintro e w5 ⟨rfl, rv', hat', _, honly⟩
        rw [List.append_nil] at hat'
        have hb5 : Below w.heap.size w w5 := HW.out.trans ((hbel.out.trans (honly.low hat.out HLT.out hsz)).mono h0)
        have HA5 := Lib.hid hat'
        have HB5 := Lib.hid hb5
        clear hat' hb5 honly hat hbel hin
        obtain ⟨OUT, hOUT⟩ : ∃ o, o = sha bs := ⟨_, rfl⟩
        have hol : OUT.length = 32 := by rw [hOUT, sha_len]
        have HOUT := Lib.hid hOUT
        have hsame := run_same32 OUT hol
        clear hol hOUT
        go_wp2_with fail
        refine (sumM_any B hb bs rv' w5 HA5.out (range_below HK.out HB5.out)).mono ?_
        rintro e w6 ⟨rfl, hb6⟩
        rw [← HOUT.out]
        have hB6 : Below w.heap.size w w6 := HB5.out.trans (hb6.mono HB5.out.size)
        have HA6 := Lib.hid (HA5.out.below hb6)
        have HB6 := Lib.hid hB6
        clear hb6 hB6 HA5 HB5
        go_wp2_with fail
        refine (sumF_bs bs (.slice A n c) w6 (HV.out.below HB6.out) (by have := HN.out; omega) (range_below HK.out HB6.out) (by have := HB6.out.size; omega)).mono ?_
        rintro e w7 ⟨rfl, hb7⟩
        rw [← HOUT.out]
        have hB7 : Below w.heap.size w w7 := HB6.out.trans (hb7.mono HB6.out.size)
        have HA7 := Lib.hid (HA6.out.below hb7)
        have HB7 := Lib.hid hB7
        clear hb7 hB7 HA6 HB6
        go_wp2_with fail
        refine (sumM_any B hb bs rv' w7 HA7.out (range_below HK.out HB7.out)).mono ?_
        rintro e w8 ⟨rfl, hb8⟩
        rw [← HOUT.out]
        have hB8 : Below w.heap.size w w8 := HB7.out.trans (hb8.mono HB7.out.size)
        have HA8 := Lib.hid (HA7.out.below hb8)
        have HB8 := Lib.hid hB8
        clear hb8 hB8 HA7 HB7
        go_wp2_with fail
        refine (sumM_any B hb bs rv' w8 HA8.out (range_below HK.out HB8.out)).mono ?_
        rintro e w9 ⟨rfl, hb9⟩
        rw [← HOUT.out]
        have hB9 : Below w.heap.size w w9 := HB8.out.trans (hb9.mono HB8.out.size)
        have HB9 := Lib.hid hB9
        clear hb9 hB9 HA8 HB8
        go_wp2
        go_ret
        exact ⟨rfl, HB9.out⟩
end Go.Proofs.YtdedphhohiioiaaDoor
