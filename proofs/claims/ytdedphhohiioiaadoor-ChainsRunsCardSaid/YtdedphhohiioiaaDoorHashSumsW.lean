/- The law HashSums, walked. -/
import Derived.Test.YtdedphhohiioiaaDoorNumK
import Derived.Test.YtdedphhohiioiaaDoorRefSum
import Derived.Test.YtdedphhohiioiaaDoorHashBytesW
namespace Go.Proofs.YtdedphhohiioiaaDoor
open Go.RowKit

theorem sb_str (bs : List Int) (h : u8s_ok bs) : sb (strOfNums bs) = bs := by
  unfold sb
  rw [strOfNums_data, List.map_map]
  conv => rhs; rw [← List.map_id bs]
  refine List.map_congr_left fun x hx => ?_
  have hx := h x hx
  unfold B8 at hx
  have : (UInt8.ofNat x.toNat).toNat = x.toNat := by
    rw [UInt8.toNat_ofNat']
    omega
  show ((UInt8.ofNat x.toNat).toNat : Int) = id x
  rw [this, id]
  omega

set_option maxHeartbeats 4000000 in
set_option maxRecDepth 100000 in
theorem hashSums_any (bs : List Int) (A : Option Addr) (n c : Nat) (w : World) (hv : Bs w (.slice A n c) bs) (hn : n = bs.length) (hk : w.rangeAt 18 0 (u32s kk)) (h18 : 18 < w.heap.size) :
    Calls Tryd.prog 3 #[.slice A n c] w fun e w' => e = .returned (.bool true) ∧ Below w.heap.size w w' := by
  have HK := Lib.hid hk
  have HV := Lib.hid hv
  have HN := Lib.hid hn
  clear hk hv hn
  by_cases hlt : 1000 < n
  · go_enter Tryd.func3, Tryd.ntmps3
    go_wp2_with (refine (alive_hash _ HK.out h18).mono ?_; rintro e w1 ⟨rfl, hb1⟩)
    go_ret
    exact ⟨rfl, hb1⟩
  · have hle : n ≤ 1000 := by omega
    clear hlt
    go_enter Tryd.func3, Tryd.ntmps3
    go_wp2_with fail
    refine (alive_hash _ HK.out h18).mono ?_
    rintro e w1 ⟨rfl, hb1⟩
    have B1 := Lib.hid hb1
    clear hb1
    go_wp2_with fail
    refine (bytes_any bs A n c w1 (HV.out.below B1.out) HN.out (by omega)).mono ?_
    rintro e w2 ⟨V, rfl, hr, hb2⟩
    obtain ⟨B, hB⟩ : ∃ B, B = w1.heap.size := ⟨_, rfl⟩
    rw [← hB] at hr
    have HR0 := Lib.hid hr
    have BELX : Hid (Below w.heap.size w w2) := Lib.hid (B1.out.trans (hb2.mono B1.out.size))
    have HK1 := Lib.hid (range_below HK.out BELX.out)
    have hz2 : 18 < w2.heap.size := by have := BELX.out.size; omega
    obtain ⟨SS, hSS⟩ : ∃ s, s = strOfNums bs := ⟨_, rfl⟩
    have hsb : sb SS = bs := by rw [hSS]; exact sb_str bs HV.out.ok
    have hsz : SS.size ≤ 1099511627776 := by rw [hSS, strOfNums_size, ← HN.out]; omega
    have c1 := conv_bs HV.out
    rw [← hSS] at c1
    obtain ⟨OUT, hOUT⟩ : ∃ o, o = sha bs := ⟨_, rfl⟩
    have hol : OUT.length = 32 := by rw [hOUT, sha_len]
    have hsame := run_same32 OUT hol
    have HOUT := Lib.hid hOUT
    have hor : sha (sb SS) = OUT := by rw [hsb, hOUT]
    have HOR := Lib.hid hor
    have HSZ := Lib.hid hsz
    have C1 := Lib.hid c1
    have HVB := HV
    have HLS : Hid (bs.length ≤ 1099511627776) := Lib.hid (by rw [← HN.out]; omega)
    clear hr hb2 hB hSS hsb hsz c1 hOUT hol hor B1
    go_wp2_with fail
    refine wp_region_rely (by kernel_rfl) 11 (by kernel_rfl) (by kernel_rfl) Ext Ext.refl Ext.trans (fun i => match i with
      | 0 => fun w v => v = V ∧ Roomy w B v bs
      | 1 => fun _ v => v = .agg (u8s OUT).toArray
      | 2 => fun _ v => v = .slice A n c
      | 3 => fun _ v => v = .string SS
      | 4 => fun _ v => v = .agg (u8s OUT).toArray
      | 5 => fun _ v => v = .bool true
      | 6 => fun _ v => v = .bool true
      | 7 => fun w v => v = V ∧ Roomy w B v bs
      | 8 => fun _ v => v = .slice A n c
      | 9 => fun _ v => v = .bool true
      | 10 => fun _ v => v = .bool true
      | _ => fun _ _ => False) ?_
    simp (maxSteps := 10000000) only [Rely, List.take_succ_cons, List.take_zero, List.drop_succ_cons, List.drop_zero, Nat.reduceAdd, Nat.zero_add, Act.put, List.setIfInBounds_toArray, List.set_cons_succ, List.set_cons_zero]
    refine ⟨?_, ?_, ?_, ?_, ?_, ?_, ?_, ?_, ?_, ?_, ?_, ?_⟩
    · refine step_plain rfl fun vs w1 hE hd => ?_
      exact gives_move _ V (.inl rfl) rfl ⟨Ext.refl _, fun _ h => ⟨rfl, (HR0.out.below (ext_of_drew hE)).below h⟩⟩
    · refine step_plain rfl fun vs w1 hE hd => ?_
      refine gives_call 27 Tryd.call27 _ _ rfl rfl [vs 0] rfl ?_
      refine (sumF_bs bs (vs 0) w1 ((hd.1)).2.bs HLS.out (range_below HK1.out (ext_of_drew hE)) (by have := (ext_of_drew hE).size; omega)).mono ?_
      rintro e w2 ⟨rfl, hb⟩
      exact ⟨_, rfl, hb, fun _ _ => congrArg (fun o => Value.agg (u8s o).toArray) HOUT.out.symm⟩
    · refine step_plain rfl fun vs w1 hE hd => ?_
      exact gives_move _ (.slice A n c) (.inl rfl) rfl ⟨Ext.refl _, fun _ _ => rfl⟩
    · refine step_plain rfl fun vs w1 hE hd => ?_
      exact gives_convert 22 9 _ rfl (.slice A n c) _ (show vs 2 = _ from (hd.1)) (C1.out w1 ((BELX.out).trans (Below.mono (ext_of_drew hE) BELX.out.size))) ⟨Ext.refl _, fun _ _ => rfl⟩
    · refine step_plain rfl fun vs w1 hE hd => ?_
      refine gives_call 28 Tryd.call28 _ _ rfl rfl [.string SS] (congrArg (fun x => [x]) (hd.1)) ?_
      refine (refsum_any SS HSZ.out w1).mono ?_
      rintro e w2 ⟨rfl, hb⟩
      exact ⟨_, rfl, hb, fun _ _ => congrArg (fun o => Value.agg (u8s o).toArray) HOR.out⟩
    · refine step_plain rfl fun vs w1 hE hd => ?_
      exact gives_binOp .eql 25 _ _ _ rfl (.agg (u8s OUT).toArray) (.agg (u8s OUT).toArray) (.bool true) (show vs 1 = _ from hd.1) (show vs 4 = _ from hd.2.1) (by go_simp) (by go_simp) ⟨Ext.refl _, fun _ _ => rfl⟩
    · refine step_plain rfl fun vs w1 hE hd => ?_
      exact gives_move _ (.bool true) (.inl rfl) (show vs 5 = _ from hd.1) ⟨Ext.refl _, fun _ _ => rfl⟩
    · refine step_guard 6 true 17 rfl rfl (fun _ => rfl) fun vs w1 hE hd => ⟨hd.1, ?_⟩
      exact gives_move _ V (.inl rfl) rfl ⟨Ext.refl _, fun _ h => ⟨rfl, (HR0.out.below (ext_of_drew hE)).below h⟩⟩
    · refine step_guard 6 true 17 rfl rfl (fun _ => rfl) fun vs w1 hE hd => ⟨hd.1, ?_⟩
      exact gives_move _ (.slice A n c) (.inl rfl) rfl ⟨Ext.refl _, fun _ _ => rfl⟩
    · refine step_guard 6 true 17 rfl rfl (fun _ => rfl) fun vs w1 hE hd => ⟨hd.2.2.1, ?_⟩
      refine gives_call 29 Tryd.call29 _ _ rfl rfl [vs 7, .slice A n c] (congrArg (fun x => [vs 7, x]) (hd.2.1)) ?_
      refine (kept_any bs B (vs 7) (.slice A n c) w1 ((hd.1)).2 ((HVB.out).below ((BELX.out).trans (Below.mono (ext_of_drew hE) BELX.out.size))) HLS.out).mono ?_
      rintro e w2 ⟨rfl, hb⟩
      exact ⟨_, rfl, hb, fun _ _ => rfl⟩
    · refine step_plain rfl fun vs w1 hE hd => ?_
      exact gives_pick _ _ _ (.bool true) true rfl (show vs 6 = _ from hd.1) (show vs 9 = _ from hd.2.1) ⟨Ext.refl _, fun _ _ => rfl⟩
    · intro vs w3 hE hR
      have h10 : vs 10 = .bool true := hR 10 (by omega)
      rw [h10]
      have hfin : Below w.heap.size w w3 := BELX.out.trans (Below.mono (ext_of_drew hE) BELX.out.size)
      clear hR hE h10
      go_wp2
      go_ret
      exact ⟨rfl, hfin⟩
end Go.Proofs.YtdedphhohiioiaaDoor
