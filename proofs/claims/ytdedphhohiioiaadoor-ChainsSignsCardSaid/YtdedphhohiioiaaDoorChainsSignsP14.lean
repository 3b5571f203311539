/- What ChainsSigns rests on, part 14 of 14: lemmas without conditions of their own. -/
import Derived.ProofKit
import Derived.OpenShut
import Derived.Test.YtdedphhohiioiaaDoorTie
import Derived.Test.YtdedphhohiioiaaDoorCards
import Derived.LaidMore
import Derived.Stop.Joined
import Derived.Lib.LaidTab
import Derived.Lib.LaidU8
import Derived.SevenTiedAt
import Derived.Stop.LaidTwo
import Derived.Stop.LaidErr
import Derived.Test.YtdedphhohiioiaaDoorChainsSignsP13
/- ChainsSigns: what the law does. -/
namespace Go.Proofs.YtdedphhohiioiaaDoor
open Go.RowKit Go.Shelf

set_option maxHeartbeats 8000000 in
set_option maxRecDepth 100000 in
theorem chainsSigns_any (x : List Int) (hl : x.length = 16) (hx : u8s_ok x) (l : Int) (m : List Int) (hlm : m.length = 16) (hm : u8s_ok m) (al : List Addr) (w : World) (hS : SenN w al) (hk : w.rangeAt 18 0 (u32s kk)) (h18 : 18 < w.heap.size) :
    Calls Tryd.prog 18 #[.agg (u8s x).toArray, .int .i64 l, .agg (u8s m).toArray] w fun e w' => e = .returned (.bool true) ∧ Below w.heap.size w w' := by
  have hi43 : ∀ V : List Int, V.length = 16 → (Tryd.prog.info? 43).map (·.size) = some (u8s V).length := fun V h => by rw [u8s_len', h]; exact Tryd.size43
  obtain ⟨W0, hW0⟩ : ∃ W0, W0 = (w.alloc (.cells (u8s x).toArray 43)).alloc (.cells (u8s m).toArray 43) := ⟨_, rfl⟩
  have b0 : Below w.heap.size w W0 := by rw [hW0]; exact ((Below.refl _ _).alloc (Nat.le_refl _) _).alloc (by simp) _
  have q0 : W0.rangeAt w.heap.size 0 (u8s x) := by rw [hW0]; exact World.rangeAt_alloc (range_new w (u8s x) 43) _
  have q1 : W0.rangeAt (w.heap.size + 1) 0 (u8s m) := by
    rw [hW0]
    have := range_new (w.alloc (.cells (u8s x).toArray 43)) (u8s m) 43
    rwa [World.size_alloc] at this
  have B0 := Lib.hid b0
  have Q0 := Lib.hid q0
  have Q1 := Lib.hid q1
  have HL := Lib.hid hl
  have HX := Lib.hid hx
  have HLM := Lib.hid hlm
  have HM := Lib.hid hm
  have HS := Lib.hid hS
  have HK := Lib.hid hk
  clear b0 q0 q1 hl hx hlm hm hS hk
  go_enter Tryd.func18, Tryd.ntmps18
  go_wp2_with fail
  change Calls _ _ _ ((w.alloc (.cells (u8s x).toArray 43)).alloc (.cells (u8s m).toArray 43)) _
  rw [← hW0]
  clear hW0
  refine (alive_chains W0).mono ?_
  rintro e w1 ⟨rfl, hb1⟩
  have B1 := Lib.hid (B0.out.trans (hb1.mono B0.out.size))
  have X1 := Lib.hid (range_below Q0.out hb1)
  have M1 := Lib.hid (range_below Q1.out hb1)
  have S1 := Lib.hid (HS.out.below B1.out)
  have K1 := Lib.hid (range_below HK.out B1.out)
  have h181 : 18 < w1.heap.size := Nat.lt_of_lt_of_le h18 B1.out.size
  clear hb1 B0 Q0 Q1
  by_cases hr : 0 ≤ l ∧ l < 32
  · obtain ⟨h0, h1⟩ := hr
    have hn0 : ¬ l < 0 := by omega
    have hn1 : ¬ (31 : Int) < l := by omega
    go_wp2_with (refine wpList_load_g rfl 43 (.tmp 3) rfl w.heap.size 0 rfl (u8s x) _ X1.out Tryd.underlying43 rfl (hi43 x HL.out) ?_)
    refine (public_ok x HL.out HX.out l h0 h1 w1 K1.out h181).mono ?_
    rintro e w2 ⟨rfl, hb2⟩
    obtain ⟨ST, hST⟩ : ∃ s, s = publicC l (pubE l x 68) := ⟨_, rfl⟩
    have hsl : ST.length = 16 := by rw [hST]; exact (publicC_good _ _).1
    rw [← hST]
    have HST := Lib.hid hST
    have HSL := Lib.hid hsl
    have HHN := Lib.hid (has_new w2 (Array.replicate 16 (Value.int .u8 0)) 43 (u8s ST).length (by rw [u8s_len', hsl]; rfl))
    have B2 := Lib.hid (B1.out.trans (hb2.mono B1.out.size))
    have X2 := Lib.hid (range_below X1.out hb2)
    have M2 := Lib.hid (range_below M1.out hb2)
    clear hST hsl hb2
    go_wp2_with (first | (refine wpList_store_row rfl 43 (.tmp 7) (.tmp 19) rfl w2.heap.size rfl (u8s ST) rfl 43 HHN.out (hi43 ST HSL.out) (one_u8s _) ?_; intro w3 hp3; have L3 : Below w2.heap.size w2 w3 := (hp3.below ((Below.refl _ _).alloc (Nat.le_refl _) _) (Nat.le_refl _)); have RP3 := Lib.hid (blk_range hp3.blk); have B3 := Lib.hid (B2.out.trans (L3.mono B2.out.size)); have X3 := Lib.hid (range_below X2.out L3); have M3 := Lib.hid (range_below M2.out L3); clear hp3 L3) | (refine wpList_load_g rfl 43 (.tmp 3) rfl w.heap.size 0 rfl (u8s x) _ X3.out Tryd.underlying43 rfl (hi43 x HL.out) ?_) | (refine wpList_load_g rfl 43 (.tmp 5) rfl (w.heap.size + 1) 0 rfl (u8s m) _ M3.out Tryd.underlying43 rfl (hi43 m HLM.out) ?_))
    refine (sign_any x HL.out HX.out l h0 h1 m HLM.out HM.out w3 (range_below HK.out B3.out) (Nat.lt_of_lt_of_le h18 B3.out.size)).mono ?_
    rintro e w4 ⟨v9, rfl, ro, hb4⟩
    have dg := sig_dgs ro
    obtain ⟨A9, c9, rfl⟩ := own_form ro
    have B4 := Lib.hid (B3.out.trans (hb4.mono B3.out.size))
    have X4 := Lib.hid (range_below X3.out hb4)
    have M4 := Lib.hid (range_below M3.out hb4)
    have RP4 := Lib.hid (range_below RP3.out hb4)
    have DG4 := Lib.hid dg
    clear hb4 ro dg
    go_wp2_with (refine wpList_load_g rfl 43 (.tmp 5) rfl (w.heap.size + 1) 0 rfl (u8s m) _ M4.out Tryd.underlying43 rfl (hi43 m HLM.out) ?_)
    refine (recover_ok l A9 68 c9 (sigC l x m 68) m w4 h0 h1 (fun W h => DG4.out.below h) (sigC_len l x m 68).symm rfl HLM.out HM.out (range_below HK.out B4.out) (Nat.lt_of_lt_of_le h18 B4.out.size)).mono ?_
    rintro e w5 ⟨rfl, hb5⟩
    rw [rec_sig l x m 68 68 (Nat.le_refl _), ← HST.out]
    have HHN5 := Lib.hid (has_new w5 (Array.replicate 16 (Value.int .u8 0)) 43 (u8s ST).length (by rw [u8s_len', HSL.out]; rfl))
    have B5 := Lib.hid (B4.out.trans (hb5.mono B4.out.size))
    have X5 := Lib.hid (range_below X4.out hb5)
    have M5 := Lib.hid (range_below M4.out hb5)
    have RP5 := Lib.hid (range_below RP4.out hb5)
    have DG5 := Lib.hid (DG4.out.below hb5)
    clear hb5
    go_wp2_with (refine wpList_store_row rfl 43 (.tmp 11) (.tmp 57) rfl w5.heap.size rfl (u8s ST) rfl 43 HHN5.out (hi43 ST HSL.out) (one_u8s _) ?_; intro w6 hp6; have L6 : Below w5.heap.size w5 w6 := (hp6.below ((Below.refl _ _).alloc (Nat.le_refl _) _) (Nat.le_refl _)); have RB := Lib.hid (blk_range hp6.blk); have B6 := Lib.hid (B5.out.trans (L6.mono B5.out.size)); have RX := Lib.hid (range_below X5.out L6); have RD := Lib.hid (range_below M5.out L6); have RP := Lib.hid (range_below RP5.out L6); have DG := Lib.hid (DG5.out.below L6); clear hp6 L6)
    refine wp_region_rely (by kernel_rfl) 30 (by kernel_rfl) (by kernel_rfl) Ext Ext.refl Ext.trans (fun ix => match ix with
      | 0 => fun _ v => v = .nilIface
      | 1 => fun _ v => v = .bool true
      | 2 => fun _ v => v = .bool true
      | 3 => fun _ v => v = .nilIface
      | 4 => fun _ v => v = .bool true
      | 5 => fun _ v => v = .bool true
      | 6 => fun _ v => v = .bool true
      | 7 => fun _ v => v = .nilIface
      | 8 => fun _ v => v = .bool true
      | 9 => fun _ v => v = .bool true
      | 10 => fun _ v => v = .bool true
      | 11 => fun _ v => v = .agg (u8s ST).toArray
      | 12 => fun _ v => v = .agg (u8s x).toArray
      | 13 => fun _ v => v = .int .i64 l
      | 14 => fun _ v => v = .agg (u8s ST).toArray
      | 15 => fun _ v => v = .bool true
      | 16 => fun _ v => v = .bool true
      | 17 => fun _ v => v = .bool true
      | 18 => fun _ v => v = .slice A9 68 c9
      | 19 => fun _ v => v = .agg (u8s x).toArray
      | 20 => fun _ v => v = .int .i64 l
      | 21 => fun _ v => v = .agg (u8s m).toArray
      | 22 => fun W v => ∃ A2 c2, v = .slice A2 68 c2 ∧ Dgs W (.slice A2 68 c2) (sigC l x m 68)
      | 23 => fun _ v => v = .bool true
      | 24 => fun _ v => v = .bool true
      | 25 => fun _ v => v = .bool true
      | 26 => fun _ v => v = .agg (u8s ST).toArray
      | 27 => fun _ v => v = .agg (u8s ST).toArray
      | 28 => fun _ v => v = .bool true
      | 29 => fun _ v => v = .bool true
      | _ => fun _ _ => False) ?_
    simp (maxSteps := 10000000) only [Rely, List.take_succ_cons, List.take_zero, List.drop_succ_cons, List.drop_zero, Nat.reduceAdd, Nat.zero_add, Act.put, List.setIfInBounds_toArray, List.set_cons_succ, List.set_cons_zero]
    refine ⟨?_, ?_, ?_, ?_, ?_, ?_, ?_, ?_, ?_, ?_, ?_, ?_, ?_, ?_, ?_, ?_, ?_, ?_, ?_, ?_, ?_, ?_, ?_, ?_, ?_, ?_, ?_, ?_, ?_, ?_, ?_⟩
    · refine step_plain rfl fun vs wq hE hd => ?_
      exact gives_move _ (.nilIface) (.inl rfl) rfl ⟨Ext.refl _, fun _ _ => rfl⟩
    · refine step_plain rfl fun vs wq hE hd => ?_
      exact gives_binOp .eql 57 _ _ _ rfl (.nilIface) (Value.nilIface) (.bool true) (show vs 0 = _ from hd.1) rfl (by go_simp) (by go_simp) ⟨Ext.refl _, fun _ _ => rfl⟩
    · refine step_plain rfl fun vs wq hE hd => ?_
      exact gives_move _ (.bool true) (.inl rfl) (show vs 1 = _ from hd.1) ⟨Ext.refl _, fun _ _ => rfl⟩
    · refine step_guard 2 true 61 rfl rfl (fun _ => rfl) fun vs wq hE hd => ⟨hd.1, ?_⟩
      exact gives_move _ (.nilIface) (.inl rfl) rfl ⟨Ext.refl _, fun _ _ => rfl⟩
    · refine step_guard 2 true 61 rfl rfl (fun _ => rfl) fun vs wq hE hd => ⟨hd.2.1, ?_⟩
      exact gives_binOp .eql 57 _ _ _ rfl (.nilIface) (Value.nilIface) (.bool true) (show vs 3 = _ from hd.1) rfl (by go_simp) (by go_simp) ⟨Ext.refl _, fun _ _ => rfl⟩
    · refine step_plain rfl fun vs wq hE hd => ?_
      exact gives_pick _ _ _ (.bool true) true rfl (show vs 2 = _ from hd.1) (show vs 4 = _ from hd.2.1) ⟨Ext.refl _, fun _ _ => rfl⟩
    · refine step_plain rfl fun vs wq hE hd => ?_
      exact gives_move _ (.bool true) (.inl rfl) (show vs 5 = _ from hd.1) ⟨Ext.refl _, fun _ _ => rfl⟩
    · refine step_guard 6 true 65 rfl rfl (fun _ => rfl) fun vs wq hE hd => ⟨hd.1, ?_⟩
      exact gives_move _ (.nilIface) (.inl rfl) rfl ⟨Ext.refl _, fun _ _ => rfl⟩
    · refine step_guard 6 true 65 rfl rfl (fun _ => rfl) fun vs wq hE hd => ⟨hd.2.1, ?_⟩
      exact gives_binOp .eql 57 _ _ _ rfl (.nilIface) (Value.nilIface) (.bool true) (show vs 7 = _ from hd.1) rfl (by go_simp) (by go_simp) ⟨Ext.refl _, fun _ _ => rfl⟩
    · refine step_plain rfl fun vs wq hE hd => ?_
      exact gives_pick _ _ _ (.bool true) true rfl (show vs 6 = _ from hd.1) (show vs 8 = _ from hd.2.1) ⟨Ext.refl _, fun _ _ => rfl⟩
    · refine step_plain rfl fun vs wq hE hd => ?_
      exact gives_move _ (.bool true) (.inl rfl) (show vs 9 = _ from hd.1) ⟨Ext.refl _, fun _ _ => rfl⟩
    · refine step_guard 10 true 69 rfl rfl (fun _ => rfl) fun vs wq hE hd => ⟨hd.1, ?_⟩
      exact gives_load_row 43 _ rfl w2.heap.size 0 rfl (u8s ST) _ (range_below RP.out (ext_of_drew hE)) Tryd.underlying43 rfl (hi43 ST HSL.out) ⟨Ext.refl _, fun _ _ => rfl⟩
    · refine step_guard 10 true 69 rfl rfl (fun _ => rfl) fun vs wq hE hd => ⟨hd.1, ?_⟩
      exact gives_load_row 43 _ rfl w.heap.size 0 rfl (u8s x) _ (range_below RX.out (ext_of_drew hE)) Tryd.underlying43 rfl (hi43 x HL.out) ⟨Ext.refl _, fun _ _ => rfl⟩
    · refine step_guard 10 true 69 rfl rfl (fun _ => rfl) fun vs wq hE hd => ⟨hd.1, ?_⟩
      exact gives_move _ (.int .i64 l) (.inl rfl) rfl ⟨Ext.refl _, fun _ _ => rfl⟩
    · refine step_guard 10 true 69 rfl rfl (fun _ => rfl) fun vs wq hE hd => ⟨hd.2.2.1, ?_⟩
      refine gives_call 56 (enters_of Tryd.func56 (by kernel_rfl) rfl) _ _ rfl rfl [.agg (u8s x).toArray, .int .i64 l] ?_ ?_
      · show [vs 12, vs 13] = _
        rw [show vs 12 = _ from (hd.1), show vs 13 = _ from (hd.2.1)]
      · refine (refPublic_any x HL.out HX.out l wq).mono ?_
        rintro _ w'' ⟨rfl, hb⟩
        exact ⟨_, rfl, hb, fun _ _ => by rw [HST.out]; rfl⟩
    · refine step_guard 10 true 69 rfl rfl (fun _ => rfl) fun vs wq hE hd => ⟨hd.2.2.1, ?_⟩
      have hsame := run_same16 ST HSL.out
      exact gives_binOp .eql 43 _ _ _ rfl (.agg (u8s ST).toArray) (.agg (u8s ST).toArray) (.bool true) (show vs 11 = _ from (hd.1)) (show vs 14 = _ from (hd.2.1)) (by go_simp) (by go_simp) ⟨Ext.refl _, fun _ _ => rfl⟩
    · refine step_plain rfl fun vs wq hE hd => ?_
      exact gives_pick _ _ _ (.bool true) true rfl (show vs 10 = _ from hd.1) (show vs 15 = _ from hd.2.1) ⟨Ext.refl _, fun _ _ => rfl⟩
    · refine step_plain rfl fun vs wq hE hd => ?_
      exact gives_move _ (.bool true) (.inl rfl) (show vs 16 = _ from hd.1) ⟨Ext.refl _, fun _ _ => rfl⟩
    · refine step_guard 17 true 76 rfl rfl (fun _ => rfl) fun vs wq hE hd => ⟨hd.1, ?_⟩
      exact gives_move _ (.slice A9 68 c9) (.inl rfl) rfl ⟨Ext.refl _, fun _ _ => rfl⟩
    · refine step_guard 17 true 76 rfl rfl (fun _ => rfl) fun vs wq hE hd => ⟨hd.1, ?_⟩
      exact gives_load_row 43 _ rfl w.heap.size 0 rfl (u8s x) _ (range_below RX.out (ext_of_drew hE)) Tryd.underlying43 rfl (hi43 x HL.out) ⟨Ext.refl _, fun _ _ => rfl⟩
    · refine step_guard 17 true 76 rfl rfl (fun _ => rfl) fun vs wq hE hd => ⟨hd.1, ?_⟩
      exact gives_move _ (.int .i64 l) (.inl rfl) rfl ⟨Ext.refl _, fun _ _ => rfl⟩
    · refine step_guard 17 true 76 rfl rfl (fun _ => rfl) fun vs wq hE hd => ⟨hd.1, ?_⟩
      exact gives_load_row 43 _ rfl (w.heap.size + 1) 0 rfl (u8s m) _ (range_below RD.out (ext_of_drew hE)) Tryd.underlying43 rfl (hi43 m HLM.out) ⟨Ext.refl _, fun _ _ => rfl⟩
    · refine step_guard 17 true 76 rfl rfl (fun _ => rfl) fun vs wq hE hd => ⟨hd.2.2.2.1, ?_⟩
      refine gives_call 57 (enters_of Tryd.func57 (by kernel_rfl) rfl) _ _ rfl rfl [.agg (u8s x).toArray, .int .i64 l, .agg (u8s m).toArray] ?_ ?_
      · show [vs 19, vs 20, vs 21] = _
        rw [show vs 19 = _ from (hd.1), show vs 20 = _ from (hd.2.1), show vs 21 = _ from (hd.2.2.1)]
      · refine (refSign_any x HL.out HX.out l m HLM.out HM.out wq).mono ?_
        rintro _ w'' ⟨v, rfl, ro, hb⟩
        obtain ⟨A2, c2, rfl⟩ := own_form ro
        exact ⟨_, rfl, hb, fun W2 h2 => ⟨A2, c2, rfl, (sig_dgs ro).below h2⟩⟩
    · refine step_guard 17 true 76 rfl rfl (fun _ => rfl) fun vs wq hE hd => ⟨hd.2.2.2.1, ?_⟩
      obtain ⟨A2, c2, e2, d2⟩ : ∃ A2 c2, vs 22 = .slice A2 68 c2 ∧ Dgs wq (.slice A2 68 c2) (sigC l x m 68) := (hd.2.1)
      refine gives_call 43 (enters_of Tryd.func43 (by kernel_rfl) rfl) _ _ rfl rfl [.slice A9 68 c9, .slice A2 68 c2] ?_ ?_
      · show [vs 18, vs 22] = _
        rw [show vs 18 = _ from (hd.1), e2]
      · refine (same_any (sigC l x m 68) (sigC l x m 68) A9 A2 68 68 c9 c2 wq (DG.out.below (ext_of_drew hE)) d2 (sigC_len l x m 68).symm (sigC_len l x m 68).symm (by omega)).mono ?_
        rintro _ w'' ⟨rfl, hb⟩
        exact ⟨_, rfl, hb, fun _ _ => by rw [decide_eq_true rfl]; rfl⟩
    · refine step_plain rfl fun vs wq hE hd => ?_
      exact gives_pick _ _ _ (.bool true) true rfl (show vs 17 = _ from hd.1) (show vs 23 = _ from hd.2.1) ⟨Ext.refl _, fun _ _ => rfl⟩
    · refine step_plain rfl fun vs wq hE hd => ?_
      exact gives_move _ (.bool true) (.inl rfl) (show vs 24 = _ from hd.1) ⟨Ext.refl _, fun _ _ => rfl⟩
    · refine step_guard 25 true 84 rfl rfl (fun _ => rfl) fun vs wq hE hd => ⟨hd.1, ?_⟩
      exact gives_load_row 43 _ rfl w5.heap.size 0 rfl (u8s ST) _ (range_below RB.out (ext_of_drew hE)) Tryd.underlying43 rfl (hi43 ST HSL.out) ⟨Ext.refl _, fun _ _ => rfl⟩
    · refine step_guard 25 true 84 rfl rfl (fun _ => rfl) fun vs wq hE hd => ⟨hd.1, ?_⟩
      exact gives_load_row 43 _ rfl w2.heap.size 0 rfl (u8s ST) _ (range_below RP.out (ext_of_drew hE)) Tryd.underlying43 rfl (hi43 ST HSL.out) ⟨Ext.refl _, fun _ _ => rfl⟩
    · refine step_guard 25 true 84 rfl rfl (fun _ => rfl) fun vs wq hE hd => ⟨hd.2.2.1, ?_⟩
      have hsame := run_same16 ST HSL.out
      exact gives_binOp .eql 43 _ _ _ rfl (.agg (u8s ST).toArray) (.agg (u8s ST).toArray) (.bool true) (show vs 26 = _ from (hd.1)) (show vs 27 = _ from (hd.2.1)) (by go_simp) (by go_simp) ⟨Ext.refl _, fun _ _ => rfl⟩
    · refine step_plain rfl fun vs wq hE hd => ?_
      exact gives_pick _ _ _ (.bool true) true rfl (show vs 25 = _ from hd.1) (show vs 28 = _ from hd.2.1) ⟨Ext.refl _, fun _ _ => rfl⟩
    · intro vs wz hE hR
      have h29 : vs 29 = .bool true := hR 29 (by omega)
      have hb : Below w.heap.size w wz := B6.out.trans ((ext_of_drew hE).mono B6.out.size)
      have HB := Lib.hid hb
      rw [h29]
      clear hR hE h29 hb
      go_wp2
      go_ret
      exact ⟨rfl, HB.out⟩
  · by_cases hneg : l < 0
    · obtain ⟨aE, haE⟩ := sen_at S1.out 0 (by omega)
      have hcE := S1.out.cell 0 1 aE rfl haE
      go_wp2_with (refine wpList_load_g rfl 43 (.tmp 3) rfl w.heap.size 0 rfl (u8s x) _ X1.out Tryd.underlying43 rfl (hi43 x HL.out) ?_)
      refine (public_bad x l hr aE w1 hcE).mono ?_
      rintro e w2 ⟨rfl, hb2⟩
      have HAE := Lib.hid haE
      have HHN := Lib.hid (has_new w2 (Array.replicate 16 (Value.int .u8 0)) 43 (u8s zero16).length (by rw [u8s_len', zero16_len]; rfl))
      have B2 := Lib.hid (B1.out.trans (hb2.mono B1.out.size))
      have S2 := Lib.hid (S1.out.below hb2)
      have X2 := Lib.hid (range_below X1.out hb2)
      have M2 := Lib.hid (range_below M1.out hb2)
      clear hb2 haE hcE
      go_wp2_with (first | (refine wpList_store_row rfl 43 (.tmp 7) (.tmp 19) rfl w2.heap.size rfl (u8s zero16) rfl 43 HHN.out (hi43 zero16 zero16_len) (one_u8s _) ?_; intro w3 hp3; have L3 : Below w2.heap.size w2 w3 := (hp3.below ((Below.refl _ _).alloc (Nat.le_refl _) _) (Nat.le_refl _)); have RS := Lib.hid (blk_range hp3.blk); have B3 := Lib.hid (B2.out.trans (L3.mono B2.out.size)); have S3 := Lib.hid (S2.out.below L3); have X3 := Lib.hid (range_below X2.out L3); have M3 := Lib.hid (range_below M2.out L3); clear hp3 L3) | (refine wpList_load_g rfl 43 (.tmp 3) rfl w.heap.size 0 rfl (u8s x) _ X3.out Tryd.underlying43 rfl (hi43 x HL.out) ?_) | (refine wpList_load_g rfl 43 (.tmp 5) rfl (w.heap.size + 1) 0 rfl (u8s m) _ M3.out Tryd.underlying43 rfl (hi43 m HLM.out) ?_))
      refine (sign_bad x m l hr aE w3 (S3.out.cell 0 1 aE rfl HAE.out)).mono ?_
      rintro e w4 ⟨rfl, hb4⟩
      have B4 := Lib.hid (B3.out.trans (hb4.mono B3.out.size))
      have S4 := Lib.hid (S3.out.below hb4)
      have RS4 := Lib.hid (range_below RS.out hb4)
      clear hb4
      go_wp2_with (first | (refine wpList_load_g rfl 43 (.tmp 7) rfl w2.heap.size 0 rfl (u8s zero16) _ RS4.out Tryd.underlying43 rfl (hi43 _ zero16_len) ?_) | (refine wpList_eql43 rfl _ _ _ rfl zero16 zero16 rfl rfl zero16_len zero16_len (by go_simp) ?_; rw [decide_eq_true rfl]))
      refine (num_k S4.out 0 aE HAE.out 1 rfl).mono ?_
      rintro e w5 ⟨rfl, hb5⟩
      have B5 := Lib.hid (B4.out.trans (hb5.mono B4.out.size))
      have S5 := Lib.hid (S4.out.below hb5)
      clear hb5
      go_wp2_with fail
      refine (num_k S5.out 0 aE HAE.out 1 rfl).mono ?_
      rintro e w6 ⟨rfl, hb6⟩
      have B6 := Lib.hid (B5.out.trans (hb6.mono B5.out.size))
      clear hb6
      go_wp2_with fail
      go_ret
      exact ⟨rfl, B6.out⟩
    · have hbig : (31 : Int) < l := by omega
      obtain ⟨aE, haE⟩ := sen_at S1.out 0 (by omega)
      have hcE := S1.out.cell 0 1 aE rfl haE
      go_wp2_with (refine wpList_load_g rfl 43 (.tmp 3) rfl w.heap.size 0 rfl (u8s x) _ X1.out Tryd.underlying43 rfl (hi43 x HL.out) ?_)
      refine (public_bad x l hr aE w1 hcE).mono ?_
      rintro e w2 ⟨rfl, hb2⟩
      have HAE := Lib.hid haE
      have HHN := Lib.hid (has_new w2 (Array.replicate 16 (Value.int .u8 0)) 43 (u8s zero16).length (by rw [u8s_len', zero16_len]; rfl))
      have B2 := Lib.hid (B1.out.trans (hb2.mono B1.out.size))
      have S2 := Lib.hid (S1.out.below hb2)
      have X2 := Lib.hid (range_below X1.out hb2)
      have M2 := Lib.hid (range_below M1.out hb2)
      clear hb2 haE hcE
      go_wp2_with (first | (refine wpList_store_row rfl 43 (.tmp 7) (.tmp 19) rfl w2.heap.size rfl (u8s zero16) rfl 43 HHN.out (hi43 zero16 zero16_len) (one_u8s _) ?_; intro w3 hp3; have L3 : Below w2.heap.size w2 w3 := (hp3.below ((Below.refl _ _).alloc (Nat.le_refl _) _) (Nat.le_refl _)); have RS := Lib.hid (blk_range hp3.blk); have B3 := Lib.hid (B2.out.trans (L3.mono B2.out.size)); have S3 := Lib.hid (S2.out.below L3); have X3 := Lib.hid (range_below X2.out L3); have M3 := Lib.hid (range_below M2.out L3); clear hp3 L3) | (refine wpList_load_g rfl 43 (.tmp 3) rfl w.heap.size 0 rfl (u8s x) _ X3.out Tryd.underlying43 rfl (hi43 x HL.out) ?_) | (refine wpList_load_g rfl 43 (.tmp 5) rfl (w.heap.size + 1) 0 rfl (u8s m) _ M3.out Tryd.underlying43 rfl (hi43 m HLM.out) ?_))
      refine (sign_bad x m l hr aE w3 (S3.out.cell 0 1 aE rfl HAE.out)).mono ?_
      rintro e w4 ⟨rfl, hb4⟩
      have B4 := Lib.hid (B3.out.trans (hb4.mono B3.out.size))
      have S4 := Lib.hid (S3.out.below hb4)
      have RS4 := Lib.hid (range_below RS.out hb4)
      clear hb4
      go_wp2_with (first | (refine wpList_load_g rfl 43 (.tmp 7) rfl w2.heap.size 0 rfl (u8s zero16) _ RS4.out Tryd.underlying43 rfl (hi43 _ zero16_len) ?_) | (refine wpList_eql43 rfl _ _ _ rfl zero16 zero16 rfl rfl zero16_len zero16_len (by go_simp) ?_; rw [decide_eq_true rfl]))
      refine (num_k S4.out 0 aE HAE.out 1 rfl).mono ?_
      rintro e w5 ⟨rfl, hb5⟩
      have B5 := Lib.hid (B4.out.trans (hb5.mono B4.out.size))
      have S5 := Lib.hid (S4.out.below hb5)
      clear hb5
      go_wp2_with fail
      refine (num_k S5.out 0 aE HAE.out 1 rfl).mono ?_
      rintro e w6 ⟨rfl, hb6⟩
      have B6 := Lib.hid (B5.out.trans (hb6.mono B5.out.size))
      clear hb6
      go_wp2_with fail
      go_ret
      exact ⟨rfl, B6.out⟩
end Go.Proofs.YtdedphhohiioiaaDoor
/- Arguments that came in, opened. -/
namespace Go.Proofs.YtdedphhohiioiaaDoor
open Go.ChangeShapes Go.WideShapes Go.ChangeAt Go.RowKit

def numOf : Value → Int
  | .int _ n => n
  | _ => 0

theorem open_bytes {P : Program} {H : Type} {enc : TypeId × Value → H} {w : World} {base : Nat} {spare : Nat → Bool} {held : Bool} {t e n : Nat} {v : Value} {d : DataW H} {ps : List MemPlace}
    (ht : P.underlying t = some (.array n e)) (he : P.underlying e = some (.int .u8)) (hc : P.cellsOf e = 1) (hct : P.cellsOf t = n) (hn : n ≠ 1)
    (h : DataW.Trod enc P w base spare held t v d ps) : ∃ bs : List Int, v = .agg (u8s bs).toArray ∧ bs.length = n ∧ ∀ b ∈ bs, 0 ≤ b ∧ b ≤ 255 := by
  obtain ⟨fuel, hf⟩ := h
  obtain ⟨xs, m, _, _, hlen, hl, hel⟩ := DataW.trod_array ht hf
  rw [hct] at hlen
  have hv : ∃ cs, v = .agg cs := by
    cases v with
    | agg cs => exact ⟨cs, rfl⟩
    | _ => simp [Value.cells] at hlen; omega
  obtain ⟨cs, rfl⟩ := hv
  simp only [Value.cells] at hlen hel
  have hcell : ∀ i, i < n → ∃ z, cs.toList[i]? = some (.int .u8 z) ∧ 0 ≤ z ∧ z ≤ 255 := by
    intro i hi
    have hE := hel i hi
    rw [hc, Nat.mul_one, List.getElem?_eq_getElem (by omega)] at hE
    obtain ⟨z, e1, _, wz⟩ := DataW.trod_int he hE
    refine ⟨z, ?_, ?_⟩
    · have h0 : ((cs.toList.drop i).take 1)[0]? = some (.int .u8 z) := by rw [e1]; rfl
      simpa using h0
    · simp only [Lit.wf, IntKind.min, IntKind.max, IntKind.signed, IntKind.bits] at wz
      simp at wz
      omega
  refine ⟨cs.toList.map numOf, ?_, by simpa using hlen, ?_⟩
  · congr 1
    apply Array.ext'
    apply List.ext_getElem?
    intro i
    by_cases hi : i < n
    · obtain ⟨z, hz, _⟩ := hcell i hi
      rw [hz]
      simp [u8s, numOf, hz]
    · rw [List.getElem?_eq_none (by omega), List.getElem?_eq_none (by simp [u8s]; simp at hlen; omega)]
  · intro b hb
    obtain ⟨v, hv, rfl⟩ := List.mem_map.1 hb
    obtain ⟨i, hi⟩ := List.getElem?_of_mem hv
    have hlt : i < n := by rw [← hlen]; exact (List.getElem?_eq_some_iff.1 hi).1
    obtain ⟨z, hz, h0, h1⟩ := hcell i hlt
    rw [hi] at hz
    obtain rfl := Option.some.inj hz
    exact ⟨h0, h1⟩
end Go.Proofs.YtdedphhohiioiaaDoor
/- What all cards of this seat share: the constants as they are laid, slices of bytes that came in. -/
namespace Go.Proofs.YtdedphhohiioiaaDoor
open Go.ChangeShapes Go.WideShapes Go.ChangeAt Go.RowKit

theorem own : ownKnob Tryd.prog.godebug = none := by kernel_rfl
theorem laidOut : laidOutB Tryd.prog = true := by kernel_rfl
theorem Tryd.gK : Tryd.prog.globalNamed "quorate/hash.constants" = some 18 := by kernel_rfl
theorem Tryd.gKType : (Tryd.prog.globals[18]?).map (·.type) = some 104 := by kernel_rfl
theorem Tryd.cells103 : Tryd.prog.cellsOf 103 = 1 := by kernel_rfl
theorem Tryd.cells104 : Tryd.prog.cellsOf 104 = 64 := by kernel_rfl
theorem Tryd.globals : Tryd.prog.globals.size = 19 := by kernel_rfl

theorem kk_datum : (Rows.laid_quorate_hash_constants : DataW Unit) = Lib.tabData .u32 kk := by kernel_rfl

/-- The constants lie in their block. -/
theorem kk_range_of {W : World} (h : W.var? Tryd.prog "quorate/hash.constants" = some (kk.map fun z => Value.int .u32 z).toArray) : W.rangeAt 18 0 (u32s kk) := fun j v hv => by
  have := World.var?_cell Tryd.gK h j
  rw [Nat.zero_add, this]
  simpa [u32s] using hv
set_option maxRecDepth 100000 in
theorem kk_of_laid1 {W : World} (h : laidMetH Tryd.prog [("quorate/hash.constants", Rows.laid_quorate_hash_constants)] W) : W.rangeAt 18 0 (u32s kk) := by
  rw [MakeChecks.laidMetH_plain _ _ _ (by kernel_rfl), kk_datum] at h
  exact kk_range_of (Lib.tabIs_of_head Tryd.gK Tryd.gKType Tryd.underlying104 Tryd.underlying103 Tryd.cells103 Tryd.cells104 h)
theorem size_of_range {W : World} (h : W.rangeAt 18 0 (u32s kk)) : 18 < W.heap.size := by
  have := h 0 (.int .u32 (kk.getD 0 0)) rfl
  exact World.block_lt_of_cell? W _ this

set_option maxRecDepth 100000 in
/-- A slice of bytes that came in. -/
theorem open_bs {H : Type} {enc : TypeId × Value → H} {W : World} {base b0 : Nat} {r : Reach} {spare : Nat → Bool} {held : Bool} {v : Value} {d : DataW H} {ps : List MemPlace} (hval : Value.okWide Tryd.prog W r b0 22 v)
    (h : DataW.Trod enc Tryd.prog W base spare held 22 v d ps) : ∃ bs A n c, v = .slice A n c ∧ n = bs.length ∧ Bs W (.slice A n c) bs := by
  obtain ⟨fuel, hf⟩ := h
  obtain ⟨A, n, c, rfl⟩ := okWide_slice Tryd.underlying22 hval
  rcases open_ints Tryd.underlying22 Tryd.underlying5 (by kernel_rfl) hf with ⟨hc, _⟩ | ⟨a, len, cap, zs, hc, _, h1, h2, h3, _, h4, h5⟩
  · simp only [Value.cells, List.cons.injEq, Value.slice.injEq, and_true] at hc
    obtain ⟨rfl, rfl, rfl⟩ := hc
    exact ⟨[], none, 0, 0, rfl, rfl, Bs.nil⟩
  · simp only [Value.cells, List.cons.injEq, Value.slice.injEq, and_true] at hc
    obtain ⟨rfl, rfl, rfl⟩ := hc
    have hzl : n ≤ zs.length := by rw [h3]; split <;> omega
    have hl : (zs.take n).length = n := by rw [List.length_take]; omega
    refine ⟨zs.take n, _, n, c, rfl, hl.symm, ⟨⟨_, c, by rw [hl]⟩, fun hne => ?_, fun b hb => ?_⟩⟩
    · have hn : 0 < n := by
        cases n with
        | zero => exact absurd rfl hne
        | succ => omega
      obtain ⟨b, off, sp⟩ := a
      have h0 := h4 0 (by omega)
      have hsp : sp = none := by
        simp only [Addr.add, if_true, World.cell?] at h0
        split at h0
        · cases sp with
          | none => rfl
          | some x => simp at h0
        · cases h0
      subst hsp
      refine ⟨b, off, c, by rw [hl], by rw [hl]; exact h1, h2, World.block_lt_of_cell? W _ h0, fun i hi => ?_⟩
      rw [hl] at hi
      have := h4 i (by omega)
      rw [show (⟨b, off, none⟩ : Addr).add i = ⟨b, off + i, none⟩ by unfold Addr.add; split <;> simp_all] at this
      rw [this]
      simp [List.getD_eq_getElem?_getD, hi]
    · have := h5 b (List.mem_of_mem_take hb)
      simp only [Lit.wf, IntKind.min, IntKind.max, IntKind.signed, IntKind.bits] at this
      simp at this
      unfold B8
      omega

set_option maxRecDepth 100000 in
theorem door_met1 (os : Os) (args : Array Value) : laidMetH Tryd.prog [("quorate/hash.constants", Rows.laid_quorate_hash_constants)] ((World.doorLaid Tryd.prog 356 os).forCall (fun _ _ => 0) ⟨#[], args, []⟩).memory :=
  laidMetH_of_parts3 (fuel := 8) (laidMet_of_run' 8 (by kernel_rfl) (by kernel_rfl)) (by kernel_rfl) (by kernel_rfl)
end Go.Proofs.YtdedphhohiioiaaDoor
/- All sentinels of a list that is laid: where they lie, and that no two are one. -/
namespace Go.Proofs.YtdedphhohiioiaaDoor
open Go.RowKit

def sentL (nm : String) (L : List (String × List UInt8)) : List (String × DataW Unit) := L.map fun x => (x.1, .iface nm (.ptr (.agg [.lit (.string x.2)])))
theorem laid_all {P : Program} {nm : String} {W : World} {ti tp te ts : TypeId} {ms : Array (String × TypeId)} {f : Field}
    (hi : P.underlying ti = some (.interface ms)) (hrow : ∀ u, P.typeName? 3 u = some nm → u = tp)
    (hp : P.underlying tp = some (.pointer te)) (he : P.underlying te = some (.struct #[f])) (hft : f.type = ts) (hfo : f.offset = 0) (hs : P.underlying ts = some .string) (hc : P.cellsOf te = 1) (hcs : P.cellsOf ts = 1) :
    ∀ (L : List (String × List UInt8)) (T : List (String × DataW Unit)) (gs : List Nat) (ps : List MemPlace), L.map (fun x => P.globalNamed x.1) = gs.map some → (∀ g ∈ gs, (P.globals[g]?).map (·.type) = some ti) →
      DataW.LaidVars P W (sentL nm L ++ T) ps → (∀ b off, MemPlace.cell b off ∈ ps → ∀ u v, W.cell? ⟨b, off, none⟩ = some (.iface u v) → Value.okWide P W .any 0 u v) →
      ∃ al : List Addr, al.length = gs.length ∧ (∀ (i g : Nat) (a : Addr), gs[i]? = some g → al[i]? = some a → W.cell? ⟨g, 0, none⟩ = some (.iface tp (.pointer (some a)))) ∧ (al.map fun a => MemPlace.cell a.block a.off).Sublist ps
  | [], T, gs, ps, hg, _, _, _ => by
    have : gs = [] := by cases gs with | nil => rfl | cons => simp at hg
    subst this
    exact ⟨[], rfl, fun i g a h => by simp at h, List.nil_sublist _⟩
  | (n, text) :: L, T, gs, ps, hg, ht, hl, hok => by
    cases gs with
    | nil => simp at hg
    | cons g gs =>
      simp only [List.map_cons, List.cons.injEq] at hg
      obtain ⟨hg0, hg1⟩ := hg
      obtain ⟨g', t', cs, fu, p, q, hg', ht', hv, hd, hrest, e⟩ := hl
      obtain rfl := Option.some.inj (hg0.symm.trans hg')
      obtain rfl := Option.some.inj ((ht g (by simp)).symm.trans ht')
      subst e
      obtain ⟨l⟩ := cs
      have ok0 : ∀ u v, l = [.iface u v] → Value.okWide P W .any 0 u v := fun u v e => by
        subst e
        exact hok g 0 (by simp [MemPlace.row]) u v (by simpa using World.var?_cell hg' hv 0)
      obtain ⟨a, s, rfl, hca, hsa, hza, rfl⟩ := errorString_of_trod hi hrow hp he hft hfo hs hc hcs hd ok0
      obtain ⟨al, h1, h2, h3⟩ := laid_all hi hrow hp he hft hfo hs hc hcs L T gs q hg1 (fun x hx => ht x (List.mem_cons_of_mem _ hx)) hrest (fun b off hb => hok b off (List.mem_append_right _ hb))
      refine ⟨a :: al, by simp [h1], fun i g2 a2 hg2 ha2 => ?_, ?_⟩
      · cases i with
        | zero =>
          simp only [List.getElem?_cons_zero, Option.some.injEq] at hg2 ha2
          subst hg2 ha2
          exact World.var?_cell hg' hv 0
        | succ i => exact h2 i g2 a2 (by simpa using hg2) (by simpa using ha2)
      · rw [List.map_cons]
        have hsub : [MemPlace.cell a.block a.off].Sublist (MemPlace.row ⟨g, 0, none⟩ 1 ++ MemPlace.row a 1) := by simp [MemPlace.row]
        first
          | exact hsub.append h3
          | (rw [List.append_assoc]; exact hsub.append h3)
end Go.Proofs.YtdedphhohiioiaaDoor
/- All sentinels and the constants as they are laid. -/
namespace Go.Proofs.YtdedphhohiioiaaDoor
open Go.ChangeShapes Go.WideShapes Go.ChangeAt Go.RowKit

theorem Tryd.cells172 : Tryd.prog.cellsOf 172 = 1 := by kernel_rfl
theorem Tryd.cells9 : Tryd.prog.cellsOf 9 = 1 := by kernel_rfl
theorem Tryd.star : "*" ++ "errors.errorString" = "*errors.errorString" := by decide
set_option maxRecDepth 100000 in
theorem Tryd.row147 (u : TypeId) (h : Tryd.prog.typeName? 3 u = some "*errors.errorString") : u = 147 :=
  typeName_ptr_named (nm := "errors.errorString") (by rw [Tryd.star]; kernel_rfl) (by kernel_rfl) (by decide) u (by rw [Tryd.star]; exact h)

abbrev laidS : List (String × DataW Unit) := [("quorate/api.ErrRange", Rows.laid_quorate_api_ErrRange), ("quorate/api.ErrShort", Rows.laid_quorate_api_ErrShort), ("quorate/api.ErrLong", Rows.laid_quorate_api_ErrLong), ("quorate/api.ErrForm", Rows.laid_quorate_api_ErrForm), ("quorate/api.ErrSpent", Rows.laid_quorate_api_ErrSpent), ("quorate/api.ErrPower", Rows.laid_quorate_api_ErrPower), ("quorate/api.ErrDisk", Rows.laid_quorate_api_ErrDisk), ("quorate/api.ErrFull", Rows.laid_quorate_api_ErrFull), ("quorate/api.ErrNone", Rows.laid_quorate_api_ErrNone), ("quorate/api.ErrOld", Rows.laid_quorate_api_ErrOld), ("quorate/api.ErrSet", Rows.laid_quorate_api_ErrSet), ("quorate/api.ErrProof", Rows.laid_quorate_api_ErrProof), ("quorate/api.ErrLeader", Rows.laid_quorate_api_ErrLeader), ("quorate/api.ErrRound", Rows.laid_quorate_api_ErrRound), ("quorate/api.ErrUnsafe", Rows.laid_quorate_api_ErrUnsafe), ("quorate/api.ErrParent", Rows.laid_quorate_api_ErrParent), ("quorate/api.ErrTwice", Rows.laid_quorate_api_ErrTwice), ("quorate/api.ErrEpoch", Rows.laid_quorate_api_ErrEpoch)]
abbrev laidN : List (String × DataW Unit) := [("quorate/api.ErrRange", Rows.laid_quorate_api_ErrRange), ("quorate/api.ErrShort", Rows.laid_quorate_api_ErrShort), ("quorate/api.ErrLong", Rows.laid_quorate_api_ErrLong), ("quorate/api.ErrForm", Rows.laid_quorate_api_ErrForm), ("quorate/api.ErrSpent", Rows.laid_quorate_api_ErrSpent), ("quorate/api.ErrPower", Rows.laid_quorate_api_ErrPower), ("quorate/api.ErrDisk", Rows.laid_quorate_api_ErrDisk), ("quorate/api.ErrFull", Rows.laid_quorate_api_ErrFull), ("quorate/api.ErrNone", Rows.laid_quorate_api_ErrNone), ("quorate/api.ErrOld", Rows.laid_quorate_api_ErrOld), ("quorate/api.ErrSet", Rows.laid_quorate_api_ErrSet), ("quorate/api.ErrProof", Rows.laid_quorate_api_ErrProof), ("quorate/api.ErrLeader", Rows.laid_quorate_api_ErrLeader), ("quorate/api.ErrRound", Rows.laid_quorate_api_ErrRound), ("quorate/api.ErrUnsafe", Rows.laid_quorate_api_ErrUnsafe), ("quorate/api.ErrParent", Rows.laid_quorate_api_ErrParent), ("quorate/api.ErrTwice", Rows.laid_quorate_api_ErrTwice), ("quorate/api.ErrEpoch", Rows.laid_quorate_api_ErrEpoch), ("quorate/hash.constants", Rows.laid_quorate_hash_constants)]
abbrev laidP : List (String × DataW Unit) := [("quorate/api.ErrRange", Rows.laid_quorate_api_ErrRange), ("quorate/api.ErrForm", Rows.laid_quorate_api_ErrForm), ("quorate/hash.constants", Rows.laid_quorate_hash_constants)]
def textOf : DataW Unit → List UInt8
  | .iface _ (.ptr (.agg [.lit (.string t)])) => t
  | _ => []
def laidNL : List (String × List UInt8) := laidS.map fun x => (x.1, textOf x.2)
def laidPL : List (String × List UInt8) := (laidP.take 2).map fun x => (x.1, textOf x.2)
theorem laidN_eq : laidN = sentL "*errors.errorString" laidNL ++ [("quorate/hash.constants", Rows.laid_quorate_hash_constants)] := rfl
theorem laidP_eq : laidP = sentL "*errors.errorString" laidPL ++ [("quorate/hash.constants", Rows.laid_quorate_hash_constants)] := rfl
theorem laidN_named : laidNL.map (fun x => Tryd.prog.globalNamed x.1) = senG.map some := by kernel_rfl
theorem laidP_named : laidPL.map (fun x => Tryd.prog.globalNamed x.1) = [1, 0].map some := by kernel_rfl
theorem laidN_types : ∀ g ∈ senG, (Tryd.prog.globals[g]?).map (·.type) = some 57 := by
  intro g hg
  have : senG.all (fun g => decide ((Tryd.prog.globals[g]?).map (·.type) = some 57)) = true := by kernel_rfl
  rw [List.all_eq_true] at this
  exact of_decide_eq_true (this g hg)
theorem laidP_types : ∀ g ∈ [1, 0], (Tryd.prog.globals[g]?).map (·.type) = some 57 := fun g hg => laidN_types g (by simp [senG] at hg ⊢; omega)
set_option maxRecDepth 100000 in
theorem sen_of_laidN {W : World} (h : laidMetH Tryd.prog laidN W) : ∃ al, SenN W al := by
  rw [MakeChecks.laidMetH_plain _ _ _ (by kernel_rfl)] at h
  obtain ⟨ps, hv, hnd, hrows⟩ := h
  rw [laidN_eq] at hv
  obtain ⟨al, h1, h2, h3⟩ := laid_all Tryd.underlying57 Tryd.row147 Tryd.underlying147 Tryd.underlying172 rfl rfl Tryd.underlying9 Tryd.cells172 Tryd.cells9 laidNL _ senG ps laidN_named laidN_types hv (fun b off hb => (hrows b off hb).2)
  refine ⟨al, h1, h2, List.Pairwise.of_map _ (fun a b hab e => hab (by rw [e])) (h3.nodup hnd), fun a ha => ?_⟩
  exact (hrows a.block a.off (h3.subset (List.mem_map.2 ⟨a, ha, rfl⟩))).1
set_option maxRecDepth 100000 in
theorem sen_of_laidP {W : World} (h : laidMetH Tryd.prog laidP W) : ∃ aR aF, W.cell? ⟨1, 0, none⟩ = some (errV aR) ∧ W.cell? ⟨0, 0, none⟩ = some (errV aF) := by
  rw [MakeChecks.laidMetH_plain _ _ _ (by kernel_rfl)] at h
  obtain ⟨ps, hv, hnd, hrows⟩ := h
  rw [laidP_eq] at hv
  obtain ⟨al, h1, h2, h3⟩ := laid_all Tryd.underlying57 Tryd.row147 Tryd.underlying147 Tryd.underlying172 rfl rfl Tryd.underlying9 Tryd.cells172 Tryd.cells9 laidPL _ [1, 0] ps laidP_named laidP_types hv (fun b off hb => (hrows b off hb).2)
  match al, h1, h2 with
  | [aR, aF], _, h2 => exact ⟨aR, aF, h2 0 1 aR rfl rfl, h2 1 0 aF rfl rfl⟩
set_option maxRecDepth 100000 in
theorem kk_of_laidP {W : World} (h : laidMetH Tryd.prog laidP W) : W.rangeAt 18 0 (u32s kk) := by
  rw [MakeChecks.laidMetH_plain _ _ _ (by kernel_rfl)] at h
  have h2 := h.tail.tail
  rw [kk_datum] at h2
  exact kk_range_of (Lib.tabIs_of_head Tryd.gK Tryd.gKType Tryd.underlying104 Tryd.underlying103 Tryd.cells103 Tryd.cells104 h2)
set_option maxRecDepth 100000 in
theorem kk_of_laidN {W : World} (h : laidMetH Tryd.prog laidN W) : W.rangeAt 18 0 (u32s kk) := by
  rw [MakeChecks.laidMetH_plain _ _ _ (by kernel_rfl)] at h
  have h2 := h.tail.tail.tail.tail.tail.tail.tail.tail.tail.tail.tail.tail.tail.tail.tail.tail.tail.tail
  rw [kk_datum] at h2
  exact kk_range_of (Lib.tabIs_of_head Tryd.gK Tryd.gKType Tryd.underlying104 Tryd.underlying103 Tryd.cells103 Tryd.cells104 h2)
set_option maxRecDepth 100000 in
theorem door_metP (os : Os) (args : Array Value) : laidMetH Tryd.prog laidP ((World.doorLaid Tryd.prog 356 os).forCall (fun _ _ => 0) ⟨#[], args, []⟩).memory :=
  laidMetH_of_parts3 (fuel := 8) (laidMet_of_run' 8 (by kernel_rfl) (by kernel_rfl)) (by kernel_rfl) (by kernel_rfl)
set_option maxRecDepth 100000 in
theorem door_metN (os : Os) (args : Array Value) : laidMetH Tryd.prog laidN ((World.doorLaid Tryd.prog 356 os).forCall (fun _ _ => 0) ⟨#[], args, []⟩).memory :=
  laidMetH_of_parts3 (fuel := 8) (laidMet_of_run' 8 (by kernel_rfl) (by kernel_rfl)) (by kernel_rfl) (by kernel_rfl)
end Go.Proofs.YtdedphhohiioiaaDoor
/- The dump's head, word by word, and the closed facts that go by it. -/
namespace Go.Proofs.YtdedphhohiioiaaDoor
set_option maxRecDepth 100000

theorem initIs : Tryd.prog.initOrder = "harness 3ebc234e78820a6c3663f2ca88585805a99a1b02e22e4e7f501b54a0bb52bb39 cut at quorate/quoratelaw02.HashSums quorate/quoratelaw02.HashPieces quorate/quoratelaw02.HashKnown quorate/quoratelaw02.HashBytes quorate/quoratelaw02.HashOf quorate/quoratelaw02.HashZero quorate/quoratelaw03.ChainsGo quorate/quoratelaw03.ChainsRuns quorate/quoratelaw04.TreesWays quorate/quoratelaw04.TreesClimbs quorate/quoratelaw03.ChainsKept quorate/quoratelaw03.ChainsPublic quorate/quoratelaw04.TreesAll quorate/quoratelaw04.TreesKept quorate/quoratelaw03.ChainsRecovers quorate/quoratelaw03.ChainsSigns quorate/quoratelaw04.TreesRoots quorate/quoratelaw05.KeysApart quorate/quoratelaw05.KeysSigns quorate/quoratelaw05.KeysVerifies quorate/quoratelaw05.KeysSpoilt quorate/quoratelaw05.KeysMany" := by kernel_rfl
def initCodes : List Nat := [104, 97, 114, 110, 101, 115, 115, 32, 51, 101, 98, 99, 50, 51, 52, 101, 55, 56, 56, 50, 48, 97, 54, 99, 51, 54, 54, 51, 102, 50, 99, 97, 56, 56, 53, 56, 53, 56, 48, 53, 97, 57, 57, 97, 49, 98, 48, 50, 101, 50, 50, 101, 52, 101, 55, 102, 53, 48, 49, 98, 53, 52, 97, 48, 98, 98, 53, 50, 98, 98, 51, 57, 32, 99, 117, 116, 32, 97, 116, 32, 113, 117, 111, 114, 97, 116, 101, 47, 113, 117, 111, 114, 97, 116, 101, 108, 97, 119, 48, 50, 46, 72, 97, 115, 104, 83, 117, 109, 115, 32, 113, 117, 111, 114, 97, 116, 101, 47, 113, 117, 111, 114, 97, 116, 101, 108, 97, 119, 48, 50, 46, 72, 97, 115, 104, 80, 105, 101, 99, 101, 115, 32, 113, 117, 111, 114, 97, 116, 101, 47, 113, 117, 111, 114, 97, 116, 101, 108, 97, 119, 48, 50, 46, 72, 97, 115, 104, 75, 110, 111, 119, 110, 32, 113, 117, 111, 114, 97, 116, 101, 47, 113, 117, 111, 114, 97, 116, 101, 108, 97, 119, 48, 50, 46, 72, 97, 115, 104, 66, 121, 116, 101, 115, 32, 113, 117, 111, 114, 97, 116, 101, 47, 113, 117, 111, 114, 97, 116, 101, 108, 97, 119, 48, 50, 46, 72, 97, 115, 104, 79, 102, 32, 113, 117, 111, 114, 97, 116, 101, 47, 113, 117, 111, 114, 97, 116, 101, 108, 97, 119, 48, 50, 46, 72, 97, 115, 104, 90, 101, 114, 111, 32, 113, 117, 111, 114, 97, 116, 101, 47, 113, 117, 111, 114, 97, 116, 101, 108, 97, 119, 48, 51, 46, 67, 104, 97, 105, 110, 115, 71, 111, 32, 113, 117, 111, 114, 97, 116, 101, 47, 113, 117, 111, 114, 97, 116, 101, 108, 97, 119, 48, 51, 46, 67, 104, 97, 105, 110, 115, 82, 117, 110, 115, 32, 113, 117, 111, 114, 97, 116, 101, 47, 113, 117, 111, 114, 97, 116, 101, 108, 97, 119, 48, 52, 46, 84, 114, 101, 101, 115, 87, 97, 121, 115, 32, 113, 117, 111, 114, 97, 116, 101, 47, 113, 117, 111, 114, 97, 116, 101, 108, 97, 119, 48, 52, 46, 84, 114, 101, 101, 115, 67, 108, 105, 109, 98, 115, 32, 113, 117, 111, 114, 97, 116, 101, 47, 113, 117, 111, 114, 97, 116, 101, 108, 97, 119, 48, 51, 46, 67, 104, 97, 105, 110, 115, 75, 101, 112, 116, 32, 113, 117, 111, 114, 97, 116, 101, 47, 113, 117, 111, 114, 97, 116, 101, 108, 97, 119, 48, 51, 46, 67, 104, 97, 105, 110, 115, 80, 117, 98, 108, 105, 99, 32, 113, 117, 111, 114, 97, 116, 101, 47, 113, 117, 111, 114, 97, 116, 101, 108, 97, 119, 48, 52, 46, 84, 114, 101, 101, 115, 65, 108, 108, 32, 113, 117, 111, 114, 97, 116, 101, 47, 113, 117, 111, 114, 97, 116, 101, 108, 97, 119, 48, 52, 46, 84, 114, 101, 101, 115, 75, 101, 112, 116, 32, 113, 117, 111, 114, 97, 116, 101, 47, 113, 117, 111, 114, 97, 116, 101, 108, 97, 119, 48, 51, 46, 67, 104, 97, 105, 110, 115, 82, 101, 99, 111, 118, 101, 114, 115, 32, 113, 117, 111, 114, 97, 116, 101, 47, 113, 117, 111, 114, 97, 116, 101, 108, 97, 119, 48, 51, 46, 67, 104, 97, 105, 110, 115, 83, 105, 103, 110, 115, 32, 113, 117, 111, 114, 97, 116, 101, 47, 113, 117, 111, 114, 97, 116, 101, 108, 97, 119, 48, 52, 46, 84, 114, 101, 101, 115, 82, 111, 111, 116, 115, 32, 113, 117, 111, 114, 97, 116, 101, 47, 113, 117, 111, 114, 97, 116, 101, 108, 97, 119, 48, 53, 46, 75, 101, 121, 115, 65, 112, 97, 114, 116, 32, 113, 117, 111, 114, 97, 116, 101, 47, 113, 117, 111, 114, 97, 116, 101, 108, 97, 119, 48, 53, 46, 75, 101, 121, 115, 83, 105, 103, 110, 115, 32, 113, 117, 111, 114, 97, 116, 101, 47, 113, 117, 111, 114, 97, 116, 101, 108, 97, 119, 48, 53, 46, 75, 101, 121, 115, 86, 101, 114, 105, 102, 105, 101, 115, 32, 113, 117, 111, 114, 97, 116, 101, 47, 113, 117, 111, 114, 97, 116, 101, 108, 97, 119, 48, 53, 46, 75, 101, 121, 115, 83, 112, 111, 105, 108, 116, 32, 113, 117, 111, 114, 97, 116, 101, 47, 113, 117, 111, 114, 97, 116, 101, 108, 97, 119, 48, 53, 46, 75, 101, 121, 115, 77, 97, 110, 121]
def initWords : List (List Nat) := [[104, 97, 114, 110, 101, 115, 115], [51, 101, 98, 99, 50, 51, 52, 101, 55, 56, 56, 50, 48, 97, 54, 99, 51, 54, 54, 51, 102, 50, 99, 97, 56, 56, 53, 56, 53, 56, 48, 53, 97, 57, 57, 97, 49, 98, 48, 50, 101, 50, 50, 101, 52, 101, 55, 102, 53, 48, 49, 98, 53, 52, 97, 48, 98, 98, 53, 50, 98, 98, 51, 57], [99, 117, 116], [97, 116], [113, 117, 111, 114, 97, 116, 101, 47, 113, 117, 111, 114, 97, 116, 101, 108, 97, 119, 48, 50, 46, 72, 97, 115, 104, 83, 117, 109, 115], [113, 117, 111, 114, 97, 116, 101, 47, 113, 117, 111, 114, 97, 116, 101, 108, 97, 119, 48, 50, 46, 72, 97, 115, 104, 80, 105, 101, 99, 101, 115], [113, 117, 111, 114, 97, 116, 101, 47, 113, 117, 111, 114, 97, 116, 101, 108, 97, 119, 48, 50, 46, 72, 97, 115, 104, 75, 110, 111, 119, 110], [113, 117, 111, 114, 97, 116, 101, 47, 113, 117, 111, 114, 97, 116, 101, 108, 97, 119, 48, 50, 46, 72, 97, 115, 104, 66, 121, 116, 101, 115], [113, 117, 111, 114, 97, 116, 101, 47, 113, 117, 111, 114, 97, 116, 101, 108, 97, 119, 48, 50, 46, 72, 97, 115, 104, 79, 102], [113, 117, 111, 114, 97, 116, 101, 47, 113, 117, 111, 114, 97, 116, 101, 108, 97, 119, 48, 50, 46, 72, 97, 115, 104, 90, 101, 114, 111], [113, 117, 111, 114, 97, 116, 101, 47, 113, 117, 111, 114, 97, 116, 101, 108, 97, 119, 48, 51, 46, 67, 104, 97, 105, 110, 115, 71, 111], [113, 117, 111, 114, 97, 116, 101, 47, 113, 117, 111, 114, 97, 116, 101, 108, 97, 119, 48, 51, 46, 67, 104, 97, 105, 110, 115, 82, 117, 110, 115], [113, 117, 111, 114, 97, 116, 101, 47, 113, 117, 111, 114, 97, 116, 101, 108, 97, 119, 48, 52, 46, 84, 114, 101, 101, 115, 87, 97, 121, 115], [113, 117, 111, 114, 97, 116, 101, 47, 113, 117, 111, 114, 97, 116, 101, 108, 97, 119, 48, 52, 46, 84, 114, 101, 101, 115, 67, 108, 105, 109, 98, 115], [113, 117, 111, 114, 97, 116, 101, 47, 113, 117, 111, 114, 97, 116, 101, 108, 97, 119, 48, 51, 46, 67, 104, 97, 105, 110, 115, 75, 101, 112, 116], [113, 117, 111, 114, 97, 116, 101, 47, 113, 117, 111, 114, 97, 116, 101, 108, 97, 119, 48, 51, 46, 67, 104, 97, 105, 110, 115, 80, 117, 98, 108, 105, 99], [113, 117, 111, 114, 97, 116, 101, 47, 113, 117, 111, 114, 97, 116, 101, 108, 97, 119, 48, 52, 46, 84, 114, 101, 101, 115, 65, 108, 108], [113, 117, 111, 114, 97, 116, 101, 47, 113, 117, 111, 114, 97, 116, 101, 108, 97, 119, 48, 52, 46, 84, 114, 101, 101, 115, 75, 101, 112, 116], [113, 117, 111, 114, 97, 116, 101, 47, 113, 117, 111, 114, 97, 116, 101, 108, 97, 119, 48, 51, 46, 67, 104, 97, 105, 110, 115, 82, 101, 99, 111, 118, 101, 114, 115], [113, 117, 111, 114, 97, 116, 101, 47, 113, 117, 111, 114, 97, 116, 101, 108, 97, 119, 48, 51, 46, 67, 104, 97, 105, 110, 115, 83, 105, 103, 110, 115], [113, 117, 111, 114, 97, 116, 101, 47, 113, 117, 111, 114, 97, 116, 101, 108, 97, 119, 48, 52, 46, 84, 114, 101, 101, 115, 82, 111, 111, 116, 115], [113, 117, 111, 114, 97, 116, 101, 47, 113, 117, 111, 114, 97, 116, 101, 108, 97, 119, 48, 53, 46, 75, 101, 121, 115, 65, 112, 97, 114, 116], [113, 117, 111, 114, 97, 116, 101, 47, 113, 117, 111, 114, 97, 116, 101, 108, 97, 119, 48, 53, 46, 75, 101, 121, 115, 83, 105, 103, 110, 115], [113, 117, 111, 114, 97, 116, 101, 47, 113, 117, 111, 114, 97, 116, 101, 108, 97, 119, 48, 53, 46, 75, 101, 121, 115, 86, 101, 114, 105, 102, 105, 101, 115], [113, 117, 111, 114, 97, 116, 101, 47, 113, 117, 111, 114, 97, 116, 101, 108, 97, 119, 48, 53, 46, 75, 101, 121, 115, 83, 112, 111, 105, 108, 116], [113, 117, 111, 114, 97, 116, 101, 47, 113, 117, 111, 114, 97, 116, 101, 108, 97, 119, 48, 53, 46, 75, 101, 121, 115, 77, 97, 110, 121]]
def initRest : List (List Nat) := [[99, 117, 116], [97, 116], [113, 117, 111, 114, 97, 116, 101, 47, 113, 117, 111, 114, 97, 116, 101, 108, 97, 119, 48, 50, 46, 72, 97, 115, 104, 83, 117, 109, 115], [113, 117, 111, 114, 97, 116, 101, 47, 113, 117, 111, 114, 97, 116, 101, 108, 97, 119, 48, 50, 46, 72, 97, 115, 104, 80, 105, 101, 99, 101, 115], [113, 117, 111, 114, 97, 116, 101, 47, 113, 117, 111, 114, 97, 116, 101, 108, 97, 119, 48, 50, 46, 72, 97, 115, 104, 75, 110, 111, 119, 110], [113, 117, 111, 114, 97, 116, 101, 47, 113, 117, 111, 114, 97, 116, 101, 108, 97, 119, 48, 50, 46, 72, 97, 115, 104, 66, 121, 116, 101, 115], [113, 117, 111, 114, 97, 116, 101, 47, 113, 117, 111, 114, 97, 116, 101, 108, 97, 119, 48, 50, 46, 72, 97, 115, 104, 79, 102], [113, 117, 111, 114, 97, 116, 101, 47, 113, 117, 111, 114, 97, 116, 101, 108, 97, 119, 48, 50, 46, 72, 97, 115, 104, 90, 101, 114, 111], [113, 117, 111, 114, 97, 116, 101, 47, 113, 117, 111, 114, 97, 116, 101, 108, 97, 119, 48, 51, 46, 67, 104, 97, 105, 110, 115, 71, 111], [113, 117, 111, 114, 97, 116, 101, 47, 113, 117, 111, 114, 97, 116, 101, 108, 97, 119, 48, 51, 46, 67, 104, 97, 105, 110, 115, 82, 117, 110, 115], [113, 117, 111, 114, 97, 116, 101, 47, 113, 117, 111, 114, 97, 116, 101, 108, 97, 119, 48, 52, 46, 84, 114, 101, 101, 115, 87, 97, 121, 115], [113, 117, 111, 114, 97, 116, 101, 47, 113, 117, 111, 114, 97, 116, 101, 108, 97, 119, 48, 52, 46, 84, 114, 101, 101, 115, 67, 108, 105, 109, 98, 115], [113, 117, 111, 114, 97, 116, 101, 47, 113, 117, 111, 114, 97, 116, 101, 108, 97, 119, 48, 51, 46, 67, 104, 97, 105, 110, 115, 75, 101, 112, 116], [113, 117, 111, 114, 97, 116, 101, 47, 113, 117, 111, 114, 97, 116, 101, 108, 97, 119, 48, 51, 46, 67, 104, 97, 105, 110, 115, 80, 117, 98, 108, 105, 99], [113, 117, 111, 114, 97, 116, 101, 47, 113, 117, 111, 114, 97, 116, 101, 108, 97, 119, 48, 52, 46, 84, 114, 101, 101, 115, 65, 108, 108], [113, 117, 111, 114, 97, 116, 101, 47, 113, 117, 111, 114, 97, 116, 101, 108, 97, 119, 48, 52, 46, 84, 114, 101, 101, 115, 75, 101, 112, 116], [113, 117, 111, 114, 97, 116, 101, 47, 113, 117, 111, 114, 97, 116, 101, 108, 97, 119, 48, 51, 46, 67, 104, 97, 105, 110, 115, 82, 101, 99, 111, 118, 101, 114, 115], [113, 117, 111, 114, 97, 116, 101, 47, 113, 117, 111, 114, 97, 116, 101, 108, 97, 119, 48, 51, 46, 67, 104, 97, 105, 110, 115, 83, 105, 103, 110, 115], [113, 117, 111, 114, 97, 116, 101, 47, 113, 117, 111, 114, 97, 116, 101, 108, 97, 119, 48, 52, 46, 84, 114, 101, 101, 115, 82, 111, 111, 116, 115], [113, 117, 111, 114, 97, 116, 101, 47, 113, 117, 111, 114, 97, 116, 101, 108, 97, 119, 48, 53, 46, 75, 101, 121, 115, 65, 112, 97, 114, 116], [113, 117, 111, 114, 97, 116, 101, 47, 113, 117, 111, 114, 97, 116, 101, 108, 97, 119, 48, 53, 46, 75, 101, 121, 115, 83, 105, 103, 110, 115], [113, 117, 111, 114, 97, 116, 101, 47, 113, 117, 111, 114, 97, 116, 101, 108, 97, 119, 48, 53, 46, 75, 101, 121, 115, 86, 101, 114, 105, 102, 105, 101, 115], [113, 117, 111, 114, 97, 116, 101, 47, 113, 117, 111, 114, 97, 116, 101, 108, 97, 119, 48, 53, 46, 75, 101, 121, 115, 83, 112, 111, 105, 108, 116], [113, 117, 111, 114, 97, 116, 101, 47, 113, 117, 111, 114, 97, 116, 101, 108, 97, 119, 48, 53, 46, 75, 101, 121, 115, 77, 97, 110, 121]]
def initTail : List (List Nat) := [[97, 116], [113, 117, 111, 114, 97, 116, 101, 47, 113, 117, 111, 114, 97, 116, 101, 108, 97, 119, 48, 50, 46, 72, 97, 115, 104, 83, 117, 109, 115], [113, 117, 111, 114, 97, 116, 101, 47, 113, 117, 111, 114, 97, 116, 101, 108, 97, 119, 48, 50, 46, 72, 97, 115, 104, 80, 105, 101, 99, 101, 115], [113, 117, 111, 114, 97, 116, 101, 47, 113, 117, 111, 114, 97, 116, 101, 108, 97, 119, 48, 50, 46, 72, 97, 115, 104, 75, 110, 111, 119, 110], [113, 117, 111, 114, 97, 116, 101, 47, 113, 117, 111, 114, 97, 116, 101, 108, 97, 119, 48, 50, 46, 72, 97, 115, 104, 66, 121, 116, 101, 115], [113, 117, 111, 114, 97, 116, 101, 47, 113, 117, 111, 114, 97, 116, 101, 108, 97, 119, 48, 50, 46, 72, 97, 115, 104, 79, 102], [113, 117, 111, 114, 97, 116, 101, 47, 113, 117, 111, 114, 97, 116, 101, 108, 97, 119, 48, 50, 46, 72, 97, 115, 104, 90, 101, 114, 111], [113, 117, 111, 114, 97, 116, 101, 47, 113, 117, 111, 114, 97, 116, 101, 108, 97, 119, 48, 51, 46, 67, 104, 97, 105, 110, 115, 71, 111], [113, 117, 111, 114, 97, 116, 101, 47, 113, 117, 111, 114, 97, 116, 101, 108, 97, 119, 48, 51, 46, 67, 104, 97, 105, 110, 115, 82, 117, 110, 115], [113, 117, 111, 114, 97, 116, 101, 47, 113, 117, 111, 114, 97, 116, 101, 108, 97, 119, 48, 52, 46, 84, 114, 101, 101, 115, 87, 97, 121, 115], [113, 117, 111, 114, 97, 116, 101, 47, 113, 117, 111, 114, 97, 116, 101, 108, 97, 119, 48, 52, 46, 84, 114, 101, 101, 115, 67, 108, 105, 109, 98, 115], [113, 117, 111, 114, 97, 116, 101, 47, 113, 117, 111, 114, 97, 116, 101, 108, 97, 119, 48, 51, 46, 67, 104, 97, 105, 110, 115, 75, 101, 112, 116], [113, 117, 111, 114, 97, 116, 101, 47, 113, 117, 111, 114, 97, 116, 101, 108, 97, 119, 48, 51, 46, 67, 104, 97, 105, 110, 115, 80, 117, 98, 108, 105, 99], [113, 117, 111, 114, 97, 116, 101, 47, 113, 117, 111, 114, 97, 116, 101, 108, 97, 119, 48, 52, 46, 84, 114, 101, 101, 115, 65, 108, 108], [113, 117, 111, 114, 97, 116, 101, 47, 113, 117, 111, 114, 97, 116, 101, 108, 97, 119, 48, 52, 46, 84, 114, 101, 101, 115, 75, 101, 112, 116], [113, 117, 111, 114, 97, 116, 101, 47, 113, 117, 111, 114, 97, 116, 101, 108, 97, 119, 48, 51, 46, 67, 104, 97, 105, 110, 115, 82, 101, 99, 111, 118, 101, 114, 115], [113, 117, 111, 114, 97, 116, 101, 47, 113, 117, 111, 114, 97, 116, 101, 108, 97, 119, 48, 51, 46, 67, 104, 97, 105, 110, 115, 83, 105, 103, 110, 115], [113, 117, 111, 114, 97, 116, 101, 47, 113, 117, 111, 114, 97, 116, 101, 108, 97, 119, 48, 52, 46, 84, 114, 101, 101, 115, 82, 111, 111, 116, 115], [113, 117, 111, 114, 97, 116, 101, 47, 113, 117, 111, 114, 97, 116, 101, 108, 97, 119, 48, 53, 46, 75, 101, 121, 115, 65, 112, 97, 114, 116], [113, 117, 111, 114, 97, 116, 101, 47, 113, 117, 111, 114, 97, 116, 101, 108, 97, 119, 48, 53, 46, 75, 101, 121, 115, 83, 105, 103, 110, 115], [113, 117, 111, 114, 97, 116, 101, 47, 113, 117, 111, 114, 97, 116, 101, 108, 97, 119, 48, 53, 46, 75, 101, 121, 115, 86, 101, 114, 105, 102, 105, 101, 115], [113, 117, 111, 114, 97, 116, 101, 47, 113, 117, 111, 114, 97, 116, 101, 108, 97, 119, 48, 53, 46, 75, 101, 121, 115, 83, 112, 111, 105, 108, 116], [113, 117, 111, 114, 97, 116, 101, 47, 113, 117, 111, 114, 97, 116, 101, 108, 97, 119, 48, 53, 46, 75, 101, 121, 115, 77, 97, 110, 121]]
theorem initL : ("harness 3ebc234e78820a6c3663f2ca88585805a99a1b02e22e4e7f501b54a0bb52bb39 cut at quorate/quoratelaw02.HashSums quorate/quoratelaw02.HashPieces quorate/quoratelaw02.HashKnown quorate/quoratelaw02.HashBytes quorate/quoratelaw02.HashOf quorate/quoratelaw02.HashZero quorate/quoratelaw03.ChainsGo quorate/quoratelaw03.ChainsRuns quorate/quoratelaw04.TreesWays quorate/quoratelaw04.TreesClimbs quorate/quoratelaw03.ChainsKept quorate/quoratelaw03.ChainsPublic quorate/quoratelaw04.TreesAll quorate/quoratelaw04.TreesKept quorate/quoratelaw03.ChainsRecovers quorate/quoratelaw03.ChainsSigns quorate/quoratelaw04.TreesRoots quorate/quoratelaw05.KeysApart quorate/quoratelaw05.KeysSigns quorate/quoratelaw05.KeysVerifies quorate/quoratelaw05.KeysSpoilt quorate/quoratelaw05.KeysMany" : String) = String.ofList (initCodes.map Char.ofNat) := by kernel_rfl
theorem initSigns : Tryd.prog.initOrder.toList = initCodes.map Char.ofNat := by rw [initIs, initL, String.toList_ofList]
theorem initW : wordsSigns (initCodes.map Char.ofNat) = initWords.map (fun l => l.map Char.ofNat) := by kernel_rfl
theorem initIn : wordsSigns Tryd.prog.initOrder.toList = initWords.map (fun l => l.map Char.ofNat) := by rw [initSigns, initW]

theorem behindIn : behindMainWord (wordsSigns Tryd.prog.initOrder.toList) = initRest.map (fun l => l.map Char.ofNat) := by rw [initIn]; kernel_rfl
theorem stripIn : stripLifts liftWords (initRest.map (fun l => l.map Char.ofNat)) = ([], initRest.map (fun l => l.map Char.ofNat)) := by kernel_rfl
theorem restIn : initRest.map (fun l => l.map Char.ofNat) = [99, 117, 116].map Char.ofNat :: initTail.map (fun l => l.map Char.ofNat) := by kernel_rfl
theorem noLater : Tryd.prog.laysLater = false := by kernel_rfl
theorem noReflect : Tryd.prog.bearsReflect = false := by kernel_rfl
theorem doorFits_ok : Tryd.prog.doorFits [] = true := by kernel_rfl
theorem isCut : (([99, 117, 116] : List Nat).map Char.ofNat == "cut".toList) = true := by kernel_rfl
theorem noGc : (([99, 117, 116] : List Nat).map Char.ofNat == "gc".toList) = false := by kernel_rfl
theorem noSpec : (([99, 117, 116] : List Nat).map Char.ofNat == "spec".toList) = false := by kernel_rfl
theorem noCarried : (([99, 117, 116] : List Nat).map Char.ofNat == "carried".toList) = false := by kernel_rfl
theorem mayEnter_of {P : Program} {c : List Char} {rest : List (List Char)} (h : behindMainWord (wordsSigns P.initOrder.toList) = c :: rest) (hs : stripLifts liftWords (c :: rest) = ([], c :: rest)) (hc : (c == "cut".toList) = true)
    (h1 : P.laysLater = false) (h2 : P.bearsReflect = false) (h3 : P.doorFits [] = true) : P.mayEnter = true := by
  unfold Program.mayEnter
  rw [h]
  have e : (some c == some "cut".toList) = true := hc
  dsimp only
  rw [hs, h1, h2]
  dsimp only
  rw [h3, List.head?_cons, e]
  simp
theorem mayEnter_ok : Tryd.prog.mayEnter = true := mayEnter_of (behindIn.trans restIn) (by rw [← restIn]; exact stripIn) isCut noLater noReflect doorFits_ok
theorem headLifts_ok : Tryd.prog.headLifts = [] := by
  unfold Program.headLifts
  rw [behindIn, stripIn]
  exact ite_self []
theorem liftsFinal_ok : Tryd.prog.liftsFinal = false := by
  unfold Program.liftsFinal
  rw [behindIn, restIn, headLifts_ok]
  have e : (some (([99, 117, 116] : List Nat).map Char.ofNat) == some "carried".toList) = false := noCarried
  simp only [List.head?_cons, e, Bool.false_and, List.contains_nil, Bool.or_false]
theorem make_of {P : Program} {c : List Char} {rest : List (List Char)} (h : behindMainWord (wordsSigns P.initOrder.toList) = c :: rest) (h1 : (c == "gc".toList) = false) (h2 : (c == "spec".toList) = false) (hc : (c == "cut".toList) = true) : P.make = some .cut := by
  unfold Program.make
  rw [h]
  dsimp only
  rw [h1, h2, hc]
  rfl
theorem make_ok : Tryd.prog.make = some .cut := make_of (behindIn.trans restIn) noGc noSpec isCut
theorem mainIs_of {P : Program} {h s : List Char} {rest : List (List Char)} (hw : wordsSigns P.initOrder.toList = h :: s :: rest) (h1 : isSumSigns s = true) (h2 : (h == "harness".toList) = true) : P.mainIs = some (true, s) := by
  unfold Program.mainIs
  rw [hw]
  dsimp only
  rw [h1, h2]
  rfl
theorem wordsIn2 : initWords.map (fun l => l.map Char.ofNat) = ([104, 97, 114, 110, 101, 115, 115] : List Nat).map Char.ofNat :: ([51, 101, 98, 99, 50, 51, 52, 101, 55, 56, 56, 50, 48, 97, 54, 99, 51, 54, 54, 51, 102, 50, 99, 97, 56, 56, 53, 56, 53, 56, 48, 53, 97, 57, 57, 97, 49, 98, 48, 50, 101, 50, 50, 101, 52, 101, 55, 102, 53, 48, 49, 98, 53, 52, 97, 48, 98, 98, 53, 50, 98, 98, 51, 57] : List Nat).map Char.ofNat :: initRest.map (fun l => l.map Char.ofNat) := by kernel_rfl
theorem sumL : ("3ebc234e78820a6c3663f2ca88585805a99a1b02e22e4e7f501b54a0bb52bb39" : String) = String.ofList (([51, 101, 98, 99, 50, 51, 52, 101, 55, 56, 56, 50, 48, 97, 54, 99, 51, 54, 54, 51, 102, 50, 99, 97, 56, 56, 53, 56, 53, 56, 48, 53, 97, 57, 57, 97, 49, 98, 48, 50, 101, 50, 50, 101, 52, 101, 55, 102, 53, 48, 49, 98, 53, 52, 97, 48, 98, 98, 53, 50, 98, 98, 51, 57] : List Nat).map Char.ofNat) := by kernel_rfl
theorem isSum : isSumSigns (([51, 101, 98, 99, 50, 51, 52, 101, 55, 56, 56, 50, 48, 97, 54, 99, 51, 54, 54, 51, 102, 50, 99, 97, 56, 56, 53, 56, 53, 56, 48, 53, 97, 57, 57, 97, 49, 98, 48, 50, 101, 50, 50, 101, 52, 101, 55, 102, 53, 48, 49, 98, 53, 52, 97, 48, 98, 98, 53, 50, 98, 98, 51, 57] : List Nat).map Char.ofNat) = true := by kernel_rfl
theorem isHarness : (([104, 97, 114, 110, 101, 115, 115] : List Nat).map Char.ofNat == "harness".toList) = true := by kernel_rfl
theorem mainIs_ok : Tryd.prog.mainIs = some (true, "3ebc234e78820a6c3663f2ca88585805a99a1b02e22e4e7f501b54a0bb52bb39".toList) := by
  rw [mainIs_of (initIn.trans wordsIn2) isSum isHarness, sumL, String.toList_ofList]
theorem looks_ok : Tryd.prog.looks [] = true := by kernel_rfl
theorem andB {a b : Bool} (h : a = true) (k : b = true) : (a && b) = true := by rw [h, k]; rfl
end Go.Proofs.YtdedphhohiioiaaDoor
