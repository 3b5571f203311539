/- Lemmas that laws of this seat rest on, part 16; each says its own conditions: Jn. -/
import Derived.Test.YtniknhhejlgdfaaGreatDoorBase15
/- epochs.joined: are a Change's blocks joined. -/
namespace Go.Proofs.YtniknhhejlgdfaaGreatDoor
open Go.RowKit

theorem bl3_cell {w : World} {b : Nat} {f : Nat → List Value} {B : Bk} {w0 : World} (hf : ∀ j, j < 3 → (f j).length = 39) (h : w.rangeAt b 0 (bl3 f)) (i : Nat) (hi : i < 3) (hB : BkAt w0 (f i) B) : w.cell? ⟨b, i * 39 + 1, none⟩ = some (.int .i64 B.round) := by
  have := bl3_range 39 hf h i hi 1 (.int .i64 B.round) (by
    obtain ⟨q, A, c, B', d, e, _⟩ := hB.ex
    rw [e]
    rfl)
  rwa [Nat.zero_add] at this
set_option maxHeartbeats 16000000 in
set_option maxRecDepth 100000 in
theorem joined_any (f : Nat → List Value) (cq : List Value) (c : Ch) (al : List Addr) (w : World) (hB : ∀ i, i < 3 → BkAt w (f i) (c.b i)) (hq : QcAt w cq c.q) (hi : ∀ i, i < 3 → I64 (c.b i).epoch ∧ I64 (c.b i).round ∧ Q64 (c.qc i)) (hs : SenN w al) (hk : w.rangeAt 18 0 (u32s kk)) :
    Calls Tryz.prog 35 #[.agg (chC f cq).toArray] w fun x w' => x = .returned (errN al (jN c)) ∧ Below w.heap.size w w' := by
  have b0 : Below w.heap.size w ((w.alloc (.cells (chC f cq).toArray 35)).alloc (.cells #[.int .u8 0, .int .u8 0, .int .u8 0, .int .u8 0, .int .u8 0, .int .u8 0, .int .u8 0, .int .u8 0, .int .u8 0, .int .u8 0, .int .u8 0, .int .u8 0, .int .u8 0, .int .u8 0, .int .u8 0, .int .u8 0, .int .u8 0, .int .u8 0, .int .u8 0, .int .u8 0, .int .u8 0, .int .u8 0, .int .u8 0, .int .u8 0, .int .u8 0, .int .u8 0, .int .u8 0, .int .u8 0, .int .u8 0, .int .u8 0, .int .u8 0, .int .u8 0, .int .u8 0, .int .u8 0, .int .u8 0, .int .u8 0, .int .u8 0, .int .u8 0, .int .u8 0, .int .u8 0, .int .u8 0, .int .u8 0, .int .u8 0, .int .u8 0, .int .u8 0, .int .u8 0, .int .u8 0, .int .u8 0] 147)) := ((Below.refl _ _).alloc (Nat.le_refl _) _).alloc (by simp) _
  have x0 : ((w.alloc (.cells (chC f cq).toArray 35)).alloc (.cells #[.int .u8 0, .int .u8 0, .int .u8 0, .int .u8 0, .int .u8 0, .int .u8 0, .int .u8 0, .int .u8 0, .int .u8 0, .int .u8 0, .int .u8 0, .int .u8 0, .int .u8 0, .int .u8 0, .int .u8 0, .int .u8 0, .int .u8 0, .int .u8 0, .int .u8 0, .int .u8 0, .int .u8 0, .int .u8 0, .int .u8 0, .int .u8 0, .int .u8 0, .int .u8 0, .int .u8 0, .int .u8 0, .int .u8 0, .int .u8 0, .int .u8 0, .int .u8 0, .int .u8 0, .int .u8 0, .int .u8 0, .int .u8 0, .int .u8 0, .int .u8 0, .int .u8 0, .int .u8 0, .int .u8 0, .int .u8 0, .int .u8 0, .int .u8 0, .int .u8 0, .int .u8 0, .int .u8 0, .int .u8 0] 147)).heap[w.heap.size]? = some (.cells (chC f cq).toArray 35 (0, 0)) := heap_alloc2_old w _ _
  have x1 : ((w.alloc (.cells (chC f cq).toArray 35)).alloc (.cells #[.int .u8 0, .int .u8 0, .int .u8 0, .int .u8 0, .int .u8 0, .int .u8 0, .int .u8 0, .int .u8 0, .int .u8 0, .int .u8 0, .int .u8 0, .int .u8 0, .int .u8 0, .int .u8 0, .int .u8 0, .int .u8 0, .int .u8 0, .int .u8 0, .int .u8 0, .int .u8 0, .int .u8 0, .int .u8 0, .int .u8 0, .int .u8 0, .int .u8 0, .int .u8 0, .int .u8 0, .int .u8 0, .int .u8 0, .int .u8 0, .int .u8 0, .int .u8 0, .int .u8 0, .int .u8 0, .int .u8 0, .int .u8 0, .int .u8 0, .int .u8 0, .int .u8 0, .int .u8 0, .int .u8 0, .int .u8 0, .int .u8 0, .int .u8 0, .int .u8 0, .int .u8 0, .int .u8 0, .int .u8 0] 147)).heap[w.heap.size + 1]? = some (.cells (idsC (idsTo c 0)).toArray 147 (0, 0)) := by
    have := heap_alloc_new (w.alloc (.cells (chC f cq).toArray 35)) (.cells #[.int .u8 0, .int .u8 0, .int .u8 0, .int .u8 0, .int .u8 0, .int .u8 0, .int .u8 0, .int .u8 0, .int .u8 0, .int .u8 0, .int .u8 0, .int .u8 0, .int .u8 0, .int .u8 0, .int .u8 0, .int .u8 0, .int .u8 0, .int .u8 0, .int .u8 0, .int .u8 0, .int .u8 0, .int .u8 0, .int .u8 0, .int .u8 0, .int .u8 0, .int .u8 0, .int .u8 0, .int .u8 0, .int .u8 0, .int .u8 0, .int .u8 0, .int .u8 0, .int .u8 0, .int .u8 0, .int .u8 0, .int .u8 0, .int .u8 0, .int .u8 0, .int .u8 0, .int .u8 0, .int .u8 0, .int .u8 0, .int .u8 0, .int .u8 0, .int .u8 0, .int .u8 0, .int .u8 0, .int .u8 0] 147)
    rw [World.size_alloc] at this
    exact this
  have C0 := Lib.hid x0
  have D0 := Lib.hid x1
  have B0 := Lib.hid b0
  have HB := Lib.hid hB
  have HQ := Lib.hid hq
  have HI := Lib.hid hi
  have HS := Lib.hid hs
  have HK := Lib.hid hk
  have H18 := Lib.hid (kk_lt hk)
  have HL := Lib.hid (fun j hj => (hB j hj).len)
  have R0 := Lib.hid (ch_range HL.out x0).1
  have ALL := Lib.hid hs.len
  obtain ⟨aR, iR⟩ := hs.at 0 (by omega)
  obtain ⟨aK, iK⟩ := hs.at 15 (by omega)
  obtain ⟨aO, iO⟩ := hs.at 13 (by omega)
  obtain ⟨aF, iF⟩ := hs.at 11 (by omega)
  have ER := Lib.hid (hs.cell 0 0 aR rfl iR)
  have EK := Lib.hid (hs.cell 15 15 aK rfl iK)
  have EO := Lib.hid (hs.cell 13 13 aO rfl iO)
  have EF := Lib.hid (hs.cell 11 11 aF rfl iF)
  have NK := Lib.hid (show errN al 16 = errV aK from errN_at iK)
  have NO := Lib.hid (show errN al 14 = errV aO from errN_at iO)
  have NF := Lib.hid (show errN al 12 = errV aF from errN_at iF)
  clear b0 x0 x1 hB hq hi hs hk iR iK iO iF
  go_enter Tryz.func35, Tryz.ntmps35
  go_wp2_with (refine wpList_load_g rfl 33 (.tmp 12) rfl w.heap.size 0 rfl (bl3 f) _ R0.out Tryz.underlying33 rfl (by rw [bl3_len f 39 HL.out]; exact (show (Tryz.prog.info? 33).map (·.size) = some 117 by kernel_rfl)) ?_)
  go_loopw [14] (fun x wr => ∃ i : Nat, i ≤ 3 ∧ x = .int .i64 i ∧ Hid (wr.heap[w.heap.size]? = some (.cells (chC f cq).toArray 35 (0, 0))) ∧ Hid (wr.heap[w.heap.size + 1]? = some (.cells (idsC (idsTo c i)).toArray 147 (0, 0))) ∧ Hid (Below w.heap.size w wr) ∧ Hid (∀ j, j < i → idOk c j = true)) (fun x _ => 3 - (intOf x).toNat)
  case atStart => exact ⟨0, by omega, rfl, C0, D0, B0, Lib.hid (fun j h => absurd h (by omega))⟩
  case round =>
    clear C0 D0 B0 R0
    obtain ⟨i, hi3, rfl, Cr, Dr, Br, OKr⟩ := hrel
    by_cases hlt : i < 3
    · have hil : (i : Int) < 3 := by omega
      have BKi := Lib.hid (HB.out i hlt)
      have HLi := Lib.hid (HL.out i hlt)
      have HLT := Lib.hid hlt
      go_wp2_with (first | (refine wpList_ixG rfl 33 (.tmp 13) (.tmp 14) rfl (.agg (bl3 f).toArray) (.int .i64 i) (.agg (f i).toArray) rfl rfl (run_index33 f HL.out i hlt _) ?_) | (refine wpList_store_row rfl 32 (.tmp 5) (.tmp 17) rfl wr.heap.size rfl (f i) rfl 32 (has_new wr _ _ _ (by rw [HLi.out]; rfl)) (by rw [HLi.out]; exact Tryz.size32) (one_bk BKi.out) ?_; intro w1 hp1; have L1 : Below wr.heap.size wr w1 := hp1.below ((Below.refl _ _).alloc (Nat.le_refl _) _) (Nat.le_refl _); have C1 := Lib.hid (blk_below Cr.out L1); have D1 := Lib.hid (blk_below Dr.out L1); have B1 := Lib.hid (Br.out.trans (L1.mono Br.out.size)); have K1 := Lib.hid hp1.blk; clear hp1 L1) | (refine wpList_load_g rfl 32 (.tmp 5) rfl (wr.heap.size) 0 rfl (f i) _ (blk_range K1.out) Tryz.underlying32 rfl (by rw [HLi.out]; exact Tryz.size32) ?_))
      refine (id_any w1 aR (f i) (c.b i) (BKi.out.below B1.out) (cell_on B1.out ER.out) (range_below HK.out B1.out) (Nat.lt_of_lt_of_le H18.out B1.out.size)).mono ?_
      rintro _ w2 ⟨rfl, hb2⟩
      have C2 := Lib.hid (blk_below C1.out hb2)
      have D2 := Lib.hid (blk_below D1.out hb2)
      have K2 := Lib.hid (blk_below K1.out hb2)
      have B2 := Lib.hid (B1.out.trans (hb2.mono B1.out.size))
      clear hb2
      clear C1 D1 K1 B1
      obtain ⟨X, hX⟩ : ∃ X, X = idB (c.b i) := ⟨_, rfl⟩
      have hxl : X.length = 16 := hX ▸ (idB_good _).1
      have hxo : u8s_ok X := hX ▸ (idB_good _).2
      rw [← hX]
      have HX := Lib.hid hX
      have HXL := Lib.hid hxl
      clear hX hxl hxo
      cases he : encB (c.b i) with
      | none =>
        have hid : idE (c.b i) aR = errV aR := by unfold idE; rw [he]
        have HNO := Lib.hid (show idOk c i = false by unfold idOk; rw [he]; rfl)
        rw [hid]
        clear hid he
        go_wp2_with (refine wpList_store_row rfl 24 (.tmp 6) (.tmp 21) rfl w2.heap.size rfl (u8s X) rfl 24 (has_new w2 _ _ _ (by rw [u8s_len', HXL.out]; rfl)) (by rw [u8s_len', HXL.out]; exact Tryz.size24) (one_u8s X) ?_; intro w3 hp3; have L3 : Below w2.heap.size w2 w3 := hp3.below ((Below.refl _ _).alloc (Nat.le_refl _) _) (Nat.le_refl _); have C3 := Lib.hid (blk_below C2.out L3); have D3 := Lib.hid (blk_below D2.out L3); have K3 := Lib.hid (blk_below K2.out L3); have B3 := Lib.hid (B2.out.trans (L3.mono B2.out.size)); have X3 := Lib.hid hp3.blk; clear hp3 L3)
        refine wp_region_rely3 (by kernel_rfl) 15 (by kernel_rfl) (by kernel_rfl) Ext Ext.refl Ext.trans (fun ix => match ix with
          | 0 => fun _ v => v = errV aR
          | 1 => fun _ v => v = .bool true
          | 2 => fun _ v => v = .bool true
          | 3 => fun _ v => v = undef
          | 4 => fun _ v => v = undef
          | 5 => fun _ v => v = undef
          | 6 => fun _ v => v = undef
          | 7 => fun _ v => v = undef
          | 8 => fun _ v => v = undef
          | 9 => fun _ v => v = undef
          | 10 => fun _ v => v = undef
          | 11 => fun _ v => v = undef
          | 12 => fun _ v => v = undef
          | 13 => fun _ v => v = undef
          | 14 => fun _ v => v = .bool true
          | _ => fun _ _ => False) ?_
        simp (maxSteps := 10000000) only [Rely, List.take_succ_cons, List.take_zero, List.drop_succ_cons, List.drop_zero, Nat.reduceAdd, Nat.zero_add, Act.put, List.setIfInBounds_toArray, List.set_cons_succ, List.set_cons_zero]
        refine ⟨?_, ?_, ?_, ?_, ?_, ?_, ?_, ?_, ?_, ?_, ?_, ?_, ?_, ?_, ?_, ?_⟩
        · refine step_plain rfl fun rv wq hE hd => ?_
          exact gives_move _ (errV aR) (.inl rfl) rfl ⟨Ext.refl _, fun _ _ => rfl⟩
        · refine step_plain rfl fun rv wq hE hd => ?_
          exact gives_binOp .neq 40 _ _ _ rfl (errV aR) (.nilIface) (.bool true) (show rv 0 = _ from hd.1) rfl (by go_simp) (by go_simp) ⟨Ext.refl _, fun _ _ => rfl⟩
        · refine step_plain rfl fun rv wq hE hd => ?_
          exact gives_move _ (.bool true) (.inl rfl) (show rv 1 = _ from hd.1) ⟨Ext.refl _, fun _ _ => rfl⟩
        · refine step_skip 2 false 25 rfl rfl (fun _ => rfl) fun vs wv hE hd => ⟨.inl hd.1, fun _ => rfl⟩
        · refine step_skip 2 false 25 rfl rfl (fun _ => rfl) fun vs wv hE hd => ⟨.inl hd.2.1, fun _ => rfl⟩
        · refine step_skip 2 false 25 rfl rfl (fun _ => rfl) fun vs wv hE hd => ⟨.inl hd.2.2.1, fun _ => rfl⟩
        · refine step_skip 5 true 28 rfl rfl (fun _ => rfl) fun vs wv hE hd => ⟨.inr hd.1, fun _ => rfl⟩
        · refine step_skip 5 true 28 rfl rfl (fun _ => rfl) fun vs wv hE hd => ⟨.inr hd.2.1, fun _ => rfl⟩
        · refine step_skip 5 true 28 rfl rfl (fun _ => rfl) fun vs wv hE hd => ⟨.inr hd.1, fun _ => rfl⟩
        · refine step_skip 5 true 28 rfl rfl (fun _ => rfl) fun vs wv hE hd => ⟨.inr hd.2.1, fun _ => rfl⟩
        · refine step_skip 5 true 28 rfl rfl (fun _ => rfl) fun vs wv hE hd => ⟨.inr hd.2.1, fun _ => rfl⟩
        · refine step_skip 5 true 28 rfl rfl (fun _ => rfl) fun vs wv hE hd => ⟨.inr hd.2.1, fun _ => rfl⟩
        · refine step_skip 5 true 28 rfl rfl (fun _ => rfl) fun vs wv hE hd => ⟨.inr hd.2.2.1, fun _ => rfl⟩
        · refine step_skip 2 false 25 rfl rfl (fun _ => rfl) fun vs wv hE hd => ⟨.inl hd.2.2.1, fun _ => rfl⟩
        · refine step_plain rfl fun rv wq hE hd => ?_
          exact gives_pick _ _ _ (.bool true) true rfl (show rv 2 = _ from hd.1) rfl ⟨Ext.refl _, fun _ _ => rfl⟩
        · intro rv wq hE hR
          have h14 : rv 14 = .bool true := hR 14 (by omega)
          rw [h14]
          have hbq := ext_of_drew hE
          have C4 := Lib.hid (blk_below C3.out hbq)
          have D4 := Lib.hid (blk_below D3.out hbq)
          have K4 := Lib.hid (blk_below K3.out hbq)
          have X4 := Lib.hid (blk_below X3.out hbq)
          have B4 := Lib.hid (B3.out.trans (hbq.mono B3.out.size))
          clear hR hE h14 hbq
          have ek := cell_on B4.out EK.out
          go_wp2_with fail
          go_ret
          refine ⟨?_, B4.out⟩
          have hj : jN c = 16 := by
            unfold jN
            rw [if_neg (by rw [all3_no i hlt HNO.out]; simp)]
          rw [hj, NK.out]
          rfl

      | some bs =>
        have hid : idE (c.b i) aR = .nilIface := by unfold idE; rw [he]
        have HSO := Lib.hid (show (encB (c.b i)).isSome = true by rw [he]; rfl)
        rw [hid]
        clear hid he
        by_cases hz : i = 0
        · have hz0 : ¬ (0 : Int) < i := by omega
          have HYES := Lib.hid (show idOk c i = true by unfold idOk; rw [HSO.out, decide_eq_true hz]; rfl)
          clear hz
          go_wp2_with (refine wpList_store_row rfl 24 (.tmp 6) (.tmp 21) rfl w2.heap.size rfl (u8s X) rfl 24 (has_new w2 _ _ _ (by rw [u8s_len', HXL.out]; rfl)) (by rw [u8s_len', HXL.out]; exact Tryz.size24) (one_u8s X) ?_; intro w3 hp3; have L3 : Below w2.heap.size w2 w3 := hp3.below ((Below.refl _ _).alloc (Nat.le_refl _) _) (Nat.le_refl _); have C3 := Lib.hid (blk_below C2.out L3); have D3 := Lib.hid (blk_below D2.out L3); have K3 := Lib.hid (blk_below K2.out L3); have B3 := Lib.hid (B2.out.trans (L3.mono B2.out.size)); have X3 := Lib.hid hp3.blk; clear hp3 L3)
          refine wp_region_rely3 (by kernel_rfl) 15 (by kernel_rfl) (by kernel_rfl) Ext Ext.refl Ext.trans (fun ix => match ix with
            | 0 => fun _ v => v = .nilIface
            | 1 => fun _ v => v = .bool false
            | 2 => fun _ v => v = .bool false
            | 3 => fun _ v => v = .int .i64 (i : Int)
            | 4 => fun _ v => v = .bool false
            | 5 => fun _ v => v = .bool false
            | 6 => fun _ v => v = undef
            | 7 => fun _ v => v = undef
            | 8 => fun _ v => v = undef
            | 9 => fun _ v => v = undef
            | 10 => fun _ v => v = undef
            | 11 => fun _ v => v = undef
            | 12 => fun _ v => v = undef
            | 13 => fun _ v => v = .bool false
            | 14 => fun _ v => v = .bool false
            | _ => fun _ _ => False) ?_
          simp (maxSteps := 10000000) only [Rely, List.take_succ_cons, List.take_zero, List.drop_succ_cons, List.drop_zero, Nat.reduceAdd, Nat.zero_add, Act.put, List.setIfInBounds_toArray, List.set_cons_succ, List.set_cons_zero]
          refine ⟨?_, ?_, ?_, ?_, ?_, ?_, ?_, ?_, ?_, ?_, ?_, ?_, ?_, ?_, ?_, ?_⟩
          · refine step_plain rfl fun rv wq hE hd => ?_
            exact gives_move _ (.nilIface) (.inl rfl) rfl ⟨Ext.refl _, fun _ _ => rfl⟩
          · refine step_plain rfl fun rv wq hE hd => ?_
            exact gives_binOp .neq 40 _ _ _ rfl (.nilIface) (.nilIface) (.bool false) (show rv 0 = _ from hd.1) rfl (by go_simp) (by go_simp) ⟨Ext.refl _, fun _ _ => rfl⟩
          · refine step_plain rfl fun rv wq hE hd => ?_
            exact gives_move _ (.bool false) (.inl rfl) (show rv 1 = _ from hd.1) ⟨Ext.refl _, fun _ _ => rfl⟩
          · refine step_guard 2 false 25 rfl rfl (fun _ => rfl) fun rv wq hE hd => ⟨hd.1, ?_⟩
            exact gives_move _ (.int .i64 (i : Int)) (.inl rfl) rfl ⟨Ext.refl _, fun _ _ => rfl⟩
          · refine step_guard 2 false 25 rfl rfl (fun _ => rfl) fun rv wq hE hd => ⟨hd.2.1, ?_⟩
            exact gives_binOp .gtr 3 _ _ _ rfl (.int .i64 (i : Int)) (Value.int .i64 0) (.bool false) (show rv 3 = _ from hd.1) rfl (by go_simp) (by first | (go_simp; done) | (go_simp; omega)) ⟨Ext.refl _, fun _ _ => rfl⟩
          · refine step_guard 2 false 25 rfl rfl (fun _ => rfl) fun rv wq hE hd => ⟨hd.2.2.1, ?_⟩
            exact gives_move _ (.bool false) (.inl rfl) (show rv 4 = _ from hd.1) ⟨Ext.refl _, fun _ _ => rfl⟩
          · refine step_skip 5 true 28 rfl rfl (fun _ => rfl) fun vs wv hE hd => ⟨.inl hd.1, fun _ => rfl⟩
          · refine step_skip 5 true 28 rfl rfl (fun _ => rfl) fun vs wv hE hd => ⟨.inl hd.2.1, fun _ => rfl⟩
          · refine step_skip 5 true 28 rfl rfl (fun _ => rfl) fun vs wv hE hd => ⟨.inl hd.1, fun _ => rfl⟩
          · refine step_skip 5 true 28 rfl rfl (fun _ => rfl) fun vs wv hE hd => ⟨.inl hd.2.1, fun _ => rfl⟩
          · refine step_skip 5 true 28 rfl rfl (fun _ => rfl) fun vs wv hE hd => ⟨.inl hd.2.1, fun _ => rfl⟩
          · refine step_skip 5 true 28 rfl rfl (fun _ => rfl) fun vs wv hE hd => ⟨.inl hd.2.1, fun _ => rfl⟩
          · refine step_skip 5 true 28 rfl rfl (fun _ => rfl) fun vs wv hE hd => ⟨.inl hd.2.2.1, fun _ => rfl⟩
          · refine step_guard 2 false 25 rfl rfl (fun _ => rfl) fun rv wq hE hd => ⟨hd.2.2.1, ?_⟩
            exact gives_pick _ _ _ (.bool false) false rfl (show rv 5 = _ from hd.1) rfl ⟨Ext.refl _, fun _ _ => rfl⟩
          · refine step_plain rfl fun rv wq hE hd => ?_
            exact gives_pick _ _ _ (.bool false) false rfl (show rv 2 = _ from hd.1) (show rv 13 = _ from hd.2.1) ⟨Ext.refl _, fun _ _ => rfl⟩
          · intro rv wq hE hR
            have h14 : rv 14 = .bool false := hR 14 (by omega)
            rw [h14]
            have hbq := ext_of_drew hE
            have C4 := Lib.hid (blk_below C3.out hbq)
            have D4 := Lib.hid (blk_below D3.out hbq)
            have K4 := Lib.hid (blk_below K3.out hbq)
            have X4 := Lib.hid (blk_below X3.out hbq)
            have B4 := Lib.hid (B3.out.trans (hbq.mono B3.out.size))
            clear hR hE h14 hbq
            go_wp2_with (first | (refine wpList_load_g rfl 24 (.tmp 6) rfl w2.heap.size 0 rfl (u8s X) _ (blk_range X4.out) Tryz.underlying24 rfl (hi24 X HXL.out) ?_) | (refine wpList_store_mid rfl 24 (.tmp 41) (.tmp 40) rfl (w.heap.size + 1) (i * 16) rfl (u8s X) rfl 147 (idsC (idsTo c i)) D4.out (hi24 X HXL.out) (one_u8s X) (by rw [idsC_len _ (idsTo_len c i), u8s_len', HXL.out]; omega) (idsC (idsTo c (i + 1))) (by rw [HX.out]; exact idsC_put c i hlt) ?_; intro w5 hp5; have D5 := Lib.hid hp5.blk; have C5 := Lib.hid ((hp5.other w.heap.size (by omega)).trans C4.out); have B5 := Lib.hid (hp5.below B4.out (by omega)); clear hp5))
            go_roundw
            case rel => exact ⟨i + 1, by omega, by go_num, C5, D5, B5, Lib.hid (fun j hj => by
              by_cases hji : j = i
              · subst hji; exact HYES.out
              · exact OKr.out j (by omega))⟩
            case measure => simp [intOf]; omega

        · have hz0 : (0 : Int) < i := by omega
          obtain ⟨k, hki⟩ : ∃ k : Nat, i = k + 1 := ⟨i - 1, by omega⟩
          have HKI := Lib.hid hki
          have hk3 : (k : Int) < 3 := by omega
          have HK3 := Lib.hid (show k < 3 by omega)
          obtain ⟨PA, hPA⟩ : ∃ x, x = (c.b i).parent := ⟨_, rfl⟩
          obtain ⟨IK, hIK⟩ : ∃ x, x = idB (c.b k) := ⟨_, rfl⟩
          have HPL := Lib.hid (show PA.length = 16 from hPA ▸ BKi.out.par.1)
          have HIL := Lib.hid (show IK.length = 16 from hIK ▸ (idB_good _).1)
          have HPA := Lib.hid hPA
          have HIK := Lib.hid hIK
          have hpar := bk_2 K2.out BKi.out
          rw [← hPA] at hpar
          have hidr := idsC_range (idsTo_len c i) D2.out k HK3.out
          rw [show idsTo c i k = IK by unfold idsTo; rw [if_pos (by omega), hIK]] at hidr
          have RPA2 := Lib.hid hpar
          have RIK2 := Lib.hid hidr
          clear hz hki hPA hIK hpar hidr
          by_cases hpe : PA = IK
          · have HYES := Lib.hid (show idOk c i = true by unfold idOk; rw [HSO.out, ← HPA.out, hpe, HIK.out, show i - 1 = k by have := HKI.out; omega]; simp)
            go_wp2_with (refine wpList_store_row rfl 24 (.tmp 6) (.tmp 21) rfl w2.heap.size rfl (u8s X) rfl 24 (has_new w2 _ _ _ (by rw [u8s_len', HXL.out]; rfl)) (by rw [u8s_len', HXL.out]; exact Tryz.size24) (one_u8s X) ?_; intro w3 hp3; have L3 : Below w2.heap.size w2 w3 := hp3.below ((Below.refl _ _).alloc (Nat.le_refl _) _) (Nat.le_refl _); have C3 := Lib.hid (blk_below C2.out L3); have D3 := Lib.hid (blk_below D2.out L3); have K3 := Lib.hid (blk_below K2.out L3); have B3 := Lib.hid (B2.out.trans (L3.mono B2.out.size)); have X3 := Lib.hid hp3.blk; have RPA := Lib.hid (range_below RPA2.out L3); have RIK := Lib.hid (range_below RIK2.out L3); clear hp3 L3)
            refine wp_region_rely3 (by kernel_rfl) 15 (by kernel_rfl) (by kernel_rfl) Ext Ext.refl Ext.trans (fun ix => match ix with
              | 0 => fun _ v => v = .nilIface
              | 1 => fun _ v => v = .bool false
              | 2 => fun _ v => v = .bool false
              | 3 => fun _ v => v = .int .i64 (i : Int)
              | 4 => fun _ v => v = .bool true
              | 5 => fun _ v => v = .bool true
              | 6 => fun _ v => v = .pointer (some ⟨wr.heap.size, 2, none⟩)
              | 7 => fun _ v => v = .agg (u8s PA).toArray
              | 8 => fun _ v => v = .int .i64 (i : Int)
              | 9 => fun _ v => v = .int .i64 (k : Int)
              | 10 => fun _ v => v = .pointer (some ⟨w.heap.size + 1, k * 16, none⟩)
              | 11 => fun _ v => v = .agg (u8s IK).toArray
              | 12 => fun _ v => v = .bool false
              | 13 => fun _ v => v = .bool false
              | 14 => fun _ v => v = .bool false
              | _ => fun _ _ => False) ?_
            simp (maxSteps := 10000000) only [Rely, List.take_succ_cons, List.take_zero, List.drop_succ_cons, List.drop_zero, Nat.reduceAdd, Nat.zero_add, Act.put, List.setIfInBounds_toArray, List.set_cons_succ, List.set_cons_zero]
            refine ⟨?_, ?_, ?_, ?_, ?_, ?_, ?_, ?_, ?_, ?_, ?_, ?_, ?_, ?_, ?_, ?_⟩
            · refine step_plain rfl fun rv wq hE hd => ?_
              exact gives_move _ (.nilIface) (.inl rfl) rfl ⟨Ext.refl _, fun _ _ => rfl⟩
            · refine step_plain rfl fun rv wq hE hd => ?_
              exact gives_binOp .neq 40 _ _ _ rfl (.nilIface) (.nilIface) (.bool false) (show rv 0 = _ from hd.1) rfl (by go_simp) (by go_simp) ⟨Ext.refl _, fun _ _ => rfl⟩
            · refine step_plain rfl fun rv wq hE hd => ?_
              exact gives_move _ (.bool false) (.inl rfl) (show rv 1 = _ from hd.1) ⟨Ext.refl _, fun _ _ => rfl⟩
            · refine step_guard 2 false 25 rfl rfl (fun _ => rfl) fun rv wq hE hd => ⟨hd.1, ?_⟩
              exact gives_move _ (.int .i64 (i : Int)) (.inl rfl) rfl ⟨Ext.refl _, fun _ _ => rfl⟩
            · refine step_guard 2 false 25 rfl rfl (fun _ => rfl) fun rv wq hE hd => ⟨hd.2.1, ?_⟩
              exact gives_binOp .gtr 3 _ _ _ rfl (.int .i64 (i : Int)) (Value.int .i64 0) (.bool true) (show rv 3 = _ from hd.1) rfl (by go_simp) (by first | (go_simp; done) | (go_simp; omega)) ⟨Ext.refl _, fun _ _ => rfl⟩
            · refine step_guard 2 false 25 rfl rfl (fun _ => rfl) fun rv wq hE hd => ⟨hd.2.2.1, ?_⟩
              exact gives_move _ (.bool true) (.inl rfl) (show rv 4 = _ from hd.1) ⟨Ext.refl _, fun _ _ => rfl⟩
            · refine step_guard 5 true 28 rfl rfl (fun _ => rfl) fun rv wq hE hd => ⟨hd.1, ?_⟩
              exact gives_fieldAddr' 32 _ 2 rfl (.pointer (some ⟨wr.heap.size, 0, none⟩)) _ rfl (by go_simp) ⟨Ext.refl _, fun _ _ => rfl⟩
            · refine step_guard 5 true 28 rfl rfl (fun _ => rfl) fun rv wq hE hd => ⟨hd.2.1, ?_⟩
              exact gives_load_row 24 _ rfl (wr.heap.size) (2) (show rv 6 = _ from hd.1) (u8s PA) _ (range_below RPA.out (ext_of_drew hE)) Tryz.underlying24 rfl (hi24 PA HPL.out) ⟨Ext.refl _, fun _ _ => rfl⟩
            · refine step_guard 5 true 28 rfl rfl (fun _ => rfl) fun rv wq hE hd => ⟨hd.1, ?_⟩
              exact gives_move _ (.int .i64 (i : Int)) (.inl rfl) rfl ⟨Ext.refl _, fun _ _ => rfl⟩
            · refine step_guard 5 true 28 rfl rfl (fun _ => rfl) fun rv wq hE hd => ⟨hd.2.1, ?_⟩
              exact gives_binOp .sub 3 _ _ _ rfl (.int .i64 (i : Int)) (Value.int .i64 1) (.int .i64 (k : Int)) (show rv 8 = _ from hd.1) rfl (by go_simp) (by go_simp; rw [IntKind.wrap_i64]; have := HKI.out; omega) ⟨Ext.refl _, fun _ _ => rfl⟩
            · refine step_guard 5 true 28 rfl rfl (fun _ => rfl) fun rv wq hE hd => ⟨hd.2.1, ?_⟩
              exact gives_indexAt 147 _ _ rfl (.pointer (some ⟨w.heap.size + 1, 0, none⟩)) (.int .i64 (k : Int)) (.pointer (some ⟨w.heap.size + 1, k * 16, none⟩)) rfl (show rv 9 = _ from hd.1) (by go_simp) ⟨Ext.refl _, fun _ _ => rfl⟩
            · refine step_guard 5 true 28 rfl rfl (fun _ => rfl) fun rv wq hE hd => ⟨hd.2.1, ?_⟩
              exact gives_load_row 24 _ rfl (w.heap.size + 1) (k * 16) (show rv 10 = _ from hd.1) (u8s IK) _ (range_below RIK.out (ext_of_drew hE)) Tryz.underlying24 rfl (hi24 IK HIL.out) ⟨Ext.refl _, fun _ _ => rfl⟩
            · refine step_guard 5 true 28 rfl rfl (fun _ => rfl) fun rv wq hE hd => ⟨hd.2.2.1, ?_⟩
              exact gives_binOp .neq 24 _ _ _ rfl (.agg (u8s PA).toArray) (.agg (u8s IK).toArray) (.bool false) (show rv 7 = _ from hd.1) (show rv 11 = _ from hd.2.1) (guard24 _ _ _ _ _ _) ((run_neq24 PA IK HPL.out HIL.out _).trans (by rw [decide_eq_true hpe]; rfl)) ⟨Ext.refl _, fun _ _ => rfl⟩
            · refine step_guard 2 false 25 rfl rfl (fun _ => rfl) fun rv wq hE hd => ⟨hd.2.2.1, ?_⟩
              exact gives_pick _ _ _ (.bool false) true rfl (show rv 5 = _ from hd.1) (show rv 12 = _ from hd.2.1) ⟨Ext.refl _, fun _ _ => rfl⟩
            · refine step_plain rfl fun rv wq hE hd => ?_
              exact gives_pick _ _ _ (.bool false) false rfl (show rv 2 = _ from hd.1) (show rv 13 = _ from hd.2.1) ⟨Ext.refl _, fun _ _ => rfl⟩
            · intro rv wq hE hR
              have h14 : rv 14 = .bool false := hR 14 (by omega)
              rw [h14]
              have hbq := ext_of_drew hE
              have C4 := Lib.hid (blk_below C3.out hbq)
              have D4 := Lib.hid (blk_below D3.out hbq)
              have K4 := Lib.hid (blk_below K3.out hbq)
              have X4 := Lib.hid (blk_below X3.out hbq)
              have B4 := Lib.hid (B3.out.trans (hbq.mono B3.out.size))
              clear hR hE h14 hbq
              go_wp2_with (first | (refine wpList_load_g rfl 24 (.tmp 6) rfl w2.heap.size 0 rfl (u8s X) _ (blk_range X4.out) Tryz.underlying24 rfl (hi24 X HXL.out) ?_) | (refine wpList_store_mid rfl 24 (.tmp 41) (.tmp 40) rfl (w.heap.size + 1) (i * 16) rfl (u8s X) rfl 147 (idsC (idsTo c i)) D4.out (hi24 X HXL.out) (one_u8s X) (by rw [idsC_len _ (idsTo_len c i), u8s_len', HXL.out]; omega) (idsC (idsTo c (i + 1))) (by rw [HX.out]; exact idsC_put c i hlt) ?_; intro w5 hp5; have D5 := Lib.hid hp5.blk; have C5 := Lib.hid ((hp5.other w.heap.size (by omega)).trans C4.out); have B5 := Lib.hid (hp5.below B4.out (by omega)); clear hp5))
              go_roundw
              case rel => exact ⟨i + 1, by omega, by go_num, C5, D5, B5, Lib.hid (fun j hj => by
                by_cases hji : j = i
                · subst hji; exact HYES.out
                · exact OKr.out j (by omega))⟩
              case measure => simp [intOf]; omega

          · have HNO := Lib.hid (show idOk c i = false by unfold idOk; rw [show i - 1 = k by have := HKI.out; omega, ← HPA.out, ← HIK.out, decide_eq_false hpe, decide_eq_false (show ¬ i = 0 by have := HKI.out; omega)]; simp)
            go_wp2_with (refine wpList_store_row rfl 24 (.tmp 6) (.tmp 21) rfl w2.heap.size rfl (u8s X) rfl 24 (has_new w2 _ _ _ (by rw [u8s_len', HXL.out]; rfl)) (by rw [u8s_len', HXL.out]; exact Tryz.size24) (one_u8s X) ?_; intro w3 hp3; have L3 : Below w2.heap.size w2 w3 := hp3.below ((Below.refl _ _).alloc (Nat.le_refl _) _) (Nat.le_refl _); have C3 := Lib.hid (blk_below C2.out L3); have D3 := Lib.hid (blk_below D2.out L3); have K3 := Lib.hid (blk_below K2.out L3); have B3 := Lib.hid (B2.out.trans (L3.mono B2.out.size)); have X3 := Lib.hid hp3.blk; have RPA := Lib.hid (range_below RPA2.out L3); have RIK := Lib.hid (range_below RIK2.out L3); clear hp3 L3)
            refine wp_region_rely3 (by kernel_rfl) 15 (by kernel_rfl) (by kernel_rfl) Ext Ext.refl Ext.trans (fun ix => match ix with
              | 0 => fun _ v => v = .nilIface
              | 1 => fun _ v => v = .bool false
              | 2 => fun _ v => v = .bool false
              | 3 => fun _ v => v = .int .i64 (i : Int)
              | 4 => fun _ v => v = .bool true
              | 5 => fun _ v => v = .bool true
              | 6 => fun _ v => v = .pointer (some ⟨wr.heap.size, 2, none⟩)
              | 7 => fun _ v => v = .agg (u8s PA).toArray
              | 8 => fun _ v => v = .int .i64 (i : Int)
              | 9 => fun _ v => v = .int .i64 (k : Int)
              | 10 => fun _ v => v = .pointer (some ⟨w.heap.size + 1, k * 16, none⟩)
              | 11 => fun _ v => v = .agg (u8s IK).toArray
              | 12 => fun _ v => v = .bool true
              | 13 => fun _ v => v = .bool true
              | 14 => fun _ v => v = .bool true
              | _ => fun _ _ => False) ?_
            simp (maxSteps := 10000000) only [Rely, List.take_succ_cons, List.take_zero, List.drop_succ_cons, List.drop_zero, Nat.reduceAdd, Nat.zero_add, Act.put, List.setIfInBounds_toArray, List.set_cons_succ, List.set_cons_zero]
            refine ⟨?_, ?_, ?_, ?_, ?_, ?_, ?_, ?_, ?_, ?_, ?_, ?_, ?_, ?_, ?_, ?_⟩
            · refine step_plain rfl fun rv wq hE hd => ?_
              exact gives_move _ (.nilIface) (.inl rfl) rfl ⟨Ext.refl _, fun _ _ => rfl⟩
            · refine step_plain rfl fun rv wq hE hd => ?_
              exact gives_binOp .neq 40 _ _ _ rfl (.nilIface) (.nilIface) (.bool false) (show rv 0 = _ from hd.1) rfl (by go_simp) (by go_simp) ⟨Ext.refl _, fun _ _ => rfl⟩
            · refine step_plain rfl fun rv wq hE hd => ?_
              exact gives_move _ (.bool false) (.inl rfl) (show rv 1 = _ from hd.1) ⟨Ext.refl _, fun _ _ => rfl⟩
            · refine step_guard 2 false 25 rfl rfl (fun _ => rfl) fun rv wq hE hd => ⟨hd.1, ?_⟩
              exact gives_move _ (.int .i64 (i : Int)) (.inl rfl) rfl ⟨Ext.refl _, fun _ _ => rfl⟩
            · refine step_guard 2 false 25 rfl rfl (fun _ => rfl) fun rv wq hE hd => ⟨hd.2.1, ?_⟩
              exact gives_binOp .gtr 3 _ _ _ rfl (.int .i64 (i : Int)) (Value.int .i64 0) (.bool true) (show rv 3 = _ from hd.1) rfl (by go_simp) (by first | (go_simp; done) | (go_simp; omega)) ⟨Ext.refl _, fun _ _ => rfl⟩
            · refine step_guard 2 false 25 rfl rfl (fun _ => rfl) fun rv wq hE hd => ⟨hd.2.2.1, ?_⟩
              exact gives_move _ (.bool true) (.inl rfl) (show rv 4 = _ from hd.1) ⟨Ext.refl _, fun _ _ => rfl⟩
            · refine step_guard 5 true 28 rfl rfl (fun _ => rfl) fun rv wq hE hd => ⟨hd.1, ?_⟩
              exact gives_fieldAddr' 32 _ 2 rfl (.pointer (some ⟨wr.heap.size, 0, none⟩)) _ rfl (by go_simp) ⟨Ext.refl _, fun _ _ => rfl⟩
            · refine step_guard 5 true 28 rfl rfl (fun _ => rfl) fun rv wq hE hd => ⟨hd.2.1, ?_⟩
              exact gives_load_row 24 _ rfl (wr.heap.size) (2) (show rv 6 = _ from hd.1) (u8s PA) _ (range_below RPA.out (ext_of_drew hE)) Tryz.underlying24 rfl (hi24 PA HPL.out) ⟨Ext.refl _, fun _ _ => rfl⟩
            · refine step_guard 5 true 28 rfl rfl (fun _ => rfl) fun rv wq hE hd => ⟨hd.1, ?_⟩
              exact gives_move _ (.int .i64 (i : Int)) (.inl rfl) rfl ⟨Ext.refl _, fun _ _ => rfl⟩
            · refine step_guard 5 true 28 rfl rfl (fun _ => rfl) fun rv wq hE hd => ⟨hd.2.1, ?_⟩
              exact gives_binOp .sub 3 _ _ _ rfl (.int .i64 (i : Int)) (Value.int .i64 1) (.int .i64 (k : Int)) (show rv 8 = _ from hd.1) rfl (by go_simp) (by go_simp; rw [IntKind.wrap_i64]; have := HKI.out; omega) ⟨Ext.refl _, fun _ _ => rfl⟩
            · refine step_guard 5 true 28 rfl rfl (fun _ => rfl) fun rv wq hE hd => ⟨hd.2.1, ?_⟩
              exact gives_indexAt 147 _ _ rfl (.pointer (some ⟨w.heap.size + 1, 0, none⟩)) (.int .i64 (k : Int)) (.pointer (some ⟨w.heap.size + 1, k * 16, none⟩)) rfl (show rv 9 = _ from hd.1) (by go_simp) ⟨Ext.refl _, fun _ _ => rfl⟩
            · refine step_guard 5 true 28 rfl rfl (fun _ => rfl) fun rv wq hE hd => ⟨hd.2.1, ?_⟩
              exact gives_load_row 24 _ rfl (w.heap.size + 1) (k * 16) (show rv 10 = _ from hd.1) (u8s IK) _ (range_below RIK.out (ext_of_drew hE)) Tryz.underlying24 rfl (hi24 IK HIL.out) ⟨Ext.refl _, fun _ _ => rfl⟩
            · refine step_guard 5 true 28 rfl rfl (fun _ => rfl) fun rv wq hE hd => ⟨hd.2.2.1, ?_⟩
              exact gives_binOp .neq 24 _ _ _ rfl (.agg (u8s PA).toArray) (.agg (u8s IK).toArray) (.bool true) (show rv 7 = _ from hd.1) (show rv 11 = _ from hd.2.1) (guard24 _ _ _ _ _ _) ((run_neq24 PA IK HPL.out HIL.out _).trans (by rw [decide_eq_false hpe]; rfl)) ⟨Ext.refl _, fun _ _ => rfl⟩
            · refine step_guard 2 false 25 rfl rfl (fun _ => rfl) fun rv wq hE hd => ⟨hd.2.2.1, ?_⟩
              exact gives_pick _ _ _ (.bool true) true rfl (show rv 5 = _ from hd.1) (show rv 12 = _ from hd.2.1) ⟨Ext.refl _, fun _ _ => rfl⟩
            · refine step_plain rfl fun rv wq hE hd => ?_
              exact gives_pick _ _ _ (.bool true) false rfl (show rv 2 = _ from hd.1) (show rv 13 = _ from hd.2.1) ⟨Ext.refl _, fun _ _ => rfl⟩
            · intro rv wq hE hR
              have h14 : rv 14 = .bool true := hR 14 (by omega)
              rw [h14]
              have hbq := ext_of_drew hE
              have C4 := Lib.hid (blk_below C3.out hbq)
              have D4 := Lib.hid (blk_below D3.out hbq)
              have K4 := Lib.hid (blk_below K3.out hbq)
              have X4 := Lib.hid (blk_below X3.out hbq)
              have B4 := Lib.hid (B3.out.trans (hbq.mono B3.out.size))
              clear hR hE h14 hbq
              have ek := cell_on B4.out EK.out
              go_wp2_with fail
              go_ret
              refine ⟨?_, B4.out⟩
              have hj : jN c = 16 := by
                unfold jN
                rw [if_neg (by rw [all3_no i hlt HNO.out]; simp)]
              rw [hj, NK.out]
              rfl

    · obtain rfl : i = 3 := by omega
      have ID3 := Lib.hid (all3_yes OKr.out)
      have R3 := Lib.hid (ch_range HL.out Cr.out).1
      clear OKr hi3 hlt
      go_wp2_with (refine wpList_load_g rfl 33 (.tmp 43) rfl w.heap.size 0 rfl (bl3 f) _ R3.out Tryz.underlying33 rfl (by rw [bl3_len f 39 HL.out]; exact (show (Tryz.prog.info? 33).map (·.size) = some 117 by kernel_rfl)) ?_)
      go_loopw [45] (fun x wr => ∃ i : Nat, i ≤ 3 ∧ x = .int .i64 i ∧ Hid (wr.heap[w.heap.size]? = some (.cells (chC f cq).toArray 35 (0, 0))) ∧ Hid (wr.heap[w.heap.size + 1]? = some (.cells (idsC (idsTo c 3)).toArray 147 (0, 0))) ∧ Hid (Below w.heap.size w wr) ∧ Hid (∀ j, j < i → rdOk c j = true)) (fun x _ => 3 - (intOf x).toNat)
      case atStart => exact ⟨0, by omega, rfl, Cr, Dr, Br, Lib.hid (fun j h => absurd h (by omega))⟩
      case round =>
        clear Cr Dr Br R3
        obtain ⟨i, hi3, rfl, Cr, Dr, Br, OKs⟩ := hrel
        by_cases hlt : i < 3
        · have hil : (i : Int) < 3 := by omega
          have BKi := Lib.hid (HB.out i hlt)
          have HLi := Lib.hid (HL.out i hlt)
          have HLT := Lib.hid hlt
          obtain ⟨r, hr⟩ : ∃ x, x = (c.b i).round := ⟨_, rfl⟩
          have HR := Lib.hid hr
          clear hr
          go_wp2_with (first | (refine wpList_ixG rfl 33 (.tmp 44) (.tmp 45) rfl (.agg (bl3 f).toArray) (.int .i64 i) (.agg (f i).toArray) rfl rfl (run_index33 f HL.out i hlt _) ?_) | (refine wpList_store_row rfl 32 (.tmp 9) (.tmp 48) rfl wr.heap.size rfl (f i) rfl 32 (has_new wr _ _ _ (by rw [HLi.out]; rfl)) (by rw [HLi.out]; exact Tryz.size32) (one_bk BKi.out) ?_; intro w1 hp1; have L1 : Below wr.heap.size wr w1 := hp1.below ((Below.refl _ _).alloc (Nat.le_refl _) _) (Nat.le_refl _); have C1 := Lib.hid (blk_below Cr.out L1); have D1 := Lib.hid (blk_below Dr.out L1); have B1 := Lib.hid (Br.out.trans (L1.mono Br.out.size)); have K1 := Lib.hid hp1.blk; clear hp1 L1))
          have cr1 := (bk_0 K1.out BKi.out).2
          rw [← HR.out] at cr1
          have CR1 := Lib.hid cr1
          clear cr1
          by_cases h1 : r < 1
          · have HNO := Lib.hid (show rdOk c i = false by unfold rdOk; rw [← HR.out, decide_eq_false (show ¬ (1 ≤ r ∧ r ≤ 1099511627776) by omega)]; rfl)
            go_wp2_with fail
            refine wp_region_rely3 (by kernel_rfl) 24 (by kernel_rfl) (by kernel_rfl) Ext Ext.refl Ext.trans (fun ix => match ix with
              | 0 => fun _ v => v = .pointer (some ⟨wr.heap.size, 1, none⟩)
              | 1 => fun _ v => v = .int .i64 r
              | 2 => fun _ v => v = .bool true
              | 3 => fun _ v => v = .bool true
              | 4 => fun _ v => v = undef
              | 5 => fun _ v => v = undef
              | 6 => fun _ v => v = undef
              | 7 => fun _ v => v = .bool true
              | 8 => fun _ v => v = .bool true
              | 9 => fun _ v => v = undef
              | 10 => fun _ v => v = undef
              | 11 => fun _ v => v = undef
              | 12 => fun _ v => v = undef
              | 13 => fun _ v => v = undef
              | 14 => fun _ v => v = undef
              | 15 => fun _ v => v = undef
              | 16 => fun _ v => v = undef
              | 17 => fun _ v => v = undef
              | 18 => fun _ v => v = undef
              | 19 => fun _ v => v = undef
              | 20 => fun _ v => v = undef
              | 21 => fun _ v => v = undef
              | 22 => fun _ v => v = undef
              | 23 => fun _ v => v = .bool true
              | _ => fun _ _ => False) ?_
            simp (maxSteps := 10000000) only [Rely, List.take_succ_cons, List.take_zero, List.drop_succ_cons, List.drop_zero, Nat.reduceAdd, Nat.zero_add, Act.put, List.setIfInBounds_toArray, List.set_cons_succ, List.set_cons_zero]
            refine ⟨?_, ?_, ?_, ?_, ?_, ?_, ?_, ?_, ?_, ?_, ?_, ?_, ?_, ?_, ?_, ?_, ?_, ?_, ?_, ?_, ?_, ?_, ?_, ?_, ?_⟩
            · refine step_plain rfl fun rv wq hE hd => ?_
              exact gives_fieldAddr' 32 _ 1 rfl (.pointer (some ⟨wr.heap.size, 0, none⟩)) _ rfl (by go_simp) ⟨Ext.refl _, fun _ _ => rfl⟩
            · refine step_plain rfl fun rv wq hE hd => ?_
              have hc := cell_on (ext_of_drew hE) CR1.out
              exact gives_loadAt 3 _ rfl (.pointer (some ⟨wr.heap.size, 1, none⟩)) (.int .i64 r) (show rv 0 = _ from hd.1) (by go_simp) ⟨Ext.refl _, fun _ _ => rfl⟩
            · refine step_plain rfl fun rv wq hE hd => ?_
              exact gives_binOp .lss 3 _ _ _ rfl (.int .i64 r) (Value.int .i64 1) (.bool true) (show rv 1 = _ from hd.1) rfl (by go_simp) (by first | (go_simp; done) | (go_simp; omega)) ⟨Ext.refl _, fun _ _ => rfl⟩
            · refine step_plain rfl fun rv wq hE hd => ?_
              exact gives_move _ (.bool true) (.inl rfl) (show rv 2 = _ from hd.1) ⟨Ext.refl _, fun _ _ => rfl⟩
            · refine step_skip 3 false 52 rfl rfl (fun _ => rfl) fun vs wv hE hd => ⟨.inl hd.1, fun _ => rfl⟩
            · refine step_skip 3 false 52 rfl rfl (fun _ => rfl) fun vs wv hE hd => ⟨.inl hd.2.1, fun _ => rfl⟩
            · refine step_skip 3 false 52 rfl rfl (fun _ => rfl) fun vs wv hE hd => ⟨.inl hd.2.1, fun _ => rfl⟩
            · refine step_plain rfl fun rv wq hE hd => ?_
              exact gives_pick _ _ _ (.bool true) true rfl (show rv 3 = _ from hd.1) rfl ⟨Ext.refl _, fun _ _ => rfl⟩
            · refine step_plain rfl fun rv wq hE hd => ?_
              exact gives_move _ (.bool true) (.inl rfl) (show rv 7 = _ from hd.1) ⟨Ext.refl _, fun _ _ => rfl⟩
            · refine step_skip 8 false 57 rfl rfl (fun _ => rfl) fun vs wv hE hd => ⟨.inl hd.1, fun _ => rfl⟩
            · refine step_skip 8 false 57 rfl rfl (fun _ => rfl) fun vs wv hE hd => ⟨.inl hd.2.1, fun _ => rfl⟩
            · refine step_skip 8 false 57 rfl rfl (fun _ => rfl) fun vs wv hE hd => ⟨.inl hd.2.2.1, fun _ => rfl⟩
            · refine step_skip 11 true 60 rfl rfl (fun _ => rfl) fun vs wv hE hd => ⟨.inr hd.1, fun _ => rfl⟩
            · refine step_skip 11 true 60 rfl rfl (fun _ => rfl) fun vs wv hE hd => ⟨.inr hd.2.1, fun _ => rfl⟩
            · refine step_skip 11 true 60 rfl rfl (fun _ => rfl) fun vs wv hE hd => ⟨.inr hd.1, fun _ => rfl⟩
            · refine step_skip 11 true 60 rfl rfl (fun _ => rfl) fun vs wv hE hd => ⟨.inr hd.2.1, fun _ => rfl⟩
            · refine step_skip 11 true 60 rfl rfl (fun _ => rfl) fun vs wv hE hd => ⟨.inr hd.1, fun _ => rfl⟩
            · refine step_skip 11 true 60 rfl rfl (fun _ => rfl) fun vs wv hE hd => ⟨.inr hd.2.2.1, fun _ => rfl⟩
            · refine step_skip 11 true 60 rfl rfl (fun _ => rfl) fun vs wv hE hd => ⟨.inr hd.2.1, fun _ => rfl⟩
            · refine step_skip 11 true 60 rfl rfl (fun _ => rfl) fun vs wv hE hd => ⟨.inr hd.2.1, fun _ => rfl⟩
            · refine step_skip 11 true 60 rfl rfl (fun _ => rfl) fun vs wv hE hd => ⟨.inr hd.2.1, fun _ => rfl⟩
            · refine step_skip 11 true 60 rfl rfl (fun _ => rfl) fun vs wv hE hd => ⟨.inr hd.2.2.1, fun _ => rfl⟩
            · refine step_skip 8 false 57 rfl rfl (fun _ => rfl) fun vs wv hE hd => ⟨.inl hd.2.2.1, fun _ => rfl⟩
            · refine step_plain rfl fun rv wq hE hd => ?_
              exact gives_pick _ _ _ (.bool true) true rfl (show rv 8 = _ from hd.1) rfl ⟨Ext.refl _, fun _ _ => rfl⟩
            · intro rv wq hE hR
              have h23 : rv 23 = .bool true := hR 23 (by omega)
              rw [h23]
              have hbq := ext_of_drew hE
              have C4 := Lib.hid (blk_below C1.out hbq)
              have D4 := Lib.hid (blk_below D1.out hbq)
              have B4 := Lib.hid (B1.out.trans (hbq.mono B1.out.size))
              clear hR hE h23 hbq
              have eo := cell_on B4.out EO.out
              go_wp2_with fail
              go_ret
              refine ⟨?_, B4.out⟩
              have hj : jN c = 14 := by
                unfold jN
                rw [if_pos ID3.out, if_neg (by rw [all3_no i hlt HNO.out]; simp)]
              rw [hj, NO.out]
              rfl

          by_cases h2 : 1099511627776 < r
          · have HNO := Lib.hid (show rdOk c i = false by unfold rdOk; rw [← HR.out, decide_eq_false (show ¬ (1 ≤ r ∧ r ≤ 1099511627776) by omega)]; rfl)
            go_wp2_with fail
            refine wp_region_rely3 (by kernel_rfl) 24 (by kernel_rfl) (by kernel_rfl) Ext Ext.refl Ext.trans (fun ix => match ix with
              | 0 => fun _ v => v = .pointer (some ⟨wr.heap.size, 1, none⟩)
              | 1 => fun _ v => v = .int .i64 r
              | 2 => fun _ v => v = .bool false
              | 3 => fun _ v => v = .bool false
              | 4 => fun _ v => v = .pointer (some ⟨wr.heap.size, 1, none⟩)
              | 5 => fun _ v => v = .int .i64 r
              | 6 => fun _ v => v = .bool true
              | 7 => fun _ v => v = .bool true
              | 8 => fun _ v => v = .bool true
              | 9 => fun _ v => v = undef
              | 10 => fun _ v => v = undef
              | 11 => fun _ v => v = undef
              | 12 => fun _ v => v = undef
              | 13 => fun _ v => v = undef
              | 14 => fun _ v => v = undef
              | 15 => fun _ v => v = undef
              | 16 => fun _ v => v = undef
              | 17 => fun _ v => v = undef
              | 18 => fun _ v => v = undef
              | 19 => fun _ v => v = undef
              | 20 => fun _ v => v = undef
              | 21 => fun _ v => v = undef
              | 22 => fun _ v => v = undef
              | 23 => fun _ v => v = .bool true
              | _ => fun _ _ => False) ?_
            simp (maxSteps := 10000000) only [Rely, List.take_succ_cons, List.take_zero, List.drop_succ_cons, List.drop_zero, Nat.reduceAdd, Nat.zero_add, Act.put, List.setIfInBounds_toArray, List.set_cons_succ, List.set_cons_zero]
            refine ⟨?_, ?_, ?_, ?_, ?_, ?_, ?_, ?_, ?_, ?_, ?_, ?_, ?_, ?_, ?_, ?_, ?_, ?_, ?_, ?_, ?_, ?_, ?_, ?_, ?_⟩
            · refine step_plain rfl fun rv wq hE hd => ?_
              exact gives_fieldAddr' 32 _ 1 rfl (.pointer (some ⟨wr.heap.size, 0, none⟩)) _ rfl (by go_simp) ⟨Ext.refl _, fun _ _ => rfl⟩
            · refine step_plain rfl fun rv wq hE hd => ?_
              have hc := cell_on (ext_of_drew hE) CR1.out
              exact gives_loadAt 3 _ rfl (.pointer (some ⟨wr.heap.size, 1, none⟩)) (.int .i64 r) (show rv 0 = _ from hd.1) (by go_simp) ⟨Ext.refl _, fun _ _ => rfl⟩
            · refine step_plain rfl fun rv wq hE hd => ?_
              exact gives_binOp .lss 3 _ _ _ rfl (.int .i64 r) (Value.int .i64 1) (.bool false) (show rv 1 = _ from hd.1) rfl (by go_simp) (by first | (go_simp; done) | (go_simp; omega)) ⟨Ext.refl _, fun _ _ => rfl⟩
            · refine step_plain rfl fun rv wq hE hd => ?_
              exact gives_move _ (.bool false) (.inl rfl) (show rv 2 = _ from hd.1) ⟨Ext.refl _, fun _ _ => rfl⟩
            · refine step_guard 3 false 52 rfl rfl (fun _ => rfl) fun rv wq hE hd => ⟨hd.1, ?_⟩
              exact gives_fieldAddr' 32 _ 1 rfl (.pointer (some ⟨wr.heap.size, 0, none⟩)) _ rfl (by go_simp) ⟨Ext.refl _, fun _ _ => rfl⟩
            · refine step_guard 3 false 52 rfl rfl (fun _ => rfl) fun rv wq hE hd => ⟨hd.2.1, ?_⟩
              have hc := cell_on (ext_of_drew hE) CR1.out
              exact gives_loadAt 3 _ rfl (.pointer (some ⟨wr.heap.size, 1, none⟩)) (.int .i64 r) (show rv 4 = _ from hd.1) (by go_simp) ⟨Ext.refl _, fun _ _ => rfl⟩
            · refine step_guard 3 false 52 rfl rfl (fun _ => rfl) fun rv wq hE hd => ⟨hd.2.1, ?_⟩
              exact gives_binOp .gtr 3 _ _ _ rfl (.int .i64 r) (Value.int .i64 1099511627776) (.bool true) (show rv 5 = _ from hd.1) rfl (by go_simp) (by first | (go_simp; done) | (go_simp; omega)) ⟨Ext.refl _, fun _ _ => rfl⟩
            · refine step_plain rfl fun rv wq hE hd => ?_
              exact gives_pick _ _ _ (.bool true) false rfl (show rv 3 = _ from hd.1) (show rv 6 = _ from hd.2.1) ⟨Ext.refl _, fun _ _ => rfl⟩
            · refine step_plain rfl fun rv wq hE hd => ?_
              exact gives_move _ (.bool true) (.inl rfl) (show rv 7 = _ from hd.1) ⟨Ext.refl _, fun _ _ => rfl⟩
            · refine step_skip 8 false 57 rfl rfl (fun _ => rfl) fun vs wv hE hd => ⟨.inl hd.1, fun _ => rfl⟩
            · refine step_skip 8 false 57 rfl rfl (fun _ => rfl) fun vs wv hE hd => ⟨.inl hd.2.1, fun _ => rfl⟩
            · refine step_skip 8 false 57 rfl rfl (fun _ => rfl) fun vs wv hE hd => ⟨.inl hd.2.2.1, fun _ => rfl⟩
            · refine step_skip 11 true 60 rfl rfl (fun _ => rfl) fun vs wv hE hd => ⟨.inr hd.1, fun _ => rfl⟩
            · refine step_skip 11 true 60 rfl rfl (fun _ => rfl) fun vs wv hE hd => ⟨.inr hd.2.1, fun _ => rfl⟩
            · refine step_skip 11 true 60 rfl rfl (fun _ => rfl) fun vs wv hE hd => ⟨.inr hd.1, fun _ => rfl⟩
            · refine step_skip 11 true 60 rfl rfl (fun _ => rfl) fun vs wv hE hd => ⟨.inr hd.2.1, fun _ => rfl⟩
            · refine step_skip 11 true 60 rfl rfl (fun _ => rfl) fun vs wv hE hd => ⟨.inr hd.1, fun _ => rfl⟩
            · refine step_skip 11 true 60 rfl rfl (fun _ => rfl) fun vs wv hE hd => ⟨.inr hd.2.2.1, fun _ => rfl⟩
            · refine step_skip 11 true 60 rfl rfl (fun _ => rfl) fun vs wv hE hd => ⟨.inr hd.2.1, fun _ => rfl⟩
            · refine step_skip 11 true 60 rfl rfl (fun _ => rfl) fun vs wv hE hd => ⟨.inr hd.2.1, fun _ => rfl⟩
            · refine step_skip 11 true 60 rfl rfl (fun _ => rfl) fun vs wv hE hd => ⟨.inr hd.2.1, fun _ => rfl⟩
            · refine step_skip 11 true 60 rfl rfl (fun _ => rfl) fun vs wv hE hd => ⟨.inr hd.2.2.1, fun _ => rfl⟩
            · refine step_skip 8 false 57 rfl rfl (fun _ => rfl) fun vs wv hE hd => ⟨.inl hd.2.2.1, fun _ => rfl⟩
            · refine step_plain rfl fun rv wq hE hd => ?_
              exact gives_pick _ _ _ (.bool true) true rfl (show rv 8 = _ from hd.1) rfl ⟨Ext.refl _, fun _ _ => rfl⟩
            · intro rv wq hE hR
              have h23 : rv 23 = .bool true := hR 23 (by omega)
              rw [h23]
              have hbq := ext_of_drew hE
              have C4 := Lib.hid (blk_below C1.out hbq)
              have D4 := Lib.hid (blk_below D1.out hbq)
              have B4 := Lib.hid (B1.out.trans (hbq.mono B1.out.size))
              clear hR hE h23 hbq
              have eo := cell_on B4.out EO.out
              go_wp2_with fail
              go_ret
              refine ⟨?_, B4.out⟩
              have hj : jN c = 14 := by
                unfold jN
                rw [if_pos ID3.out, if_neg (by rw [all3_no i hlt HNO.out]; simp)]
              rw [hj, NO.out]
              rfl

          by_cases hz : i = 0
          · have hz0 : ¬ (0 : Int) < i := by omega
            have HYES := Lib.hid (show rdOk c i = true by unfold rdOk; rw [← HR.out, decide_eq_true (show 1 ≤ r ∧ r ≤ 1099511627776 by omega), decide_eq_true hz]; rfl)
            clear hz
            go_wp2_with fail
            refine wp_region_rely3 (by kernel_rfl) 24 (by kernel_rfl) (by kernel_rfl) Ext Ext.refl Ext.trans (fun ix => match ix with
              | 0 => fun _ v => v = .pointer (some ⟨wr.heap.size, 1, none⟩)
              | 1 => fun _ v => v = .int .i64 r
              | 2 => fun _ v => v = .bool false
              | 3 => fun _ v => v = .bool false
              | 4 => fun _ v => v = .pointer (some ⟨wr.heap.size, 1, none⟩)
              | 5 => fun _ v => v = .int .i64 r
              | 6 => fun _ v => v = .bool false
              | 7 => fun _ v => v = .bool false
              | 8 => fun _ v => v = .bool false
              | 9 => fun _ v => v = .int .i64 (i : Int)
              | 10 => fun _ v => v = .bool false
              | 11 => fun _ v => v = .bool false
              | 12 => fun _ v => v = undef
              | 13 => fun _ v => v = undef
              | 14 => fun _ v => v = undef
              | 15 => fun _ v => v = undef
              | 16 => fun _ v => v = undef
              | 17 => fun _ v => v = undef
              | 18 => fun _ v => v = undef
              | 19 => fun _ v => v = undef
              | 20 => fun _ v => v = undef
              | 21 => fun _ v => v = undef
              | 22 => fun _ v => v = .bool false
              | 23 => fun _ v => v = .bool false
              | _ => fun _ _ => False) ?_
            simp (maxSteps := 10000000) only [Rely, List.take_succ_cons, List.take_zero, List.drop_succ_cons, List.drop_zero, Nat.reduceAdd, Nat.zero_add, Act.put, List.setIfInBounds_toArray, List.set_cons_succ, List.set_cons_zero]
            refine ⟨?_, ?_, ?_, ?_, ?_, ?_, ?_, ?_, ?_, ?_, ?_, ?_, ?_, ?_, ?_, ?_, ?_, ?_, ?_, ?_, ?_, ?_, ?_, ?_, ?_⟩
            · refine step_plain rfl fun rv wq hE hd => ?_
              exact gives_fieldAddr' 32 _ 1 rfl (.pointer (some ⟨wr.heap.size, 0, none⟩)) _ rfl (by go_simp) ⟨Ext.refl _, fun _ _ => rfl⟩
            · refine step_plain rfl fun rv wq hE hd => ?_
              have hc := cell_on (ext_of_drew hE) CR1.out
              exact gives_loadAt 3 _ rfl (.pointer (some ⟨wr.heap.size, 1, none⟩)) (.int .i64 r) (show rv 0 = _ from hd.1) (by go_simp) ⟨Ext.refl _, fun _ _ => rfl⟩
            · refine step_plain rfl fun rv wq hE hd => ?_
              exact gives_binOp .lss 3 _ _ _ rfl (.int .i64 r) (Value.int .i64 1) (.bool false) (show rv 1 = _ from hd.1) rfl (by go_simp) (by first | (go_simp; done) | (go_simp; omega)) ⟨Ext.refl _, fun _ _ => rfl⟩
            · refine step_plain rfl fun rv wq hE hd => ?_
              exact gives_move _ (.bool false) (.inl rfl) (show rv 2 = _ from hd.1) ⟨Ext.refl _, fun _ _ => rfl⟩
            · refine step_guard 3 false 52 rfl rfl (fun _ => rfl) fun rv wq hE hd => ⟨hd.1, ?_⟩
              exact gives_fieldAddr' 32 _ 1 rfl (.pointer (some ⟨wr.heap.size, 0, none⟩)) _ rfl (by go_simp) ⟨Ext.refl _, fun _ _ => rfl⟩
            · refine step_guard 3 false 52 rfl rfl (fun _ => rfl) fun rv wq hE hd => ⟨hd.2.1, ?_⟩
              have hc := cell_on (ext_of_drew hE) CR1.out
              exact gives_loadAt 3 _ rfl (.pointer (some ⟨wr.heap.size, 1, none⟩)) (.int .i64 r) (show rv 4 = _ from hd.1) (by go_simp) ⟨Ext.refl _, fun _ _ => rfl⟩
            · refine step_guard 3 false 52 rfl rfl (fun _ => rfl) fun rv wq hE hd => ⟨hd.2.1, ?_⟩
              exact gives_binOp .gtr 3 _ _ _ rfl (.int .i64 r) (Value.int .i64 1099511627776) (.bool false) (show rv 5 = _ from hd.1) rfl (by go_simp) (by first | (go_simp; done) | (go_simp; omega)) ⟨Ext.refl _, fun _ _ => rfl⟩
            · refine step_plain rfl fun rv wq hE hd => ?_
              exact gives_pick _ _ _ (.bool false) false rfl (show rv 3 = _ from hd.1) (show rv 6 = _ from hd.2.1) ⟨Ext.refl _, fun _ _ => rfl⟩
            · refine step_plain rfl fun rv wq hE hd => ?_
              exact gives_move _ (.bool false) (.inl rfl) (show rv 7 = _ from hd.1) ⟨Ext.refl _, fun _ _ => rfl⟩
            · refine step_guard 8 false 57 rfl rfl (fun _ => rfl) fun rv wq hE hd => ⟨hd.1, ?_⟩
              exact gives_move _ (.int .i64 (i : Int)) (.inl rfl) rfl ⟨Ext.refl _, fun _ _ => rfl⟩
            · refine step_guard 8 false 57 rfl rfl (fun _ => rfl) fun rv wq hE hd => ⟨hd.2.1, ?_⟩
              exact gives_binOp .gtr 3 _ _ _ rfl (.int .i64 (i : Int)) (Value.int .i64 0) (.bool false) (show rv 9 = _ from hd.1) rfl (by go_simp) (by first | (go_simp; done) | (go_simp; omega)) ⟨Ext.refl _, fun _ _ => rfl⟩
            · refine step_guard 8 false 57 rfl rfl (fun _ => rfl) fun rv wq hE hd => ⟨hd.2.2.1, ?_⟩
              exact gives_move _ (.bool false) (.inl rfl) (show rv 10 = _ from hd.1) ⟨Ext.refl _, fun _ _ => rfl⟩
            · refine step_skip 11 true 60 rfl rfl (fun _ => rfl) fun vs wv hE hd => ⟨.inl hd.1, fun _ => rfl⟩
            · refine step_skip 11 true 60 rfl rfl (fun _ => rfl) fun vs wv hE hd => ⟨.inl hd.2.1, fun _ => rfl⟩
            · refine step_skip 11 true 60 rfl rfl (fun _ => rfl) fun vs wv hE hd => ⟨.inl hd.1, fun _ => rfl⟩
            · refine step_skip 11 true 60 rfl rfl (fun _ => rfl) fun vs wv hE hd => ⟨.inl hd.2.1, fun _ => rfl⟩
            · refine step_skip 11 true 60 rfl rfl (fun _ => rfl) fun vs wv hE hd => ⟨.inl hd.1, fun _ => rfl⟩
            · refine step_skip 11 true 60 rfl rfl (fun _ => rfl) fun vs wv hE hd => ⟨.inl hd.2.2.1, fun _ => rfl⟩
            · refine step_skip 11 true 60 rfl rfl (fun _ => rfl) fun vs wv hE hd => ⟨.inl hd.2.1, fun _ => rfl⟩
            · refine step_skip 11 true 60 rfl rfl (fun _ => rfl) fun vs wv hE hd => ⟨.inl hd.2.1, fun _ => rfl⟩
            · refine step_skip 11 true 60 rfl rfl (fun _ => rfl) fun vs wv hE hd => ⟨.inl hd.2.1, fun _ => rfl⟩
            · refine step_skip 11 true 60 rfl rfl (fun _ => rfl) fun vs wv hE hd => ⟨.inl hd.2.2.1, fun _ => rfl⟩
            · refine step_guard 8 false 57 rfl rfl (fun _ => rfl) fun rv wq hE hd => ⟨hd.2.2.1, ?_⟩
              exact gives_pick _ _ _ (.bool false) false rfl (show rv 11 = _ from hd.1) rfl ⟨Ext.refl _, fun _ _ => rfl⟩
            · refine step_plain rfl fun rv wq hE hd => ?_
              exact gives_pick _ _ _ (.bool false) false rfl (show rv 8 = _ from hd.1) (show rv 22 = _ from hd.2.1) ⟨Ext.refl _, fun _ _ => rfl⟩
            · intro rv wq hE hR
              have h23 : rv 23 = .bool false := hR 23 (by omega)
              rw [h23]
              have hbq := ext_of_drew hE
              have C4 := Lib.hid (blk_below C1.out hbq)
              have D4 := Lib.hid (blk_below D1.out hbq)
              have B4 := Lib.hid (B1.out.trans (hbq.mono B1.out.size))
              clear hR hE h23 hbq
              go_wp2_with fail
              go_roundw
              case rel => exact ⟨i + 1, by omega, by go_num, C4, D4, B4, Lib.hid (fun j hj => by
                by_cases hji : j = i
                · subst hji; exact HYES.out
                · exact OKs.out j (by omega))⟩
              case measure => simp [intOf]; omega

          have hz0 : (0 : Int) < i := by omega
          obtain ⟨k, hki⟩ : ∃ k : Nat, i = k + 1 := ⟨i - 1, by omega⟩
          have HKI := Lib.hid hki
          have hk3 : (k : Int) < 3 := by omega
          have HK3 := Lib.hid (show k < 3 by omega)
          obtain ⟨rk, hrk⟩ : ∃ x, x = (c.b k).round := ⟨_, rfl⟩
          have hrko : 1 ≤ rk ∧ rk ≤ 1099511627776 := by
            have h := OKs.out k (by omega)
            unfold rdOk at h
            rw [Bool.and_eq_true, decide_eq_true_eq] at h
            rw [hrk]
            exact h.1
          have HRK := Lib.hid hrk
          have hck := bl3_cell HL.out (ch_range HL.out C1.out).1 k HK3.out (HB.out k HK3.out)
          rw [← hrk] at hck
          have CRK := Lib.hid hck
          obtain ⟨hr1, hr2⟩ := hrko
          clear hz hki hrk hck
          by_cases hre : r = rk + 1
          · have HYES := Lib.hid (show rdOk c i = true by unfold rdOk; rw [show i - 1 = k by have := HKI.out; omega, ← HR.out, ← HRK.out, decide_eq_true (show 1 ≤ r ∧ r ≤ 1099511627776 by omega), decide_eq_true hre]; simp)
            have hre2 := Lib.hid hre
            clear hre
            have hle1 : r ≤ rk + 1 := by have := hre2.out; omega
            have hle2 : rk + 1 ≤ r := by have := hre2.out; omega
            go_wp2_with fail
            refine wp_region_rely3 (by kernel_rfl) 24 (by kernel_rfl) (by kernel_rfl) Ext Ext.refl Ext.trans (fun ix => match ix with
              | 0 => fun _ v => v = .pointer (some ⟨wr.heap.size, 1, none⟩)
              | 1 => fun _ v => v = .int .i64 r
              | 2 => fun _ v => v = .bool false
              | 3 => fun _ v => v = .bool false
              | 4 => fun _ v => v = .pointer (some ⟨wr.heap.size, 1, none⟩)
              | 5 => fun _ v => v = .int .i64 r
              | 6 => fun _ v => v = .bool false
              | 7 => fun _ v => v = .bool false
              | 8 => fun _ v => v = .bool false
              | 9 => fun _ v => v = .int .i64 (i : Int)
              | 10 => fun _ v => v = .bool true
              | 11 => fun _ v => v = .bool true
              | 12 => fun _ v => v = .pointer (some ⟨wr.heap.size, 1, none⟩)
              | 13 => fun _ v => v = .int .i64 r
              | 14 => fun _ v => v = .int .i64 (i : Int)
              | 15 => fun _ v => v = .int .i64 (k : Int)
              | 16 => fun _ v => v = .pointer (some ⟨w.heap.size, 0, none⟩)
              | 17 => fun _ v => v = .pointer (some ⟨w.heap.size, k * 39, none⟩)
              | 18 => fun _ v => v = .pointer (some ⟨w.heap.size, k * 39 + 1, none⟩)
              | 19 => fun _ v => v = .int .i64 rk
              | 20 => fun _ v => v = .int .i64 (rk + 1)
              | 21 => fun _ v => v = .bool false
              | 22 => fun _ v => v = .bool false
              | 23 => fun _ v => v = .bool false
              | _ => fun _ _ => False) ?_
            simp (maxSteps := 10000000) only [Rely, List.take_succ_cons, List.take_zero, List.drop_succ_cons, List.drop_zero, Nat.reduceAdd, Nat.zero_add, Act.put, List.setIfInBounds_toArray, List.set_cons_succ, List.set_cons_zero]
            refine ⟨?_, ?_, ?_, ?_, ?_, ?_, ?_, ?_, ?_, ?_, ?_, ?_, ?_, ?_, ?_, ?_, ?_, ?_, ?_, ?_, ?_, ?_, ?_, ?_, ?_⟩
            · refine step_plain rfl fun rv wq hE hd => ?_
              exact gives_fieldAddr' 32 _ 1 rfl (.pointer (some ⟨wr.heap.size, 0, none⟩)) _ rfl (by go_simp) ⟨Ext.refl _, fun _ _ => rfl⟩
            · refine step_plain rfl fun rv wq hE hd => ?_
              have hc := cell_on (ext_of_drew hE) CR1.out
              exact gives_loadAt 3 _ rfl (.pointer (some ⟨wr.heap.size, 1, none⟩)) (.int .i64 r) (show rv 0 = _ from hd.1) (by go_simp) ⟨Ext.refl _, fun _ _ => rfl⟩
            · refine step_plain rfl fun rv wq hE hd => ?_
              exact gives_binOp .lss 3 _ _ _ rfl (.int .i64 r) (Value.int .i64 1) (.bool false) (show rv 1 = _ from hd.1) rfl (by go_simp) (by first | (go_simp; done) | (go_simp; omega)) ⟨Ext.refl _, fun _ _ => rfl⟩
            · refine step_plain rfl fun rv wq hE hd => ?_
              exact gives_move _ (.bool false) (.inl rfl) (show rv 2 = _ from hd.1) ⟨Ext.refl _, fun _ _ => rfl⟩
            · refine step_guard 3 false 52 rfl rfl (fun _ => rfl) fun rv wq hE hd => ⟨hd.1, ?_⟩
              exact gives_fieldAddr' 32 _ 1 rfl (.pointer (some ⟨wr.heap.size, 0, none⟩)) _ rfl (by go_simp) ⟨Ext.refl _, fun _ _ => rfl⟩
            · refine step_guard 3 false 52 rfl rfl (fun _ => rfl) fun rv wq hE hd => ⟨hd.2.1, ?_⟩
              have hc := cell_on (ext_of_drew hE) CR1.out
              exact gives_loadAt 3 _ rfl (.pointer (some ⟨wr.heap.size, 1, none⟩)) (.int .i64 r) (show rv 4 = _ from hd.1) (by go_simp) ⟨Ext.refl _, fun _ _ => rfl⟩
            · refine step_guard 3 false 52 rfl rfl (fun _ => rfl) fun rv wq hE hd => ⟨hd.2.1, ?_⟩
              exact gives_binOp .gtr 3 _ _ _ rfl (.int .i64 r) (Value.int .i64 1099511627776) (.bool false) (show rv 5 = _ from hd.1) rfl (by go_simp) (by first | (go_simp; done) | (go_simp; omega)) ⟨Ext.refl _, fun _ _ => rfl⟩
            · refine step_plain rfl fun rv wq hE hd => ?_
              exact gives_pick _ _ _ (.bool false) false rfl (show rv 3 = _ from hd.1) (show rv 6 = _ from hd.2.1) ⟨Ext.refl _, fun _ _ => rfl⟩
            · refine step_plain rfl fun rv wq hE hd => ?_
              exact gives_move _ (.bool false) (.inl rfl) (show rv 7 = _ from hd.1) ⟨Ext.refl _, fun _ _ => rfl⟩
            · refine step_guard 8 false 57 rfl rfl (fun _ => rfl) fun rv wq hE hd => ⟨hd.1, ?_⟩
              exact gives_move _ (.int .i64 (i : Int)) (.inl rfl) rfl ⟨Ext.refl _, fun _ _ => rfl⟩
            · refine step_guard 8 false 57 rfl rfl (fun _ => rfl) fun rv wq hE hd => ⟨hd.2.1, ?_⟩
              exact gives_binOp .gtr 3 _ _ _ rfl (.int .i64 (i : Int)) (Value.int .i64 0) (.bool true) (show rv 9 = _ from hd.1) rfl (by go_simp) (by first | (go_simp; done) | (go_simp; omega)) ⟨Ext.refl _, fun _ _ => rfl⟩
            · refine step_guard 8 false 57 rfl rfl (fun _ => rfl) fun rv wq hE hd => ⟨hd.2.2.1, ?_⟩
              exact gives_move _ (.bool true) (.inl rfl) (show rv 10 = _ from hd.1) ⟨Ext.refl _, fun _ _ => rfl⟩
            · refine step_guard 11 true 60 rfl rfl (fun _ => rfl) fun rv wq hE hd => ⟨hd.1, ?_⟩
              exact gives_fieldAddr' 32 _ 1 rfl (.pointer (some ⟨wr.heap.size, 0, none⟩)) _ rfl (by go_simp) ⟨Ext.refl _, fun _ _ => rfl⟩
            · refine step_guard 11 true 60 rfl rfl (fun _ => rfl) fun rv wq hE hd => ⟨hd.2.1, ?_⟩
              have hc := cell_on (ext_of_drew hE) CR1.out
              exact gives_loadAt 3 _ rfl (.pointer (some ⟨wr.heap.size, 1, none⟩)) (.int .i64 r) (show rv 12 = _ from hd.1) (by go_simp) ⟨Ext.refl _, fun _ _ => rfl⟩
            · refine step_guard 11 true 60 rfl rfl (fun _ => rfl) fun rv wq hE hd => ⟨hd.1, ?_⟩
              exact gives_move _ (.int .i64 (i : Int)) (.inl rfl) rfl ⟨Ext.refl _, fun _ _ => rfl⟩
            · refine step_guard 11 true 60 rfl rfl (fun _ => rfl) fun rv wq hE hd => ⟨hd.2.1, ?_⟩
              exact gives_binOp .sub 3 _ _ _ rfl (.int .i64 (i : Int)) (Value.int .i64 1) (.int .i64 (k : Int)) (show rv 14 = _ from hd.1) rfl (by go_simp) (by go_simp; rw [IntKind.wrap_i64]; have := HKI.out; omega) ⟨Ext.refl _, fun _ _ => rfl⟩
            · refine step_guard 11 true 60 rfl rfl (fun _ => rfl) fun rv wq hE hd => ⟨hd.1, ?_⟩
              exact gives_fieldAddr' 35 _ 0 rfl (.pointer (some ⟨w.heap.size, 0, none⟩)) _ rfl (by go_simp) ⟨Ext.refl _, fun _ _ => rfl⟩
            · refine step_guard 11 true 60 rfl rfl (fun _ => rfl) fun rv wq hE hd => ⟨hd.2.2.1, ?_⟩
              exact gives_indexAt 33 _ _ rfl (.pointer (some ⟨w.heap.size, 0, none⟩)) (.int .i64 (k : Int)) (.pointer (some ⟨w.heap.size, k * 39, none⟩)) (show rv 16 = _ from hd.1) (show rv 15 = _ from hd.2.1) (by go_simp) ⟨Ext.refl _, fun _ _ => rfl⟩
            · refine step_guard 11 true 60 rfl rfl (fun _ => rfl) fun rv wq hE hd => ⟨hd.2.1, ?_⟩
              exact gives_fieldAddr' 32 _ 1 rfl (.pointer (some ⟨w.heap.size, k * 39, none⟩)) _ (show rv 17 = _ from hd.1) (by go_simp) ⟨Ext.refl _, fun _ _ => rfl⟩
            · refine step_guard 11 true 60 rfl rfl (fun _ => rfl) fun rv wq hE hd => ⟨hd.2.1, ?_⟩
              have hc := cell_on (ext_of_drew hE) CRK.out
              exact gives_loadAt 3 _ rfl (.pointer (some ⟨w.heap.size, k * 39 + 1, none⟩)) (.int .i64 rk) (show rv 18 = _ from hd.1) (by go_simp) ⟨Ext.refl _, fun _ _ => rfl⟩
            · refine step_guard 11 true 60 rfl rfl (fun _ => rfl) fun rv wq hE hd => ⟨hd.2.1, ?_⟩
              exact gives_binOp .add 3 _ _ _ rfl (.int .i64 rk) (Value.int .i64 1) (.int .i64 (rk + 1)) (show rv 19 = _ from hd.1) rfl (by go_simp) (by go_simp; rw [IntKind.wrap_i64]; omega) ⟨Ext.refl _, fun _ _ => rfl⟩
            · refine step_guard 11 true 60 rfl rfl (fun _ => rfl) fun rv wq hE hd => ⟨hd.2.2.1, ?_⟩
              exact gives_binOp .neq 3 _ _ _ rfl (.int .i64 r) (.int .i64 (rk + 1)) (.bool false) (show rv 13 = _ from hd.1) (show rv 20 = _ from hd.2.1) (by go_simp) (by first | (go_simp; done) | (go_simp; omega)) ⟨Ext.refl _, fun _ _ => rfl⟩
            · refine step_guard 8 false 57 rfl rfl (fun _ => rfl) fun rv wq hE hd => ⟨hd.2.2.1, ?_⟩
              exact gives_pick _ _ _ (.bool false) true rfl (show rv 11 = _ from hd.1) (show rv 21 = _ from hd.2.1) ⟨Ext.refl _, fun _ _ => rfl⟩
            · refine step_plain rfl fun rv wq hE hd => ?_
              exact gives_pick _ _ _ (.bool false) false rfl (show rv 8 = _ from hd.1) (show rv 22 = _ from hd.2.1) ⟨Ext.refl _, fun _ _ => rfl⟩
            · intro rv wq hE hR
              have h23 : rv 23 = .bool false := hR 23 (by omega)
              rw [h23]
              have hbq := ext_of_drew hE
              have C4 := Lib.hid (blk_below C1.out hbq)
              have D4 := Lib.hid (blk_below D1.out hbq)
              have B4 := Lib.hid (B1.out.trans (hbq.mono B1.out.size))
              clear hR hE h23 hbq
              go_wp2_with fail
              go_roundw
              case rel => exact ⟨i + 1, by omega, by go_num, C4, D4, B4, Lib.hid (fun j hj => by
                by_cases hji : j = i
                · subst hji; exact HYES.out
                · exact OKs.out j (by omega))⟩
              case measure => simp [intOf]; omega

          · have HNO := Lib.hid (show rdOk c i = false by unfold rdOk; rw [show i - 1 = k by have := HKI.out; omega, ← HR.out, ← HRK.out, decide_eq_false hre, decide_eq_false (show ¬ i = 0 by have := HKI.out; omega)]; simp)
            go_wp2_with fail
            refine wp_region_rely3 (by kernel_rfl) 24 (by kernel_rfl) (by kernel_rfl) Ext Ext.refl Ext.trans (fun ix => match ix with
              | 0 => fun _ v => v = .pointer (some ⟨wr.heap.size, 1, none⟩)
              | 1 => fun _ v => v = .int .i64 r
              | 2 => fun _ v => v = .bool false
              | 3 => fun _ v => v = .bool false
              | 4 => fun _ v => v = .pointer (some ⟨wr.heap.size, 1, none⟩)
              | 5 => fun _ v => v = .int .i64 r
              | 6 => fun _ v => v = .bool false
              | 7 => fun _ v => v = .bool false
              | 8 => fun _ v => v = .bool false
              | 9 => fun _ v => v = .int .i64 (i : Int)
              | 10 => fun _ v => v = .bool true
              | 11 => fun _ v => v = .bool true
              | 12 => fun _ v => v = .pointer (some ⟨wr.heap.size, 1, none⟩)
              | 13 => fun _ v => v = .int .i64 r
              | 14 => fun _ v => v = .int .i64 (i : Int)
              | 15 => fun _ v => v = .int .i64 (k : Int)
              | 16 => fun _ v => v = .pointer (some ⟨w.heap.size, 0, none⟩)
              | 17 => fun _ v => v = .pointer (some ⟨w.heap.size, k * 39, none⟩)
              | 18 => fun _ v => v = .pointer (some ⟨w.heap.size, k * 39 + 1, none⟩)
              | 19 => fun _ v => v = .int .i64 rk
              | 20 => fun _ v => v = .int .i64 (rk + 1)
              | 21 => fun _ v => v = .bool true
              | 22 => fun _ v => v = .bool true
              | 23 => fun _ v => v = .bool true
              | _ => fun _ _ => False) ?_
            simp (maxSteps := 10000000) only [Rely, List.take_succ_cons, List.take_zero, List.drop_succ_cons, List.drop_zero, Nat.reduceAdd, Nat.zero_add, Act.put, List.setIfInBounds_toArray, List.set_cons_succ, List.set_cons_zero]
            refine ⟨?_, ?_, ?_, ?_, ?_, ?_, ?_, ?_, ?_, ?_, ?_, ?_, ?_, ?_, ?_, ?_, ?_, ?_, ?_, ?_, ?_, ?_, ?_, ?_, ?_⟩
            · refine step_plain rfl fun rv wq hE hd => ?_
              exact gives_fieldAddr' 32 _ 1 rfl (.pointer (some ⟨wr.heap.size, 0, none⟩)) _ rfl (by go_simp) ⟨Ext.refl _, fun _ _ => rfl⟩
            · refine step_plain rfl fun rv wq hE hd => ?_
              have hc := cell_on (ext_of_drew hE) CR1.out
              exact gives_loadAt 3 _ rfl (.pointer (some ⟨wr.heap.size, 1, none⟩)) (.int .i64 r) (show rv 0 = _ from hd.1) (by go_simp) ⟨Ext.refl _, fun _ _ => rfl⟩
            · refine step_plain rfl fun rv wq hE hd => ?_
              exact gives_binOp .lss 3 _ _ _ rfl (.int .i64 r) (Value.int .i64 1) (.bool false) (show rv 1 = _ from hd.1) rfl (by go_simp) (by first | (go_simp; done) | (go_simp; omega)) ⟨Ext.refl _, fun _ _ => rfl⟩
            · refine step_plain rfl fun rv wq hE hd => ?_
              exact gives_move _ (.bool false) (.inl rfl) (show rv 2 = _ from hd.1) ⟨Ext.refl _, fun _ _ => rfl⟩
            · refine step_guard 3 false 52 rfl rfl (fun _ => rfl) fun rv wq hE hd => ⟨hd.1, ?_⟩
              exact gives_fieldAddr' 32 _ 1 rfl (.pointer (some ⟨wr.heap.size, 0, none⟩)) _ rfl (by go_simp) ⟨Ext.refl _, fun _ _ => rfl⟩
            · refine step_guard 3 false 52 rfl rfl (fun _ => rfl) fun rv wq hE hd => ⟨hd.2.1, ?_⟩
              have hc := cell_on (ext_of_drew hE) CR1.out
              exact gives_loadAt 3 _ rfl (.pointer (some ⟨wr.heap.size, 1, none⟩)) (.int .i64 r) (show rv 4 = _ from hd.1) (by go_simp) ⟨Ext.refl _, fun _ _ => rfl⟩
            · refine step_guard 3 false 52 rfl rfl (fun _ => rfl) fun rv wq hE hd => ⟨hd.2.1, ?_⟩
              exact gives_binOp .gtr 3 _ _ _ rfl (.int .i64 r) (Value.int .i64 1099511627776) (.bool false) (show rv 5 = _ from hd.1) rfl (by go_simp) (by first | (go_simp; done) | (go_simp; omega)) ⟨Ext.refl _, fun _ _ => rfl⟩
            · refine step_plain rfl fun rv wq hE hd => ?_
              exact gives_pick _ _ _ (.bool false) false rfl (show rv 3 = _ from hd.1) (show rv 6 = _ from hd.2.1) ⟨Ext.refl _, fun _ _ => rfl⟩
            · refine step_plain rfl fun rv wq hE hd => ?_
              exact gives_move _ (.bool false) (.inl rfl) (show rv 7 = _ from hd.1) ⟨Ext.refl _, fun _ _ => rfl⟩
            · refine step_guard 8 false 57 rfl rfl (fun _ => rfl) fun rv wq hE hd => ⟨hd.1, ?_⟩
              exact gives_move _ (.int .i64 (i : Int)) (.inl rfl) rfl ⟨Ext.refl _, fun _ _ => rfl⟩
            · refine step_guard 8 false 57 rfl rfl (fun _ => rfl) fun rv wq hE hd => ⟨hd.2.1, ?_⟩
              exact gives_binOp .gtr 3 _ _ _ rfl (.int .i64 (i : Int)) (Value.int .i64 0) (.bool true) (show rv 9 = _ from hd.1) rfl (by go_simp) (by first | (go_simp; done) | (go_simp; omega)) ⟨Ext.refl _, fun _ _ => rfl⟩
            · refine step_guard 8 false 57 rfl rfl (fun _ => rfl) fun rv wq hE hd => ⟨hd.2.2.1, ?_⟩
              exact gives_move _ (.bool true) (.inl rfl) (show rv 10 = _ from hd.1) ⟨Ext.refl _, fun _ _ => rfl⟩
            · refine step_guard 11 true 60 rfl rfl (fun _ => rfl) fun rv wq hE hd => ⟨hd.1, ?_⟩
              exact gives_fieldAddr' 32 _ 1 rfl (.pointer (some ⟨wr.heap.size, 0, none⟩)) _ rfl (by go_simp) ⟨Ext.refl _, fun _ _ => rfl⟩
            · refine step_guard 11 true 60 rfl rfl (fun _ => rfl) fun rv wq hE hd => ⟨hd.2.1, ?_⟩
              have hc := cell_on (ext_of_drew hE) CR1.out
              exact gives_loadAt 3 _ rfl (.pointer (some ⟨wr.heap.size, 1, none⟩)) (.int .i64 r) (show rv 12 = _ from hd.1) (by go_simp) ⟨Ext.refl _, fun _ _ => rfl⟩
            · refine step_guard 11 true 60 rfl rfl (fun _ => rfl) fun rv wq hE hd => ⟨hd.1, ?_⟩
              exact gives_move _ (.int .i64 (i : Int)) (.inl rfl) rfl ⟨Ext.refl _, fun _ _ => rfl⟩
            · refine step_guard 11 true 60 rfl rfl (fun _ => rfl) fun rv wq hE hd => ⟨hd.2.1, ?_⟩
              exact gives_binOp .sub 3 _ _ _ rfl (.int .i64 (i : Int)) (Value.int .i64 1) (.int .i64 (k : Int)) (show rv 14 = _ from hd.1) rfl (by go_simp) (by go_simp; rw [IntKind.wrap_i64]; have := HKI.out; omega) ⟨Ext.refl _, fun _ _ => rfl⟩
            · refine step_guard 11 true 60 rfl rfl (fun _ => rfl) fun rv wq hE hd => ⟨hd.1, ?_⟩
              exact gives_fieldAddr' 35 _ 0 rfl (.pointer (some ⟨w.heap.size, 0, none⟩)) _ rfl (by go_simp) ⟨Ext.refl _, fun _ _ => rfl⟩
            · refine step_guard 11 true 60 rfl rfl (fun _ => rfl) fun rv wq hE hd => ⟨hd.2.2.1, ?_⟩
              exact gives_indexAt 33 _ _ rfl (.pointer (some ⟨w.heap.size, 0, none⟩)) (.int .i64 (k : Int)) (.pointer (some ⟨w.heap.size, k * 39, none⟩)) (show rv 16 = _ from hd.1) (show rv 15 = _ from hd.2.1) (by go_simp) ⟨Ext.refl _, fun _ _ => rfl⟩
            · refine step_guard 11 true 60 rfl rfl (fun _ => rfl) fun rv wq hE hd => ⟨hd.2.1, ?_⟩
              exact gives_fieldAddr' 32 _ 1 rfl (.pointer (some ⟨w.heap.size, k * 39, none⟩)) _ (show rv 17 = _ from hd.1) (by go_simp) ⟨Ext.refl _, fun _ _ => rfl⟩
            · refine step_guard 11 true 60 rfl rfl (fun _ => rfl) fun rv wq hE hd => ⟨hd.2.1, ?_⟩
              have hc := cell_on (ext_of_drew hE) CRK.out
              exact gives_loadAt 3 _ rfl (.pointer (some ⟨w.heap.size, k * 39 + 1, none⟩)) (.int .i64 rk) (show rv 18 = _ from hd.1) (by go_simp) ⟨Ext.refl _, fun _ _ => rfl⟩
            · refine step_guard 11 true 60 rfl rfl (fun _ => rfl) fun rv wq hE hd => ⟨hd.2.1, ?_⟩
              exact gives_binOp .add 3 _ _ _ rfl (.int .i64 rk) (Value.int .i64 1) (.int .i64 (rk + 1)) (show rv 19 = _ from hd.1) rfl (by go_simp) (by go_simp; rw [IntKind.wrap_i64]; omega) ⟨Ext.refl _, fun _ _ => rfl⟩
            · refine step_guard 11 true 60 rfl rfl (fun _ => rfl) fun rv wq hE hd => ⟨hd.2.2.1, ?_⟩
              exact gives_binOp .neq 3 _ _ _ rfl (.int .i64 r) (.int .i64 (rk + 1)) (.bool true) (show rv 13 = _ from hd.1) (show rv 20 = _ from hd.2.1) (by go_simp) (by first | (go_simp; done) | (go_simp; omega)) ⟨Ext.refl _, fun _ _ => rfl⟩
            · refine step_guard 8 false 57 rfl rfl (fun _ => rfl) fun rv wq hE hd => ⟨hd.2.2.1, ?_⟩
              exact gives_pick _ _ _ (.bool true) true rfl (show rv 11 = _ from hd.1) (show rv 21 = _ from hd.2.1) ⟨Ext.refl _, fun _ _ => rfl⟩
            · refine step_plain rfl fun rv wq hE hd => ?_
              exact gives_pick _ _ _ (.bool true) false rfl (show rv 8 = _ from hd.1) (show rv 22 = _ from hd.2.1) ⟨Ext.refl _, fun _ _ => rfl⟩
            · intro rv wq hE hR
              have h23 : rv 23 = .bool true := hR 23 (by omega)
              rw [h23]
              have hbq := ext_of_drew hE
              have C4 := Lib.hid (blk_below C1.out hbq)
              have D4 := Lib.hid (blk_below D1.out hbq)
              have B4 := Lib.hid (B1.out.trans (hbq.mono B1.out.size))
              clear hR hE h23 hbq
              have eo := cell_on B4.out EO.out
              go_wp2_with fail
              go_ret
              refine ⟨?_, B4.out⟩
              have hj : jN c = 14 := by
                unfold jN
                rw [if_pos ID3.out, if_neg (by rw [all3_no i hlt HNO.out]; simp)]
              rw [hj, NO.out]
              rfl

        · obtain rfl : i = 3 := by omega
          have RD3 := Lib.hid (all3_yes OKs.out)
          have RC3 := Lib.hid (blk_range Cr.out)
          have HCL := Lib.hid (show (chC f cq).length = 136 by unfold chC; rw [List.length_append, bl3_len f 39 HL.out, HQ.out.len])
          clear OKs hi3 hlt
          obtain ⟨g, hg2, hg, hgq⟩ := ch_qcs HB.out HQ.out
          have HG2 := Lib.hid hg2
          have HG := Lib.hid hg
          have HGQ := Lib.hid hgq
          have HGL := Lib.hid (fun j hj => (hgq j hj).len)
          clear hg2 hg hgq
          go_wp2_with (refine wpList_load_g rfl 35 (.tmp 1) rfl w.heap.size 0 rfl (chC f cq) _ RC3.out Tryz.underlying35 rfl (by rw [HCL.out]; exact (show (Tryz.prog.info? 35).map (·.size) = some 136 by kernel_rfl)) ?_)
          refine (qcs_any f g cq c wr (fun i hi => (HB.out i hi).below Br.out) HG2.out HG.out (fun i hi => (HGQ.out i hi).below Br.out)).mono ?_
          rintro _ w4 ⟨rfl, hb4⟩
          have C4 := Lib.hid (blk_below Cr.out hb4)
          have D4 := Lib.hid (blk_below Dr.out hb4)
          have B4 := Lib.hid (Br.out.trans (hb4.mono Br.out.size))
          clear hb4
          clear Cr Dr Br
          go_wp2_with fail
          go_loopw [77] (fun x wr => ∃ i : Nat, i ≤ 3 ∧ x = .int .i64 i ∧ Hid (wr.heap[w.heap.size]? = some (.cells (chC f cq).toArray 35 (0, 0))) ∧ Hid (wr.heap[w.heap.size + 1]? = some (.cells (idsC (idsTo c 3)).toArray 147 (0, 0))) ∧ Hid (Below w.heap.size w wr) ∧ Hid (∀ j, j < i → ftOk c j = true)) (fun x _ => 3 - (intOf x).toNat)
          case atStart => exact ⟨0, by omega, rfl, C4, D4, B4, Lib.hid (fun j h => absurd h (by omega))⟩
          case round =>
            clear C4 D4 B4 RC3
            obtain ⟨i, hi3, rfl, Ct, Dt, Bt, OKt⟩ := hrel
            by_cases hlt : i < 3
            · have hil : (i : Int) < 3 := by omega
              have GLi := Lib.hid (HGL.out i hlt)
              have BKi := Lib.hid (HB.out i hlt)
              have HLi := Lib.hid (HL.out i hlt)
              have GQi := Lib.hid (HGQ.out i hlt)
              have RB := Lib.hid (show wr.rangeAt w.heap.size (i * 39) (f i) by have := bl3_range 39 HL.out (ch_range HL.out Ct.out).1 i hlt; rwa [Nat.zero_add] at this)
              obtain ⟨X, hX⟩ : ∃ X, X = idB (c.b i) := ⟨_, rfl⟩
              have HXL := Lib.hid (show X.length = 16 from hX ▸ (idB_good _).1)
              have hrx := idsC_range (idsTo_len c 3) Dt.out i hlt
              rw [show idsTo c 3 i = X by unfold idsTo; rw [if_pos hlt, hX]] at hrx
              have RX := Lib.hid hrx
              have HX := Lib.hid hX
              clear hX hrx
              have RBt := RB
              have RXt := RX
              clear RB RX
              go_wp2_with (first | (refine wpList_ixG rfl 102 (.tmp 76) (.tmp 77) rfl (.agg (bl3 g).toArray) (.int .i64 i) (.agg (g i).toArray) rfl rfl (run_index102 g HGL.out i hlt _) ?_) | (refine wpList_store_row rfl 29 (.tmp 11) (.tmp 80) rfl wr.heap.size rfl (g i) rfl 29 (has_new wr _ _ _ (by rw [GLi.out]; rfl)) (by rw [GLi.out]; exact Tryz.size29) (one_qcAt GQi.out) ?_; intro w1 hp1; have L1 : Below wr.heap.size wr w1 := hp1.below ((Below.refl _ _).alloc (Nat.le_refl _) _) (Nat.le_refl _); have C1 := Lib.hid (blk_below Ct.out L1); have D1 := Lib.hid (blk_below Dt.out L1); have RB1 := Lib.hid (range_below RBt.out L1); have RX1 := Lib.hid (range_below RXt.out L1); have B1 := Lib.hid (Bt.out.trans (L1.mono Bt.out.size)); have K1 := Lib.hid hp1.blk; clear hp1 L1))
              by_cases hft : ftOk c i = true
              · have HYES := Lib.hid hft
                have HFT := Lib.hid (show decide ((c.qc i).block = X ∧ (c.qc i).epoch = (c.b i).epoch ∧ (c.qc i).round = (c.b i).round) = true by rw [HX.out]; exact hft)
                clear hft
                go_wp2_with fail
                refine wp_region_rely3 (by kernel_rfl) 10 (by kernel_rfl) (by kernel_rfl) Ext Ext.refl Ext.trans (fun ix => match ix with
                  | 0 => fun _ v => v = .agg (g i).toArray
                  | 1 => fun _ v => v = .int .i64 (i : Int)
                  | 2 => fun _ v => v = .pointer (some ⟨w.heap.size + 1, i * 16, none⟩)
                  | 3 => fun _ v => v = .agg (u8s X).toArray
                  | 4 => fun _ v => v = .int .i64 (i : Int)
                  | 5 => fun _ v => v = .pointer (some ⟨w.heap.size, 0, none⟩)
                  | 6 => fun _ v => v = .pointer (some ⟨w.heap.size, i * 39, none⟩)
                  | 7 => fun _ v => v = .agg (f i).toArray
                  | 8 => fun _ v => v = .bool true
                  | 9 => fun _ v => v = .bool false
                  | _ => fun _ _ => False) ?_
                simp (maxSteps := 10000000) only [Rely, List.take_succ_cons, List.take_zero, List.drop_succ_cons, List.drop_zero, Nat.reduceAdd, Nat.zero_add, Act.put, List.setIfInBounds_toArray, List.set_cons_succ, List.set_cons_zero]
                refine ⟨?_, ?_, ?_, ?_, ?_, ?_, ?_, ?_, ?_, ?_, ?_⟩
                · refine step_plain rfl fun rv wq hE hd => ?_
                  exact gives_load_row 29 _ rfl (wr.heap.size) (0) rfl (g i) _ (range_below (blk_range K1.out) (ext_of_drew hE)) Tryz.underlying29 rfl (by rw [GLi.out]; exact Tryz.size29) ⟨Ext.refl _, fun _ _ => rfl⟩
                · refine step_plain rfl fun rv wq hE hd => ?_
                  exact gives_move _ (.int .i64 (i : Int)) (.inl rfl) rfl ⟨Ext.refl _, fun _ _ => rfl⟩
                · refine step_plain rfl fun rv wq hE hd => ?_
                  exact gives_indexAt 147 _ _ rfl (.pointer (some ⟨w.heap.size + 1, 0, none⟩)) (.int .i64 (i : Int)) (.pointer (some ⟨w.heap.size + 1, i * 16, none⟩)) rfl (show rv 1 = _ from hd.1) (by go_simp) ⟨Ext.refl _, fun _ _ => rfl⟩
                · refine step_plain rfl fun rv wq hE hd => ?_
                  exact gives_load_row 24 _ rfl (w.heap.size + 1) (i * 16) (show rv 2 = _ from hd.1) (u8s X) _ (range_below RX1.out (ext_of_drew hE)) Tryz.underlying24 rfl (hi24 X HXL.out) ⟨Ext.refl _, fun _ _ => rfl⟩
                · refine step_plain rfl fun rv wq hE hd => ?_
                  exact gives_move _ (.int .i64 (i : Int)) (.inl rfl) rfl ⟨Ext.refl _, fun _ _ => rfl⟩
                · refine step_plain rfl fun rv wq hE hd => ?_
                  exact gives_fieldAddr' 35 _ 0 rfl (.pointer (some ⟨w.heap.size, 0, none⟩)) _ rfl (by go_simp) ⟨Ext.refl _, fun _ _ => rfl⟩
                · refine step_plain rfl fun rv wq hE hd => ?_
                  exact gives_indexAt 33 _ _ rfl (.pointer (some ⟨w.heap.size, 0, none⟩)) (.int .i64 (i : Int)) (.pointer (some ⟨w.heap.size, i * 39, none⟩)) (show rv 5 = _ from hd.1) (show rv 4 = _ from hd.2.1) (by go_simp) ⟨Ext.refl _, fun _ _ => rfl⟩
                · refine step_plain rfl fun rv wq hE hd => ?_
                  exact gives_load_row 32 _ rfl (w.heap.size) (i * 39) (show rv 6 = _ from hd.1) (f i) _ (range_below RB1.out (ext_of_drew hE)) Tryz.underlying32 rfl (by rw [HLi.out]; exact Tryz.size32) ⟨Ext.refl _, fun _ _ => rfl⟩
                · refine step_plain rfl fun rv wq hE hd => ?_
                  refine gives_call 70 (enters_of Tryz.func70 (by kernel_rfl) rfl) _ _ rfl rfl [.agg (g i).toArray, .agg (u8s X).toArray, .agg (f i).toArray] (congr (congrArg (fun a b => a :: b) (show rv 0 = _ from hd.1)) (congr (congrArg (fun a b => a :: b) (show rv 3 = _ from hd.2.1)) (congrArg (fun a => [a]) (show rv 7 = _ from hd.2.2.1)))) ?_
                  refine (qfits_any (g i) (f i) (c.qc i) (c.b i) X HXL.out wq (GQi.out.below (B1.out.trans ((ext_of_drew hE).mono B1.out.size))) (BKi.out.below (B1.out.trans ((ext_of_drew hE).mono B1.out.size)))).mono ?_
                  rintro _ w'' ⟨rfl, hb⟩
                  exact ⟨_, rfl, hb, fun _ _ => by show Value.bool _ = _; rw [HFT.out]⟩
                · refine step_plain rfl fun rv wq hE hd => ?_
                  exact gives_unOp .not 4 _ rfl (.bool true) (.bool false) (show rv 8 = _ from hd.1) (by go_simp) ⟨Ext.refl _, fun _ _ => rfl⟩
                · intro rv wq hE hR
                  have h9 : rv 9 = .bool false := hR 9 (by omega)
                  rw [h9]
                  have hbq := ext_of_drew hE
                  have C5 := Lib.hid (blk_below C1.out hbq)
                  have D5 := Lib.hid (blk_below D1.out hbq)
                  have B5 := Lib.hid (B1.out.trans (hbq.mono B1.out.size))
                  clear hR hE h9 hbq
                  go_wp2_with fail
                  go_roundw
                  case rel => exact ⟨i + 1, by omega, by go_num, C5, D5, B5, Lib.hid (fun j hj => by
                    by_cases hji : j = i
                    · subst hji; exact HYES.out
                    · exact OKt.out j (by omega))⟩
                  case measure => simp [intOf]; omega

              · have HNO := Lib.hid (show ftOk c i = false by simpa using hft)
                have HFT := Lib.hid (show decide ((c.qc i).block = X ∧ (c.qc i).epoch = (c.b i).epoch ∧ (c.qc i).round = (c.b i).round) = false by rw [HX.out]; exact HNO.out)
                clear hft
                go_wp2_with fail
                refine wp_region_rely3 (by kernel_rfl) 10 (by kernel_rfl) (by kernel_rfl) Ext Ext.refl Ext.trans (fun ix => match ix with
                  | 0 => fun _ v => v = .agg (g i).toArray
                  | 1 => fun _ v => v = .int .i64 (i : Int)
                  | 2 => fun _ v => v = .pointer (some ⟨w.heap.size + 1, i * 16, none⟩)
                  | 3 => fun _ v => v = .agg (u8s X).toArray
                  | 4 => fun _ v => v = .int .i64 (i : Int)
                  | 5 => fun _ v => v = .pointer (some ⟨w.heap.size, 0, none⟩)
                  | 6 => fun _ v => v = .pointer (some ⟨w.heap.size, i * 39, none⟩)
                  | 7 => fun _ v => v = .agg (f i).toArray
                  | 8 => fun _ v => v = .bool false
                  | 9 => fun _ v => v = .bool true
                  | _ => fun _ _ => False) ?_
                simp (maxSteps := 10000000) only [Rely, List.take_succ_cons, List.take_zero, List.drop_succ_cons, List.drop_zero, Nat.reduceAdd, Nat.zero_add, Act.put, List.setIfInBounds_toArray, List.set_cons_succ, List.set_cons_zero]
                refine ⟨?_, ?_, ?_, ?_, ?_, ?_, ?_, ?_, ?_, ?_, ?_⟩
                · refine step_plain rfl fun rv wq hE hd => ?_
                  exact gives_load_row 29 _ rfl (wr.heap.size) (0) rfl (g i) _ (range_below (blk_range K1.out) (ext_of_drew hE)) Tryz.underlying29 rfl (by rw [GLi.out]; exact Tryz.size29) ⟨Ext.refl _, fun _ _ => rfl⟩
                · refine step_plain rfl fun rv wq hE hd => ?_
                  exact gives_move _ (.int .i64 (i : Int)) (.inl rfl) rfl ⟨Ext.refl _, fun _ _ => rfl⟩
                · refine step_plain rfl fun rv wq hE hd => ?_
                  exact gives_indexAt 147 _ _ rfl (.pointer (some ⟨w.heap.size + 1, 0, none⟩)) (.int .i64 (i : Int)) (.pointer (some ⟨w.heap.size + 1, i * 16, none⟩)) rfl (show rv 1 = _ from hd.1) (by go_simp) ⟨Ext.refl _, fun _ _ => rfl⟩
                · refine step_plain rfl fun rv wq hE hd => ?_
                  exact gives_load_row 24 _ rfl (w.heap.size + 1) (i * 16) (show rv 2 = _ from hd.1) (u8s X) _ (range_below RX1.out (ext_of_drew hE)) Tryz.underlying24 rfl (hi24 X HXL.out) ⟨Ext.refl _, fun _ _ => rfl⟩
                · refine step_plain rfl fun rv wq hE hd => ?_
                  exact gives_move _ (.int .i64 (i : Int)) (.inl rfl) rfl ⟨Ext.refl _, fun _ _ => rfl⟩
                · refine step_plain rfl fun rv wq hE hd => ?_
                  exact gives_fieldAddr' 35 _ 0 rfl (.pointer (some ⟨w.heap.size, 0, none⟩)) _ rfl (by go_simp) ⟨Ext.refl _, fun _ _ => rfl⟩
                · refine step_plain rfl fun rv wq hE hd => ?_
                  exact gives_indexAt 33 _ _ rfl (.pointer (some ⟨w.heap.size, 0, none⟩)) (.int .i64 (i : Int)) (.pointer (some ⟨w.heap.size, i * 39, none⟩)) (show rv 5 = _ from hd.1) (show rv 4 = _ from hd.2.1) (by go_simp) ⟨Ext.refl _, fun _ _ => rfl⟩
                · refine step_plain rfl fun rv wq hE hd => ?_
                  exact gives_load_row 32 _ rfl (w.heap.size) (i * 39) (show rv 6 = _ from hd.1) (f i) _ (range_below RB1.out (ext_of_drew hE)) Tryz.underlying32 rfl (by rw [HLi.out]; exact Tryz.size32) ⟨Ext.refl _, fun _ _ => rfl⟩
                · refine step_plain rfl fun rv wq hE hd => ?_
                  refine gives_call 70 (enters_of Tryz.func70 (by kernel_rfl) rfl) _ _ rfl rfl [.agg (g i).toArray, .agg (u8s X).toArray, .agg (f i).toArray] (congr (congrArg (fun a b => a :: b) (show rv 0 = _ from hd.1)) (congr (congrArg (fun a b => a :: b) (show rv 3 = _ from hd.2.1)) (congrArg (fun a => [a]) (show rv 7 = _ from hd.2.2.1)))) ?_
                  refine (qfits_any (g i) (f i) (c.qc i) (c.b i) X HXL.out wq (GQi.out.below (B1.out.trans ((ext_of_drew hE).mono B1.out.size))) (BKi.out.below (B1.out.trans ((ext_of_drew hE).mono B1.out.size)))).mono ?_
                  rintro _ w'' ⟨rfl, hb⟩
                  exact ⟨_, rfl, hb, fun _ _ => by show Value.bool _ = _; rw [HFT.out]⟩
                · refine step_plain rfl fun rv wq hE hd => ?_
                  exact gives_unOp .not 4 _ rfl (.bool false) (.bool true) (show rv 8 = _ from hd.1) (by go_simp) ⟨Ext.refl _, fun _ _ => rfl⟩
                · intro rv wq hE hR
                  have h9 : rv 9 = .bool true := hR 9 (by omega)
                  rw [h9]
                  have hbq := ext_of_drew hE
                  have C5 := Lib.hid (blk_below C1.out hbq)
                  have D5 := Lib.hid (blk_below D1.out hbq)
                  have B5 := Lib.hid (B1.out.trans (hbq.mono B1.out.size))
                  clear hR hE h9 hbq
                  have ef := cell_on B5.out EF.out
                  go_wp2_with fail
                  go_ret
                  refine ⟨?_, B5.out⟩
                  have hj : jN c = 12 := by
                    unfold jN
                    rw [if_pos ID3.out, if_pos RD3.out, if_neg (by rw [all3_no i hlt HNO.out]; simp)]
                  rw [hj, NF.out]
                  rfl

            · obtain rfl : i = 3 := by omega
              have FT3 := Lib.hid (all3_yes OKt.out)
              go_wp2_with fail
              go_ret
              refine ⟨?_, Bt.out⟩
              have hj : jN c = 0 := by
                unfold jN
                rw [if_pos ID3.out, if_pos RD3.out, if_pos FT3.out]
              rw [hj]
              rfl
end Go.Proofs.YtniknhhejlgdfaaGreatDoor
