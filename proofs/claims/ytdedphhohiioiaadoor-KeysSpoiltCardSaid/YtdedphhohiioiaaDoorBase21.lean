/- Lemmas that laws of this seat rest on, part 21; each says its own conditions: KeysApartW. -/
import Derived.Test.YtdedphhohiioiaaDoorBase10
import Derived.Test.YtdedphhohiioiaaDoorBase19
/- KeysApart: what the law does. -/
namespace Go.Proofs.YtdedphhohiioiaaDoor
open Go.RowKit Go.Shelf

theorem dgs_first {W : World} {g n c : Nat} {ds : List (List Int)} (h : Dgs W (.slice (some ⟨g, 0, none⟩) n c) ds) (hn : 0 < n) (hl : n = ds.length) : ∃ b, W.cell? ⟨g, 0, none⟩ = some (.int .u8 b) := by
  have hne : ds ≠ [] := by intro e; rw [e] at hl; simp at hl; omega
  obtain ⟨b, off, c', e, _, _, _, hr⟩ := h.cells hne
  simp only [Value.slice.injEq, Option.some.injEq, Addr.mk.injEq] at e
  obtain ⟨⟨rfl, rfl, -⟩, -, -⟩ := e
  have hl0 := (h.at 0 (by omega)).1
  refine ⟨(ds.getD 0 []).getD 0 0, ?_⟩
  have := hr 0 (by omega) 0 (.int .u8 ((ds.getD 0 []).getD 0 0)) (by simp [u8s, List.getD_eq_getElem?_getD] at hl0 ⊢; rw [List.getElem?_eq_getElem (by omega)]; simp)
  simpa using this

set_option maxHeartbeats 16000000 in
set_option maxRecDepth 100000 in
theorem keysApart_any (x m : List Int) (hl : x.length = 16) (hx : u8s_ok x) (hlm : m.length = 16) (hm : u8s_ok m) (l0 : Int) (al : List Addr) (w : World) (S : SenN w al) (hk : w.rangeAt 18 0 (u32s kk)) (h18 : 18 < w.heap.size) :
    Calls Tryd.prog 20 #[.agg (u8s x).toArray, .agg (u8s m).toArray, .int .i64 l0] w fun e w' => e = .returned (.bool true) ∧ Below w.heap.size w w' := by
  have hi43 : ∀ V : List Int, V.length = 16 → (Tryd.prog.info? 43).map (·.size) = some (u8s V).length := fun V h => by rw [u8s_len', h]; exact Tryd.size43
  have b0 : Below w.heap.size w ((w.alloc (.cells (u8s x).toArray 43)).alloc (.cells (u8s m).toArray 43)) := ((Below.refl _ _).alloc (Nat.le_refl _) _).alloc (by simp) _
  have x0 : ((w.alloc (.cells (u8s x).toArray 43)).alloc (.cells (u8s m).toArray 43)).rangeAt w.heap.size 0 (u8s x) := World.rangeAt_alloc (range_new w (u8s x) 43) _
  have m0 : ((w.alloc (.cells (u8s x).toArray 43)).alloc (.cells (u8s m).toArray 43)).rangeAt (w.heap.size + 1) 0 (u8s m) := by
    have := range_new (w.alloc (.cells (u8s x).toArray 43)) (u8s m) 43
    rwa [World.size_alloc] at this
  have B0 := Lib.hid b0
  have XR0 := Lib.hid x0
  have MR0 := Lib.hid m0
  have S0 := Lib.hid (S.below b0)
  have HK := Lib.hid hk
  have HX := Lib.hid hx
  have HL := Lib.hid hl
  have HM := Lib.hid hm
  have HLM := Lib.hid hlm
  clear b0 x0 m0 S hk hx hl hm hlm
  go_enter Tryd.func20, Tryd.ntmps20
  go_wp2_with fail
  change Calls _ _ _ ((w.alloc (.cells (u8s x).toArray 43)).alloc (.cells (u8s m).toArray 43)) _
  generalize ((w.alloc (.cells (u8s x).toArray 43)).alloc (.cells (u8s m).toArray 43)) = W0 at *
  refine (alive_keys al W0 S0.out (range_below HK.out B0.out) (Nat.lt_of_lt_of_le h18 B0.out.size)).mono ?_
  rintro e w1 ⟨rfl, hb1⟩
  have B1 := Lib.hid (B0.out.trans (hb1.mono B0.out.size))
  have XR1 := Lib.hid (range_below XR0.out hb1)
  have MR1 := Lib.hid (range_below MR0.out hb1)
  clear hb1
  obtain ⟨u, hu⟩ : ∃ u, IntKind.u64.wrap l0 = u := ⟨_, rfl⟩
  have hu0 : 0 ≤ u ∧ u < 18446744073709551616 := by rw [← hu, IntKind.wrap_u64]; omega
  obtain ⟨hu1, hu2⟩ := hu0
  obtain ⟨i, hui⟩ : ∃ i : Nat, u % 32 = i := ⟨(u % 32).toNat, by omega⟩
  have hi32 : i < 32 := by omega
  go_wp2_with fail
  refine wp_region_rely2 (by kernel_rfl) 5 (by kernel_rfl) (by kernel_rfl) Ext Ext.refl Ext.trans (fun ix => match ix with
    | 0 => fun _ v => v = .agg (u8s x).toArray
    | 1 => fun W v => ∃ q A c, v = .pointer (some ⟨q, 0, none⟩) ∧ KeyAt W q x A c
    | 2 => fun _ v => v = .agg (u8s x).toArray
    | 3 => fun W v => ∃ q A c, v = .pointer (some ⟨q, 0, none⟩) ∧ KeyAt W q x A c
    | 4 => fun W v => ∃ q A c, v = .pointer (some ⟨q, 0, none⟩) ∧ KeyAt W q x A c
    | _ => fun _ _ => False) ?_
  simp (maxSteps := 10000000) only [Rely, List.take_succ_cons, List.take_zero, List.drop_succ_cons, List.drop_zero, Nat.reduceAdd, Nat.zero_add, Act.put, List.setIfInBounds_toArray, List.set_cons_succ, List.set_cons_zero]
  refine ⟨?_, ?_, ?_, ?_, ?_, ?_⟩
  · refine step_plain rfl fun vs wq hE hd => ?_
    exact gives_load_row 43 _ rfl w.heap.size 0 rfl (u8s x) _ (range_below XR1.out (ext_of_drew hE)) Tryd.underlying43 rfl (hi43 x HL.out) ⟨Ext.refl _, fun _ _ => rfl⟩
  · refine step_plain rfl fun vs wq hE hd => ?_
    refine gives_call 61 (enters_of Tryd.func61 (by kernel_rfl) rfl) _ _ rfl rfl [.agg (u8s x).toArray] (congrArg (fun a => [a]) (show vs 0 = _ from hd.1)) ?_
    have hb5 := B1.out.trans ((ext_of_drew hE).mono B1.out.size)
    refine (keyNew_any x HL.out HX.out wq (range_below HK.out hb5) (Nat.lt_of_lt_of_le h18 hb5.size)).mono ?_
    rintro _ w'' ⟨q, A, c, rfl, _, key, hb⟩
    exact ⟨_, rfl, hb, fun _ hE2 => ⟨q, A, c, rfl, key.below hE2⟩⟩
  · refine step_plain rfl fun vs wq hE hd => ?_
    exact gives_load_row 43 _ rfl w.heap.size 0 rfl (u8s x) _ (range_below XR1.out (ext_of_drew hE)) Tryd.underlying43 rfl (hi43 x HL.out) ⟨Ext.refl _, fun _ _ => rfl⟩
  · refine step_plain rfl fun vs wq hE hd => ?_
    refine gives_call 61 (enters_of Tryd.func61 (by kernel_rfl) rfl) _ _ rfl rfl [.agg (u8s x).toArray] (congrArg (fun a => [a]) (show vs 2 = _ from hd.1)) ?_
    have hb5 := B1.out.trans ((ext_of_drew hE).mono B1.out.size)
    refine (keyNew_any x HL.out HX.out wq (range_below HK.out hb5) (Nat.lt_of_lt_of_le h18 hb5.size)).mono ?_
    rintro _ w'' ⟨q, A, c, rfl, _, key, hb⟩
    exact ⟨_, rfl, hb, fun _ hE2 => ⟨q, A, c, rfl, key.below hE2⟩⟩
  · refine step_plain rfl fun vs wq hE hd => ?_
    obtain ⟨q, A, c, h1, key⟩ := hd.1
    exact gives_move _ (.pointer (some ⟨q, 0, none⟩)) (.inr rfl) (show vs 1 = _ from h1) ⟨Ext.refl _, fun _ hE2 => ⟨q, A, c, rfl, key.below hE2⟩⟩
  · intro vs wq hE hR
    obtain ⟨qa, Aa, ca, h4, ka⟩ := hR 4 (by omega)
    obtain ⟨qb, Ab, cb, h3, kb⟩ := hR 3 (by omega)
    rw [h3, h4]
    have KA_2 := Lib.hid ka
    have KB_2 := Lib.hid kb
    have B2 := Lib.hid (B1.out.trans ((ext_of_drew hE).mono B1.out.size))
    have MR2 := Lib.hid (range_below MR1.out (ext_of_drew hE))
    clear hR hE h3 h4 ka kb
    go_wp2_with (refine wpList_load_g rfl 43 (.tmp 4) rfl (w.heap.size + 1) 0 rfl (u8s m) _ MR2.out Tryd.underlying43 rfl (hi43 m HLM.out) ?_)
    refine (ksign_ok qa x HL.out HX.out Aa ca i hi32 m HLM.out HM.out wq KA_2.out (range_below HK.out B2.out) (Nat.lt_of_lt_of_le h18 B2.out.size)).mono ?_
    rintro e w3 ⟨v, u', rfl, ho3, hp3, hb3⟩
    obtain ⟨g, cs, cur, rfl, hg1, hg2⟩ := own_blk (by omega) ho3
    obtain ⟨g2, ds, cur2, rfl, hg3, hg4⟩ := own_blk (by omega) hp3
    have hgz : g < w3.heap.size ∧ g2 < w3.heap.size := ⟨blk_lt hg2, blk_lt hg4⟩
    have HGZ := Lib.hid hgz
    have HG1 := Lib.hid hg1
    have HG3 := Lib.hid hg3
    have TG_3 := Lib.hid hg2
    have TH_3 := Lib.hid hg4
    have DS_3 := Lib.hid (sig_dgs ho3)
    have DW_3 := Lib.hid (way_dgs hi32 (lvT_len x 32) (lvT_good x 32) hp3)
    have LW_3 : Hid (Below wq.heap.size wq w3) := Lib.hid hb3
    have B3 := Lib.hid (B2.out.trans (hb3.mono B2.out.size))
    have MR3 := Lib.hid (range_below MR2.out hb3)
    have KB_3 := Lib.hid (KB_2.out.below hb3)
    clear hb3 ho3 hp3 hg1 hg2 hg3 hg4 hgz
    go_wp2_with (first | (refine wpList_store_row rfl 88 (.tmp 9) (.tmp 30) rfl w3.heap.size rfl [Value.int .i64 (i : Int), .slice (some ⟨g, 0, none⟩) 68 cs, .slice (some ⟨g2, 0, none⟩) 5 ds] rfl 88 (has_new w3 _ _ _ rfl) Tryd.size88' (one_sig _ _ _ _ _ _ _) ?_; intro w4 hp4; have L4 : Below w3.heap.size w3 w4 := (hp4.below ((Below.refl _ _).alloc (Nat.le_refl _) _) (Nat.le_refl _)); have B4 := Lib.hid (B3.out.trans (L4.mono B3.out.size)); have MR4 := Lib.hid (range_below MR3.out L4); have KB_4 := Lib.hid (KB_3.out.below L4); have TG_4 := Lib.hid (blk_below TG_3.out L4); have TH_4 := Lib.hid (blk_below TH_3.out L4); have DS_4 := Lib.hid (DS_3.out.below L4); have DW_4 := Lib.hid (DW_3.out.below L4); have LW_4 := Lib.hid (LW_3.out.trans (L4.mono LW_3.out.size)); have TS_4 := Lib.hid hp4.blk; clear hp4 L4) | (refine wpList_load_g rfl 43 (.tmp 4) rfl (w.heap.size + 1) 0 rfl (u8s m) _ MR4.out Tryd.underlying43 rfl (hi43 m HLM.out) ?_))
    refine (ksign_ok qb x HL.out HX.out Ab cb i hi32 m HLM.out HM.out w4 KB_4.out (range_below HK.out B4.out) (Nat.lt_of_lt_of_le h18 B4.out.size)).mono ?_
    rintro e w5 ⟨v, u', rfl, ho5, hp5, hb5⟩
    obtain ⟨At, ct, rfl⟩ := own_form ho5
    obtain ⟨Bt, dt, rfl⟩ := own_form hp5
    have hz34 : w3.heap.size < w4.heap.size := blk_lt TS_4.out
    have OS_5 := Lib.hid ho5
    have OW_5 := Lib.hid hp5
    have HZ4 := Lib.hid (show g < w4.heap.size ∧ g2 < w4.heap.size from ⟨by have := HGZ.out.1; omega, by have := HGZ.out.2; omega⟩)
    have HZ45 := Lib.hid hb5.size
    have B5 := Lib.hid (B4.out.trans (hb5.mono B4.out.size))
    have MR5 := Lib.hid (range_below MR4.out hb5)
    have KB_5 := Lib.hid (KB_4.out.below hb5)
    have TG_5 := Lib.hid (blk_below TG_4.out hb5)
    have TH_5 := Lib.hid (blk_below TH_4.out hb5)
    have TS_5 := Lib.hid (blk_below TS_4.out hb5)
    have DS_5 := Lib.hid (DS_4.out.below hb5)
    have DW_5 := Lib.hid (DW_4.out.below hb5)
    have LW_5 := Lib.hid (LW_4.out.trans (hb5.mono LW_4.out.size))
    clear hb5 ho5 hp5 hz34
    go_wp2_with (refine wpList_store_row rfl 88 (.tmp 11) (.tmp 37) rfl w5.heap.size rfl [Value.int .i64 (i : Int), .slice At 68 ct, .slice Bt 5 dt] rfl 88 (has_new w5 _ _ _ rfl) Tryd.size88' (one_sig _ _ _ _ _ _ _) ?_; intro w6 hp6; have L6 : Below w5.heap.size w5 w6 := (hp6.below ((Below.refl _ _).alloc (Nat.le_refl _) _) (Nat.le_refl _)); have B6 := Lib.hid (B5.out.trans (L6.mono B5.out.size)); have MR6 := Lib.hid (range_below MR5.out L6); have KB_6 := Lib.hid (KB_5.out.below L6); have TG_6 := Lib.hid (blk_below TG_5.out L6); have TH_6 := Lib.hid (blk_below TH_5.out L6); have TS_6 := Lib.hid (blk_below TS_5.out L6); have DS_6 := Lib.hid (DS_5.out.below L6); have DW_6 := Lib.hid (DW_5.out.below L6); have LW_6 := Lib.hid (LW_5.out.trans (L6.mono LW_5.out.size)); have OS_6 := Lib.hid (own_bel OS_5.out L6); have OW_6 := Lib.hid (own_bel OW_5.out L6); have TT_6 := Lib.hid hp6.blk; clear hp6 L6)
    have ka6 := KA_2.out.below LW_6.out
    have HZ3 := Lib.hid HGZ.out
    refine (keyRoot_any qa x HL.out Aa ca w6 ka6).mono ?_
    rintro e w7 ⟨rfl, hb7⟩
    have B7 := Lib.hid (B6.out.trans (hb7.mono B6.out.size))
    have MR7 := Lib.hid (range_below MR6.out hb7)
    have KB_7 := Lib.hid (KB_6.out.below hb7)
    have TG_7 := Lib.hid (blk_below TG_6.out hb7)
    have TH_7 := Lib.hid (blk_below TH_6.out hb7)
    have TS_7 := Lib.hid (blk_below TS_6.out hb7)
    have TT_7 := Lib.hid (blk_below TT_6.out hb7)
    have DS_7 := Lib.hid (DS_6.out.below hb7)
    have DW_7 := Lib.hid (DW_6.out.below hb7)
    have LW_7 := Lib.hid (LW_6.out.trans (hb7.mono LW_6.out.size))
    have OS_7 := Lib.hid (own_bel OS_6.out hb7)
    have OW_7 := Lib.hid (own_bel OW_6.out hb7)
    clear hb7 ka6
    go_wp2_with fail
    refine (keyRoot_any qb x HL.out Ab cb w7 KB_7.out).mono ?_
    rintro e w8 ⟨rfl, hb8⟩
    obtain ⟨RT, hRT⟩ : ∃ d, d = rootT (lvT x 32) := ⟨_, rfl⟩
    have hgr := rootT_good (lvT x 32) (lvT_len x 32) (lvT_good x 32)
    rw [← hRT] at hgr ⊢
    have hsame := run_same16 RT hgr.1
    have B8 := Lib.hid (B7.out.trans (hb8.mono B7.out.size))
    have MR8 := Lib.hid (range_below MR7.out hb8)
    have TG_8 := Lib.hid (blk_below TG_7.out hb8)
    have TH_8 := Lib.hid (blk_below TH_7.out hb8)
    have TS_8 := Lib.hid (blk_below TS_7.out hb8)
    have TT_8 := Lib.hid (blk_below TT_7.out hb8)
    have DS_8 := Lib.hid (DS_7.out.below hb8)
    have DW_8 := Lib.hid (DW_7.out.below hb8)
    have LW_8 := Lib.hid (LW_7.out.trans (hb8.mono LW_7.out.size))
    have OS_8 := Lib.hid (own_bel OS_7.out hb8)
    have OW_8 := Lib.hid (own_bel OW_7.out hb8)
    clear hb8 hgr hRT
    have RS8 := Lib.hid (blk_range (xs := [Value.int .i64 (i : Int), .slice (some ⟨g, 0, none⟩) 68 cs, .slice (some ⟨g2, 0, none⟩) 5 ds]) TS_8.out)
    have RT8 := Lib.hid (blk_range (xs := [Value.int .i64 (i : Int), .slice At 68 ct, .slice Bt 5 dt]) TT_8.out)
    go_wp2_with (first | (refine wpList_load_g rfl 88 (.tmp 9) rfl w3.heap.size 0 rfl [Value.int .i64 (i : Int), .slice (some ⟨g, 0, none⟩) 68 cs, .slice (some ⟨g2, 0, none⟩) 5 ds] _ RS8.out Tryd.underlying88 rfl Tryd.size88' ?_) | (refine wpList_load_g rfl 88 (.tmp 11) rfl w5.heap.size 0 rfl [Value.int .i64 (i : Int), .slice At 68 ct, .slice Bt 5 dt] _ RT8.out Tryd.underlying88 rfl Tryd.size88' ?_))
    refine (ksame_any i i (sigC i x m 68) (sigC i x m 68) (wayT (lvT x 32) i 5) (wayT (lvT x 32) i 5) (some ⟨g, 0, none⟩) At (some ⟨g2, 0, none⟩) Bt 68 68 cs ct 5 5 ds dt w8 DS_8.out (sig_dgs OS_8.out) DW_8.out (way_dgs hi32 (lvT_len x 32) (lvT_good x 32) OW_8.out) ⟨(sigC_len _ _ _ _).symm, (sigC_len _ _ _ _).symm, (wayT_len _ _ _).symm, (wayT_len _ _ _).symm⟩ (by omega) (by omega)).mono ?_
    rintro e w9 ⟨rfl, hb9⟩
    rw [decide_eq_true ⟨rfl, rfl, rfl⟩]
    have B9 := Lib.hid (B8.out.trans (hb9.mono B8.out.size))
    have MR9 := Lib.hid (range_below MR8.out hb9)
    have TG_9 := Lib.hid (blk_below TG_8.out hb9)
    have TH_9 := Lib.hid (blk_below TH_8.out hb9)
    have TS_9 := Lib.hid (blk_below TS_8.out hb9)
    have TT_9 := Lib.hid (blk_below TT_8.out hb9)
    have DS_9 := Lib.hid (DS_8.out.below hb9)
    have DW_9 := Lib.hid (DW_8.out.below hb9)
    have LW_9 := Lib.hid (LW_8.out.trans (hb9.mono LW_8.out.size))
    have OS_9 := Lib.hid (own_bel OS_8.out hb9)
    have OW_9 := Lib.hid (own_bel OW_8.out hb9)
    clear hb9 hsame RS8 RT8
    obtain ⟨b0, hb0⟩ := dgs_first DS_9.out (by omega) (sigC_len _ _ _ _).symm
    have CG := Lib.hid hb0
    have CS1 : Hid (w9.cell? ⟨w3.heap.size, 1, none⟩ = some (.slice (some ⟨g, 0, none⟩) 68 cs)) := Lib.hid (by rw [cell_of_row _ _ _ _ _ _ TS_9.out]; rfl)
    obtain ⟨z, hz⟩ : ∃ z, IntKind.u8.wrap (b0 + 1) = z := ⟨_, rfl⟩
    have HZ := Lib.hid hz
    clear hb0 hz
    go_wp2_with fail
    refine wp_region_rely2 (by kernel_rfl) 7 (by kernel_rfl) (by kernel_rfl) Ext Ext.refl Ext.trans (fun ix => match ix with
      | 0 => fun _ v => v = .pointer (some ⟨w3.heap.size, 1, none⟩)
      | 1 => fun _ v => v = .slice (some ⟨g, 0, none⟩) 68 cs
      | 2 => fun _ v => v = .pointer (some ⟨g, 0, none⟩)
      | 3 => fun _ v => v = .pointer (some ⟨g, 0, none⟩)
      | 4 => fun _ v => v = .int .u8 b0
      | 5 => fun _ v => v = .int .u8 z
      | 6 => fun _ v => v = .pointer (some ⟨g, 0, none⟩)
      | _ => fun _ _ => False) ?_
    simp (maxSteps := 10000000) only [Rely, List.take_succ_cons, List.take_zero, List.drop_succ_cons, List.drop_zero, Nat.reduceAdd, Nat.zero_add, Act.put, List.setIfInBounds_toArray, List.set_cons_succ, List.set_cons_zero]
    refine ⟨?_, ?_, ?_, ?_, ?_, ?_, ?_, ?_⟩
    · refine step_plain rfl fun vs wy hE hd => ?_
      exact gives_fieldAddr' 88 _ 1 rfl (.pointer (some ⟨w3.heap.size, 0, none⟩)) _ rfl (by go_simp) ⟨Ext.refl _, fun _ _ => rfl⟩
    · refine step_plain rfl fun vs wy hE hd => ?_
      have hc := cell_on (ext_of_drew hE) CS1.out
      exact gives_loadAt 55 _ rfl (.pointer (some ⟨w3.heap.size, 1, none⟩)) (.slice (some ⟨g, 0, none⟩) 68 cs) (show vs 0 = _ from hd.1) (by go_simp) ⟨Ext.refl _, fun _ _ => rfl⟩
    · refine step_plain rfl fun vs wy hE hd => ?_
      exact gives_indexAt 55 _ _ rfl (.slice (some ⟨g, 0, none⟩) 68 cs) (Value.int IntKind.i64 0) (.pointer (some ⟨g, 0, none⟩)) (show vs 1 = _ from hd.1) rfl (by go_simp) ⟨Ext.refl _, fun _ _ => rfl⟩
    · refine step_plain rfl fun vs wy hE hd => ?_
      exact gives_indexAt 43 _ _ rfl (.pointer (some ⟨g, 0, none⟩)) (Value.int IntKind.i64 0) (.pointer (some ⟨g, 0, none⟩)) (show vs 2 = _ from hd.1) rfl (by go_simp) ⟨Ext.refl _, fun _ _ => rfl⟩
    · refine step_plain rfl fun vs wy hE hd => ?_
      have hc := cell_on (ext_of_drew hE) CG.out
      exact gives_loadAt 5 _ rfl (.pointer (some ⟨g, 0, none⟩)) (.int .u8 b0) (show vs 3 = _ from hd.1) (by go_simp) ⟨Ext.refl _, fun _ _ => rfl⟩
    · refine step_plain rfl fun vs wy hE hd => ?_
      have hz := HZ.out
      exact gives_binOp .add 5 _ _ _ rfl (.int .u8 b0) (.int .u8 1) (.int .u8 z) (show vs 4 = _ from (hd.1)) rfl (by go_simp) (by go_simp) ⟨Ext.refl _, fun _ _ => rfl⟩
    · refine step_plain rfl fun vs wy hE hd => ?_
      exact gives_indexAt 55 _ _ rfl (.slice (some ⟨g, 0, none⟩) 68 cs) (Value.int IntKind.i64 0) (.pointer (some ⟨g, 0, none⟩)) (show vs 1 = _ from hd.1) rfl (by go_simp) ⟨Ext.refl _, fun _ _ => rfl⟩
    · intro vs wy hE hR
      have h5 : vs 5 = .int .u8 z := hR 5 (by omega)
      have h6 : vs 6 = _ := hR 6 (by omega)
      rw [h5, h6]
      have L9 : Below w9.heap.size w9 wy := ext_of_drew hE
      have hcz : wy.cell? ⟨g, 0, none⟩ = some (.int .u8 b0) := cell_on L9 CG.out
      have hfz : wy.frozen? ⟨g, 0, none⟩ = false := blk_free (blk_below TG_9.out L9) 0
      obtain ⟨wa, hwa⟩ : ∃ y, y = wy.setCell ⟨g, 0, none⟩ (.int .u8 z) := ⟨_, rfl⟩
      have lw : Below wq.heap.size wq wa := by rw [hwa]; exact (LW_9.out.trans (L9.mono LW_9.out.size)).setCell (p := ⟨g, 0, none⟩) HG1.out _
      have ba : Below w.heap.size w wa := B2.out.trans (lw.mono B2.out.size)
      have hgs : g < w5.heap.size := by have := HZ4.out.1; have := HZ45.out; omega
      have tt : wa.heap[w5.heap.size]? = some (.cells ([Value.int .i64 (i : Int), .slice At 68 ct, .slice Bt 5 dt] : List Value).toArray 88 (0, 0)) := by rw [hwa]; exact (heap_setCell_other wy ⟨g, 0, none⟩ _ _ (by show w5.heap.size ≠ g; omega)).trans (blk_below TT_9.out L9)
      have ts : wa.heap[w3.heap.size]? = some (.cells ([Value.int .i64 (i : Int), .slice (some ⟨g, 0, none⟩) 68 cs, .slice (some ⟨g2, 0, none⟩) 5 ds] : List Value).toArray 88 (0, 0)) := by rw [hwa]; exact (heap_setCell_other wy ⟨g, 0, none⟩ _ _ (by show w3.heap.size ≠ g; have := HZ3.out.1; omega)).trans (blk_below TS_9.out L9)
      have os : wa.ownsRow w4.heap.size 43 16 (.slice At 68 ct) 68 (dcells (sigC i x m 68)) := by rw [hwa]; exact own_set (own_bel OS_9.out L9) HZ4.out.1
      have ow : wa.ownsRow w4.heap.size 43 16 (.slice Bt 5 dt) 5 (dcells (wayT (lvT x 32) i 5)) := by rw [hwa]; exact own_set (own_bel OW_9.out L9) HZ4.out.1
      have hth : ∃ b1 cc, wa.cell? ⟨g2, 0, none⟩ = some (.int .u8 b1) ∧ wa.heap[g2]? = some (.cells cc 43 (0, 0)) := by
        obtain ⟨b1, hb1⟩ := dgs_first (DW_9.out.below L9) (by omega) (wayT_len _ _ _).symm
        have h2 := blk_below TH_9.out L9
        by_cases hgg : g2 = g
        · subst hgg
          have hs := heap_setCell_same wy g2 0 _ 43 (.int .u8 z) h2
          refine ⟨z, _, ?_, by rw [hwa]; exact hs⟩
          have hc1 := hcz
          rw [cell_of_row _ _ _ _ _ _ h2] at hc1
          rw [hwa, cell_of_row _ _ _ _ _ _ hs, Array.getElem?_setIfInBounds_self_of_lt (Array.getElem?_eq_some_iff.1 hc1).1]
        · refine ⟨b1, _, ?_, by rw [hwa]; exact (heap_setCell_other wy ⟨g, 0, none⟩ _ _ hgg).trans h2⟩
          rw [hwa, World.cell?_of_block (a := ⟨g2, 0, none⟩) (heap_setCell_other wy ⟨g, 0, none⟩ g2 _ hgg)]
          exact hb1
      obtain ⟨b1, cc, hc1, hcc⟩ := hth
      have LWa := Lib.hid lw
      have Ba := Lib.hid ba
      have TTa := Lib.hid tt
      have OSa := Lib.hid os
      have OWa := Lib.hid ow
      have CGa := Lib.hid hc1
      have TGa := Lib.hid hcc
      have HWA := Lib.hid hwa
      have CSa : Hid (wa.cell? ⟨w3.heap.size, 2, none⟩ = some (.slice (some ⟨g2, 0, none⟩) 5 ds)) := Lib.hid (by rw [cell_of_row _ _ _ _ _ _ ts]; rfl)
      have hgs2 : g2 < w5.heap.size := by have := HZ4.out.2; have := HZ45.out; omega
      clear hR hE h5 h6 L9 lw ba tt ts os ow hwa hc1 hcc CG CS1 HZ hgs
      go_wp2_with fail
      rw [← HWA.out]
      clear hcz hfz HWA
      obtain ⟨z1, hz⟩ : ∃ z, IntKind.u8.wrap (b1 + 1) = z := ⟨_, rfl⟩
      have HZ := Lib.hid hz
      clear hz
      refine wp_region_rely2 (by kernel_rfl) 7 (by kernel_rfl) (by kernel_rfl) Ext Ext.refl Ext.trans (fun ix => match ix with
        | 0 => fun _ v => v = .pointer (some ⟨w3.heap.size, 2, none⟩)
        | 1 => fun _ v => v = .slice (some ⟨g2, 0, none⟩) 5 ds
        | 2 => fun _ v => v = .pointer (some ⟨g2, 0, none⟩)
        | 3 => fun _ v => v = .pointer (some ⟨g2, 0, none⟩)
        | 4 => fun _ v => v = .int .u8 b1
        | 5 => fun _ v => v = .int .u8 z1
        | 6 => fun _ v => v = .pointer (some ⟨g2, 0, none⟩)
        | _ => fun _ _ => False) ?_
      simp (maxSteps := 10000000) only [Rely, List.take_succ_cons, List.take_zero, List.drop_succ_cons, List.drop_zero, Nat.reduceAdd, Nat.zero_add, Act.put, List.setIfInBounds_toArray, List.set_cons_succ, List.set_cons_zero]
      refine ⟨?_, ?_, ?_, ?_, ?_, ?_, ?_, ?_⟩
      · refine step_plain rfl fun vs wz hE hd => ?_
        exact gives_fieldAddr' 88 _ 2 rfl (.pointer (some ⟨w3.heap.size, 0, none⟩)) _ rfl (by go_simp) ⟨Ext.refl _, fun _ _ => rfl⟩
      · refine step_plain rfl fun vs wz hE hd => ?_
        have hc := cell_on (ext_of_drew hE) CSa.out
        exact gives_loadAt 55 _ rfl (.pointer (some ⟨w3.heap.size, 2, none⟩)) (.slice (some ⟨g2, 0, none⟩) 5 ds) (show vs 0 = _ from hd.1) (by go_simp) ⟨Ext.refl _, fun _ _ => rfl⟩
      · refine step_plain rfl fun vs wz hE hd => ?_
        exact gives_indexAt 55 _ _ rfl (.slice (some ⟨g2, 0, none⟩) 5 ds) (Value.int IntKind.i64 0) (.pointer (some ⟨g2, 0, none⟩)) (show vs 1 = _ from hd.1) rfl (by go_simp) ⟨Ext.refl _, fun _ _ => rfl⟩
      · refine step_plain rfl fun vs wz hE hd => ?_
        exact gives_indexAt 43 _ _ rfl (.pointer (some ⟨g2, 0, none⟩)) (Value.int IntKind.i64 0) (.pointer (some ⟨g2, 0, none⟩)) (show vs 2 = _ from hd.1) rfl (by go_simp) ⟨Ext.refl _, fun _ _ => rfl⟩
      · refine step_plain rfl fun vs wz hE hd => ?_
        have hc := cell_on (ext_of_drew hE) CGa.out
        exact gives_loadAt 5 _ rfl (.pointer (some ⟨g2, 0, none⟩)) (.int .u8 b1) (show vs 3 = _ from hd.1) (by go_simp) ⟨Ext.refl _, fun _ _ => rfl⟩
      · refine step_plain rfl fun vs wz hE hd => ?_
        have hz := HZ.out
        exact gives_binOp .add 5 _ _ _ rfl (.int .u8 b1) (.int .u8 1) (.int .u8 z1) (show vs 4 = _ from (hd.1)) rfl (by go_simp) (by go_simp) ⟨Ext.refl _, fun _ _ => rfl⟩
      · refine step_plain rfl fun vs wz hE hd => ?_
        exact gives_indexAt 55 _ _ rfl (.slice (some ⟨g2, 0, none⟩) 5 ds) (Value.int IntKind.i64 0) (.pointer (some ⟨g2, 0, none⟩)) (show vs 1 = _ from hd.1) rfl (by go_simp) ⟨Ext.refl _, fun _ _ => rfl⟩
      · intro vs wz hE hR
        have h5 : vs 5 = .int .u8 z1 := hR 5 (by omega)
        have h6 : vs 6 = _ := hR 6 (by omega)
        rw [h5, h6]
        have L9 : Below wa.heap.size wa wz := ext_of_drew hE
        have hcz : wz.cell? ⟨g2, 0, none⟩ = some (.int .u8 b1) := cell_on L9 CGa.out
        have hfz : wz.frozen? ⟨g2, 0, none⟩ = false := blk_free (blk_below TGa.out L9) 0
        obtain ⟨wb, hwb⟩ : ∃ y, y = wz.setCell ⟨g2, 0, none⟩ (.int .u8 z1) := ⟨_, rfl⟩
        have lw : Below wq.heap.size wq wb := by rw [hwb]; exact (LWa.out.trans (L9.mono LWa.out.size)).setCell (p := ⟨g2, 0, none⟩) HG3.out _
        have bb : Below w.heap.size w wb := B2.out.trans (lw.mono B2.out.size)
        have tt : wb.heap[w5.heap.size]? = some (.cells ([Value.int .i64 (i : Int), .slice At 68 ct, .slice Bt 5 dt] : List Value).toArray 88 (0, 0)) := by rw [hwb]; exact (heap_setCell_other wz ⟨g2, 0, none⟩ _ _ (by show w5.heap.size ≠ g2; omega)).trans (blk_below TTa.out L9)
        have os : wb.ownsRow w4.heap.size 43 16 (.slice At 68 ct) 68 (dcells (sigC i x m 68)) := by rw [hwb]; exact own_set (own_bel OSa.out L9) HZ4.out.2
        have ow : wb.ownsRow w4.heap.size 43 16 (.slice Bt 5 dt) 5 (dcells (wayT (lvT x 32) i 5)) := by rw [hwb]; exact own_set (own_bel OWa.out L9) HZ4.out.2
        have B_b := Lib.hid bb
        have KA_b := Lib.hid (KA_2.out.below lw)
        have MR_b := Lib.hid (range_below MR2.out lw)
        have TT_b := Lib.hid tt
        have OS_b := Lib.hid os
        have OW_b := Lib.hid ow
        have HWB := Lib.hid hwb
        clear hR hE h5 h6 L9 lw bb tt os ow hwb CGa CSa HZ hgs2
        go_wp2_with (refine wpList_load_g rfl 43 (.tmp 4) rfl (w.heap.size + 1) 0 rfl (u8s m) _ (by first | exact MR_b.out | (rw [← HWB.out]; exact MR_b.out)) Tryd.underlying43 rfl (hi43 m HLM.out) ?_)
        rw [← HWB.out]
        clear hcz hfz HWB
        refine (ksign_ok qa x HL.out HX.out Aa ca i hi32 m HLM.out HM.out wb KA_b.out (range_below HK.out B_b.out) (Nat.lt_of_lt_of_le h18 B_b.out.size)).mono ?_
        rintro e w12 ⟨v, u', rfl, ho12, hp12, hb12⟩
        have DU_12 := Lib.hid (sig_dgs ho12)
        have DV_12 := Lib.hid (way_dgs hi32 (lvT_len x 32) (lvT_good x 32) hp12)
        obtain ⟨Au, cu, rfl⟩ := own_form ho12
        obtain ⟨Bu, du, rfl⟩ := own_form hp12
        have B12 := Lib.hid (B_b.out.trans (hb12.mono B_b.out.size))
        have TT_12 := Lib.hid (blk_below TT_b.out hb12)
        have DS_12 := Lib.hid (sig_dgs (own_bel OS_b.out hb12))
        have DW_12 := Lib.hid (way_dgs hi32 (lvT_len x 32) (lvT_good x 32) (own_bel OW_b.out hb12))
        clear ho12 hp12 hb12
        go_wp2_with (first | (refine wpList_store_row rfl 88 (.tmp 13) (.tmp 79) rfl w12.heap.size rfl [Value.int .i64 (i : Int), .slice Au 68 cu, .slice Bu 5 du] rfl 88 (has_new w12 _ _ _ rfl) Tryd.size88' (one_sig _ _ _ _ _ _ _) ?_; intro w13 hp13; have L13 : Below w12.heap.size w12 w13 := (hp13.below ((Below.refl _ _).alloc (Nat.le_refl _) _) (Nat.le_refl _)); have B13 := Lib.hid (B12.out.trans (L13.mono B12.out.size)); have TT_13 := Lib.hid (blk_below TT_12.out L13); have DS_13 := Lib.hid (DS_12.out.below L13); have DW_13 := Lib.hid (DW_12.out.below L13); have DU_13 := Lib.hid (DU_12.out.below L13); have DV_13 := Lib.hid (DV_12.out.below L13); have TU_13 := Lib.hid hp13.blk; clear hp13 L13; have RU13 := Lib.hid (blk_range (xs := [Value.int .i64 (i : Int), .slice Au 68 cu, .slice Bu 5 du]) TU_13.out); have RT13 := Lib.hid (blk_range (xs := [Value.int .i64 (i : Int), .slice At 68 ct, .slice Bt 5 dt]) TT_13.out)) | (refine wpList_load_g rfl 88 (.tmp 13) rfl w12.heap.size 0 rfl [Value.int .i64 (i : Int), .slice Au 68 cu, .slice Bu 5 du] _ RU13.out Tryd.underlying88 rfl Tryd.size88' ?_) | (refine wpList_load_g rfl 88 (.tmp 11) rfl w5.heap.size 0 rfl [Value.int .i64 (i : Int), .slice At 68 ct, .slice Bt 5 dt] _ RT13.out Tryd.underlying88 rfl Tryd.size88' ?_))
        refine (ksame_any i i (sigC i x m 68) (sigC i x m 68) (wayT (lvT x 32) i 5) (wayT (lvT x 32) i 5) Au At Bu Bt 68 68 cu ct 5 5 du dt w13 DU_13.out DS_13.out DV_13.out DW_13.out ⟨(sigC_len _ _ _ _).symm, (sigC_len _ _ _ _).symm, (wayT_len _ _ _).symm, (wayT_len _ _ _).symm⟩ (by omega) (by omega)).mono ?_
        rintro e w14 ⟨rfl, hb14⟩
        rw [decide_eq_true ⟨rfl, rfl, rfl⟩]
        have B14 := Lib.hid (B13.out.trans (hb14.mono B13.out.size))
        clear hb14
        go_wp2_with fail
        go_ret
        exact ⟨rfl, B14.out⟩
end Go.Proofs.YtdedphhohiioiaaDoor
