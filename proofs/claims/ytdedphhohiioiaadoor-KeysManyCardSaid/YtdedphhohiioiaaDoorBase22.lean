/- Lemmas that laws of this seat rest on, part 22; each says its own conditions: KitI, KeysManyW. -/
import Derived.Test.YtdedphhohiioiaaDoorBase9
import Derived.Test.YtdedphhohiioiaaDoorBase19
/- Slices of integers; those that came in. -/
namespace Go.Proofs.YtdedphhohiioiaaDoor
open Go.ChangeShapes Go.WideShapes Go.ChangeAt Go.RowKit

/-- A slice of integers. -/
structure Ins (w : World) (v : Value) (xs : List Int) : Prop where
  form : ∃ A c, v = .slice A xs.length c
  cells : xs ≠ [] → ∃ b off c, v = .slice (some ⟨b, off, none⟩) xs.length c ∧ xs.length ≤ c ∧ c ≤ maxLen ∧ b < w.heap.size ∧ ∀ i, i < xs.length → w.cell? ⟨b, off + i, none⟩ = some (.int .i64 (xs.getD i 0))
theorem Ins.nil {w : World} : Ins w (.slice none 0 0) [] := ⟨⟨_, _, rfl⟩, fun h => absurd rfl h⟩
theorem Ins.below {w w' : World} {v : Value} {xs : List Int} (h : Ins w v xs) (hb : Below w.heap.size w w') : Ins w' v xs := by
  refine ⟨h.form, fun hne => ?_⟩
  obtain ⟨b, off, c, e, h1, h2, h3, h4⟩ := h.cells hne
  exact ⟨b, off, c, e, h1, h2, Nat.lt_of_lt_of_le h3 hb.size, fun i hi => (hb.cell (p := ⟨b, off + i, none⟩) h3).trans (h4 i hi)⟩
theorem Ins.len {w : World} {A : Option Addr} {n c : Nat} {xs : List Int} (h : Ins w (.slice A n c) xs) : n = xs.length := by
  obtain ⟨A', c', e⟩ := h.form
  simp only [Value.slice.injEq] at e
  exact e.2.1
theorem Ins.el {w : World} {A : Option Addr} {n c : Nat} {xs : List Int} (h : Ins w (.slice A n c) xs) (i : Nat) (hi : i < n) :
    ∃ b off, A = some ⟨b, off, none⟩ ∧ b < w.heap.size ∧ w.cell? ⟨b, off + i, none⟩ = some (.int .i64 (xs.getD i 0)) := by
  have hl := h.len
  obtain ⟨b, off, c', e, _, _, h3, h4⟩ := h.cells (by intro e; subst e; simp at hl; omega)
  simp only [Value.slice.injEq] at e
  exact ⟨b, off, e.1, h3, h4 i (by omega)⟩

set_option maxRecDepth 100000 in
theorem open_ins {H : Type} {enc : TypeId × Value → H} {W : World} {base b0 : Nat} {r : Reach} {spare : Nat → Bool} {held : Bool} {v : Value} {d : DataW H} {ps : List MemPlace} (hval : Value.okWide Tryd.prog W r b0 69 v)
    (h : DataW.Trod enc Tryd.prog W base spare held 69 v d ps) : ∃ xs A n c, v = .slice A n c ∧ Ins W (.slice A n c) xs := by
  obtain ⟨fuel, hf⟩ := h
  obtain ⟨A, n, c, rfl⟩ := okWide_slice Tryd.underlying69 hval
  rcases open_ints Tryd.underlying69 Tryd.underlying3 (by kernel_rfl) hf with ⟨hc, _⟩ | ⟨a, len, cap, zs, hc, _, h1, h2, h3, _, h4, h5⟩
  · simp only [Value.cells, List.cons.injEq, Value.slice.injEq, and_true] at hc
    obtain ⟨rfl, rfl, rfl⟩ := hc
    exact ⟨[], none, 0, 0, rfl, Ins.nil⟩
  · simp only [Value.cells, List.cons.injEq, Value.slice.injEq, and_true] at hc
    obtain ⟨rfl, rfl, rfl⟩ := hc
    have hzl : n ≤ zs.length := by rw [h3]; split <;> omega
    have hl : (zs.take n).length = n := by rw [List.length_take]; omega
    refine ⟨zs.take n, some a, n, c, rfl, ⟨some a, c, by rw [hl]⟩, fun hne => ?_⟩
    have hn : 0 < n := by
      cases n with
      | zero => exact absurd rfl hne
      | succ => omega
    obtain ⟨b, off, sp⟩ := a
    have h0 := h4 0 (by omega)
    obtain rfl := spot_none h0
    refine ⟨b, off, c, by rw [hl], by rw [hl]; exact h1, h2, World.block_lt_of_cell? W _ h0, fun i hi => ?_⟩
    rw [hl] at hi
    have := h4 i (by omega)
    rw [add_none] at this
    rw [this]
    simp [List.getD_eq_getElem?_getD, hi]
end Go.Proofs.YtdedphhohiioiaaDoor
/- KeysMany: what the law does. -/
namespace Go.Proofs.YtdedphhohiioiaaDoor
open Go.RowKit Go.Shelf

set_option maxHeartbeats 16000000 in
set_option maxRecDepth 100000 in
theorem keysMany_any (x m : List Int) (hl : x.length = 16) (hx : u8s_ok x) (hlm : m.length = 16) (hm : u8s_ok m) (xs : List Int) (A0 : Option Addr) (n c0 : Nat) (al : List Addr) (w : World) (hxs : Ins w (.slice A0 n c0) xs) (S : SenN w al) (hk : w.rangeAt 18 0 (u32s kk)) (h18 : 18 < w.heap.size) :
    Calls Tryd.prog 24 #[.agg (u8s x).toArray, .agg (u8s m).toArray, .slice A0 n c0] w fun e w' => e = .returned (.bool true) ∧ Below w.heap.size w w' := by
  have hi43 : ∀ V : List Int, V.length = 16 → (Tryd.prog.info? 43).map (·.size) = some (u8s V).length := fun V h => by rw [u8s_len', h]; exact Tryd.size43
  have b0 : Below w.heap.size w ((w.alloc (.cells (u8s x).toArray 43)).alloc (.cells (u8s m).toArray 43)) := ((Below.refl _ _).alloc (Nat.le_refl _) _).alloc (by simp) _
  have x0 : ((w.alloc (.cells (u8s x).toArray 43)).alloc (.cells (u8s m).toArray 43)).rangeAt w.heap.size 0 (u8s x) := World.rangeAt_alloc (range_new w (u8s x) 43) _
  have m0 : ((w.alloc (.cells (u8s x).toArray 43)).alloc (.cells (u8s m).toArray 43)).rangeAt (w.heap.size + 1) 0 (u8s m) := by
    have := range_new (w.alloc (.cells (u8s x).toArray 43)) (u8s m) 43
    rwa [World.size_alloc] at this
  have B0 := Lib.hid b0
  have XR0 := Lib.hid x0
  have MR0 := Lib.hid m0
  have S0 := Lib.hid (S.below b0)
  have DI_0 := Lib.hid (hxs.below b0)
  have HK := Lib.hid hk
  have HX := Lib.hid hx
  have HL := Lib.hid hl
  have HM := Lib.hid hm
  have HLM := Lib.hid hlm
  clear b0 x0 m0 S hk hx hl hm hlm hxs
  go_enter Tryd.func24, Tryd.ntmps24
  go_wp2_with fail
  change Calls _ _ _ ((w.alloc (.cells (u8s x).toArray 43)).alloc (.cells (u8s m).toArray 43)) _
  generalize ((w.alloc (.cells (u8s x).toArray 43)).alloc (.cells (u8s m).toArray 43)) = W0 at *
  refine (alive_keys al W0 S0.out (range_below HK.out B0.out) (Nat.lt_of_lt_of_le h18 B0.out.size)).mono ?_
  rintro e w1 ⟨rfl, hb1⟩
  have B1 := Lib.hid (B0.out.trans (hb1.mono B0.out.size))
  have XR1 := Lib.hid (range_below XR0.out hb1)
  have MR1 := Lib.hid (range_below MR0.out hb1)
  have S1 := Lib.hid (S0.out.below hb1)
  have DI_1 := Lib.hid (DI_0.out.below hb1)
  clear hb1
  by_cases h12 : 12 < n
  · have h12' : (12 : Int) < n := by omega
    go_wp2_with fail
    go_ret
    exact ⟨rfl, B1.out⟩
  have h12' : ¬ (12 : Int) < n := by omega
  go_wp2_with (refine wpList_load_g rfl 43 (.tmp 3) rfl w.heap.size 0 rfl (u8s x) _ XR1.out Tryd.underlying43 rfl (hi43 x HL.out) ?_)
  refine (keyNew_any x HL.out HX.out w1 (range_below HK.out B1.out) (Nat.lt_of_lt_of_le h18 B1.out.size)).mono ?_
  rintro e w2 ⟨q, A, c, rfl, hq, key, hb2⟩
  have B2 := Lib.hid (B1.out.trans (hb2.mono B1.out.size))
  have MR2 := Lib.hid (range_below MR1.out hb2)
  have S2 := Lib.hid (S1.out.below hb2)
  have DI_2 := Lib.hid (DI_1.out.below hb2)
  have K_2 := Lib.hid key
  clear hb2 key hq
  obtain ⟨RT, hRT⟩ : ∃ d, d = rootT (lvT x 32) := ⟨_, rfl⟩
  have hgr := rootT_good (lvT x 32) (lvT_len x 32) (lvT_good x 32)
  rw [← hRT] at hgr
  have HRT := Lib.hid hRT
  have RTL := Lib.hid hgr.1
  clear hgr hRT
  go_wp2_with fail
  go_loopw [22] (fun q' wr => ∃ (j : Nat), j ≤ n ∧ q' = .int .i64 j ∧ Hid (Below w2.heap.size w2 wr))
    (fun q' _ => n - (intOf q').toNat)
  case atStart => exact ⟨0, by omega, rfl, Lib.hid (Below.refl _ _)⟩
  case round =>
    obtain ⟨j, hj, rfl, hbel⟩ := hrel
    obtain ⟨wo, rfl⟩ : ∃ wo : World, wo = wr := ⟨_, rfl⟩
    by_cases hlt : j < n
    · have hjl : (j : Int) < n := by omega
      obtain ⟨bI, oI, rfl, _, hcI⟩ := (DI_2.out.below hbel.out).el j hlt
      obtain ⟨z0, hz0⟩ : ∃ z, z = xs.getD j 0 := ⟨_, rfl⟩
      rw [← hz0] at hcI
      clear hz0
      obtain ⟨u, hu⟩ : ∃ u, IntKind.u64.wrap z0 = u := ⟨_, rfl⟩
      have hu0 : 0 ≤ u ∧ u < 18446744073709551616 := by rw [← hu, IntKind.wrap_u64]; omega
      obtain ⟨hu1, hu2⟩ := hu0
      obtain ⟨i, hui⟩ : ∃ i : Nat, u % 32 = i := ⟨(u % 32).toNat, by omega⟩
      have hi32 : i < 32 := by omega
      have Br := Lib.hid (B2.out.trans (hbel.out.mono B2.out.size))
      have MRr := Lib.hid (range_below MR2.out hbel.out)
      have Sr := Lib.hid (S2.out.below hbel.out)
      have K_r := Lib.hid (K_2.out.below hbel.out)
      have L_r := Lib.hid hbel.out
      clear hbel
      go_wp2_with (refine wpList_load_g rfl 43 (.tmp 4) rfl (w.heap.size + 1) 0 rfl (u8s m) _ MRr.out Tryd.underlying43 rfl (hi43 m HLM.out) ?_)
      refine (ksign_ok q x HL.out HX.out A c i hi32 m HLM.out HM.out wo K_r.out (range_below HK.out Br.out) (Nat.lt_of_lt_of_le h18 Br.out.size)).mono ?_
      rintro e w3 ⟨v, u', rfl, ho3, hp3, hb3⟩
      have DS_3 := Lib.hid (sig_dgs ho3)
      have DW_3 := Lib.hid (way_dgs hi32 (lvT_len x 32) (lvT_good x 32) hp3)
      obtain ⟨A4, c4, rfl⟩ := own_form ho3
      obtain ⟨A5, c5, rfl⟩ := own_form hp3
      have B3 := Lib.hid (Br.out.trans (hb3.mono Br.out.size))
      have MR3 := Lib.hid (range_below MRr.out hb3)
      have S3 := Lib.hid (Sr.out.below hb3)
      have K_3 := Lib.hid (K_r.out.below hb3)
      have L_3 := Lib.hid (L_r.out.trans (hb3.mono L_r.out.size))
      clear hb3 ho3 hp3 hcI
      go_wp2_with (refine wpList_store_row rfl 88 (.tmp 10) (.tmp 34) rfl w3.heap.size rfl [Value.int .i64 (i : Int), .slice A4 68 c4, .slice A5 5 c5] rfl 88 (has_new w3 _ _ _ rfl) Tryd.size88' (one_sig _ _ _ _ _ _ _) ?_; intro w4 hp4; have L4 : Below w3.heap.size w3 w4 := (hp4.below ((Below.refl _ _).alloc (Nat.le_refl _) _) (Nat.le_refl _)); have T4 := Lib.hid hp4.blk; have B4 := Lib.hid (B3.out.trans (L4.mono B3.out.size)); have MR4 := Lib.hid (range_below MR3.out L4); have S4 := Lib.hid (S3.out.below L4); have K_4 := Lib.hid (K_3.out.below L4); have L_4 := Lib.hid (L_3.out.trans (L4.mono L_3.out.size)); have DS_4 := Lib.hid (DS_3.out.below L4); have DW_4 := Lib.hid (DW_3.out.below L4); have TS_4 := Lib.hid hp4.blk; clear hp4 L4)
      have RS4 := Lib.hid (blk_range (xs := [Value.int .i64 (i : Int), .slice A4 68 c4, .slice A5 5 c5]) TS_4.out)
      obtain ⟨aR, haR⟩ := sen_at S4.out 0 (by omega)
      obtain ⟨aF, haF⟩ := sen_at S4.out 3 (by omega)
      have CR := Lib.hid (S4.out.cell 0 1 aR rfl haR)
      have CF := Lib.hid (S4.out.cell 3 0 aF rfl haF)
      have HU := Lib.hid hu
      have HUI := Lib.hid hui
      clear haR haF hui
      go_wp2_with fail
      refine wp_region_rely2 (by kernel_rfl) 19 (by kernel_rfl) (by kernel_rfl) Ext Ext.refl Ext.trans (fun ix => match ix with
        | 0 => fun _ v => v = .nilIface
        | 1 => fun _ v => v = .bool false
        | 2 => fun _ v => v = .bool false
        | 3 => fun _ v => v = .pointer (some ⟨w3.heap.size, 0, none⟩)
        | 4 => fun _ v => v = .int .i64 (i : Int)
        | 5 => fun _ v => v = .int .i64 z0
        | 6 => fun _ v => v = .int .u64 u
        | 7 => fun _ v => v = .int .u64 (i : Int)
        | 8 => fun _ v => v = .int .i64 (i : Int)
        | 9 => fun _ v => v = .bool false
        | 10 => fun _ v => v = .bool false
        | 11 => fun _ v => v = .bool false
        | 12 => fun _ v => v = .pointer (some ⟨q, 0, none⟩)
        | 13 => fun _ v => v = .agg (u8s RT).toArray
        | 14 => fun _ v => v = .agg (u8s m).toArray
        | 15 => fun _ v => v = sigV (i : Int) (.slice A4 68 c4) (.slice A5 5 c5)
        | 16 => fun _ v => v = .bool true
        | 17 => fun _ v => v = .bool false
        | 18 => fun _ v => v = .bool false
        | _ => fun _ _ => False) ?_
      simp (maxSteps := 10000000) only [Rely, List.take_succ_cons, List.take_zero, List.drop_succ_cons, List.drop_zero, Nat.reduceAdd, Nat.zero_add, Act.put, List.setIfInBounds_toArray, List.set_cons_succ, List.set_cons_zero]
      refine ⟨?_, ?_, ?_, ?_, ?_, ?_, ?_, ?_, ?_, ?_, ?_, ?_, ?_, ?_, ?_, ?_, ?_, ?_, ?_, ?_⟩
      · refine step_plain rfl fun vs wq hE hd => ?_
        exact gives_move _ (.nilIface) (.inl rfl) rfl ⟨Ext.refl _, fun _ _ => rfl⟩
      · refine step_plain rfl fun vs wq hE hd => ?_
        exact gives_binOp .neq 57 _ _ _ rfl (.nilIface) (Value.nilIface) (.bool false) (show vs 0 = _ from hd.1) rfl (by go_simp) (by go_simp) ⟨Ext.refl _, fun _ _ => rfl⟩
      · refine step_plain rfl fun vs wq hE hd => ?_
        exact gives_move _ (.bool false) (.inl rfl) (show vs 1 = _ from hd.1) ⟨Ext.refl _, fun _ _ => rfl⟩
      · refine step_guard 2 false 38 rfl rfl (fun _ => rfl) fun vs wq hE hd => ⟨hd.1, ?_⟩
        exact gives_fieldAddr' 88 _ 0 rfl (.pointer (some ⟨w3.heap.size, 0, none⟩)) _ rfl (by go_simp) ⟨Ext.refl _, fun _ _ => rfl⟩
      · refine step_guard 2 false 38 rfl rfl (fun _ => rfl) fun vs wq hE hd => ⟨hd.2.1, ?_⟩
        have hc : wq.cell? ⟨w3.heap.size, 0, none⟩ = some (.int .i64 (i : Int)) := by rw [cell_of_row _ _ _ _ _ _ (blk_below TS_4.out (ext_of_drew hE))]; rfl
        exact gives_loadAt 3 _ rfl (.pointer (some ⟨w3.heap.size, 0, none⟩)) (.int .i64 (i : Int)) (show vs 3 = _ from hd.1) (by go_simp) ⟨Ext.refl _, fun _ _ => rfl⟩
      · refine step_guard 2 false 38 rfl rfl (fun _ => rfl) fun vs wq hE hd => ⟨hd.1, ?_⟩
        exact gives_move _ (.int .i64 z0) (.inl rfl) rfl ⟨Ext.refl _, fun _ _ => rfl⟩
      · refine step_guard 2 false 38 rfl rfl (fun _ => rfl) fun vs wq hE hd => ⟨hd.2.1, ?_⟩
        have hu := HU.out
        exact gives_convert 3 39 _ rfl (.int .i64 z0) (.int .u64 u) (show vs 5 = _ from hd.1) (by go_simp) ⟨Ext.refl _, fun _ _ => rfl⟩
      · refine step_guard 2 false 38 rfl rfl (fun _ => rfl) fun vs wq hE hd => ⟨hd.2.1, ?_⟩
        have ht : u.tmod 32 = (i : Int) := by rw [Int.tmod_eq_emod_of_nonneg hu1]; exact HUI.out
        exact gives_binOp .rem 39 _ _ _ rfl (.int .u64 u) (.int .u64 32) (.int .u64 (i : Int)) (show vs 6 = _ from hd.1) rfl (by go_simp) (by go_simp) ⟨Ext.refl _, fun _ _ => rfl⟩
      · refine step_guard 2 false 38 rfl rfl (fun _ => rfl) fun vs wq hE hd => ⟨hd.2.1, ?_⟩
        have hw : IntKind.i64.wrap (i : Int) = i := by rw [IntKind.wrap_i64]; omega
        exact gives_convert 39 3 _ rfl (.int .u64 (i : Int)) (.int .i64 (i : Int)) (show vs 7 = _ from hd.1) (by go_simp) ⟨Ext.refl _, fun _ _ => rfl⟩
      · refine step_guard 2 false 38 rfl rfl (fun _ => rfl) fun vs wq hE hd => ⟨hd.2.2.1, ?_⟩
        exact gives_binOp .neq 3 _ _ _ rfl (.int .i64 (i : Int)) (.int .i64 (i : Int)) (.bool false) (show vs 4 = _ from hd.1) (show vs 8 = _ from hd.2.1) (by go_simp) (by go_simp) ⟨Ext.refl _, fun _ _ => rfl⟩
      · refine step_plain rfl fun vs wq hE hd => ?_
        exact gives_pick _ _ _ (.bool false) false rfl (show vs 2 = _ from hd.1) (show vs 9 = _ from hd.2.1) ⟨Ext.refl _, fun _ _ => rfl⟩
      · refine step_plain rfl fun vs wq hE hd => ?_
        exact gives_move _ (.bool false) (.inl rfl) (show vs 10 = _ from hd.1) ⟨Ext.refl _, fun _ _ => rfl⟩
      · refine step_guard 11 false 47 rfl rfl (fun _ => rfl) fun vs wq hE hd => ⟨hd.1, ?_⟩
        exact gives_move _ (.pointer (some ⟨q, 0, none⟩)) (.inl rfl) rfl ⟨Ext.refl _, fun _ _ => rfl⟩
      · refine step_guard 11 false 47 rfl rfl (fun _ => rfl) fun vs wq hE hd => ⟨hd.2.1, ?_⟩
        refine gives_call 63 (enters_of Tryd.func63 (by kernel_rfl) rfl) _ _ rfl rfl [.pointer (some ⟨q, 0, none⟩)] (congrArg (fun a => [a]) (show vs 12 = _ from hd.1)) ?_
        refine (keyRoot_any q x HL.out A c wq (K_4.out.below (ext_of_drew hE))).mono ?_
        rintro _ w'' ⟨rfl, hb⟩
        exact ⟨_, rfl, hb, fun _ _ => by rw [HRT.out]; rfl⟩
      · refine step_guard 11 false 47 rfl rfl (fun _ => rfl) fun vs wq hE hd => ⟨hd.1, ?_⟩
        exact gives_load_row 43 _ rfl (w.heap.size + 1) 0 rfl (u8s m) _ (range_below MR4.out (ext_of_drew hE)) Tryd.underlying43 rfl (hi43 m HLM.out) ⟨Ext.refl _, fun _ _ => rfl⟩
      · refine step_guard 11 false 47 rfl rfl (fun _ => rfl) fun vs wq hE hd => ⟨hd.1, ?_⟩
        exact gives_load_row 88 _ rfl w3.heap.size 0 rfl [Value.int .i64 (i : Int), .slice A4 68 c4, .slice A5 5 c5] _ (range_below RS4.out (ext_of_drew hE)) Tryd.underlying88 rfl Tryd.size88' ⟨Ext.refl _, fun _ _ => rfl⟩
      · refine step_guard 11 false 47 rfl rfl (fun _ => rfl) fun vs wq hE hd => ⟨hd.2.2.2.2.1, ?_⟩
        refine gives_call 69 (enters_of Tryd.func69 (by kernel_rfl) rfl) _ _ rfl rfl [.agg (u8s RT).toArray, .agg (u8s m).toArray, sigV (i : Int) (.slice A4 68 c4) (.slice A5 5 c5)] (congr (congrArg (fun a b => a :: b) (show vs 13 = _ from hd.1)) (congr (congrArg (fun a b => a :: b) (show vs 14 = _ from hd.2.1)) (congrArg (fun a => [a]) (show vs 15 = _ from hd.2.2.1)))) ?_
        have hb5 := B4.out.trans ((ext_of_drew hE).mono B4.out.size)
        refine (verify_any RT m RTL.out HLM.out HM.out i (sigC i x m 68) (wayT (lvT x 32) i 5) A4 A5 68 c4 5 c5 aR aF wq (DS_4.out.below (ext_of_drew hE)) (DW_4.out.below (ext_of_drew hE)) ⟨(sigC_len _ _ _ _).symm, (wayT_len _ _ _).symm⟩ (cell_on (ext_of_drew hE) CR.out) (cell_on (ext_of_drew hE) CF.out) (range_below HK.out hb5) (Nat.lt_of_lt_of_le h18 hb5.size)).mono ?_
        rintro _ w'' ⟨rfl, hb⟩
        exact ⟨_, rfl, hb, fun _ _ => by rw [HRT.out, right_made x m i hi32]; rfl⟩
      · refine step_guard 11 false 47 rfl rfl (fun _ => rfl) fun vs wq hE hd => ⟨hd.2.1, ?_⟩
        exact gives_unOp .not 4 _ rfl (.bool true) (.bool false) (show vs 16 = _ from hd.1) (by go_simp) ⟨Ext.refl _, fun _ _ => rfl⟩
      · refine step_plain rfl fun vs wq hE hd => ?_
        exact gives_pick _ _ _ (.bool false) false rfl (show vs 11 = _ from hd.1) (show vs 17 = _ from hd.2.1) ⟨Ext.refl _, fun _ _ => rfl⟩
      · intro vs wq hE hR
        have h18' : vs 18 = .bool false := hR 18 (by omega)
        rw [h18']
        have B5 := Lib.hid (B4.out.trans ((ext_of_drew hE).mono B4.out.size))
        have MR5 := Lib.hid (range_below MR4.out (ext_of_drew hE))
        have K_5 := Lib.hid (K_4.out.below (ext_of_drew hE))
        have L_5 := Lib.hid (L_4.out.trans ((ext_of_drew hE).mono L_4.out.size))
        have DS_5 := Lib.hid (DS_4.out.below (ext_of_drew hE))
        have DW_5 := Lib.hid (DW_4.out.below (ext_of_drew hE))
        have TS_5 := Lib.hid (blk_below TS_4.out (ext_of_drew hE))
        have CR5 := Lib.hid (cell_on (ext_of_drew hE) CR.out)
        have CF5 := Lib.hid (cell_on (ext_of_drew hE) CF.out)
        have RS5 := Lib.hid (blk_range (xs := [Value.int .i64 (i : Int), .slice A4 68 c4, .slice A5 5 c5]) TS_5.out)
        clear hR hE h18' RS4 CR CF TS_4
        obtain ⟨k, hk'⟩ : ∃ k : Nat, ((i : Int) + 1) % 32 = k := ⟨(i + 1) % 32, by omega⟩
        have hk32 : k < 32 := by omega
        have hki : ¬ i = k := by omega
        have HKI := Lib.hid hki
        clear hki
        have hcz : wq.cell? ⟨w3.heap.size, 0, none⟩ = some (.int .i64 (i : Int)) := by rw [cell_of_row _ _ _ _ _ _ TS_5.out]; rfl
        go_wp2_with (first | (refine wpList_load_g rfl 88 (.tmp 10) rfl w3.heap.size 0 rfl [Value.int .i64 (i : Int), .slice A4 68 c4, .slice A5 5 c5] _ RS5.out Tryd.underlying88 rfl Tryd.size88' ?_) | (refine wpList_store_row rfl 88 (.tmp 12) (.tmp 55) rfl wq.heap.size rfl [Value.int .i64 (i : Int), .slice A4 68 c4, .slice A5 5 c5] rfl 88 (has_new wq _ _ _ rfl) Tryd.size88' (one_sig _ _ _ _ _ _ _) ?_; intro w6 hp6; have L6 : Below wq.heap.size wq w6 := (hp6.below ((Below.refl _ _).alloc (Nat.le_refl _) _) (Nat.le_refl _)); have T6 := Lib.hid hp6.blk; have B6 := Lib.hid (B5.out.trans (L6.mono B5.out.size)); have MR6 := Lib.hid (range_below MR5.out L6); have K_6 := Lib.hid (K_5.out.below L6); have L_6 := Lib.hid (L_5.out.trans (L6.mono L_5.out.size)); have DS_6 := Lib.hid (DS_5.out.below L6); have DW_6 := Lib.hid (DW_5.out.below L6); have TS_6 := Lib.hid (blk_below TS_5.out L6); have TT_6 := Lib.hid hp6.blk; have LQ6 := Lib.hid L6; have CR6 := Lib.hid (cell_on L6 CR5.out); have CF6 := Lib.hid (cell_on L6 CF5.out); have Z6 := Lib.hid (show wq.heap.size ≤ w6.heap.size by rw [hp6.size]; simp); have hcz6 : w6.cell? ⟨w3.heap.size, 0, none⟩ = some (.int .i64 (i : Int)) := (by rw [cell_of_row _ _ _ _ _ _ TS_6.out]; rfl); have hcy6 : w6.cell? ⟨wq.heap.size, 0, none⟩ = some (.int .i64 (i : Int)) := (by rw [cell_of_row _ _ _ _ _ _ TT_6.out]; rfl); have hfy6 : w6.frozen? ⟨wq.heap.size, 0, none⟩ = false := blk_free TT_6.out 0; clear hp6 L6))
        obtain ⟨w7, hw7⟩ : ∃ y, y = w6.setCell ⟨wq.heap.size, 0, none⟩ (.int .i64 (k : Int)) := ⟨_, rfl⟩
        have tt7 : w7.heap[wq.heap.size]? = some (.cells ([Value.int .i64 (k : Int), .slice A4 68 c4, .slice A5 5 c5] : List Value).toArray 88 (0, 0)) := by rw [hw7, heap_setCell_same w6 wq.heap.size 0 _ 88 _ TT_6.out]; simp
        have LQ : Below wq.heap.size wq w7 := by rw [hw7]; exact LQ6.out.setCell (p := ⟨wq.heap.size, 0, none⟩) (Nat.le_refl _) _
        rw [← hw7]
        have B7 := Lib.hid (B5.out.trans (LQ.mono B5.out.size))
        have MR7 := Lib.hid (range_below MR5.out LQ)
        have K_7 := Lib.hid (K_5.out.below LQ)
        have L_7 := Lib.hid (L_5.out.trans (LQ.mono L_5.out.size))
        have DS_7 := Lib.hid (DS_5.out.below LQ)
        have DW_7 := Lib.hid (DW_5.out.below LQ)
        have TS_7 := Lib.hid (blk_below TS_5.out LQ)
        have CR7 := Lib.hid (cell_on LQ CR5.out)
        have CF7 := Lib.hid (cell_on LQ CF5.out)
        have TT_7 := Lib.hid tt7
        have RS7 := Lib.hid (blk_range (xs := [Value.int .i64 (i : Int), .slice A4 68 c4, .slice A5 5 c5]) TS_7.out)
        have RO7 := Lib.hid (blk_range (xs := [Value.int .i64 (k : Int), .slice A4 68 c4, .slice A5 5 c5]) tt7)
        clear hw7 tt7 LQ hcz hcz6 hcy6 hfy6
        obtain ⟨rb, hrb⟩ : ∃ rb, rb = rightC RT m k (sigC i x m 68) (wayT (lvT x 32) i 5) := ⟨_, rfl⟩
        have HRB := Lib.hid hrb
        clear hrb
        cases rb
        · skip
          refine wp_region_rely2 (by kernel_rfl) 18 (by kernel_rfl) (by kernel_rfl) Ext Ext.refl Ext.trans (fun ix => match ix with
            | 0 => fun _ v => v = .pointer (some ⟨q, 0, none⟩)
            | 1 => fun _ v => v = .agg (u8s RT).toArray
            | 2 => fun _ v => v = .agg (u8s m).toArray
            | 3 => fun _ v => v = sigV (k : Int) (.slice A4 68 c4) (.slice A5 5 c5)
            | 4 => fun _ v => v = .bool false
            | 5 => fun _ v => v = .bool false
            | 6 => fun _ v => v = undef
            | 7 => fun _ v => v = undef
            | 8 => fun _ v => v = undef
            | 9 => fun _ v => v = undef
            | 10 => fun _ v => v = undef
            | 11 => fun _ v => v = undef
            | 12 => fun _ v => v = .bool false
            | 13 => fun _ v => v = .bool false
            | 14 => fun _ v => v = sigV (i : Int) (.slice A4 68 c4) (.slice A5 5 c5)
            | 15 => fun _ v => v = sigV (k : Int) (.slice A4 68 c4) (.slice A5 5 c5)
            | 16 => fun _ v => v = .bool false
            | 17 => fun _ v => v = .bool false
            | _ => fun _ _ => False) ?_
          simp (maxSteps := 10000000) only [Rely, List.take_succ_cons, List.take_zero, List.drop_succ_cons, List.drop_zero, Nat.reduceAdd, Nat.zero_add, Act.put, List.setIfInBounds_toArray, List.set_cons_succ, List.set_cons_zero]
          refine ⟨?_, ?_, ?_, ?_, ?_, ?_, ?_, ?_, ?_, ?_, ?_, ?_, ?_, ?_, ?_, ?_, ?_, ?_, ?_⟩
          · refine step_plain rfl fun vs wz hE hd => ?_
            exact gives_move _ (.pointer (some ⟨q, 0, none⟩)) (.inl rfl) rfl ⟨Ext.refl _, fun _ _ => rfl⟩
          · refine step_plain rfl fun vs wz hE hd => ?_
            refine gives_call 63 (enters_of Tryd.func63 (by kernel_rfl) rfl) _ _ rfl rfl [.pointer (some ⟨q, 0, none⟩)] (congrArg (fun a => [a]) (show vs 0 = _ from hd.1)) ?_
            refine (keyRoot_any q x HL.out A c wz (K_7.out.below (ext_of_drew hE))).mono ?_
            rintro _ w'' ⟨rfl, hb⟩
            exact ⟨_, rfl, hb, fun _ _ => by rw [HRT.out]; rfl⟩
          · refine step_plain rfl fun vs wz hE hd => ?_
            exact gives_load_row 43 _ rfl (w.heap.size + 1) 0 rfl (u8s m) _ (range_below MR7.out (ext_of_drew hE)) Tryd.underlying43 rfl (hi43 m HLM.out) ⟨Ext.refl _, fun _ _ => rfl⟩
          · refine step_plain rfl fun vs wz hE hd => ?_
            exact gives_load_row 88 _ rfl wq.heap.size 0 rfl [Value.int .i64 (k : Int), .slice A4 68 c4, .slice A5 5 c5] _ (range_below RO7.out (ext_of_drew hE)) Tryd.underlying88 rfl Tryd.size88' ⟨Ext.refl _, fun _ _ => rfl⟩
          · refine step_plain rfl fun vs wz hE hd => ?_
            refine gives_call 69 (enters_of Tryd.func69 (by kernel_rfl) rfl) _ _ rfl rfl [.agg (u8s RT).toArray, .agg (u8s m).toArray, sigV (k : Int) (.slice A4 68 c4) (.slice A5 5 c5)] (congr (congrArg (fun a b => a :: b) (show vs 1 = _ from hd.1)) (congr (congrArg (fun a b => a :: b) (show vs 2 = _ from hd.2.1)) (congrArg (fun a => [a]) (show vs 3 = _ from hd.2.2.1)))) ?_
            have hb5 := B7.out.trans ((ext_of_drew hE).mono B7.out.size)
            refine (verify_any RT m RTL.out HLM.out HM.out k (sigC i x m 68) (wayT (lvT x 32) i 5) A4 A5 68 c4 5 c5 aR aF wz (DS_7.out.below (ext_of_drew hE)) (DW_7.out.below (ext_of_drew hE)) ⟨(sigC_len _ _ _ _).symm, (wayT_len _ _ _).symm⟩ (cell_on (ext_of_drew hE) CR7.out) (cell_on (ext_of_drew hE) CF7.out) (range_below HK.out hb5) (Nat.lt_of_lt_of_le h18 hb5.size)).mono ?_
            rintro _ w'' ⟨rfl, hb⟩
            exact ⟨_, rfl, hb, fun _ _ => by rw [HRB.out]; rfl⟩
          · refine step_plain rfl fun vs wz hE hd => ?_
            exact gives_move _ (.bool false) (.inl rfl) (show vs 4 = _ from hd.1) ⟨Ext.refl _, fun _ _ => rfl⟩
          · refine step_skip 5 true 66 rfl rfl (fun _ => rfl) fun vs wz hE hd => ⟨.inl hd.1, fun _ => rfl⟩
          · refine step_skip 5 true 66 rfl rfl (fun _ => rfl) fun vs wz hE hd => ⟨.inl hd.2.1, fun _ => rfl⟩
          · refine step_skip 5 true 66 rfl rfl (fun _ => rfl) fun vs wz hE hd => ⟨.inl hd.1, fun _ => rfl⟩
          · refine step_skip 5 true 66 rfl rfl (fun _ => rfl) fun vs wz hE hd => ⟨.inl hd.1, fun _ => rfl⟩
          · refine step_skip 5 true 66 rfl rfl (fun _ => rfl) fun vs wz hE hd => ⟨.inl hd.2.2.2.2.1, fun _ => rfl⟩
          · refine step_skip 5 true 66 rfl rfl (fun _ => rfl) fun vs wz hE hd => ⟨.inl hd.2.1, fun _ => rfl⟩
          · refine step_plain rfl fun vs wz hE hd => ?_
            exact gives_pick _ _ _ (.bool false) false rfl (show vs 5 = _ from hd.1) rfl ⟨Ext.refl _, fun _ _ => rfl⟩
          · refine step_plain rfl fun vs wz hE hd => ?_
            exact gives_move _ (.bool false) (.inl rfl) (show vs 12 = _ from hd.1) ⟨Ext.refl _, fun _ _ => rfl⟩
          · refine step_guard 13 false 74 rfl rfl (fun _ => rfl) fun vs wz hE hd => ⟨hd.1, ?_⟩
            exact gives_load_row 88 _ rfl w3.heap.size 0 rfl [Value.int .i64 (i : Int), .slice A4 68 c4, .slice A5 5 c5] _ (range_below RS7.out (ext_of_drew hE)) Tryd.underlying88 rfl Tryd.size88' ⟨Ext.refl _, fun _ _ => rfl⟩
          · refine step_guard 13 false 74 rfl rfl (fun _ => rfl) fun vs wz hE hd => ⟨hd.1, ?_⟩
            exact gives_load_row 88 _ rfl wq.heap.size 0 rfl [Value.int .i64 (k : Int), .slice A4 68 c4, .slice A5 5 c5] _ (range_below RO7.out (ext_of_drew hE)) Tryd.underlying88 rfl Tryd.size88' ⟨Ext.refl _, fun _ _ => rfl⟩
          · refine step_guard 13 false 74 rfl rfl (fun _ => rfl) fun vs wz hE hd => ⟨hd.2.2.1, ?_⟩
            refine gives_call 64 (enters_of Tryd.func64 (by kernel_rfl) rfl) _ _ rfl rfl [sigV (i : Int) (.slice A4 68 c4) (.slice A5 5 c5), sigV (k : Int) (.slice A4 68 c4) (.slice A5 5 c5)] (congr (congrArg (fun a b => a :: b) (show vs 14 = _ from hd.1)) (congrArg (fun a => [a]) (show vs 15 = _ from hd.2.1))) ?_
            refine (ksame_any i k (sigC i x m 68) (sigC i x m 68) (wayT (lvT x 32) i 5) (wayT (lvT x 32) i 5) A4 A4 A5 A5 68 68 c4 c4 5 5 c5 c5 wz (DS_7.out.below (ext_of_drew hE)) (DS_7.out.below (ext_of_drew hE)) (DW_7.out.below (ext_of_drew hE)) (DW_7.out.below (ext_of_drew hE)) ⟨(sigC_len _ _ _ _).symm, (sigC_len _ _ _ _).symm, (wayT_len _ _ _).symm, (wayT_len _ _ _).symm⟩ (by omega) (by omega)).mono ?_
            rintro _ w'' ⟨rfl, hb⟩
            exact ⟨_, rfl, hb, fun _ _ => by rw [decide_eq_false fun h => HKI.out (by have := h.1; omega)]; rfl⟩
          · refine step_plain rfl fun vs wz hE hd => ?_
            exact gives_pick _ _ _ (.bool false) false rfl (show vs 13 = _ from hd.1) (show vs 16 = _ from hd.2.1) ⟨Ext.refl _, fun _ _ => rfl⟩
          · intro vs wz hE hR
            have h17 : vs 17 = .bool false := hR 17 (by omega)
            rw [h17]
            have LZ := Lib.hid (L_7.out.trans ((ext_of_drew hE).mono L_7.out.size))
            clear hR hE h17
            go_wp2_with fail
            go_roundw
            case rel => exact ⟨j + 1, by omega, by go_num, LZ⟩
            case measure => simp [intOf]; omega
        · skip
          refine wp_region_rely2 (by kernel_rfl) 18 (by kernel_rfl) (by kernel_rfl) Ext Ext.refl Ext.trans (fun ix => match ix with
            | 0 => fun _ v => v = .pointer (some ⟨q, 0, none⟩)
            | 1 => fun _ v => v = .agg (u8s RT).toArray
            | 2 => fun _ v => v = .agg (u8s m).toArray
            | 3 => fun _ v => v = sigV (k : Int) (.slice A4 68 c4) (.slice A5 5 c5)
            | 4 => fun _ v => v = .bool true
            | 5 => fun _ v => v = .bool true
            | 6 => fun _ v => v = .pointer (some ⟨q, 0, none⟩)
            | 7 => fun _ v => v = .agg (u8s RT).toArray
            | 8 => fun _ v => v = .agg (u8s m).toArray
            | 9 => fun _ v => v = sigV (k : Int) (.slice A4 68 c4) (.slice A5 5 c5)
            | 10 => fun _ v => v = .bool true
            | 11 => fun _ v => v = .bool false
            | 12 => fun _ v => v = .bool false
            | 13 => fun _ v => v = .bool false
            | 14 => fun _ v => v = sigV (i : Int) (.slice A4 68 c4) (.slice A5 5 c5)
            | 15 => fun _ v => v = sigV (k : Int) (.slice A4 68 c4) (.slice A5 5 c5)
            | 16 => fun _ v => v = .bool false
            | 17 => fun _ v => v = .bool false
            | _ => fun _ _ => False) ?_
          simp (maxSteps := 10000000) only [Rely, List.take_succ_cons, List.take_zero, List.drop_succ_cons, List.drop_zero, Nat.reduceAdd, Nat.zero_add, Act.put, List.setIfInBounds_toArray, List.set_cons_succ, List.set_cons_zero]
          refine ⟨?_, ?_, ?_, ?_, ?_, ?_, ?_, ?_, ?_, ?_, ?_, ?_, ?_, ?_, ?_, ?_, ?_, ?_, ?_⟩
          · refine step_plain rfl fun vs wz hE hd => ?_
            exact gives_move _ (.pointer (some ⟨q, 0, none⟩)) (.inl rfl) rfl ⟨Ext.refl _, fun _ _ => rfl⟩
          · refine step_plain rfl fun vs wz hE hd => ?_
            refine gives_call 63 (enters_of Tryd.func63 (by kernel_rfl) rfl) _ _ rfl rfl [.pointer (some ⟨q, 0, none⟩)] (congrArg (fun a => [a]) (show vs 0 = _ from hd.1)) ?_
            refine (keyRoot_any q x HL.out A c wz (K_7.out.below (ext_of_drew hE))).mono ?_
            rintro _ w'' ⟨rfl, hb⟩
            exact ⟨_, rfl, hb, fun _ _ => by rw [HRT.out]; rfl⟩
          · refine step_plain rfl fun vs wz hE hd => ?_
            exact gives_load_row 43 _ rfl (w.heap.size + 1) 0 rfl (u8s m) _ (range_below MR7.out (ext_of_drew hE)) Tryd.underlying43 rfl (hi43 m HLM.out) ⟨Ext.refl _, fun _ _ => rfl⟩
          · refine step_plain rfl fun vs wz hE hd => ?_
            exact gives_load_row 88 _ rfl wq.heap.size 0 rfl [Value.int .i64 (k : Int), .slice A4 68 c4, .slice A5 5 c5] _ (range_below RO7.out (ext_of_drew hE)) Tryd.underlying88 rfl Tryd.size88' ⟨Ext.refl _, fun _ _ => rfl⟩
          · refine step_plain rfl fun vs wz hE hd => ?_
            refine gives_call 69 (enters_of Tryd.func69 (by kernel_rfl) rfl) _ _ rfl rfl [.agg (u8s RT).toArray, .agg (u8s m).toArray, sigV (k : Int) (.slice A4 68 c4) (.slice A5 5 c5)] (congr (congrArg (fun a b => a :: b) (show vs 1 = _ from hd.1)) (congr (congrArg (fun a b => a :: b) (show vs 2 = _ from hd.2.1)) (congrArg (fun a => [a]) (show vs 3 = _ from hd.2.2.1)))) ?_
            have hb5 := B7.out.trans ((ext_of_drew hE).mono B7.out.size)
            refine (verify_any RT m RTL.out HLM.out HM.out k (sigC i x m 68) (wayT (lvT x 32) i 5) A4 A5 68 c4 5 c5 aR aF wz (DS_7.out.below (ext_of_drew hE)) (DW_7.out.below (ext_of_drew hE)) ⟨(sigC_len _ _ _ _).symm, (wayT_len _ _ _).symm⟩ (cell_on (ext_of_drew hE) CR7.out) (cell_on (ext_of_drew hE) CF7.out) (range_below HK.out hb5) (Nat.lt_of_lt_of_le h18 hb5.size)).mono ?_
            rintro _ w'' ⟨rfl, hb⟩
            exact ⟨_, rfl, hb, fun _ _ => by rw [HRB.out]; rfl⟩
          · refine step_plain rfl fun vs wz hE hd => ?_
            exact gives_move _ (.bool true) (.inl rfl) (show vs 4 = _ from hd.1) ⟨Ext.refl _, fun _ _ => rfl⟩
          · refine step_guard 5 true 66 rfl rfl (fun _ => rfl) fun vs wz hE hd => ⟨hd.1, ?_⟩
            exact gives_move _ (.pointer (some ⟨q, 0, none⟩)) (.inl rfl) rfl ⟨Ext.refl _, fun _ _ => rfl⟩
          · refine step_guard 5 true 66 rfl rfl (fun _ => rfl) fun vs wz hE hd => ⟨hd.2.1, ?_⟩
            refine gives_call 63 (enters_of Tryd.func63 (by kernel_rfl) rfl) _ _ rfl rfl [.pointer (some ⟨q, 0, none⟩)] (congrArg (fun a => [a]) (show vs 6 = _ from hd.1)) ?_
            refine (keyRoot_any q x HL.out A c wz (K_7.out.below (ext_of_drew hE))).mono ?_
            rintro _ w'' ⟨rfl, hb⟩
            exact ⟨_, rfl, hb, fun _ _ => by rw [HRT.out]; rfl⟩
          · refine step_guard 5 true 66 rfl rfl (fun _ => rfl) fun vs wz hE hd => ⟨hd.1, ?_⟩
            exact gives_load_row 43 _ rfl (w.heap.size + 1) 0 rfl (u8s m) _ (range_below MR7.out (ext_of_drew hE)) Tryd.underlying43 rfl (hi43 m HLM.out) ⟨Ext.refl _, fun _ _ => rfl⟩
          · refine step_guard 5 true 66 rfl rfl (fun _ => rfl) fun vs wz hE hd => ⟨hd.1, ?_⟩
            exact gives_load_row 88 _ rfl wq.heap.size 0 rfl [Value.int .i64 (k : Int), .slice A4 68 c4, .slice A5 5 c5] _ (range_below RO7.out (ext_of_drew hE)) Tryd.underlying88 rfl Tryd.size88' ⟨Ext.refl _, fun _ _ => rfl⟩
          · refine step_guard 5 true 66 rfl rfl (fun _ => rfl) fun vs wz hE hd => ⟨hd.2.2.2.2.1, ?_⟩
            refine gives_call 70 (enters_of Tryd.func70 (by kernel_rfl) rfl) _ _ rfl rfl [.agg (u8s RT).toArray, .agg (u8s m).toArray, sigV (k : Int) (.slice A4 68 c4) (.slice A5 5 c5)] (congr (congrArg (fun a b => a :: b) (show vs 7 = _ from hd.1)) (congr (congrArg (fun a b => a :: b) (show vs 8 = _ from hd.2.1)) (congrArg (fun a => [a]) (show vs 9 = _ from hd.2.2.1)))) ?_
            have hb5 := B7.out.trans ((ext_of_drew hE).mono B7.out.size)
            refine (refRight_any RT m RTL.out HLM.out HM.out k (sigC i x m 68) (wayT (lvT x 32) i 5) A4 A5 68 c4 5 c5 wz (DS_7.out.below (ext_of_drew hE)) (DW_7.out.below (ext_of_drew hE)) ⟨(sigC_len _ _ _ _).symm, (wayT_len _ _ _).symm⟩).mono ?_
            rintro _ w'' ⟨rfl, hb⟩
            exact ⟨_, rfl, hb, fun _ _ => by rw [HRB.out]; rfl⟩
          · refine step_guard 5 true 66 rfl rfl (fun _ => rfl) fun vs wz hE hd => ⟨hd.2.1, ?_⟩
            exact gives_unOp .not 4 _ rfl (.bool true) (.bool false) (show vs 10 = _ from hd.1) (by go_simp) ⟨Ext.refl _, fun _ _ => rfl⟩
          · refine step_plain rfl fun vs wz hE hd => ?_
            exact gives_pick _ _ _ (.bool false) true rfl (show vs 5 = _ from hd.1) (show vs 11 = _ from hd.2.1) ⟨Ext.refl _, fun _ _ => rfl⟩
          · refine step_plain rfl fun vs wz hE hd => ?_
            exact gives_move _ (.bool false) (.inl rfl) (show vs 12 = _ from hd.1) ⟨Ext.refl _, fun _ _ => rfl⟩
          · refine step_guard 13 false 74 rfl rfl (fun _ => rfl) fun vs wz hE hd => ⟨hd.1, ?_⟩
            exact gives_load_row 88 _ rfl w3.heap.size 0 rfl [Value.int .i64 (i : Int), .slice A4 68 c4, .slice A5 5 c5] _ (range_below RS7.out (ext_of_drew hE)) Tryd.underlying88 rfl Tryd.size88' ⟨Ext.refl _, fun _ _ => rfl⟩
          · refine step_guard 13 false 74 rfl rfl (fun _ => rfl) fun vs wz hE hd => ⟨hd.1, ?_⟩
            exact gives_load_row 88 _ rfl wq.heap.size 0 rfl [Value.int .i64 (k : Int), .slice A4 68 c4, .slice A5 5 c5] _ (range_below RO7.out (ext_of_drew hE)) Tryd.underlying88 rfl Tryd.size88' ⟨Ext.refl _, fun _ _ => rfl⟩
          · refine step_guard 13 false 74 rfl rfl (fun _ => rfl) fun vs wz hE hd => ⟨hd.2.2.1, ?_⟩
            refine gives_call 64 (enters_of Tryd.func64 (by kernel_rfl) rfl) _ _ rfl rfl [sigV (i : Int) (.slice A4 68 c4) (.slice A5 5 c5), sigV (k : Int) (.slice A4 68 c4) (.slice A5 5 c5)] (congr (congrArg (fun a b => a :: b) (show vs 14 = _ from hd.1)) (congrArg (fun a => [a]) (show vs 15 = _ from hd.2.1))) ?_
            refine (ksame_any i k (sigC i x m 68) (sigC i x m 68) (wayT (lvT x 32) i 5) (wayT (lvT x 32) i 5) A4 A4 A5 A5 68 68 c4 c4 5 5 c5 c5 wz (DS_7.out.below (ext_of_drew hE)) (DS_7.out.below (ext_of_drew hE)) (DW_7.out.below (ext_of_drew hE)) (DW_7.out.below (ext_of_drew hE)) ⟨(sigC_len _ _ _ _).symm, (sigC_len _ _ _ _).symm, (wayT_len _ _ _).symm, (wayT_len _ _ _).symm⟩ (by omega) (by omega)).mono ?_
            rintro _ w'' ⟨rfl, hb⟩
            exact ⟨_, rfl, hb, fun _ _ => by rw [decide_eq_false fun h => HKI.out (by have := h.1; omega)]; rfl⟩
          · refine step_plain rfl fun vs wz hE hd => ?_
            exact gives_pick _ _ _ (.bool false) false rfl (show vs 13 = _ from hd.1) (show vs 16 = _ from hd.2.1) ⟨Ext.refl _, fun _ _ => rfl⟩
          · intro vs wz hE hR
            have h17 : vs 17 = .bool false := hR 17 (by omega)
            rw [h17]
            have LZ := Lib.hid (L_7.out.trans ((ext_of_drew hE).mono L_7.out.size))
            clear hR hE h17
            go_wp2_with fail
            go_roundw
            case rel => exact ⟨j + 1, by omega, by go_num, LZ⟩
            case measure => simp [intOf]; omega
    · go_wp2
      go_ret
      exact ⟨rfl, B2.out.trans (hbel.out.mono B2.out.size)⟩
end Go.Proofs.YtdedphhohiioiaaDoor
