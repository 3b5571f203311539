/- Lemmas that laws of this seat rest on, part 24; each says its own conditions: KeysSpoiltW. -/
import Derived.Test.YtdedphhohiioiaaDoorBase23
/- KeysSpoilt: what the law does. -/
namespace Go.Proofs.YtdedphhohiioiaaDoor
open Go.RowKit Go.Shelf

abbrev is (x : Value) : World → Value → Prop := fun _ v => v = x
theorem rfE {w : World} {v : Value} : Ext w w ∧ ∀ w'', Ext w w'' → v = v := ⟨Ext.refl _, fun _ _ => rfl⟩
theorem xd {w w' : World} (h : Ext w.drew w') : Ext w w' := ext_of_drew h
set_option maxHeartbeats 32000000 in
set_option maxRecDepth 100000 in
theorem keysSpoilt_any (x m : List Int) (hl : x.length = 16) (hx : u8s_ok x) (hlm : m.length = 16) (hm : u8s_ok m) (lf at_ by_ : Int) (way : Bool) (hby : 0 ≤ by_ ∧ by_ ≤ 255) (al : List Addr) (w : World) (S : SenN w al) (hk : w.rangeAt 18 0 (u32s kk)) (h18 : 18 < w.heap.size) :
    Calls Tryd.prog 23 #[.agg (spC x m lf at_ by_ way).toArray] w fun e w' => e = .returned (.bool true) ∧ Below w.heap.size w w' := by
  have hi43 : ∀ V : List Int, V.length = 16 → (Tryd.prog.info? 43).map (·.size) = some (u8s V).length := fun V h => by rw [u8s_len', h]; exact Tryd.size43
  have b0 : Below w.heap.size w (w.alloc (.cells (spC x m lf at_ by_ way).toArray 99)) := (Below.refl _ _).alloc (Nat.le_refl _) _
  have t0 : (w.alloc (.cells (spC x m lf at_ by_ way).toArray 99)).heap[w.heap.size]? = some (.cells (spC x m lf at_ by_ way).toArray 99 (0, 0)) := heap_alloc_new w _
  have B0 := Lib.hid b0
  have TX_0 := Lib.hid t0
  have S0 := Lib.hid (S.below b0)
  have HK := Lib.hid hk
  have HX := Lib.hid hx
  have HL := Lib.hid hl
  have HM := Lib.hid hm
  have HLM := Lib.hid hlm
  have HBY := Lib.hid hby
  clear b0 t0 S hk hx hl hm hlm hby
  go_enter Tryd.func23, Tryd.ntmps23
  go_wp2_with fail
  change Calls _ _ _ (w.alloc (.cells (spC x m lf at_ by_ way).toArray 99)) _
  generalize (w.alloc (.cells (spC x m lf at_ by_ way).toArray 99)) = W0 at *
  refine (alive_keys al W0 S0.out (range_below HK.out B0.out) (Nat.lt_of_lt_of_le h18 B0.out.size)).mono ?_
  rintro e w1 ⟨rfl, hb1⟩
  have B1 := Lib.hid (B0.out.trans (hb1.mono B0.out.size))
  have S1 := Lib.hid (S0.out.below hb1)
  have TX_1 := Lib.hid (blk_below TX_0.out hb1)
  clear hb1
  go_wp2_with (refine wpList_load_g rfl 43 (.tmp 9) rfl w.heap.size 0 rfl (u8s x) _ (sp_seed TX_1.out) Tryd.underlying43 rfl (hi43 x HL.out) ?_)
  refine (keyNew_any x HL.out HX.out w1 (range_below HK.out B1.out) (Nat.lt_of_lt_of_le h18 B1.out.size)).mono ?_
  rintro e w2 ⟨q, A, c, rfl, hq, key, hb2⟩
  have B2 := Lib.hid (B1.out.trans (hb2.mono B1.out.size))
  have S2 := Lib.hid (S1.out.below hb2)
  have TX_2 := Lib.hid (blk_below TX_1.out hb2)
  have K_2 := Lib.hid key
  clear hb2 key hq
  obtain ⟨RT, hRT⟩ : ∃ d, d = rootT (lvT x 32) := ⟨_, rfl⟩
  have hgr := rootT_good (lvT x 32) (lvT_len x 32) (lvT_good x 32)
  rw [← hRT] at hgr
  have HRT := Lib.hid hRT
  have RTL := Lib.hid hgr.1
  clear hgr hRT
  obtain ⟨u, hu⟩ : ∃ u, IntKind.u64.wrap lf = u := ⟨_, rfl⟩
  have hu0 : 0 ≤ u ∧ u < 18446744073709551616 := by rw [← hu, IntKind.wrap_u64]; omega
  obtain ⟨hu1, hu2⟩ := hu0
  obtain ⟨i, hui⟩ : ∃ i : Nat, u % 32 = i := ⟨(u % 32).toNat, by omega⟩
  have hi32 : i < 32 := by omega
  have hc32 := (sp_cell HL.out HLM.out TX_2.out).1
  go_wp2_with (refine wpList_load_g rfl 43 (.tmp 19) rfl w.heap.size 16 rfl (u8s m) _ (sp_dig HL.out TX_2.out) Tryd.underlying43 rfl (hi43 m HLM.out) ?_)
  refine (ksign_ok q x HL.out HX.out A c i hi32 m HLM.out HM.out w2 K_2.out (range_below HK.out B2.out) (Nat.lt_of_lt_of_le h18 B2.out.size)).mono ?_
  rintro e w3 ⟨v, u', rfl, ho3, hp3, hb3⟩
  have DS_3 := Lib.hid (sig_dgs ho3)
  have DW_3 := Lib.hid (way_dgs hi32 (lvT_len x 32) (lvT_good x 32) hp3)
  obtain ⟨g, cs, cur, rfl, _, hg2⟩ := own_blk (by omega) ho3
  obtain ⟨g2, ds, cur2, rfl, _, hg4⟩ := own_blk (by omega) hp3
  have HGZ := Lib.hid (show g < w3.heap.size ∧ g2 < w3.heap.size from ⟨blk_lt hg2, blk_lt hg4⟩)
  have B3 := Lib.hid (B2.out.trans (hb3.mono B2.out.size))
  have S3 := Lib.hid (S2.out.below hb3)
  have K_3 := Lib.hid (K_2.out.below hb3)
  have TX_3 := Lib.hid (blk_below TX_2.out hb3)
  clear hb3 ho3 hp3 hg2 hg4 hc32
  go_wp2_with (refine wpList_store_row rfl 88 (.tmp 4) (.tmp 22) rfl w3.heap.size rfl [Value.int .i64 (i : Int), .slice (some ⟨g, 0, none⟩) 68 cs, .slice (some ⟨g2, 0, none⟩) 5 ds] rfl 88 (has_new w3 _ _ _ rfl) Tryd.size88' (one_sig _ _ _ _ _ _ _) ?_; intro w4 hp4; have L4 : Below w3.heap.size w3 w4 := (hp4.below ((Below.refl _ _).alloc (Nat.le_refl _) _) (Nat.le_refl _)); have T4 := Lib.hid hp4.blk; have B4 := Lib.hid (B3.out.trans (L4.mono B3.out.size)); have S4 := Lib.hid (S3.out.below L4); have K_4 := Lib.hid (K_3.out.below L4); have DS_4 := Lib.hid (DS_3.out.below L4); have DW_4 := Lib.hid (DW_3.out.below L4); have TX_4 := Lib.hid (blk_below TX_3.out L4); have TS_4 := Lib.hid hp4.blk; have Z34 := Lib.hid (show w3.heap.size < w4.heap.size by rw [hp4.size]; simp); clear hp4 L4)
  have C0 : Hid (∀ W, Below w4.heap.size w4 W → W.cell? ⟨w3.heap.size, 0, none⟩ = some (.int .i64 (i : Int)) ∧ W.cell? ⟨w3.heap.size, 1, none⟩ = some (.slice (some ⟨g, 0, none⟩) 68 cs) ∧ W.cell? ⟨w3.heap.size, 2, none⟩ = some (.slice (some ⟨g2, 0, none⟩) 5 ds)) := Lib.hid fun W hW => by
    have hs := blk_below TS_4.out hW
    exact ⟨by rw [cell_of_row _ _ _ _ _ _ hs]; rfl, by rw [cell_of_row _ _ _ _ _ _ hs]; rfl, by rw [cell_of_row _ _ _ _ _ _ hs]; rfl⟩
  go_wp2_with fail
  refine wp_region_rely2 (by kernel_rfl) 12 (by kernel_rfl) (by kernel_rfl) Ext Ext.refl Ext.trans (fun ix => match ix with
    | 0 => is (.pointer (some ⟨w3.heap.size, 0, none⟩))
    | 1 => is (.int .i64 (i : Int))
    | 2 => fun _ v => ∃ b, v = .slice (some ⟨b, 0, none⟩) 0 0
    | 3 => is (.pointer (some ⟨w3.heap.size, 1, none⟩))
    | 4 => is (.slice (some ⟨g, 0, none⟩) 68 cs)
    | 5 => fun W v => W.ownsRow w4.heap.size 43 16 v 68 (dcells (sigC i x m 68))
    | 6 => fun _ v => ∃ b, v = .slice (some ⟨b, 0, none⟩) 0 0
    | 7 => is (.pointer (some ⟨w3.heap.size, 2, none⟩))
    | 8 => is (.slice (some ⟨g2, 0, none⟩) 5 ds)
    | 9 => fun W v => W.ownsRow w4.heap.size 43 16 v 5 (dcells (wayT (lvT x 32) i 5))
    | 10 => fun W v => ∃ gc cc gp cp, v = sigV (i : Int) (.slice (some ⟨gc, 0, none⟩) 68 cc) (.slice (some ⟨gp, 0, none⟩) 5 cp) ∧ W.ownsRow w4.heap.size 43 16 (.slice (some ⟨gc, 0, none⟩) 68 cc) 68 (dcells (sigC i x m 68)) ∧ W.ownsRow w4.heap.size 43 16 (.slice (some ⟨gp, 0, none⟩) 5 cp) 5 (dcells (wayT (lvT x 32) i 5))
    | 11 => fun W v => ∃ b, v = .pointer (some ⟨b, 0, none⟩) ∧ w4.heap.size ≤ b ∧ W.heap[b]? = some (.cells sig0.toArray 88 (0, 0))
    | _ => fun _ _ => False) ?_
  simp (maxSteps := 10000000) only [Rely, List.take_succ_cons, List.take_zero, List.drop_succ_cons, List.drop_zero, Nat.reduceAdd, Nat.zero_add, Act.put, List.setIfInBounds_toArray, List.set_cons_succ, List.set_cons_zero]
  refine ⟨?_, ?_, ?_, ?_, ?_, ?_, ?_, ?_, ?_, ?_, ?_, ?_, ?_⟩
  · exact step_plain rfl fun vs wz hE hd => gives_fieldAddr' 88 _ 0 rfl (.pointer (some ⟨w3.heap.size, 0, none⟩)) _ rfl (by go_simp) rfE
  · refine step_plain rfl fun vs wz hE hd => ?_
    have hc := (C0.out _ (xd hE)).1
    exact gives_loadAt 3 _ rfl (.pointer (some ⟨w3.heap.size, 0, none⟩)) (.int .i64 (i : Int)) (show vs 0 = _ from hd.1) (by go_simp) rfE
  · exact step_plain rfl fun vs wz hE hd => gives_build 55 0 _ rfl #[] (by simp) (.slice (some ⟨wz.heap.size, 0, none⟩) 0 0) (w' := wz.alloc (.cells #[] 43)) (by go_simp) ⟨(Below.refl _ _).alloc (Nat.le_refl _) _, fun _ _ => ⟨_, rfl⟩⟩
  · exact step_plain rfl fun vs wz hE hd => gives_fieldAddr' 88 _ 1 rfl (.pointer (some ⟨w3.heap.size, 0, none⟩)) _ rfl (by go_simp) rfE
  · refine step_plain rfl fun vs wz hE hd => ?_
    have hc := (C0.out _ (xd hE)).2.1
    exact gives_loadAt 55 _ rfl (.pointer (some ⟨w3.heap.size, 1, none⟩)) (.slice (some ⟨g, 0, none⟩) 68 cs) (show vs 3 = _ from hd.1) (by go_simp) rfE
  · refine step_plain rfl fun vs wz hE hd => ?_
    obtain ⟨b, hb⟩ := hd.1
    refine gives_append_copy _ _ rfl w4.heap.size b g 68 cs (sigC i x m 68) (show vs 2 = _ from hb) (show vs 4 = _ from hd.2.1) (by omega) (sigC_len _ _ _ _).symm (by omega) (DS_4.out.below (xd hE)) (xd hE).size fun v w' h1 h2 h3 => ⟨h3, fun w'' hE2 => own_bel h2 hE2⟩
  · exact step_plain rfl fun vs wz hE hd => gives_build 55 0 _ rfl #[] (by simp) (.slice (some ⟨wz.heap.size, 0, none⟩) 0 0) (w' := wz.alloc (.cells #[] 43)) (by go_simp) ⟨(Below.refl _ _).alloc (Nat.le_refl _) _, fun _ _ => ⟨_, rfl⟩⟩
  · exact step_plain rfl fun vs wz hE hd => gives_fieldAddr' 88 _ 2 rfl (.pointer (some ⟨w3.heap.size, 0, none⟩)) _ rfl (by go_simp) rfE
  · refine step_plain rfl fun vs wz hE hd => ?_
    have hc := (C0.out _ (xd hE)).2.2
    exact gives_loadAt 55 _ rfl (.pointer (some ⟨w3.heap.size, 2, none⟩)) (.slice (some ⟨g2, 0, none⟩) 5 ds) (show vs 7 = _ from hd.1) (by go_simp) rfE
  · refine step_plain rfl fun vs wz hE hd => ?_
    obtain ⟨b, hb⟩ := hd.1
    refine gives_append_copy _ _ rfl w4.heap.size b g2 5 ds (wayT (lvT x 32) i 5) (show vs 6 = _ from hb) (show vs 8 = _ from hd.2.1) (by omega) (wayT_len _ _ _).symm (by omega) (DW_4.out.below (xd hE)) (xd hE).size fun v w' h1 h2 h3 => ⟨h3, fun w'' hE2 => own_bel h2 hE2⟩
  · refine step_plain rfl fun vs wz hE hd => ?_
    have h1 : vs 1 = .int .i64 (i : Int) := hd.1
    have o5 : wz.ownsRow w4.heap.size 43 16 (vs 5) 68 (dcells (sigC i x m 68)) := hd.2.1
    have o9 : wz.ownsRow w4.heap.size 43 16 (vs 9) 5 (dcells (wayT (lvT x 32) i 5)) := hd.2.2.1
    obtain ⟨gc, cc, _, h5, _, _⟩ := own_blk (by omega) o5
    obtain ⟨gp, cp, _, h9, _, _⟩ := own_blk (by omega) o9
    rw [h5] at o5
    rw [h9] at o9
    refine gives_val (sigV (i : Int) (.slice (some ⟨gc, 0, none⟩) 68 cc) (.slice (some ⟨gp, 0, none⟩) 5 cp)) (w' := wz) ?_ ⟨Ext.refl _, fun w'' hE2 => ⟨gc, cc, gp, cp, rfl, own_bel o5 hE2, own_bel o9 hE2⟩⟩
    simp only [execOp, Act.eval, Array.getD_eq_getD_getElem?, List.getElem?_toArray, List.getElem?_cons_succ, List.getElem?_cons_zero, Option.getD_some, List.map_toArray, List.map_cons, List.map_nil, h1, h5, h9]
    go_simp
  · exact step_plain rfl fun vs wz hE hd => gives_val (.pointer (some ⟨wz.heap.size, 0, none⟩)) (w' := wz.alloc (.cells sig0.toArray 88)) (by go_simp; rfl) ⟨(Below.refl _ _).alloc (Nat.le_refl _) _, fun w'' hE2 => ⟨_, rfl, (xd hE).size, blk_below (heap_alloc_new wz _) hE2⟩⟩
  · intro vs wz hE hR
    obtain ⟨gc, cc, gp, cp, h10, ho, hp⟩ := hR 10 (by omega)
    obtain ⟨b, h11, hbz, hbb⟩ := hR 11 (by omega)
    rw [h10, h11]
    have B5 := Lib.hid (B4.out.trans ((xd hE).mono B4.out.size))
    have S5 := Lib.hid (S4.out.below (xd hE))
    have K_5 := Lib.hid (K_4.out.below (xd hE))
    have DS_5 := Lib.hid (DS_4.out.below (xd hE))
    have DW_5 := Lib.hid (DW_4.out.below (xd hE))
    have TX_5 := Lib.hid (blk_below TX_4.out (xd hE))
    have TS_5 := Lib.hid (blk_below TS_4.out (xd hE))
    have OC5 := Lib.hid ho
    have OP5 := Lib.hid hp
    have TB5 := Lib.hid hbb
    have HBZ := Lib.hid hbz
    have hLZ : Hid (Below w4.heap.size w4 wz) := Lib.hid (xd hE)
    clear hR hE h10 h11 ho hp hbb hbz C0
    cases way
    · skip
      go_wp2_with (refine wpList_store_row rfl 88 (.tmp 6) (.tmp 36) rfl b rfl [Value.int .i64 (i : Int), .slice (some ⟨gc, 0, none⟩) 68 cc, .slice (some ⟨gp, 0, none⟩) 5 cp] rfl 88 ⟨sig0.toArray, rfl, TB5.out⟩ Tryd.size88' (one_sig _ _ _ _ _ _ _) ?_; intro w6 hp6; have hc35 : w6.cell? ⟨w.heap.size, 35, none⟩ = some (.bool false) := (sp_cell HL.out HLM.out (((hp6.below (Below.refl w4.heap.size wz) HBZ.out).block w.heap.size (blk_lt TX_4.out)).trans TX_5.out)).2.2.2)
      have L6 : Below w4.heap.size wz w6 := hp6.below (Below.refl _ _) HBZ.out
      have oc6 : w6.ownsRow w4.heap.size 43 16 (.slice (some ⟨gc, 0, none⟩) 68 cc) 68 (dcells (sigC i x m 68)) := own_other (q := b) OC5.out (Nat.le_of_eq hp6.size.symm) hp6.other hp6.os hp6.tape hp6.output (own_not OC5.out TB5.out (by decide))
      have op6 : w6.ownsRow w4.heap.size 43 16 (.slice (some ⟨gp, 0, none⟩) 5 cp) 5 (dcells (wayT (lvT x 32) i 5)) := own_other (q := b) OP5.out (Nat.le_of_eq hp6.size.symm) hp6.other hp6.os hp6.tape hp6.output (own_not OP5.out TB5.out (by decide))
      have hbx : Below w4.heap.size w4 w6 := (hLZ.out.mono (Nat.le_refl _)).trans L6
      have L46 := Lib.hid hbx
      have B6 := Lib.hid (B4.out.trans (hbx.mono B4.out.size))
      have S6 := Lib.hid (S4.out.below hbx)
      have K_6 := Lib.hid (K_4.out.below hbx)
      have DS_6 := Lib.hid (DS_4.out.below hbx)
      have DW_6 := Lib.hid (DW_4.out.below hbx)
      have TX_6 := Lib.hid (blk_below TX_4.out hbx)
      have TS_6 := Lib.hid (blk_below TS_4.out hbx)
      have OC6 := Lib.hid oc6
      have OP6 := Lib.hid op6
      have TB6 := Lib.hid hp6.blk
      obtain ⟨curc, hcc⟩ : ∃ cur, w6.heap[gc]? = some (.cells cur 43 (0, 0)) := by
        obtain ⟨_, _, cur, e, _, h⟩ := own_blk (by omega) oc6
        simp only [Value.slice.injEq, Option.some.injEq, Addr.mk.injEq] at e
        obtain ⟨⟨rfl, -, -⟩, -, -⟩ := e
        exact ⟨cur, h⟩
      obtain ⟨curp, hcp⟩ : ∃ cur, w6.heap[gp]? = some (.cells cur 43 (0, 0)) := by
        obtain ⟨_, _, cur, e, _, h⟩ := own_blk (by omega) op6
        simp only [Value.slice.injEq, Option.some.injEq, Addr.mk.injEq] at e
        obtain ⟨⟨rfl, -, -⟩, -, -⟩ := e
        exact ⟨cur, h⟩
      have HGC := Lib.hid (show w4.heap.size ≤ gc from (oc6.lt gc rfl).1)
      have HGP := Lib.hid (show w4.heap.size ≤ gp from (op6.lt gp rfl).1)
      have hbc : b ≠ gc := fun e => by rw [e] at TB6; have := TB6.out; rw [hcc] at this; simp at this
      have hbp : b ≠ gp := fun e => by rw [e] at TB6; have := TB6.out; rw [hcp] at this; simp at this
      have HBC := Lib.hid hbc
      have HBP := Lib.hid hbp
      have FC6 := Lib.hid hcc
      have FP6 := Lib.hid hcp
      have DC6 := Lib.hid (sig_dgs oc6)
      have DP6 := Lib.hid (way_dgs hi32 (lvT_len x 32) (lvT_good x 32) op6)
      clear hp6 L6 oc6 op6 hbx hcc hcp hbc hbp OC5 OP5 TB5 OC6 OP6 K_5 DS_5 DW_5 TX_5 TS_5 B5 S5
      obtain ⟨u5, hu5⟩ : ∃ u, IntKind.u64.wrap at_ = u := ⟨_, rfl⟩
      have hu5' : 0 ≤ u5 ∧ u5 < 18446744073709551616 := by rw [← hu5, IntKind.wrap_u64]; omega
      obtain ⟨hu51, hu52⟩ := hu5'
      have HU5 := Lib.hid hu5
      clear hu5
      obtain ⟨a, hua⟩ : ∃ a : Nat, u5 % 68 = a := ⟨(u5 % 68).toNat, by omega⟩
      have ha68 : a < 68 := by omega
      have HUA := Lib.hid hua
      obtain ⟨b0, hb0⟩ : ∃ b, b = (((sigC i x m 68)).getD a []).getD 0 0 := ⟨_, rfl⟩
      have hcell : w6.cell? ⟨gc, a * 16, none⟩ = some (.int .u8 b0) := by
        obtain ⟨b', off, c', e, _, _, _, h4⟩ := DC6.out.cells (by intro e; have := sigC_len i x m 68; rw [e] at this; simp at this)
        simp only [Value.slice.injEq, Option.some.injEq, Addr.mk.injEq] at e
        obtain ⟨⟨rfl, rfl, -⟩, -, -⟩ := e
        have hla : a < ((sigC i x m 68)).length := by rw [sigC_len]; exact ha68
        have := h4 a hla 0 (.int .u8 b0) (by rw [hb0]; exact first_u8 _ (DC6.out.at a hla).1)
        rwa [show 0 + a * 16 + 0 = a * 16 by omega] at this
      have CG := Lib.hid hcell
      have HB0 := Lib.hid hb0
      have C1 : Hid (∀ W, Below w6.heap.size w6 W → W.cell? ⟨b, 1, none⟩ = some (.slice (some ⟨gc, 0, none⟩) 68 cc) ∧ W.cell? ⟨w.heap.size, 33, none⟩ = some (.int .i64 at_) ∧ W.cell? ⟨w.heap.size, 34, none⟩ = some (.int .u8 by_)) := Lib.hid fun W hW => by
        have hs := blk_below TB6.out hW
        have hx := sp_cell HL.out HLM.out (blk_below TX_6.out hW)
        exact ⟨by rw [cell_of_row _ _ _ _ _ _ hs]; rfl, hx.2.1, hx.2.2.1⟩
      clear hcell hb0 hua
      go_wp2_with fail
      refine wp_region_rely2 (by kernel_rfl) 14 (by kernel_rfl) (by kernel_rfl) Ext Ext.refl Ext.trans (fun ix => match ix with
        | 0 => is (.pointer (some ⟨b, 1, none⟩))
        | 1 => is (.slice (some ⟨gc, 0, none⟩) 68 cc)
        | 2 => is (.pointer (some ⟨w.heap.size, 33, none⟩))
        | 3 => is (.int .i64 at_)
        | 4 => is (.int .u64 u5)
        | 5 => is (.int .u64 (a : Int))
        | 6 => is (.int .i64 (a : Int))
        | 7 => is (.pointer (some ⟨gc, a * 16, none⟩))
        | 8 => is (.pointer (some ⟨gc, a * 16, none⟩))
        | 9 => is (.int .u8 b0)
        | 10 => is (.pointer (some ⟨w.heap.size, 34, none⟩))
        | 11 => is (.int .u8 by_)
        | 12 => is (.int .u8 (bits .xor .u8 b0 by_))
        | 13 => is (.pointer (some ⟨gc, a * 16, none⟩))
        | _ => fun _ _ => False) ?_
      simp (maxSteps := 10000000) only [Rely, List.take_succ_cons, List.take_zero, List.drop_succ_cons, List.drop_zero, Nat.reduceAdd, Nat.zero_add, Act.put, List.setIfInBounds_toArray, List.set_cons_succ, List.set_cons_zero]
      refine ⟨?_, ?_, ?_, ?_, ?_, ?_, ?_, ?_, ?_, ?_, ?_, ?_, ?_, ?_, ?_⟩
      · exact step_plain rfl fun vs wy hE hd => gives_fieldAddr' 88 _ 1 rfl (.pointer (some ⟨b, 0, none⟩)) _ rfl (by go_simp) rfE
      · refine step_plain rfl fun vs wy hE hd => ?_
        have hc := (C1.out _ (xd hE)).1
        exact gives_loadAt 55 _ rfl (.pointer (some ⟨b, 1, none⟩)) (.slice (some ⟨gc, 0, none⟩) 68 cc) (show vs 0 = _ from hd.1) (by go_simp) rfE
      · exact step_plain rfl fun vs wy hE hd => gives_fieldAddr' 99 _ 3 rfl (.pointer (some ⟨w.heap.size, 0, none⟩)) _ rfl (by go_simp) rfE
      · refine step_plain rfl fun vs wy hE hd => ?_
        have hc := (C1.out _ (xd hE)).2.1
        exact gives_loadAt 3 _ rfl (.pointer (some ⟨w.heap.size, 33, none⟩)) (.int .i64 at_) (show vs 2 = _ from hd.1) (by go_simp) rfE
      · refine step_plain rfl fun vs wy hE hd => ?_
        have hu := HU5.out
        exact gives_convert 3 39 _ rfl (.int .i64 at_) (.int .u64 u5) (show vs 3 = _ from hd.1) (by go_simp) rfE
      · refine step_plain rfl fun vs wy hE hd => ?_
        have ht : u5.tmod 68 = (a : Int) := by rw [Int.tmod_eq_emod_of_nonneg hu51]; exact HUA.out
        exact gives_binOp .rem 39 _ _ _ rfl (.int .u64 u5) (.int .u64 68) (.int .u64 (a : Int)) (show vs 4 = _ from hd.1) rfl (by go_simp) (by go_simp) rfE
      · refine step_plain rfl fun vs wy hE hd => ?_
        have hw : IntKind.i64.wrap (a : Int) = a := by rw [IntKind.wrap_i64]; omega
        exact gives_convert 39 3 _ rfl (.int .u64 (a : Int)) (.int .i64 (a : Int)) (show vs 5 = _ from hd.1) (by go_simp) rfE
      · refine step_plain rfl fun vs wy hE hd => ?_
        have hal : (a : Int) < 68 := by omega
        exact gives_indexAt 55 _ _ rfl (.slice (some ⟨gc, 0, none⟩) 68 cc) (.int .i64 (a : Int)) (.pointer (some ⟨gc, a * 16, none⟩)) (show vs 1 = _ from hd.1) (show vs 6 = _ from hd.2.1) (by go_simp) rfE
      · exact step_plain rfl fun vs wy hE hd => gives_indexAt 43 _ _ rfl (.pointer (some ⟨gc, a * 16, none⟩)) (Value.int IntKind.i64 0) (.pointer (some ⟨gc, a * 16, none⟩)) (show vs 7 = _ from hd.1) rfl (by go_simp) rfE
      · refine step_plain rfl fun vs wy hE hd => ?_
        have hc := cell_on (xd hE) CG.out
        exact gives_loadAt 5 _ rfl (.pointer (some ⟨gc, a * 16, none⟩)) (.int .u8 b0) (show vs 8 = _ from hd.1) (by go_simp) rfE
      · exact step_plain rfl fun vs wy hE hd => gives_fieldAddr' 99 _ 4 rfl (.pointer (some ⟨w.heap.size, 0, none⟩)) _ rfl (by go_simp) rfE
      · refine step_plain rfl fun vs wy hE hd => ?_
        have hc := (C1.out _ (xd hE)).2.2
        exact gives_loadAt 5 _ rfl (.pointer (some ⟨w.heap.size, 34, none⟩)) (.int .u8 by_) (show vs 10 = _ from hd.1) (by go_simp) rfE
      · exact step_plain rfl fun vs wy hE hd => gives_binOp .xor 5 _ _ _ rfl (.int .u8 b0) (.int .u8 by_) (.int .u8 (bits .xor .u8 b0 by_)) (show vs 9 = _ from (hd.1)) (show vs 11 = _ from (hd.2.1)) (by go_simp) (by go_simp) rfE
      · refine step_plain rfl fun vs wy hE hd => ?_
        have hal : (a : Int) < 68 := by omega
        exact gives_indexAt 55 _ _ rfl (.slice (some ⟨gc, 0, none⟩) 68 cc) (.int .i64 (a : Int)) (.pointer (some ⟨gc, a * 16, none⟩)) (show vs 1 = _ from hd.1) (show vs 6 = _ from hd.2.1) (by go_simp) rfE
      · intro vs wy hE hR
        have h12 : vs 12 = .int .u8 (bits .xor .u8 b0 by_) := hR 12 (by omega)
        have h13 : vs 13 = _ := hR 13 (by omega)
        rw [h12, h13]
        have LY : Below w6.heap.size w6 wy := ext_of_drew hE
        have hcz : wy.cell? ⟨gc, a * 16, none⟩ = some (.int .u8 b0) := cell_on LY CG.out
        have hfz : wy.frozen? ⟨gc, a * 16, none⟩ = false := blk_free (blk_below FC6.out LY) _
        have DC7 := DC6.out.below LY
        have DP7 := DP6.out.below LY
        obtain ⟨ps', ds', d2, d1, d4, d3, d5, _⟩ := dgs_two DP7 (wayT_len _ _ _).symm DC7 (sigC_len _ _ _ _).symm ha68 HB0.out HBY.out
        obtain ⟨wM, hwM⟩ : ∃ y, y = wy.setCell ⟨gc, a * 16, none⟩ (.int .u8 (bits .xor .u8 b0 by_)) := ⟨_, rfl⟩
        rw [← hwM] at d1 d2
        have LM : Below w4.heap.size w6 wM := by rw [hwM]; exact (LY.mono (show w4.heap.size ≤ w6.heap.size by have := blk_lt FC6.out; have := HGC.out; omega)).setCell (p := ⟨gc, a * 16, none⟩) HGC.out _
        have tbM : wM.heap[b]? = some (.cells ([Value.int .i64 (i : Int), .slice (some ⟨gc, 0, none⟩) 68 cc, .slice (some ⟨gp, 0, none⟩) 5 cp] : List Value).toArray 88 (0, 0)) := by rw [hwM]; exact (heap_setCell_other wy ⟨gc, a * 16, none⟩ b _ HBC.out).trans (blk_below TB6.out LY)
        have lw : Below w4.heap.size w4 wM := L46.out.trans LM
        have BM := Lib.hid (B4.out.trans (lw.mono B4.out.size))
        have SM := Lib.hid (S4.out.below lw)
        have K_M := Lib.hid (K_4.out.below lw)
        have DS_M := Lib.hid (DS_4.out.below lw)
        have DW_M := Lib.hid (DW_4.out.below lw)
        have TX_M := Lib.hid (blk_below TX_4.out lw)
        have TS_M := Lib.hid (blk_below TS_4.out lw)
        have DCM := Lib.hid d1
        have DPM := Lib.hid d2
        have HDC := Lib.hid d3
        have HDP := Lib.hid d4
        have HEQ : Hid ((ds' = (sigC i x m 68) ∧ ps' = (wayT (lvT x 32) i 5)) ↔ by_ = 0) := Lib.hid (by rw [and_comm]; exact d5)
        have TBM := Lib.hid tbM
        have HWM := Lib.hid hwM
        clear hR hE h12 h13 LY DC7 DP7 d1 d2 d3 d4 d5 hwM LM tbM lw CG C1 hc35
        go_wp2_with fail
        rw [← HWM.out]
        clear hcz hfz HWM
        obtain ⟨aR, haR⟩ := sen_at SM.out 0 (by omega)
        obtain ⟨aF, haF⟩ := sen_at SM.out 3 (by omega)
        have CR := Lib.hid (SM.out.cell 0 1 aR rfl haR)
        have CF := Lib.hid (SM.out.cell 3 0 aF rfl haF)
        have RS := Lib.hid (blk_range (xs := [Value.int .i64 (i : Int), .slice (some ⟨g, 0, none⟩) 68 cs, .slice (some ⟨g2, 0, none⟩) 5 ds]) TS_M.out)
        have RB := Lib.hid (blk_range (xs := [Value.int .i64 (i : Int), .slice (some ⟨gc, 0, none⟩) 68 cc, .slice (some ⟨gp, 0, none⟩) 5 cp]) TBM.out)
        clear haR haF
        by_cases hz : by_ = 0
        · skip
          have heq : (ds' = (sigC i x m 68) ∧ ps' = (wayT (lvT x 32) i 5)) ↔ by_ = 0 := HEQ.out
          subst hz
          obtain ⟨hd1, hd2⟩ := heq.2 rfl
          clear heq
          go_wp2_with fail
          refine wp_region_rely2 (by kernel_rfl) 16 (by kernel_rfl) (by kernel_rfl) Ext Ext.refl Ext.trans (fun ix => match ix with
            | 0 => fun _ v => v = sigV (i : Int) (.slice (some ⟨g, 0, none⟩) 68 cs) (.slice (some ⟨g2, 0, none⟩) 5 ds)
            | 1 => fun _ v => v = sigV (i : Int) (.slice (some ⟨gc, 0, none⟩) 68 cc) (.slice (some ⟨gp, 0, none⟩) 5 cp)
            | 2 => is (.bool true)
            | 3 => is (.pointer (some ⟨w.heap.size, 34, none⟩))
            | 4 => is (.int .u8 (0 : Int))
            | 5 => is (.bool true)
            | 6 => is (.bool false)
            | 7 => is (.bool false)
            | 8 => fun _ v => v = sigV (i : Int) (.slice (some ⟨gc, 0, none⟩) 68 cc) (.slice (some ⟨gp, 0, none⟩) 5 cp)
            | 9 => fun _ v => v = sigV (i : Int) (.slice (some ⟨g, 0, none⟩) 68 cs) (.slice (some ⟨g2, 0, none⟩) 5 ds)
            | 10 => is (.bool true)
            | 11 => is (.pointer (some ⟨w.heap.size, 34, none⟩))
            | 12 => is (.int .u8 (0 : Int))
            | 13 => is (.bool true)
            | 14 => is (.bool false)
            | 15 => is (.bool false)
            | _ => fun _ _ => False) ?_
          simp (maxSteps := 10000000) only [Rely, List.take_succ_cons, List.take_zero, List.drop_succ_cons, List.drop_zero, Nat.reduceAdd, Nat.zero_add, Act.put, List.setIfInBounds_toArray, List.set_cons_succ, List.set_cons_zero]
          refine ⟨?_, ?_, ?_, ?_, ?_, ?_, ?_, ?_, ?_, ?_, ?_, ?_, ?_, ?_, ?_, ?_, ?_⟩
          · exact step_plain rfl fun vs wu hE hd => gives_load_row 88 _ rfl w3.heap.size 0 rfl [Value.int .i64 (i : Int), .slice (some ⟨g, 0, none⟩) 68 cs, .slice (some ⟨g2, 0, none⟩) 5 ds] _ (range_below RS.out (xd hE)) Tryd.underlying88 rfl Tryd.size88' rfE
          · exact step_plain rfl fun vs wu hE hd => gives_load_row 88 _ rfl b 0 rfl [Value.int .i64 (i : Int), .slice (some ⟨gc, 0, none⟩) 68 cc, .slice (some ⟨gp, 0, none⟩) 5 cp] _ (range_below RB.out (xd hE)) Tryd.underlying88 rfl Tryd.size88' rfE
          · refine step_plain rfl fun vs wu hE hd => ?_
            refine gives_call 64 (enters_of Tryd.func64 (by kernel_rfl) rfl) _ _ rfl rfl [sigV (i : Int) (.slice (some ⟨g, 0, none⟩) 68 cs) (.slice (some ⟨g2, 0, none⟩) 5 ds), sigV (i : Int) (.slice (some ⟨gc, 0, none⟩) 68 cc) (.slice (some ⟨gp, 0, none⟩) 5 cp)] (congr (congrArg (fun a b => a :: b) (show vs 0 = _ from hd.1)) (congrArg (fun a => [a]) (show vs 1 = _ from hd.2.1))) ?_
            refine (ksame_any i i (sigC i x m 68) ds' (wayT (lvT x 32) i 5) ps' (some ⟨g, 0, none⟩) (some ⟨gc, 0, none⟩) (some ⟨g2, 0, none⟩) (some ⟨gp, 0, none⟩) 68 68 cs cc 5 5 ds cp wu (DS_M.out.below (xd hE)) (DCM.out.below (xd hE)) (DW_M.out.below (xd hE)) (DPM.out.below (xd hE)) ⟨(sigC_len _ _ _ _).symm, (by rw [HDC.out, sigC_len]), (wayT_len _ _ _).symm, (by rw [HDP.out, wayT_len])⟩ (by omega) (by omega)).mono ?_
            rintro _ w'' ⟨rfl, hb⟩
            exact ⟨_, rfl, hb, fun _ _ => by rw [decide_eq_true (show (i : Int) = i ∧ (sigC i x m 68) = ds' ∧ (wayT (lvT x 32) i 5) = ps' from ⟨rfl, hd1.symm, hd2.symm⟩)]; rfl⟩
          · exact step_plain rfl fun vs wu hE hd => gives_fieldAddr' 99 _ 4 rfl (.pointer (some ⟨w.heap.size, 0, none⟩)) _ rfl (by go_simp) rfE
          · refine step_plain rfl fun vs wu hE hd => ?_
            have hc := (sp_cell HL.out HLM.out (blk_below TX_M.out (xd hE))).2.2.1
            exact gives_loadAt 5 _ rfl (.pointer (some ⟨w.heap.size, 34, none⟩)) (.int .u8 (0 : Int)) (show vs 3 = _ from hd.1) (by go_simp) rfE
          · exact step_plain rfl fun vs wu hE hd => gives_binOp .eql 5 _ _ _ rfl (.int .u8 (0 : Int)) (.int .u8 0) (.bool true) (show vs 4 = _ from hd.1) rfl (by go_simp) (by go_simp) rfE
          · exact step_plain rfl fun vs wu hE hd => gives_binOp .neq 4 _ _ _ rfl (.bool true) (.bool true) (.bool false) (show vs 2 = _ from hd.1) (show vs 5 = _ from hd.2.1) (by go_simp) (by go_simp) rfE
          · exact step_plain rfl fun vs wu hE hd => gives_move _ (.bool false) (.inl rfl) (show vs 6 = _ from hd.1) rfE
          · exact step_guard 7 false 76 rfl rfl (fun _ => rfl) fun vs wu hE hd => ⟨hd.1, gives_load_row 88 _ rfl b 0 rfl [Value.int .i64 (i : Int), .slice (some ⟨gc, 0, none⟩) 68 cc, .slice (some ⟨gp, 0, none⟩) 5 cp] _ (range_below RB.out (xd hE)) Tryd.underlying88 rfl Tryd.size88' rfE⟩
          · exact step_guard 7 false 76 rfl rfl (fun _ => rfl) fun vs wu hE hd => ⟨hd.1, gives_load_row 88 _ rfl w3.heap.size 0 rfl [Value.int .i64 (i : Int), .slice (some ⟨g, 0, none⟩) 68 cs, .slice (some ⟨g2, 0, none⟩) 5 ds] _ (range_below RS.out (xd hE)) Tryd.underlying88 rfl Tryd.size88' rfE⟩
          · refine step_guard 7 false 76 rfl rfl (fun _ => rfl) fun vs wu hE hd => ⟨hd.2.2.2.1, ?_⟩
            refine gives_call 64 (enters_of Tryd.func64 (by kernel_rfl) rfl) _ _ rfl rfl [sigV (i : Int) (.slice (some ⟨gc, 0, none⟩) 68 cc) (.slice (some ⟨gp, 0, none⟩) 5 cp), sigV (i : Int) (.slice (some ⟨g, 0, none⟩) 68 cs) (.slice (some ⟨g2, 0, none⟩) 5 ds)] (congr (congrArg (fun a b => a :: b) (show vs 8 = _ from hd.1)) (congrArg (fun a => [a]) (show vs 9 = _ from hd.2.1))) ?_
            refine (ksame_any i i ds' (sigC i x m 68) ps' (wayT (lvT x 32) i 5) (some ⟨gc, 0, none⟩) (some ⟨g, 0, none⟩) (some ⟨gp, 0, none⟩) (some ⟨g2, 0, none⟩) 68 68 cc cs 5 5 cp ds wu (DCM.out.below (xd hE)) (DS_M.out.below (xd hE)) (DPM.out.below (xd hE)) (DW_M.out.below (xd hE)) ⟨(by rw [HDC.out, sigC_len]), (sigC_len _ _ _ _).symm, (by rw [HDP.out, wayT_len]), (wayT_len _ _ _).symm⟩ (by omega) (by omega)).mono ?_
            rintro _ w'' ⟨rfl, hb⟩
            exact ⟨_, rfl, hb, fun _ _ => by rw [decide_eq_true (show (i : Int) = i ∧ ds' = (sigC i x m 68) ∧ ps' = (wayT (lvT x 32) i 5) from ⟨rfl, hd1, hd2⟩)]; rfl⟩
          · exact step_guard 7 false 76 rfl rfl (fun _ => rfl) fun vs wu hE hd => ⟨hd.1, gives_fieldAddr' 99 _ 4 rfl (.pointer (some ⟨w.heap.size, 0, none⟩)) _ rfl (by go_simp) rfE⟩
          · refine step_guard 7 false 76 rfl rfl (fun _ => rfl) fun vs wu hE hd => ⟨hd.2.1, ?_⟩
            have hc := (sp_cell HL.out HLM.out (blk_below TX_M.out (xd hE))).2.2.1
            exact gives_loadAt 5 _ rfl (.pointer (some ⟨w.heap.size, 34, none⟩)) (.int .u8 (0 : Int)) (show vs 11 = _ from hd.1) (by go_simp) rfE
          · exact step_guard 7 false 76 rfl rfl (fun _ => rfl) fun vs wu hE hd => ⟨hd.2.1, gives_binOp .eql 5 _ _ _ rfl (.int .u8 (0 : Int)) (.int .u8 0) (.bool true) (show vs 12 = _ from hd.1) rfl (by go_simp) (by go_simp) rfE⟩
          · exact step_guard 7 false 76 rfl rfl (fun _ => rfl) fun vs wu hE hd => ⟨hd.2.2.1, gives_binOp .neq 4 _ _ _ rfl (.bool true) (.bool true) (.bool false) (show vs 10 = _ from hd.1) (show vs 13 = _ from hd.2.1) (by go_simp) (by go_simp) rfE⟩
          · exact step_plain rfl fun vs wu hE hd => gives_pick _ _ _ (.bool false) false rfl (show vs 7 = _ from hd.1) (show vs 14 = _ from hd.2.1) rfE
          · intro vs wu hE hR
            have h15 : vs 15 = .bool false := hR 15 (by omega)
            rw [h15]
            have BN := Lib.hid (BM.out.trans ((xd hE).mono BM.out.size))
            have K_N := Lib.hid (K_M.out.below (xd hE))
            have TX_N := Lib.hid (blk_below TX_M.out (xd hE))
            have DCN := Lib.hid (DCM.out.below (xd hE))
            have DPN := Lib.hid (DPM.out.below (xd hE))
            have RBN := Lib.hid (range_below RB.out (xd hE))
            have CRN := Lib.hid (cell_on (xd hE) CR.out)
            have CFN := Lib.hid (cell_on (xd hE) CF.out)
            clear hR hE h15
            obtain ⟨rb, hrb⟩ : ∃ rb, rb = rightC RT m i ds' ps' := ⟨_, rfl⟩
            go_wp2_with fail
            have hrt : rb = true := by rw [hrb, hd1, hd2, HRT.out]; exact right_made x m i hi32
            subst hrt
            have HRB := Lib.hid hrb
            clear hrb
            refine wp_region_rely2 (by kernel_rfl) 18 (by kernel_rfl) (by kernel_rfl) Ext Ext.refl Ext.trans (fun ix => match ix with
              | 0 => is (.pointer (some ⟨q, 0, none⟩))
              | 1 => is (.agg (u8s RT).toArray)
              | 2 => is (.pointer (some ⟨w.heap.size, 16, none⟩))
              | 3 => is (.agg (u8s m).toArray)
              | 4 => fun _ v => v = sigV (i : Int) (.slice (some ⟨gc, 0, none⟩) 68 cc) (.slice (some ⟨gp, 0, none⟩) 5 cp)
              | 5 => is (.bool true)
              | 6 => is (.pointer (some ⟨w.heap.size, 34, none⟩))
              | 7 => is (.int .u8 (0 : Int))
              | 8 => is (.bool true)
              | 9 => is (.bool true)
              | 10 => is (.bool true)
              | 11 => fun _ v => v = undef
              | 12 => fun _ v => v = undef
              | 13 => fun _ v => v = undef
              | 14 => fun _ v => v = undef
              | 15 => fun _ v => v = undef
              | 16 => fun _ v => v = undef
              | 17 => is (.bool true)
              | _ => fun _ _ => False) ?_
            simp (maxSteps := 10000000) only [Rely, List.take_succ_cons, List.take_zero, List.drop_succ_cons, List.drop_zero, Nat.reduceAdd, Nat.zero_add, Act.put, List.setIfInBounds_toArray, List.set_cons_succ, List.set_cons_zero]
            refine ⟨?_, ?_, ?_, ?_, ?_, ?_, ?_, ?_, ?_, ?_, ?_, ?_, ?_, ?_, ?_, ?_, ?_, ?_, ?_⟩
            · exact step_plain rfl fun vs wv hE hd => gives_move _ (.pointer (some ⟨q, 0, none⟩)) (.inl rfl) rfl rfE
            · refine step_plain rfl fun vs wv hE hd => ?_
              refine gives_call 63 (enters_of Tryd.func63 (by kernel_rfl) rfl) _ _ rfl rfl [.pointer (some ⟨q, 0, none⟩)] (congrArg (fun a => [a]) (show vs 0 = _ from hd.1)) ?_
              refine (keyRoot_any q x HL.out A c wv (K_N.out.below (xd hE))).mono ?_
              rintro _ w'' ⟨rfl, hb⟩
              exact ⟨_, rfl, hb, fun _ _ => by rw [HRT.out]; rfl⟩
            · exact step_plain rfl fun vs wv hE hd => gives_fieldAddr' 99 _ 1 rfl (.pointer (some ⟨w.heap.size, 0, none⟩)) _ rfl (by go_simp) rfE
            · exact step_plain rfl fun vs wv hE hd => gives_load_row 43 _ rfl w.heap.size 16 (show vs 2 = _ from hd.1) (u8s m) _ (sp_dig HL.out (blk_below TX_N.out (xd hE))) Tryd.underlying43 rfl (hi43 m HLM.out) rfE
            · exact step_plain rfl fun vs wv hE hd => gives_load_row 88 _ rfl b 0 rfl [Value.int .i64 (i : Int), .slice (some ⟨gc, 0, none⟩) 68 cc, .slice (some ⟨gp, 0, none⟩) 5 cp] _ (range_below RBN.out (xd hE)) Tryd.underlying88 rfl Tryd.size88' rfE
            · refine step_plain rfl fun vs wv hE hd => ?_
              refine gives_call 69 (enters_of Tryd.func69 (by kernel_rfl) rfl) _ _ rfl rfl [.agg (u8s RT).toArray, .agg (u8s m).toArray, sigV (i : Int) (.slice (some ⟨gc, 0, none⟩) 68 cc) (.slice (some ⟨gp, 0, none⟩) 5 cp)] (congr (congrArg (fun a b => a :: b) (show vs 1 = _ from hd.1)) (congr (congrArg (fun a b => a :: b) (show vs 3 = _ from hd.2.1)) (congrArg (fun a => [a]) (show vs 4 = _ from hd.2.2.1)))) ?_
              have hb5 := BN.out.trans ((xd hE).mono BN.out.size)
              refine (verify_any RT m RTL.out HLM.out HM.out i ds' ps' (some ⟨gc, 0, none⟩) (some ⟨gp, 0, none⟩) 68 cc 5 cp aR aF wv (DCN.out.below (xd hE)) (DPN.out.below (xd hE)) ⟨by rw [HDC.out, sigC_len], by rw [HDP.out, wayT_len]⟩ (cell_on (xd hE) CRN.out) (cell_on (xd hE) CFN.out) (range_below HK.out hb5) (Nat.lt_of_lt_of_le h18 hb5.size)).mono ?_
              rintro _ w'' ⟨rfl, hb⟩
              exact ⟨_, rfl, hb, fun _ _ => by rw [HRB.out]; rfl⟩
            · exact step_plain rfl fun vs wv hE hd => gives_fieldAddr' 99 _ 4 rfl (.pointer (some ⟨w.heap.size, 0, none⟩)) _ rfl (by go_simp) rfE
            · refine step_plain rfl fun vs wv hE hd => ?_
              have hc := (sp_cell HL.out HLM.out (blk_below TX_N.out (xd hE))).2.2.1
              exact gives_loadAt 5 _ rfl (.pointer (some ⟨w.heap.size, 34, none⟩)) (.int .u8 (0 : Int)) (show vs 6 = _ from hd.1) (by go_simp) rfE
            · exact step_plain rfl fun vs wv hE hd => gives_binOp .eql 5 _ _ _ rfl (.int .u8 (0 : Int)) (.int .u8 0) (.bool true) (show vs 7 = _ from hd.1) rfl (by go_simp) (by go_simp) rfE
            · exact step_plain rfl fun vs wv hE hd => gives_binOp .eql 4 _ _ _ rfl (.bool true) (.bool true) (.bool true) (show vs 5 = _ from hd.1) (show vs 8 = _ from hd.2.1) (by go_simp) (by go_simp) rfE
            · exact step_plain rfl fun vs wv hE hd => gives_move _ (.bool true) (.inl rfl) (show vs 9 = _ from hd.1) rfE
            · refine step_skip 10 false 95 rfl rfl (fun _ => rfl) fun vs wv hE hd => ⟨.inl hd.1, fun _ => rfl⟩
            · refine step_skip 10 false 95 rfl rfl (fun _ => rfl) fun vs wv hE hd => ⟨.inl hd.2.1, fun _ => rfl⟩
            · refine step_skip 10 false 95 rfl rfl (fun _ => rfl) fun vs wv hE hd => ⟨.inl hd.1, fun _ => rfl⟩
            · refine step_skip 10 false 95 rfl rfl (fun _ => rfl) fun vs wv hE hd => ⟨.inl hd.2.1, fun _ => rfl⟩
            · refine step_skip 10 false 95 rfl rfl (fun _ => rfl) fun vs wv hE hd => ⟨.inl hd.1, fun _ => rfl⟩
            · refine step_skip 10 false 95 rfl rfl (fun _ => rfl) fun vs wv hE hd => ⟨.inl hd.2.2.2.2.1, fun _ => rfl⟩
            · exact step_plain rfl fun vs wv hE hd => gives_pick _ _ _ (.bool true) true rfl (show vs 10 = _ from hd.1) rfl rfE
            · intro vs wv hE hR
              have h17 : vs 17 = .bool true := hR 17 (by omega)
              rw [h17]
              have BZ := Lib.hid (BN.out.trans ((xd hE).mono BN.out.size))
              clear hR hE h17
              go_wp2_with fail
              go_ret
              exact ⟨rfl, BZ.out⟩
        · skip
          have heq : (ds' = (sigC i x m 68) ∧ ps' = (wayT (lvT x 32) i 5)) ↔ by_ = 0 := HEQ.out
          have hnz : ¬ (ds' = (sigC i x m 68) ∧ ps' = (wayT (lvT x 32) i 5)) := fun e => hz (heq.1 e)
          have HNZ := Lib.hid hnz
          have HBZ2 := Lib.hid hz
          clear hnz hz
          clear heq
          go_wp2_with fail
          refine wp_region_rely2 (by kernel_rfl) 16 (by kernel_rfl) (by kernel_rfl) Ext Ext.refl Ext.trans (fun ix => match ix with
            | 0 => fun _ v => v = sigV (i : Int) (.slice (some ⟨g, 0, none⟩) 68 cs) (.slice (some ⟨g2, 0, none⟩) 5 ds)
            | 1 => fun _ v => v = sigV (i : Int) (.slice (some ⟨gc, 0, none⟩) 68 cc) (.slice (some ⟨gp, 0, none⟩) 5 cp)
            | 2 => is (.bool false)
            | 3 => is (.pointer (some ⟨w.heap.size, 34, none⟩))
            | 4 => is (.int .u8 by_)
            | 5 => is (.bool false)
            | 6 => is (.bool false)
            | 7 => is (.bool false)
            | 8 => fun _ v => v = sigV (i : Int) (.slice (some ⟨gc, 0, none⟩) 68 cc) (.slice (some ⟨gp, 0, none⟩) 5 cp)
            | 9 => fun _ v => v = sigV (i : Int) (.slice (some ⟨g, 0, none⟩) 68 cs) (.slice (some ⟨g2, 0, none⟩) 5 ds)
            | 10 => is (.bool false)
            | 11 => is (.pointer (some ⟨w.heap.size, 34, none⟩))
            | 12 => is (.int .u8 by_)
            | 13 => is (.bool false)
            | 14 => is (.bool false)
            | 15 => is (.bool false)
            | _ => fun _ _ => False) ?_
          simp (maxSteps := 10000000) only [Rely, List.take_succ_cons, List.take_zero, List.drop_succ_cons, List.drop_zero, Nat.reduceAdd, Nat.zero_add, Act.put, List.setIfInBounds_toArray, List.set_cons_succ, List.set_cons_zero]
          refine ⟨?_, ?_, ?_, ?_, ?_, ?_, ?_, ?_, ?_, ?_, ?_, ?_, ?_, ?_, ?_, ?_, ?_⟩
          · exact step_plain rfl fun vs wu hE hd => gives_load_row 88 _ rfl w3.heap.size 0 rfl [Value.int .i64 (i : Int), .slice (some ⟨g, 0, none⟩) 68 cs, .slice (some ⟨g2, 0, none⟩) 5 ds] _ (range_below RS.out (xd hE)) Tryd.underlying88 rfl Tryd.size88' rfE
          · exact step_plain rfl fun vs wu hE hd => gives_load_row 88 _ rfl b 0 rfl [Value.int .i64 (i : Int), .slice (some ⟨gc, 0, none⟩) 68 cc, .slice (some ⟨gp, 0, none⟩) 5 cp] _ (range_below RB.out (xd hE)) Tryd.underlying88 rfl Tryd.size88' rfE
          · refine step_plain rfl fun vs wu hE hd => ?_
            refine gives_call 64 (enters_of Tryd.func64 (by kernel_rfl) rfl) _ _ rfl rfl [sigV (i : Int) (.slice (some ⟨g, 0, none⟩) 68 cs) (.slice (some ⟨g2, 0, none⟩) 5 ds), sigV (i : Int) (.slice (some ⟨gc, 0, none⟩) 68 cc) (.slice (some ⟨gp, 0, none⟩) 5 cp)] (congr (congrArg (fun a b => a :: b) (show vs 0 = _ from hd.1)) (congrArg (fun a => [a]) (show vs 1 = _ from hd.2.1))) ?_
            refine (ksame_any i i (sigC i x m 68) ds' (wayT (lvT x 32) i 5) ps' (some ⟨g, 0, none⟩) (some ⟨gc, 0, none⟩) (some ⟨g2, 0, none⟩) (some ⟨gp, 0, none⟩) 68 68 cs cc 5 5 ds cp wu (DS_M.out.below (xd hE)) (DCM.out.below (xd hE)) (DW_M.out.below (xd hE)) (DPM.out.below (xd hE)) ⟨(sigC_len _ _ _ _).symm, (by rw [HDC.out, sigC_len]), (wayT_len _ _ _).symm, (by rw [HDP.out, wayT_len])⟩ (by omega) (by omega)).mono ?_
            rintro _ w'' ⟨rfl, hb⟩
            exact ⟨_, rfl, hb, fun _ _ => by rw [decide_eq_false (show ¬ ((i : Int) = i ∧ (sigC i x m 68) = ds' ∧ (wayT (lvT x 32) i 5) = ps') from fun h => HNZ.out ⟨h.2.1.symm, h.2.2.symm⟩)]; rfl⟩
          · exact step_plain rfl fun vs wu hE hd => gives_fieldAddr' 99 _ 4 rfl (.pointer (some ⟨w.heap.size, 0, none⟩)) _ rfl (by go_simp) rfE
          · refine step_plain rfl fun vs wu hE hd => ?_
            have hc := (sp_cell HL.out HLM.out (blk_below TX_M.out (xd hE))).2.2.1
            exact gives_loadAt 5 _ rfl (.pointer (some ⟨w.heap.size, 34, none⟩)) (.int .u8 by_) (show vs 3 = _ from hd.1) (by go_simp) rfE
          · refine step_plain rfl fun vs wu hE hd => ?_
            have hbz : (by_ == 0) = false := by simp [HBZ2.out]
            exact gives_binOp .eql 5 _ _ _ rfl (.int .u8 by_) (.int .u8 0) (.bool false) (show vs 4 = _ from hd.1) rfl (by go_simp) (by go_simp) rfE
          · exact step_plain rfl fun vs wu hE hd => gives_binOp .neq 4 _ _ _ rfl (.bool false) (.bool false) (.bool false) (show vs 2 = _ from hd.1) (show vs 5 = _ from hd.2.1) (by go_simp) (by go_simp) rfE
          · exact step_plain rfl fun vs wu hE hd => gives_move _ (.bool false) (.inl rfl) (show vs 6 = _ from hd.1) rfE
          · exact step_guard 7 false 76 rfl rfl (fun _ => rfl) fun vs wu hE hd => ⟨hd.1, gives_load_row 88 _ rfl b 0 rfl [Value.int .i64 (i : Int), .slice (some ⟨gc, 0, none⟩) 68 cc, .slice (some ⟨gp, 0, none⟩) 5 cp] _ (range_below RB.out (xd hE)) Tryd.underlying88 rfl Tryd.size88' rfE⟩
          · exact step_guard 7 false 76 rfl rfl (fun _ => rfl) fun vs wu hE hd => ⟨hd.1, gives_load_row 88 _ rfl w3.heap.size 0 rfl [Value.int .i64 (i : Int), .slice (some ⟨g, 0, none⟩) 68 cs, .slice (some ⟨g2, 0, none⟩) 5 ds] _ (range_below RS.out (xd hE)) Tryd.underlying88 rfl Tryd.size88' rfE⟩
          · refine step_guard 7 false 76 rfl rfl (fun _ => rfl) fun vs wu hE hd => ⟨hd.2.2.2.1, ?_⟩
            refine gives_call 64 (enters_of Tryd.func64 (by kernel_rfl) rfl) _ _ rfl rfl [sigV (i : Int) (.slice (some ⟨gc, 0, none⟩) 68 cc) (.slice (some ⟨gp, 0, none⟩) 5 cp), sigV (i : Int) (.slice (some ⟨g, 0, none⟩) 68 cs) (.slice (some ⟨g2, 0, none⟩) 5 ds)] (congr (congrArg (fun a b => a :: b) (show vs 8 = _ from hd.1)) (congrArg (fun a => [a]) (show vs 9 = _ from hd.2.1))) ?_
            refine (ksame_any i i ds' (sigC i x m 68) ps' (wayT (lvT x 32) i 5) (some ⟨gc, 0, none⟩) (some ⟨g, 0, none⟩) (some ⟨gp, 0, none⟩) (some ⟨g2, 0, none⟩) 68 68 cc cs 5 5 cp ds wu (DCM.out.below (xd hE)) (DS_M.out.below (xd hE)) (DPM.out.below (xd hE)) (DW_M.out.below (xd hE)) ⟨(by rw [HDC.out, sigC_len]), (sigC_len _ _ _ _).symm, (by rw [HDP.out, wayT_len]), (wayT_len _ _ _).symm⟩ (by omega) (by omega)).mono ?_
            rintro _ w'' ⟨rfl, hb⟩
            exact ⟨_, rfl, hb, fun _ _ => by rw [decide_eq_false (show ¬ ((i : Int) = i ∧ ds' = (sigC i x m 68) ∧ ps' = (wayT (lvT x 32) i 5)) from fun h => HNZ.out ⟨h.2.1, h.2.2⟩)]; rfl⟩
          · exact step_guard 7 false 76 rfl rfl (fun _ => rfl) fun vs wu hE hd => ⟨hd.1, gives_fieldAddr' 99 _ 4 rfl (.pointer (some ⟨w.heap.size, 0, none⟩)) _ rfl (by go_simp) rfE⟩
          · refine step_guard 7 false 76 rfl rfl (fun _ => rfl) fun vs wu hE hd => ⟨hd.2.1, ?_⟩
            have hc := (sp_cell HL.out HLM.out (blk_below TX_M.out (xd hE))).2.2.1
            exact gives_loadAt 5 _ rfl (.pointer (some ⟨w.heap.size, 34, none⟩)) (.int .u8 by_) (show vs 11 = _ from hd.1) (by go_simp) rfE
          · refine step_guard 7 false 76 rfl rfl (fun _ => rfl) fun vs wu hE hd => ⟨hd.2.1, ?_⟩
            have hbz : (by_ == 0) = false := by simp [HBZ2.out]
            exact gives_binOp .eql 5 _ _ _ rfl (.int .u8 by_) (.int .u8 0) (.bool false) (show vs 12 = _ from hd.1) rfl (by go_simp) (by go_simp) rfE
          · exact step_guard 7 false 76 rfl rfl (fun _ => rfl) fun vs wu hE hd => ⟨hd.2.2.1, gives_binOp .neq 4 _ _ _ rfl (.bool false) (.bool false) (.bool false) (show vs 10 = _ from hd.1) (show vs 13 = _ from hd.2.1) (by go_simp) (by go_simp) rfE⟩
          · exact step_plain rfl fun vs wu hE hd => gives_pick _ _ _ (.bool false) false rfl (show vs 7 = _ from hd.1) (show vs 14 = _ from hd.2.1) rfE
          · intro vs wu hE hR
            have h15 : vs 15 = .bool false := hR 15 (by omega)
            rw [h15]
            have BN := Lib.hid (BM.out.trans ((xd hE).mono BM.out.size))
            have K_N := Lib.hid (K_M.out.below (xd hE))
            have TX_N := Lib.hid (blk_below TX_M.out (xd hE))
            have DCN := Lib.hid (DCM.out.below (xd hE))
            have DPN := Lib.hid (DPM.out.below (xd hE))
            have RBN := Lib.hid (range_below RB.out (xd hE))
            have CRN := Lib.hid (cell_on (xd hE) CR.out)
            have CFN := Lib.hid (cell_on (xd hE) CF.out)
            clear hR hE h15
            obtain ⟨rb, hrb⟩ : ∃ rb, rb = rightC RT m i ds' ps' := ⟨_, rfl⟩
            go_wp2_with fail
            have HRB := Lib.hid hrb
            clear hrb
            cases rb
            · skip
              refine wp_region_rely2 (by kernel_rfl) 18 (by kernel_rfl) (by kernel_rfl) Ext Ext.refl Ext.trans (fun ix => match ix with
                | 0 => is (.pointer (some ⟨q, 0, none⟩))
                | 1 => is (.agg (u8s RT).toArray)
                | 2 => is (.pointer (some ⟨w.heap.size, 16, none⟩))
                | 3 => is (.agg (u8s m).toArray)
                | 4 => fun _ v => v = sigV (i : Int) (.slice (some ⟨gc, 0, none⟩) 68 cc) (.slice (some ⟨gp, 0, none⟩) 5 cp)
                | 5 => is (.bool false)
                | 6 => is (.pointer (some ⟨w.heap.size, 34, none⟩))
                | 7 => is (.int .u8 by_)
                | 8 => is (.bool false)
                | 9 => is (.bool true)
                | 10 => is (.bool true)
                | 11 => fun _ v => v = undef
                | 12 => fun _ v => v = undef
                | 13 => fun _ v => v = undef
                | 14 => fun _ v => v = undef
                | 15 => fun _ v => v = undef
                | 16 => fun _ v => v = undef
                | 17 => is (.bool true)
                | _ => fun _ _ => False) ?_
              simp (maxSteps := 10000000) only [Rely, List.take_succ_cons, List.take_zero, List.drop_succ_cons, List.drop_zero, Nat.reduceAdd, Nat.zero_add, Act.put, List.setIfInBounds_toArray, List.set_cons_succ, List.set_cons_zero]
              refine ⟨?_, ?_, ?_, ?_, ?_, ?_, ?_, ?_, ?_, ?_, ?_, ?_, ?_, ?_, ?_, ?_, ?_, ?_, ?_⟩
              · exact step_plain rfl fun vs wv hE hd => gives_move _ (.pointer (some ⟨q, 0, none⟩)) (.inl rfl) rfl rfE
              · refine step_plain rfl fun vs wv hE hd => ?_
                refine gives_call 63 (enters_of Tryd.func63 (by kernel_rfl) rfl) _ _ rfl rfl [.pointer (some ⟨q, 0, none⟩)] (congrArg (fun a => [a]) (show vs 0 = _ from hd.1)) ?_
                refine (keyRoot_any q x HL.out A c wv (K_N.out.below (xd hE))).mono ?_
                rintro _ w'' ⟨rfl, hb⟩
                exact ⟨_, rfl, hb, fun _ _ => by rw [HRT.out]; rfl⟩
              · exact step_plain rfl fun vs wv hE hd => gives_fieldAddr' 99 _ 1 rfl (.pointer (some ⟨w.heap.size, 0, none⟩)) _ rfl (by go_simp) rfE
              · exact step_plain rfl fun vs wv hE hd => gives_load_row 43 _ rfl w.heap.size 16 (show vs 2 = _ from hd.1) (u8s m) _ (sp_dig HL.out (blk_below TX_N.out (xd hE))) Tryd.underlying43 rfl (hi43 m HLM.out) rfE
              · exact step_plain rfl fun vs wv hE hd => gives_load_row 88 _ rfl b 0 rfl [Value.int .i64 (i : Int), .slice (some ⟨gc, 0, none⟩) 68 cc, .slice (some ⟨gp, 0, none⟩) 5 cp] _ (range_below RBN.out (xd hE)) Tryd.underlying88 rfl Tryd.size88' rfE
              · refine step_plain rfl fun vs wv hE hd => ?_
                refine gives_call 69 (enters_of Tryd.func69 (by kernel_rfl) rfl) _ _ rfl rfl [.agg (u8s RT).toArray, .agg (u8s m).toArray, sigV (i : Int) (.slice (some ⟨gc, 0, none⟩) 68 cc) (.slice (some ⟨gp, 0, none⟩) 5 cp)] (congr (congrArg (fun a b => a :: b) (show vs 1 = _ from hd.1)) (congr (congrArg (fun a b => a :: b) (show vs 3 = _ from hd.2.1)) (congrArg (fun a => [a]) (show vs 4 = _ from hd.2.2.1)))) ?_
                have hb5 := BN.out.trans ((xd hE).mono BN.out.size)
                refine (verify_any RT m RTL.out HLM.out HM.out i ds' ps' (some ⟨gc, 0, none⟩) (some ⟨gp, 0, none⟩) 68 cc 5 cp aR aF wv (DCN.out.below (xd hE)) (DPN.out.below (xd hE)) ⟨by rw [HDC.out, sigC_len], by rw [HDP.out, wayT_len]⟩ (cell_on (xd hE) CRN.out) (cell_on (xd hE) CFN.out) (range_below HK.out hb5) (Nat.lt_of_lt_of_le h18 hb5.size)).mono ?_
                rintro _ w'' ⟨rfl, hb⟩
                exact ⟨_, rfl, hb, fun _ _ => by rw [HRB.out]; rfl⟩
              · exact step_plain rfl fun vs wv hE hd => gives_fieldAddr' 99 _ 4 rfl (.pointer (some ⟨w.heap.size, 0, none⟩)) _ rfl (by go_simp) rfE
              · refine step_plain rfl fun vs wv hE hd => ?_
                have hc := (sp_cell HL.out HLM.out (blk_below TX_N.out (xd hE))).2.2.1
                exact gives_loadAt 5 _ rfl (.pointer (some ⟨w.heap.size, 34, none⟩)) (.int .u8 by_) (show vs 6 = _ from hd.1) (by go_simp) rfE
              · refine step_plain rfl fun vs wv hE hd => ?_
                have hbz : (by_ == 0) = false := by simp [HBZ2.out]
                exact gives_binOp .eql 5 _ _ _ rfl (.int .u8 by_) (.int .u8 0) (.bool false) (show vs 7 = _ from hd.1) rfl (by go_simp) (by go_simp) rfE
              · exact step_plain rfl fun vs wv hE hd => gives_binOp .eql 4 _ _ _ rfl (.bool false) (.bool false) (.bool true) (show vs 5 = _ from hd.1) (show vs 8 = _ from hd.2.1) (by go_simp) (by go_simp) rfE
              · exact step_plain rfl fun vs wv hE hd => gives_move _ (.bool true) (.inl rfl) (show vs 9 = _ from hd.1) rfE
              · refine step_skip 10 false 95 rfl rfl (fun _ => rfl) fun vs wv hE hd => ⟨.inl hd.1, fun _ => rfl⟩
              · refine step_skip 10 false 95 rfl rfl (fun _ => rfl) fun vs wv hE hd => ⟨.inl hd.2.1, fun _ => rfl⟩
              · refine step_skip 10 false 95 rfl rfl (fun _ => rfl) fun vs wv hE hd => ⟨.inl hd.1, fun _ => rfl⟩
              · refine step_skip 10 false 95 rfl rfl (fun _ => rfl) fun vs wv hE hd => ⟨.inl hd.2.1, fun _ => rfl⟩
              · refine step_skip 10 false 95 rfl rfl (fun _ => rfl) fun vs wv hE hd => ⟨.inl hd.1, fun _ => rfl⟩
              · refine step_skip 10 false 95 rfl rfl (fun _ => rfl) fun vs wv hE hd => ⟨.inl hd.2.2.2.2.1, fun _ => rfl⟩
              · exact step_plain rfl fun vs wv hE hd => gives_pick _ _ _ (.bool true) true rfl (show vs 10 = _ from hd.1) rfl rfE
              · intro vs wv hE hR
                have h17 : vs 17 = .bool true := hR 17 (by omega)
                rw [h17]
                have BZ := Lib.hid (BN.out.trans ((xd hE).mono BN.out.size))
                clear hR hE h17
                go_wp2_with fail
                go_ret
                exact ⟨rfl, BZ.out⟩
            · skip
              refine wp_region_rely2 (by kernel_rfl) 18 (by kernel_rfl) (by kernel_rfl) Ext Ext.refl Ext.trans (fun ix => match ix with
                | 0 => is (.pointer (some ⟨q, 0, none⟩))
                | 1 => is (.agg (u8s RT).toArray)
                | 2 => is (.pointer (some ⟨w.heap.size, 16, none⟩))
                | 3 => is (.agg (u8s m).toArray)
                | 4 => fun _ v => v = sigV (i : Int) (.slice (some ⟨gc, 0, none⟩) 68 cc) (.slice (some ⟨gp, 0, none⟩) 5 cp)
                | 5 => is (.bool true)
                | 6 => is (.pointer (some ⟨w.heap.size, 34, none⟩))
                | 7 => is (.int .u8 by_)
                | 8 => is (.bool false)
                | 9 => is (.bool false)
                | 10 => is (.bool false)
                | 11 => is (.pointer (some ⟨q, 0, none⟩))
                | 12 => is (.agg (u8s RT).toArray)
                | 13 => is (.pointer (some ⟨w.heap.size, 16, none⟩))
                | 14 => is (.agg (u8s m).toArray)
                | 15 => fun _ v => v = sigV (i : Int) (.slice (some ⟨gc, 0, none⟩) 68 cc) (.slice (some ⟨gp, 0, none⟩) 5 cp)
                | 16 => is (.bool true)
                | 17 => is (.bool true)
                | _ => fun _ _ => False) ?_
              simp (maxSteps := 10000000) only [Rely, List.take_succ_cons, List.take_zero, List.drop_succ_cons, List.drop_zero, Nat.reduceAdd, Nat.zero_add, Act.put, List.setIfInBounds_toArray, List.set_cons_succ, List.set_cons_zero]
              refine ⟨?_, ?_, ?_, ?_, ?_, ?_, ?_, ?_, ?_, ?_, ?_, ?_, ?_, ?_, ?_, ?_, ?_, ?_, ?_⟩
              · exact step_plain rfl fun vs wv hE hd => gives_move _ (.pointer (some ⟨q, 0, none⟩)) (.inl rfl) rfl rfE
              · refine step_plain rfl fun vs wv hE hd => ?_
                refine gives_call 63 (enters_of Tryd.func63 (by kernel_rfl) rfl) _ _ rfl rfl [.pointer (some ⟨q, 0, none⟩)] (congrArg (fun a => [a]) (show vs 0 = _ from hd.1)) ?_
                refine (keyRoot_any q x HL.out A c wv (K_N.out.below (xd hE))).mono ?_
                rintro _ w'' ⟨rfl, hb⟩
                exact ⟨_, rfl, hb, fun _ _ => by rw [HRT.out]; rfl⟩
              · exact step_plain rfl fun vs wv hE hd => gives_fieldAddr' 99 _ 1 rfl (.pointer (some ⟨w.heap.size, 0, none⟩)) _ rfl (by go_simp) rfE
              · exact step_plain rfl fun vs wv hE hd => gives_load_row 43 _ rfl w.heap.size 16 (show vs 2 = _ from hd.1) (u8s m) _ (sp_dig HL.out (blk_below TX_N.out (xd hE))) Tryd.underlying43 rfl (hi43 m HLM.out) rfE
              · exact step_plain rfl fun vs wv hE hd => gives_load_row 88 _ rfl b 0 rfl [Value.int .i64 (i : Int), .slice (some ⟨gc, 0, none⟩) 68 cc, .slice (some ⟨gp, 0, none⟩) 5 cp] _ (range_below RBN.out (xd hE)) Tryd.underlying88 rfl Tryd.size88' rfE
              · refine step_plain rfl fun vs wv hE hd => ?_
                refine gives_call 69 (enters_of Tryd.func69 (by kernel_rfl) rfl) _ _ rfl rfl [.agg (u8s RT).toArray, .agg (u8s m).toArray, sigV (i : Int) (.slice (some ⟨gc, 0, none⟩) 68 cc) (.slice (some ⟨gp, 0, none⟩) 5 cp)] (congr (congrArg (fun a b => a :: b) (show vs 1 = _ from hd.1)) (congr (congrArg (fun a b => a :: b) (show vs 3 = _ from hd.2.1)) (congrArg (fun a => [a]) (show vs 4 = _ from hd.2.2.1)))) ?_
                have hb5 := BN.out.trans ((xd hE).mono BN.out.size)
                refine (verify_any RT m RTL.out HLM.out HM.out i ds' ps' (some ⟨gc, 0, none⟩) (some ⟨gp, 0, none⟩) 68 cc 5 cp aR aF wv (DCN.out.below (xd hE)) (DPN.out.below (xd hE)) ⟨by rw [HDC.out, sigC_len], by rw [HDP.out, wayT_len]⟩ (cell_on (xd hE) CRN.out) (cell_on (xd hE) CFN.out) (range_below HK.out hb5) (Nat.lt_of_lt_of_le h18 hb5.size)).mono ?_
                rintro _ w'' ⟨rfl, hb⟩
                exact ⟨_, rfl, hb, fun _ _ => by rw [HRB.out]; rfl⟩
              · exact step_plain rfl fun vs wv hE hd => gives_fieldAddr' 99 _ 4 rfl (.pointer (some ⟨w.heap.size, 0, none⟩)) _ rfl (by go_simp) rfE
              · refine step_plain rfl fun vs wv hE hd => ?_
                have hc := (sp_cell HL.out HLM.out (blk_below TX_N.out (xd hE))).2.2.1
                exact gives_loadAt 5 _ rfl (.pointer (some ⟨w.heap.size, 34, none⟩)) (.int .u8 by_) (show vs 6 = _ from hd.1) (by go_simp) rfE
              · refine step_plain rfl fun vs wv hE hd => ?_
                have hbz : (by_ == 0) = false := by simp [HBZ2.out]
                exact gives_binOp .eql 5 _ _ _ rfl (.int .u8 by_) (.int .u8 0) (.bool false) (show vs 7 = _ from hd.1) rfl (by go_simp) (by go_simp) rfE
              · exact step_plain rfl fun vs wv hE hd => gives_binOp .eql 4 _ _ _ rfl (.bool true) (.bool false) (.bool false) (show vs 5 = _ from hd.1) (show vs 8 = _ from hd.2.1) (by go_simp) (by go_simp) rfE
              · exact step_plain rfl fun vs wv hE hd => gives_move _ (.bool false) (.inl rfl) (show vs 9 = _ from hd.1) rfE
              · exact step_guard 10 false 95 rfl rfl (fun _ => rfl) fun vs wv hE hd => ⟨hd.1, gives_move _ (.pointer (some ⟨q, 0, none⟩)) (.inl rfl) rfl rfE⟩
              · refine step_guard 10 false 95 rfl rfl (fun _ => rfl) fun vs wv hE hd => ⟨hd.2.1, ?_⟩
                refine gives_call 63 (enters_of Tryd.func63 (by kernel_rfl) rfl) _ _ rfl rfl [.pointer (some ⟨q, 0, none⟩)] (congrArg (fun a => [a]) (show vs 11 = _ from hd.1)) ?_
                refine (keyRoot_any q x HL.out A c wv (K_N.out.below (xd hE))).mono ?_
                rintro _ w'' ⟨rfl, hb⟩
                exact ⟨_, rfl, hb, fun _ _ => by rw [HRT.out]; rfl⟩
              · exact step_guard 10 false 95 rfl rfl (fun _ => rfl) fun vs wv hE hd => ⟨hd.1, gives_fieldAddr' 99 _ 1 rfl (.pointer (some ⟨w.heap.size, 0, none⟩)) _ rfl (by go_simp) rfE⟩
              · exact step_guard 10 false 95 rfl rfl (fun _ => rfl) fun vs wv hE hd => ⟨hd.2.1, gives_load_row 43 _ rfl w.heap.size 16 (show vs 13 = _ from hd.1) (u8s m) _ (sp_dig HL.out (blk_below TX_N.out (xd hE))) Tryd.underlying43 rfl (hi43 m HLM.out) rfE⟩
              · exact step_guard 10 false 95 rfl rfl (fun _ => rfl) fun vs wv hE hd => ⟨hd.1, gives_load_row 88 _ rfl b 0 rfl [Value.int .i64 (i : Int), .slice (some ⟨gc, 0, none⟩) 68 cc, .slice (some ⟨gp, 0, none⟩) 5 cp] _ (range_below RBN.out (xd hE)) Tryd.underlying88 rfl Tryd.size88' rfE⟩
              · refine step_guard 10 false 95 rfl rfl (fun _ => rfl) fun vs wv hE hd => ⟨hd.2.2.2.2.1, ?_⟩
                refine gives_call 70 (enters_of Tryd.func70 (by kernel_rfl) rfl) _ _ rfl rfl [.agg (u8s RT).toArray, .agg (u8s m).toArray, sigV (i : Int) (.slice (some ⟨gc, 0, none⟩) 68 cc) (.slice (some ⟨gp, 0, none⟩) 5 cp)] (congr (congrArg (fun a b => a :: b) (show vs 12 = _ from hd.1)) (congr (congrArg (fun a b => a :: b) (show vs 14 = _ from hd.2.1)) (congrArg (fun a => [a]) (show vs 15 = _ from hd.2.2.1)))) ?_
                have hb5 := BN.out.trans ((xd hE).mono BN.out.size)
                refine (refRight_any RT m RTL.out HLM.out HM.out i ds' ps' (some ⟨gc, 0, none⟩) (some ⟨gp, 0, none⟩) 68 cc 5 cp wv (DCN.out.below (xd hE)) (DPN.out.below (xd hE)) ⟨by rw [HDC.out, sigC_len], by rw [HDP.out, wayT_len]⟩).mono ?_
                rintro _ w'' ⟨rfl, hb⟩
                exact ⟨_, rfl, hb, fun _ _ => by rw [HRB.out]; rfl⟩
              · exact step_plain rfl fun vs wv hE hd => gives_pick _ _ _ (.bool true) false rfl (show vs 10 = _ from hd.1) (show vs 16 = _ from hd.2.1) rfE
              · intro vs wv hE hR
                have h17 : vs 17 = .bool true := hR 17 (by omega)
                rw [h17]
                have BZ := Lib.hid (BN.out.trans ((xd hE).mono BN.out.size))
                clear hR hE h17
                go_wp2_with fail
                go_ret
                exact ⟨rfl, BZ.out⟩
    · skip
      go_wp2_with (refine wpList_store_row rfl 88 (.tmp 6) (.tmp 36) rfl b rfl [Value.int .i64 (i : Int), .slice (some ⟨gc, 0, none⟩) 68 cc, .slice (some ⟨gp, 0, none⟩) 5 cp] rfl 88 ⟨sig0.toArray, rfl, TB5.out⟩ Tryd.size88' (one_sig _ _ _ _ _ _ _) ?_; intro w6 hp6; have hc35 : w6.cell? ⟨w.heap.size, 35, none⟩ = some (.bool true) := (sp_cell HL.out HLM.out (((hp6.below (Below.refl w4.heap.size wz) HBZ.out).block w.heap.size (blk_lt TX_4.out)).trans TX_5.out)).2.2.2)
      have L6 : Below w4.heap.size wz w6 := hp6.below (Below.refl _ _) HBZ.out
      have oc6 : w6.ownsRow w4.heap.size 43 16 (.slice (some ⟨gc, 0, none⟩) 68 cc) 68 (dcells (sigC i x m 68)) := own_other (q := b) OC5.out (Nat.le_of_eq hp6.size.symm) hp6.other hp6.os hp6.tape hp6.output (own_not OC5.out TB5.out (by decide))
      have op6 : w6.ownsRow w4.heap.size 43 16 (.slice (some ⟨gp, 0, none⟩) 5 cp) 5 (dcells (wayT (lvT x 32) i 5)) := own_other (q := b) OP5.out (Nat.le_of_eq hp6.size.symm) hp6.other hp6.os hp6.tape hp6.output (own_not OP5.out TB5.out (by decide))
      have hbx : Below w4.heap.size w4 w6 := (hLZ.out.mono (Nat.le_refl _)).trans L6
      have L46 := Lib.hid hbx
      have B6 := Lib.hid (B4.out.trans (hbx.mono B4.out.size))
      have S6 := Lib.hid (S4.out.below hbx)
      have K_6 := Lib.hid (K_4.out.below hbx)
      have DS_6 := Lib.hid (DS_4.out.below hbx)
      have DW_6 := Lib.hid (DW_4.out.below hbx)
      have TX_6 := Lib.hid (blk_below TX_4.out hbx)
      have TS_6 := Lib.hid (blk_below TS_4.out hbx)
      have OC6 := Lib.hid oc6
      have OP6 := Lib.hid op6
      have TB6 := Lib.hid hp6.blk
      obtain ⟨curc, hcc⟩ : ∃ cur, w6.heap[gc]? = some (.cells cur 43 (0, 0)) := by
        obtain ⟨_, _, cur, e, _, h⟩ := own_blk (by omega) oc6
        simp only [Value.slice.injEq, Option.some.injEq, Addr.mk.injEq] at e
        obtain ⟨⟨rfl, -, -⟩, -, -⟩ := e
        exact ⟨cur, h⟩
      obtain ⟨curp, hcp⟩ : ∃ cur, w6.heap[gp]? = some (.cells cur 43 (0, 0)) := by
        obtain ⟨_, _, cur, e, _, h⟩ := own_blk (by omega) op6
        simp only [Value.slice.injEq, Option.some.injEq, Addr.mk.injEq] at e
        obtain ⟨⟨rfl, -, -⟩, -, -⟩ := e
        exact ⟨cur, h⟩
      have HGC := Lib.hid (show w4.heap.size ≤ gc from (oc6.lt gc rfl).1)
      have HGP := Lib.hid (show w4.heap.size ≤ gp from (op6.lt gp rfl).1)
      have hbc : b ≠ gc := fun e => by rw [e] at TB6; have := TB6.out; rw [hcc] at this; simp at this
      have hbp : b ≠ gp := fun e => by rw [e] at TB6; have := TB6.out; rw [hcp] at this; simp at this
      have HBC := Lib.hid hbc
      have HBP := Lib.hid hbp
      have FC6 := Lib.hid hcc
      have FP6 := Lib.hid hcp
      have DC6 := Lib.hid (sig_dgs oc6)
      have DP6 := Lib.hid (way_dgs hi32 (lvT_len x 32) (lvT_good x 32) op6)
      clear hp6 L6 oc6 op6 hbx hcc hcp hbc hbp OC5 OP5 TB5 OC6 OP6 K_5 DS_5 DW_5 TX_5 TS_5 B5 S5
      obtain ⟨u5, hu5⟩ : ∃ u, IntKind.u64.wrap at_ = u := ⟨_, rfl⟩
      have hu5' : 0 ≤ u5 ∧ u5 < 18446744073709551616 := by rw [← hu5, IntKind.wrap_u64]; omega
      obtain ⟨hu51, hu52⟩ := hu5'
      have HU5 := Lib.hid hu5
      clear hu5
      obtain ⟨a, hua⟩ : ∃ a : Nat, u5 % 5 = a := ⟨(u5 % 5).toNat, by omega⟩
      have ha5 : a < 5 := by omega
      have HUA := Lib.hid hua
      obtain ⟨b0, hb0⟩ : ∃ b, b = (((wayT (lvT x 32) i 5)).getD a []).getD 0 0 := ⟨_, rfl⟩
      have hcell : w6.cell? ⟨gp, a * 16, none⟩ = some (.int .u8 b0) := by
        obtain ⟨b', off, c', e, _, _, _, h4⟩ := DP6.out.cells (by intro e; have := wayT_len (lvT x 32) i 5; rw [e] at this; simp at this)
        simp only [Value.slice.injEq, Option.some.injEq, Addr.mk.injEq] at e
        obtain ⟨⟨rfl, rfl, -⟩, -, -⟩ := e
        have hla : a < ((wayT (lvT x 32) i 5)).length := by rw [wayT_len]; exact ha5
        have := h4 a hla 0 (.int .u8 b0) (by rw [hb0]; exact first_u8 _ (DP6.out.at a hla).1)
        rwa [show 0 + a * 16 + 0 = a * 16 by omega] at this
      have CG := Lib.hid hcell
      have HB0 := Lib.hid hb0
      have C1 : Hid (∀ W, Below w6.heap.size w6 W → W.cell? ⟨b, 2, none⟩ = some (.slice (some ⟨gp, 0, none⟩) 5 cp) ∧ W.cell? ⟨w.heap.size, 33, none⟩ = some (.int .i64 at_) ∧ W.cell? ⟨w.heap.size, 34, none⟩ = some (.int .u8 by_)) := Lib.hid fun W hW => by
        have hs := blk_below TB6.out hW
        have hx := sp_cell HL.out HLM.out (blk_below TX_6.out hW)
        exact ⟨by rw [cell_of_row _ _ _ _ _ _ hs]; rfl, hx.2.1, hx.2.2.1⟩
      clear hcell hb0 hua
      go_wp2_with fail
      refine wp_region_rely2 (by kernel_rfl) 14 (by kernel_rfl) (by kernel_rfl) Ext Ext.refl Ext.trans (fun ix => match ix with
        | 0 => is (.pointer (some ⟨b, 2, none⟩))
        | 1 => is (.slice (some ⟨gp, 0, none⟩) 5 cp)
        | 2 => is (.pointer (some ⟨w.heap.size, 33, none⟩))
        | 3 => is (.int .i64 at_)
        | 4 => is (.int .u64 u5)
        | 5 => is (.int .u64 (a : Int))
        | 6 => is (.int .i64 (a : Int))
        | 7 => is (.pointer (some ⟨gp, a * 16, none⟩))
        | 8 => is (.pointer (some ⟨gp, a * 16, none⟩))
        | 9 => is (.int .u8 b0)
        | 10 => is (.pointer (some ⟨w.heap.size, 34, none⟩))
        | 11 => is (.int .u8 by_)
        | 12 => is (.int .u8 (bits .xor .u8 b0 by_))
        | 13 => is (.pointer (some ⟨gp, a * 16, none⟩))
        | _ => fun _ _ => False) ?_
      simp (maxSteps := 10000000) only [Rely, List.take_succ_cons, List.take_zero, List.drop_succ_cons, List.drop_zero, Nat.reduceAdd, Nat.zero_add, Act.put, List.setIfInBounds_toArray, List.set_cons_succ, List.set_cons_zero]
      refine ⟨?_, ?_, ?_, ?_, ?_, ?_, ?_, ?_, ?_, ?_, ?_, ?_, ?_, ?_, ?_⟩
      · exact step_plain rfl fun vs wy hE hd => gives_fieldAddr' 88 _ 2 rfl (.pointer (some ⟨b, 0, none⟩)) _ rfl (by go_simp) rfE
      · refine step_plain rfl fun vs wy hE hd => ?_
        have hc := (C1.out _ (xd hE)).1
        exact gives_loadAt 55 _ rfl (.pointer (some ⟨b, 2, none⟩)) (.slice (some ⟨gp, 0, none⟩) 5 cp) (show vs 0 = _ from hd.1) (by go_simp) rfE
      · exact step_plain rfl fun vs wy hE hd => gives_fieldAddr' 99 _ 3 rfl (.pointer (some ⟨w.heap.size, 0, none⟩)) _ rfl (by go_simp) rfE
      · refine step_plain rfl fun vs wy hE hd => ?_
        have hc := (C1.out _ (xd hE)).2.1
        exact gives_loadAt 3 _ rfl (.pointer (some ⟨w.heap.size, 33, none⟩)) (.int .i64 at_) (show vs 2 = _ from hd.1) (by go_simp) rfE
      · refine step_plain rfl fun vs wy hE hd => ?_
        have hu := HU5.out
        exact gives_convert 3 39 _ rfl (.int .i64 at_) (.int .u64 u5) (show vs 3 = _ from hd.1) (by go_simp) rfE
      · refine step_plain rfl fun vs wy hE hd => ?_
        have ht : u5.tmod 5 = (a : Int) := by rw [Int.tmod_eq_emod_of_nonneg hu51]; exact HUA.out
        exact gives_binOp .rem 39 _ _ _ rfl (.int .u64 u5) (.int .u64 5) (.int .u64 (a : Int)) (show vs 4 = _ from hd.1) rfl (by go_simp) (by go_simp) rfE
      · refine step_plain rfl fun vs wy hE hd => ?_
        have hw : IntKind.i64.wrap (a : Int) = a := by rw [IntKind.wrap_i64]; omega
        exact gives_convert 39 3 _ rfl (.int .u64 (a : Int)) (.int .i64 (a : Int)) (show vs 5 = _ from hd.1) (by go_simp) rfE
      · refine step_plain rfl fun vs wy hE hd => ?_
        have hal : (a : Int) < 5 := by omega
        exact gives_indexAt 55 _ _ rfl (.slice (some ⟨gp, 0, none⟩) 5 cp) (.int .i64 (a : Int)) (.pointer (some ⟨gp, a * 16, none⟩)) (show vs 1 = _ from hd.1) (show vs 6 = _ from hd.2.1) (by go_simp) rfE
      · exact step_plain rfl fun vs wy hE hd => gives_indexAt 43 _ _ rfl (.pointer (some ⟨gp, a * 16, none⟩)) (Value.int IntKind.i64 0) (.pointer (some ⟨gp, a * 16, none⟩)) (show vs 7 = _ from hd.1) rfl (by go_simp) rfE
      · refine step_plain rfl fun vs wy hE hd => ?_
        have hc := cell_on (xd hE) CG.out
        exact gives_loadAt 5 _ rfl (.pointer (some ⟨gp, a * 16, none⟩)) (.int .u8 b0) (show vs 8 = _ from hd.1) (by go_simp) rfE
      · exact step_plain rfl fun vs wy hE hd => gives_fieldAddr' 99 _ 4 rfl (.pointer (some ⟨w.heap.size, 0, none⟩)) _ rfl (by go_simp) rfE
      · refine step_plain rfl fun vs wy hE hd => ?_
        have hc := (C1.out _ (xd hE)).2.2
        exact gives_loadAt 5 _ rfl (.pointer (some ⟨w.heap.size, 34, none⟩)) (.int .u8 by_) (show vs 10 = _ from hd.1) (by go_simp) rfE
      · exact step_plain rfl fun vs wy hE hd => gives_binOp .xor 5 _ _ _ rfl (.int .u8 b0) (.int .u8 by_) (.int .u8 (bits .xor .u8 b0 by_)) (show vs 9 = _ from (hd.1)) (show vs 11 = _ from (hd.2.1)) (by go_simp) (by go_simp) rfE
      · refine step_plain rfl fun vs wy hE hd => ?_
        have hal : (a : Int) < 5 := by omega
        exact gives_indexAt 55 _ _ rfl (.slice (some ⟨gp, 0, none⟩) 5 cp) (.int .i64 (a : Int)) (.pointer (some ⟨gp, a * 16, none⟩)) (show vs 1 = _ from hd.1) (show vs 6 = _ from hd.2.1) (by go_simp) rfE
      · intro vs wy hE hR
        have h12 : vs 12 = .int .u8 (bits .xor .u8 b0 by_) := hR 12 (by omega)
        have h13 : vs 13 = _ := hR 13 (by omega)
        rw [h12, h13]
        have LY : Below w6.heap.size w6 wy := ext_of_drew hE
        have hcz : wy.cell? ⟨gp, a * 16, none⟩ = some (.int .u8 b0) := cell_on LY CG.out
        have hfz : wy.frozen? ⟨gp, a * 16, none⟩ = false := blk_free (blk_below FP6.out LY) _
        have DC7 := DC6.out.below LY
        have DP7 := DP6.out.below LY
        obtain ⟨ds', ps', d1, d2, d3, d4, d5, _⟩ := dgs_two DC7 (sigC_len _ _ _ _).symm DP7 (wayT_len _ _ _).symm ha5 HB0.out HBY.out
        obtain ⟨wM, hwM⟩ : ∃ y, y = wy.setCell ⟨gp, a * 16, none⟩ (.int .u8 (bits .xor .u8 b0 by_)) := ⟨_, rfl⟩
        rw [← hwM] at d1 d2
        have LM : Below w4.heap.size w6 wM := by rw [hwM]; exact (LY.mono (show w4.heap.size ≤ w6.heap.size by have := blk_lt FP6.out; have := HGP.out; omega)).setCell (p := ⟨gp, a * 16, none⟩) HGP.out _
        have tbM : wM.heap[b]? = some (.cells ([Value.int .i64 (i : Int), .slice (some ⟨gc, 0, none⟩) 68 cc, .slice (some ⟨gp, 0, none⟩) 5 cp] : List Value).toArray 88 (0, 0)) := by rw [hwM]; exact (heap_setCell_other wy ⟨gp, a * 16, none⟩ b _ HBP.out).trans (blk_below TB6.out LY)
        have lw : Below w4.heap.size w4 wM := L46.out.trans LM
        have BM := Lib.hid (B4.out.trans (lw.mono B4.out.size))
        have SM := Lib.hid (S4.out.below lw)
        have K_M := Lib.hid (K_4.out.below lw)
        have DS_M := Lib.hid (DS_4.out.below lw)
        have DW_M := Lib.hid (DW_4.out.below lw)
        have TX_M := Lib.hid (blk_below TX_4.out lw)
        have TS_M := Lib.hid (blk_below TS_4.out lw)
        have DCM := Lib.hid d1
        have DPM := Lib.hid d2
        have HDC := Lib.hid d3
        have HDP := Lib.hid d4
        have HEQ : Hid ((ds' = (sigC i x m 68) ∧ ps' = (wayT (lvT x 32) i 5)) ↔ by_ = 0) := Lib.hid d5
        have TBM := Lib.hid tbM
        have HWM := Lib.hid hwM
        clear hR hE h12 h13 LY DC7 DP7 d1 d2 d3 d4 d5 hwM LM tbM lw CG C1 hc35
        go_wp2_with fail
        rw [← HWM.out]
        clear hcz hfz HWM
        obtain ⟨aR, haR⟩ := sen_at SM.out 0 (by omega)
        obtain ⟨aF, haF⟩ := sen_at SM.out 3 (by omega)
        have CR := Lib.hid (SM.out.cell 0 1 aR rfl haR)
        have CF := Lib.hid (SM.out.cell 3 0 aF rfl haF)
        have RS := Lib.hid (blk_range (xs := [Value.int .i64 (i : Int), .slice (some ⟨g, 0, none⟩) 68 cs, .slice (some ⟨g2, 0, none⟩) 5 ds]) TS_M.out)
        have RB := Lib.hid (blk_range (xs := [Value.int .i64 (i : Int), .slice (some ⟨gc, 0, none⟩) 68 cc, .slice (some ⟨gp, 0, none⟩) 5 cp]) TBM.out)
        clear haR haF
        by_cases hz : by_ = 0
        · skip
          have heq : (ds' = (sigC i x m 68) ∧ ps' = (wayT (lvT x 32) i 5)) ↔ by_ = 0 := HEQ.out
          subst hz
          obtain ⟨hd1, hd2⟩ := heq.2 rfl
          clear heq
          go_wp2_with fail
          refine wp_region_rely2 (by kernel_rfl) 16 (by kernel_rfl) (by kernel_rfl) Ext Ext.refl Ext.trans (fun ix => match ix with
            | 0 => fun _ v => v = sigV (i : Int) (.slice (some ⟨g, 0, none⟩) 68 cs) (.slice (some ⟨g2, 0, none⟩) 5 ds)
            | 1 => fun _ v => v = sigV (i : Int) (.slice (some ⟨gc, 0, none⟩) 68 cc) (.slice (some ⟨gp, 0, none⟩) 5 cp)
            | 2 => is (.bool true)
            | 3 => is (.pointer (some ⟨w.heap.size, 34, none⟩))
            | 4 => is (.int .u8 (0 : Int))
            | 5 => is (.bool true)
            | 6 => is (.bool false)
            | 7 => is (.bool false)
            | 8 => fun _ v => v = sigV (i : Int) (.slice (some ⟨gc, 0, none⟩) 68 cc) (.slice (some ⟨gp, 0, none⟩) 5 cp)
            | 9 => fun _ v => v = sigV (i : Int) (.slice (some ⟨g, 0, none⟩) 68 cs) (.slice (some ⟨g2, 0, none⟩) 5 ds)
            | 10 => is (.bool true)
            | 11 => is (.pointer (some ⟨w.heap.size, 34, none⟩))
            | 12 => is (.int .u8 (0 : Int))
            | 13 => is (.bool true)
            | 14 => is (.bool false)
            | 15 => is (.bool false)
            | _ => fun _ _ => False) ?_
          simp (maxSteps := 10000000) only [Rely, List.take_succ_cons, List.take_zero, List.drop_succ_cons, List.drop_zero, Nat.reduceAdd, Nat.zero_add, Act.put, List.setIfInBounds_toArray, List.set_cons_succ, List.set_cons_zero]
          refine ⟨?_, ?_, ?_, ?_, ?_, ?_, ?_, ?_, ?_, ?_, ?_, ?_, ?_, ?_, ?_, ?_, ?_⟩
          · exact step_plain rfl fun vs wu hE hd => gives_load_row 88 _ rfl w3.heap.size 0 rfl [Value.int .i64 (i : Int), .slice (some ⟨g, 0, none⟩) 68 cs, .slice (some ⟨g2, 0, none⟩) 5 ds] _ (range_below RS.out (xd hE)) Tryd.underlying88 rfl Tryd.size88' rfE
          · exact step_plain rfl fun vs wu hE hd => gives_load_row 88 _ rfl b 0 rfl [Value.int .i64 (i : Int), .slice (some ⟨gc, 0, none⟩) 68 cc, .slice (some ⟨gp, 0, none⟩) 5 cp] _ (range_below RB.out (xd hE)) Tryd.underlying88 rfl Tryd.size88' rfE
          · refine step_plain rfl fun vs wu hE hd => ?_
            refine gives_call 64 (enters_of Tryd.func64 (by kernel_rfl) rfl) _ _ rfl rfl [sigV (i : Int) (.slice (some ⟨g, 0, none⟩) 68 cs) (.slice (some ⟨g2, 0, none⟩) 5 ds), sigV (i : Int) (.slice (some ⟨gc, 0, none⟩) 68 cc) (.slice (some ⟨gp, 0, none⟩) 5 cp)] (congr (congrArg (fun a b => a :: b) (show vs 0 = _ from hd.1)) (congrArg (fun a => [a]) (show vs 1 = _ from hd.2.1))) ?_
            refine (ksame_any i i (sigC i x m 68) ds' (wayT (lvT x 32) i 5) ps' (some ⟨g, 0, none⟩) (some ⟨gc, 0, none⟩) (some ⟨g2, 0, none⟩) (some ⟨gp, 0, none⟩) 68 68 cs cc 5 5 ds cp wu (DS_M.out.below (xd hE)) (DCM.out.below (xd hE)) (DW_M.out.below (xd hE)) (DPM.out.below (xd hE)) ⟨(sigC_len _ _ _ _).symm, (by rw [HDC.out, sigC_len]), (wayT_len _ _ _).symm, (by rw [HDP.out, wayT_len])⟩ (by omega) (by omega)).mono ?_
            rintro _ w'' ⟨rfl, hb⟩
            exact ⟨_, rfl, hb, fun _ _ => by rw [decide_eq_true (show (i : Int) = i ∧ (sigC i x m 68) = ds' ∧ (wayT (lvT x 32) i 5) = ps' from ⟨rfl, hd1.symm, hd2.symm⟩)]; rfl⟩
          · exact step_plain rfl fun vs wu hE hd => gives_fieldAddr' 99 _ 4 rfl (.pointer (some ⟨w.heap.size, 0, none⟩)) _ rfl (by go_simp) rfE
          · refine step_plain rfl fun vs wu hE hd => ?_
            have hc := (sp_cell HL.out HLM.out (blk_below TX_M.out (xd hE))).2.2.1
            exact gives_loadAt 5 _ rfl (.pointer (some ⟨w.heap.size, 34, none⟩)) (.int .u8 (0 : Int)) (show vs 3 = _ from hd.1) (by go_simp) rfE
          · exact step_plain rfl fun vs wu hE hd => gives_binOp .eql 5 _ _ _ rfl (.int .u8 (0 : Int)) (.int .u8 0) (.bool true) (show vs 4 = _ from hd.1) rfl (by go_simp) (by go_simp) rfE
          · exact step_plain rfl fun vs wu hE hd => gives_binOp .neq 4 _ _ _ rfl (.bool true) (.bool true) (.bool false) (show vs 2 = _ from hd.1) (show vs 5 = _ from hd.2.1) (by go_simp) (by go_simp) rfE
          · exact step_plain rfl fun vs wu hE hd => gives_move _ (.bool false) (.inl rfl) (show vs 6 = _ from hd.1) rfE
          · exact step_guard 7 false 76 rfl rfl (fun _ => rfl) fun vs wu hE hd => ⟨hd.1, gives_load_row 88 _ rfl b 0 rfl [Value.int .i64 (i : Int), .slice (some ⟨gc, 0, none⟩) 68 cc, .slice (some ⟨gp, 0, none⟩) 5 cp] _ (range_below RB.out (xd hE)) Tryd.underlying88 rfl Tryd.size88' rfE⟩
          · exact step_guard 7 false 76 rfl rfl (fun _ => rfl) fun vs wu hE hd => ⟨hd.1, gives_load_row 88 _ rfl w3.heap.size 0 rfl [Value.int .i64 (i : Int), .slice (some ⟨g, 0, none⟩) 68 cs, .slice (some ⟨g2, 0, none⟩) 5 ds] _ (range_below RS.out (xd hE)) Tryd.underlying88 rfl Tryd.size88' rfE⟩
          · refine step_guard 7 false 76 rfl rfl (fun _ => rfl) fun vs wu hE hd => ⟨hd.2.2.2.1, ?_⟩
            refine gives_call 64 (enters_of Tryd.func64 (by kernel_rfl) rfl) _ _ rfl rfl [sigV (i : Int) (.slice (some ⟨gc, 0, none⟩) 68 cc) (.slice (some ⟨gp, 0, none⟩) 5 cp), sigV (i : Int) (.slice (some ⟨g, 0, none⟩) 68 cs) (.slice (some ⟨g2, 0, none⟩) 5 ds)] (congr (congrArg (fun a b => a :: b) (show vs 8 = _ from hd.1)) (congrArg (fun a => [a]) (show vs 9 = _ from hd.2.1))) ?_
            refine (ksame_any i i ds' (sigC i x m 68) ps' (wayT (lvT x 32) i 5) (some ⟨gc, 0, none⟩) (some ⟨g, 0, none⟩) (some ⟨gp, 0, none⟩) (some ⟨g2, 0, none⟩) 68 68 cc cs 5 5 cp ds wu (DCM.out.below (xd hE)) (DS_M.out.below (xd hE)) (DPM.out.below (xd hE)) (DW_M.out.below (xd hE)) ⟨(by rw [HDC.out, sigC_len]), (sigC_len _ _ _ _).symm, (by rw [HDP.out, wayT_len]), (wayT_len _ _ _).symm⟩ (by omega) (by omega)).mono ?_
            rintro _ w'' ⟨rfl, hb⟩
            exact ⟨_, rfl, hb, fun _ _ => by rw [decide_eq_true (show (i : Int) = i ∧ ds' = (sigC i x m 68) ∧ ps' = (wayT (lvT x 32) i 5) from ⟨rfl, hd1, hd2⟩)]; rfl⟩
          · exact step_guard 7 false 76 rfl rfl (fun _ => rfl) fun vs wu hE hd => ⟨hd.1, gives_fieldAddr' 99 _ 4 rfl (.pointer (some ⟨w.heap.size, 0, none⟩)) _ rfl (by go_simp) rfE⟩
          · refine step_guard 7 false 76 rfl rfl (fun _ => rfl) fun vs wu hE hd => ⟨hd.2.1, ?_⟩
            have hc := (sp_cell HL.out HLM.out (blk_below TX_M.out (xd hE))).2.2.1
            exact gives_loadAt 5 _ rfl (.pointer (some ⟨w.heap.size, 34, none⟩)) (.int .u8 (0 : Int)) (show vs 11 = _ from hd.1) (by go_simp) rfE
          · exact step_guard 7 false 76 rfl rfl (fun _ => rfl) fun vs wu hE hd => ⟨hd.2.1, gives_binOp .eql 5 _ _ _ rfl (.int .u8 (0 : Int)) (.int .u8 0) (.bool true) (show vs 12 = _ from hd.1) rfl (by go_simp) (by go_simp) rfE⟩
          · exact step_guard 7 false 76 rfl rfl (fun _ => rfl) fun vs wu hE hd => ⟨hd.2.2.1, gives_binOp .neq 4 _ _ _ rfl (.bool true) (.bool true) (.bool false) (show vs 10 = _ from hd.1) (show vs 13 = _ from hd.2.1) (by go_simp) (by go_simp) rfE⟩
          · exact step_plain rfl fun vs wu hE hd => gives_pick _ _ _ (.bool false) false rfl (show vs 7 = _ from hd.1) (show vs 14 = _ from hd.2.1) rfE
          · intro vs wu hE hR
            have h15 : vs 15 = .bool false := hR 15 (by omega)
            rw [h15]
            have BN := Lib.hid (BM.out.trans ((xd hE).mono BM.out.size))
            have K_N := Lib.hid (K_M.out.below (xd hE))
            have TX_N := Lib.hid (blk_below TX_M.out (xd hE))
            have DCN := Lib.hid (DCM.out.below (xd hE))
            have DPN := Lib.hid (DPM.out.below (xd hE))
            have RBN := Lib.hid (range_below RB.out (xd hE))
            have CRN := Lib.hid (cell_on (xd hE) CR.out)
            have CFN := Lib.hid (cell_on (xd hE) CF.out)
            clear hR hE h15
            obtain ⟨rb, hrb⟩ : ∃ rb, rb = rightC RT m i ds' ps' := ⟨_, rfl⟩
            go_wp2_with fail
            have hrt : rb = true := by rw [hrb, hd1, hd2, HRT.out]; exact right_made x m i hi32
            subst hrt
            have HRB := Lib.hid hrb
            clear hrb
            refine wp_region_rely2 (by kernel_rfl) 18 (by kernel_rfl) (by kernel_rfl) Ext Ext.refl Ext.trans (fun ix => match ix with
              | 0 => is (.pointer (some ⟨q, 0, none⟩))
              | 1 => is (.agg (u8s RT).toArray)
              | 2 => is (.pointer (some ⟨w.heap.size, 16, none⟩))
              | 3 => is (.agg (u8s m).toArray)
              | 4 => fun _ v => v = sigV (i : Int) (.slice (some ⟨gc, 0, none⟩) 68 cc) (.slice (some ⟨gp, 0, none⟩) 5 cp)
              | 5 => is (.bool true)
              | 6 => is (.pointer (some ⟨w.heap.size, 34, none⟩))
              | 7 => is (.int .u8 (0 : Int))
              | 8 => is (.bool true)
              | 9 => is (.bool true)
              | 10 => is (.bool true)
              | 11 => fun _ v => v = undef
              | 12 => fun _ v => v = undef
              | 13 => fun _ v => v = undef
              | 14 => fun _ v => v = undef
              | 15 => fun _ v => v = undef
              | 16 => fun _ v => v = undef
              | 17 => is (.bool true)
              | _ => fun _ _ => False) ?_
            simp (maxSteps := 10000000) only [Rely, List.take_succ_cons, List.take_zero, List.drop_succ_cons, List.drop_zero, Nat.reduceAdd, Nat.zero_add, Act.put, List.setIfInBounds_toArray, List.set_cons_succ, List.set_cons_zero]
            refine ⟨?_, ?_, ?_, ?_, ?_, ?_, ?_, ?_, ?_, ?_, ?_, ?_, ?_, ?_, ?_, ?_, ?_, ?_, ?_⟩
            · exact step_plain rfl fun vs wv hE hd => gives_move _ (.pointer (some ⟨q, 0, none⟩)) (.inl rfl) rfl rfE
            · refine step_plain rfl fun vs wv hE hd => ?_
              refine gives_call 63 (enters_of Tryd.func63 (by kernel_rfl) rfl) _ _ rfl rfl [.pointer (some ⟨q, 0, none⟩)] (congrArg (fun a => [a]) (show vs 0 = _ from hd.1)) ?_
              refine (keyRoot_any q x HL.out A c wv (K_N.out.below (xd hE))).mono ?_
              rintro _ w'' ⟨rfl, hb⟩
              exact ⟨_, rfl, hb, fun _ _ => by rw [HRT.out]; rfl⟩
            · exact step_plain rfl fun vs wv hE hd => gives_fieldAddr' 99 _ 1 rfl (.pointer (some ⟨w.heap.size, 0, none⟩)) _ rfl (by go_simp) rfE
            · exact step_plain rfl fun vs wv hE hd => gives_load_row 43 _ rfl w.heap.size 16 (show vs 2 = _ from hd.1) (u8s m) _ (sp_dig HL.out (blk_below TX_N.out (xd hE))) Tryd.underlying43 rfl (hi43 m HLM.out) rfE
            · exact step_plain rfl fun vs wv hE hd => gives_load_row 88 _ rfl b 0 rfl [Value.int .i64 (i : Int), .slice (some ⟨gc, 0, none⟩) 68 cc, .slice (some ⟨gp, 0, none⟩) 5 cp] _ (range_below RBN.out (xd hE)) Tryd.underlying88 rfl Tryd.size88' rfE
            · refine step_plain rfl fun vs wv hE hd => ?_
              refine gives_call 69 (enters_of Tryd.func69 (by kernel_rfl) rfl) _ _ rfl rfl [.agg (u8s RT).toArray, .agg (u8s m).toArray, sigV (i : Int) (.slice (some ⟨gc, 0, none⟩) 68 cc) (.slice (some ⟨gp, 0, none⟩) 5 cp)] (congr (congrArg (fun a b => a :: b) (show vs 1 = _ from hd.1)) (congr (congrArg (fun a b => a :: b) (show vs 3 = _ from hd.2.1)) (congrArg (fun a => [a]) (show vs 4 = _ from hd.2.2.1)))) ?_
              have hb5 := BN.out.trans ((xd hE).mono BN.out.size)
              refine (verify_any RT m RTL.out HLM.out HM.out i ds' ps' (some ⟨gc, 0, none⟩) (some ⟨gp, 0, none⟩) 68 cc 5 cp aR aF wv (DCN.out.below (xd hE)) (DPN.out.below (xd hE)) ⟨by rw [HDC.out, sigC_len], by rw [HDP.out, wayT_len]⟩ (cell_on (xd hE) CRN.out) (cell_on (xd hE) CFN.out) (range_below HK.out hb5) (Nat.lt_of_lt_of_le h18 hb5.size)).mono ?_
              rintro _ w'' ⟨rfl, hb⟩
              exact ⟨_, rfl, hb, fun _ _ => by rw [HRB.out]; rfl⟩
            · exact step_plain rfl fun vs wv hE hd => gives_fieldAddr' 99 _ 4 rfl (.pointer (some ⟨w.heap.size, 0, none⟩)) _ rfl (by go_simp) rfE
            · refine step_plain rfl fun vs wv hE hd => ?_
              have hc := (sp_cell HL.out HLM.out (blk_below TX_N.out (xd hE))).2.2.1
              exact gives_loadAt 5 _ rfl (.pointer (some ⟨w.heap.size, 34, none⟩)) (.int .u8 (0 : Int)) (show vs 6 = _ from hd.1) (by go_simp) rfE
            · exact step_plain rfl fun vs wv hE hd => gives_binOp .eql 5 _ _ _ rfl (.int .u8 (0 : Int)) (.int .u8 0) (.bool true) (show vs 7 = _ from hd.1) rfl (by go_simp) (by go_simp) rfE
            · exact step_plain rfl fun vs wv hE hd => gives_binOp .eql 4 _ _ _ rfl (.bool true) (.bool true) (.bool true) (show vs 5 = _ from hd.1) (show vs 8 = _ from hd.2.1) (by go_simp) (by go_simp) rfE
            · exact step_plain rfl fun vs wv hE hd => gives_move _ (.bool true) (.inl rfl) (show vs 9 = _ from hd.1) rfE
            · refine step_skip 10 false 95 rfl rfl (fun _ => rfl) fun vs wv hE hd => ⟨.inl hd.1, fun _ => rfl⟩
            · refine step_skip 10 false 95 rfl rfl (fun _ => rfl) fun vs wv hE hd => ⟨.inl hd.2.1, fun _ => rfl⟩
            · refine step_skip 10 false 95 rfl rfl (fun _ => rfl) fun vs wv hE hd => ⟨.inl hd.1, fun _ => rfl⟩
            · refine step_skip 10 false 95 rfl rfl (fun _ => rfl) fun vs wv hE hd => ⟨.inl hd.2.1, fun _ => rfl⟩
            · refine step_skip 10 false 95 rfl rfl (fun _ => rfl) fun vs wv hE hd => ⟨.inl hd.1, fun _ => rfl⟩
            · refine step_skip 10 false 95 rfl rfl (fun _ => rfl) fun vs wv hE hd => ⟨.inl hd.2.2.2.2.1, fun _ => rfl⟩
            · exact step_plain rfl fun vs wv hE hd => gives_pick _ _ _ (.bool true) true rfl (show vs 10 = _ from hd.1) rfl rfE
            · intro vs wv hE hR
              have h17 : vs 17 = .bool true := hR 17 (by omega)
              rw [h17]
              have BZ := Lib.hid (BN.out.trans ((xd hE).mono BN.out.size))
              clear hR hE h17
              go_wp2_with fail
              go_ret
              exact ⟨rfl, BZ.out⟩
        · skip
          have heq : (ds' = (sigC i x m 68) ∧ ps' = (wayT (lvT x 32) i 5)) ↔ by_ = 0 := HEQ.out
          have hnz : ¬ (ds' = (sigC i x m 68) ∧ ps' = (wayT (lvT x 32) i 5)) := fun e => hz (heq.1 e)
          have HNZ := Lib.hid hnz
          have HBZ2 := Lib.hid hz
          clear hnz hz
          clear heq
          go_wp2_with fail
          refine wp_region_rely2 (by kernel_rfl) 16 (by kernel_rfl) (by kernel_rfl) Ext Ext.refl Ext.trans (fun ix => match ix with
            | 0 => fun _ v => v = sigV (i : Int) (.slice (some ⟨g, 0, none⟩) 68 cs) (.slice (some ⟨g2, 0, none⟩) 5 ds)
            | 1 => fun _ v => v = sigV (i : Int) (.slice (some ⟨gc, 0, none⟩) 68 cc) (.slice (some ⟨gp, 0, none⟩) 5 cp)
            | 2 => is (.bool false)
            | 3 => is (.pointer (some ⟨w.heap.size, 34, none⟩))
            | 4 => is (.int .u8 by_)
            | 5 => is (.bool false)
            | 6 => is (.bool false)
            | 7 => is (.bool false)
            | 8 => fun _ v => v = sigV (i : Int) (.slice (some ⟨gc, 0, none⟩) 68 cc) (.slice (some ⟨gp, 0, none⟩) 5 cp)
            | 9 => fun _ v => v = sigV (i : Int) (.slice (some ⟨g, 0, none⟩) 68 cs) (.slice (some ⟨g2, 0, none⟩) 5 ds)
            | 10 => is (.bool false)
            | 11 => is (.pointer (some ⟨w.heap.size, 34, none⟩))
            | 12 => is (.int .u8 by_)
            | 13 => is (.bool false)
            | 14 => is (.bool false)
            | 15 => is (.bool false)
            | _ => fun _ _ => False) ?_
          simp (maxSteps := 10000000) only [Rely, List.take_succ_cons, List.take_zero, List.drop_succ_cons, List.drop_zero, Nat.reduceAdd, Nat.zero_add, Act.put, List.setIfInBounds_toArray, List.set_cons_succ, List.set_cons_zero]
          refine ⟨?_, ?_, ?_, ?_, ?_, ?_, ?_, ?_, ?_, ?_, ?_, ?_, ?_, ?_, ?_, ?_, ?_⟩
          · exact step_plain rfl fun vs wu hE hd => gives_load_row 88 _ rfl w3.heap.size 0 rfl [Value.int .i64 (i : Int), .slice (some ⟨g, 0, none⟩) 68 cs, .slice (some ⟨g2, 0, none⟩) 5 ds] _ (range_below RS.out (xd hE)) Tryd.underlying88 rfl Tryd.size88' rfE
          · exact step_plain rfl fun vs wu hE hd => gives_load_row 88 _ rfl b 0 rfl [Value.int .i64 (i : Int), .slice (some ⟨gc, 0, none⟩) 68 cc, .slice (some ⟨gp, 0, none⟩) 5 cp] _ (range_below RB.out (xd hE)) Tryd.underlying88 rfl Tryd.size88' rfE
          · refine step_plain rfl fun vs wu hE hd => ?_
            refine gives_call 64 (enters_of Tryd.func64 (by kernel_rfl) rfl) _ _ rfl rfl [sigV (i : Int) (.slice (some ⟨g, 0, none⟩) 68 cs) (.slice (some ⟨g2, 0, none⟩) 5 ds), sigV (i : Int) (.slice (some ⟨gc, 0, none⟩) 68 cc) (.slice (some ⟨gp, 0, none⟩) 5 cp)] (congr (congrArg (fun a b => a :: b) (show vs 0 = _ from hd.1)) (congrArg (fun a => [a]) (show vs 1 = _ from hd.2.1))) ?_
            refine (ksame_any i i (sigC i x m 68) ds' (wayT (lvT x 32) i 5) ps' (some ⟨g, 0, none⟩) (some ⟨gc, 0, none⟩) (some ⟨g2, 0, none⟩) (some ⟨gp, 0, none⟩) 68 68 cs cc 5 5 ds cp wu (DS_M.out.below (xd hE)) (DCM.out.below (xd hE)) (DW_M.out.below (xd hE)) (DPM.out.below (xd hE)) ⟨(sigC_len _ _ _ _).symm, (by rw [HDC.out, sigC_len]), (wayT_len _ _ _).symm, (by rw [HDP.out, wayT_len])⟩ (by omega) (by omega)).mono ?_
            rintro _ w'' ⟨rfl, hb⟩
            exact ⟨_, rfl, hb, fun _ _ => by rw [decide_eq_false (show ¬ ((i : Int) = i ∧ (sigC i x m 68) = ds' ∧ (wayT (lvT x 32) i 5) = ps') from fun h => HNZ.out ⟨h.2.1.symm, h.2.2.symm⟩)]; rfl⟩
          · exact step_plain rfl fun vs wu hE hd => gives_fieldAddr' 99 _ 4 rfl (.pointer (some ⟨w.heap.size, 0, none⟩)) _ rfl (by go_simp) rfE
          · refine step_plain rfl fun vs wu hE hd => ?_
            have hc := (sp_cell HL.out HLM.out (blk_below TX_M.out (xd hE))).2.2.1
            exact gives_loadAt 5 _ rfl (.pointer (some ⟨w.heap.size, 34, none⟩)) (.int .u8 by_) (show vs 3 = _ from hd.1) (by go_simp) rfE
          · refine step_plain rfl fun vs wu hE hd => ?_
            have hbz : (by_ == 0) = false := by simp [HBZ2.out]
            exact gives_binOp .eql 5 _ _ _ rfl (.int .u8 by_) (.int .u8 0) (.bool false) (show vs 4 = _ from hd.1) rfl (by go_simp) (by go_simp) rfE
          · exact step_plain rfl fun vs wu hE hd => gives_binOp .neq 4 _ _ _ rfl (.bool false) (.bool false) (.bool false) (show vs 2 = _ from hd.1) (show vs 5 = _ from hd.2.1) (by go_simp) (by go_simp) rfE
          · exact step_plain rfl fun vs wu hE hd => gives_move _ (.bool false) (.inl rfl) (show vs 6 = _ from hd.1) rfE
          · exact step_guard 7 false 76 rfl rfl (fun _ => rfl) fun vs wu hE hd => ⟨hd.1, gives_load_row 88 _ rfl b 0 rfl [Value.int .i64 (i : Int), .slice (some ⟨gc, 0, none⟩) 68 cc, .slice (some ⟨gp, 0, none⟩) 5 cp] _ (range_below RB.out (xd hE)) Tryd.underlying88 rfl Tryd.size88' rfE⟩
          · exact step_guard 7 false 76 rfl rfl (fun _ => rfl) fun vs wu hE hd => ⟨hd.1, gives_load_row 88 _ rfl w3.heap.size 0 rfl [Value.int .i64 (i : Int), .slice (some ⟨g, 0, none⟩) 68 cs, .slice (some ⟨g2, 0, none⟩) 5 ds] _ (range_below RS.out (xd hE)) Tryd.underlying88 rfl Tryd.size88' rfE⟩
          · refine step_guard 7 false 76 rfl rfl (fun _ => rfl) fun vs wu hE hd => ⟨hd.2.2.2.1, ?_⟩
            refine gives_call 64 (enters_of Tryd.func64 (by kernel_rfl) rfl) _ _ rfl rfl [sigV (i : Int) (.slice (some ⟨gc, 0, none⟩) 68 cc) (.slice (some ⟨gp, 0, none⟩) 5 cp), sigV (i : Int) (.slice (some ⟨g, 0, none⟩) 68 cs) (.slice (some ⟨g2, 0, none⟩) 5 ds)] (congr (congrArg (fun a b => a :: b) (show vs 8 = _ from hd.1)) (congrArg (fun a => [a]) (show vs 9 = _ from hd.2.1))) ?_
            refine (ksame_any i i ds' (sigC i x m 68) ps' (wayT (lvT x 32) i 5) (some ⟨gc, 0, none⟩) (some ⟨g, 0, none⟩) (some ⟨gp, 0, none⟩) (some ⟨g2, 0, none⟩) 68 68 cc cs 5 5 cp ds wu (DCM.out.below (xd hE)) (DS_M.out.below (xd hE)) (DPM.out.below (xd hE)) (DW_M.out.below (xd hE)) ⟨(by rw [HDC.out, sigC_len]), (sigC_len _ _ _ _).symm, (by rw [HDP.out, wayT_len]), (wayT_len _ _ _).symm⟩ (by omega) (by omega)).mono ?_
            rintro _ w'' ⟨rfl, hb⟩
            exact ⟨_, rfl, hb, fun _ _ => by rw [decide_eq_false (show ¬ ((i : Int) = i ∧ ds' = (sigC i x m 68) ∧ ps' = (wayT (lvT x 32) i 5)) from fun h => HNZ.out ⟨h.2.1, h.2.2⟩)]; rfl⟩
          · exact step_guard 7 false 76 rfl rfl (fun _ => rfl) fun vs wu hE hd => ⟨hd.1, gives_fieldAddr' 99 _ 4 rfl (.pointer (some ⟨w.heap.size, 0, none⟩)) _ rfl (by go_simp) rfE⟩
          · refine step_guard 7 false 76 rfl rfl (fun _ => rfl) fun vs wu hE hd => ⟨hd.2.1, ?_⟩
            have hc := (sp_cell HL.out HLM.out (blk_below TX_M.out (xd hE))).2.2.1
            exact gives_loadAt 5 _ rfl (.pointer (some ⟨w.heap.size, 34, none⟩)) (.int .u8 by_) (show vs 11 = _ from hd.1) (by go_simp) rfE
          · refine step_guard 7 false 76 rfl rfl (fun _ => rfl) fun vs wu hE hd => ⟨hd.2.1, ?_⟩
            have hbz : (by_ == 0) = false := by simp [HBZ2.out]
            exact gives_binOp .eql 5 _ _ _ rfl (.int .u8 by_) (.int .u8 0) (.bool false) (show vs 12 = _ from hd.1) rfl (by go_simp) (by go_simp) rfE
          · exact step_guard 7 false 76 rfl rfl (fun _ => rfl) fun vs wu hE hd => ⟨hd.2.2.1, gives_binOp .neq 4 _ _ _ rfl (.bool false) (.bool false) (.bool false) (show vs 10 = _ from hd.1) (show vs 13 = _ from hd.2.1) (by go_simp) (by go_simp) rfE⟩
          · exact step_plain rfl fun vs wu hE hd => gives_pick _ _ _ (.bool false) false rfl (show vs 7 = _ from hd.1) (show vs 14 = _ from hd.2.1) rfE
          · intro vs wu hE hR
            have h15 : vs 15 = .bool false := hR 15 (by omega)
            rw [h15]
            have BN := Lib.hid (BM.out.trans ((xd hE).mono BM.out.size))
            have K_N := Lib.hid (K_M.out.below (xd hE))
            have TX_N := Lib.hid (blk_below TX_M.out (xd hE))
            have DCN := Lib.hid (DCM.out.below (xd hE))
            have DPN := Lib.hid (DPM.out.below (xd hE))
            have RBN := Lib.hid (range_below RB.out (xd hE))
            have CRN := Lib.hid (cell_on (xd hE) CR.out)
            have CFN := Lib.hid (cell_on (xd hE) CF.out)
            clear hR hE h15
            obtain ⟨rb, hrb⟩ : ∃ rb, rb = rightC RT m i ds' ps' := ⟨_, rfl⟩
            go_wp2_with fail
            have HRB := Lib.hid hrb
            clear hrb
            cases rb
            · skip
              refine wp_region_rely2 (by kernel_rfl) 18 (by kernel_rfl) (by kernel_rfl) Ext Ext.refl Ext.trans (fun ix => match ix with
                | 0 => is (.pointer (some ⟨q, 0, none⟩))
                | 1 => is (.agg (u8s RT).toArray)
                | 2 => is (.pointer (some ⟨w.heap.size, 16, none⟩))
                | 3 => is (.agg (u8s m).toArray)
                | 4 => fun _ v => v = sigV (i : Int) (.slice (some ⟨gc, 0, none⟩) 68 cc) (.slice (some ⟨gp, 0, none⟩) 5 cp)
                | 5 => is (.bool false)
                | 6 => is (.pointer (some ⟨w.heap.size, 34, none⟩))
                | 7 => is (.int .u8 by_)
                | 8 => is (.bool false)
                | 9 => is (.bool true)
                | 10 => is (.bool true)
                | 11 => fun _ v => v = undef
                | 12 => fun _ v => v = undef
                | 13 => fun _ v => v = undef
                | 14 => fun _ v => v = undef
                | 15 => fun _ v => v = undef
                | 16 => fun _ v => v = undef
                | 17 => is (.bool true)
                | _ => fun _ _ => False) ?_
              simp (maxSteps := 10000000) only [Rely, List.take_succ_cons, List.take_zero, List.drop_succ_cons, List.drop_zero, Nat.reduceAdd, Nat.zero_add, Act.put, List.setIfInBounds_toArray, List.set_cons_succ, List.set_cons_zero]
              refine ⟨?_, ?_, ?_, ?_, ?_, ?_, ?_, ?_, ?_, ?_, ?_, ?_, ?_, ?_, ?_, ?_, ?_, ?_, ?_⟩
              · exact step_plain rfl fun vs wv hE hd => gives_move _ (.pointer (some ⟨q, 0, none⟩)) (.inl rfl) rfl rfE
              · refine step_plain rfl fun vs wv hE hd => ?_
                refine gives_call 63 (enters_of Tryd.func63 (by kernel_rfl) rfl) _ _ rfl rfl [.pointer (some ⟨q, 0, none⟩)] (congrArg (fun a => [a]) (show vs 0 = _ from hd.1)) ?_
                refine (keyRoot_any q x HL.out A c wv (K_N.out.below (xd hE))).mono ?_
                rintro _ w'' ⟨rfl, hb⟩
                exact ⟨_, rfl, hb, fun _ _ => by rw [HRT.out]; rfl⟩
              · exact step_plain rfl fun vs wv hE hd => gives_fieldAddr' 99 _ 1 rfl (.pointer (some ⟨w.heap.size, 0, none⟩)) _ rfl (by go_simp) rfE
              · exact step_plain rfl fun vs wv hE hd => gives_load_row 43 _ rfl w.heap.size 16 (show vs 2 = _ from hd.1) (u8s m) _ (sp_dig HL.out (blk_below TX_N.out (xd hE))) Tryd.underlying43 rfl (hi43 m HLM.out) rfE
              · exact step_plain rfl fun vs wv hE hd => gives_load_row 88 _ rfl b 0 rfl [Value.int .i64 (i : Int), .slice (some ⟨gc, 0, none⟩) 68 cc, .slice (some ⟨gp, 0, none⟩) 5 cp] _ (range_below RBN.out (xd hE)) Tryd.underlying88 rfl Tryd.size88' rfE
              · refine step_plain rfl fun vs wv hE hd => ?_
                refine gives_call 69 (enters_of Tryd.func69 (by kernel_rfl) rfl) _ _ rfl rfl [.agg (u8s RT).toArray, .agg (u8s m).toArray, sigV (i : Int) (.slice (some ⟨gc, 0, none⟩) 68 cc) (.slice (some ⟨gp, 0, none⟩) 5 cp)] (congr (congrArg (fun a b => a :: b) (show vs 1 = _ from hd.1)) (congr (congrArg (fun a b => a :: b) (show vs 3 = _ from hd.2.1)) (congrArg (fun a => [a]) (show vs 4 = _ from hd.2.2.1)))) ?_
                have hb5 := BN.out.trans ((xd hE).mono BN.out.size)
                refine (verify_any RT m RTL.out HLM.out HM.out i ds' ps' (some ⟨gc, 0, none⟩) (some ⟨gp, 0, none⟩) 68 cc 5 cp aR aF wv (DCN.out.below (xd hE)) (DPN.out.below (xd hE)) ⟨by rw [HDC.out, sigC_len], by rw [HDP.out, wayT_len]⟩ (cell_on (xd hE) CRN.out) (cell_on (xd hE) CFN.out) (range_below HK.out hb5) (Nat.lt_of_lt_of_le h18 hb5.size)).mono ?_
                rintro _ w'' ⟨rfl, hb⟩
                exact ⟨_, rfl, hb, fun _ _ => by rw [HRB.out]; rfl⟩
              · exact step_plain rfl fun vs wv hE hd => gives_fieldAddr' 99 _ 4 rfl (.pointer (some ⟨w.heap.size, 0, none⟩)) _ rfl (by go_simp) rfE
              · refine step_plain rfl fun vs wv hE hd => ?_
                have hc := (sp_cell HL.out HLM.out (blk_below TX_N.out (xd hE))).2.2.1
                exact gives_loadAt 5 _ rfl (.pointer (some ⟨w.heap.size, 34, none⟩)) (.int .u8 by_) (show vs 6 = _ from hd.1) (by go_simp) rfE
              · refine step_plain rfl fun vs wv hE hd => ?_
                have hbz : (by_ == 0) = false := by simp [HBZ2.out]
                exact gives_binOp .eql 5 _ _ _ rfl (.int .u8 by_) (.int .u8 0) (.bool false) (show vs 7 = _ from hd.1) rfl (by go_simp) (by go_simp) rfE
              · exact step_plain rfl fun vs wv hE hd => gives_binOp .eql 4 _ _ _ rfl (.bool false) (.bool false) (.bool true) (show vs 5 = _ from hd.1) (show vs 8 = _ from hd.2.1) (by go_simp) (by go_simp) rfE
              · exact step_plain rfl fun vs wv hE hd => gives_move _ (.bool true) (.inl rfl) (show vs 9 = _ from hd.1) rfE
              · refine step_skip 10 false 95 rfl rfl (fun _ => rfl) fun vs wv hE hd => ⟨.inl hd.1, fun _ => rfl⟩
              · refine step_skip 10 false 95 rfl rfl (fun _ => rfl) fun vs wv hE hd => ⟨.inl hd.2.1, fun _ => rfl⟩
              · refine step_skip 10 false 95 rfl rfl (fun _ => rfl) fun vs wv hE hd => ⟨.inl hd.1, fun _ => rfl⟩
              · refine step_skip 10 false 95 rfl rfl (fun _ => rfl) fun vs wv hE hd => ⟨.inl hd.2.1, fun _ => rfl⟩
              · refine step_skip 10 false 95 rfl rfl (fun _ => rfl) fun vs wv hE hd => ⟨.inl hd.1, fun _ => rfl⟩
              · refine step_skip 10 false 95 rfl rfl (fun _ => rfl) fun vs wv hE hd => ⟨.inl hd.2.2.2.2.1, fun _ => rfl⟩
              · exact step_plain rfl fun vs wv hE hd => gives_pick _ _ _ (.bool true) true rfl (show vs 10 = _ from hd.1) rfl rfE
              · intro vs wv hE hR
                have h17 : vs 17 = .bool true := hR 17 (by omega)
                rw [h17]
                have BZ := Lib.hid (BN.out.trans ((xd hE).mono BN.out.size))
                clear hR hE h17
                go_wp2_with fail
                go_ret
                exact ⟨rfl, BZ.out⟩
            · skip
              refine wp_region_rely2 (by kernel_rfl) 18 (by kernel_rfl) (by kernel_rfl) Ext Ext.refl Ext.trans (fun ix => match ix with
                | 0 => is (.pointer (some ⟨q, 0, none⟩))
                | 1 => is (.agg (u8s RT).toArray)
                | 2 => is (.pointer (some ⟨w.heap.size, 16, none⟩))
                | 3 => is (.agg (u8s m).toArray)
                | 4 => fun _ v => v = sigV (i : Int) (.slice (some ⟨gc, 0, none⟩) 68 cc) (.slice (some ⟨gp, 0, none⟩) 5 cp)
                | 5 => is (.bool true)
                | 6 => is (.pointer (some ⟨w.heap.size, 34, none⟩))
                | 7 => is (.int .u8 by_)
                | 8 => is (.bool false)
                | 9 => is (.bool false)
                | 10 => is (.bool false)
                | 11 => is (.pointer (some ⟨q, 0, none⟩))
                | 12 => is (.agg (u8s RT).toArray)
                | 13 => is (.pointer (some ⟨w.heap.size, 16, none⟩))
                | 14 => is (.agg (u8s m).toArray)
                | 15 => fun _ v => v = sigV (i : Int) (.slice (some ⟨gc, 0, none⟩) 68 cc) (.slice (some ⟨gp, 0, none⟩) 5 cp)
                | 16 => is (.bool true)
                | 17 => is (.bool true)
                | _ => fun _ _ => False) ?_
              simp (maxSteps := 10000000) only [Rely, List.take_succ_cons, List.take_zero, List.drop_succ_cons, List.drop_zero, Nat.reduceAdd, Nat.zero_add, Act.put, List.setIfInBounds_toArray, List.set_cons_succ, List.set_cons_zero]
              refine ⟨?_, ?_, ?_, ?_, ?_, ?_, ?_, ?_, ?_, ?_, ?_, ?_, ?_, ?_, ?_, ?_, ?_, ?_, ?_⟩
              · exact step_plain rfl fun vs wv hE hd => gives_move _ (.pointer (some ⟨q, 0, none⟩)) (.inl rfl) rfl rfE
              · refine step_plain rfl fun vs wv hE hd => ?_
                refine gives_call 63 (enters_of Tryd.func63 (by kernel_rfl) rfl) _ _ rfl rfl [.pointer (some ⟨q, 0, none⟩)] (congrArg (fun a => [a]) (show vs 0 = _ from hd.1)) ?_
                refine (keyRoot_any q x HL.out A c wv (K_N.out.below (xd hE))).mono ?_
                rintro _ w'' ⟨rfl, hb⟩
                exact ⟨_, rfl, hb, fun _ _ => by rw [HRT.out]; rfl⟩
              · exact step_plain rfl fun vs wv hE hd => gives_fieldAddr' 99 _ 1 rfl (.pointer (some ⟨w.heap.size, 0, none⟩)) _ rfl (by go_simp) rfE
              · exact step_plain rfl fun vs wv hE hd => gives_load_row 43 _ rfl w.heap.size 16 (show vs 2 = _ from hd.1) (u8s m) _ (sp_dig HL.out (blk_below TX_N.out (xd hE))) Tryd.underlying43 rfl (hi43 m HLM.out) rfE
              · exact step_plain rfl fun vs wv hE hd => gives_load_row 88 _ rfl b 0 rfl [Value.int .i64 (i : Int), .slice (some ⟨gc, 0, none⟩) 68 cc, .slice (some ⟨gp, 0, none⟩) 5 cp] _ (range_below RBN.out (xd hE)) Tryd.underlying88 rfl Tryd.size88' rfE
              · refine step_plain rfl fun vs wv hE hd => ?_
                refine gives_call 69 (enters_of Tryd.func69 (by kernel_rfl) rfl) _ _ rfl rfl [.agg (u8s RT).toArray, .agg (u8s m).toArray, sigV (i : Int) (.slice (some ⟨gc, 0, none⟩) 68 cc) (.slice (some ⟨gp, 0, none⟩) 5 cp)] (congr (congrArg (fun a b => a :: b) (show vs 1 = _ from hd.1)) (congr (congrArg (fun a b => a :: b) (show vs 3 = _ from hd.2.1)) (congrArg (fun a => [a]) (show vs 4 = _ from hd.2.2.1)))) ?_
                have hb5 := BN.out.trans ((xd hE).mono BN.out.size)
                refine (verify_any RT m RTL.out HLM.out HM.out i ds' ps' (some ⟨gc, 0, none⟩) (some ⟨gp, 0, none⟩) 68 cc 5 cp aR aF wv (DCN.out.below (xd hE)) (DPN.out.below (xd hE)) ⟨by rw [HDC.out, sigC_len], by rw [HDP.out, wayT_len]⟩ (cell_on (xd hE) CRN.out) (cell_on (xd hE) CFN.out) (range_below HK.out hb5) (Nat.lt_of_lt_of_le h18 hb5.size)).mono ?_
                rintro _ w'' ⟨rfl, hb⟩
                exact ⟨_, rfl, hb, fun _ _ => by rw [HRB.out]; rfl⟩
              · exact step_plain rfl fun vs wv hE hd => gives_fieldAddr' 99 _ 4 rfl (.pointer (some ⟨w.heap.size, 0, none⟩)) _ rfl (by go_simp) rfE
              · refine step_plain rfl fun vs wv hE hd => ?_
                have hc := (sp_cell HL.out HLM.out (blk_below TX_N.out (xd hE))).2.2.1
                exact gives_loadAt 5 _ rfl (.pointer (some ⟨w.heap.size, 34, none⟩)) (.int .u8 by_) (show vs 6 = _ from hd.1) (by go_simp) rfE
              · refine step_plain rfl fun vs wv hE hd => ?_
                have hbz : (by_ == 0) = false := by simp [HBZ2.out]
                exact gives_binOp .eql 5 _ _ _ rfl (.int .u8 by_) (.int .u8 0) (.bool false) (show vs 7 = _ from hd.1) rfl (by go_simp) (by go_simp) rfE
              · exact step_plain rfl fun vs wv hE hd => gives_binOp .eql 4 _ _ _ rfl (.bool true) (.bool false) (.bool false) (show vs 5 = _ from hd.1) (show vs 8 = _ from hd.2.1) (by go_simp) (by go_simp) rfE
              · exact step_plain rfl fun vs wv hE hd => gives_move _ (.bool false) (.inl rfl) (show vs 9 = _ from hd.1) rfE
              · exact step_guard 10 false 95 rfl rfl (fun _ => rfl) fun vs wv hE hd => ⟨hd.1, gives_move _ (.pointer (some ⟨q, 0, none⟩)) (.inl rfl) rfl rfE⟩
              · refine step_guard 10 false 95 rfl rfl (fun _ => rfl) fun vs wv hE hd => ⟨hd.2.1, ?_⟩
                refine gives_call 63 (enters_of Tryd.func63 (by kernel_rfl) rfl) _ _ rfl rfl [.pointer (some ⟨q, 0, none⟩)] (congrArg (fun a => [a]) (show vs 11 = _ from hd.1)) ?_
                refine (keyRoot_any q x HL.out A c wv (K_N.out.below (xd hE))).mono ?_
                rintro _ w'' ⟨rfl, hb⟩
                exact ⟨_, rfl, hb, fun _ _ => by rw [HRT.out]; rfl⟩
              · exact step_guard 10 false 95 rfl rfl (fun _ => rfl) fun vs wv hE hd => ⟨hd.1, gives_fieldAddr' 99 _ 1 rfl (.pointer (some ⟨w.heap.size, 0, none⟩)) _ rfl (by go_simp) rfE⟩
              · exact step_guard 10 false 95 rfl rfl (fun _ => rfl) fun vs wv hE hd => ⟨hd.2.1, gives_load_row 43 _ rfl w.heap.size 16 (show vs 13 = _ from hd.1) (u8s m) _ (sp_dig HL.out (blk_below TX_N.out (xd hE))) Tryd.underlying43 rfl (hi43 m HLM.out) rfE⟩
              · exact step_guard 10 false 95 rfl rfl (fun _ => rfl) fun vs wv hE hd => ⟨hd.1, gives_load_row 88 _ rfl b 0 rfl [Value.int .i64 (i : Int), .slice (some ⟨gc, 0, none⟩) 68 cc, .slice (some ⟨gp, 0, none⟩) 5 cp] _ (range_below RBN.out (xd hE)) Tryd.underlying88 rfl Tryd.size88' rfE⟩
              · refine step_guard 10 false 95 rfl rfl (fun _ => rfl) fun vs wv hE hd => ⟨hd.2.2.2.2.1, ?_⟩
                refine gives_call 70 (enters_of Tryd.func70 (by kernel_rfl) rfl) _ _ rfl rfl [.agg (u8s RT).toArray, .agg (u8s m).toArray, sigV (i : Int) (.slice (some ⟨gc, 0, none⟩) 68 cc) (.slice (some ⟨gp, 0, none⟩) 5 cp)] (congr (congrArg (fun a b => a :: b) (show vs 12 = _ from hd.1)) (congr (congrArg (fun a b => a :: b) (show vs 14 = _ from hd.2.1)) (congrArg (fun a => [a]) (show vs 15 = _ from hd.2.2.1)))) ?_
                have hb5 := BN.out.trans ((xd hE).mono BN.out.size)
                refine (refRight_any RT m RTL.out HLM.out HM.out i ds' ps' (some ⟨gc, 0, none⟩) (some ⟨gp, 0, none⟩) 68 cc 5 cp wv (DCN.out.below (xd hE)) (DPN.out.below (xd hE)) ⟨by rw [HDC.out, sigC_len], by rw [HDP.out, wayT_len]⟩).mono ?_
                rintro _ w'' ⟨rfl, hb⟩
                exact ⟨_, rfl, hb, fun _ _ => by rw [HRB.out]; rfl⟩
              · exact step_plain rfl fun vs wv hE hd => gives_pick _ _ _ (.bool true) false rfl (show vs 10 = _ from hd.1) (show vs 16 = _ from hd.2.1) rfE
              · intro vs wv hE hR
                have h17 : vs 17 = .bool true := hR 17 (by omega)
                rw [h17]
                have BZ := Lib.hid (BN.out.trans ((xd hE).mono BN.out.size))
                clear hR hE h17
                go_wp2_with fail
                go_ret
                exact ⟨rfl, BZ.out⟩
end Go.Proofs.YtdedphhohiioiaaDoor
