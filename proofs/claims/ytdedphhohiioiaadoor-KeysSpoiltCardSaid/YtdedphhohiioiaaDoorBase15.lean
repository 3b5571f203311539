/- Lemmas that laws of this seat rest on, part 15; each says its own conditions: TreesKeptW. -/
import Derived.Test.YtdedphhohiioiaaDoorBase14
/- TreesKept: what the law does. -/
namespace Go.Proofs.YtdedphhohiioiaaDoor
open Go.RowKit Go.Shelf

theorem dcells_len (ds : List (List Int)) (h : ∀ d ∈ ds, d.length = 16) : (dcells ds).length = ds.length * 16 := by
  induction ds with
  | nil => rfl
  | cons d ds ih =>
    rw [show dcells (d :: ds) = u8s d ++ dcells ds by simp [dcells], List.length_append, u8s_len', h d (by simp), ih (fun e he => h e (by simp [he])), List.length_cons]
    omega
theorem dcells_one (ds : List (List Int)) : ∀ q ∈ dcells ds, q.oneCell' = true := by
  intro q hq
  obtain ⟨d, _, hqd⟩ := List.mem_flatMap.1 hq
  exact one_u8s d q hqd
theorem Dgs.flat {w : World} {b o n c : Nat} {ds : List (List Int)} (h : Dgs w (.slice (some ⟨b, o, none⟩) n c) ds) (hn : n = ds.length) (h1 : 1 ≤ n) : w.rangeAt b o (dcells ds) := by
  have hne : ds ≠ [] := by intro e; rw [e] at hn; simp at hn; omega
  obtain ⟨b', o', c', e, _, _, _, hr⟩ := h.cells hne
  simp only [Value.slice.injEq, Option.some.injEq, Addr.mk.injEq] at e
  obtain ⟨⟨rfl, rfl, -⟩, -, -⟩ := e
  intro j u hu
  have hg : ∀ d ∈ ds, d.length = 16 := fun d hd => (h.good d hd).1
  have hj := (List.getElem?_eq_some_iff.1 hu).1
  rw [dcells_len ds hg] at hj
  have hq : j / 16 < ds.length := by omega
  have hat := dcells_at ds hg (j / 16) (j % 16) hq (by omega)
  rw [show j / 16 * 16 + j % 16 = j by omega, hu] at hat
  have := hr (j / 16) hq (j % 16) u hat.symm
  rwa [show o + j / 16 * 16 + j % 16 = o + j by omega] at this
theorem add_cell' {w : World} {b o : Nat} {cs : List Value} (h : w.rangeAt b o cs) : ∀ j u, cs[j]? = some u → w.cell? ((⟨b, o, none⟩ : Addr).add j) = some u := fun j u hu => by
  rw [show (⟨b, o, none⟩ : Addr).add j = ⟨b, o + j, none⟩ by unfold Addr.add; split <;> simp_all]
  exact h j u hu
theorem way_dgs {w : World} {base : Nat} {v : Value} {ds : List (List Int)} {i : Nat} (hi : i < 32) (hds : ds.length = 32) (hg : ∀ d ∈ ds, d.length = 16 ∧ u8s_ok d) (h : w.ownsRow base 43 16 v 5 (dcells (wayT ds i 5))) : Dgs w v (wayT ds i 5) :=
  Dgs.of_own h (wayT_len ds i 5).symm (wayT_good ds i hi hds hg 5 (by omega))

set_option maxHeartbeats 8000000 in
set_option maxRecDepth 100000 in
theorem treesKept_any (ds : List (List Int)) (A : Option Addr) (k c : Nat) (i0 : Int) (w : World) (hd : Dgs w (.slice A k c) ds) (hkl : k = ds.length) (hk : w.rangeAt 18 0 (u32s kk)) (h18 : 18 < w.heap.size) :
    Calls Tryd.prog 16 #[.slice A k c, .int .i64 i0] w fun e w' => e = .returned (.bool true) ∧ Below w.heap.size w w' := by
  have hi43 : ∀ V : List Int, V.length = 16 → (Tryd.prog.info? 43).map (·.size) = some (u8s V).length := fun V h => by rw [u8s_len', h]; exact Tryd.size43
  have HD := Lib.hid hd
  have HKL := Lib.hid hkl
  have HK := Lib.hid hk
  clear hd hkl hk
  go_enter Tryd.func16, Tryd.ntmps16
  go_wp2_with fail
  refine (alive_trees w HK.out h18).mono ?_
  rintro e w1 ⟨rfl, hb1⟩
  have B1 := Lib.hid hb1
  clear hb1
  by_cases hk32 : k = 32
  case neg =>
    have hkne : ((k : Int) != 32) = true := by simp; omega
    go_wp2_with fail
    go_ret
    exact ⟨rfl, B1.out⟩
  subst hk32
  have hds : ds.length = 32 := HKL.out.symm
  have hne : ds ≠ [] := by intro e; rw [e] at hds; simp at hds
  obtain ⟨b0, o0, c', he, hc0, hbb, _⟩ := slice_form HD.out hne
  simp only [Value.slice.injEq] at he
  obtain ⟨rfl, -, rfl⟩ := he
  have HDS := Lib.hid hds
  have HG := Lib.hid HD.out.good
  have FL := Lib.hid (HD.out.flat HKL.out (by omega))
  have DLN : Hid ((dcells ds).length = 32 * 16) := Lib.hid (by rw [dcells_len ds (fun d hd => (HG.out d hd).1), hds])
  clear hds hne hc0
  obtain ⟨u, hu⟩ : ∃ u, IntKind.u64.wrap i0 = u := ⟨_, rfl⟩
  have hu0 : 0 ≤ u ∧ u < 18446744073709551616 := by rw [← hu, IntKind.wrap_u64]; omega
  obtain ⟨hu1, hu2⟩ := hu0
  obtain ⟨i, hi⟩ : ∃ i : Nat, u % 32 = i := ⟨(u % 32).toNat, by omega⟩
  have hi32 : i < 32 := by omega
  have hiI : (i : Int) < 32 := by omega
  go_wp2_with (at_builtin; refine appN (w0 := w1) w1.heap.size rfl (.tmp 24) (.tmp 25) 55 43 (.agg (Array.replicate 16 (.int .u8 0))) 16 16 rfl Tryd.underlying55 Tryd.info43 rfl (by omega) (by omega) _ 0 [] rfl ⟨b0, o0, none⟩ 32 c (dcells ds) rfl DLN.out (add_cell' (range_below FL.out (B1.out.trans (((Below.refl w1.heap.size w1).alloc (Nat.le_refl _) _).mono B1.out.size)))) (dcells_one ds) (World.ownsRow_made w1 #[] 0 (Nat.le_refl _) (by simp) rfl) ((Below.refl w1.heap.size w1).alloc (Nat.le_refl _) _) (by simp) (by omega) ?_; intro v5 w5 ap5; have ow5 : w5.ownsRow w1.heap.size 43 16 v5 32 (dcells ds) := (by have := ap5.own; rw [List.nil_append] at this; exact this); obtain ⟨gi, ci, _, rfl, _, _⟩ := own_blk2 (by omega) ow5; have b15 := ap5.below; have AI5 := Lib.hid ow5; have BI5 := Lib.hid b15; clear ap5 ow5 b15)
  have B5 := Lib.hid (B1.out.trans (BI5.out.mono B1.out.size))
  have DI5 := Lib.hid (Dgs.of_own AI5.out HDS.out.symm HG.out)
  clear AI5 BI5
  refine (path_ok ds (some ⟨gi, 0, none⟩) 32 ci i hi32 w5 DI5.out HDS.out.symm rfl (range_below HK.out B5.out) (Nat.lt_of_lt_of_le h18 B5.out.size)).mono ?_
  rintro e w6 ⟨v6, rfl, ro6, hb6⟩
  obtain ⟨g, cp, cur, rfl, hg1, hg2⟩ := own_blk2 (by omega) ro6
  have hg6 : g < w6.heap.size := blk_lt hg2
  have E6 := Lib.hid hb6
  have P6 := Lib.hid ro6
  have G6 := Lib.hid hg2
  clear hb6 ro6 hg2
  go_wp2_with fail
  refine (root_ok ds (some ⟨gi, 0, none⟩) 32 ci w6 (DI5.out.below E6.out) HDS.out.symm rfl (range_below HK.out (B5.out.trans (E6.out.mono B5.out.size))) (by have := B5.out.size; have := E6.out.size; omega)).mono ?_
  rintro e w7 ⟨rfl, hb7⟩
  obtain ⟨ST, hST⟩ : ∃ s, s = rootT ds := ⟨_, rfl⟩
  have hsl : ST.length = 16 := by rw [hST]; exact (rootT_good ds HDS.out HG.out).1
  rw [← hST]
  have HST := Lib.hid hsl
  have HHN := Lib.hid (has_new w7 (Array.replicate 16 (Value.int .u8 0)) 43 (u8s ST).length (by rw [u8s_len', hsl]; rfl))
  have E7 := Lib.hid (E6.out.trans (hb7.mono E6.out.size))
  have P7 := Lib.hid (own_bel P6.out hb7)
  have G7 := Lib.hid (blk_below G6.out hb7)
  have hg7 : g < w7.heap.size := Nat.lt_of_lt_of_le hg6 hb7.size
  have WLN : Hid ((dcells (wayT ds i 5)).length = 5 * 16) := Lib.hid P6.out.1
  clear hb7 hST hsl E6 P6 G6
  go_wp2_with (first | (refine wpList_store_row rfl 43 (.tmp 8) (.tmp 36) rfl w7.heap.size rfl (u8s ST) rfl 43 HHN.out (hi43 ST HST.out) (one_u8s _) ?_; intro w8 hp8; have L8 : Below w7.heap.size w7 w8 := (hp8.below ((Below.refl _ _).alloc (Nat.le_refl _) _) (Nat.le_refl _)); have E8 := Lib.hid (E7.out.trans (L8.mono E7.out.size)); have P8 := Lib.hid (own_bel P7.out L8); have G8 := Lib.hid (blk_below G7.out L8); have hg8 : g < w8.heap.size := Nat.lt_of_lt_of_le hg7 L8.size; clear hp8 L8) | (at_builtin; refine appN (w0 := w8) w8.heap.size rfl (.tmp 44) (.tmp 45) 55 43 (.agg (Array.replicate 16 (.int .u8 0))) 16 16 rfl Tryd.underlying55 Tryd.info43 rfl (by omega) (by omega) _ 0 [] rfl ⟨g, 0, none⟩ 5 cp (dcells (wayT ds i 5)) rfl WLN.out (fun j q hq => ((own_bel P8.out ((Below.refl w8.heap.size w8).alloc (Nat.le_refl _) _)).cells rfl j q hq)) (dcells_one _) (World.ownsRow_made w8 #[] 0 (Nat.le_refl _) (by simp) rfl) ((Below.refl w8.heap.size w8).alloc (Nat.le_refl _) _) (by simp) (by omega) ?_; intro v9 w9 ap9; have ow9 : w9.ownsRow w8.heap.size 43 16 v9 5 (dcells (wayT ds i 5)) := (by have := ap9.own; rw [List.nil_append] at this; exact this); obtain ⟨Aw, cw, rfl⟩ := own_form ow9; have b89 := ap9.below; have OW9 := Lib.hid ow9; have E9 := Lib.hid (E8.out.trans (b89.mono E8.out.size)); have P9 := Lib.hid (own_bel P8.out b89); have G9 := Lib.hid (blk_below G8.out b89); clear ap9 ow9 b89; obtain ⟨_, _, _, eI, _, _, rI⟩ := slice_form (DI5.out.below E9.out) (by intro e; have := HDS.out; rw [e] at this; simp at this); simp only [Value.slice.injEq, Option.some.injEq, Addr.mk.injEq] at eI; obtain ⟨⟨rfl, rfl, -⟩, -, rfl⟩ := eI; have RI9 := Lib.hid (rI i (by rw [HDS.out]; exact hi32)); clear rI; have gI := Lib.hid (DI5.out.at i (by rw [HDS.out]; exact hi32)); obtain ⟨LI, hLI⟩ : ∃ d, d = ds.getD i [] := ⟨_, rfl⟩; rw [← hLI] at RI9 gI; have HLI := Lib.hid hLI; clear hLI) | (refine wpList_load_g rfl 43 (.tmp 50) rfl gi (i * 16) rfl (u8s LI) _ (by have := RI9.out; rwa [Nat.zero_add] at this) Tryd.underlying43 rfl (hi43 LI gI.out.1) ?_))
  have DW9 := Lib.hid (way_dgs hi32 HDS.out HG.out P9.out)
  have hb59 : Hid (w.heap.size ≤ w5.heap.size) := Lib.hid B5.out.size
  refine (climb_in LI gI.out.1 gI.out.2 i hi32 (wayT ds i 5) (some ⟨g, 0, none⟩) 5 cp w9 DW9.out (wayT_len ds i 5).symm rfl (range_below HK.out (B5.out.trans (E9.out.mono B5.out.size))) (by have := B5.out.size; have := E9.out.size; omega)).mono ?_
  rintro e w10 ⟨rfl, hb10⟩
  obtain ⟨CT, hCT⟩ : ∃ s, s = climbAt LI i (wayT ds i 5) 5 := ⟨_, rfl⟩
  have hcl : CT.length = 16 := by rw [hCT]; exact (climb_good LI i (wayT ds i 5) gI.out.1 gI.out.2 5).1
  rw [← hCT]
  have HCT := Lib.hid hcl
  have HHC := Lib.hid (has_new w10 (Array.replicate 16 (Value.int .u8 0)) 43 (u8s CT).length (by rw [u8s_len', hcl]; rfl))
  have E10 := Lib.hid (E9.out.trans (hb10.mono E9.out.size))
  have P10 := Lib.hid (own_bel P9.out hb10)
  have G10 := Lib.hid (blk_below G9.out hb10)
  have OW10 := Lib.hid (own_bel OW9.out hb10)
  clear hb10 hCT hcl RI9 HLI
  go_wp2_with (refine wpList_store_row rfl 43 (.tmp 11) (.tmp 55) rfl w10.heap.size rfl (u8s CT) rfl 43 HHC.out (hi43 CT HCT.out) (one_u8s _) ?_; intro w11 hp11; have L11 : Below w10.heap.size w10 w11 := (hp11.below ((Below.refl _ _).alloc (Nat.le_refl _) _) (Nat.le_refl _)); have E11 := Lib.hid (E10.out.trans (L11.mono E10.out.size)); have P11 := Lib.hid (own_bel P10.out L11); have G11 := Lib.hid (blk_below G10.out L11); have OW11 := Lib.hid (own_bel OW10.out L11); clear hp11 L11)
  refine (same_any (wayT ds i 5) (wayT ds i 5) (some ⟨g, 0, none⟩) Aw 5 5 cp cw w11 (way_dgs hi32 HDS.out HG.out P11.out) (way_dgs hi32 HDS.out HG.out OW11.out) (wayT_len ds i 5).symm (wayT_len ds i 5).symm (by omega)).mono ?_
  rintro e w12 ⟨rfl, hb12⟩
  rw [decide_eq_true rfl]
  have E12 := Lib.hid (E11.out.trans (hb12.mono E11.out.size))
  have P12 := Lib.hid (own_bel P11.out hb12)
  have G12 := Lib.hid (blk_below G11.out hb12)
  have OW12 := Lib.hid (own_bel OW11.out hb12)
  clear hb12
  go_wp2_with fail
  refine (same_any ds ds (some ⟨gi, 0, none⟩) (some ⟨b0, o0, none⟩) 32 32 ci c w12 (DI5.out.below E12.out) (HD.out.below (B5.out.trans (E12.out.mono B5.out.size))) HDS.out.symm HDS.out.symm (by omega)).mono ?_
  rintro e w13 ⟨rfl, hb13⟩
  rw [decide_eq_true rfl]
  have E13 := Lib.hid (E12.out.trans (hb13.mono E12.out.size))
  have P13 := Lib.hid (own_bel P12.out hb13)
  have G13 := Lib.hid (blk_below G12.out hb13)
  have OW13 := Lib.hid (own_bel OW12.out hb13)
  clear hb13
  obtain ⟨b0v, hb0⟩ : ∃ b, b = (ds.getD (fl i) []).getD 0 0 := ⟨_, rfl⟩
  have hfirst : (dcells (wayT ds i 5))[0]? = some (.int .u8 b0v) := by
    have := dcells_at (wayT ds i 5) (fun d hd => (wayT_good ds i hi32 HDS.out HG.out 5 (by omega) d hd).1) 0 0 (by rw [wayT_len]; omega) (by omega)
    rw [Nat.zero_mul] at this
    rw [this, way_first, hb0]
    have hl16 := (DI5.out.at (fl i) (by rw [HDS.out]; exact fl_32 i hi32)).1
    simp [u8s, List.getD_eq_getElem?_getD] at hl16 ⊢
    rw [List.getElem?_eq_getElem (by omega)]
    simp
  have CG : Hid (w13.cell? ⟨g, 0, none⟩ = some (.int .u8 b0v)) := Lib.hid (by
    have := P13.out.cells rfl 0 _ hfirst
    simpa [Addr.add] using this)
  obtain ⟨z, hz⟩ : ∃ z, IntKind.u8.wrap (b0v + 1) = z := ⟨_, rfl⟩
  have HZ := Lib.hid hz
  clear hfirst hb0 hz P13
  go_wp2_with fail
  refine wp_region_rely3 (by kernel_rfl) 7 (by kernel_rfl) (by kernel_rfl) Ext Ext.refl Ext.trans (fun ix => match ix with
    | 0 => fun _ v => v = .slice (some ⟨g, 0, none⟩) 5 cp
    | 1 => fun _ v => v = .pointer (some ⟨g, 0, none⟩)
    | 2 => fun _ v => v = .pointer (some ⟨g, 0, none⟩)
    | 3 => fun _ v => v = .int .u8 b0v
    | 4 => fun _ v => v = .int .u8 z
    | 5 => fun _ v => v = .pointer (some ⟨g, 0, none⟩)
    | 6 => fun _ v => v = .pointer (some ⟨g, 0, none⟩)
    | _ => fun _ _ => False) ?_
  simp (maxSteps := 10000000) only [Rely, List.take_succ_cons, List.take_zero, List.drop_succ_cons, List.drop_zero, Nat.reduceAdd, Nat.zero_add, Act.put, List.setIfInBounds_toArray, List.set_cons_succ, List.set_cons_zero]
  refine ⟨?_, ?_, ?_, ?_, ?_, ?_, ?_, ?_⟩
  · refine step_plain rfl fun vs wy hE hd => ?_
    exact gives_move _ (.slice (some ⟨g, 0, none⟩) 5 cp) (.inl rfl) rfl ⟨Ext.refl _, fun _ _ => rfl⟩
  · refine step_plain rfl fun vs wy hE hd => ?_
    exact gives_indexAt 55 _ _ rfl (.slice (some ⟨g, 0, none⟩) 5 cp) (Value.int IntKind.i64 0) (.pointer (some ⟨g, 0, none⟩)) (show vs 0 = _ from hd.1) rfl (by go_simp) ⟨Ext.refl _, fun _ _ => rfl⟩
  · refine step_plain rfl fun vs wy hE hd => ?_
    exact gives_indexAt 43 _ _ rfl (.pointer (some ⟨g, 0, none⟩)) (Value.int IntKind.i64 0) (.pointer (some ⟨g, 0, none⟩)) (show vs 1 = _ from hd.1) rfl (by go_simp) ⟨Ext.refl _, fun _ _ => rfl⟩
  · refine step_plain rfl fun vs wy hE hd => ?_
    have hc := cell_on (ext_of_drew hE) CG.out
    exact gives_loadAt 5 _ rfl (.pointer (some ⟨g, 0, none⟩)) (.int .u8 b0v) (show vs 2 = _ from hd.1) (by go_simp) ⟨Ext.refl _, fun _ _ => rfl⟩
  · refine step_plain rfl fun vs wy hE hd => ?_
    have hz := HZ.out
    exact gives_binOp .add 5 _ _ _ rfl (.int .u8 b0v) (.int .u8 1) (.int .u8 z) (show vs 3 = _ from (hd.1)) rfl (by go_simp) (by go_simp) ⟨Ext.refl _, fun _ _ => rfl⟩
  · refine step_plain rfl fun vs wy hE hd => ?_
    exact gives_indexAt 55 _ _ rfl (.slice (some ⟨g, 0, none⟩) 5 cp) (Value.int IntKind.i64 0) (.pointer (some ⟨g, 0, none⟩)) (show vs 0 = _ from hd.1) rfl (by go_simp) ⟨Ext.refl _, fun _ _ => rfl⟩
  · refine step_plain rfl fun vs wy hE hd => ?_
    exact gives_indexAt 43 _ _ rfl (.pointer (some ⟨g, 0, none⟩)) (Value.int IntKind.i64 0) (.pointer (some ⟨g, 0, none⟩)) (show vs 5 = _ from hd.1) rfl (by go_simp) ⟨Ext.refl _, fun _ _ => rfl⟩
  · intro vs wz hE hR
    have h4 : vs 4 = .int .u8 z := hR 4 (by omega)
    have h6 : vs 6 = _ := hR 6 (by omega)
    rw [h4, h6]
    have L9 : Below w13.heap.size w13 wz := ext_of_drew hE
    have hcz : wz.cell? ⟨g, 0, none⟩ = some (.int .u8 b0v) := cell_on L9 CG.out
    have hfz : wz.frozen? ⟨g, 0, none⟩ = false := blk_free (blk_below G13.out L9) 0
    obtain ⟨w14, hw14⟩ : ∃ x, x = wz.setCell ⟨g, 0, none⟩ (.int .u8 z) := ⟨_, rfl⟩
    have b514 : Below w5.heap.size w5 w14 := by rw [hw14]; exact (E13.out.trans (L9.mono E13.out.size)).setCell (p := ⟨g, 0, none⟩) hg1 _
    have ow14 : w14.ownsRow w8.heap.size 43 16 (.slice Aw 5 cw) 5 (dcells (wayT ds i 5)) := by rw [hw14]; exact own_put (own_bel OW13.out L9) hg8
    have B14 := Lib.hid (B5.out.trans (b514.mono B5.out.size))
    have DI14 := Lib.hid (DI5.out.below b514)
    have DL14 := Lib.hid (HD.out.below (B5.out.trans (b514.mono B5.out.size)))
    have OW14 := Lib.hid ow14
    have HW14 := Lib.hid hw14
    clear hR hE h4 h6 L9 b514 ow14 hw14 CG
    go_wp2_with fail
    rw [← HW14.out]
    clear hcz hfz HW14
    refine (path_ok ds (some ⟨gi, 0, none⟩) 32 ci i hi32 w14 DI14.out HDS.out.symm rfl (range_below HK.out B14.out) (Nat.lt_of_lt_of_le h18 B14.out.size)).mono ?_
    rintro e w15 ⟨v15, rfl, ro15, hb15⟩
    obtain ⟨At, ct, rfl⟩ := own_form ro15
    have DQ := Lib.hid (way_dgs hi32 HDS.out HG.out ro15)
    have DW := Lib.hid (way_dgs hi32 HDS.out HG.out (own_bel OW14.out hb15))
    have DI := Lib.hid (DI14.out.below hb15)
    have DL := Lib.hid (DL14.out.below hb15)
    have B15 := Lib.hid (B14.out.trans (hb15.mono B14.out.size))
    clear hb15 ro15
    go_wp2_with fail
    refine (same_any (wayT ds i 5) (wayT ds i 5) At Aw 5 5 ct cw w15 DQ.out DW.out (wayT_len ds i 5).symm (wayT_len ds i 5).symm (by omega)).mono ?_
    rintro e w16 ⟨rfl, hb16⟩
    rw [decide_eq_true rfl]
    go_wp2_with fail
    refine (same_any ds ds (some ⟨gi, 0, none⟩) (some ⟨b0, o0, none⟩) 32 32 ci c w16 (DI.out.below hb16) (DL.out.below hb16) HDS.out.symm HDS.out.symm (by omega)).mono ?_
    rintro e w17 ⟨rfl, hb17⟩
    rw [decide_eq_true rfl]
    have HB := Lib.hid (B15.out.trans ((hb16.trans (hb17.mono hb16.size)).mono B15.out.size))
    clear hb16 hb17
    go_wp2_with fail
    go_ret
    exact ⟨rfl, HB.out⟩
end Go.Proofs.YtdedphhohiioiaaDoor
