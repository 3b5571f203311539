/- What TallyPlays answers. -/
import Derived.Test.YtideopnblhbngaaDoorTalX
import Derived.Test.YtideopnblhbngaaDoorTAlive
namespace Go.Proofs.YtideopnblhbngaaDoor
open Go.RowKit Go.Shelf
attribute [local go_sem] Oper.semAt_some

theorem SenN.senT {w : World} {al : List Addr} {aS aR aT : Addr} (h : SenN w al) (hS : al[10]? = some aS) (hR : al[0]? = some aR) (hT : al[16]? = some aT) : Sen w aS aR aT :=
  ⟨h.cell 10 0 aS rfl hS, h.cell 0 1 aR rfl hR, h.cell 16 2 aT rfl hT⟩
section
variable {n c m c' : Nat} {vs : List Va} {xs : List W3} {w w' : World} {base q : Nat} {A A' : Option Addr}
/-- A tally has been written; the reference's is as it was. -/
theorem RTalAt.other (h : RTalAt base q A A' n c m c' vs xs w) {g : Nat} {cur : Array Value} (hb : But (fun k => k = g) w w') (hg : w.heap[g]? = some (.cells cur 128 (0, 0))) (hv : Vals w' (.slice A n c) vs) : RTalAt base q A A' n c m c' vs xs w' := by
  refine ⟨hb.blk h.blk (fun e => ?_), hv, ?_, h.len, h.hq⟩
  · have := h.blk
    rw [show q = g from e, hg] at this
    cases this
  · rcases h.own with ⟨hl', h1 | ⟨b, cap, cur2, e, hbb, hg2, rest⟩⟩
    · exact ⟨hl', .inl h1⟩
    · refine ⟨hl', .inr ⟨b, cap, cur2, e, hbb, hb.blk hg2 (fun e => ?_), rest⟩⟩
      rw [show b = g from e, hg] at hg2
      cases hg2
/-- The reference's tally has been written; the tally is as it was. -/
theorem TalAt.butR {bs p g d cw : Nat} {A1 : Option Addr} {ws : List (Wd Int)} (h : TalAt 126 128 (Value.int .i64) bs p g A1 n d cw vs ws w) (hr : RTalAt base q A A' n c m c' vs xs w) (hb : But (RS q (.slice A' m c')) w w') : TalAt 126 128 (Value.int .i64) bs p g A1 n d cw vs ws w' := by
  have hno : ∀ k cs t fr, w.heap[k]? = some (.cells cs t fr) → t ≠ 100 → t ≠ 85 → ¬ RS q (.slice A' m c') k := fun k cs t fr hk h1 h2 hs => by
    rcases hs with rfl | hs
    · rw [hr.blk] at hk
      cases hk
      exact h1 rfl
    · exact own_not hr.own hk h2 hs
  obtain ⟨cur, h1, h2⟩ := h.wds
  refine ⟨hb.blk h.blk (hno _ _ _ _ h.blk (by decide) (by decide)), ?_, ⟨cur, hb.blk h1 (hno _ _ _ _ h1 (by decide) (by decide)), h2⟩, h.nv, h.nw, h.good, h.hp, h.hg, h.hc⟩
  rcases h.own with ⟨hl', h1 | ⟨b, cap, cur2, e, hbb, hg2, rest⟩⟩
  · exact ⟨hl', .inl h1⟩
  · exact ⟨hl', .inr ⟨b, cap, cur2, e, hbb, hb.blk hg2 (hno _ _ _ _ hg2 (by decide) (by decide)), rest⟩⟩
end

set_option maxHeartbeats 8000000 in
set_option maxRecDepth 100000 in
theorem tallyPlays_any (va : List Va) (xs : List W3) (z : Int) (A A' : Option Addr) (n c m c' : Nat) (al : List Addr) (aS aR aT : Addr) (w : World) (hv : Vals w (.slice A n c) va) (hx : Wsl w (.slice A' m c') xs) (hs : SenN w al) (hS : al[10]? = some aS) (hR : al[0]? = some aR) (hT : al[16]? = some aT) :
    Calls Tryd.prog 16 #[.slice A n c, .slice A' m c', .int .i64 z] w fun e w' => e = .returned (.bool true) ∧ Below w.heap.size w w' := by
  have HV := Lib.hid hv
  have HX := Lib.hid hx
  have HSN := Lib.hid hs
  have HS := Lib.hid hS
  have HR := Lib.hid hR
  have HTT := Lib.hid hT
  clear hv hx hs hS hR hT
  go_enter Tryd.func16, Tryd.ntmps16
  go_wp2_with fail
  refine (tAlive_any aS aR aT w (HSN.out.senT HS.out HR.out HTT.out)).mono ?_
  rintro _ w1 ⟨rfl, bel1⟩
  have V1 := Lib.hid (HV.out.below bel1)
  have X1 := Lib.hid (HX.out.below bel1)
  have SN := Lib.hid (HSN.out.below bel1)
  have S1 := Lib.hid (SN.out.senT HS.out HR.out HTT.out)
  have B1 := Lib.hid bel1
  clear bel1 HV HX HSN
  by_cases hn30 : 30 < n
  · have h30' : (30 : Int) < n := by omega
    go_wp2_with fail
    go_ret
    exact ⟨rfl, B1.out⟩
  by_cases hm40 : 40 < m
  · have h30' : ¬ (30 : Int) < n := by omega
    have h41' : (40 : Int) < m := by omega
    go_wp2_with fail
    go_ret
    exact ⟨rfl, B1.out⟩
  have h30' : ¬ (30 : Int) < n := by omega
  have h41' : ¬ (40 : Int) < m := by omega
  cases hval : validB va with
  | false =>
    go_wp2_with fail
    refine (new_bad va A n c aS aR aT w1 V1.out S1.out hval).mono ?_
    rintro _ w3 ⟨rfl, bel3⟩
    have V3 := Lib.hid (V1.out.below bel3)
    have SN3 := Lib.hid (SN.out.below bel3)
    have B3 := Lib.hid (B1.out.trans (bel3.mono B1.out.size))
    clear bel3
    go_wp2_with fail
    refine (right_any va A n c w3 V3.out).mono ?_
    rintro _ w4 ⟨rfl, bel4⟩
    rw [hval]
    have SN4 := Lib.hid (SN3.out.below bel4)
    have B4 := Lib.hid (B3.out.trans (bel4.mono B3.out.size))
    clear bel4 hval
    go_wp2_with fail
    refine (num_err al 10 aS w4 SN4.out HS.out).mono ?_
    rintro _ w5 ⟨rfl, bel5⟩
    have B5 := Lib.hid (B4.out.trans (bel5.mono B4.out.size))
    clear bel5
    rw [show ((10 : Nat) : Int) + 1 = 11 from rfl]
    go_wp2_with fail
    go_ret
    exact ⟨rfl, B5.out⟩
  | true =>
    have HVAL := Lib.hid hval
    have hlen := valid_len hval
    have hvl := V1.out.len
    have hn1 : 1 ≤ n := by omega
    have hn7 : n ≤ 7 := by omega
    have hn1000 : n ≤ 1000 := by omega
    clear hval hlen hvl
    go_wp2_with fail
    refine (new_ok va A n c aS aR aT w1 V1.out S1.out HVAL.out).mono ?_
    rintro _ w3 ⟨⟨p1, g1, A1, d1, rfl, t1⟩, bel3⟩
    have T3 := Lib.hid t1
    have V3 := Lib.hid (V1.out.below bel3)
    have B3 := Lib.hid bel3
    clear t1 bel3
    go_wp2_with fail
    refine (right_any va A n c w3 V3.out).mono ?_
    rintro _ w4 ⟨rfl, bel4⟩
    rw [HVAL.out]
    have T4 := Lib.hid (T3.out.below bel4)
    have V4 := Lib.hid (V3.out.below bel4)
    have B4 := Lib.hid (B3.out.trans (bel4.mono B3.out.size))
    clear bel4 T3 V3 B3
    have hbq : Below w4.heap.size w4 (w4.alloc (.cells #[.slice A n c, .slice none 0 0] 100)) := (Below.refl _ _).alloc (Nat.le_refl _) _
    obtain ⟨bs1, hbs1⟩ : ∃ y, y = w1.heap.size := ⟨_, rfl⟩
    have HBS := Lib.hid hbs1
    have hb14 : bs1 ≤ w4.heap.size := by rw [hbs1]; exact B4.out.size
    have T5 : Hid (TalAt 126 128 (Value.int .i64) bs1 p1 g1 A1 n d1 n va (List.replicate n (false, 0, 0)) (w4.alloc (.cells #[.slice A n c, .slice none 0 0] 100))) := Lib.hid (by rw [hbs1]; exact T4.out.below hbq)
    have R5 : Hid (RTalAt bs1 w4.heap.size A none n c 0 0 va [] (w4.alloc (.cells #[.slice A n c, .slice none 0 0] 100))) := Lib.hid ⟨heap_alloc_new w4 _, V4.out.below hbq, World.ownsRow_nil _ _ _ _, rfl, hb14⟩
    have B5 := Lib.hid (B4.out.trans (hbq.mono B4.out.size))
    obtain ⟨q, hq⟩ : ∃ y, y = w4.heap.size := ⟨_, rfl⟩
    rw [← hq] at R5
    have HQ := Lib.hid hq
    clear hbq T4 V4 B4 hbs1 hq
    go_wp2_with fail
    rw [← HQ.out]
    go_loopw [58] (fun y wr => ∃ (i : Nat) (ws : List (Wd Int)) (xr : List W3) (A2 : Option Addr) (lx c2 : Nat), i ≤ m ∧ lx ≤ i ∧ y = .int .i64 i ∧ Hid (TalAt 126 128 (Value.int .i64) bs1 p1 g1 A1 n d1 n va ws wr) ∧ Hid (RTalAt bs1 q A A2 n c lx c2 va xr wr) ∧ Hid (TInv n ws xr) ∧ Hid (Below w1.heap.size w1 wr))
      (fun y _ => m - (intOf y).toNat)
    case atStart => exact ⟨0, _, _, _, _, _, by omega, Nat.le_refl _, rfl, T5, R5, Lib.hid (TInv.start n), B5⟩
    case round =>
      clear T5 R5 B5
      obtain ⟨i, ws, xr, A2, lx, c2, hi, hlx, rfl, TA, RT, HIV, BW⟩ := hrel
      by_cases hlt : i < m
      rotate_left
      · have him : i = m := by omega
        subst him
        go_wp2_with fail
        go_ret
        exact ⟨rfl, B1.out.trans (BW.out.mono B1.out.size)⟩
      have hil : (i : Int) < m := by omega
      obtain ⟨b, off, k, who, x, rfl, hmc, hX, e0, e1, e2⟩ := (X1.out.below BW.out).el i hlt
      obtain ⟨wo, hwo⟩ : ∃ y, y = wr := ⟨_, rfl⟩
      subst hwo
      have hbx : Below wo.heap.size wo (wo.alloc (.cells #[.int .i64 k, .int .i64 who, .int .i64 x] 85)) := (Below.refl _ _).alloc (Nat.le_refl _) _
      have TA1 := Lib.hid (TA.out.below hbx)
      have RT1 := Lib.hid (RT.out.below hbx)
      have BW1 := Lib.hid (BW.out.trans (hbx.mono BW.out.size))
      have BX1 := Lib.hid (heap_alloc_new wo (.cells #[.int .i64 k, .int .i64 who, .int .i64 x] 85))
      have h3 : 3 ≤ bs1 := by
        obtain ⟨cs, t, fr, e⟩ := cell_obj S1.out.t
        rw [HBS.out]
        exact blk_lt e
      have HRL := Lib.hid (fun j (hj : (Value.slice A2 lx c2).ownBlock = some j) => (RT.out.own.lt j hj).2)
      clear hX hbx TA RT
      go_wp2_with fail
      refine (put_any bs1 p1 g1 A1 n d1 n va ws k who x aS aR aT _ TA1.out (S1.out.below BW1.out) h3 hn1000).mono ?_
      rintro _ w5 ⟨rfl, ta5, bb5⟩
      have hgb : w1.heap.size ≤ g1 := by rw [← HBS.out]; exact TA1.out.hg
      have bw5 := BW1.out.trans (bb5.low BW1.out.size (fun j hj => by rw [show j = g1 from hj]; exact hgb))
      have RT5 := Lib.hid (by obtain ⟨cur, h1, _⟩ := TA1.out.wds; exact RT1.out.other bb5 h1 (V1.out.below bw5))
      have BX5 := Lib.hid (bb5.blk BX1.out (fun e => by
        obtain ⟨cur, h1, _⟩ := TA1.out.wds
        have h2 := BX1.out
        rw [show wo.heap.size = g1 from e, h1] at h2
        cases h2))
      have TA5 := Lib.hid ta5
      have BW5 := Lib.hid bw5
      have hnum : ∀ W, SenN W al → Calls Tryd.prog 38 #[putE ws who aR aT] W fun e w' => e = .returned (.int .i64 (rputE n xr who)) ∧ Below W.heap.size W w' := fun W hW => HIV.out.err who al aR aT W hW HR.out HTT.out
      have hpb := HIV.out.bool va k who x
      obtain ⟨pb, hpb'⟩ : ∃ y, y = putB va ws k who x := ⟨_, rfl⟩
      obtain ⟨pe, hpe⟩ : ∃ y, y = putE ws who aR aT := ⟨_, rfl⟩
      obtain ⟨er, her⟩ : ∃ y, y = rputE n xr who := ⟨_, rfl⟩
      rw [← hpb'] at hpb ⊢
      rw [← hpe, ← her] at hnum
      rw [← hpe]
      have HPB := Lib.hid hpb
      have HER := Lib.hid her
      have HNUM := Lib.hid hnum
      clear ta5 bb5 bw5 TA1 RT1 BW1 BX1 hpb hpb' hpe her hnum e0 e1 e2
      have f0 := blk_cell BX5.out 0 _ rfl
      have f1 := blk_cell BX5.out 1 _ rfl
      have f2 := blk_cell BX5.out 2 _ rfl
      go_wp2_with fail
      refine (refPut_any bs1 q A A2 n c lx c2 va xr k who x w5 RT5.out (by omega) (by omega) (Nat.le_trans hb14 (by have := BW5.out.size; have := RT5.out.hq; have := blk_lt RT5.out.blk; rw [HQ.out] at this; omega)) (fun W hW => V1.out.below (by have h1 := BW5.out; rw [← HBS.out] at h1 ⊢; exact h1.trans hW))).mono ?_
      rintro _ w6 ⟨rfl, ⟨A3, m3, c3, rt6⟩, br6⟩
      have TA6 := Lib.hid (TA5.out.butR RT5.out br6)
      have HLO : Hid (Below w1.heap.size w1 w6) := Lib.hid (BW5.out.trans (br6.low BW5.out.size (fun j hj => by
        rw [← HBS.out]
        rcases hj with rfl | hj
        · exact RT5.out.hq
        · exact (RT5.out.own.lt j hj).1)))
      have BX6 := Lib.hid (br6.blk BX5.out (fun hs => by
        rcases hs with h | h
        · have h1 := BX5.out
          rw [h, RT5.out.blk] at h1
          cases h1
        · have h1 := HRL.out _ h
          omega))
      have IV6 := Lib.hid (HIV.out.put k who x)
      have hlx3 : m3 ≤ lx + 1 := by
        have h1 := rt6.len
        have h2 := RT5.out.len
        rw [h1, h2]
        unfold rputW
        split
        · simp
        · omega
      rw [← HPB.out, ← HER.out]
      obtain ⟨ws6, hws6⟩ : ∃ y, y = putW ws k who x := ⟨_, rfl⟩
      obtain ⟨xr6, hxr6⟩ : ∃ y, y = rputW n xr (k, who, x) := ⟨_, rfl⟩
      rw [← hws6] at TA6 IV6
      rw [← hxr6] at rt6 IV6
      have RT6 := Lib.hid rt6
      clear rt6 br6 TA5 RT5 BW5 BX5 HPB HER hws6 hxr6 f0 f1 f2 HIV BW
      have HC1 := Lib.hid (blk_cell RT6.out.blk 1 _ rfl)
      have HLX : Hid (saidN ws6 = m3) := Lib.hid (by rw [IV6.out.n, RT6.out.len])
      go_wp2_with fail
      refine wp_region_rely2 (by kernel_rfl) 19 (by kernel_rfl) (by kernel_rfl) Ext Ext.refl Ext.trans (fun ix => match ix with
        | 0 => fun _ v => v = .bool pb
        | 1 => fun _ v => v = .bool pb
        | 2 => fun _ v => v = .bool false
        | 3 => fun _ v => v = .bool false
        | 4 => fun _ v => v = pe
        | 5 => fun _ v => v = .int .i64 er
        | 6 => fun _ v => v = .int .i64 er
        | 7 => fun _ v => v = .bool false
        | 8 => fun _ v => v = .bool false
        | 9 => fun _ v => v = .bool false
        | 10 => fun _ v => v = .pointer (some ⟨p1, 0, none⟩)
        | 11 => fun _ v => v = .int .i64 m3
        | 12 => fun _ v => v = .pointer (some ⟨q, 0, none⟩)
        | 13 => fun _ v => v = .pointer (some ⟨q, 0, none⟩)
        | 14 => fun _ v => v = .pointer (some ⟨q, 1, none⟩)
        | 15 => fun _ v => v = .slice A3 m3 c3
        | 16 => fun _ v => v = .int .i64 m3
        | 17 => fun _ v => v = .bool false
        | 18 => fun _ v => v = .bool false
        | _ => fun _ _ => False) ?_
      simp (maxSteps := 10000000) only [Rely, List.take_succ_cons, List.take_zero, List.drop_succ_cons, List.drop_zero, Nat.reduceAdd, Nat.zero_add, Act.put, List.setIfInBounds_toArray, List.set_cons_succ, List.set_cons_zero]
      refine ⟨?_, ?_, ?_, ?_, ?_, ?_, ?_, ?_, ?_, ?_, ?_, ?_, ?_, ?_, ?_, ?_, ?_, ?_, ?_, ?_⟩
      · refine step_plain rfl fun vs wq hE hd => ?_
        exact gives_move _ (.bool pb) (.inl rfl) rfl ⟨Ext.refl _, fun _ _ => rfl⟩
      · refine step_plain rfl fun vs wq hE hd => ?_
        exact gives_move _ (.bool pb) (.inl rfl) rfl ⟨Ext.refl _, fun _ _ => rfl⟩
      · refine step_plain rfl fun vs wq hE hd => ?_
        exact gives_binOp .neq 4 _ _ _ rfl (.bool pb) (.bool pb) (.bool false) (show vs 0 = _ from (hd.1)) (show vs 1 = _ from (hd.2.1)) (by go_simp) (by go_simp) ⟨Ext.refl _, fun _ _ => rfl⟩
      · refine step_plain rfl fun vs wq hE hd => ?_
        exact gives_move _ (.bool false) (.inl rfl) (show vs 2 = _ from hd.1) ⟨Ext.refl _, fun _ _ => rfl⟩
      · refine step_guard 3 false 82 rfl rfl (fun _ => rfl) fun vs wq hE hd => ⟨hd.1, ?_⟩
        exact gives_move _ pe (.inl rfl) rfl ⟨Ext.refl _, fun _ _ => rfl⟩
      · refine step_guard 3 false 82 rfl rfl (fun _ => rfl) fun vs wq hE hd => ⟨hd.2.1, ?_⟩
        refine gives_call 38 (enters_of Tryd.func38 (by kernel_rfl) rfl) _ _ rfl rfl [pe] ?_ ?_
        · show [vs 4] = _
          rw [show vs 4 = _ from (hd.1)]
        · refine (HNUM.out wq (SN.out.below (HLO.out.trans ((ext_of_drew hE).mono HLO.out.size)))).mono ?_
          rintro _ w'' ⟨rfl, hb⟩
          exact ⟨_, rfl, hb, fun _ _ => rfl⟩
      · refine step_guard 3 false 82 rfl rfl (fun _ => rfl) fun vs wq hE hd => ⟨hd.1, ?_⟩
        exact gives_move _ (.int .i64 er) (.inl rfl) rfl ⟨Ext.refl _, fun _ _ => rfl⟩
      · refine step_guard 3 false 82 rfl rfl (fun _ => rfl) fun vs wq hE hd => ⟨hd.2.2.1, ?_⟩
        exact gives_binOp .neq 3 _ _ _ rfl (.int .i64 er) (.int .i64 er) (.bool false) (show vs 5 = _ from (hd.1)) (show vs 6 = _ from (hd.2.1)) (by go_simp) (by go_simp) ⟨Ext.refl _, fun _ _ => rfl⟩
      · refine step_plain rfl fun vs wq hE hd => ?_
        exact gives_pick _ _ _ (.bool false) false rfl (show vs 3 = _ from hd.1) (show vs 7 = _ from hd.2.1) ⟨Ext.refl _, fun _ _ => rfl⟩
      · refine step_plain rfl fun vs wq hE hd => ?_
        exact gives_move _ (.bool false) (.inl rfl) (show vs 8 = _ from hd.1) ⟨Ext.refl _, fun _ _ => rfl⟩
      · refine step_guard 9 false 88 rfl rfl (fun _ => rfl) fun vs wq hE hd => ⟨hd.1, ?_⟩
        exact gives_move _ (.pointer (some ⟨p1, 0, none⟩)) (.inl rfl) rfl ⟨Ext.refl _, fun _ _ => rfl⟩
      · refine step_guard 9 false 88 rfl rfl (fun _ => rfl) fun vs wq hE hd => ⟨hd.2.1, ?_⟩
        refine gives_call 55 (enters_of Tryd.func55 (by kernel_rfl) rfl) _ _ rfl rfl [.pointer (some ⟨p1, 0, none⟩)] ?_ ?_
        · show [vs 10] = _
          rw [show vs 10 = _ from (hd.1)]
        · refine (lenT_any bs1 p1 g1 A1 n d1 n va _ wq (TA6.out.below (ext_of_drew hE)) hn1000).mono ?_
          rintro _ w'' ⟨rfl, hb⟩
          exact ⟨_, rfl, hb, fun _ _ => by rw [HLX.out]; rfl⟩
      · refine step_guard 9 false 88 rfl rfl (fun _ => rfl) fun vs wq hE hd => ⟨hd.1, ?_⟩
        exact gives_move _ (.pointer (some ⟨q, 0, none⟩)) (.inl rfl) rfl ⟨Ext.refl _, fun _ _ => rfl⟩
      · refine step_guard 9 false 88 rfl rfl (fun _ => rfl) fun vs wq hE hd => ⟨hd.2.1, ?_⟩
        exact gives_nilCheck _ rfl ⟨q, 0, none⟩ (show vs 12 = _ from (hd.1)) ⟨Ext.refl _, fun _ _ => rfl⟩
      · refine step_guard 9 false 88 rfl rfl (fun _ => rfl) fun vs wq hE hd => ⟨hd.2.1, ?_⟩
        exact gives_fieldAddr' 100 _ 1 rfl (.pointer (some ⟨q, 0, none⟩)) (.pointer (some ⟨q, 1, none⟩)) (show vs 13 = _ from (hd.1)) (by go_simp) ⟨Ext.refl _, fun _ _ => rfl⟩
      · refine step_guard 9 false 88 rfl rfl (fun _ => rfl) fun vs wq hE hd => ⟨hd.2.1, ?_⟩
        have hc := cell_on (ext_of_drew hE) HC1.out
        exact gives_loadAt 79 _ rfl (.pointer (some ⟨q, 1, none⟩)) (.slice A3 m3 c3) (show vs 14 = _ from hd.1) (by go_simp) ⟨Ext.refl _, fun _ _ => rfl⟩
      · refine step_guard 9 false 88 rfl rfl (fun _ => rfl) fun vs wq hE hd => ⟨hd.2.1, ?_⟩
        exact gives_len2 79 85 _ rfl Tryd.underlying79 A3 m3 c3 (show vs 15 = _ from (hd.1)) ⟨Ext.refl _, fun _ _ => rfl⟩
      · refine step_guard 9 false 88 rfl rfl (fun _ => rfl) fun vs wq hE hd => ⟨hd.2.2.1, ?_⟩
        exact gives_binOp .neq 3 _ _ _ rfl (.int .i64 m3) (.int .i64 m3) (.bool false) (show vs 11 = _ from (hd.1)) (show vs 16 = _ from (hd.2.1)) (by go_simp) (by go_simp) ⟨Ext.refl _, fun _ _ => rfl⟩
      · refine step_plain rfl fun vs wq hE hd => ?_
        exact gives_pick _ _ _ (.bool false) false rfl (show vs 9 = _ from hd.1) (show vs 17 = _ from hd.2.1) ⟨Ext.refl _, fun _ _ => rfl⟩
      · intro vs wz hE hR
        have h18 : vs 18 = .bool false := hR 18 (by omega)
        have bz := ext_of_drew hE
        have hbl : Below wz.heap.size wz (wz.alloc (.cells #[.int .i64 k, .int .i64 z] 3)) := (Below.refl _ _).alloc (Nat.le_refl _) _
        have f0 := blk_cell (blk_below BX6.out bz) 0 _ rfl
        have TA7 := Lib.hid ((TA6.out.below bz).below hbl)
        have RT7 := Lib.hid ((RT6.out.below bz).below hbl)
        have HL7 := Lib.hid ((HLO.out.trans (bz.mono HLO.out.size)).trans (hbl.mono (Nat.le_trans HLO.out.size bz.size)))
        have L7 : Hid ((wz.alloc (.cells #[.int .i64 k, .int .i64 z] 3)).heap[wz.heap.size]? = some (.cells #[.int .i64 k, .int .i64 z] 3 (0, 0))) := Lib.hid (heap_alloc_new wz _)
        rw [h18]
        clear hR hE h18 bz hbl TA6 RT6 HLO BX6 HC1 HLX HNUM
        go_wp2_with fail
        clear f0
        go_loopw [103] (fun y wr => ∃ (j : Nat), j ≤ 2 ∧ y = .int .i64 j ∧ Hid (TalAt 126 128 (Value.int .i64) bs1 p1 g1 A1 n d1 n va ws6 wr) ∧ Hid (RTalAt bs1 q A A3 n c m3 c3 va xr6 wr) ∧ Hid (wr.heap[wz.heap.size]? = some (.cells #[.int .i64 k, .int .i64 z] 3 (0, 0))) ∧ Hid (Below w1.heap.size w1 wr))
          (fun y _ => 2 - (intOf y).toNat)
        case atStart => exact ⟨0, by omega, rfl, TA7, RT7, L7, HL7⟩
        case round =>
          clear TA7 RT7 L7 HL7
          obtain ⟨j, hj, rfl, TA8, RT8, L8, HL8⟩ := hrel
          by_cases hj2 : j < 2
          rotate_left
          · have hj2' : j = 2 := by omega
            subst hj2'
            go_wp2_with fail
            go_roundw
            case rel => exact ⟨i + 1, ws6, xr6, A3, m3, c3, by omega, by omega, by go_num, TA8, RT8, IV6, HL8⟩
            case measure => simp [intOf]; omega
          have hjl : (j : Int) < 2 := by omega
          obtain ⟨kj, hkj⟩ : ∃ y : Int, (#[.int .i64 k, .int .i64 z] : Array Value)[j]? = some (.int .i64 y) := by
            match j, hj2 with
            | 0, _ => exact ⟨k, rfl⟩
            | 1, _ => exact ⟨z, rfl⟩
          have hck : wr.cell? ⟨wz.heap.size, j, none⟩ = some (.int .i64 kj) := by
            rw [cell_of_row _ _ _ _ _ _ L8.out]
            exact hkj
          clear hkj
          go_wp2_with fail
          refine (refSaid_any bs1 q A A3 n c m3 c3 va xr6 kj wr RT8.out (by omega) (by omega)).mono ?_
          rintro _ w9 ⟨v1, v2, rfl, sd⟩
          obtain ⟨As, cs, rfl⟩ := own_form sd.o1
          obtain ⟨Au, cu, rfl⟩ := own_form sd.o2
          have hsl : saidL n xr6 kj = sel (fun x => decide (x = kj)) ws6 n := IV6.out.said kj n (Nat.le_refl _)
          have hw1 : (saidL n xr6 kj).map (·.1) = whoOf ws6 kj := by rw [hsl]; unfold whoOf; rw [IV6.out.len]
          have ht1 : (saidL n xr6 kj).map (·.2) = thingsOf ws6 kj := by rw [hsl]; unfold thingsOf; rw [IV6.out.len]
          have hi1 := Ins.of_own sd.o1
          have hi2 := Ins.of_own sd.o2
          rw [hw1] at hi1
          rw [ht1] at hi2
          have hlw : (saidL n xr6 kj).length ≤ 7 := by rw [hsl]; have := sel_len (fun x => decide (x = kj)) ws6 n; omega
          obtain ⟨ls, hls⟩ : ∃ y, y = (saidL n xr6 kj).length := ⟨_, rfl⟩
          rw [← hls] at hi1 hi2 hlw ⊢
          have TA9 := Lib.hid (TA8.out.below sd.bel)
          have RT9 := Lib.hid (RT8.out.below sd.bel)
          have L9 := Lib.hid (blk_below L8.out sd.bel)
          have HL9 := Lib.hid (HL8.out.trans (sd.bel.mono HL8.out.size))
          have IS9 := Lib.hid hi1
          have IU9 := Lib.hid hi2
          have HLW : Hid ((whoOf ws6 kj).length ≤ 7 ∧ (thingsOf ws6 kj).length ≤ 7) := Lib.hid (by
            have h1 := hi1.len
            have h2 := hi2.len
            omega)
          clear sd hsl hw1 ht1 hi1 hi2 hls TA8 RT8 L8 HL8 hck
          go_wp2_with fail
          refine (refSum_any va (whoOf ws6 kj) A As n c ls cs w9 (V1.out.below HL9.out) IS9.out (by omega) (by omega)).mono ?_
          rintro _ w10 ⟨rfl, bel10⟩
          rw [refSumV_good (whoOf_good kj HVAL.out (by rw [IV6.out.len, V1.out.len]))]
          obtain ⟨pw, hpw⟩ : ∃ y, y = powOf va ws6 kj := ⟨_, rfl⟩
          have HPW : Hid (powOf va ws6 kj = pw) := Lib.hid hpw.symm
          obtain ⟨eb, heb⟩ : ∃ y, y = enoughB va (whoOf ws6 kj) := ⟨_, rfl⟩
          have HEB : Hid (enoughB va (whoOf ws6 kj) = eb) := Lib.hid heb.symm
          rw [show (powAt va (whoOf ws6 kj)).sum = pw from hpw.symm]
          have TA := Lib.hid (TA9.out.below bel10)
          have RT := Lib.hid (RT9.out.below bel10)
          have L10 := Lib.hid (blk_below L9.out bel10)
          have HL10 := Lib.hid (HL9.out.trans (bel10.mono HL9.out.size))
          have IS := Lib.hid (IS9.out.below bel10)
          have IU := Lib.hid (IU9.out.below bel10)
          have SE := Lib.hid (S1.out.below HL10.out)
          clear bel10 hpw heb TA9 RT9 L9 HL9 IS9 IU9
          go_wp2_with fail
          refine (who_any bs1 p1 g1 A1 n d1 n va ws6 kj w10 TA.out hn1000).mono ?_
          rintro _ u1 ⟨A9, n9, c9, rfl, ro, e1⟩
          rw [show (sel (fun x => decide (x = kj)) ws6 n).map (·.1) = whoOf ws6 kj by unfold whoOf; rw [IV6.out.len]] at ro
          have I1 := Lib.hid (Ins.of_own ro)
          have hn1 : n9 ≤ 7 := by rw [I1.out.len]; exact HLW.out.1
          have IS1 := Lib.hid (IS.out.below e1)
          have IU1 := Lib.hid (IU.out.below e1)
          have TA1 := Lib.hid (TA.out.below e1)
          have RT1 := Lib.hid (RT.out.below e1)
          have LL1 := Lib.hid (blk_below L10.out e1)
          have HL1 := Lib.hid (HL10.out.trans (e1.mono HL10.out.size))
          clear e1 ro TA RT L10 HL10 IS IU SE
          go_wp2_with fail
          refine (sameInts_any _ _ A9 As n9 ls c9 cs u1 I1.out IS1.out (by omega) (by omega)).mono ?_
          rintro _ u2 ⟨rfl, e1⟩
          rw [decide_eq_true rfl]
          have IU2 := Lib.hid (IU1.out.below e1)
          have TA2 := Lib.hid (TA1.out.below e1)
          have RT2 := Lib.hid (RT1.out.below e1)
          have LL2 := Lib.hid (blk_below LL1.out e1)
          have HL2 := Lib.hid (HL1.out.trans (e1.mono HL1.out.size))
          clear e1 TA1 RT1 LL1 HL1 IS1 IU1 I1
          go_wp2_with fail
          refine (things_any bs1 p1 g1 A1 n d1 n va ws6 kj u2 TA2.out hn1000).mono ?_
          rintro _ u3 ⟨A8, n8, c8, rfl, ro, e1⟩
          rw [show (sel (fun x => decide (x = kj)) ws6 n).map (·.2) = thingsOf ws6 kj by unfold thingsOf; rw [IV6.out.len]] at ro
          have I3 := Lib.hid (Ins.of_own ro)
          have hn3 : n8 ≤ 7 := by rw [I3.out.len]; exact HLW.out.2
          have IU3 := Lib.hid (IU2.out.below e1)
          have TA3 := Lib.hid (TA2.out.below e1)
          have RT3 := Lib.hid (RT2.out.below e1)
          have LL3 := Lib.hid (blk_below LL2.out e1)
          have HL3 := Lib.hid (HL2.out.trans (e1.mono HL2.out.size))
          clear e1 ro TA2 RT2 LL2 HL2 IU2
          go_wp2_with fail
          refine (sameInts_any _ _ A8 Au n8 ls c8 cu u3 I3.out IU3.out (by omega) (by omega)).mono ?_
          rintro _ u4 ⟨rfl, e1⟩
          rw [decide_eq_true rfl]
          have TA4 := Lib.hid (TA3.out.below e1)
          have RT4 := Lib.hid (RT3.out.below e1)
          have LL4 := Lib.hid (blk_below LL3.out e1)
          have HL4 := Lib.hid (HL3.out.trans (e1.mono HL3.out.size))
          clear e1 TA3 RT3 LL3 HL3 IU3 I3
          go_wp2_with fail
          refine (power_any bs1 p1 g1 A1 n d1 n va ws6 kj aS aR aT u4 TA4.out (S1.out.below HL4.out) HVAL.out hn1000).mono ?_
          rintro _ u5 ⟨rfl, e1⟩
          rw [HPW.out]
          have TA5 := Lib.hid (TA4.out.below e1)
          have RT5 := Lib.hid (RT4.out.below e1)
          have LL5 := Lib.hid (blk_below LL4.out e1)
          have HL5 := Lib.hid (HL4.out.trans (e1.mono HL4.out.size))
          clear e1 TA4 RT4 LL4 HL4
          go_wp2_with fail
          refine (enoughT_any bs1 p1 g1 A1 n d1 n va ws6 kj aS aR aT u5 TA5.out (S1.out.below HL5.out) hn1000).mono ?_
          rintro _ u6 ⟨rfl, e1⟩
          rw [HEB.out]
          have TA6b := Lib.hid (TA5.out.below e1)
          have RT6b := Lib.hid (RT5.out.below e1)
          have LL6 := Lib.hid (blk_below LL5.out e1)
          have HL6 := Lib.hid (HL5.out.trans (e1.mono HL5.out.size))
          clear e1 TA5 RT5 LL5 HL5
          go_wp2_with fail
          refine (refEnT_any bs1 q A A3 n c m3 c3 va xr6 kj u6 RT6b.out (by omega) (by omega)).mono ?_
          rintro _ u7 ⟨rfl, e1⟩
          rw [IV6.out.who, HEB.out]
          have TA7b := Lib.hid (TA6b.out.below e1)
          have RT7b := Lib.hid (RT6b.out.below e1)
          have LL7 := Lib.hid (blk_below LL6.out e1)
          have HL7b := Lib.hid (HL6.out.trans (e1.mono HL6.out.size))
          clear e1 TA6b RT6b LL6 HL6
          go_wp2_with fail
          go_roundw
          case rel => exact ⟨j + 1, by omega, by go_num, TA7b, RT7b, LL7, HL7b⟩
          case measure => simp [intOf]; omega
end Go.Proofs.YtideopnblhbngaaDoor
