/- What a tally tells: Power, Enough, Put. -/
import Derived.Test.YtideopnblhbngaaDoorTalJ
import Derived.Test.YtideopnblhbngaaDoorTalQ
import Derived.Test.YtideopnblhbngaaDoorAdd
import Derived.Deep.QuietTactic
import Derived.BigQuiet
namespace Go.Proofs.YtideopnblhbngaaDoor
open Go.RowKit Go.Shelf
attribute [local go_sem] Oper.semAt_some

set_option maxHeartbeats 4000000 in
set_option maxRecDepth 100000 in
theorem power_any (base p g : Nat) (A : Option Addr) (m c cw : Nat) (va : List Va) (ws : List (Wd Int)) (k : Int) (aS aR aT : Addr) (w : World) (ht : TalAt 126 128 (Value.int .i64) base p g A m c cw va ws w) (hs : Sen w aS aR aT) (hval : validB va = true) (hz : m ≤ 1000) :
    Calls Tryd.prog 54 #[.pointer (some ⟨p, 0, none⟩), .int .i64 k] w fun e w' => e = .returned (.int .i64 (powOf va ws k)) ∧ Below w.heap.size w w' := by
  have C0 := Lib.hid ht.cell0
  have HV := Lib.hid ht.vals
  have HNW := Lib.hid ht.nw
  have HNV := Lib.hid ht.nv
  have HT := Lib.hid ht
  have HS := Lib.hid hs
  clear ht hs
  go_enter Tryd.func54, Tryd.ntmps54
  go_wp2_with fail
  refine wp_region_rely2 (by kernel_rfl) 13 (by kernel_rfl) (by kernel_rfl) Ext Ext.refl Ext.trans (fun ix => match ix with
    | 0 => fun _ v => v = .pointer (some ⟨p, 0, none⟩)
    | 1 => fun _ v => v = .pointer (some ⟨p, 0, none⟩)
    | 2 => fun _ v => v = .pointer (some ⟨p, 0, none⟩)
    | 3 => fun _ v => v = .slice A m c
    | 4 => fun _ v => v = .pointer (some ⟨p, 0, none⟩)
    | 5 => fun _ v => v = .int .i64 k
    | 6 => fun W v => ∃ A' n' c', v = .slice A' n' c' ∧ Ins W (.slice A' n' c') (whoOf ws k) ∧ n' ≤ 1000
    | 7 => fun _ v => v = .tuple #[.int .i64 (powOf va ws k), .nilIface]
    | 8 => fun _ v => v = .tuple #[.int .i64 (powOf va ws k), .nilIface]
    | 9 => fun _ v => v = .int .i64 (powOf va ws k)
    | 10 => fun _ v => v = .nilIface
    | 11 => fun _ v => v = .int .i64 (powOf va ws k)
    | 12 => fun _ v => v = .nilIface
    | _ => fun _ _ => False) ?_
  simp (maxSteps := 10000000) only [Rely, List.take_succ_cons, List.take_zero, List.drop_succ_cons, List.drop_zero, Nat.reduceAdd, Nat.zero_add, Act.put, List.setIfInBounds_toArray, List.set_cons_succ, List.set_cons_zero]
  refine ⟨?_, ?_, ?_, ?_, ?_, ?_, ?_, ?_, ?_, ?_, ?_, ?_, ?_, ?_⟩
  · refine step_plain rfl fun vs wq hE hd => ?_
    exact gives_move _ (.pointer (some ⟨p, 0, none⟩)) (.inl rfl) rfl ⟨Ext.refl _, fun _ _ => rfl⟩
  · refine step_plain rfl fun vs wq hE hd => ?_
    exact gives_nilCheck _ rfl ⟨p, 0, none⟩ (show vs 0 = _ from (hd.1)) ⟨Ext.refl _, fun _ _ => rfl⟩
  · refine step_plain rfl fun vs wq hE hd => ?_
    exact gives_fieldAddr' 126 _ 0 rfl (.pointer (some ⟨p, 0, none⟩)) (.pointer (some ⟨p, 0, none⟩)) (show vs 1 = _ from (hd.1)) (by go_simp) ⟨Ext.refl _, fun _ _ => rfl⟩
  · refine step_plain rfl fun vs wq hE hd => ?_
    have hc := cell_on (ext_of_drew hE) C0.out
    exact gives_loadAt 22 _ rfl (.pointer (some ⟨p, 0, none⟩)) (.slice A m c) (show vs 2 = _ from hd.1) (by go_simp) ⟨Ext.refl _, fun _ _ => rfl⟩
  · refine step_plain rfl fun vs wq hE hd => ?_
    exact gives_move _ (.pointer (some ⟨p, 0, none⟩)) (.inl rfl) rfl ⟨Ext.refl _, fun _ _ => rfl⟩
  · refine step_plain rfl fun vs wq hE hd => ?_
    exact gives_move _ (.int .i64 k) (.inl rfl) rfl ⟨Ext.refl _, fun _ _ => rfl⟩
  · refine step_plain rfl fun vs wq hE hd => ?_
    refine gives_call 58 (enters_of Tryd.func58 (by kernel_rfl) rfl) _ _ rfl rfl [.pointer (some ⟨p, 0, none⟩), .int .i64 k] ?_ ?_
    · show [vs 4, vs 5] = _
      rw [show vs 4 = _ from (hd.1), show vs 5 = _ from (hd.2.1)]
    · refine (who_any base p g A m c cw va ws k wq (HT.out.below (ext_of_drew hE)) hz).mono ?_
      rintro _ w'' ⟨A', n', c', rfl, ro, hb⟩
      rw [show (sel (fun x => decide (x = k)) ws m).map (·.1) = whoOf ws k by unfold whoOf; rw [← HNW.out]] at ro
      have hi := Ins.of_own ro
      have hl := hi.len
      have hl2 := whoOf_len ws k
      have hl3 := HNW.out
      exact ⟨_, rfl, hb, fun W2 h2 => ⟨A', n', c', rfl, hi.below h2, by omega⟩⟩
  · refine step_plain rfl fun vs wq hE hd => ?_
    obtain ⟨A', n', c', h6, hi, hl⟩ := (hd.2.1)
    refine gives_call 22 (enters_of Tryd.func22 (by kernel_rfl) rfl) _ _ rfl rfl [.slice A m c, .slice A' n' c'] ?_ ?_
    · show [vs 3, vs 6] = _
      rw [show vs 3 = _ from (hd.1), h6]
    · refine (psum_any va (whoOf ws k) A A' m c n' c' aS aR aT wq (HV.out.below (ext_of_drew hE)) hi (HS.out.below (ext_of_drew hE)) (by omega) (by omega)).mono ?_
      rintro _ w'' ⟨rfl, hb⟩
      exact ⟨_, rfl, hb, fun _ _ => by rw [sumV_good aS aR aT (whoOf_good k hval (by rw [← HNW.out, HNV.out]))]; rfl⟩
  · refine step_plain rfl fun vs wq hE hd => ?_
    exact gives_move _ (.tuple #[.int .i64 (powOf va ws k), .nilIface]) (.inl rfl) (show vs 7 = _ from hd.1) ⟨Ext.refl _, fun _ _ => rfl⟩
  · refine step_plain rfl fun vs wq hE hd => ?_
    exact gives_extract _ 0 rfl #[.int .i64 (powOf va ws k), .nilIface] (.int .i64 (powOf va ws k)) (show vs 8 = _ from (hd.1)) rfl ⟨Ext.refl _, fun _ _ => rfl⟩
  · refine step_plain rfl fun vs wq hE hd => ?_
    exact gives_extract _ 1 rfl #[.int .i64 (powOf va ws k), .nilIface] .nilIface (show vs 8 = _ from (hd.1)) rfl ⟨Ext.refl _, fun _ _ => rfl⟩
  · refine step_plain rfl fun vs wq hE hd => ?_
    exact gives_move _ (.int .i64 (powOf va ws k)) (.inr rfl) (show vs 9 = _ from hd.1) ⟨Ext.refl _, fun _ _ => rfl⟩
  · refine step_plain rfl fun vs wq hE hd => ?_
    exact gives_move _ (.nilIface) (.inr rfl) (show vs 10 = _ from hd.1) ⟨Ext.refl _, fun _ _ => rfl⟩
  · intro vs wz hE hR
    have h11 : vs 11 = .int .i64 (powOf va ws k) := hR 11 (by omega)
    have h12 : vs 12 = .nilIface := hR 12 (by omega)
    have B1 := Lib.hid (ext_of_drew hE)
    rw [h11, h12]
    clear hR hE h11 h12
    go_wp2_with fail
    go_ret
    exact ⟨rfl, B1.out⟩

set_option maxHeartbeats 4000000 in
set_option maxRecDepth 100000 in
theorem enoughT_any (base p g : Nat) (A : Option Addr) (m c cw : Nat) (va : List Va) (ws : List (Wd Int)) (k : Int) (aS aR aT : Addr) (w : World) (ht : TalAt 126 128 (Value.int .i64) base p g A m c cw va ws w) (hs : Sen w aS aR aT) (hz : m ≤ 1000) :
    Calls Tryd.prog 56 #[.pointer (some ⟨p, 0, none⟩), .int .i64 k] w fun e w' => e = .returned (.bool (enoughB va (whoOf ws k))) ∧ Below w.heap.size w w' := by
  have C0 := Lib.hid ht.cell0
  have HV := Lib.hid ht.vals
  have HNW := Lib.hid ht.nw
  have HNV := Lib.hid ht.nv
  have HT := Lib.hid ht
  have HS := Lib.hid hs
  clear ht hs
  go_enter Tryd.func56, Tryd.ntmps56
  go_wp2_with fail
  refine wp_region_rely2 (by kernel_rfl) 9 (by kernel_rfl) (by kernel_rfl) Ext Ext.refl Ext.trans (fun ix => match ix with
    | 0 => fun _ v => v = .pointer (some ⟨p, 0, none⟩)
    | 1 => fun _ v => v = .pointer (some ⟨p, 0, none⟩)
    | 2 => fun _ v => v = .pointer (some ⟨p, 0, none⟩)
    | 3 => fun _ v => v = .slice A m c
    | 4 => fun _ v => v = .pointer (some ⟨p, 0, none⟩)
    | 5 => fun _ v => v = .int .i64 k
    | 6 => fun W v => ∃ A' n' c', v = .slice A' n' c' ∧ Ins W (.slice A' n' c') (whoOf ws k) ∧ n' ≤ 1000
    | 7 => fun _ v => v = .bool (enoughB va (whoOf ws k))
    | 8 => fun _ v => v = .bool (enoughB va (whoOf ws k))
    | _ => fun _ _ => False) ?_
  simp (maxSteps := 10000000) only [Rely, List.take_succ_cons, List.take_zero, List.drop_succ_cons, List.drop_zero, Nat.reduceAdd, Nat.zero_add, Act.put, List.setIfInBounds_toArray, List.set_cons_succ, List.set_cons_zero]
  refine ⟨?_, ?_, ?_, ?_, ?_, ?_, ?_, ?_, ?_, ?_⟩
  · refine step_plain rfl fun vs wq hE hd => ?_
    exact gives_move _ (.pointer (some ⟨p, 0, none⟩)) (.inl rfl) rfl ⟨Ext.refl _, fun _ _ => rfl⟩
  · refine step_plain rfl fun vs wq hE hd => ?_
    exact gives_nilCheck _ rfl ⟨p, 0, none⟩ (show vs 0 = _ from (hd.1)) ⟨Ext.refl _, fun _ _ => rfl⟩
  · refine step_plain rfl fun vs wq hE hd => ?_
    exact gives_fieldAddr' 126 _ 0 rfl (.pointer (some ⟨p, 0, none⟩)) (.pointer (some ⟨p, 0, none⟩)) (show vs 1 = _ from (hd.1)) (by go_simp) ⟨Ext.refl _, fun _ _ => rfl⟩
  · refine step_plain rfl fun vs wq hE hd => ?_
    have hc := cell_on (ext_of_drew hE) C0.out
    exact gives_loadAt 22 _ rfl (.pointer (some ⟨p, 0, none⟩)) (.slice A m c) (show vs 2 = _ from hd.1) (by go_simp) ⟨Ext.refl _, fun _ _ => rfl⟩
  · refine step_plain rfl fun vs wq hE hd => ?_
    exact gives_move _ (.pointer (some ⟨p, 0, none⟩)) (.inl rfl) rfl ⟨Ext.refl _, fun _ _ => rfl⟩
  · refine step_plain rfl fun vs wq hE hd => ?_
    exact gives_move _ (.int .i64 k) (.inl rfl) rfl ⟨Ext.refl _, fun _ _ => rfl⟩
  · refine step_plain rfl fun vs wq hE hd => ?_
    refine gives_call 58 (enters_of Tryd.func58 (by kernel_rfl) rfl) _ _ rfl rfl [.pointer (some ⟨p, 0, none⟩), .int .i64 k] ?_ ?_
    · show [vs 4, vs 5] = _
      rw [show vs 4 = _ from (hd.1), show vs 5 = _ from (hd.2.1)]
    · refine (who_any base p g A m c cw va ws k wq (HT.out.below (ext_of_drew hE)) hz).mono ?_
      rintro _ w'' ⟨A', n', c', rfl, ro, hb⟩
      rw [show (sel (fun x => decide (x = k)) ws m).map (·.1) = whoOf ws k by unfold whoOf; rw [← HNW.out]] at ro
      have hi := Ins.of_own ro
      have hl := hi.len
      have hl2 := whoOf_len ws k
      have hl3 := HNW.out
      exact ⟨_, rfl, hb, fun W2 h2 => ⟨A', n', c', rfl, hi.below h2, by omega⟩⟩
  · refine step_plain rfl fun vs wq hE hd => ?_
    obtain ⟨A', n', c', h6, hi, hl⟩ := (hd.2.1)
    refine gives_call 20 (enters_of Tryd.func20 (by kernel_rfl) rfl) _ _ rfl rfl [.slice A m c, .slice A' n' c'] ?_ ?_
    · show [vs 3, vs 6] = _
      rw [show vs 3 = _ from (hd.1), h6]
    · refine (enough_any va (whoOf ws k) A A' m c n' c' aS aR aT wq (HV.out.below (ext_of_drew hE)) hi (HS.out.below (ext_of_drew hE)) (by omega) (by omega)).mono ?_
      rintro _ w'' ⟨rfl, hb⟩
      exact ⟨_, rfl, hb, fun _ _ => rfl⟩
  · refine step_plain rfl fun vs wq hE hd => ?_
    exact gives_move _ (.bool (enoughB va (whoOf ws k))) (.inr rfl) (show vs 7 = _ from hd.1) ⟨Ext.refl _, fun _ _ => rfl⟩
  · intro vs wz hE hR
    have h8 : vs 8 = .bool (enoughB va (whoOf ws k)) := hR 8 (by omega)
    have B1 := Lib.hid (ext_of_drew hE)
    rw [h8]
    clear hR hE h8
    go_wp2_with fail
    go_ret
    exact ⟨rfl, B1.out⟩

set_option maxHeartbeats 4000000 in
set_option maxRecDepth 100000 in
theorem put_any (base p g : Nat) (A : Option Addr) (m c cw : Nat) (va : List Va) (ws : List (Wd Int)) (k : Int) (who x : Int) (aS aR aT : Addr) (w : World) (ht : TalAt 126 128 (Value.int .i64) base p g A m c cw va ws w) (hs : Sen w aS aR aT) (hb3 : 3 ≤ base) (hz : m ≤ 1000) :
    Calls Tryd.prog 52 #[.pointer (some ⟨p, 0, none⟩), .int .i64 k, .int .i64 who, .int .i64 x] w fun e w' => e = .returned (.tuple #[.bool (putB va ws k who x), putE ws who aR aT]) ∧ TalAt 126 128 (Value.int .i64) base p g A m c cw va (putW ws k who x) w' ∧ But (fun j => j = g) w w' := by
  have c0 := ht.cell0
  have c1 := ht.cell1
  have cr := hs.r
  have ctw := hs.t
  have HNW := Lib.hid ht.nw
  have HC := Lib.hid ht.hc
  have HT := Lib.hid ht
  have HS := Lib.hid hs
  have hcw1 := ht.hc.1
  clear ht hs
  by_cases hneg : who < 0
  · have hE : Hid (putB va ws k who x = false ∧ putE ws who aR aT = errV aR ∧ putW ws k who x = ws) := Lib.hid (put_out (by omega))
    go_enter Tryd.func52, Tryd.ntmps52
    go_wp2
    go_quiet (fail)
    go_wp2
    go_ret2
    exact ⟨by rw [hE.out.1, hE.out.2.1]; rfl, by rw [hE.out.2.2]; exact HT.out.below (below_drewN _ _), But.of_below (below_drewN _ _)⟩
  by_cases hbig : (m : Int) ≤ who
  · have hE : Hid (putB va ws k who x = false ∧ putE ws who aR aT = errV aR ∧ putW ws k who x = ws) := Lib.hid (put_out (by have := HNW.out; omega))
    go_enter Tryd.func52, Tryd.ntmps52
    go_wp2
    go_quiet (fail)
    go_wp2
    go_ret2
    exact ⟨by rw [hE.out.1, hE.out.2.1]; rfl, by rw [hE.out.2.2]; exact HT.out.below (below_drewN _ _), But.of_below (below_drewN _ _)⟩
  obtain ⟨i, rfl⟩ : ∃ i : Nat, who = (i : Int) := ⟨who.toNat, by omega⟩
  have him : i < m := by omega
  obtain ⟨⟨sd, kk, xx⟩, hX⟩ : ∃ X, ws[i]? = some X := ⟨_, List.getElem?_eq_getElem (by rw [← HNW.out]; exact him)⟩
  have hr := HT.out.range hX
  have d0 : w.cell? ⟨g, i * 3, none⟩ = some (.bool sd) := by have := hr 0 _ rfl; simpa using this
  have HX := Lib.hid hX
  clear hr hX
  cases sd with
  | true =>
    have hE : Hid (putB va ws k i x = false ∧ putE ws i aR aT = errV aT ∧ putW ws k i x = ws) := Lib.hid (put_said HX.out)
    go_enter Tryd.func52, Tryd.ntmps52
    go_wp2
    go_quiet (fail)
    go_wp2
    go_ret2
    exact ⟨by rw [hE.out.1, hE.out.2.1]; rfl, by rw [hE.out.2.2]; exact HT.out.below (below_drewN _ _), But.of_below (below_drewN _ _)⟩
  | false =>
    have hE : Hid (putB va ws k i x = (!enoughB va (whoOf ws k) && enoughB va (whoOf (putW ws k i x) k)) ∧ putE ws i aR aT = .nilIface ∧ putW ws k i x = ws.set i (true, k, x)) := Lib.hid (put_free HX.out)
    go_enter Tryd.func52, Tryd.ntmps52
    go_wp2_with fail
    refine (enoughT_any base p g A m c cw va ws k aS aR aT w HT.out HS.out hz).mono ?_
    rintro _ w1 ⟨rfl, bel1⟩
    have T1 := Lib.hid (HT.out.below bel1)
    have e1 := T1.out.cell1
    have HTH := Lib.hid (T1.out.there him)
    obtain ⟨b1, hb1⟩ : ∃ b, b = enoughB va (whoOf ws k) := ⟨_, rfl⟩
    rw [← hb1] at hE ⊢
    have S1 := Lib.hid (HS.out.below bel1)
    have B1 := Lib.hid bel1
    clear bel1 hb1 c0 c1 cr ctw d0
    cases b1 with
    | true =>
      go_wp2_with (refine wpList_store_mid rfl 128 (.tmp 45) (.tmp 44) rfl g (i * 3) #[.bool true, .int .i64 k, .int .i64 x] rfl rfl HTH.out Tryd.size128 (by simp [Value.oneCell']) ?_; obtain ⟨t2, hb2⟩ := T1.out.put (by decide) (by decide) him ((true, k, x) : Wd Int); change wpList _ _ _ _ _ (w1.setCells g (i * 3) (wcell (Value.int .i64) ((true, k, x) : Wd Int))); generalize w1.setCells g (i * 3) (wcell (Value.int .i64) ((true, k, x) : Wd Int)) = w2 at t2 hb2 ⊢; have T2 := Lib.hid t2; have U2 := Lib.hid hb2; clear t2 hb2)
      go_ret2
      exact ⟨by rw [hE.out.1, hE.out.2.1]; rfl, by rw [hE.out.2.2]; exact T2.out, (But.of_below B1.out).trans U2.out⟩
    | false =>
      go_wp2_with (refine wpList_store_mid rfl 128 (.tmp 45) (.tmp 44) rfl g (i * 3) #[.bool true, .int .i64 k, .int .i64 x] rfl rfl HTH.out Tryd.size128 (by simp [Value.oneCell']) ?_; obtain ⟨t2, hb2⟩ := T1.out.put (by decide) (by decide) him ((true, k, x) : Wd Int); change wpList _ _ _ _ _ (w1.setCells g (i * 3) (wcell (Value.int .i64) ((true, k, x) : Wd Int))); generalize w1.setCells g (i * 3) (wcell (Value.int .i64) ((true, k, x) : Wd Int)) = w2 at t2 hb2 ⊢; have T2 := Lib.hid t2; have U2 := Lib.hid hb2; clear t2 hb2)
      have hg3 : 3 ≤ g := Nat.le_trans hb3 T1.out.hg
      have S2 : Hid (Sen w2 aS aR aT) := Lib.hid ⟨U2.out.cellT S1.out.s (by show ¬ 0 = g; omega), U2.out.cellT S1.out.r (by show ¬ 1 = g; omega), U2.out.cellT S1.out.t (by show ¬ 2 = g; omega)⟩
      refine (enoughT_any base p g A m c cw va _ k aS aR aT w2 T2.out S2.out hz).mono ?_
      rintro _ w3 ⟨rfl, bel3⟩
      have T3 := Lib.hid (T2.out.below bel3)
      have B3 := Lib.hid bel3
      rw [← hE.out.2.2]
      obtain ⟨b2, hb2⟩ : ∃ b, b = enoughB va (whoOf (putW ws k i x) k) := ⟨_, rfl⟩
      rw [← hb2] at hE ⊢
      clear bel3 hb2
      go_wp2_with fail
      go_ret2
      exact ⟨by rw [hE.out.1, hE.out.2.1]; cases b2 <;> rfl, by rw [hE.out.2.2]; exact T3.out, ((But.of_below B1.out).trans U2.out).trans (But.of_below B3.out)⟩
end Go.Proofs.YtideopnblhbngaaDoor
