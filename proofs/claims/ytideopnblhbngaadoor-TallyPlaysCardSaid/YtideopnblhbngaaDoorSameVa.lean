/- Whether two rows of validators are the same. -/
import Derived.Test.YtideopnblhbngaaDoorEqVa
namespace Go.Proofs.YtideopnblhbngaaDoor
open Go.RowKit

theorem hi39 (x : Va) (h : x.1.length = 16) : (Tryd.prog.info? 39).map (·.size) = some (vcells x).length := by rw [vcells_len x h]; exact Tryd.size39
theorem hi37 (k : List Int) (h : k.length = 16) : (Tryd.prog.info? 37).map (·.size) = some (u8s k).length := by rw [u8s_len', h]; exact Tryd.size37
theorem gives_fieldAddr {P : Program} {o : Oper} {ρ : Operand → Value} {w w' : World} {S : Value → World → Prop} (t : TypeId) (x : Operand) (k : Nat) (ho : o.op = .fieldAddr t x k) (a v : Value) (hx : ρ x = a) (hr : (Instr.fieldAt t a k).run P w = .ok v w') (h : S v w') : Gives P o ρ w S := by
  refine gives_val v (w' := w') ?_ h
  unfold execOp
  simp only [ho, hx, Sem.run_bind, hr, Result.andThen_ok, Sem.run_pure]

set_option maxHeartbeats 4000000 in
set_option maxRecDepth 100000 in
theorem equalVa_any (xs ys : List Va) (A A' : Option Addr) (n n' c c' : Nat) (w : World) (hx : Vals w (.slice A n c) xs) (hy : Vals w (.slice A' n' c') ys) (hz : n ≤ 1000000) :
    Calls Tryd.prog 75 #[.slice A n c, .slice A' n' c'] w fun e w' => e = .returned (.bool (decide (xs = ys))) ∧ Below w.heap.size w w' := by
  have HXS := Lib.hid hx
  have HYS := Lib.hid hy
  have HN := Lib.hid hx.len
  have HN' := Lib.hid hy.len
  clear hx hy
  by_cases hne : n = n'
  · subst hne
    go_enter Tryd.func75, Tryd.ntmps75
    go_wp2
    go_loopw [5, 13] (fun _ k wr => ∃ (i : Nat), i ≤ n ∧ k = .int .i64 i ∧ Hid (xs.take i = ys.take i) ∧ Hid (Below w.heap.size w wr))
      (fun _ k _ => n - (intOf k).toNat)
    case atStart => exact ⟨0, by omega, rfl, Lib.hid rfl, Lib.hid (Below.refl _ _)⟩
    case round =>
      obtain ⟨i, hi, rfl, htk, hbel⟩ := hrel
      by_cases hlt : i < n
      · have hi1 : i < xs.length := by have := HN.out; omega
        have hi2 : i < ys.length := by have := HN'.out; omega
        obtain ⟨b, off, rfl, hb1, ra⟩ := (HXS.out.below hbel.out).el i hlt
        obtain ⟨b', off', rfl, hb2, rb⟩ := (HYS.out.below hbel.out).el i hlt
        have dl := HXS.out.at i hi1
        have dl' := HYS.out.at i hi2
        have ht1 : xs.take (i + 1) = xs.take i ++ [xs.getD i ([], 0)] := by rw [List.take_succ_eq_append_getElem hi1]; simp [List.getD_eq_getElem?_getD, hi1]
        have ht2 : ys.take (i + 1) = ys.take i ++ [ys.getD i ([], 0)] := by rw [List.take_succ_eq_append_getElem hi2]; simp [List.getD_eq_getElem?_getD, hi2]
        have hne2 : xs.getD i ([], 0) ≠ ys.getD i ([], 0) → xs ≠ ys := fun h e => h (by rw [e])
        obtain ⟨DA, hDA⟩ : ∃ d, d = xs.getD i ([], 0) := ⟨_, rfl⟩
        obtain ⟨DB, hDB⟩ : ∃ d, d = ys.getD i ([], 0) := ⟨_, rfl⟩
        rw [← hDA] at ra dl ht1 hne2
        rw [← hDB] at rb dl' ht2 hne2
        have RA := Lib.hid ra
        have RB := Lib.hid rb
        have HT1 := Lib.hid ht1
        have HT2 := Lib.hid ht2
        have HNE := Lib.hid hne2
        have HLDA := Lib.hid dl
        have HLDB := Lib.hid dl'
        clear ra rb ht1 ht2 hne2 dl dl' hDA hDB hb1 hb2 hi1 hi2
        have hil : (i : Int) < n := by omega
        go_wp2_with fail
        refine wp_region_rely (by kernel_rfl) 9 (by kernel_rfl) (by kernel_rfl) Ext Ext.refl Ext.trans (fun ix => match ix with
          | 0 => fun _ v => v = .slice (some ⟨b, off, none⟩) n c
          | 1 => fun _ v => v = .int .i64 i
          | 2 => fun _ v => v = .pointer (some ⟨b, off + i * 17, none⟩)
          | 3 => fun _ v => v = .agg (vcells DA).toArray
          | 4 => fun _ v => v = .slice (some ⟨b', off', none⟩) n c'
          | 5 => fun _ v => v = .int .i64 i
          | 6 => fun _ v => v = .pointer (some ⟨b', off' + i * 17, none⟩)
          | 7 => fun _ v => v = .agg (vcells DB).toArray
          | 8 => fun _ v => v = .bool (!decide (DA = DB))
          | _ => fun _ _ => False) ?_
        simp (maxSteps := 10000000) only [Rely, List.take_succ_cons, List.take_zero, List.drop_succ_cons, List.drop_zero, Nat.reduceAdd, Nat.zero_add, Act.put, List.setIfInBounds_toArray, List.set_cons_succ, List.set_cons_zero]
        refine ⟨?_, ?_, ?_, ?_, ?_, ?_, ?_, ?_, ?_, ?_⟩
        · refine step_plain rfl fun vs w1 hE hd => ?_
          exact gives_move _ (.slice (some ⟨b, off, none⟩) n c) (.inl rfl) rfl ⟨Ext.refl _, fun _ _ => rfl⟩
        · refine step_plain rfl fun vs w1 hE hd => ?_
          exact gives_move _ (.int .i64 i) (.inl rfl) rfl ⟨Ext.refl _, fun _ _ => rfl⟩
        · refine step_plain rfl fun vs w1 hE hd => ?_
          exact gives_indexAt 22 _ _ rfl (.slice (some ⟨b, off, none⟩) n c) (.int .i64 i) (.pointer (some ⟨b, off + i * 17, none⟩)) (show vs 0 = _ from hd.1) (show vs 1 = _ from hd.2.1) (by go_simp) ⟨Ext.refl _, fun _ _ => rfl⟩
        · refine step_plain rfl fun vs w1 hE hd => ?_
          exact gives_load_row 39 _ rfl b (off + i * 17) (show vs 2 = _ from (hd.1)) (vcells DA) _ (range_below RA.out (ext_of_drew hE)) Tryd.underlying39 rfl (hi39 DA HLDA.out) ⟨Ext.refl _, fun _ _ => rfl⟩
        · refine step_plain rfl fun vs w1 hE hd => ?_
          exact gives_move _ (.slice (some ⟨b', off', none⟩) n c') (.inl rfl) rfl ⟨Ext.refl _, fun _ _ => rfl⟩
        · refine step_plain rfl fun vs w1 hE hd => ?_
          exact gives_move _ (.int .i64 i) (.inl rfl) rfl ⟨Ext.refl _, fun _ _ => rfl⟩
        · refine step_plain rfl fun vs w1 hE hd => ?_
          exact gives_indexAt 22 _ _ rfl (.slice (some ⟨b', off', none⟩) n c') (.int .i64 i) (.pointer (some ⟨b', off' + i * 17, none⟩)) (show vs 4 = _ from hd.1) (show vs 5 = _ from hd.2.1) (by go_simp) ⟨Ext.refl _, fun _ _ => rfl⟩
        · refine step_plain rfl fun vs w1 hE hd => ?_
          exact gives_load_row 39 _ rfl b' (off' + i * 17) (show vs 6 = _ from (hd.1)) (vcells DB) _ (range_below RB.out (ext_of_drew hE)) Tryd.underlying39 rfl (hi39 DB HLDB.out) ⟨Ext.refl _, fun _ _ => rfl⟩
        · refine step_plain rfl fun vs w1 hE hd => ?_
          exact gives_binOp .neq 39 _ _ _ rfl (.agg (vcells DA).toArray) (.agg (vcells DB).toArray) (.bool (!decide (DA = DB))) (show vs 3 = _ from (hd.1)) (show vs 7 = _ from (hd.2.1)) (by go_simp) (run_neq39 DA DB HLDA.out HLDB.out _) ⟨Ext.refl _, fun _ _ => rfl⟩
        · intro vs w2 hE hR
          have hl := hR 8 (by omega)
          have hl' : vs 8 = _ := hl
          rw [hl']
          have hb2 : Below w.heap.size w w2 := hbel.out.trans (Below.mono (ext_of_drew hE) hbel.out.size)
          have HB2 := Lib.hid hb2
          clear hR hE hl hl' hb2
          by_cases heq : DA = DB
          · rw [show (!decide (DA = DB)) = false by simp [heq]]
            go_wp2_with fail
            go_roundw
            case rel => exact ⟨i + 1, by omega, by go_num, Lib.hid (by rw [HT1.out, HT2.out, htk.out, heq]), HB2⟩
            case measure => simp [intOf]; omega
          · rw [show (!decide (DA = DB)) = true by simp [heq]]
            go_wp2_with fail
            go_ret
            exact ⟨by rw [decide_eq_false (HNE.out heq)]; rfl, HB2.out⟩
      · obtain rfl : i = n := by omega
        have he : xs = ys := by
          have := htk.out
          rwa [List.take_of_length_le (by rw [← HN.out]; exact Nat.le_refl _), List.take_of_length_le (by rw [← HN'.out]; exact Nat.le_refl _)] at this
        have HE := Lib.hid he
        clear he
        go_wp2
        go_ret
        exact ⟨by rw [decide_eq_true HE.out]; rfl, hbel.out⟩
  · have hni : ((n : Int) != n') = true := by simp; omega
    go_enter Tryd.func75, Tryd.ntmps75
    go_wp2
    go_ret
    exact ⟨by rw [decide_eq_false (fun e => hne (by rw [HN.out, HN'.out, e]))]; rfl, Below.refl _ _⟩

set_option maxHeartbeats 4000000 in
set_option maxRecDepth 100000 in
theorem same_any (xs ys : List Va) (A A' : Option Addr) (n n' c c' : Nat) (w : World) (hx : Vals w (.slice A n c) xs) (hy : Vals w (.slice A' n' c') ys) (hz : n ≤ 1000000) :
    Calls Tryd.prog 34 #[.slice A n c, .slice A' n' c'] w fun e w' => e = .returned (.bool (decide (xs = ys))) ∧ Below w.heap.size w w' := by
  have HX := Lib.hid hx
  have HY := Lib.hid hy
  clear hx hy
  go_enter Tryd.func34, Tryd.ntmps34
  go_wp2_with fail
  refine (equalVa_any xs ys A A' n n' c c' w HX.out HY.out hz).mono ?_
  rintro _ w1 ⟨rfl, bel1⟩
  have B1 := Lib.hid bel1
  clear bel1
  go_wp2_with fail
  go_ret
  exact ⟨rfl, B1.out⟩

set_option maxHeartbeats 4000000 in
set_option maxRecDepth 100000 in
theorem refSame_any (xs ys : List Va) (A A' : Option Addr) (n n' c c' : Nat) (w : World) (hx : Vals w (.slice A n c) xs) (hy : Vals w (.slice A' n' c') ys) (hz : n ≤ 1000000) :
    Calls Tryd.prog 35 #[.slice A n c, .slice A' n' c'] w fun e w' => e = .returned (.bool (decide (xs = ys))) ∧ Below w.heap.size w w' := by
  have HXS := Lib.hid hx
  have HYS := Lib.hid hy
  have HN := Lib.hid hx.len
  have HN' := Lib.hid hy.len
  clear hx hy
  by_cases hne : n = n'
  · subst hne
    go_enter Tryd.func35, Tryd.ntmps35
    go_wp2
    go_loopw [5, 13] (fun _ k wr => ∃ (i : Nat), i ≤ n ∧ k = .int .i64 i ∧ Hid (xs.take i = ys.take i) ∧ Hid (Below w.heap.size w wr))
      (fun _ k _ => n - (intOf k).toNat)
    case atStart => exact ⟨0, by omega, rfl, Lib.hid rfl, Lib.hid (Below.refl _ _)⟩
    case round =>
      obtain ⟨i, hi, rfl, htk, hbel⟩ := hrel
      by_cases hlt : i < n
      · have hi1 : i < xs.length := by have := HN.out; omega
        have hi2 : i < ys.length := by have := HN'.out; omega
        obtain ⟨b, off, rfl, hb1, ra⟩ := (HXS.out.below hbel.out).el i hlt
        obtain ⟨b', off', rfl, hb2, rb⟩ := (HYS.out.below hbel.out).el i hlt
        have dl := HXS.out.at i hi1
        have dl' := HYS.out.at i hi2
        have ht1 : xs.take (i + 1) = xs.take i ++ [xs.getD i ([], 0)] := by rw [List.take_succ_eq_append_getElem hi1]; simp [List.getD_eq_getElem?_getD, hi1]
        have ht2 : ys.take (i + 1) = ys.take i ++ [ys.getD i ([], 0)] := by rw [List.take_succ_eq_append_getElem hi2]; simp [List.getD_eq_getElem?_getD, hi2]
        have hne2 : xs.getD i ([], 0) ≠ ys.getD i ([], 0) → xs ≠ ys := fun h e => h (by rw [e])
        obtain ⟨DA, hDA⟩ : ∃ d, d = xs.getD i ([], 0) := ⟨_, rfl⟩
        obtain ⟨DB, hDB⟩ : ∃ d, d = ys.getD i ([], 0) := ⟨_, rfl⟩
        rw [← hDA] at ra dl ht1 hne2
        rw [← hDB] at rb dl' ht2 hne2
        have RA := Lib.hid ra
        have RB := Lib.hid rb
        have HT1 := Lib.hid ht1
        have HT2 := Lib.hid ht2
        have HNE := Lib.hid hne2
        have HLDA := Lib.hid dl
        have HLDB := Lib.hid dl'
        clear ra rb ht1 ht2 hne2 dl dl' hDA hDB hb1 hb2 hi1 hi2
        have hil : (i : Int) < n := by omega
        go_wp2_with fail
        by_cases hk : DA.1 = DB.1
        rotate_left
        · have heq : DA ≠ DB := fun e => hk (by rw [e])
          refine wp_region_rely (by kernel_rfl) 24 (by kernel_rfl) (by kernel_rfl) Ext Ext.refl Ext.trans (fun ix => match ix with
            | 0 => fun _ v => v = .slice (some ⟨b, off, none⟩) n c
            | 1 => fun _ v => v = .int .i64 i
            | 2 => fun _ v => v = .pointer (some ⟨b, off + i * 17, none⟩)
            | 3 => fun _ v => v = .pointer (some ⟨b, off + i * 17, none⟩)
            | 4 => fun _ v => v = .agg (u8s DA.1).toArray
            | 5 => fun _ v => v = .slice (some ⟨b', off', none⟩) n c'
            | 6 => fun _ v => v = .int .i64 i
            | 7 => fun _ v => v = .pointer (some ⟨b', off' + i * 17, none⟩)
            | 8 => fun _ v => v = .pointer (some ⟨b', off' + i * 17, none⟩)
            | 9 => fun _ v => v = .agg (u8s DB.1).toArray
            | 10 => fun _ v => v = .bool true
            | 11 => fun _ v => v = .bool true
            | 12 => fun _ v => v = undef
            | 13 => fun _ v => v = undef
            | 14 => fun _ v => v = undef
            | 15 => fun _ v => v = undef
            | 16 => fun _ v => v = undef
            | 17 => fun _ v => v = undef
            | 18 => fun _ v => v = undef
            | 19 => fun _ v => v = undef
            | 20 => fun _ v => v = undef
            | 21 => fun _ v => v = undef
            | 22 => fun _ v => v = undef
            | 23 => fun _ v => v = (Value.bool true)
            | _ => fun _ _ => False) ?_
          simp (maxSteps := 10000000) only [Rely, List.take_succ_cons, List.take_zero, List.drop_succ_cons, List.drop_zero, Nat.reduceAdd, Nat.zero_add, Act.put, List.setIfInBounds_toArray, List.set_cons_succ, List.set_cons_zero]
          refine ⟨?_, ?_, ?_, ?_, ?_, ?_, ?_, ?_, ?_, ?_, ?_, ?_, ?_, ?_, ?_, ?_, ?_, ?_, ?_, ?_, ?_, ?_, ?_, ?_, ?_⟩
          · refine step_plain rfl fun vs w1 hE hd => ?_
            exact gives_move _ (.slice (some ⟨b, off, none⟩) n c) (.inl rfl) rfl ⟨Ext.refl _, fun _ _ => rfl⟩
          · refine step_plain rfl fun vs w1 hE hd => ?_
            exact gives_move _ (.int .i64 i) (.inl rfl) rfl ⟨Ext.refl _, fun _ _ => rfl⟩
          · refine step_plain rfl fun vs w1 hE hd => ?_
            exact gives_indexAt 22 _ _ rfl (.slice (some ⟨b, off, none⟩) n c) (.int .i64 i) (.pointer (some ⟨b, off + i * 17, none⟩)) (show vs 0 = _ from hd.1) (show vs 1 = _ from hd.2.1) (by go_simp) ⟨Ext.refl _, fun _ _ => rfl⟩
          · refine step_plain rfl fun vs w1 hE hd => ?_
            exact gives_fieldAddr 39 _ 0 rfl (.pointer (some ⟨b, off + i * 17, none⟩)) _ (show vs 2 = _ from (hd.1)) (by go_simp) ⟨Ext.refl _, fun _ _ => rfl⟩
          · refine step_plain rfl fun vs w1 hE hd => ?_
            exact gives_load_row 37 _ rfl b (off + i * 17) (show vs 3 = _ from (hd.1)) (u8s DA.1) _ (range_below (vcells_key RA.out) (ext_of_drew hE)) Tryd.underlying37 rfl (hi37 DA.1 HLDA.out) ⟨Ext.refl _, fun _ _ => rfl⟩
          · refine step_plain rfl fun vs w1 hE hd => ?_
            exact gives_move _ (.slice (some ⟨b', off', none⟩) n c') (.inl rfl) rfl ⟨Ext.refl _, fun _ _ => rfl⟩
          · refine step_plain rfl fun vs w1 hE hd => ?_
            exact gives_move _ (.int .i64 i) (.inl rfl) rfl ⟨Ext.refl _, fun _ _ => rfl⟩
          · refine step_plain rfl fun vs w1 hE hd => ?_
            exact gives_indexAt 22 _ _ rfl (.slice (some ⟨b', off', none⟩) n c') (.int .i64 i) (.pointer (some ⟨b', off' + i * 17, none⟩)) (show vs 5 = _ from hd.1) (show vs 6 = _ from hd.2.1) (by go_simp) ⟨Ext.refl _, fun _ _ => rfl⟩
          · refine step_plain rfl fun vs w1 hE hd => ?_
            exact gives_fieldAddr 39 _ 0 rfl (.pointer (some ⟨b', off' + i * 17, none⟩)) _ (show vs 7 = _ from (hd.1)) (by go_simp) ⟨Ext.refl _, fun _ _ => rfl⟩
          · refine step_plain rfl fun vs w1 hE hd => ?_
            exact gives_load_row 37 _ rfl b' (off' + i * 17) (show vs 8 = _ from (hd.1)) (u8s DB.1) _ (range_below (vcells_key RB.out) (ext_of_drew hE)) Tryd.underlying37 rfl (hi37 DB.1 HLDB.out) ⟨Ext.refl _, fun _ _ => rfl⟩
          · refine step_plain rfl fun vs w1 hE hd => ?_
            have hkk : (!decide (DA.1 = DB.1)) = true := by simp [hk]
            skip
            exact gives_binOp .neq 37 _ _ _ rfl (.agg (u8s DA.1).toArray) (.agg (u8s DB.1).toArray) (.bool true) (show vs 4 = _ from (hd.1)) (show vs 9 = _ from (hd.2.1)) (by go_simp) (by rw [run_neq37 DA.1 DB.1 HLDA.out HLDB.out, hkk]) ⟨Ext.refl _, fun _ _ => rfl⟩
          · refine step_plain rfl fun vs w1 hE hd => ?_
            exact gives_move _ (.bool true) (.inl rfl) (show vs 10 = _ from hd.1) ⟨Ext.refl _, fun _ _ => rfl⟩
          · exact step_skip 11 false 27 rfl rfl (fun _ => rfl) fun vs w1 hE hd => ⟨.inl hd.1, fun _ => rfl⟩
          · exact step_skip 11 false 27 rfl rfl (fun _ => rfl) fun vs w1 hE hd => ⟨.inl hd.1, fun _ => rfl⟩
          · exact step_skip 11 false 27 rfl rfl (fun _ => rfl) fun vs w1 hE hd => ⟨.inl hd.2.2.1, fun _ => rfl⟩
          · exact step_skip 11 false 27 rfl rfl (fun _ => rfl) fun vs w1 hE hd => ⟨.inl hd.2.1, fun _ => rfl⟩
          · exact step_skip 11 false 27 rfl rfl (fun _ => rfl) fun vs w1 hE hd => ⟨.inl hd.2.1, fun _ => rfl⟩
          · exact step_skip 11 false 27 rfl rfl (fun _ => rfl) fun vs w1 hE hd => ⟨.inl hd.1, fun _ => rfl⟩
          · exact step_skip 11 false 27 rfl rfl (fun _ => rfl) fun vs w1 hE hd => ⟨.inl hd.1, fun _ => rfl⟩
          · exact step_skip 11 false 27 rfl rfl (fun _ => rfl) fun vs w1 hE hd => ⟨.inl hd.2.2.1, fun _ => rfl⟩
          · exact step_skip 11 false 27 rfl rfl (fun _ => rfl) fun vs w1 hE hd => ⟨.inl hd.2.1, fun _ => rfl⟩
          · exact step_skip 11 false 27 rfl rfl (fun _ => rfl) fun vs w1 hE hd => ⟨.inl hd.2.1, fun _ => rfl⟩
          · exact step_skip 11 false 27 rfl rfl (fun _ => rfl) fun vs w1 hE hd => ⟨.inl hd.2.2.1, fun _ => rfl⟩
          · refine step_plain rfl fun vs w1 hE hd => ?_
            exact gives_pick _ _ _ (Value.bool true) true rfl (show vs 11 = _ from hd.1) rfl ⟨Ext.refl _, fun _ _ => rfl⟩
          · intro vs w2 hE hR
            have hl := hR 23 (by omega)
            have hl' : vs 23 = _ := hl
            rw [hl']
            have hb2 : Below w.heap.size w w2 := hbel.out.trans (Below.mono (ext_of_drew hE) hbel.out.size)
            have HB2 := Lib.hid hb2
            clear hR hE hl hl' hb2
            clear hk
            go_wp2_with fail
            go_ret
            exact ⟨by rw [decide_eq_false (HNE.out heq)]; rfl, HB2.out⟩
        · skip
          refine wp_region_rely (by kernel_rfl) 24 (by kernel_rfl) (by kernel_rfl) Ext Ext.refl Ext.trans (fun ix => match ix with
            | 0 => fun _ v => v = .slice (some ⟨b, off, none⟩) n c
            | 1 => fun _ v => v = .int .i64 i
            | 2 => fun _ v => v = .pointer (some ⟨b, off + i * 17, none⟩)
            | 3 => fun _ v => v = .pointer (some ⟨b, off + i * 17, none⟩)
            | 4 => fun _ v => v = .agg (u8s DA.1).toArray
            | 5 => fun _ v => v = .slice (some ⟨b', off', none⟩) n c'
            | 6 => fun _ v => v = .int .i64 i
            | 7 => fun _ v => v = .pointer (some ⟨b', off' + i * 17, none⟩)
            | 8 => fun _ v => v = .pointer (some ⟨b', off' + i * 17, none⟩)
            | 9 => fun _ v => v = .agg (u8s DB.1).toArray
            | 10 => fun _ v => v = .bool false
            | 11 => fun _ v => v = .bool false
            | 12 => fun _ v => v = .slice (some ⟨b, off, none⟩) n c
            | 13 => fun _ v => v = .int .i64 i
            | 14 => fun _ v => v = .pointer (some ⟨b, off + i * 17, none⟩)
            | 15 => fun _ v => v = .pointer (some ⟨b, off + i * 17 + 16, none⟩)
            | 16 => fun _ v => v = .int .i64 DA.2
            | 17 => fun _ v => v = .slice (some ⟨b', off', none⟩) n c'
            | 18 => fun _ v => v = .int .i64 i
            | 19 => fun _ v => v = .pointer (some ⟨b', off' + i * 17, none⟩)
            | 20 => fun _ v => v = .pointer (some ⟨b', off' + i * 17 + 16, none⟩)
            | 21 => fun _ v => v = .int .i64 DB.2
            | 22 => fun _ v => v = .bool (DA.2 != DB.2)
            | 23 => fun _ v => v = .bool (DA.2 != DB.2)
            | _ => fun _ _ => False) ?_
          simp (maxSteps := 10000000) only [Rely, List.take_succ_cons, List.take_zero, List.drop_succ_cons, List.drop_zero, Nat.reduceAdd, Nat.zero_add, Act.put, List.setIfInBounds_toArray, List.set_cons_succ, List.set_cons_zero]
          refine ⟨?_, ?_, ?_, ?_, ?_, ?_, ?_, ?_, ?_, ?_, ?_, ?_, ?_, ?_, ?_, ?_, ?_, ?_, ?_, ?_, ?_, ?_, ?_, ?_, ?_⟩
          · refine step_plain rfl fun vs w1 hE hd => ?_
            exact gives_move _ (.slice (some ⟨b, off, none⟩) n c) (.inl rfl) rfl ⟨Ext.refl _, fun _ _ => rfl⟩
          · refine step_plain rfl fun vs w1 hE hd => ?_
            exact gives_move _ (.int .i64 i) (.inl rfl) rfl ⟨Ext.refl _, fun _ _ => rfl⟩
          · refine step_plain rfl fun vs w1 hE hd => ?_
            exact gives_indexAt 22 _ _ rfl (.slice (some ⟨b, off, none⟩) n c) (.int .i64 i) (.pointer (some ⟨b, off + i * 17, none⟩)) (show vs 0 = _ from hd.1) (show vs 1 = _ from hd.2.1) (by go_simp) ⟨Ext.refl _, fun _ _ => rfl⟩
          · refine step_plain rfl fun vs w1 hE hd => ?_
            exact gives_fieldAddr 39 _ 0 rfl (.pointer (some ⟨b, off + i * 17, none⟩)) _ (show vs 2 = _ from (hd.1)) (by go_simp) ⟨Ext.refl _, fun _ _ => rfl⟩
          · refine step_plain rfl fun vs w1 hE hd => ?_
            exact gives_load_row 37 _ rfl b (off + i * 17) (show vs 3 = _ from (hd.1)) (u8s DA.1) _ (range_below (vcells_key RA.out) (ext_of_drew hE)) Tryd.underlying37 rfl (hi37 DA.1 HLDA.out) ⟨Ext.refl _, fun _ _ => rfl⟩
          · refine step_plain rfl fun vs w1 hE hd => ?_
            exact gives_move _ (.slice (some ⟨b', off', none⟩) n c') (.inl rfl) rfl ⟨Ext.refl _, fun _ _ => rfl⟩
          · refine step_plain rfl fun vs w1 hE hd => ?_
            exact gives_move _ (.int .i64 i) (.inl rfl) rfl ⟨Ext.refl _, fun _ _ => rfl⟩
          · refine step_plain rfl fun vs w1 hE hd => ?_
            exact gives_indexAt 22 _ _ rfl (.slice (some ⟨b', off', none⟩) n c') (.int .i64 i) (.pointer (some ⟨b', off' + i * 17, none⟩)) (show vs 5 = _ from hd.1) (show vs 6 = _ from hd.2.1) (by go_simp) ⟨Ext.refl _, fun _ _ => rfl⟩
          · refine step_plain rfl fun vs w1 hE hd => ?_
            exact gives_fieldAddr 39 _ 0 rfl (.pointer (some ⟨b', off' + i * 17, none⟩)) _ (show vs 7 = _ from (hd.1)) (by go_simp) ⟨Ext.refl _, fun _ _ => rfl⟩
          · refine step_plain rfl fun vs w1 hE hd => ?_
            exact gives_load_row 37 _ rfl b' (off' + i * 17) (show vs 8 = _ from (hd.1)) (u8s DB.1) _ (range_below (vcells_key RB.out) (ext_of_drew hE)) Tryd.underlying37 rfl (hi37 DB.1 HLDB.out) ⟨Ext.refl _, fun _ _ => rfl⟩
          · refine step_plain rfl fun vs w1 hE hd => ?_
            have hkk : (!decide (DA.1 = DB.1)) = false := by simp [hk]
            skip
            exact gives_binOp .neq 37 _ _ _ rfl (.agg (u8s DA.1).toArray) (.agg (u8s DB.1).toArray) (.bool false) (show vs 4 = _ from (hd.1)) (show vs 9 = _ from (hd.2.1)) (by go_simp) (by rw [run_neq37 DA.1 DB.1 HLDA.out HLDB.out, hkk]) ⟨Ext.refl _, fun _ _ => rfl⟩
          · refine step_plain rfl fun vs w1 hE hd => ?_
            exact gives_move _ (.bool false) (.inl rfl) (show vs 10 = _ from hd.1) ⟨Ext.refl _, fun _ _ => rfl⟩
          · refine step_guard 11 false 27 rfl rfl (fun _ => rfl) fun vs w1 hE hd => ⟨hd.1, ?_⟩
            exact gives_move _ (.slice (some ⟨b, off, none⟩) n c) (.inl rfl) rfl ⟨Ext.refl _, fun _ _ => rfl⟩
          · refine step_guard 11 false 27 rfl rfl (fun _ => rfl) fun vs w1 hE hd => ⟨hd.1, ?_⟩
            exact gives_move _ (.int .i64 i) (.inl rfl) rfl ⟨Ext.refl _, fun _ _ => rfl⟩
          · refine step_guard 11 false 27 rfl rfl (fun _ => rfl) fun vs w1 hE hd => ⟨hd.2.2.1, ?_⟩
            exact gives_indexAt 22 _ _ rfl (.slice (some ⟨b, off, none⟩) n c) (.int .i64 i) (.pointer (some ⟨b, off + i * 17, none⟩)) (show vs 12 = _ from hd.1) (show vs 13 = _ from hd.2.1) (by go_simp) ⟨Ext.refl _, fun _ _ => rfl⟩
          · refine step_guard 11 false 27 rfl rfl (fun _ => rfl) fun vs w1 hE hd => ⟨hd.2.1, ?_⟩
            exact gives_fieldAddr 39 _ 1 rfl (.pointer (some ⟨b, off + i * 17, none⟩)) _ (show vs 14 = _ from (hd.1)) (by go_simp) ⟨Ext.refl _, fun _ _ => rfl⟩
          · refine step_guard 11 false 27 rfl rfl (fun _ => rfl) fun vs w1 hE hd => ⟨hd.2.1, ?_⟩
            have hc := cell_on (ext_of_drew hE) (vcells_pow HLDA.out RA.out)
            exact gives_loadAt 3 _ rfl (.pointer (some ⟨b, off + i * 17 + 16, none⟩)) (.int .i64 DA.2) (show vs 15 = _ from hd.1) (by go_simp) ⟨Ext.refl _, fun _ _ => rfl⟩
          · refine step_guard 11 false 27 rfl rfl (fun _ => rfl) fun vs w1 hE hd => ⟨hd.1, ?_⟩
            exact gives_move _ (.slice (some ⟨b', off', none⟩) n c') (.inl rfl) rfl ⟨Ext.refl _, fun _ _ => rfl⟩
          · refine step_guard 11 false 27 rfl rfl (fun _ => rfl) fun vs w1 hE hd => ⟨hd.1, ?_⟩
            exact gives_move _ (.int .i64 i) (.inl rfl) rfl ⟨Ext.refl _, fun _ _ => rfl⟩
          · refine step_guard 11 false 27 rfl rfl (fun _ => rfl) fun vs w1 hE hd => ⟨hd.2.2.1, ?_⟩
            exact gives_indexAt 22 _ _ rfl (.slice (some ⟨b', off', none⟩) n c') (.int .i64 i) (.pointer (some ⟨b', off' + i * 17, none⟩)) (show vs 17 = _ from hd.1) (show vs 18 = _ from hd.2.1) (by go_simp) ⟨Ext.refl _, fun _ _ => rfl⟩
          · refine step_guard 11 false 27 rfl rfl (fun _ => rfl) fun vs w1 hE hd => ⟨hd.2.1, ?_⟩
            exact gives_fieldAddr 39 _ 1 rfl (.pointer (some ⟨b', off' + i * 17, none⟩)) _ (show vs 19 = _ from (hd.1)) (by go_simp) ⟨Ext.refl _, fun _ _ => rfl⟩
          · refine step_guard 11 false 27 rfl rfl (fun _ => rfl) fun vs w1 hE hd => ⟨hd.2.1, ?_⟩
            have hc := cell_on (ext_of_drew hE) (vcells_pow HLDB.out RB.out)
            exact gives_loadAt 3 _ rfl (.pointer (some ⟨b', off' + i * 17 + 16, none⟩)) (.int .i64 DB.2) (show vs 20 = _ from hd.1) (by go_simp) ⟨Ext.refl _, fun _ _ => rfl⟩
          · refine step_guard 11 false 27 rfl rfl (fun _ => rfl) fun vs w1 hE hd => ⟨hd.2.2.1, ?_⟩
            exact gives_binOp .neq 3 _ _ _ rfl (.int .i64 DA.2) (.int .i64 DB.2) (.bool (DA.2 != DB.2)) (show vs 16 = _ from hd.1) (show vs 21 = _ from hd.2.1) (by go_simp) (by go_simp) ⟨Ext.refl _, fun _ _ => rfl⟩
          · refine step_plain rfl fun vs w1 hE hd => ?_
            exact gives_pick _ _ _ (.bool (DA.2 != DB.2)) false rfl (show vs 11 = _ from hd.1) (show vs 22 = _ from hd.2.1) ⟨Ext.refl _, fun _ _ => rfl⟩
          · intro vs w2 hE hR
            have hl := hR 23 (by omega)
            have hl' : vs 23 = _ := hl
            rw [hl']
            have hb2 : Below w.heap.size w w2 := hbel.out.trans (Below.mono (ext_of_drew hE) hbel.out.size)
            have HB2 := Lib.hid hb2
            clear hR hE hl hl' hb2
            by_cases hp : DA.2 = DB.2
            · have heq : DA = DB := Prod.ext hk hp
              rw [show (DA.2 != DB.2) = false by simp [hp]]
              clear hk hp
              go_wp2_with fail
              go_roundw
              case rel => exact ⟨i + 1, by omega, by go_num, Lib.hid (by rw [HT1.out, HT2.out, htk.out, heq]), HB2⟩
              case measure => simp [intOf]; omega
            · have heq : DA ≠ DB := fun e => hp (by rw [e])
              rw [show (DA.2 != DB.2) = true by simp [hp]]
              clear hk hp
              go_wp2_with fail
              go_ret
              exact ⟨by rw [decide_eq_false (HNE.out heq)]; rfl, HB2.out⟩
      · obtain rfl : i = n := by omega
        have he : xs = ys := by
          have := htk.out
          rwa [List.take_of_length_le (by rw [← HN.out]; exact Nat.le_refl _), List.take_of_length_le (by rw [← HN'.out]; exact Nat.le_refl _)] at this
        have HE := Lib.hid he
        clear he
        go_wp2
        go_ret
        exact ⟨by rw [decide_eq_true HE.out]; rfl, hbel.out⟩
  · have hni : ((n : Int) != n') = true := by simp; omega
    go_enter Tryd.func35, Tryd.ntmps35
    go_wp2
    go_ret
    exact ⟨by rw [decide_eq_false (fun e => hne (by rw [HN.out, HN'.out, e]))]; rfl, Below.refl _ _⟩
end Go.Proofs.YtideopnblhbngaaDoor
