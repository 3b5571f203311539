/- Whether two lists of slices of bytes, of texts, are the same. -/
import Derived.Test.YtideopnblhbngaaDoorPool
namespace Go.Proofs.YtideopnblhbngaaDoor
open Go.RowKit

set_option maxHeartbeats 4000000 in
set_option maxRecDepth 100000 in
theorem sameLists_any (xs ys : List (List Int)) (A A' : Option Addr) (n n' c c' : Nat) (w : World) (hx : Bss w (.slice A n c) xs) (hy : Bss w (.slice A' n' c') ys) (hz : n ≤ 1000000) :
    Calls Tryd.prog 30 #[.slice A n c, .slice A' n' c'] w fun e w' => e = .returned (.bool (decide (xs.map strOfNums = ys.map strOfNums))) ∧ Below w.heap.size w w' := by
  have HXS := Lib.hid hx
  have HYS := Lib.hid hy
  have HN : Hid (n = (xs.map strOfNums).length) := Lib.hid (by simpa using hx.len)
  have HN' : Hid (n' = (ys.map strOfNums).length) := Lib.hid (by simpa using hy.len)
  clear hx hy
  by_cases hne : n = n'
  · subst hne
    go_enter Tryd.func30, Tryd.ntmps30
    go_wp2
    go_loopw [5, 13] (fun _ k wr => ∃ (i : Nat), i ≤ n ∧ k = .int .i64 i ∧ Hid ((xs.map strOfNums).take i = (ys.map strOfNums).take i) ∧ Hid (Below w.heap.size w wr))
      (fun _ k _ => n - (intOf k).toNat)
    case atStart => exact ⟨0, by omega, rfl, Lib.hid rfl, Lib.hid (Below.refl _ _)⟩
    case round =>
      obtain ⟨i, hi, rfl, htk, hbel⟩ := hrel
      by_cases hlt : i < n
      · have hi1 : i < (xs.map strOfNums).length := by have := HN.out; omega
        have hi2 : i < (ys.map strOfNums).length := by have := HN'.out; omega
        obtain ⟨b, off, B1, m1, d1, rfl, ra, ea⟩ := (HXS.out.below hbel.out).el i hlt
        obtain ⟨b', off', B2, m2, d2, rfl, rb, eb⟩ := (HYS.out.below hbel.out).el i hlt
        obtain ⟨SA, hSA⟩ : ∃ s, s = strOfNums (xs.getD i []) := ⟨_, rfl⟩
        obtain ⟨SB, hSB⟩ : ∃ s, s = strOfNums (ys.getD i []) := ⟨_, rfl⟩
        have EAE := Lib.hid hSA.symm
        have EBE := Lib.hid hSB.symm
        have EA := Lib.hid ea
        have EB := Lib.hid eb
        have RA := Lib.hid ra
        have RB := Lib.hid rb
        clear ra rb ea eb
        have ht1 : (xs.map strOfNums).take (i + 1) = (xs.map strOfNums).take i ++ [SA] := by rw [List.take_succ_eq_append_getElem hi1]; simp [hSA, List.getD_eq_getElem?_getD, List.getElem?_eq_getElem (show i < xs.length by simpa using hi1)]
        have ht2 : (ys.map strOfNums).take (i + 1) = (ys.map strOfNums).take i ++ [SB] := by rw [List.take_succ_eq_append_getElem hi2]; simp [hSB, List.getD_eq_getElem?_getD, List.getElem?_eq_getElem (show i < ys.length by simpa using hi2)]
        have hne2 : SA ≠ SB → xs.map strOfNums ≠ ys.map strOfNums := fun h e => h (by
          have e1 := congrArg (fun l => l.getD i ByteArray.empty) e
          simpa [hSA, hSB, List.getD_eq_getElem?_getD, List.getElem?_eq_getElem (show i < xs.length by simpa using hi1), List.getElem?_eq_getElem (show i < ys.length by simpa using hi2)] using e1)
        have HT1 := Lib.hid ht1
        have HT2 := Lib.hid ht2
        have HNE := Lib.hid hne2
        clear ht1 ht2 hne2 hSA hSB hi1 hi2
        have hil : (i : Int) < n := by omega
        go_wp2_with fail
        refine wp_region_rely (by kernel_rfl) 11 (by kernel_rfl) (by kernel_rfl) Ext Ext.refl Ext.trans (fun ix => match ix with
          | 0 => fun _ v => v = .slice (some ⟨b, off, none⟩) n c
          | 1 => fun _ v => v = .int .i64 i
          | 2 => fun _ v => v = .pointer (some ⟨b, off + i, none⟩)
          | 3 => fun _ v => v = .slice B1 m1 d1
          | 4 => fun _ v => v = .string SA
          | 5 => fun _ v => v = .slice (some ⟨b', off', none⟩) n c'
          | 6 => fun _ v => v = .int .i64 i
          | 7 => fun _ v => v = .pointer (some ⟨b', off' + i, none⟩)
          | 8 => fun _ v => v = .slice B2 m2 d2
          | 9 => fun _ v => v = .string SB
          | 10 => fun _ v => v = .bool (!decide (SA = SB))
          | _ => fun _ _ => False) ?_
        simp (maxSteps := 10000000) only [Rely, List.take_succ_cons, List.take_zero, List.drop_succ_cons, List.drop_zero, Nat.reduceAdd, Nat.zero_add, Act.put, List.setIfInBounds_toArray, List.set_cons_succ, List.set_cons_zero]
        refine ⟨?_, ?_, ?_, ?_, ?_, ?_, ?_, ?_, ?_, ?_, ?_, ?_⟩
        · refine step_plain rfl fun vs w1 hE hd => ?_
          exact gives_move _ (.slice (some ⟨b, off, none⟩) n c) (.inl rfl) rfl ⟨Ext.refl _, fun _ _ => rfl⟩
        · refine step_plain rfl fun vs w1 hE hd => ?_
          exact gives_move _ (.int .i64 i) (.inl rfl) rfl ⟨Ext.refl _, fun _ _ => rfl⟩
        · refine step_plain rfl fun vs w1 hE hd => ?_
          exact gives_indexAt 41 _ _ rfl (.slice (some ⟨b, off, none⟩) n c) (.int .i64 i) (.pointer (some ⟨b, off + i, none⟩)) (show vs 0 = _ from hd.1) (show vs 1 = _ from hd.2.1) (by go_simp) ⟨Ext.refl _, fun _ _ => rfl⟩
        · refine step_plain rfl fun vs w1 hE hd => ?_
          have hc := cell_on (ext_of_drew hE) RA.out
          exact gives_loadAt 44 _ rfl (.pointer (some ⟨b, off + i, none⟩)) (.slice B1 m1 d1) (show vs 2 = _ from hd.1) (by go_simp) ⟨Ext.refl _, fun _ _ => rfl⟩
        · refine step_plain rfl fun vs w1 hE hd => ?_
          exact gives_convert 44 9 _ rfl (.slice B1 m1 d1) _ (show vs 3 = _ from (hd.1)) (by rw [← EAE.out]; exact conv_bs EA.out _ (ext_of_drew hE)) ⟨Ext.refl _, fun _ _ => rfl⟩
        · refine step_plain rfl fun vs w1 hE hd => ?_
          exact gives_move _ (.slice (some ⟨b', off', none⟩) n c') (.inl rfl) rfl ⟨Ext.refl _, fun _ _ => rfl⟩
        · refine step_plain rfl fun vs w1 hE hd => ?_
          exact gives_move _ (.int .i64 i) (.inl rfl) rfl ⟨Ext.refl _, fun _ _ => rfl⟩
        · refine step_plain rfl fun vs w1 hE hd => ?_
          exact gives_indexAt 41 _ _ rfl (.slice (some ⟨b', off', none⟩) n c') (.int .i64 i) (.pointer (some ⟨b', off' + i, none⟩)) (show vs 5 = _ from hd.1) (show vs 6 = _ from hd.2.1) (by go_simp) ⟨Ext.refl _, fun _ _ => rfl⟩
        · refine step_plain rfl fun vs w1 hE hd => ?_
          have hc := cell_on (ext_of_drew hE) RB.out
          exact gives_loadAt 44 _ rfl (.pointer (some ⟨b', off' + i, none⟩)) (.slice B2 m2 d2) (show vs 7 = _ from hd.1) (by go_simp) ⟨Ext.refl _, fun _ _ => rfl⟩
        · refine step_plain rfl fun vs w1 hE hd => ?_
          exact gives_convert 44 9 _ rfl (.slice B2 m2 d2) _ (show vs 8 = _ from (hd.1)) (by rw [← EBE.out]; exact conv_bs EB.out _ (ext_of_drew hE)) ⟨Ext.refl _, fun _ _ => rfl⟩
        · refine step_plain rfl fun vs w1 hE hd => ?_
          exact gives_binOp .neq 9 _ _ _ rfl (.string SA) (.string SB) (.bool (!decide (SA = SB))) (show vs 4 = _ from (hd.1)) (show vs 9 = _ from (hd.2.1)) (by go_simp) (by go_simp; simp [str_beq]) ⟨Ext.refl _, fun _ _ => rfl⟩
        · intro vs w2 hE hR
          have hl := hR 10 (by omega)
          have hl' : vs 10 = _ := hl
          rw [hl']
          have hb2 : Below w.heap.size w w2 := hbel.out.trans (Below.mono (ext_of_drew hE) hbel.out.size)
          have HB2 := Lib.hid hb2
          clear hR hE hl hl' hb2
          by_cases heq : SA = SB
          · rw [show (!decide (SA = SB)) = false by simp [heq]]
            go_wp2_with fail
            go_roundw
            case rel => exact ⟨i + 1, by omega, by go_num, Lib.hid (by rw [HT1.out, HT2.out, htk.out, heq]), HB2⟩
            case measure => simp [intOf]; omega
          · rw [show (!decide (SA = SB)) = true by simp [heq]]
            go_wp2_with fail
            go_ret
            exact ⟨by rw [decide_eq_false (HNE.out heq)]; rfl, HB2.out⟩
      · obtain rfl : i = n := by omega
        have he : xs.map strOfNums = ys.map strOfNums := by
          have := htk.out
          rwa [List.take_of_length_le (by rw [← HN.out]; exact Nat.le_refl _), List.take_of_length_le (by rw [← HN'.out]; exact Nat.le_refl _)] at this
        have HE := Lib.hid he
        clear he
        go_wp2
        go_ret
        exact ⟨by rw [decide_eq_true HE.out]; rfl, hbel.out⟩
  · have hni : ((n : Int) != n') = true := by simp; omega
    go_enter Tryd.func30, Tryd.ntmps30
    go_wp2
    go_ret
    exact ⟨by rw [decide_eq_false (fun e => hne (by rw [HN.out, HN'.out, e]))]; rfl, Below.refl _ _⟩

set_option maxHeartbeats 4000000 in
set_option maxRecDepth 100000 in
theorem sameTexts_any (xs ys : List ByteArray) (A A' : Option Addr) (n n' c c' : Nat) (w : World) (hx : Txs w (.slice A n c) xs) (hy : Txs w (.slice A' n' c') ys) (hz : n ≤ 1000000) :
    Calls Tryd.prog 45 #[.slice A n c, .slice A' n' c'] w fun e w' => e = .returned (.bool (decide (xs = ys))) ∧ Below w.heap.size w w' := by
  have HXS := Lib.hid hx
  have HYS := Lib.hid hy
  have HN : Hid (n = (xs).length) := Lib.hid (by simpa using hx.len)
  have HN' : Hid (n' = (ys).length) := Lib.hid (by simpa using hy.len)
  clear hx hy
  by_cases hne : n = n'
  · subst hne
    go_enter Tryd.func45, Tryd.ntmps45
    go_wp2
    go_loopw [5, 13] (fun _ k wr => ∃ (i : Nat), i ≤ n ∧ k = .int .i64 i ∧ Hid ((xs).take i = (ys).take i) ∧ Hid (Below w.heap.size w wr))
      (fun _ k _ => n - (intOf k).toNat)
    case atStart => exact ⟨0, by omega, rfl, Lib.hid rfl, Lib.hid (Below.refl _ _)⟩
    case round =>
      obtain ⟨i, hi, rfl, htk, hbel⟩ := hrel
      by_cases hlt : i < n
      · have hi1 : i < (xs).length := by have := HN.out; omega
        have hi2 : i < (ys).length := by have := HN'.out; omega
        obtain ⟨b, off, rfl, hb1, ra⟩ := (HXS.out.below hbel.out).el i hlt
        obtain ⟨b', off', rfl, hb2, rb⟩ := (HYS.out.below hbel.out).el i hlt
        obtain ⟨SA, hSA⟩ : ∃ s, s = xs.getD i ByteArray.empty := ⟨_, rfl⟩
        obtain ⟨SB, hSB⟩ : ∃ s, s = ys.getD i ByteArray.empty := ⟨_, rfl⟩
        rw [← hSA] at ra
        rw [← hSB] at rb
        have RA := Lib.hid ra
        have RB := Lib.hid rb
        clear ra rb hb1 hb2
        have ht1 : (xs).take (i + 1) = (xs).take i ++ [SA] := by rw [List.take_succ_eq_append_getElem hi1]; simp [hSA, List.getD_eq_getElem?_getD, List.getElem?_eq_getElem (show i < xs.length by simpa using hi1)]
        have ht2 : (ys).take (i + 1) = (ys).take i ++ [SB] := by rw [List.take_succ_eq_append_getElem hi2]; simp [hSB, List.getD_eq_getElem?_getD, List.getElem?_eq_getElem (show i < ys.length by simpa using hi2)]
        have hne2 : SA ≠ SB → xs ≠ ys := fun h e => h (by
          have e1 := congrArg (fun l => l.getD i ByteArray.empty) e
          simpa [hSA, hSB, List.getD_eq_getElem?_getD, List.getElem?_eq_getElem (show i < xs.length by simpa using hi1), List.getElem?_eq_getElem (show i < ys.length by simpa using hi2)] using e1)
        have HT1 := Lib.hid ht1
        have HT2 := Lib.hid ht2
        have HNE := Lib.hid hne2
        clear ht1 ht2 hne2 hSA hSB hi1 hi2
        have hil : (i : Int) < n := by omega
        go_wp2_with fail
        refine wp_region_rely (by kernel_rfl) 9 (by kernel_rfl) (by kernel_rfl) Ext Ext.refl Ext.trans (fun ix => match ix with
          | 0 => fun _ v => v = .slice (some ⟨b, off, none⟩) n c
          | 1 => fun _ v => v = .int .i64 i
          | 2 => fun _ v => v = .pointer (some ⟨b, off + i, none⟩)
          | 3 => fun _ v => v = .string SA
          | 4 => fun _ v => v = .slice (some ⟨b', off', none⟩) n c'
          | 5 => fun _ v => v = .int .i64 i
          | 6 => fun _ v => v = .pointer (some ⟨b', off' + i, none⟩)
          | 7 => fun _ v => v = .string SB
          | 8 => fun _ v => v = .bool (!decide (SA = SB))
          | _ => fun _ _ => False) ?_
        simp (maxSteps := 10000000) only [Rely, List.take_succ_cons, List.take_zero, List.drop_succ_cons, List.drop_zero, Nat.reduceAdd, Nat.zero_add, Act.put, List.setIfInBounds_toArray, List.set_cons_succ, List.set_cons_zero]
        refine ⟨?_, ?_, ?_, ?_, ?_, ?_, ?_, ?_, ?_, ?_⟩
        · refine step_plain rfl fun vs w1 hE hd => ?_
          exact gives_move _ (.slice (some ⟨b, off, none⟩) n c) (.inl rfl) rfl ⟨Ext.refl _, fun _ _ => rfl⟩
        · refine step_plain rfl fun vs w1 hE hd => ?_
          exact gives_move _ (.int .i64 i) (.inl rfl) rfl ⟨Ext.refl _, fun _ _ => rfl⟩
        · refine step_plain rfl fun vs w1 hE hd => ?_
          exact gives_indexAt 65 _ _ rfl (.slice (some ⟨b, off, none⟩) n c) (.int .i64 i) (.pointer (some ⟨b, off + i, none⟩)) (show vs 0 = _ from hd.1) (show vs 1 = _ from hd.2.1) (by go_simp) ⟨Ext.refl _, fun _ _ => rfl⟩
        · refine step_plain rfl fun vs w1 hE hd => ?_
          have hc := cell_on (ext_of_drew hE) RA.out
          exact gives_loadAt 9 _ rfl (.pointer (some ⟨b, off + i, none⟩)) (.string SA) (show vs 2 = _ from hd.1) (by go_simp) ⟨Ext.refl _, fun _ _ => rfl⟩
        · refine step_plain rfl fun vs w1 hE hd => ?_
          exact gives_move _ (.slice (some ⟨b', off', none⟩) n c') (.inl rfl) rfl ⟨Ext.refl _, fun _ _ => rfl⟩
        · refine step_plain rfl fun vs w1 hE hd => ?_
          exact gives_move _ (.int .i64 i) (.inl rfl) rfl ⟨Ext.refl _, fun _ _ => rfl⟩
        · refine step_plain rfl fun vs w1 hE hd => ?_
          exact gives_indexAt 65 _ _ rfl (.slice (some ⟨b', off', none⟩) n c') (.int .i64 i) (.pointer (some ⟨b', off' + i, none⟩)) (show vs 4 = _ from hd.1) (show vs 5 = _ from hd.2.1) (by go_simp) ⟨Ext.refl _, fun _ _ => rfl⟩
        · refine step_plain rfl fun vs w1 hE hd => ?_
          have hc := cell_on (ext_of_drew hE) RB.out
          exact gives_loadAt 9 _ rfl (.pointer (some ⟨b', off' + i, none⟩)) (.string SB) (show vs 6 = _ from hd.1) (by go_simp) ⟨Ext.refl _, fun _ _ => rfl⟩
        · refine step_plain rfl fun vs w1 hE hd => ?_
          exact gives_binOp .neq 9 _ _ _ rfl (.string SA) (.string SB) (.bool (!decide (SA = SB))) (show vs 3 = _ from (hd.1)) (show vs 7 = _ from (hd.2.1)) (by go_simp) (by go_simp; simp [str_beq]) ⟨Ext.refl _, fun _ _ => rfl⟩
        · intro vs w2 hE hR
          have hl := hR 8 (by omega)
          have hl' : vs 8 = _ := hl
          rw [hl']
          have hb2 : Below w.heap.size w w2 := hbel.out.trans (Below.mono (ext_of_drew hE) hbel.out.size)
          have HB2 := Lib.hid hb2
          clear hR hE hl hl' hb2
          by_cases heq : SA = SB
          · rw [show (!decide (SA = SB)) = false by simp [heq]]
            go_wp2_with fail
            go_roundw
            case rel => exact ⟨i + 1, by omega, by go_num, Lib.hid (by rw [HT1.out, HT2.out, htk.out, heq]), HB2⟩
            case measure => simp [intOf]; omega
          · rw [show (!decide (SA = SB)) = true by simp [heq]]
            go_wp2_with fail
            go_ret
            exact ⟨by rw [decide_eq_false (HNE.out heq)]; rfl, HB2.out⟩
      · obtain rfl : i = n := by omega
        have he : xs = ys := by
          have := htk.out
          rwa [List.take_of_length_le (by rw [← HN.out]; exact Nat.le_refl _), List.take_of_length_le (by rw [← HN'.out]; exact Nat.le_refl _)] at this
        have HE := Lib.hid he
        clear he
        go_wp2
        go_ret
        exact ⟨by rw [decide_eq_true HE.out]; rfl, hbel.out⟩
  · have hni : ((n : Int) != n') = true := by simp; omega
    go_enter Tryd.func45, Tryd.ntmps45
    go_wp2
    go_ret
    exact ⟨by rw [decide_eq_false (fun e => hne (by rw [HN.out, HN'.out, e]))]; rfl, Below.refl _ _⟩
end Go.Proofs.YtideopnblhbngaaDoor
