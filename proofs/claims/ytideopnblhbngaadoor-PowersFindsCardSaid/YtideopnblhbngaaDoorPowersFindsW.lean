/- What PowersFinds answers. -/
import Derived.Test.YtideopnblhbngaaDoorPowersMeetW
import Derived.Test.YtideopnblhbngaaDoorSameVa
namespace Go.Proofs.YtideopnblhbngaaDoor
open Go.RowKit Go.Shelf

/-- What a search from the end has found when the places from j on are looked at. -/
def Last (vs : List Va) (key : List Int) (j : Nat) (z : Int) : Prop :=
  (z = -1 ∧ ∀ m, j ≤ m → m < vs.length → (vs.getD m ([], 0)).1 ≠ key) ∨ ∃ m : Nat, j ≤ m ∧ m < vs.length ∧ z = m ∧ (vs.getD m ([], 0)).1 = key ∧ ∀ m', j ≤ m' → m' < m → (vs.getD m' ([], 0)).1 ≠ key
theorem Last.eq {vs : List Va} {key : List Int} {j : Nat} (hj : j < vs.length) (h : (vs.getD j ([], 0)).1 = key) : Last vs key j j :=
  .inr ⟨j, Nat.le_refl _, hj, rfl, h, fun m' h1 h2 => by omega⟩
theorem Last.ne {vs : List Va} {key : List Int} {j : Nat} {z : Int} (hl : Last vs key (j + 1) z) (h : (vs.getD j ([], 0)).1 ≠ key) : Last vs key j z := by
  rcases hl with ⟨rfl, h2⟩ | ⟨m, h1, h2, h3, h4, h5⟩
  · refine .inl ⟨rfl, fun m hm hl => ?_⟩
    by_cases e : m = j
    · subst e; exact h
    · exact h2 m (by omega) hl
  · refine .inr ⟨m, by omega, h2, h3, h4, fun m' hm hl => ?_⟩
    by_cases e : m' = j
    · subst e; exact h
    · exact h5 m' (by omega) hl
theorem Last.find {vs : List Va} {key : List Int} {z : Int} (hl : Last vs key 0 z) : findK vs key = z := by
  rcases hl with ⟨rfl, h2⟩ | ⟨m, h1, h2, rfl, h4, h5⟩
  · exact findK_none vs key fun j hj => h2 j (Nat.zero_le _) hj
  · exact findK_at vs key m h2 h4 fun j hj => h5 j (Nat.zero_le _) hj
theorem Last.start (vs : List Va) (key : List Int) : Last vs key vs.length (-1) := .inl ⟨rfl, fun m h1 h2 => by omega⟩

set_option maxHeartbeats 8000000 in
set_option maxRecDepth 100000 in
theorem powersFinds_any (vs ws : List Va) (key : List Int) (A A' : Option Addr) (n c n' c' : Nat) (aS aR aT : Addr) (w : World) (hv : Vals w (.slice A n c) vs) (hw : Vals w (.slice A' n' c') ws) (hk : key.length = 16) (hs : Sen w aS aR aT) :
    Calls Tryd.prog 9 #[.slice A n c, .slice A' n' c', .agg (u8s key).toArray] w fun e w' => e = .returned (.bool true) ∧ Below w.heap.size w w' := by
  have bel0 : Below w.heap.size w (w.alloc (.cells (u8s key).toArray 37)) := (Below.refl _ _).alloc (Nat.le_refl _) _
  have K0 := Lib.hid (range_new w (u8s key) 37)
  have S0 := Lib.hid (show St w (.slice A n c) vs aS aR aT [] (w.alloc (.cells (u8s key).toArray 37)) from ⟨hv.below bel0, hs.below bel0, fun p hp => by simp at hp, bel0⟩)
  have W0 := Lib.hid (hw.below bel0)
  have HN := Lib.hid hv.len
  clear hv hs hw bel0
  go_enter Tryd.func9, Tryd.ntmps9
  go_wp2_with fail
  refine (alive_any aS aR aT _ S0.out.sen).mono ?_
  rintro _ w1 ⟨rfl, bel1⟩
  have S1 := Lib.hid (S0.out.go bel1)
  have W1 := Lib.hid (W0.out.below bel1)
  have K1 := Lib.hid (range_below K0.out bel1)
  clear bel1 S0 W0 K0
  by_cases h1 : 30 < n
  · have h1' : (30 : Int) < n := by omega
    go_wp2_with fail
    go_ret
    exact ⟨rfl, S1.out.bel⟩
  have h1' : ¬ (30 : Int) < n := by omega
  by_cases h2 : 30 < n'
  · have h2' : (30 : Int) < n' := by omega
    go_wp2_with fail
    go_ret
    exact ⟨rfl, S1.out.bel⟩
  have h2' : ¬ (30 : Int) < n' := by omega
  go_wp2_with fail
  clear h1' h2'
  go_loopw [7, 8] (fun s k wr => ∃ (j : Nat) (z : Int), j ≤ n ∧ s = .int .i64 z ∧ k = .int .i64 ((j : Int) - 1) ∧ Hid (Last vs key j z) ∧ Hid (Below w1.heap.size w1 wr))
    (fun _ k _ => (intOf k + 1).toNat)
  case atStart => exact ⟨n, -1, Nat.le_refl _, rfl, rfl, Lib.hid (by rw [HN.out]; exact Last.start vs key), Lib.hid (Below.refl _ _)⟩
  case round =>
    obtain ⟨j, z, hj, rfl, rfl, hlast, hbel⟩ := hrel
    cases j with
    | succ i =>
      rw [show (((i + 1 : Nat) : Int) - 1) = i by omega]
      obtain ⟨b, off, rfl, hb, hr⟩ := (S1.out.vals.below hbel.out).el i (by omega)
      have hl := S1.out.vals.at i (by rw [← HN.out]; omega)
      have hfe : (vs.getD i ([], 0)).1 = key → Last vs key i i := Last.eq (by rw [← HN.out]; omega)
      have hfn : (vs.getD i ([], 0)).1 ≠ key → Last vs key i z := Last.ne hlast.out
      obtain ⟨X, hX⟩ : ∃ X, X = vs.getD i ([], 0) := ⟨_, rfl⟩
      rw [← hX] at hr hl hfe hfn
      have RX := Lib.hid hr
      have HLX := Lib.hid hl
      have RK := Lib.hid (range_below K1.out hbel.out)
      have HFE := Lib.hid hfe
      have HFN := Lib.hid hfn
      clear hr hl hfe hfn hX hb hlast
      have hi0 : (0 : Int) ≤ i := by omega
      have hil : (i : Int) < n := by omega
      go_wp2_with fail
      · skip
        refine wp_region_rely (by kernel_rfl) 7 (by kernel_rfl) (by kernel_rfl) Ext Ext.refl Ext.trans (fun ix => match ix with
          | 0 => fun _ v => v = .slice (some ⟨b, off, none⟩) n c
          | 1 => fun _ v => v = .int .i64 i
          | 2 => fun _ v => v = .pointer (some ⟨b, off + i * 17, none⟩)
          | 3 => fun _ v => v = .pointer (some ⟨b, off + i * 17, none⟩)
          | 4 => fun _ v => v = .agg (u8s X.1).toArray
          | 5 => fun _ v => v = .agg (u8s key).toArray
          | 6 => fun _ v => v = .bool (decide (X.1 = key))
          | _ => fun _ _ => False) ?_
        simp (maxSteps := 10000000) only [Rely, List.take_succ_cons, List.take_zero, List.drop_succ_cons, List.drop_zero, Nat.reduceAdd, Nat.zero_add, Act.put, List.setIfInBounds_toArray, List.set_cons_succ, List.set_cons_zero]
        refine ⟨?_, ?_, ?_, ?_, ?_, ?_, ?_, ?_⟩
        · refine step_plain rfl fun vs w1 hE hd => ?_
          exact gives_move _ (.slice (some ⟨b, off, none⟩) n c) (.inl rfl) rfl ⟨Ext.refl _, fun _ _ => rfl⟩
        · refine step_plain rfl fun vs w1 hE hd => ?_
          exact gives_move _ (.int .i64 i) (.inl rfl) rfl ⟨Ext.refl _, fun _ _ => rfl⟩
        · refine step_plain rfl fun vs w1 hE hd => ?_
          exact gives_indexAt 22 _ _ rfl (.slice (some ⟨b, off, none⟩) n c) (.int .i64 i) (.pointer (some ⟨b, off + i * 17, none⟩)) (show vs 0 = _ from hd.1) (show vs 1 = _ from hd.2.1) (by go_simp) ⟨Ext.refl _, fun _ _ => rfl⟩
        · refine step_plain rfl fun vs w1 hE hd => ?_
          exact gives_fieldAddr 39 _ 0 rfl (.pointer (some ⟨b, off + i * 17, none⟩)) _ (show vs 2 = _ from (hd.1)) (by go_simp) ⟨Ext.refl _, fun _ _ => rfl⟩
        · refine step_plain rfl fun vs w1 hE hd => ?_
          exact gives_load_row 37 _ rfl b (off + i * 17) (show vs 3 = _ from (hd.1)) (u8s X.1) _ (range_below (vcells_key RX.out) (ext_of_drew hE)) Tryd.underlying37 rfl (hi37 X.1 HLX.out) ⟨Ext.refl _, fun _ _ => rfl⟩
        · refine step_plain rfl fun vs w1 hE hd => ?_
          exact gives_load_row 37 _ rfl w.heap.size 0 rfl (u8s key) _ (range_below RK.out (ext_of_drew hE)) Tryd.underlying37 rfl (hi37 key hk) ⟨Ext.refl _, fun _ _ => rfl⟩
        · refine step_plain rfl fun vs w1 hE hd => ?_
          exact gives_binOp .eql 37 _ _ _ rfl (.agg (u8s X.1).toArray) (.agg (u8s key).toArray) (.bool (decide (X.1 = key))) (show vs 4 = _ from (hd.1)) (show vs 5 = _ from (hd.2.1)) (by go_simp) (run_eqb37 X.1 key HLX.out hk _) ⟨Ext.refl _, fun _ _ => rfl⟩
        · intro vs w2 hE hR
          have hl6 : vs 6 = .bool (decide (X.1 = key)) := hR 6 (by omega)
          rw [hl6]
          have hb2 : Below w1.heap.size w1 w2 := hbel.out.trans (Below.mono (ext_of_drew hE) hbel.out.size)
          have HB2 := Lib.hid hb2
          clear hR hE hl6 hb2
          by_cases heq : X.1 = key
          · rw [decide_eq_true heq]
            go_wp2_with fail
            go_roundw
            case rel => exact ⟨i, i, by omega, rfl, by go_num, Lib.hid (HFE.out heq), HB2⟩
            case measure => simp [intOf]
          · rw [decide_eq_false heq]
            go_wp2_with fail
            go_roundw
            case rel => exact ⟨i, z, by omega, rfl, by go_num, Lib.hid (HFN.out heq), HB2⟩
            case measure => simp [intOf]
    | zero =>
      have hz0 : ¬ (0 : Int) ≤ ((0 : Nat) : Int) - 1 := by omega
      have hfz := hlast.out.find
      have S2 := Lib.hid (S1.out.go hbel.out)
      have W2 := Lib.hid (W1.out.below hbel.out)
      have RK := Lib.hid (range_below K1.out hbel.out)
      have HK7 := Lib.hid (hi37 key hk)
      clear hlast hbel S1 W1 K1
      go_wp2_with (refine wpList_load_g rfl 37 (.tmp 5) rfl w.heap.size 0 rfl (u8s key) _ RK.out Tryd.underlying37 rfl HK7.out ?_)
      refine (find_any vs key A n c hk _ S2.out.vals (by omega)).mono ?_
      rintro _ w3 ⟨rfl, bel3⟩
      have S3 := Lib.hid (S2.out.go bel3)
      have W3 := Lib.hid (W2.out.below bel3)
      rw [hfz]
      clear bel3 S2 W2 RK hfz
      go_wp2_with fail
      refine (same_any vs ws A A' n n' c c' w3 S3.out.vals W3.out (by omega)).mono ?_
      rintro _ w4 ⟨rfl, bel4⟩
      have S4 := Lib.hid (S3.out.go bel4)
      have W4 := Lib.hid (W3.out.below bel4)
      clear bel4 S3 W3
      go_wp2_with fail
      refine (refSame_any vs ws A A' n n' c c' w4 S4.out.vals W4.out (by omega)).mono ?_
      rintro _ w5 ⟨rfl, bel5⟩
      have S5 := Lib.hid (S4.out.go bel5)
      have hbb : (decide (vs = ws) == decide (vs = ws)) = true := by simp
      clear bel5 S4 W4
      go_wp2_with fail
      refine (same_any vs vs A A n n c c w5 S5.out.vals S5.out.vals (by omega)).mono ?_
      rintro _ w6 ⟨rfl, bel6⟩
      have S6 := Lib.hid (S5.out.go bel6)
      rw [decide_eq_true rfl]
      clear bel6 S5
      go_wp2_with fail
      go_ret
      exact ⟨rfl, S6.out.bel⟩
end Go.Proofs.YtideopnblhbngaaDoor
