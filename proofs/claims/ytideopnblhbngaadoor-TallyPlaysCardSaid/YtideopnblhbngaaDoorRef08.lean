/- The reference's answers for layer 8: In, Right, Total, Sum, Enough, Few. -/
import Derived.Test.YtideopnblhbngaaDoorEnough
import Derived.Test.YtideopnblhbngaaDoorSameVa
namespace Go.Proofs.YtideopnblhbngaaDoor
open Go.RowKit Go.Shelf

set_option maxHeartbeats 4000000 in
set_option maxRecDepth 100000 in
theorem in_any (xs : List Int) (z : Int) (A : Option Addr) (n c : Nat) (w : World) (hv : Ins w (.slice A n c) xs) (hz : n ≤ 1000000) :
    Calls Tryd.prog 76 #[.slice A n c, .int .i64 z] w fun e w' => e = .returned (.bool (decide (z ∈ xs))) ∧ w' = w := by
  have HV := Lib.hid hv
  have HN := Lib.hid hv.len
  clear hv
  go_enter Tryd.func76, Tryd.ntmps76
  go_wp2
  go_loopw [6, 9] (fun _ k wr => ∃ (i : Nat), i ≤ n ∧ k = .int .i64 i ∧ Hid (z ∉ xs.take i) ∧ w = wr)
    (fun _ k _ => n - (intOf k).toNat)
  case atStart => exact ⟨0, by omega, rfl, Lib.hid (by simp), by first | trivial | rfl⟩
  case round =>
    obtain ⟨i, hi, rfl, hne, rfl⟩ := hrel
    by_cases hlt : i < n
    · obtain ⟨b, off, rfl, hb, hr⟩ := HV.out.el i hlt
      have hi1 : i < xs.length := by have := HN.out; omega
      obtain ⟨X, hX⟩ : ∃ X, X = xs.getD i 0 := ⟨_, rfl⟩
      have hxm : X ∈ xs := by rw [hX, List.getD_eq_getElem?_getD, List.getElem?_eq_getElem hi1]; exact List.getElem_mem _
      have htk : xs.take (i + 1) = xs.take i ++ [X] := by rw [List.take_succ_eq_append_getElem hi1, hX]; simp [List.getD_eq_getElem?_getD, hi1]
      rw [← hX] at hr
      have HXM := Lib.hid hxm
      have HTK := Lib.hid htk
      have hil : (i : Int) < n := by omega
      clear hX hxm htk
      by_cases he : X = z
      · have hb1 : (X == z) = true := by simp [he]
        have hd : decide (z ∈ xs) = true := decide_eq_true (by rw [← he]; exact HXM.out)
        have HD := Lib.hid hd
        clear hd
        go_wp2_with fail
        go_ret
        exact ⟨by rw [HD.out]; rfl, rfl⟩
      · have hb1 : (X == z) = false := by simp [he]
        go_wp2_with fail
        go_roundw
        case rel => exact ⟨i + 1, by omega, by go_num, Lib.hid (by
          rw [HTK.out]
          intro hm
          rcases List.mem_append.1 hm with hm | hm
          · exact hne.out hm
          · simp at hm; exact he hm.symm), by first | trivial | rfl⟩
        case measure => simp [intOf]; omega
    · obtain rfl : i = n := by omega
      have hd : decide (z ∈ xs) = false := decide_eq_false (by
        have := hne.out
        rwa [List.take_of_length_le (by rw [← HN.out]; exact Nat.le_refl _)] at this)
      have HD := Lib.hid hd
      clear hd
      go_wp2_with fail
      go_ret
      exact ⟨by rw [HD.out]; rfl, rfl⟩

set_option maxHeartbeats 4000000 in
set_option maxRecDepth 100000 in
theorem refTotal_any (vs : List Va) (A : Option Addr) (n c : Nat) (w : World) (hv : Vals w (.slice A n c) vs) (hz : n ≤ 1000000) :
    Calls Tryd.prog 40 #[.slice A n c] w fun e w' => e = .returned (.int .i64 (sumW (vs.map (·.2)))) ∧ Below w.heap.size w w' := by
  have HV := Lib.hid hv
  have HN := Lib.hid hv.len
  clear hv
  go_enter Tryd.func40, Tryd.ntmps40
  go_wp2
  go_loopw [3, 8] (fun s k wr => ∃ (i : Nat) (S : Int), i ≤ n ∧ s = .int .i64 S ∧ k = .int .i64 i ∧ Hid (S = sumW ((vs.take i).map (·.2))) ∧ Hid (Below w.heap.size w wr))
    (fun _ k _ => n - (intOf k).toNat)
  case atStart => exact ⟨0, 0, by omega, rfl, rfl, Lib.hid rfl, Lib.hid (Below.refl _ _)⟩
  case round =>
    obtain ⟨i, S, hi, rfl, rfl, hS, hbel⟩ := hrel
    by_cases hlt : i < n
    · obtain ⟨b, off, rfl, hb, hr⟩ := (HV.out.below hbel.out).el i hlt
      have hi1 : i < vs.length := by have := HN.out; omega
      have hl := HV.out.at i hi1
      have htk := powers_take vs i hi1
      obtain ⟨X, hX⟩ : ∃ X, X = vs.getD i ([], 0) := ⟨_, rfl⟩
      rw [← hX] at hr hl htk
      have hi39 : (Tryd.prog.info? 39).map (·.size) = some (vcells X).length := by rw [vcells_len X hl]; exact Tryd.size39
      have hh : ∀ Z : Array Value, Z.size = 17 → Has (wr.alloc (.cells Z 39)) wr.heap.size 39 (vcells X).length := fun Z hZ => has_new wr _ _ _ (by rw [hZ, vcells_len X hl])
      have HR := Lib.hid hr
      have HL := Lib.hid hl
      have HI := Lib.hid hi39
      have HH := Lib.hid hh
      have HTK := Lib.hid htk
      have hil : (i : Int) < n := by omega
      clear hr hl hi39 hh hX hb htk hi1
      go_wp2_with (first | (refine wpList_load_g rfl 39 (.tmp 10) rfl b (off + i * 17) rfl (vcells X) _ HR.out Tryd.underlying39 rfl HI.out ?_) | (refine wpList_store_row rfl 39 (.tmp 5) (.tmp 11) rfl wr.heap.size rfl (vcells X) rfl 39 (HH.out _ rfl) HI.out (one_vcells X) ?_; intro w1 hp1; have L1 : Below wr.heap.size wr w1 := hp1.below ((Below.refl _ _).alloc (Nat.le_refl _) _) (Nat.le_refl _); have B1 := Lib.hid (hbel.out.trans (L1.mono hbel.out.size)); have hpw := vcells_pow HL.out (blk_range hp1.blk); rw [Nat.zero_add] at hpw; clear hp1 L1))
      go_roundw
      case rel => exact ⟨i + 1, _, by omega, rfl, by go_num, Lib.hid (by rw [HTK.out, sumW_snoc, ← hS.out]), B1⟩
      case measure => simp [intOf]; omega
    · obtain rfl : i = n := by omega
      go_wp2_with fail
      go_ret
      exact ⟨by rw [hS.out, List.take_of_length_le (by rw [← HN.out]; exact Nat.le_refl _)]; rfl, hbel.out⟩

theorem findK_least (vs : List Va) (i : Nat) (hi : i < vs.length) : findK vs (vs.getD i ([], 0)).1 = i ↔ ∀ j, j < i → (vs.getD j ([], 0)).1 ≠ (vs.getD i ([], 0)).1 := by
  constructor
  · intro h j hj he
    have hex : ∃ j, j < i ∧ (vs.getD j ([], 0)).1 = (vs.getD i ([], 0)).1 := ⟨j, hj, he⟩
    obtain ⟨m, hm, hmin⟩ : ∃ m, (m < i ∧ (vs.getD m ([], 0)).1 = (vs.getD i ([], 0)).1) ∧ ∀ k, k < m → ¬ (k < i ∧ (vs.getD k ([], 0)).1 = (vs.getD i ([], 0)).1) := by
      clear h he hj j
      obtain ⟨j, hj⟩ := hex
      induction j using Nat.strongRecOn with
      | ind j ih =>
        by_cases hk : ∃ k, k < j ∧ (k < i ∧ (vs.getD k ([], 0)).1 = (vs.getD i ([], 0)).1)
        · obtain ⟨k, hkj, hk⟩ := hk
          exact ih k hkj hk
        · exact ⟨j, hj, fun k hkj hkk => hk ⟨k, hkj, hkk⟩⟩
    have h2 := findK_at vs (vs.getD i ([], 0)).1 m (by omega) hm.2 (fun k hk e => hmin k hk ⟨by omega, e⟩)
    rw [h] at h2
    omega
  · intro h
    exact findK_at vs _ i hi rfl h
theorem okAt_eq (vs : List Va) (i : Nat) (hi : i < vs.length) : okAt vs i = decide (1 ≤ (vs.getD i ([], 0)).2 ∧ (vs.getD i ([], 0)).2 ≤ 1099511627776 ∧ ∀ j, j < i → (vs.getD j ([], 0)).1 ≠ (vs.getD i ([], 0)).1) := by
  unfold okAt
  rw [decide_eq_decide, findK_least vs i hi]
theorem Vals.take {w : World} {A : Option Addr} {n c : Nat} {vs : List Va} (h : Vals w (.slice A n c) vs) (k : Nat) (hk : k ≤ n) : Vals w (.slice A k c) (vs.take k) := by
  have hl := h.len
  have hkl : (vs.take k).length = k := by rw [List.length_take]; omega
  refine ⟨⟨A, c, by rw [hkl]⟩, fun hne => ?_, fun x hx => h.good x (List.mem_of_mem_take hx)⟩
  have hk0 : 0 < k := by
    cases k with
    | zero => exact absurd rfl hne
    | succ => omega
  obtain ⟨b, off, c', e, h1, h2, h3, h4⟩ := h.cells (by intro e; subst e; simp at hl; omega)
  simp only [Value.slice.injEq] at e
  obtain ⟨rfl, _, rfl⟩ := e
  refine ⟨b, off, c, by rw [hkl], by omega, h2, h3, fun i hi => ?_⟩
  have := h4 i (by omega)
  simp only [List.getD_eq_getElem?_getD, List.getElem?_take] at this ⊢
  rw [if_pos (by omega)]
  exact this
set_option maxHeartbeats 8000000 in
set_option maxRecDepth 100000 in
theorem right_any (vs : List Va) (A : Option Addr) (n c : Nat) (w : World) (hv : Vals w (.slice A n c) vs) :
    Calls Tryd.prog 37 #[.slice A n c] w fun e w' => e = .returned (.bool (validB vs)) ∧ Below w.heap.size w w' := by
  have HV := Lib.hid hv
  have HN := Lib.hid hv.len
  clear hv
  by_cases h0 : n = 0
  · have hE : Hid (validB vs = false) := Lib.hid (validB_len vs (by rw [← HN.out]; omega))
    have h0' : (n : Int) = 0 := by omega
    go_enter Tryd.func37, Tryd.ntmps37
    go_wp2
    go_ret
    exact ⟨by rw [hE.out]; rfl, Below.refl _ _⟩
  have h0' : ¬ (n : Int) = 0 := by omega
  by_cases h7 : 7 < n
  · have hE : Hid (validB vs = false) := Lib.hid (validB_len vs (by rw [← HN.out]; omega))
    have h7' : (7 : Int) < n := by omega
    go_enter Tryd.func37, Tryd.ntmps37
    go_wp2
    go_ret
    exact ⟨by rw [hE.out]; rfl, Below.refl _ _⟩
  have h7' : ¬ (7 : Int) < n := by omega
  go_enter Tryd.func37, Tryd.ntmps37
  go_wp2
  go_loopw [3, 4, 17] (fun _ _ k wr => ∃ (i : Nat), i ≤ n ∧ k = .int .i64 i ∧ Hid (∀ j, j < i → okAt vs j = true) ∧ Hid (Below w.heap.size w wr))
    (fun _ _ k _ => n - (intOf k).toNat)
  case atStart => exact ⟨0, by omega, rfl, Lib.hid (fun j h => absurd h (by omega)), Lib.hid (Below.refl _ _)⟩
  case round =>
    obtain ⟨i, hi, rfl, hok, hbel⟩ := hrel
    obtain ⟨wo, hwo⟩ : ∃ x, x = wr := ⟨_, rfl⟩
    subst hwo
    by_cases hlt : i < n
    · have hvr := HV.out.below hbel.out
      obtain ⟨b, off, rfl, hb, hr⟩ := hvr.el i hlt
      have hi1 : i < vs.length := by rw [← HN.out]; exact hlt
      have hl := HV.out.at i hi1
      obtain ⟨X, hX⟩ : ∃ X, X = vs.getD i ([], 0) := ⟨_, rfl⟩
      have hokx : okAt vs i = decide (1 ≤ X.2 ∧ X.2 ≤ 1099511627776 ∧ ∀ j, j < i → (vs.getD j ([], 0)).1 ≠ X.1) := by rw [hX]; exact okAt_eq vs i hi1
      rw [← hX] at hr hl
      have hi39 : (Tryd.prog.info? 39).map (·.size) = some (vcells X).length := by rw [vcells_len X hl]; exact Tryd.size39
      have hi37 : (Tryd.prog.info? 37).map (·.size) = some (u8s X.1).length := by rw [u8s_len', hl]; exact Tryd.size37
      have hh : ∀ Z : Array Value, Z.size = 17 → Has (wo.alloc (.cells Z 39)) wo.heap.size 39 (vcells X).length := fun Z hZ => has_new wo _ _ _ (by rw [hZ, vcells_len X hl])
      have hno : okAt vs i = false → validB vs = false := fun h => validB_no vs i hi1 h
      have HR := Lib.hid hr
      have HL := Lib.hid hl
      have HI := Lib.hid hi39
      have HI7 := Lib.hid hi37
      have HH := Lib.hid hh
      have HNO := Lib.hid hno
      have HOX := Lib.hid hokx
      clear hr hl hi39 hi37 hh hX hb hvr hno hokx hi1
      have hil : (i : Int) < n := by omega
      have hin : ¬ (n : Nat) < i := by omega
      by_cases p1 : X.2 < 1
      · go_wp2_with (first | (refine wpList_load_g rfl 39 (.tmp 20) rfl b (off + i * 17) rfl (vcells X) _ HR.out Tryd.underlying39 rfl HI.out ?_) | (refine wpList_store_row rfl 39 (.tmp 4) (.tmp 21) rfl wo.heap.size rfl (vcells X) rfl 39 (HH.out _ rfl) HI.out (one_vcells X) ?_; intro w1 hp1; have L1 : Below wo.heap.size wo w1 := hp1.below ((Below.refl _ _).alloc (Nat.le_refl _) _) (Nat.le_refl _); have B1 := Lib.hid (hbel.out.trans (L1.mono hbel.out.size)); have hpw := vcells_pow HL.out (blk_range hp1.blk); rw [Nat.zero_add] at hpw; clear hp1 L1))
        go_ret
        refine ⟨?_, B1.out⟩
        rw [HNO.out (by rw [HOX.out]; exact decide_eq_false (fun h => by omega))]
        rfl
      by_cases p2 : 1099511627776 < X.2
      · go_wp2_with (first | (refine wpList_load_g rfl 39 (.tmp 20) rfl b (off + i * 17) rfl (vcells X) _ HR.out Tryd.underlying39 rfl HI.out ?_) | (refine wpList_store_row rfl 39 (.tmp 4) (.tmp 21) rfl wo.heap.size rfl (vcells X) rfl 39 (HH.out _ rfl) HI.out (one_vcells X) ?_; intro w1 hp1; have L1 : Below wo.heap.size wo w1 := hp1.below ((Below.refl _ _).alloc (Nat.le_refl _) _) (Nat.le_refl _); have B1 := Lib.hid (hbel.out.trans (L1.mono hbel.out.size)); have hpw := vcells_pow HL.out (blk_range hp1.blk); rw [Nat.zero_add] at hpw; clear hp1 L1))
        go_ret
        refine ⟨?_, B1.out⟩
        rw [HNO.out (by rw [HOX.out]; exact decide_eq_false (fun h => by omega))]
        rfl
      have hic : ¬ c < i := by
        obtain ⟨b', off', c', e, h1, _⟩ := HV.out.cells (by intro e; have := HN.out; rw [e] at this; simp at this; omega)
        simp only [Value.slice.injEq] at e
        have := HN.out
        omega
      go_wp2_with (first | (refine wpList_load_g rfl 39 (.tmp 20) rfl b (off + i * 17) rfl (vcells X) _ HR.out Tryd.underlying39 rfl HI.out ?_) | (refine wpList_store_row rfl 39 (.tmp 4) (.tmp 21) rfl wo.heap.size rfl (vcells X) rfl 39 (HH.out _ rfl) HI.out (one_vcells X) ?_; intro w1 hp1; have L1 : Below wo.heap.size wo w1 := hp1.below ((Below.refl _ _).alloc (Nat.le_refl _) _) (Nat.le_refl _); have B1 := Lib.hid (hbel.out.trans (L1.mono hbel.out.size)); have hpw := vcells_pow HL.out (blk_range hp1.blk); rw [Nat.zero_add] at hpw; have RK := Lib.hid (vcells_key (blk_range hp1.blk)); clear hp1 L1))
      clear hpw
      go_loopw [6, 34] (fun _ kk wr => ∃ (k : Nat), k ≤ i ∧ kk = .int .i64 k ∧ Hid (∀ j, j < k → (vs.getD j ([], 0)).1 ≠ X.1) ∧ Hid (Below w1.heap.size w1 wr))
        (fun _ kk _ => i - (intOf kk).toNat)
      case atStart => exact ⟨0, by omega, rfl, Lib.hid (fun j h => absurd h (by omega)), Lib.hid (Below.refl _ _)⟩
      case round =>
        obtain ⟨k, hk, rfl, hks, hbel2⟩ := hrel
        have bel3 : Below w.heap.size w wr := B1.out.trans (hbel2.out.mono B1.out.size)
        by_cases hlt2 : k < i
        · obtain ⟨b', off', e', _, hr2⟩ := (HV.out.below bel3).el k (by omega)
          simp only [Option.some.injEq, Addr.mk.injEq, and_true] at e'
          obtain ⟨rfl, rfl⟩ := e'
          have hk1 : k < vs.length := by have := HN.out; omega
          have hl2 := HV.out.at k hk1
          obtain ⟨Y, hY⟩ : ∃ Y, Y = vs.getD k ([], 0) := ⟨_, rfl⟩
          rw [← hY] at hr2 hl2
          have hj39 : (Tryd.prog.info? 39).map (·.size) = some (vcells Y).length := by rw [vcells_len Y hl2]; exact Tryd.size39
          have hj37 : (Tryd.prog.info? 37).map (·.size) = some (u8s Y.1).length := by rw [u8s_len', hl2]; exact Tryd.size37
          have hh2 : ∀ Z : Array Value, Z.size = 17 → Has (wr.alloc (.cells Z 39)) wr.heap.size 39 (vcells Y).length := fun Z hZ => has_new wr _ _ _ (by rw [hZ, vcells_len Y hl2])
          have hrun := run_eql37 Y.1 X.1 hl2 HL.out
          have HR2 := Lib.hid hr2
          have HJ := Lib.hid hj39
          have HJ7 := Lib.hid hj37
          have HH2 := Lib.hid hh2
          have HY := Lib.hid hY
          have RX2 := Lib.hid (range_below RK.out hbel2.out)
          have B3 := Lib.hid bel3
          clear hr2 hl2 hj39 hj37 hh2 hY bel3 hk1
          have hkl : (k : Int) < i := by omega
          cases hd : decide (Y.1 = X.1) with
          | true =>
            rw [hd] at hrun
            have heq := of_decide_eq_true hd
            have HEQ := Lib.hid heq
            clear hd heq
            go_wp2_with (first | (refine wpList_load_g rfl 39 (.tmp 36) rfl b (off + k * 17) rfl (vcells Y) _ HR2.out Tryd.underlying39 rfl HJ.out ?_) | (refine wpList_store_row rfl 39 (.tmp 6) (.tmp 37) rfl wr.heap.size rfl (vcells Y) rfl 39 (HH2.out _ rfl) HJ.out (one_vcells Y) ?_; intro w2 hp2; have L2 : Below wr.heap.size wr w2 := hp2.below ((Below.refl _ _).alloc (Nat.le_refl _) _) (Nat.le_refl _); have B4 := Lib.hid (B3.out.trans (L2.mono B3.out.size)); have RY := Lib.hid (vcells_key (blk_range hp2.blk)); have RX := Lib.hid (range_below RX2.out L2); clear hp2 L2) | (refine wpList_load_g rfl 37 (.tmp 38) rfl wr.heap.size 0 rfl (u8s Y.1) _ RY.out Tryd.underlying37 rfl HJ7.out ?_) | (refine wpList_load_g rfl 37 (.tmp 40) rfl wo.heap.size 0 rfl (u8s X.1) _ RX.out Tryd.underlying37 rfl HI7.out ?_))
            go_ret
            refine ⟨?_, B4.out⟩
            rw [HNO.out (by rw [HOX.out]; exact decide_eq_false (fun h => h.2.2 k hlt2 (by rw [← HY.out]; exact HEQ.out)))]
            rfl
          | false =>
            rw [hd] at hrun
            have heq := of_decide_eq_false hd
            have HEQ := Lib.hid heq
            clear hd heq
            go_wp2_with (first | (refine wpList_load_g rfl 39 (.tmp 36) rfl b (off + k * 17) rfl (vcells Y) _ HR2.out Tryd.underlying39 rfl HJ.out ?_) | (refine wpList_store_row rfl 39 (.tmp 6) (.tmp 37) rfl wr.heap.size rfl (vcells Y) rfl 39 (HH2.out _ rfl) HJ.out (one_vcells Y) ?_; intro w2 hp2; have L2 : Below wr.heap.size wr w2 := hp2.below ((Below.refl _ _).alloc (Nat.le_refl _) _) (Nat.le_refl _); have C4 := Lib.hid (hbel2.out.trans (L2.mono hbel2.out.size)); have RY := Lib.hid (vcells_key (blk_range hp2.blk)); have RX := Lib.hid (range_below RX2.out L2); clear hp2 L2) | (refine wpList_load_g rfl 37 (.tmp 38) rfl wr.heap.size 0 rfl (u8s Y.1) _ RY.out Tryd.underlying37 rfl HJ7.out ?_) | (refine wpList_load_g rfl 37 (.tmp 40) rfl wo.heap.size 0 rfl (u8s X.1) _ RX.out Tryd.underlying37 rfl HI7.out ?_))
            go_roundw
            case rel => exact ⟨k + 1, by omega, by go_num, Lib.hid (fun j hj => by
              by_cases hjk : j = k
              · subst hjk; rw [← HY.out]; exact HEQ.out
              · exact hks.out j (by omega)), C4⟩
            case measure => simp [intOf]; omega
        · obtain rfl : k = i := by omega
          have B3 := Lib.hid bel3
          clear bel3
          go_wp2_with fail
          go_roundw
          case rel => exact ⟨k + 1, by omega, by go_num, Lib.hid (fun j hj => by
            by_cases hjk : j = k
            · subst hjk; rw [HOX.out]; exact decide_eq_true ⟨by omega, by omega, hks.out⟩
            · exact hok.out j (by omega)), B3⟩
          case measure => simp [intOf]; omega
    · obtain rfl : i = n := by omega
      go_wp2_with fail
      go_ret
      exact ⟨by rw [validB_yes vs (by rw [← HN.out]; omega) (by rw [← HN.out]; exact hok.out)]; rfl, hbel.out⟩
end Go.Proofs.YtideopnblhbngaaDoor
