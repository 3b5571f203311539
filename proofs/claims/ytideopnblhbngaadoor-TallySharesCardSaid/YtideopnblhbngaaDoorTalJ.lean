/- What of a tally is picked: those, Who, Things, Power, Enough. -/
import Derived.Test.YtideopnblhbngaaDoorTalP
import Derived.Test.YtideopnblhbngaaDoorSeq
import Derived.Test.YtideopnblhbngaaDoorEnough
import Derived.Test.YtideopnblhbngaaDoorTake
import Derived.Maps.OwnIn
namespace Go.Proofs.YtideopnblhbngaaDoor
section
open Go.RowKit Go.Shelf
attribute [local go_sem] Oper.semAt_some

theorem Tryd.size128 : (Tryd.prog.info? 128).map (·.size) = some 3 := by kernel_rfl

/-- What a round of a loop over a tally's iterator does, as the iterator sees it. -/
abbrev Rounds2 (n : Nat) (l : Nat) (Kp : World → World → Prop) (N : Nat) (J Jx : List (Int × Int) → World → Prop) : Prop :=
  ∀ pre x W1, J pre W1 → pre.length < N → YieldAt Fence.wide (n - 1) Tryd.prog l #[.int .i64 x.1, .int .i64 x.2] W1 fun e W' =>
    (e = .returned (.bool true) ∧ J (pre ++ [x]) W' ∧ Kp W1 W') ∨ (e = .returned (.bool false) ∧ Jx (pre ++ [x]) W')

set_option maxHeartbeats 4000000 in
set_option maxRecDepth 100000 in
theorem those_in (n : Nat) (hn : 1 ≤ n) (l b1 b2 base p g : Nat) (A : Option Addr) (m c cw : Nat) (vs : List Va) (ws : List (Wd Int)) (k : Int) (w0 W : World) (J Jx : List (Int × Int) → World → Prop)
    (hW : Below w0.heap.size w0 W) (hJ : AbidesFrom W.heap.size J) (hY : Rounds2 n l (KeepL [b1, b2, p, g]) (sel (fun x => decide (x = k)) ws m).length J Jx)
    (h1 : w0.cell? ⟨b1, 0, none⟩ = some (.pointer (some ⟨p, 0, none⟩))) (h2 : w0.cell? ⟨b2, 0, none⟩ = some (.int .i64 k)) (ht : TalAt 126 128 (Value.int .i64) base p g A m c cw vs ws w0) (hz : m ≤ 1000) (h0 : J [] W) :
    CallsIn Fence.wide n Tryd.prog 94 #[.func (.yield l) #[] #[], .pointer (some ⟨b1, 0, none⟩), .pointer (some ⟨b2, 0, none⟩)] W fun e W' => (∃ v, e = .returned v) ∧
      ((∃ ys, ys = sel (fun x => decide (x = k)) ws m ∧ J ys W') ∨ (∃ pre, (∃ j, pre = (sel (fun x => decide (x = k)) ws m).take j) ∧ Jx pre W')) := by
  have hc1 : W.cell? ⟨b1, 0, none⟩ = some (.pointer (some ⟨p, 0, none⟩)) := cell_on hW h1
  have htw := ht.below hW
  have e1 := htw.cell1
  have HT := Lib.hid ht
  have HJ := Lib.hid hJ
  have HY := Lib.hid hY
  have J0 := Lib.hid h0
  have HW := Lib.hid (show KeepL [b1, b2, p, g] w0 W from fun k _ cs t fr hk => blk_below hk hW)
  have HW0 := Lib.hid hW
  have HNW := Lib.hid ht.nw
  have H2 := Lib.hid h2
  obtain ⟨q, hq⟩ : ∃ q, q = ((fun x => decide (x = k)) : Int → Bool) := ⟨_, rfl⟩
  rw [← hq] at HY ⊢
  have HQ := Lib.hid hq
  clear hW hY hJ h0 htw ht h1 hq h2 HW0
  refine callsIn_of_wp Tryd.func94 rfl trivial ?_ rfl
  simp only [Tryd.ntmps94, List.size_toArray, List.length_cons, List.length_nil, Nat.reduceAdd, Nat.reduceSub, Array.replicate_succ, Array.replicate_zero, List.push_toArray, List.append_toArray, List.nil_append, List.cons_append]
  gi_wp2
  clear e1 hc1
  gi_loopw [11] (fun i wr => ∃ j : Nat, j ≤ m ∧ i = .int .i64 j ∧ Hid (J (sel q ws j) wr) ∧ Hid (KeepL [b1, b2, p, g] w0 wr))
    (fun i _ => m - (intOf i).toNat)
  case atStart => exact ⟨0, Nat.zero_le _, rfl, J0, HW⟩
  case round =>
    clear J0 HW
    obtain ⟨j, hj, rfl, hJs, hbel⟩ := hrel
    by_cases hlt : j < m
    · have hlen : j < ws.length := by rw [← HNW.out]; exact hlt
      have hil : (j : Int) < m := by omega
      obtain ⟨⟨sd, kk, xx⟩, hX⟩ : ∃ X, ws[j]? = some X := ⟨_, List.getElem?_eq_getElem hlen⟩
      have HR := Lib.hid (HT.out.rangeK (hbel.out g (by simp)) hX)
      have HH : Hid (∀ Z : Array Value, Z.size = 3 → Has (wr.alloc (.cells Z 128)) wr.heap.size 128 3) := Lib.hid (fun Z hZ => has_new wr _ _ _ hZ)
      have HX := Lib.hid hX
      clear hX hlen
      cases sd with
      | false =>
        gi_wp2_with (first | (refine wpListIn_load_g wideF rfl 128 (.tmp 14) rfl g (j * 3) rfl [.bool false, .int .i64 kk, .int .i64 xx] _ HR.out Tryd.underlying128 rfl Tryd.size128 ?_) | (refine wpListIn_store_row wideF rfl 128 (.tmp 5) (.tmp 15) rfl wr.heap.size rfl [.bool false, .int .i64 kk, .int .i64 xx] rfl 128 (HH.out _ rfl) Tryd.size128 (by simp [Value.oneCell']) ?_; intro w1 hp1; have L1 : Below wr.heap.size wr w1 := hp1.below ((Below.refl _ _).alloc (Nat.le_refl _) _) (Nat.le_refl _); have d0 := blk_cell hp1.blk 0 _ rfl; have d1 := blk_cell hp1.blk 1 _ rfl; have d2 := blk_cell hp1.blk 2 _ rfl; have B1 := Lib.hid (keepL_t hbel.out (keepL_below L1)); have J1 := Lib.hid (abide_ext HJ.out hJs.out L1); have f2 := keepL_cell B1.out (by simp) H2.out; clear hp1 L1))
        refine ⟨(fun _ h => nomatch h), ?_⟩
        gi_wp2
        go_roundw
        case rel => exact ⟨j + 1, by omega, by go_num, Lib.hid (by rw [sel_no (selAt_unsaid HX.out)]; exact J1.out), B1⟩
        case measure => simp [intOf]; omega
      | true =>
        by_cases hkk : kk = k
        · subst hkk
          have hqk : q kk = true := by rw [HQ.out]; exact decide_eq_true rfl
          have hpl : (sel q ws j).length < (sel q ws m).length := by
            have h3 := (sel_take (q := q) (ws := ws) (show j + 1 ≤ m by omega)).2
            rw [sel_yes HX.out hqk] at h3
            simp at h3
            omega
          have HPL := Lib.hid hpl
          have HQK := Lib.hid hqk
          clear hpl hqk
          gi_wp2_with (first | (refine wpListIn_load_g wideF rfl 128 (.tmp 14) rfl g (j * 3) rfl [.bool true, .int .i64 kk, .int .i64 xx] _ HR.out Tryd.underlying128 rfl Tryd.size128 ?_) | (refine wpListIn_store_row wideF rfl 128 (.tmp 5) (.tmp 15) rfl wr.heap.size rfl [.bool true, .int .i64 kk, .int .i64 xx] rfl 128 (HH.out _ rfl) Tryd.size128 (by simp [Value.oneCell']) ?_; intro w1 hp1; have L1 : Below wr.heap.size wr w1 := hp1.below ((Below.refl _ _).alloc (Nat.le_refl _) _) (Nat.le_refl _); have d0 := blk_cell hp1.blk 0 _ rfl; have d1 := blk_cell hp1.blk 1 _ rfl; have d2 := blk_cell hp1.blk 2 _ rfl; have B1 := Lib.hid (keepL_t hbel.out (keepL_below L1)); have J1 := Lib.hid (abide_ext HJ.out hJs.out L1); have f2 := keepL_cell B1.out (by simp) H2.out; obtain ⟨fn, tmps, assign, body, hy, hR⟩ := HY.out _ ((j : Int), xx) w1 J1.out HPL.out; have HRR := Lib.hid hR; dsimp only at hy; clear hp1 L1 hR))
          refine HRR.out.mono ?_
          rintro e W3 (⟨rfl, hJ3, hk3⟩ | ⟨rfl, hJx3⟩)
          · have B3 := Lib.hid (keepL_t B1.out hk3)
            have J3 := Lib.hid hJ3
            clear hJ3 hk3 HRR hy
            gi_wp2
            go_roundw
            case rel => exact ⟨j + 1, by omega, by go_num, Lib.hid (by rw [sel_yes HX.out HQK.out]; exact J3.out), B3⟩
            case measure => simp [intOf]; omega
          · clear HRR hy
            gi_wp2
            refine bodyPost_ret (results_none rfl _ _ _) rfl ?_
            refine ⟨⟨_, rfl⟩, .inr ⟨_, ⟨(sel q ws j).length + 1, ?_⟩, hJx3⟩⟩
            have h3 := (sel_take (q := q) (ws := ws) (show j + 1 ≤ m by omega)).1
            rw [sel_yes HX.out HQK.out] at h3
            simpa using h3
        · have hqk : q kk = false := by rw [HQ.out]; exact decide_eq_false hkk
          have HQK := Lib.hid hqk
          clear hqk
          have hb1 : (kk == k) = false := by simp [hkk]
          gi_wp2_with (first | (refine wpListIn_load_g wideF rfl 128 (.tmp 14) rfl g (j * 3) rfl [.bool true, .int .i64 kk, .int .i64 xx] _ HR.out Tryd.underlying128 rfl Tryd.size128 ?_) | (refine wpListIn_store_row wideF rfl 128 (.tmp 5) (.tmp 15) rfl wr.heap.size rfl [.bool true, .int .i64 kk, .int .i64 xx] rfl 128 (HH.out _ rfl) Tryd.size128 (by simp [Value.oneCell']) ?_; intro w1 hp1; have L1 : Below wr.heap.size wr w1 := hp1.below ((Below.refl _ _).alloc (Nat.le_refl _) _) (Nat.le_refl _); have d0 := blk_cell hp1.blk 0 _ rfl; have d1 := blk_cell hp1.blk 1 _ rfl; have d2 := blk_cell hp1.blk 2 _ rfl; have B1 := Lib.hid (keepL_t hbel.out (keepL_below L1)); have J1 := Lib.hid (abide_ext HJ.out hJs.out L1); have f2 := keepL_cell B1.out (by simp) H2.out; clear hp1 L1))
          refine ⟨(fun _ h => nomatch h), ?_⟩
          gi_wp2
          go_roundw
          case rel => exact ⟨j + 1, by omega, by go_num, Lib.hid (by rw [sel_no (selAt_other HX.out HQK.out)]; exact J1.out), B1⟩
          case measure => simp [intOf]; omega
    · obtain rfl : j = m := by omega
      gi_wp2
      go_end0
      exact ⟨⟨_, rfl⟩, .inl ⟨_, rfl, hJs.out⟩⟩

theorem those_stops (n : Nat) (hn : 1 ≤ n) (b1 b2 base p g : Nat) (A : Option Addr) (m c cw : Nat) (vs : List Va) (ws : List (Wd Int)) (k : Int) (w0 : World) (h1 : w0.cell? ⟨b1, 0, none⟩ = some (.pointer (some ⟨p, 0, none⟩))) (h2 : w0.cell? ⟨b2, 0, none⟩ = some (.int .i64 k)) (ht : TalAt 126 128 (Value.int .i64) base p g A m c cw vs ws w0) (hz : m ≤ 1000) :
    SeqStopsK Fence.wide n Tryd.prog 94 #[.pointer (some ⟨b1, 0, none⟩), .pointer (some ⟨b2, 0, none⟩)] (fun x : Int × Int => #[Value.int .i64 x.1, .int .i64 x.2]) (KeepL [b1, b2, p, g]) (fun ys => ys = sel (fun x => decide (x = k)) ws m) (fun pre => ∃ j, pre = (sel (fun x => decide (x = k)) ws m).take j) (sel (fun x => decide (x = k)) ws m).length w0 :=
  fun l J Jx W hW hJ _ hY h0 => those_in n hn l b1 b2 base p g A m c cw vs ws k w0 W J Jx hW hJ hY h1 h2 ht hz h0

set_option maxHeartbeats 4000000 in
set_option maxRecDepth 100000 in
theorem allt_in (n : Nat) (hn : 1 ≤ n) (l b1 base p g : Nat) (A : Option Addr) (m c cw : Nat) (vs : List Va) (ws : List (Wd Int)) (w0 W : World) (J Jx : List (Int × Int) → World → Prop)
    (hW : Below w0.heap.size w0 W) (hJ : AbidesFrom W.heap.size J) (hY : Rounds2 n l (KeepL [b1, p, g]) (sel (fun _ => true) ws m).length J Jx)
    (h1 : w0.cell? ⟨b1, 0, none⟩ = some (.pointer (some ⟨p, 0, none⟩))) (ht : TalAt 126 128 (Value.int .i64) base p g A m c cw vs ws w0) (hz : m ≤ 1000) (h0 : J [] W) :
    CallsIn Fence.wide n Tryd.prog 83 #[.func (.yield l) #[] #[], .pointer (some ⟨b1, 0, none⟩)] W fun e W' => (∃ v, e = .returned v) ∧
      ((∃ ys, ys = sel (fun _ => true) ws m ∧ J ys W') ∨ (∃ pre, (∃ j, pre = (sel (fun _ => true) ws m).take j) ∧ Jx pre W')) := by
  have hc1 : W.cell? ⟨b1, 0, none⟩ = some (.pointer (some ⟨p, 0, none⟩)) := cell_on hW h1
  have htw := ht.below hW
  have e1 := htw.cell1
  have HT := Lib.hid ht
  have HJ := Lib.hid hJ
  have HY := Lib.hid hY
  have J0 := Lib.hid h0
  have HW := Lib.hid (show KeepL [b1, p, g] w0 W from fun k _ cs t fr hk => blk_below hk hW)
  have HW0 := Lib.hid hW
  have HNW := Lib.hid ht.nw
  obtain ⟨q, hq⟩ : ∃ q, q = ((fun _ => true) : Int → Bool) := ⟨_, rfl⟩
  rw [← hq] at HY ⊢
  have HQ := Lib.hid hq
  clear hW hY hJ h0 htw ht h1 hq HW0
  refine callsIn_of_wp Tryd.func83 rfl trivial ?_ rfl
  simp only [Tryd.ntmps83, List.size_toArray, List.length_cons, List.length_nil, Nat.reduceAdd, Nat.reduceSub, Array.replicate_succ, Array.replicate_zero, List.push_toArray, List.append_toArray, List.nil_append, List.cons_append]
  gi_wp2
  clear e1 hc1
  gi_loopw [10] (fun i wr => ∃ j : Nat, j ≤ m ∧ i = .int .i64 j ∧ Hid (J (sel q ws j) wr) ∧ Hid (KeepL [b1, p, g] w0 wr))
    (fun i _ => m - (intOf i).toNat)
  case atStart => exact ⟨0, Nat.zero_le _, rfl, J0, HW⟩
  case round =>
    clear J0 HW
    obtain ⟨j, hj, rfl, hJs, hbel⟩ := hrel
    by_cases hlt : j < m
    · have hlen : j < ws.length := by rw [← HNW.out]; exact hlt
      have hil : (j : Int) < m := by omega
      obtain ⟨⟨sd, kk, xx⟩, hX⟩ : ∃ X, ws[j]? = some X := ⟨_, List.getElem?_eq_getElem hlen⟩
      have HR := Lib.hid (HT.out.rangeK (hbel.out g (by simp)) hX)
      have HH : Hid (∀ Z : Array Value, Z.size = 3 → Has (wr.alloc (.cells Z 128)) wr.heap.size 128 3) := Lib.hid (fun Z hZ => has_new wr _ _ _ hZ)
      have HX := Lib.hid hX
      clear hX hlen
      cases sd with
      | false =>
        gi_wp2_with (first | (refine wpListIn_load_g wideF rfl 128 (.tmp 13) rfl g (j * 3) rfl [.bool false, .int .i64 kk, .int .i64 xx] _ HR.out Tryd.underlying128 rfl Tryd.size128 ?_) | (refine wpListIn_store_row wideF rfl 128 (.tmp 4) (.tmp 14) rfl wr.heap.size rfl [.bool false, .int .i64 kk, .int .i64 xx] rfl 128 (HH.out _ rfl) Tryd.size128 (by simp [Value.oneCell']) ?_; intro w1 hp1; have L1 : Below wr.heap.size wr w1 := hp1.below ((Below.refl _ _).alloc (Nat.le_refl _) _) (Nat.le_refl _); have d0 := blk_cell hp1.blk 0 _ rfl; have d1 := blk_cell hp1.blk 1 _ rfl; have d2 := blk_cell hp1.blk 2 _ rfl; have B1 := Lib.hid (keepL_t hbel.out (keepL_below L1)); have J1 := Lib.hid (abide_ext HJ.out hJs.out L1); clear hp1 L1))
        refine ⟨(fun _ h => nomatch h), ?_⟩
        gi_wp2
        go_roundw
        case rel => exact ⟨j + 1, by omega, by go_num, Lib.hid (by rw [sel_no (selAt_unsaid HX.out)]; exact J1.out), B1⟩
        case measure => simp [intOf]; omega
      | true =>
        have hqk : q kk = true := by rw [HQ.out]
        have hpl : (sel q ws j).length < (sel q ws m).length := by
          have h3 := (sel_take (q := q) (ws := ws) (show j + 1 ≤ m by omega)).2
          rw [sel_yes HX.out hqk] at h3
          simp at h3
          omega
        have HPL := Lib.hid hpl
        have HQK := Lib.hid hqk
        clear hpl hqk
        gi_wp2_with (first | (refine wpListIn_load_g wideF rfl 128 (.tmp 13) rfl g (j * 3) rfl [.bool true, .int .i64 kk, .int .i64 xx] _ HR.out Tryd.underlying128 rfl Tryd.size128 ?_) | (refine wpListIn_store_row wideF rfl 128 (.tmp 4) (.tmp 14) rfl wr.heap.size rfl [.bool true, .int .i64 kk, .int .i64 xx] rfl 128 (HH.out _ rfl) Tryd.size128 (by simp [Value.oneCell']) ?_; intro w1 hp1; have L1 : Below wr.heap.size wr w1 := hp1.below ((Below.refl _ _).alloc (Nat.le_refl _) _) (Nat.le_refl _); have d0 := blk_cell hp1.blk 0 _ rfl; have d1 := blk_cell hp1.blk 1 _ rfl; have d2 := blk_cell hp1.blk 2 _ rfl; have B1 := Lib.hid (keepL_t hbel.out (keepL_below L1)); have J1 := Lib.hid (abide_ext HJ.out hJs.out L1); obtain ⟨fn, tmps, assign, body, hy, hR⟩ := HY.out _ ((j : Int), xx) w1 J1.out HPL.out; have HRR := Lib.hid hR; dsimp only at hy; clear hp1 L1 hR))
        refine HRR.out.mono ?_
        rintro e W3 (⟨rfl, hJ3, hk3⟩ | ⟨rfl, hJx3⟩)
        · have B3 := Lib.hid (keepL_t B1.out hk3)
          have J3 := Lib.hid hJ3
          clear hJ3 hk3 HRR hy
          gi_wp2
          go_roundw
          case rel => exact ⟨j + 1, by omega, by go_num, Lib.hid (by rw [sel_yes HX.out HQK.out]; exact J3.out), B3⟩
          case measure => simp [intOf]; omega
        · clear HRR hy
          gi_wp2
          refine bodyPost_ret (results_none rfl _ _ _) rfl ?_
          refine ⟨⟨_, rfl⟩, .inr ⟨_, ⟨(sel q ws j).length + 1, ?_⟩, hJx3⟩⟩
          have h3 := (sel_take (q := q) (ws := ws) (show j + 1 ≤ m by omega)).1
          rw [sel_yes HX.out HQK.out] at h3
          simpa using h3
    · obtain rfl : j = m := by omega
      gi_wp2
      go_end0
      exact ⟨⟨_, rfl⟩, .inl ⟨_, rfl, hJs.out⟩⟩

theorem allt_stops (n : Nat) (hn : 1 ≤ n) (b1 base p g : Nat) (A : Option Addr) (m c cw : Nat) (vs : List Va) (ws : List (Wd Int)) (w0 : World) (h1 : w0.cell? ⟨b1, 0, none⟩ = some (.pointer (some ⟨p, 0, none⟩))) (ht : TalAt 126 128 (Value.int .i64) base p g A m c cw vs ws w0) (hz : m ≤ 1000) :
    SeqStopsK Fence.wide n Tryd.prog 83 #[.pointer (some ⟨b1, 0, none⟩)] (fun x : Int × Int => #[Value.int .i64 x.1, .int .i64 x.2]) (KeepL [b1, p, g]) (fun ys => ys = sel (fun _ => true) ws m) (fun pre => ∃ j, pre = (sel (fun _ => true) ws m).take j) (sel (fun _ => true) ws m).length w0 :=
  fun l J Jx W hW hJ _ hY h0 => allt_in n hn l b1 base p g A m c cw vs ws w0 W J Jx hW hJ hY h1 ht hz h0
end
section
open Go.RowKit Go.Shelf
attribute [local go_sem] Oper.semAt_some

set_option maxRecDepth 100000 in
theorem those_any (p : Nat) (k : Int) (w : World) : Calls Tryd.prog 84 #[.pointer (some ⟨p, 0, none⟩), .int .i64 k] w fun e w' => e = .returned (.func (.func 94) #[] #[.pointer (some ⟨w.heap.size, 0, none⟩), .pointer (some ⟨w.heap.size + 1, 0, none⟩)]) ∧ w' = (w.alloc (.cells #[.pointer (some ⟨p, 0, none⟩)] 80)).alloc (.cells #[.int .i64 k] 3) := by
  go_enter Tryd.func84, Tryd.ntmps84
  go_wp2_with fail
  go_ret
  exact ⟨by simp, rfl⟩

/-- What a loop that gathers places or things holds. -/
structure WhI (w : World) (B : Nat) (f : Int × Int → Int) (ys : List (Int × Int)) (W : World) : Prop where
  bx : ∃ v, Boxed W w.heap.size 28 v ∧ W.ownsRow w.heap.size 3 1 v ys.length (i64s (ys.map f)) ∧ ∀ k, v.ownBlock = some k → B ≤ k
  bel : Below w.heap.size w W
  le : B ≤ W.heap.size
theorem WhI.own {w : World} {f : Int × Int → Int} {B C : Nat} (hB : w.heap.size ≤ C) : OwnFrom C (fun pre W => WhI w B f pre W) := by
  intro s X Y row hs hg hr
  have hr' := fun k e => (hr k e).2
  obtain ⟨v, hv, ho, hk⟩ := hs.bx
  exact ⟨⟨v, boxed_kept' hv hg hr', own_kept' ho hg hr', hk⟩, hs.bel.grown hg hs.bel.size fun k e => by have := (hr k e).1; omega, Nat.le_trans hs.le hg.size⟩

set_option maxHeartbeats 4000000 in
set_option maxRecDepth 100000 in
theorem who_any (base p g : Nat) (A : Option Addr) (m c cw : Nat) (vs : List Va) (ws : List (Wd Int)) (k : Int) (w : World) (ht : TalAt 126 128 (Value.int .i64) base p g A m c cw vs ws w) (hz : m ≤ 1000) :
    Calls Tryd.prog 58 #[.pointer (some ⟨p, 0, none⟩), .int .i64 k] w fun e w' => ∃ A' n' c', e = .returned (.slice A' n' c') ∧ w'.ownsRow w.heap.size 3 1 (.slice A' n' c') n' (i64s ((sel (fun x => decide (x = k)) ws m).map ((·.1)))) ∧ Below w.heap.size w w' := by
  obtain ⟨i0, hi0, hz0, hz1, hz2⟩ := info_parts Tryd.info3
  have HT := Lib.hid ht
  clear ht
  refine (callsIn_wide (n := 5)).1 ?_
  refine callsIn_of_wp_marks Tryd.func58 rfl trivial ?_ rfl
  simp only [Tryd.ntmps58, List.size_toArray, List.length_cons, List.length_nil, Nat.reduceAdd, Nat.reduceSub, Array.replicate_succ, Array.replicate_zero, List.push_toArray, List.append_toArray, List.nil_append, List.cons_append]
  gi_wp2_with (refine ⟨trivial, ?_⟩; gi_at_call 84; refine (callsIn_wide.2 (those_any p k _)).mono ?_; rintro _ wa ⟨rfl, rfl⟩)
  obtain ⟨w1, hw1⟩ : ∃ x, x = w.alloc (.cells #[.slice none 0 0] 28) := ⟨_, rfl⟩
  obtain ⟨w2, hw2⟩ : ∃ x, x = w1.alloc (.cells #[.pointer (some ⟨p, 0, none⟩)] 80) := ⟨_, rfl⟩
  obtain ⟨w3, hw3⟩ : ∃ x, x = w2.alloc (.cells #[.int .i64 k] 3) := ⟨_, rfl⟩
  have z1 : w1.heap.size = w.heap.size + 1 := by rw [hw1]; simp
  have z2 : w2.heap.size = w.heap.size + 2 := by rw [hw2]; simp [z1]
  have z3 : w3.heap.size = w.heap.size + 3 := by rw [hw3]; simp [z2]
  have b1 : Below w.heap.size w w1 := by rw [hw1]; exact (Below.refl _ _).alloc (Nat.le_refl _) _
  have b2 : Below w1.heap.size w1 w2 := by rw [hw2]; exact (Below.refl _ _).alloc (Nat.le_refl _) _
  have b3 : Below w2.heap.size w2 w3 := by rw [hw3]; exact (Below.refl _ _).alloc (Nat.le_refl _) _
  have x1 : Boxed w1 w.heap.size 28 (.slice none 0 0) := by rw [hw1]; exact Boxed.new w 28 _
  have x2 : Boxed w2 (w.heap.size + 1) 80 (.pointer (some ⟨p, 0, none⟩)) := by have := Boxed.new w1 80 (.pointer (some ⟨p, 0, none⟩)); rwa [z1, ← hw2] at this
  have x3 : Boxed w3 (w.heap.size + 1 + 1) 3 (.int .i64 k) := by have := Boxed.new w2 3 (.int .i64 k); rwa [z2, ← hw3] at this
  have hB : Below w.heap.size w w3 := b1.trans ((b2.mono (by omega)).trans (b3.mono (by omega)))
  have hI0 : WhI w w3.heap.size ((·.1)) [] w3 := ⟨⟨_, blk_below (blk_below x1 b2) b3, World.ownsRow_nil _ _ _ _, fun k hk => by simp [Value.ownBlock] at hk⟩, hB, Nat.le_refl _⟩
  have y2 : Boxed w3 _ _ _ := blk_below x2 b3
  have c2 := y2.cell
  have c3 := x3.cell
  have H2 := Lib.hid c2
  have H3 := Lib.hid c3
  have HI := Lib.hid hI0
  have HTD := Lib.hid (HT.out.below hB)
  rw [← hw1, ← hw2, ← hw3]
  have hpw : p < w.heap.size := blk_lt HT.out.blk
  have hgw : g < w.heap.size := by obtain ⟨cur, h1, _⟩ := HT.out.wds; exact blk_lt h1
  clear hw1 hw2 hw3 b1 b2 b3 x1 x2 x3 y2 hB hI0 c2 c3 z1 z2
  refine wpIn_rangeFunc_ownG rfl (by omega) (gf := 94) (lb := #[.pointer (some ⟨w.heap.size + 1, 0, none⟩), .pointer (some ⟨w.heap.size + 1 + 1, 0, none⟩)]) rfl trivial (enters_of Tryd.func94 (by kernel_rfl) rfl)
    (those_stops 4 (by omega) (w.heap.size + 1) (w.heap.size + 1 + 1) base p g A m c cw vs ws k w3 H2.out H3.out HTD.out hz) keepL_t (fun W l o o' _ hl ho _ => keepL_b W l o o' hl ho) (Below.refl _ _) (fun _ => rfl)
    (fun pre W => WhI w w3.heap.size ((·.1)) pre W)
    (fun _ _ _ => False)
    (WhI.own (by omega))
    (fun _ _ _ _ _ h _ _ => h)
    HI.out
    (fun x => { tmps := #[.pointer (some ⟨p, 0, none⟩), .int .i64 k, undef, undef, .slice none 0 0, .pointer (some ⟨w.heap.size, 0, none⟩), .int .i64 x.1, .pointer (some ⟨p, 0, none⟩), .int .i64 k, .func (.func 94) #[] #[.pointer (some ⟨w.heap.size + 1, 0, none⟩), .pointer (some ⟨w.heap.size + 1 + 1, 0, none⟩)], .int .i64 x.1, .int .i64 x.2, undef, undef, undef, undef, undef], defers := [] }) ?assign ?body ?done ?stop
  case stop =>
    rintro D c pre W _ _ h _
    exact h.elim
  case assign =>
    intro l x W K hK
    gi_wp2
    exact hK
  case body =>
    rintro l pre x W hI hlt
    obtain ⟨⟨vo, hvo, hrow, hown⟩, hbel, hle3⟩ := hI
    obtain ⟨Ao, co, rfl⟩ := own_form hrow
    have hl1 := sel_len (fun x => decide (x = k)) ws m
    obtain ⟨ln, hln⟩ : ∃ x, x = pre.length := ⟨_, rfl⟩
    rw [← hln] at hrow hvo hown hlt
    have hle : ln ≤ 1000 := by omega
    have cn := hvo.cell
    have fo := hvo.frozen
    have HV := Lib.hid hvo
    have HR := Lib.hid hrow
    have HB := Lib.hid hbel
    have HO := Lib.hid hown
    have HLN := Lib.hid hln
    have hsz1 : w.heap.size ≤ W.heap.size := hbel.size
    clear hvo hrow hbel hown hlt hln hl1
    gi_wp2_with (gi_at_builtin; refine wpListIn_append_own_at _ rfl _ _ 28 rfl w.heap.size 3 i0 (.int .i64 0) 1 8 Tryd.underlying28 hi0 hz0 hz1 hz2 rfl (by decide) _ _ _ rfl (HR.out.alloc _) ⟨W.heap.size, 0, none⟩ 1 1 [.int .i64 x.1] rfl rfl (cell_one_new _ _ _) (by simp [Value.oneCell']) (by simp only [maxLen]; omega) (by omega) (by simp; omega) ?_; intro v9 w9 hown9 hgrow9 _ hat9; obtain ⟨g9, cap9, rfl⟩ := ownsRow_succ hown9; obtain ⟨hv1, hv2, hr2, hk2, hb2⟩ := HV.out.appended (by decide) HR.out hsz1 (Nat.le_refl _) hown9 hgrow9; have hc1 := hv1.cell; have hf1 := hv1.frozen; have HGR := Lib.hid hgrow9; have HAT := Lib.hid hat9; clear hown9 hgrow9 hat9)
    have hbut : But (fun k => k = w.heap.size ∨ (Value.slice Ao ln co).ownBlock = some k) W (w9.setCell ⟨w.heap.size, 0, none⟩ (.slice (some ⟨g9, 0, none⟩) (ln + 1) cap9)) := app_but HGR.out
    refine ⟨hk2.from _, fun j hj cs t fr hk => hbut.blk hk fun h => ?_, ⟨⟨.slice (some ⟨g9, 0, none⟩) (ln + 1) cap9, ?_, ?_, fun j hj => ?_⟩, HB.out.trans hb2, Nat.le_trans hle3 hbut.size⟩⟩
    · have hj3 : j ≠ w.heap.size ∧ j < w3.heap.size := by
        simp only [List.mem_cons, List.not_mem_nil, or_false] at hj
        omega
      rcases h with h | h
      · exact hj3.1 h
      · have := HO.out j h
        omega
    · exact hv2
    · rw [List.length_append, ← HLN.out, List.map_append]
      simpa [i64s] using hr2
    · have hj' : g9 = j := by simpa [Value.ownBlock] using hj
      subst hj'
      rcases HAT.out with h | h
      · exact HO.out g9 h.symm
      · have h' : g9 = W.heap.size + 1 := by simpa [Value.ownBlock] using h
        omega
  case done =>
    rintro D ys W hD rfl ⟨⟨vo, hvo, hrow, _⟩, hbel, _⟩ hK
    obtain ⟨Ao, co, rfl⟩ := own_form hrow
    have hc := hvo.cell
    have HR := Lib.hid hrow
    have HB := Lib.hid hbel
    clear hvo hrow hbel
    gi_wp2
    refine ⟨by simp, .inl ⟨_, _, rfl, run_takeDeferred hK, ?_⟩⟩
    exact ⟨_, results_tmp rfl _ _ _, _, _, _, rfl, ownsRow_putObj HR.out _ hK rfl, HB.out.trans (belowK_b (w := w) (Nat.le_refl _) W D _ _ (by omega) hK rfl rfl)⟩

set_option maxHeartbeats 4000000 in
set_option maxRecDepth 100000 in
theorem things_any (base p g : Nat) (A : Option Addr) (m c cw : Nat) (vs : List Va) (ws : List (Wd Int)) (k : Int) (w : World) (ht : TalAt 126 128 (Value.int .i64) base p g A m c cw vs ws w) (hz : m ≤ 1000) :
    Calls Tryd.prog 59 #[.pointer (some ⟨p, 0, none⟩), .int .i64 k] w fun e w' => ∃ A' n' c', e = .returned (.slice A' n' c') ∧ w'.ownsRow w.heap.size 3 1 (.slice A' n' c') n' (i64s ((sel (fun x => decide (x = k)) ws m).map ((·.2)))) ∧ Below w.heap.size w w' := by
  obtain ⟨i0, hi0, hz0, hz1, hz2⟩ := info_parts Tryd.info3
  have HT := Lib.hid ht
  clear ht
  refine (callsIn_wide (n := 5)).1 ?_
  refine callsIn_of_wp_marks Tryd.func59 rfl trivial ?_ rfl
  simp only [Tryd.ntmps59, List.size_toArray, List.length_cons, List.length_nil, Nat.reduceAdd, Nat.reduceSub, Array.replicate_succ, Array.replicate_zero, List.push_toArray, List.append_toArray, List.nil_append, List.cons_append]
  gi_wp2_with (refine ⟨trivial, ?_⟩; gi_at_call 84; refine (callsIn_wide.2 (those_any p k _)).mono ?_; rintro _ wa ⟨rfl, rfl⟩)
  obtain ⟨w1, hw1⟩ : ∃ x, x = w.alloc (.cells #[.slice none 0 0] 28) := ⟨_, rfl⟩
  obtain ⟨w2, hw2⟩ : ∃ x, x = w1.alloc (.cells #[.pointer (some ⟨p, 0, none⟩)] 80) := ⟨_, rfl⟩
  obtain ⟨w3, hw3⟩ : ∃ x, x = w2.alloc (.cells #[.int .i64 k] 3) := ⟨_, rfl⟩
  have z1 : w1.heap.size = w.heap.size + 1 := by rw [hw1]; simp
  have z2 : w2.heap.size = w.heap.size + 2 := by rw [hw2]; simp [z1]
  have z3 : w3.heap.size = w.heap.size + 3 := by rw [hw3]; simp [z2]
  have b1 : Below w.heap.size w w1 := by rw [hw1]; exact (Below.refl _ _).alloc (Nat.le_refl _) _
  have b2 : Below w1.heap.size w1 w2 := by rw [hw2]; exact (Below.refl _ _).alloc (Nat.le_refl _) _
  have b3 : Below w2.heap.size w2 w3 := by rw [hw3]; exact (Below.refl _ _).alloc (Nat.le_refl _) _
  have x1 : Boxed w1 w.heap.size 28 (.slice none 0 0) := by rw [hw1]; exact Boxed.new w 28 _
  have x2 : Boxed w2 (w.heap.size + 1) 80 (.pointer (some ⟨p, 0, none⟩)) := by have := Boxed.new w1 80 (.pointer (some ⟨p, 0, none⟩)); rwa [z1, ← hw2] at this
  have x3 : Boxed w3 (w.heap.size + 1 + 1) 3 (.int .i64 k) := by have := Boxed.new w2 3 (.int .i64 k); rwa [z2, ← hw3] at this
  have hB : Below w.heap.size w w3 := b1.trans ((b2.mono (by omega)).trans (b3.mono (by omega)))
  have hI0 : WhI w w3.heap.size ((·.2)) [] w3 := ⟨⟨_, blk_below (blk_below x1 b2) b3, World.ownsRow_nil _ _ _ _, fun k hk => by simp [Value.ownBlock] at hk⟩, hB, Nat.le_refl _⟩
  have y2 : Boxed w3 _ _ _ := blk_below x2 b3
  have c2 := y2.cell
  have c3 := x3.cell
  have H2 := Lib.hid c2
  have H3 := Lib.hid c3
  have HI := Lib.hid hI0
  have HTD := Lib.hid (HT.out.below hB)
  rw [← hw1, ← hw2, ← hw3]
  have hpw : p < w.heap.size := blk_lt HT.out.blk
  have hgw : g < w.heap.size := by obtain ⟨cur, h1, _⟩ := HT.out.wds; exact blk_lt h1
  clear hw1 hw2 hw3 b1 b2 b3 x1 x2 x3 y2 hB hI0 c2 c3 z1 z2
  refine wpIn_rangeFunc_ownG rfl (by omega) (gf := 94) (lb := #[.pointer (some ⟨w.heap.size + 1, 0, none⟩), .pointer (some ⟨w.heap.size + 1 + 1, 0, none⟩)]) rfl trivial (enters_of Tryd.func94 (by kernel_rfl) rfl)
    (those_stops 4 (by omega) (w.heap.size + 1) (w.heap.size + 1 + 1) base p g A m c cw vs ws k w3 H2.out H3.out HTD.out hz) keepL_t (fun W l o o' _ hl ho _ => keepL_b W l o o' hl ho) (Below.refl _ _) (fun _ => rfl)
    (fun pre W => WhI w w3.heap.size ((·.2)) pre W)
    (fun _ _ _ => False)
    (WhI.own (by omega))
    (fun _ _ _ _ _ h _ _ => h)
    HI.out
    (fun x => { tmps := #[.pointer (some ⟨p, 0, none⟩), .int .i64 k, undef, undef, .slice none 0 0, .pointer (some ⟨w.heap.size, 0, none⟩), undef, .int .i64 x.2, .pointer (some ⟨p, 0, none⟩), .int .i64 k, .func (.func 94) #[] #[.pointer (some ⟨w.heap.size + 1, 0, none⟩), .pointer (some ⟨w.heap.size + 1 + 1, 0, none⟩)], .int .i64 x.1, .int .i64 x.2, undef, undef, undef, undef, undef], defers := [] }) ?assign ?body ?done ?stop
  case stop =>
    rintro D c pre W _ _ h _
    exact h.elim
  case assign =>
    intro l x W K hK
    gi_wp2
    exact hK
  case body =>
    rintro l pre x W hI hlt
    obtain ⟨⟨vo, hvo, hrow, hown⟩, hbel, hle3⟩ := hI
    obtain ⟨Ao, co, rfl⟩ := own_form hrow
    have hl1 := sel_len (fun x => decide (x = k)) ws m
    obtain ⟨ln, hln⟩ : ∃ x, x = pre.length := ⟨_, rfl⟩
    rw [← hln] at hrow hvo hown hlt
    have hle : ln ≤ 1000 := by omega
    have cn := hvo.cell
    have fo := hvo.frozen
    have HV := Lib.hid hvo
    have HR := Lib.hid hrow
    have HB := Lib.hid hbel
    have HO := Lib.hid hown
    have HLN := Lib.hid hln
    have hsz1 : w.heap.size ≤ W.heap.size := hbel.size
    clear hvo hrow hbel hown hlt hln hl1
    gi_wp2_with (gi_at_builtin; refine wpListIn_append_own_at _ rfl _ _ 28 rfl w.heap.size 3 i0 (.int .i64 0) 1 8 Tryd.underlying28 hi0 hz0 hz1 hz2 rfl (by decide) _ _ _ rfl (HR.out.alloc _) ⟨W.heap.size, 0, none⟩ 1 1 [.int .i64 x.2] rfl rfl (cell_one_new _ _ _) (by simp [Value.oneCell']) (by simp only [maxLen]; omega) (by omega) (by simp; omega) ?_; intro v9 w9 hown9 hgrow9 _ hat9; obtain ⟨g9, cap9, rfl⟩ := ownsRow_succ hown9; obtain ⟨hv1, hv2, hr2, hk2, hb2⟩ := HV.out.appended (by decide) HR.out hsz1 (Nat.le_refl _) hown9 hgrow9; have hc1 := hv1.cell; have hf1 := hv1.frozen; have HGR := Lib.hid hgrow9; have HAT := Lib.hid hat9; clear hown9 hgrow9 hat9)
    have hbut : But (fun k => k = w.heap.size ∨ (Value.slice Ao ln co).ownBlock = some k) W (w9.setCell ⟨w.heap.size, 0, none⟩ (.slice (some ⟨g9, 0, none⟩) (ln + 1) cap9)) := app_but HGR.out
    refine ⟨hk2.from _, fun j hj cs t fr hk => hbut.blk hk fun h => ?_, ⟨⟨.slice (some ⟨g9, 0, none⟩) (ln + 1) cap9, ?_, ?_, fun j hj => ?_⟩, HB.out.trans hb2, Nat.le_trans hle3 hbut.size⟩⟩
    · have hj3 : j ≠ w.heap.size ∧ j < w3.heap.size := by
        simp only [List.mem_cons, List.not_mem_nil, or_false] at hj
        omega
      rcases h with h | h
      · exact hj3.1 h
      · have := HO.out j h
        omega
    · exact hv2
    · rw [List.length_append, ← HLN.out, List.map_append]
      simpa [i64s] using hr2
    · have hj' : g9 = j := by simpa [Value.ownBlock] using hj
      subst hj'
      rcases HAT.out with h | h
      · exact HO.out g9 h.symm
      · have h' : g9 = W.heap.size + 1 := by simpa [Value.ownBlock] using h
        omega
  case done =>
    rintro D ys W hD rfl ⟨⟨vo, hvo, hrow, _⟩, hbel, _⟩ hK
    obtain ⟨Ao, co, rfl⟩ := own_form hrow
    have hc := hvo.cell
    have HR := Lib.hid hrow
    have HB := Lib.hid hbel
    clear hvo hrow hbel
    gi_wp2
    refine ⟨by simp, .inl ⟨_, _, rfl, run_takeDeferred hK, ?_⟩⟩
    exact ⟨_, results_tmp rfl _ _ _, _, _, _, rfl, ownsRow_putObj HR.out _ hK rfl, HB.out.trans (belowK_b (w := w) (Nat.le_refl _) W D _ _ (by omega) hK rfl rfl)⟩
end
end Go.Proofs.YtideopnblhbngaaDoor
