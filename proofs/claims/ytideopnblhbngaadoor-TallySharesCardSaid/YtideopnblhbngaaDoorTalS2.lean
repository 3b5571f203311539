/- A tally of texts: those, Who, Power, Enough, Put. -/
import Derived.Test.YtideopnblhbngaaDoorTalP
import Derived.Test.YtideopnblhbngaaDoorSeq
import Derived.Test.YtideopnblhbngaaDoorAmong
import Derived.Test.YtideopnblhbngaaDoorTalJ
import Derived.Test.YtideopnblhbngaaDoorTalK
namespace Go.Proofs.YtideopnblhbngaaDoor
section
open Go.RowKit Go.Shelf
attribute [local go_sem] Oper.semAt_some

theorem Tryd.size143 : (Tryd.prog.info? 143).map (·.size) = some 3 := by kernel_rfl

set_option maxHeartbeats 4000000 in
set_option maxRecDepth 100000 in
theorem thoseS_in (n : Nat) (hn : 1 ≤ n) (l b1 b2 base p g : Nat) (A : Option Addr) (m c cw : Nat) (vs : List Va) (ws : List (Wd ByteArray)) (k : ByteArray) (w0 W : World) (J Jx : List (Int × Int) → World → Prop)
    (hW : Below w0.heap.size w0 W) (hJ : AbidesFrom W.heap.size J) (hY : Rounds2 n l (KeepL [b1, b2, p, g]) (sel (fun x => decide (x = k)) ws m).length J Jx)
    (h1 : w0.cell? ⟨b1, 0, none⟩ = some (.pointer (some ⟨p, 0, none⟩))) (h2 : w0.cell? ⟨b2, 0, none⟩ = some (.string k)) (ht : TalAt 141 143 Value.string base p g A m c cw vs ws w0) (hz : m ≤ 1000) (h0 : J [] W) :
    CallsIn Fence.wide n Tryd.prog 97 #[.func (.yield l) #[] #[], .pointer (some ⟨b1, 0, none⟩), .pointer (some ⟨b2, 0, none⟩)] W fun e W' => (∃ v, e = .returned v) ∧
      ((∃ ys, ys = sel (fun x => decide (x = k)) ws m ∧ J ys W') ∨ (∃ pre, (∃ j, pre = (sel (fun x => decide (x = k)) ws m).take j) ∧ Jx pre W')) := by
  have hc1 : W.cell? ⟨b1, 0, none⟩ = some (.pointer (some ⟨p, 0, none⟩)) := cell_on hW h1
  have htw := ht.below hW
  have e1 := htw.cell1
  have HT := Lib.hid ht
  have HJ := Lib.hid hJ
  have HY := Lib.hid hY
  have J0 := Lib.hid h0
  have HW := Lib.hid (show KeepL [b1, b2, p, g] w0 W from fun k _ cs t fr hk => blk_below hk hW)
  have HW0 := Lib.hid hW
  have HNW := Lib.hid ht.nw
  have H2 := Lib.hid h2
  obtain ⟨q, hq⟩ : ∃ q, q = ((fun x => decide (x = k)) : ByteArray → Bool) := ⟨_, rfl⟩
  rw [← hq] at HY ⊢
  have HQ := Lib.hid hq
  clear hW hY hJ h0 htw ht h1 hq h2 HW0
  refine callsIn_of_wp Tryd.func97 rfl trivial ?_ rfl
  simp only [Tryd.ntmps97, List.size_toArray, List.length_cons, List.length_nil, Nat.reduceAdd, Nat.reduceSub, Array.replicate_succ, Array.replicate_zero, List.push_toArray, List.append_toArray, List.nil_append, List.cons_append]
  gi_wp2
  clear e1 hc1
  gi_loopw [11] (fun i wr => ∃ j : Nat, j ≤ m ∧ i = .int .i64 j ∧ Hid (J (sel q ws j) wr) ∧ Hid (KeepL [b1, b2, p, g] w0 wr))
    (fun i _ => m - (intOf i).toNat)
  case atStart => exact ⟨0, Nat.zero_le _, rfl, J0, HW⟩
  case round =>
    clear J0 HW
    obtain ⟨j, hj, rfl, hJs, hbel⟩ := hrel
    by_cases hlt : j < m
    · have hlen : j < ws.length := by rw [← HNW.out]; exact hlt
      have hil : (j : Int) < m := by omega
      obtain ⟨⟨sd, kk, xx⟩, hX⟩ : ∃ X, ws[j]? = some X := ⟨_, List.getElem?_eq_getElem hlen⟩
      have HR := Lib.hid (HT.out.rangeK (hbel.out g (by simp)) hX)
      have HH : Hid (∀ Z : Array Value, Z.size = 3 → Has (wr.alloc (.cells Z 143)) wr.heap.size 143 3) := Lib.hid (fun Z hZ => has_new wr _ _ _ hZ)
      have HX := Lib.hid hX
      clear hX hlen
      cases sd with
      | false =>
        gi_wp2_with (first | (refine wpListIn_load_g wideF rfl 143 (.tmp 14) rfl g (j * 3) rfl [.bool false, .string kk, .int .i64 xx] _ HR.out Tryd.underlying143 rfl Tryd.size143 ?_) | (refine wpListIn_store_row wideF rfl 143 (.tmp 5) (.tmp 15) rfl wr.heap.size rfl [.bool false, .string kk, .int .i64 xx] rfl 143 (HH.out _ rfl) Tryd.size143 (by simp [Value.oneCell']) ?_; intro w1 hp1; have L1 : Below wr.heap.size wr w1 := hp1.below ((Below.refl _ _).alloc (Nat.le_refl _) _) (Nat.le_refl _); have d0 := blk_cell hp1.blk 0 _ rfl; have d1 := blk_cell hp1.blk 1 _ rfl; have d2 := blk_cell hp1.blk 2 _ rfl; have B1 := Lib.hid (keepL_t hbel.out (keepL_below L1)); have J1 := Lib.hid (abide_ext HJ.out hJs.out L1); have f2 := keepL_cell B1.out (by simp) H2.out; clear hp1 L1))
        refine ⟨(fun _ h => nomatch h), ?_⟩
        gi_wp2
        go_roundw
        case rel => exact ⟨j + 1, by omega, by go_num, Lib.hid (by rw [sel_no (selAt_unsaid HX.out)]; exact J1.out), B1⟩
        case measure => simp [intOf]; omega
      | true =>
        by_cases hkk : kk = k
        · subst hkk
          have hqk : q kk = true := by rw [HQ.out]; exact decide_eq_true rfl
          have hpl : (sel q ws j).length < (sel q ws m).length := by
            have h3 := (sel_take (q := q) (ws := ws) (show j + 1 ≤ m by omega)).2
            rw [sel_yes HX.out hqk] at h3
            simp at h3
            omega
          have HPL := Lib.hid hpl
          have HQK := Lib.hid hqk
          clear hpl hqk
          have hsb := str_beq kk kk
          rw [decide_eq_true (rfl : kk = kk)] at hsb
          have hb1 : (kk == kk) = true := by rw [ba_beq]; simp
          gi_wp2_with (first | (refine wpListIn_load_g wideF rfl 143 (.tmp 14) rfl g (j * 3) rfl [.bool true, .string kk, .int .i64 xx] _ HR.out Tryd.underlying143 rfl Tryd.size143 ?_) | (refine wpListIn_store_row wideF rfl 143 (.tmp 5) (.tmp 15) rfl wr.heap.size rfl [.bool true, .string kk, .int .i64 xx] rfl 143 (HH.out _ rfl) Tryd.size143 (by simp [Value.oneCell']) ?_; intro w1 hp1; have L1 : Below wr.heap.size wr w1 := hp1.below ((Below.refl _ _).alloc (Nat.le_refl _) _) (Nat.le_refl _); have d0 := blk_cell hp1.blk 0 _ rfl; have d1 := blk_cell hp1.blk 1 _ rfl; have d2 := blk_cell hp1.blk 2 _ rfl; have B1 := Lib.hid (keepL_t hbel.out (keepL_below L1)); have J1 := Lib.hid (abide_ext HJ.out hJs.out L1); have f2 := keepL_cell B1.out (by simp) H2.out; obtain ⟨fn, tmps, assign, body, hy, hR⟩ := HY.out _ ((j : Int), xx) w1 J1.out HPL.out; have HRR := Lib.hid hR; dsimp only at hy; clear hp1 L1 hR))
          refine HRR.out.mono ?_
          rintro e W3 (⟨rfl, hJ3, hk3⟩ | ⟨rfl, hJx3⟩)
          · have B3 := Lib.hid (keepL_t B1.out hk3)
            have J3 := Lib.hid hJ3
            clear hJ3 hk3 HRR hy
            gi_wp2
            go_roundw
            case rel => exact ⟨j + 1, by omega, by go_num, Lib.hid (by rw [sel_yes HX.out HQK.out]; exact J3.out), B3⟩
            case measure => simp [intOf]; omega
          · clear HRR hy
            gi_wp2
            refine bodyPost_ret (results_none rfl _ _ _) rfl ?_
            refine ⟨⟨_, rfl⟩, .inr ⟨_, ⟨(sel q ws j).length + 1, ?_⟩, hJx3⟩⟩
            have h3 := (sel_take (q := q) (ws := ws) (show j + 1 ≤ m by omega)).1
            rw [sel_yes HX.out HQK.out] at h3
            simpa using h3
        · have hqk : q kk = false := by rw [HQ.out]; exact decide_eq_false hkk
          have HQK := Lib.hid hqk
          clear hqk
          have hsb := str_beq kk k
          rw [decide_eq_false hkk] at hsb
          have hb1 : (kk == k) = false := by rw [ba_beq]; simp [hkk]
          gi_wp2_with (first | (refine wpListIn_load_g wideF rfl 143 (.tmp 14) rfl g (j * 3) rfl [.bool true, .string kk, .int .i64 xx] _ HR.out Tryd.underlying143 rfl Tryd.size143 ?_) | (refine wpListIn_store_row wideF rfl 143 (.tmp 5) (.tmp 15) rfl wr.heap.size rfl [.bool true, .string kk, .int .i64 xx] rfl 143 (HH.out _ rfl) Tryd.size143 (by simp [Value.oneCell']) ?_; intro w1 hp1; have L1 : Below wr.heap.size wr w1 := hp1.below ((Below.refl _ _).alloc (Nat.le_refl _) _) (Nat.le_refl _); have d0 := blk_cell hp1.blk 0 _ rfl; have d1 := blk_cell hp1.blk 1 _ rfl; have d2 := blk_cell hp1.blk 2 _ rfl; have B1 := Lib.hid (keepL_t hbel.out (keepL_below L1)); have J1 := Lib.hid (abide_ext HJ.out hJs.out L1); have f2 := keepL_cell B1.out (by simp) H2.out; clear hp1 L1))
          refine ⟨(fun _ h => nomatch h), ?_⟩
          gi_wp2
          go_roundw
          case rel => exact ⟨j + 1, by omega, by go_num, Lib.hid (by rw [sel_no (selAt_other HX.out HQK.out)]; exact J1.out), B1⟩
          case measure => simp [intOf]; omega
    · obtain rfl : j = m := by omega
      gi_wp2
      go_end0
      exact ⟨⟨_, rfl⟩, .inl ⟨_, rfl, hJs.out⟩⟩

theorem thoseS_stops (n : Nat) (hn : 1 ≤ n) (b1 b2 base p g : Nat) (A : Option Addr) (m c cw : Nat) (vs : List Va) (ws : List (Wd ByteArray)) (k : ByteArray) (w0 : World) (h1 : w0.cell? ⟨b1, 0, none⟩ = some (.pointer (some ⟨p, 0, none⟩))) (h2 : w0.cell? ⟨b2, 0, none⟩ = some (.string k)) (ht : TalAt 141 143 Value.string base p g A m c cw vs ws w0) (hz : m ≤ 1000) :
    SeqStopsK Fence.wide n Tryd.prog 97 #[.pointer (some ⟨b1, 0, none⟩), .pointer (some ⟨b2, 0, none⟩)] (fun x : Int × Int => #[Value.int .i64 x.1, .int .i64 x.2]) (KeepL [b1, b2, p, g]) (fun ys => ys = sel (fun x => decide (x = k)) ws m) (fun pre => ∃ j, pre = (sel (fun x => decide (x = k)) ws m).take j) (sel (fun x => decide (x = k)) ws m).length w0 :=
  fun l J Jx W hW hJ _ hY h0 => thoseS_in n hn l b1 b2 base p g A m c cw vs ws k w0 W J Jx hW hJ hY h1 h2 ht hz h0
end
section
open Go.RowKit Go.Shelf
attribute [local go_sem] Oper.semAt_some

set_option maxRecDepth 100000 in
theorem sthose_any (p : Nat) (k : ByteArray) (w : World) : Calls Tryd.prog 96 #[.pointer (some ⟨p, 0, none⟩), .string k] w fun e w' => e = .returned (.func (.func 97) #[] #[.pointer (some ⟨w.heap.size, 0, none⟩), .pointer (some ⟨w.heap.size + 1, 0, none⟩)]) ∧ w' = (w.alloc (.cells #[.pointer (some ⟨p, 0, none⟩)] 118)).alloc (.cells #[.string k] 9) := by
  go_enter Tryd.func96, Tryd.ntmps96
  go_wp2_with fail
  go_ret
  exact ⟨by simp, rfl⟩

set_option maxHeartbeats 4000000 in
set_option maxRecDepth 100000 in
theorem swho_any (base p g : Nat) (A : Option Addr) (m c cw : Nat) (vs : List Va) (ws : List (Wd ByteArray)) (k : ByteArray) (w : World) (ht : TalAt 141 143 Value.string base p g A m c cw vs ws w) (hz : m ≤ 1000) :
    Calls Tryd.prog 93 #[.pointer (some ⟨p, 0, none⟩), .string k] w fun e w' => ∃ A' n' c', e = .returned (.slice A' n' c') ∧ w'.ownsRow w.heap.size 3 1 (.slice A' n' c') n' (i64s ((sel (fun x => decide (x = k)) ws m).map ((·.1)))) ∧ Below w.heap.size w w' := by
  obtain ⟨i0, hi0, hz0, hz1, hz2⟩ := info_parts Tryd.info3
  have HT := Lib.hid ht
  clear ht
  refine (callsIn_wide (n := 5)).1 ?_
  refine callsIn_of_wp_marks Tryd.func93 rfl trivial ?_ rfl
  simp only [Tryd.ntmps93, List.size_toArray, List.length_cons, List.length_nil, Nat.reduceAdd, Nat.reduceSub, Array.replicate_succ, Array.replicate_zero, List.push_toArray, List.append_toArray, List.nil_append, List.cons_append]
  gi_wp2_with (refine ⟨trivial, ?_⟩; gi_at_call 96; refine (callsIn_wide.2 (sthose_any p k _)).mono ?_; rintro _ wa ⟨rfl, rfl⟩)
  obtain ⟨w1, hw1⟩ : ∃ x, x = w.alloc (.cells #[.slice none 0 0] 28) := ⟨_, rfl⟩
  obtain ⟨w2, hw2⟩ : ∃ x, x = w1.alloc (.cells #[.pointer (some ⟨p, 0, none⟩)] 118) := ⟨_, rfl⟩
  obtain ⟨w3, hw3⟩ : ∃ x, x = w2.alloc (.cells #[.string k] 9) := ⟨_, rfl⟩
  have z1 : w1.heap.size = w.heap.size + 1 := by rw [hw1]; simp
  have z2 : w2.heap.size = w.heap.size + 2 := by rw [hw2]; simp [z1]
  have z3 : w3.heap.size = w.heap.size + 3 := by rw [hw3]; simp [z2]
  have b1 : Below w.heap.size w w1 := by rw [hw1]; exact (Below.refl _ _).alloc (Nat.le_refl _) _
  have b2 : Below w1.heap.size w1 w2 := by rw [hw2]; exact (Below.refl _ _).alloc (Nat.le_refl _) _
  have b3 : Below w2.heap.size w2 w3 := by rw [hw3]; exact (Below.refl _ _).alloc (Nat.le_refl _) _
  have x1 : Boxed w1 w.heap.size 28 (.slice none 0 0) := by rw [hw1]; exact Boxed.new w 28 _
  have x2 : Boxed w2 (w.heap.size + 1) 118 (.pointer (some ⟨p, 0, none⟩)) := by have := Boxed.new w1 118 (.pointer (some ⟨p, 0, none⟩)); rwa [z1, ← hw2] at this
  have x3 : Boxed w3 (w.heap.size + 1 + 1) 9 (.string k) := by have := Boxed.new w2 9 (.string k); rwa [z2, ← hw3] at this
  have hB : Below w.heap.size w w3 := b1.trans ((b2.mono (by omega)).trans (b3.mono (by omega)))
  have hI0 : WhI w w3.heap.size ((·.1)) [] w3 := ⟨⟨_, blk_below (blk_below x1 b2) b3, World.ownsRow_nil _ _ _ _, fun k hk => by simp [Value.ownBlock] at hk⟩, hB, Nat.le_refl _⟩
  have y2 : Boxed w3 _ _ _ := blk_below x2 b3
  have c2 := y2.cell
  have c3 := x3.cell
  have H2 := Lib.hid c2
  have H3 := Lib.hid c3
  have HI := Lib.hid hI0
  have HTD := Lib.hid (HT.out.below hB)
  rw [← hw1, ← hw2, ← hw3]
  have hpw : p < w.heap.size := blk_lt HT.out.blk
  have hgw : g < w.heap.size := by obtain ⟨cur, h1, _⟩ := HT.out.wds; exact blk_lt h1
  clear hw1 hw2 hw3 b1 b2 b3 x1 x2 x3 y2 hB hI0 c2 c3 z1 z2
  refine wpIn_rangeFunc_ownG rfl (by omega) (gf := 97) (lb := #[.pointer (some ⟨w.heap.size + 1, 0, none⟩), .pointer (some ⟨w.heap.size + 1 + 1, 0, none⟩)]) rfl trivial (enters_of Tryd.func97 (by kernel_rfl) rfl)
    (thoseS_stops 4 (by omega) (w.heap.size + 1) (w.heap.size + 1 + 1) base p g A m c cw vs ws k w3 H2.out H3.out HTD.out hz) keepL_t (fun W l o o' _ hl ho _ => keepL_b W l o o' hl ho) (Below.refl _ _) (fun _ => rfl)
    (fun pre W => WhI w w3.heap.size ((·.1)) pre W)
    (fun _ _ _ => False)
    (WhI.own (by omega))
    (fun _ _ _ _ _ h _ _ => h)
    HI.out
    (fun x => { tmps := #[.pointer (some ⟨p, 0, none⟩), .string k, undef, undef, .slice none 0 0, .pointer (some ⟨w.heap.size, 0, none⟩), .int .i64 x.1, .pointer (some ⟨p, 0, none⟩), .string k, .func (.func 97) #[] #[.pointer (some ⟨w.heap.size + 1, 0, none⟩), .pointer (some ⟨w.heap.size + 1 + 1, 0, none⟩)], .int .i64 x.1, .int .i64 x.2, undef, undef, undef, undef, undef], defers := [] }) ?assign ?body ?done ?stop
  case stop =>
    rintro D c pre W _ _ h _
    exact h.elim
  case assign =>
    intro l x W K hK
    gi_wp2
    exact hK
  case body =>
    rintro l pre x W hI hlt
    obtain ⟨⟨vo, hvo, hrow, hown⟩, hbel, hle3⟩ := hI
    obtain ⟨Ao, co, rfl⟩ := own_form hrow
    have hl1 := sel_len (fun x => decide (x = k)) ws m
    obtain ⟨ln, hln⟩ : ∃ x, x = pre.length := ⟨_, rfl⟩
    rw [← hln] at hrow hvo hown hlt
    have hle : ln ≤ 1000 := by omega
    have cn := hvo.cell
    have fo := hvo.frozen
    have HV := Lib.hid hvo
    have HR := Lib.hid hrow
    have HB := Lib.hid hbel
    have HO := Lib.hid hown
    have HLN := Lib.hid hln
    have hsz1 : w.heap.size ≤ W.heap.size := hbel.size
    clear hvo hrow hbel hown hlt hln hl1
    gi_wp2_with (gi_at_builtin; refine wpListIn_append_own_at _ rfl _ _ 28 rfl w.heap.size 3 i0 (.int .i64 0) 1 8 Tryd.underlying28 hi0 hz0 hz1 hz2 rfl (by decide) _ _ _ rfl (HR.out.alloc _) ⟨W.heap.size, 0, none⟩ 1 1 [.int .i64 x.1] rfl rfl (cell_one_new _ _ _) (by simp [Value.oneCell']) (by simp only [maxLen]; omega) (by omega) (by simp; omega) ?_; intro v9 w9 hown9 hgrow9 _ hat9; obtain ⟨g9, cap9, rfl⟩ := ownsRow_succ hown9; obtain ⟨hv1, hv2, hr2, hk2, hb2⟩ := HV.out.appended (by decide) HR.out hsz1 (Nat.le_refl _) hown9 hgrow9; have hc1 := hv1.cell; have hf1 := hv1.frozen; have HGR := Lib.hid hgrow9; have HAT := Lib.hid hat9; clear hown9 hgrow9 hat9)
    have hbut : But (fun k => k = w.heap.size ∨ (Value.slice Ao ln co).ownBlock = some k) W (w9.setCell ⟨w.heap.size, 0, none⟩ (.slice (some ⟨g9, 0, none⟩) (ln + 1) cap9)) := app_but HGR.out
    refine ⟨hk2.from _, fun j hj cs t fr hk => hbut.blk hk fun h => ?_, ⟨⟨.slice (some ⟨g9, 0, none⟩) (ln + 1) cap9, ?_, ?_, fun j hj => ?_⟩, HB.out.trans hb2, Nat.le_trans hle3 hbut.size⟩⟩
    · have hj3 : j ≠ w.heap.size ∧ j < w3.heap.size := by
        simp only [List.mem_cons, List.not_mem_nil, or_false] at hj
        omega
      rcases h with h | h
      · exact hj3.1 h
      · have := HO.out j h
        omega
    · exact hv2
    · rw [List.length_append, ← HLN.out, List.map_append]
      simpa [i64s] using hr2
    · have hj' : g9 = j := by simpa [Value.ownBlock] using hj
      subst hj'
      rcases HAT.out with h | h
      · exact HO.out g9 h.symm
      · have h' : g9 = W.heap.size + 1 := by simpa [Value.ownBlock] using h
        omega
  case done =>
    rintro D ys W hD rfl ⟨⟨vo, hvo, hrow, _⟩, hbel, _⟩ hK
    obtain ⟨Ao, co, rfl⟩ := own_form hrow
    have hc := hvo.cell
    have HR := Lib.hid hrow
    have HB := Lib.hid hbel
    clear hvo hrow hbel
    gi_wp2
    refine ⟨by simp, .inl ⟨_, _, rfl, run_takeDeferred hK, ?_⟩⟩
    exact ⟨_, results_tmp rfl _ _ _, _, _, _, rfl, ownsRow_putObj HR.out _ hK rfl, HB.out.trans (belowK_b (w := w) (Nat.le_refl _) W D _ _ (by omega) hK rfl rfl)⟩

set_option maxHeartbeats 4000000 in
set_option maxRecDepth 100000 in
theorem spower_any (base p g : Nat) (A : Option Addr) (m c cw : Nat) (va : List Va) (ws : List (Wd ByteArray)) (k : ByteArray) (aS aR aT : Addr) (w : World) (ht : TalAt 141 143 Value.string base p g A m c cw va ws w) (hs : Sen w aS aR aT) (hval : validB va = true) (hz : m ≤ 1000) :
    Calls Tryd.prog 81 #[.pointer (some ⟨p, 0, none⟩), .string k] w fun e w' => e = .returned (.int .i64 (powOf va ws k)) ∧ Below w.heap.size w w' := by
  have C0 := Lib.hid ht.cell0
  have HV := Lib.hid ht.vals
  have HNW := Lib.hid ht.nw
  have HNV := Lib.hid ht.nv
  have HT := Lib.hid ht
  have HS := Lib.hid hs
  clear ht hs
  go_enter Tryd.func81, Tryd.ntmps81
  go_wp2_with fail
  refine wp_region_rely2 (by kernel_rfl) 13 (by kernel_rfl) (by kernel_rfl) Ext Ext.refl Ext.trans (fun ix => match ix with
    | 0 => fun _ v => v = .pointer (some ⟨p, 0, none⟩)
    | 1 => fun _ v => v = .pointer (some ⟨p, 0, none⟩)
    | 2 => fun _ v => v = .pointer (some ⟨p, 0, none⟩)
    | 3 => fun _ v => v = .slice A m c
    | 4 => fun _ v => v = .pointer (some ⟨p, 0, none⟩)
    | 5 => fun _ v => v = .string k
    | 6 => fun W v => ∃ A' n' c', v = .slice A' n' c' ∧ Ins W (.slice A' n' c') (whoOf ws k) ∧ n' ≤ 1000
    | 7 => fun _ v => v = .tuple #[.int .i64 (powOf va ws k), .nilIface]
    | 8 => fun _ v => v = .tuple #[.int .i64 (powOf va ws k), .nilIface]
    | 9 => fun _ v => v = .int .i64 (powOf va ws k)
    | 10 => fun _ v => v = .nilIface
    | 11 => fun _ v => v = .int .i64 (powOf va ws k)
    | 12 => fun _ v => v = .nilIface
    | _ => fun _ _ => False) ?_
  simp (maxSteps := 10000000) only [Rely, List.take_succ_cons, List.take_zero, List.drop_succ_cons, List.drop_zero, Nat.reduceAdd, Nat.zero_add, Act.put, List.setIfInBounds_toArray, List.set_cons_succ, List.set_cons_zero]
  refine ⟨?_, ?_, ?_, ?_, ?_, ?_, ?_, ?_, ?_, ?_, ?_, ?_, ?_, ?_⟩
  · refine step_plain rfl fun vs wq hE hd => ?_
    exact gives_move _ (.pointer (some ⟨p, 0, none⟩)) (.inl rfl) rfl ⟨Ext.refl _, fun _ _ => rfl⟩
  · refine step_plain rfl fun vs wq hE hd => ?_
    exact gives_nilCheck _ rfl ⟨p, 0, none⟩ (show vs 0 = _ from (hd.1)) ⟨Ext.refl _, fun _ _ => rfl⟩
  · refine step_plain rfl fun vs wq hE hd => ?_
    exact gives_fieldAddr' 141 _ 0 rfl (.pointer (some ⟨p, 0, none⟩)) (.pointer (some ⟨p, 0, none⟩)) (show vs 1 = _ from (hd.1)) (by go_simp) ⟨Ext.refl _, fun _ _ => rfl⟩
  · refine step_plain rfl fun vs wq hE hd => ?_
    have hc := cell_on (ext_of_drew hE) C0.out
    exact gives_loadAt 22 _ rfl (.pointer (some ⟨p, 0, none⟩)) (.slice A m c) (show vs 2 = _ from hd.1) (by go_simp) ⟨Ext.refl _, fun _ _ => rfl⟩
  · refine step_plain rfl fun vs wq hE hd => ?_
    exact gives_move _ (.pointer (some ⟨p, 0, none⟩)) (.inl rfl) rfl ⟨Ext.refl _, fun _ _ => rfl⟩
  · refine step_plain rfl fun vs wq hE hd => ?_
    exact gives_move _ (.string k) (.inl rfl) rfl ⟨Ext.refl _, fun _ _ => rfl⟩
  · refine step_plain rfl fun vs wq hE hd => ?_
    refine gives_call 93 (enters_of Tryd.func93 (by kernel_rfl) rfl) _ _ rfl rfl [.pointer (some ⟨p, 0, none⟩), .string k] ?_ ?_
    · show [vs 4, vs 5] = _
      rw [show vs 4 = _ from (hd.1), show vs 5 = _ from (hd.2.1)]
    · refine (swho_any base p g A m c cw va ws k wq (HT.out.below (ext_of_drew hE)) hz).mono ?_
      rintro _ w'' ⟨A', n', c', rfl, ro, hb⟩
      rw [show (sel (fun x => decide (x = k)) ws m).map (·.1) = whoOf ws k by unfold whoOf; rw [← HNW.out]] at ro
      have hi := Ins.of_own ro
      have hl := hi.len
      have hl2 := whoOf_len ws k
      have hl3 := HNW.out
      exact ⟨_, rfl, hb, fun W2 h2 => ⟨A', n', c', rfl, hi.below h2, by omega⟩⟩
  · refine step_plain rfl fun vs wq hE hd => ?_
    obtain ⟨A', n', c', h6, hi, hl⟩ := (hd.2.1)
    refine gives_call 22 (enters_of Tryd.func22 (by kernel_rfl) rfl) _ _ rfl rfl [.slice A m c, .slice A' n' c'] ?_ ?_
    · show [vs 3, vs 6] = _
      rw [show vs 3 = _ from (hd.1), h6]
    · refine (psum_any va (whoOf ws k) A A' m c n' c' aS aR aT wq (HV.out.below (ext_of_drew hE)) hi (HS.out.below (ext_of_drew hE)) (by omega) (by omega)).mono ?_
      rintro _ w'' ⟨rfl, hb⟩
      exact ⟨_, rfl, hb, fun _ _ => by rw [sumV_good aS aR aT (whoOf_good k hval (by rw [← HNW.out, HNV.out]))]; rfl⟩
  · refine step_plain rfl fun vs wq hE hd => ?_
    exact gives_move _ (.tuple #[.int .i64 (powOf va ws k), .nilIface]) (.inl rfl) (show vs 7 = _ from hd.1) ⟨Ext.refl _, fun _ _ => rfl⟩
  · refine step_plain rfl fun vs wq hE hd => ?_
    exact gives_extract _ 0 rfl #[.int .i64 (powOf va ws k), .nilIface] (.int .i64 (powOf va ws k)) (show vs 8 = _ from (hd.1)) rfl ⟨Ext.refl _, fun _ _ => rfl⟩
  · refine step_plain rfl fun vs wq hE hd => ?_
    exact gives_extract _ 1 rfl #[.int .i64 (powOf va ws k), .nilIface] .nilIface (show vs 8 = _ from (hd.1)) rfl ⟨Ext.refl _, fun _ _ => rfl⟩
  · refine step_plain rfl fun vs wq hE hd => ?_
    exact gives_move _ (.int .i64 (powOf va ws k)) (.inr rfl) (show vs 9 = _ from hd.1) ⟨Ext.refl _, fun _ _ => rfl⟩
  · refine step_plain rfl fun vs wq hE hd => ?_
    exact gives_move _ (.nilIface) (.inr rfl) (show vs 10 = _ from hd.1) ⟨Ext.refl _, fun _ _ => rfl⟩
  · intro vs wz hE hR
    have h11 : vs 11 = .int .i64 (powOf va ws k) := hR 11 (by omega)
    have h12 : vs 12 = .nilIface := hR 12 (by omega)
    have B1 := Lib.hid (ext_of_drew hE)
    rw [h11, h12]
    clear hR hE h11 h12
    go_wp2_with fail
    go_ret
    exact ⟨rfl, B1.out⟩

set_option maxHeartbeats 4000000 in
set_option maxRecDepth 100000 in
theorem senoughT_any (base p g : Nat) (A : Option Addr) (m c cw : Nat) (va : List Va) (ws : List (Wd ByteArray)) (k : ByteArray) (aS aR aT : Addr) (w : World) (ht : TalAt 141 143 Value.string base p g A m c cw va ws w) (hs : Sen w aS aR aT) (hz : m ≤ 1000) :
    Calls Tryd.prog 92 #[.pointer (some ⟨p, 0, none⟩), .string k] w fun e w' => e = .returned (.bool (enoughB va (whoOf ws k))) ∧ Below w.heap.size w w' := by
  have C0 := Lib.hid ht.cell0
  have HV := Lib.hid ht.vals
  have HNW := Lib.hid ht.nw
  have HNV := Lib.hid ht.nv
  have HT := Lib.hid ht
  have HS := Lib.hid hs
  clear ht hs
  go_enter Tryd.func92, Tryd.ntmps92
  go_wp2_with fail
  refine wp_region_rely2 (by kernel_rfl) 9 (by kernel_rfl) (by kernel_rfl) Ext Ext.refl Ext.trans (fun ix => match ix with
    | 0 => fun _ v => v = .pointer (some ⟨p, 0, none⟩)
    | 1 => fun _ v => v = .pointer (some ⟨p, 0, none⟩)
    | 2 => fun _ v => v = .pointer (some ⟨p, 0, none⟩)
    | 3 => fun _ v => v = .slice A m c
    | 4 => fun _ v => v = .pointer (some ⟨p, 0, none⟩)
    | 5 => fun _ v => v = .string k
    | 6 => fun W v => ∃ A' n' c', v = .slice A' n' c' ∧ Ins W (.slice A' n' c') (whoOf ws k) ∧ n' ≤ 1000
    | 7 => fun _ v => v = .bool (enoughB va (whoOf ws k))
    | 8 => fun _ v => v = .bool (enoughB va (whoOf ws k))
    | _ => fun _ _ => False) ?_
  simp (maxSteps := 10000000) only [Rely, List.take_succ_cons, List.take_zero, List.drop_succ_cons, List.drop_zero, Nat.reduceAdd, Nat.zero_add, Act.put, List.setIfInBounds_toArray, List.set_cons_succ, List.set_cons_zero]
  refine ⟨?_, ?_, ?_, ?_, ?_, ?_, ?_, ?_, ?_, ?_⟩
  · refine step_plain rfl fun vs wq hE hd => ?_
    exact gives_move _ (.pointer (some ⟨p, 0, none⟩)) (.inl rfl) rfl ⟨Ext.refl _, fun _ _ => rfl⟩
  · refine step_plain rfl fun vs wq hE hd => ?_
    exact gives_nilCheck _ rfl ⟨p, 0, none⟩ (show vs 0 = _ from (hd.1)) ⟨Ext.refl _, fun _ _ => rfl⟩
  · refine step_plain rfl fun vs wq hE hd => ?_
    exact gives_fieldAddr' 141 _ 0 rfl (.pointer (some ⟨p, 0, none⟩)) (.pointer (some ⟨p, 0, none⟩)) (show vs 1 = _ from (hd.1)) (by go_simp) ⟨Ext.refl _, fun _ _ => rfl⟩
  · refine step_plain rfl fun vs wq hE hd => ?_
    have hc := cell_on (ext_of_drew hE) C0.out
    exact gives_loadAt 22 _ rfl (.pointer (some ⟨p, 0, none⟩)) (.slice A m c) (show vs 2 = _ from hd.1) (by go_simp) ⟨Ext.refl _, fun _ _ => rfl⟩
  · refine step_plain rfl fun vs wq hE hd => ?_
    exact gives_move _ (.pointer (some ⟨p, 0, none⟩)) (.inl rfl) rfl ⟨Ext.refl _, fun _ _ => rfl⟩
  · refine step_plain rfl fun vs wq hE hd => ?_
    exact gives_move _ (.string k) (.inl rfl) rfl ⟨Ext.refl _, fun _ _ => rfl⟩
  · refine step_plain rfl fun vs wq hE hd => ?_
    refine gives_call 93 (enters_of Tryd.func93 (by kernel_rfl) rfl) _ _ rfl rfl [.pointer (some ⟨p, 0, none⟩), .string k] ?_ ?_
    · show [vs 4, vs 5] = _
      rw [show vs 4 = _ from (hd.1), show vs 5 = _ from (hd.2.1)]
    · refine (swho_any base p g A m c cw va ws k wq (HT.out.below (ext_of_drew hE)) hz).mono ?_
      rintro _ w'' ⟨A', n', c', rfl, ro, hb⟩
      rw [show (sel (fun x => decide (x = k)) ws m).map (·.1) = whoOf ws k by unfold whoOf; rw [← HNW.out]] at ro
      have hi := Ins.of_own ro
      have hl := hi.len
      have hl2 := whoOf_len ws k
      have hl3 := HNW.out
      exact ⟨_, rfl, hb, fun W2 h2 => ⟨A', n', c', rfl, hi.below h2, by omega⟩⟩
  · refine step_plain rfl fun vs wq hE hd => ?_
    obtain ⟨A', n', c', h6, hi, hl⟩ := (hd.2.1)
    refine gives_call 20 (enters_of Tryd.func20 (by kernel_rfl) rfl) _ _ rfl rfl [.slice A m c, .slice A' n' c'] ?_ ?_
    · show [vs 3, vs 6] = _
      rw [show vs 3 = _ from (hd.1), h6]
    · refine (enough_any va (whoOf ws k) A A' m c n' c' aS aR aT wq (HV.out.below (ext_of_drew hE)) hi (HS.out.below (ext_of_drew hE)) (by omega) (by omega)).mono ?_
      rintro _ w'' ⟨rfl, hb⟩
      exact ⟨_, rfl, hb, fun _ _ => rfl⟩
  · refine step_plain rfl fun vs wq hE hd => ?_
    exact gives_move _ (.bool (enoughB va (whoOf ws k))) (.inr rfl) (show vs 7 = _ from hd.1) ⟨Ext.refl _, fun _ _ => rfl⟩
  · intro vs wz hE hR
    have h8 : vs 8 = .bool (enoughB va (whoOf ws k)) := hR 8 (by omega)
    have B1 := Lib.hid (ext_of_drew hE)
    rw [h8]
    clear hR hE h8
    go_wp2_with fail
    go_ret
    exact ⟨rfl, B1.out⟩

set_option maxHeartbeats 4000000 in
set_option maxRecDepth 100000 in
theorem sput_any (base p g : Nat) (A : Option Addr) (m c cw : Nat) (va : List Va) (ws : List (Wd ByteArray)) (k : ByteArray) (who x : Int) (aS aR aT : Addr) (w : World) (ht : TalAt 141 143 Value.string base p g A m c cw va ws w) (hs : Sen w aS aR aT) (hb3 : 3 ≤ base) (hz : m ≤ 1000) :
    Calls Tryd.prog 80 #[.pointer (some ⟨p, 0, none⟩), .string k, .int .i64 who, .int .i64 x] w fun e w' => e = .returned (.tuple #[.bool (putB va ws k who x), putE ws who aR aT]) ∧ TalAt 141 143 Value.string base p g A m c cw va (putW ws k who x) w' ∧ But (fun j => j = g) w w' := by
  have c0 := ht.cell0
  have c1 := ht.cell1
  have cr := hs.r
  have ctw := hs.t
  have HNW := Lib.hid ht.nw
  have HC := Lib.hid ht.hc
  have HT := Lib.hid ht
  have HS := Lib.hid hs
  have hcw1 := ht.hc.1
  clear ht hs
  by_cases hneg : who < 0
  · have hE : Hid (putB va ws k who x = false ∧ putE ws who aR aT = errV aR ∧ putW ws k who x = ws) := Lib.hid (put_out (by omega))
    go_enter Tryd.func80, Tryd.ntmps80
    go_wp2
    go_quiet (fail)
    go_wp2
    go_ret2
    exact ⟨by rw [hE.out.1, hE.out.2.1]; rfl, by rw [hE.out.2.2]; exact HT.out.below (below_drewN _ _), But.of_below (below_drewN _ _)⟩
  by_cases hbig : (m : Int) ≤ who
  · have hE : Hid (putB va ws k who x = false ∧ putE ws who aR aT = errV aR ∧ putW ws k who x = ws) := Lib.hid (put_out (by have := HNW.out; omega))
    go_enter Tryd.func80, Tryd.ntmps80
    go_wp2
    go_quiet (fail)
    go_wp2
    go_ret2
    exact ⟨by rw [hE.out.1, hE.out.2.1]; rfl, by rw [hE.out.2.2]; exact HT.out.below (below_drewN _ _), But.of_below (below_drewN _ _)⟩
  obtain ⟨i, rfl⟩ : ∃ i : Nat, who = (i : Int) := ⟨who.toNat, by omega⟩
  have him : i < m := by omega
  obtain ⟨⟨sd, kk, xx⟩, hX⟩ : ∃ X, ws[i]? = some X := ⟨_, List.getElem?_eq_getElem (by rw [← HNW.out]; exact him)⟩
  have hr := HT.out.range hX
  have d0 : w.cell? ⟨g, i * 3, none⟩ = some (.bool sd) := by have := hr 0 _ rfl; simpa using this
  have HX := Lib.hid hX
  clear hr hX
  cases sd with
  | true =>
    have hE : Hid (putB va ws k i x = false ∧ putE ws i aR aT = errV aT ∧ putW ws k i x = ws) := Lib.hid (put_said HX.out)
    go_enter Tryd.func80, Tryd.ntmps80
    go_wp2
    go_quiet (fail)
    go_wp2
    go_ret2
    exact ⟨by rw [hE.out.1, hE.out.2.1]; rfl, by rw [hE.out.2.2]; exact HT.out.below (below_drewN _ _), But.of_below (below_drewN _ _)⟩
  | false =>
    have hE : Hid (putB va ws k i x = (!enoughB va (whoOf ws k) && enoughB va (whoOf (putW ws k i x) k)) ∧ putE ws i aR aT = .nilIface ∧ putW ws k i x = ws.set i (true, k, x)) := Lib.hid (put_free HX.out)
    go_enter Tryd.func80, Tryd.ntmps80
    go_wp2_with fail
    refine (senoughT_any base p g A m c cw va ws k aS aR aT w HT.out HS.out hz).mono ?_
    rintro _ w1 ⟨rfl, bel1⟩
    have T1 := Lib.hid (HT.out.below bel1)
    have e1 := T1.out.cell1
    have HTH := Lib.hid (T1.out.there him)
    obtain ⟨b1, hb1⟩ : ∃ b, b = enoughB va (whoOf ws k) := ⟨_, rfl⟩
    rw [← hb1] at hE ⊢
    have S1 := Lib.hid (HS.out.below bel1)
    have B1 := Lib.hid bel1
    clear bel1 hb1 c0 c1 cr ctw d0
    cases b1 with
    | true =>
      go_wp2_with (refine wpList_store_mid rfl 143 (.tmp 45) (.tmp 44) rfl g (i * 3) #[.bool true, .string k, .int .i64 x] rfl rfl HTH.out Tryd.size143 (by simp [Value.oneCell']) ?_; obtain ⟨t2, hb2⟩ := T1.out.put (by decide) (by decide) him ((true, k, x) : Wd ByteArray); change wpList _ _ _ _ _ (w1.setCells g (i * 3) (wcell Value.string ((true, k, x) : Wd ByteArray))); generalize w1.setCells g (i * 3) (wcell Value.string ((true, k, x) : Wd ByteArray)) = w2 at t2 hb2 ⊢; have T2 := Lib.hid t2; have U2 := Lib.hid hb2; clear t2 hb2)
      go_ret2
      exact ⟨by rw [hE.out.1, hE.out.2.1]; rfl, by rw [hE.out.2.2]; exact T2.out, (But.of_below B1.out).trans U2.out⟩
    | false =>
      go_wp2_with (refine wpList_store_mid rfl 143 (.tmp 45) (.tmp 44) rfl g (i * 3) #[.bool true, .string k, .int .i64 x] rfl rfl HTH.out Tryd.size143 (by simp [Value.oneCell']) ?_; obtain ⟨t2, hb2⟩ := T1.out.put (by decide) (by decide) him ((true, k, x) : Wd ByteArray); change wpList _ _ _ _ _ (w1.setCells g (i * 3) (wcell Value.string ((true, k, x) : Wd ByteArray))); generalize w1.setCells g (i * 3) (wcell Value.string ((true, k, x) : Wd ByteArray)) = w2 at t2 hb2 ⊢; have T2 := Lib.hid t2; have U2 := Lib.hid hb2; clear t2 hb2)
      have hg3 : 3 ≤ g := Nat.le_trans hb3 T1.out.hg
      have S2 : Hid (Sen w2 aS aR aT) := Lib.hid ⟨U2.out.cellT S1.out.s (by show ¬ 0 = g; omega), U2.out.cellT S1.out.r (by show ¬ 1 = g; omega), U2.out.cellT S1.out.t (by show ¬ 2 = g; omega)⟩
      refine (senoughT_any base p g A m c cw va _ k aS aR aT w2 T2.out S2.out hz).mono ?_
      rintro _ w3 ⟨rfl, bel3⟩
      have T3 := Lib.hid (T2.out.below bel3)
      have B3 := Lib.hid bel3
      rw [← hE.out.2.2]
      obtain ⟨b2, hb2⟩ : ∃ b, b = enoughB va (whoOf (putW ws k i x) k) := ⟨_, rfl⟩
      rw [← hb2] at hE ⊢
      clear bel3 hb2
      go_wp2_with fail
      go_ret2
      exact ⟨by rw [hE.out.1, hE.out.2.1]; cases b2 <;> rfl, by rw [hE.out.2.2]; exact T3.out, ((But.of_below B1.out).trans U2.out).trans (But.of_below B3.out)⟩
end
end Go.Proofs.YtideopnblhbngaaDoor
