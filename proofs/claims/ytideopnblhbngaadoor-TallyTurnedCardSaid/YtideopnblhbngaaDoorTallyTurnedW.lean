/- What TallyTurned answers. -/
import Derived.Test.YtideopnblhbngaaDoorTalR
import Derived.Test.YtideopnblhbngaaDoorTAlive
namespace Go.Proofs.YtideopnblhbngaaDoor
open Go.RowKit Go.Shelf

section
variable {T E : Nat} {K : Type} {ek : K → Value} {base p g : Nat} {A : Option Addr} {n c cw : Nat} {vs : List Va} {ws : List (Wd K)} {w w' : World}
/-- Another tally has been written. -/
theorem TalAt.other (h : TalAt T E ek base p g A n c cw vs ws w) {g' : Nat} (hb : But (fun k => k = g') w w') {cur' : Array Value} (hg' : w.heap[g']? = some (.cells cur' E (0, 0))) (hTE : T ≠ E) (hE : E ≠ 39) (hne : g ≠ g') : TalAt T E ek base p g A n c cw vs ws w' := by
  obtain ⟨cur, h1, h2⟩ := h.wds
  refine ⟨hb.blk h.blk (fun e => ?_), ?_, ⟨cur, hb.blk h1 hne, h2⟩, h.nv, h.nw, h.good, h.hp, h.hg, h.hc⟩
  · have := h.blk
    rw [show p = g' from e, hg'] at this
    cases this
    exact hTE rfl
  · rcases h.own with ⟨hl', h1 | ⟨b, cap, cur2, hv, hbb, hg2, rest⟩⟩
    · exact ⟨hl', .inl h1⟩
    · refine ⟨hl', .inr ⟨b, cap, cur2, hv, hbb, hb.blk hg2 (fun e => ?_), rest⟩⟩
      rw [show b = g' from e, hg'] at hg2
      cases hg2
      exact hE rfl
end
/-- A box of a few cells. -/
abbrev Boxed3 (W : World) (B : Nat) (cs : Array Value) : Prop := W.heap[B]? = some (.cells cs 85 (0, 0))
theorem boxed3_cell {W : World} {B : Nat} {cs : Array Value} (h : Boxed3 W B cs) (i : Nat) (v : Value) (hv : cs[i]? = some v) : W.cell? ⟨B, i, none⟩ = some v := by
  rw [cell_of_row _ _ _ _ _ _ h]
  exact hv
theorem Vals.nvals {w : World} {A : Option Addr} {n c : Nat} {vs : List Va} (h : Vals w (.slice A n c) vs) : n = vs.length := h.len
theorem sen_low {w w' : World} {aS aR aT : Addr} (h : Sen w aS aR aT) (hb : Below w.heap.size w w') : Sen w' aS aR aT := h.below hb

set_option maxHeartbeats 8000000 in
set_option maxRecDepth 100000 in
theorem tallyTurned_any (va : List Va) (xs : List W3) (z : Int) (A A' : Option Addr) (n c m c' : Nat) (aS aR aT : Addr) (w : World) (hv : Vals w (.slice A n c) va) (hx : Wsl w (.slice A' m c') xs) (hs : Sen w aS aR aT) :
    Calls Tryd.prog 15 #[.slice A n c, .slice A' m c', .int .i64 z] w fun e w' => e = .returned (.bool true) ∧ Below w.heap.size w w' := by
  have HV := Lib.hid hv
  have HX := Lib.hid hx
  have HS := Lib.hid hs
  clear hv hx hs
  go_enter Tryd.func15, Tryd.ntmps15
  go_wp2_with fail
  refine (tAlive_any aS aR aT w HS.out).mono ?_
  rintro _ w1 ⟨rfl, bel1⟩
  have V1 := Lib.hid (HV.out.below bel1)
  have X1 := Lib.hid (HX.out.below bel1)
  have S1 := Lib.hid (HS.out.below bel1)
  have B1 := Lib.hid bel1
  clear bel1 HV HX HS
  by_cases hn30 : 30 < n
  · have h30' : (30 : Int) < n := by omega
    go_wp2_with fail
    go_ret
    exact ⟨rfl, B1.out⟩
  by_cases hm30 : 30 < m
  · have h30' : ¬ (30 : Int) < n := by omega
    have h31' : (30 : Int) < m := by omega
    go_wp2_with fail
    go_ret
    exact ⟨rfl, B1.out⟩
  have h30' : ¬ (30 : Int) < n := by omega
  have h31' : ¬ (30 : Int) < m := by omega
  have HM := Lib.hid X1.out.len
  go_wp2_with fail
  go_loopw [30] (fun x wr => ∃ i : Nat, i ≤ m ∧ x = .int .i64 i ∧ Hid (((xs.take i).map (·.2.1)).Nodup) ∧ Hid (Below w1.heap.size w1 wr))
    (fun x _ => m - (intOf x).toNat)
  case atStart => exact ⟨0, by omega, rfl, Lib.hid (by simp), Lib.hid (Below.refl _ _)⟩
  case round =>
    obtain ⟨i, hi, rfl, ND, BR⟩ := hrel
    by_cases hlt : i < m
    · have hil : (i : Int) < m := by omega
      obtain ⟨b, off, k, who, x, rfl, hmc, hX, c0, c1, c2⟩ := (X1.out.below BR.out).el i hlt
      have HX := Lib.hid hX
      have hic : (i : Int) ≤ c' := by omega
      obtain ⟨wo, hwo⟩ : ∃ x, x = wr := ⟨_, rfl⟩
      subst hwo
      have htk : xs.take (i + 1) = xs.take i ++ [(k, who, x)] := by rw [List.take_add_one, hX]; rfl
      have HTK := Lib.hid htk
      clear hX htk
      go_wp2_with fail
      go_loopw [39] (fun y wr => ∃ j : Nat, j ≤ i ∧ y = .int .i64 j ∧ Hid (who ∉ (xs.take j).map (·.2.1)) ∧ Hid (Below (wo.alloc (.cells #[.int .i64 k, .int .i64 who, .int .i64 x] 85)).heap.size (wo.alloc (.cells #[.int .i64 k, .int .i64 who, .int .i64 x] 85)) wr))
        (fun y _ => i - (intOf y).toNat)
      case atStart => exact ⟨0, by omega, rfl, Lib.hid (by simp), Lib.hid (Below.refl _ _)⟩
      case round =>
        obtain ⟨j, hj, rfl, NI, BJ⟩ := hrel
        have hbo : Below wo.heap.size wo (wo.alloc (.cells #[.int .i64 k, .int .i64 who, .int .i64 x] 85)) := (Below.refl _ _).alloc (Nat.le_refl _) _
        have bw : Below w1.heap.size w1 wr := BR.out.trans ((hbo.trans (BJ.out.mono hbo.size)).mono BR.out.size)
        have BW := Lib.hid bw
        by_cases hjl : j < i
        · have hjl' : (j : Int) < i := by omega
          obtain ⟨b', off', k2, who2, x2, e, _, hX2, d0, d1, d2⟩ := (X1.out.below bw).el j (by omega)
          simp only [Option.some.injEq, Addr.mk.injEq] at e
          obtain ⟨rfl, rfl, -⟩ := e
          have hbx : Boxed3 wr wo.heap.size #[.int .i64 k, .int .i64 who, .int .i64 x] := (blk_below (heap_alloc_new wo _) BJ.out : _)
          have f1 := boxed3_cell hbx 1 _ rfl
          have hl8 : wo.heap.size < wr.heap.size := blk_lt hbx
          have htk2 : (xs.take (j + 1)).map (·.2.1) = (xs.take j).map (·.2.1) ++ [who2] := by rw [List.take_add_one, hX2]; simp
          have HTK2 := Lib.hid htk2
          clear hX2 hbx htk2 bw hbo
          by_cases he : who = who2
          · subst he
            go_wp2_with fail
            go_ret
            exact ⟨rfl, B1.out.trans ((BW.out.mono B1.out.size).alloc (Nat.le_trans B1.out.size BW.out.size) _)⟩
          · have hb2 : (who == who2) = false := by simp [he]
            go_wp2_with fail
            go_roundw
            case rel => exact ⟨j + 1, by omega, by go_num, Lib.hid (by
              rw [HTK2.out]
              intro hm
              rcases List.mem_append.1 hm with hm | hm
              · exact NI.out hm
              · simp at hm; exact he hm), Lib.hid (BJ.out.alloc BJ.out.size _)⟩
            case measure => simp [intOf]; omega
        · obtain rfl : j = i := by omega
          clear bw hbo
          go_wp2_with fail
          go_roundw
          case rel => exact ⟨j + 1, by omega, by go_num, Lib.hid (by
            rw [HTK.out, List.map_append, List.nodup_append]
            refine ⟨ND.out, by simp, fun a ha b hb e => ?_⟩
            simp at hb
            subst hb
            rw [e] at ha
            exact NI.out ha), BW⟩
          case measure => simp [intOf]; omega
    · obtain rfl : m = i := by omega
      have hnd : (xs.map (·.2.1)).Nodup := by
        have h := ND.out
        rwa [HM.out, List.take_length] at h
      have HND := Lib.hid hnd
      obtain ⟨wo, hwo⟩ : ∃ x, x = wr := ⟨_, rfl⟩
      subst hwo
      have V2 := Lib.hid (V1.out.below BR.out)
      have S2 := Lib.hid (S1.out.below BR.out)
      clear hnd ND
      cases hval : validB va with
      | false =>
        go_wp2_with fail
        refine (new_bad va A n c aS aR aT wo V2.out S2.out hval).mono ?_
        rintro _ w3 ⟨rfl, bel3⟩
        have V3 := Lib.hid (V2.out.below bel3)
        have S3 := Lib.hid (S2.out.below bel3)
        have B3 := Lib.hid (BR.out.trans (bel3.mono BR.out.size))
        clear bel3
        go_wp2_with fail
        refine (new_bad va A n c aS aR aT w3 V3.out S3.out hval).mono ?_
        rintro _ w4 ⟨rfl, bel4⟩
        have B4 := Lib.hid (B3.out.trans (bel4.mono B3.out.size))
        clear bel4
        go_wp2_with fail
        go_ret
        exact ⟨rfl, B1.out.trans (B4.out.mono B1.out.size)⟩
      | true =>
        have HVAL := Lib.hid hval
        clear hval
        go_wp2_with fail
        refine (new_ok va A n c aS aR aT wo V2.out S2.out HVAL.out).mono ?_
        rintro _ w3 ⟨⟨p1, g1, A1, d1, rfl, t1⟩, bel3⟩
        have V3 := Lib.hid (V2.out.below bel3)
        have S3 := Lib.hid (S2.out.below bel3)
        have T1 := Lib.hid t1
        have B3 := Lib.hid (BR.out.trans (bel3.mono BR.out.size))
        clear bel3 t1
        go_wp2_with fail
        refine (new_ok va A n c aS aR aT w3 V3.out S3.out HVAL.out).mono ?_
        rintro _ w4 ⟨⟨p2, g2, A2, d2, rfl, t2⟩, bel4⟩
        have T2 := Lib.hid t2
        have T14 := Lib.hid (T1.out.below bel4)
        have B4 := Lib.hid (B3.out.trans (bel4.mono B3.out.size))
        have h3 : 3 ≤ w1.heap.size := by
          obtain ⟨cs, t, fr, e⟩ := cell_obj S1.out.t
          exact blk_lt e
        have hg12 : g1 < w3.heap.size := by obtain ⟨cur, h1, _⟩ := T1.out.wds; exact blk_lt h1
        have hr3 : w1.heap.size ≤ wo.heap.size := BR.out.size
        have hr4 : wo.heap.size ≤ w3.heap.size := Nat.le_trans (Nat.le_of_lt (Nat.lt_of_le_of_lt T1.out.hg hg12)) (Nat.le_refl _)
        have hm1000 : n ≤ 1000 := by omega
        clear bel4 t2 T1 V2 S2 V3 S3 B3 BR
        go_wp2_with fail
        go_loopw [68] (fun x wr => ∃ i : Nat, i ≤ m ∧ x = .int .i64 i ∧ Hid (TalAt 126 128 (Value.int .i64) wo.heap.size p1 g1 A1 n d1 n va (putAll (List.replicate n (false, 0, 0)) (xs.take i)) wr) ∧ Hid (TalAt 126 128 (Value.int .i64) w3.heap.size p2 g2 A2 n d2 n va (putAll (List.replicate n (false, 0, 0)) (xs.reverse.take i)) wr) ∧ Hid (Below w1.heap.size w1 wr))
          (fun x _ => m - (intOf x).toNat)
        case atStart => exact ⟨0, by omega, rfl, T14, T2, B4⟩
        case round =>
          clear T14 T2 B4
          obtain ⟨i, hi, rfl, TA, TB, BQ⟩ := hrel
          by_cases hlt : i < m
          · have hil : (i : Int) < m := by omega
            obtain ⟨b, off, k, who, x, rfl, hmc, hX, c0, c1, c2⟩ := (X1.out.below BQ.out).el i hlt
            have htk : xs.take (i + 1) = xs.take i ++ [(k, who, x)] := by rw [List.take_add_one, hX]; rfl
            have HTK := Lib.hid htk
            have hbx : Below wr.heap.size wr (wr.alloc (.cells #[.int .i64 k, .int .i64 who, .int .i64 x] 85)) := (Below.refl _ _).alloc (Nat.le_refl _) _
            have TA1 := Lib.hid (TA.out.below hbx)
            have TB1 := Lib.hid (TB.out.below hbx)
            have BQ1 := Lib.hid (BQ.out.trans (hbx.mono BQ.out.size))
            clear hX htk hbx TA TB
            go_wp2_with fail
            refine (put_any wo.heap.size p1 g1 A1 n d1 n va _ k who x aS aR aT _ TA1.out (S1.out.below BQ1.out) (by omega) hm1000).mono ?_
            rintro _ w5 ⟨rfl, ta5, bb5⟩
            have hw1g : w1.heap.size ≤ g1 := Nat.le_trans hr3 TA1.out.hg
            have TB5 := Lib.hid (by obtain ⟨cur, h1, _⟩ := TA1.out.wds; exact TB1.out.other bb5 h1 (by decide) (by decide) (by have := TB1.out.hg; omega))
            have BQ5 := Lib.hid (BQ1.out.trans (bb5.low BQ1.out.size (fun k hk => by rw [show k = g1 from hk]; exact hw1g)))
            rw [← putAll_snoc (x := (k, who, x)), ← HTK.out] at ta5
            have TA5 := Lib.hid ta5
            obtain ⟨pb, hpb⟩ : ∃ y, y = putB va (putAll (List.replicate n (false, 0, 0)) (xs.take i)) k who x := ⟨_, rfl⟩
            obtain ⟨pe, hpe⟩ : ∃ y, y = putE (putAll (List.replicate n (false, 0, 0)) (xs.take i)) who aR aT := ⟨_, rfl⟩
            rw [← hpb, ← hpe]
            clear ta5 bb5 hpb hpe HTK TA1 TB1 c0 c1 c2
            obtain ⟨b', off', k2, who2, x2, e, _, hX2, c0, c1, c2⟩ := (X1.out.below BQ5.out).el (m - 1 - i) (by omega)
            simp only [Option.some.injEq, Addr.mk.injEq] at e
            obtain ⟨rfl, rfl, -⟩ := e
            have htk2 : xs.reverse.take (i + 1) = xs.reverse.take i ++ [(k2, who2, x2)] := by
              have hl := HM.out
              rw [List.take_add_one, List.getElem?_reverse (by omega), show xs.length - 1 - i = m - 1 - i by omega, hX2]
              rfl
            have HTK2 := Lib.hid htk2
            have hbx : Below w5.heap.size w5 (w5.alloc (.cells #[.int .i64 k2, .int .i64 who2, .int .i64 x2] 85)) := (Below.refl _ _).alloc (Nat.le_refl _) _
            have TA6 := Lib.hid (TA5.out.below hbx)
            have TB6 := Lib.hid (TB5.out.below hbx)
            have BQ6 := Lib.hid (BQ5.out.trans (hbx.mono BQ5.out.size))
            clear hX2 htk2 hbx TA5 TB5 BQ BQ1
            go_wp2_with fail
            refine (put_any w3.heap.size p2 g2 A2 n d2 n va _ k2 who2 x2 aS aR aT _ TB6.out (S1.out.below BQ6.out) (by omega) hm1000).mono ?_
            rintro _ w7 ⟨rfl, tb7, bb7⟩
            have hw1g2 : w1.heap.size ≤ g2 := Nat.le_trans (by omega) TB6.out.hg
            have TA7 := Lib.hid (by obtain ⟨cur, h1, _⟩ := TB6.out.wds; exact TA6.out.other bb7 h1 (by decide) (by decide) (by have := TB6.out.hg; omega))
            have BQ7 := Lib.hid (BQ6.out.trans (bb7.low BQ6.out.size (fun k hk => by rw [show k = g2 from hk]; exact hw1g2)))
            rw [← putAll_snoc (x := (k2, who2, x2)), ← HTK2.out] at tb7
            have TB7 := Lib.hid tb7
            obtain ⟨pb2, hpb⟩ : ∃ y, y = putB va (putAll (List.replicate n (false, 0, 0)) (xs.reverse.take i)) k2 who2 x2 := ⟨_, rfl⟩
            obtain ⟨pe2, hpe⟩ : ∃ y, y = putE (putAll (List.replicate n (false, 0, 0)) (xs.reverse.take i)) who2 aR aT := ⟨_, rfl⟩
            rw [← hpb, ← hpe]
            clear tb7 bb7 hpb hpe HTK2 TA6 TB6 c0 c1 c2 BQ5 BQ6
            go_wp2_with fail
            go_roundw
            case rel => exact ⟨i + 1, by omega, by go_num, TA7, TB7, BQ7⟩
            case measure => simp [intOf]; omega
          · have him : i = m := by omega
            subst him
            have hA : xs.take i = xs := List.take_of_length_le (by rw [← HM.out]; exact Nat.le_refl _)
            have hB : xs.reverse.take i = xs.reverse := List.take_of_length_le (by rw [List.length_reverse, ← HM.out]; exact Nat.le_refl _)
            rw [hA] at TA
            rw [hB, putAll_reverse _ _ HND.out] at TB
            obtain ⟨ws, hws⟩ : ∃ y, y = putAll (List.replicate n (false, 0, 0)) xs := ⟨_, rfl⟩
            rw [← hws] at TA TB
            have SQ := Lib.hid (S1.out.below BQ.out)
            obtain ⟨ln, hln⟩ : ∃ y, y = saidN ws := ⟨_, rfl⟩
            have HLN := Lib.hid hln
            clear hA hB hws hln X1 HND
            go_wp2_with fail
            refine (lenT_any wo.heap.size p1 g1 A1 n d1 n va ws wr TA.out hm1000).mono ?_
            rintro _ u1 ⟨rfl, e1⟩
            rw [← HLN.out]
            have TA1 := Lib.hid (TA.out.below e1)
            have TB1 := Lib.hid (TB.out.below e1)
            have SQ1 := Lib.hid (SQ.out.below e1)
            have BQ1 := Lib.hid (BQ.out.trans (e1.mono BQ.out.size))
            clear e1 TA TB SQ BQ
            go_wp2_with fail
            refine (lenT_any w3.heap.size p2 g2 A2 n d2 n va ws u1 TB1.out hm1000).mono ?_
            rintro _ u2 ⟨rfl, e1⟩
            rw [← HLN.out]
            have TA2 := Lib.hid (TA1.out.below e1)
            have TB2 := Lib.hid (TB1.out.below e1)
            have SQ2 := Lib.hid (SQ1.out.below e1)
            have BQ2 := Lib.hid (BQ1.out.trans (e1.mono BQ1.out.size))
            clear e1 TA1 TB1 SQ1 BQ1
            go_wp2_with fail
            refine (power_any wo.heap.size p1 g1 A1 n d1 n va ws z aS aR aT u2 TA2.out SQ2.out HVAL.out hm1000).mono ?_
            rintro _ u3 ⟨rfl, e1⟩
            obtain ⟨pw, hpw⟩ : ∃ y, y = powOf va ws z := ⟨_, rfl⟩
            have HPW := Lib.hid hpw
            rw [← hpw]
            have TA3 := Lib.hid (TA2.out.below e1)
            have TB3 := Lib.hid (TB2.out.below e1)
            have SQ3 := Lib.hid (SQ2.out.below e1)
            have BQ3 := Lib.hid (BQ2.out.trans (e1.mono BQ2.out.size))
            clear e1 TA2 TB2 SQ2 BQ2 hpw
            go_wp2_with fail
            refine (power_any w3.heap.size p2 g2 A2 n d2 n va ws z aS aR aT u3 TB3.out SQ3.out HVAL.out hm1000).mono ?_
            rintro _ u4 ⟨rfl, e1⟩
            rw [← HPW.out]
            have TA4 := Lib.hid (TA3.out.below e1)
            have TB4 := Lib.hid (TB3.out.below e1)
            have SQ4 := Lib.hid (SQ3.out.below e1)
            have BQ4 := Lib.hid (BQ3.out.trans (e1.mono BQ3.out.size))
            clear e1 TA3 TB3 SQ3 BQ3
            go_wp2_with fail
            refine (enoughT_any wo.heap.size p1 g1 A1 n d1 n va ws z aS aR aT u4 TA4.out SQ4.out hm1000).mono ?_
            rintro _ u5 ⟨rfl, e1⟩
            obtain ⟨eb, heb⟩ : ∃ y, y = enoughB va (whoOf ws z) := ⟨_, rfl⟩
            have HEB := Lib.hid heb
            rw [← heb]
            have TA5 := Lib.hid (TA4.out.below e1)
            have TB5 := Lib.hid (TB4.out.below e1)
            have SQ5 := Lib.hid (SQ4.out.below e1)
            have BQ5 := Lib.hid (BQ4.out.trans (e1.mono BQ4.out.size))
            clear e1 TA4 TB4 SQ4 BQ4 heb
            go_wp2_with fail
            refine (enoughT_any w3.heap.size p2 g2 A2 n d2 n va ws z aS aR aT u5 TB5.out SQ5.out hm1000).mono ?_
            rintro _ u6 ⟨rfl, e1⟩
            rw [← HEB.out]
            have TA6 := Lib.hid (TA5.out.below e1)
            have TB6 := Lib.hid (TB5.out.below e1)
            have SQ6 := Lib.hid (SQ5.out.below e1)
            have BQ6 := Lib.hid (BQ5.out.trans (e1.mono BQ5.out.size))
            clear e1 TA5 TB5 SQ5 BQ5
            go_wp2_with fail
            refine (who_any wo.heap.size p1 g1 A1 n d1 n va ws z u6 TA6.out hm1000).mono ?_
            rintro _ u7 ⟨Aw, nw, cw, rfl, ro, e1⟩
            have I1 := Lib.hid (Ins.of_own ro)
            have hn1 : nw ≤ 1000 := by
              have h1 := (Ins.of_own ro).len
              have h2 := sel_len (fun x => decide (x = z)) ws n
              rw [List.length_map] at h1
              omega
            have TA7 := Lib.hid (TA6.out.below e1)
            have TB7 := Lib.hid (TB6.out.below e1)
            have BQ7 := Lib.hid (BQ6.out.trans (e1.mono BQ6.out.size))
            clear e1 TA6 TB6 BQ6 ro
            go_wp2_with fail
            refine (who_any w3.heap.size p2 g2 A2 n d2 n va ws z u7 TB7.out hm1000).mono ?_
            rintro _ u8 ⟨Aw2, nw2, cw2, rfl, ro, e1⟩
            have I2 := Lib.hid (Ins.of_own ro)
            have hn2 : nw2 ≤ 1000 := by
              have h1 := (Ins.of_own ro).len
              have h2 := sel_len (fun x => decide (x = z)) ws n
              rw [List.length_map] at h1
              omega
            have TA8 := Lib.hid (TA7.out.below e1)
            have TB8 := Lib.hid (TB7.out.below e1)
            have I18 := Lib.hid (I1.out.below e1)
            have BQ8 := Lib.hid (BQ7.out.trans (e1.mono BQ7.out.size))
            clear e1 TA7 TB7 BQ7 ro I1
            go_wp2_with fail
            refine (sameInts_any _ _ Aw Aw2 nw nw2 cw cw2 u8 I18.out I2.out (by omega) (by omega)).mono ?_
            rintro _ u9 ⟨rfl, e1⟩
            rw [decide_eq_true rfl]
            have TA9 := Lib.hid (TA8.out.below e1)
            have TB9 := Lib.hid (TB8.out.below e1)
            have BQ9 := Lib.hid (BQ8.out.trans (e1.mono BQ8.out.size))
            clear e1 TA8 TB8 BQ8 I18 I2
            go_wp2_with fail
            refine (things_any wo.heap.size p1 g1 A1 n d1 n va ws z u9 TA9.out hm1000).mono ?_
            rintro _ u10 ⟨At, nt, ct, rfl, ro, e1⟩
            have I3 := Lib.hid (Ins.of_own ro)
            have hn3 : nt ≤ 1000 := by
              have h1 := (Ins.of_own ro).len
              have h2 := sel_len (fun x => decide (x = z)) ws n
              rw [List.length_map] at h1
              omega
            have TB10 := Lib.hid (TB9.out.below e1)
            have BQ10 := Lib.hid (BQ9.out.trans (e1.mono BQ9.out.size))
            clear e1 TA9 TB9 BQ9 ro
            go_wp2_with fail
            refine (things_any w3.heap.size p2 g2 A2 n d2 n va ws z u10 TB10.out hm1000).mono ?_
            rintro _ u11 ⟨At2, nt2, ct2, rfl, ro, e1⟩
            have I4 := Lib.hid (Ins.of_own ro)
            have hn4 : nt2 ≤ 1000 := by
              have h1 := (Ins.of_own ro).len
              have h2 := sel_len (fun x => decide (x = z)) ws n
              rw [List.length_map] at h1
              omega
            have I34 := Lib.hid (I3.out.below e1)
            have BQ11 := Lib.hid (BQ10.out.trans (e1.mono BQ10.out.size))
            clear e1 TB10 BQ10 ro I3
            go_wp2_with fail
            refine (sameInts_any _ _ At At2 nt nt2 ct ct2 u11 I34.out I4.out (by omega) (by omega)).mono ?_
            rintro _ u12 ⟨rfl, e1⟩
            rw [decide_eq_true rfl]
            have BQ12 := Lib.hid (BQ11.out.trans (e1.mono BQ11.out.size))
            clear e1 BQ11 I34 I4
            go_wp2_with fail
            go_ret
            exact ⟨rfl, B1.out.trans (BQ12.out.mono B1.out.size)⟩
end Go.Proofs.YtideopnblhbngaaDoor
