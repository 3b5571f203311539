/- What PoolTaken answers. -/
import Derived.Test.YtideopnblhbngaaDoorPoolLaw
namespace Go.Proofs.YtideopnblhbngaaDoor
open Go.RowKit Go.Shelf

set_option maxHeartbeats 8000000 in
set_option maxRecDepth 100000 in
theorem poolTaken_any (ps : List (List Int)) (z : Int) (A : Option Addr) (n c : Nat) (aF aT aU : Addr) (w : World) (hv : Bss w (.slice A n c) ps) (hs : PSen w aF aT aU) :
    Calls Tryd.prog 8 #[.slice A n c, .int .i64 z] w fun e w' => e = .returned (.bool true) ∧ Below w.heap.size w w' := by
  have HS := Lib.hid hs
  have HV := Lib.hid hv
  clear hs hv
  obtain ⟨r, hr, hl⟩ := rem_u64 z 20 (by decide)
  rw [show ((20 : Nat) : Int) = 20 from rfl] at hr
  go_enter Tryd.func8, Tryd.ntmps8
  go_wp2_with fail
  refine (plAlive_any aF aT aU w HS.out).mono ?_
  rintro _ w1 ⟨rfl, bel1⟩
  have S1 := Lib.hid (HS.out.below bel1)
  have V1 := Lib.hid (HV.out.below bel1)
  have B1 := Lib.hid bel1
  clear bel1 HS HV
  by_cases h30 : 30 < n
  · have h30' : (30 : Int) < n := by omega
    go_wp2_with fail
    go_ret
    exact ⟨rfl, B1.out⟩
  have h30' : ¬ (30 : Int) < n := by omega
  go_wp2_with fail
  refine (new_any w1).mono ?_
  rintro _ _ ⟨rfl, rfl⟩
  have P0 := Lib.hid (PSt.new S1.out)
  clear S1
  go_wp2_with fail
  go_loopw [7, 18] (fun _ k wr => ∃ (i : Nat) (v : Value) (ts : List ByteArray), i ≤ n ∧ k = .int .i64 i ∧ Hid (PSt w1.heap.size w1.heap.size v ts aF aT aU w1 wr))
    (fun _ k _ => n - (intOf k).toNat)
  case atStart => exact ⟨0, _, _, by omega, rfl, P0⟩
  case round =>
    clear P0
    obtain ⟨i, v, ts, hi, rfl, P⟩ := hrel
    by_cases hlt : i < n
    · have hil : (i : Int) < n := by omega
      have hlow := P.out.low (Nat.le_refl _)
      obtain ⟨b, off, B, m, d, rfl, ra1, ea1⟩ := V1.out.el i hlt
      have ra := cell_on hlow ra1
      have EA := Lib.hid (BsF.of_low ea1 (Nat.le_refl _) hlow)
      clear ra1 ea1 hlow
      obtain ⟨bs, hbs⟩ : ∃ bs, bs = ps.getD i [] := ⟨_, rfl⟩
      rw [← hbs] at EA
      clear hbs
      by_cases h100 : 100 < m
      · have h100' : (100 : Int) < m := by omega
        go_wp2_with fail
        go_ret
        exact ⟨rfl, (B1.out.trans ((P.out.low (Nat.le_refl _)).mono B1.out.size))⟩
      have h100' : ¬ (100 : Int) < m := by omega
      go_wp2_with fail
      refine (add_st _ _ v ts bs B m d aF aT aU w1 wr P.out EA.out).mono ?_
      rintro _ w2 ⟨rfl, v2, p2, _⟩
      have P2 := Lib.hid p2
      obtain ⟨av, hav⟩ : ∃ x, x = addV ts bs aF aT aU := ⟨_, rfl⟩
      rw [← hav]
      clear p2 P EA hav ra
      go_wp2_with fail
      go_roundw
      case rel => exact ⟨i + 1, v2, _, by omega, by go_num, P2⟩
      case measure => simp [intOf]; omega
    · obtain rfl : i = n := by omega
      have hr' := hr
      clear V1 hlt hi
      go_wp2_with fail
      refine (take_st _ _ v ts r [] none 0 0 aF aT aU w1 wr P.out Bss.nil (by omega)).mono ?_
      rintro _ w2 ⟨A2, c2, xs, rfl, l2, t2, bel2⟩
      rw [List.map_nil, takeT_nil] at l2 t2 ⊢
      have P2 := Lib.hid (P.out.below bel2)
      obtain ⟨ma, hma⟩ : ∃ x, x = (ts.take r).length := ⟨_, rfl⟩
      rw [← hma] at l2 ⊢
      have MA : Hid (ma = min r ts.length) := Lib.hid (by rw [hma, List.length_take])
      have L2 := Lib.hid l2
      have T2 := Lib.hid t2
      have hma16 : ma ≤ 16 := by have := P2.out.few; have := MA.out; omega
      clear l2 t2 bel2 hma P
      go_wp2_with fail
      refine (take_st _ _ v ts 100 (xs.map (·.2)) A2 ma c2 aF aT aU w1 w2 P2.out L2.out.bss (by omega)).mono ?_
      rintro _ w3 ⟨A3, c3, ys, rfl, l3, t3, bel3⟩
      rw [T2.out, takeT_rest P2.out.nd P2.out.few] at l3 t3 ⊢
      have P3 := Lib.hid (P2.out.below bel3)
      obtain ⟨mb, hmb⟩ : ∃ x, x = (ts.drop r).length := ⟨_, rfl⟩
      rw [← hmb] at l3 ⊢
      have MB : Hid (mb = ts.length - r) := Lib.hid (by rw [hmb, List.length_drop])
      have hmb16 : mb ≤ 16 := by have := P2.out.few; have := MB.out; omega
      have L3 := Lib.hid l3
      have T3 := Lib.hid t3
      have L2' := Lib.hid (L2.out.stay (Stay.of_below bel3))
      clear l3 t3 bel3 hmb P2 L2
      go_wp2_with fail
      refine (len_any _ _ v ts w3 P3.out.at_).mono ?_
      rintro _ w3 ⟨rfl, rfl⟩
      obtain ⟨nt, hnt⟩ : ∃ x, x = ts.length := ⟨_, rfl⟩
      rw [← hnt] at MA MB ⊢
      have NT := Lib.hid hnt
      clear hnt
      have hmin : min (r : Int) nt = ma := by have := MA.out; omega
      have hsum : (ma : Int) + mb = nt := by have := MA.out; have := MB.out; omega
      clear hr hr'
      go_wp2_with fail
      refine (len_any _ _ v ts w3 P3.out.at_).mono ?_
      rintro _ w3 ⟨rfl, rfl⟩
      rw [← NT.out]
      have HX : Hid (xs.length = ma) := Lib.hid L2'.out.len.symm
      clear hmin
      go_wp2_with first | (at_builtin; refine wpList_gro (w0 := w3) (base := w1.heap.size) rfl (.tmp 56) (.tmp 57) rfl _ [] rfl (Gro.new w3 _) A2 ma c2 xs rfl L2'.out ma (by simp) (by omega) ?_; intro A4 c4 w4 g4; have G4 := Lib.hid g4; clear g4) | (at_builtin; refine wpList_gro (w0 := w3) (base := w1.heap.size) rfl (.tmp 58) (.tmp 59) rfl _ ([] ++ xs) rfl G4.out A3 mb c3 ys rfl L3.out nt (by have := HX.out; simp; omega) (by omega) ?_; intro A5 c5 w5 g5; have G5 := Lib.hid g5; clear g5)
      have P5 := Lib.hid (P3.out.below G5.out.bel)
      have L5 := Lib.hid (G5.out.lst P3.out.le)
      have L25 := Lib.hid (L2'.out.stay (Stay.of_below G5.out.bel))
      have L35 := Lib.hid (L3.out.stay (Stay.of_below G5.out.bel))
      clear G4 G5 L2' L3 P3
      refine (take_st _ _ v ts 100 [] none 0 0 aF aT aU w1 w5 P5.out Bss.nil (by omega)).mono ?_
      rintro _ w6 ⟨A6, c6, zs, rfl, l6, t6, bel6⟩
      rw [List.map_nil, takeT_100 P5.out.few] at l6 t6 ⊢
      rw [← NT.out] at l6 ⊢
      have P6 := Lib.hid (P5.out.below bel6)
      have L6 := Lib.hid l6
      have T6 := Lib.hid t6
      have L56 := Lib.hid (L5.out.stay (Stay.of_below bel6))
      have L26 := Lib.hid (L25.out.stay (Stay.of_below bel6))
      have L36 := Lib.hid (L35.out.stay (Stay.of_below bel6))
      clear l6 t6 bel6 P5 L5 L25 L35
      go_wp2_with fail
      refine (sameLists_any ((([] : List (Value × List Int)) ++ xs ++ ys).map (·.2)) (zs.map (·.2)) A5 A6 nt nt c5 c6 w6 L56.out.bss L6.out.bss (by omega)).mono ?_
      rintro _ w7 ⟨rfl, bel7⟩
      have hE : ((([] : List (Value × List Int)) ++ xs ++ ys).map (·.2)).map strOfNums = (zs.map (·.2)).map strOfNums := by rw [List.nil_append, List.map_append, List.map_append, T2.out, T3.out, List.take_append_drop, T6.out]
      rw [decide_eq_true hE]
      clear hE
      have P7 := Lib.hid (P6.out.below bel7)
      have L27 := Lib.hid (L26.out.stay (Stay.of_below bel7))
      have L37 := Lib.hid (L36.out.stay (Stay.of_below bel7))
      clear bel7 P6 L26 L36 L56 L6 T6
      go_wp2_with fail
      refine (drop_st _ _ v ts (xs.map (·.2)) A2 ma c2 aF aT aU w1 w7 P7.out (fun W hW => (L27.out.stay hW).bss) (by omega)).mono ?_
      rintro _ w8 ⟨rfl, v8, p8, s8⟩
      rw [T2.out, dropT_take P7.out.nd] at p8 ⊢
      have hmb : (ts.drop r).length = mb := by rw [List.length_drop, ← NT.out, MB.out]
      have HMB := Lib.hid hmb
      rw [hmb, ← NT.out]
      have P8 := Lib.hid p8
      have L38 := Lib.hid (L37.out.stay s8)
      have hsub : (nt : Int) - mb = ma := by omega
      clear p8 s8 P7 L27 L37 hmb
      go_wp2_with fail
      refine (take_st _ _ v8 (ts.drop r) 100 [] none 0 0 aF aT aU w1 w8 P8.out Bss.nil (by omega)).mono ?_
      rintro _ w9 ⟨A9, c9, us, rfl, l9, t9, bel9⟩
      rw [List.map_nil, takeT_100 P8.out.few] at l9 t9 ⊢
      rw [HMB.out] at l9 ⊢
      have P9 := Lib.hid (P8.out.below bel9)
      have L9 := Lib.hid l9
      have T9 := Lib.hid t9
      have L39 := Lib.hid (L38.out.stay (Stay.of_below bel9))
      clear l9 t9 bel9 P8 L38
      go_wp2_with fail
      refine (sameLists_any (us.map (·.2)) (ys.map (·.2)) A9 A3 mb mb c9 c3 w9 L9.out.bss L39.out.bss (by omega)).mono ?_
      rintro _ w10 ⟨rfl, bel10⟩
      have hE : (us.map (·.2)).map strOfNums = (ys.map (·.2)).map strOfNums := by rw [T3.out, T9.out]
      rw [decide_eq_true hE]
      clear hE
      have P10 := Lib.hid (P9.out.below bel10)
      clear bel10 P9
      go_wp2_with fail
      go_ret
      exact ⟨rfl, B1.out.trans ((P10.out.low (Nat.le_refl _)).mono B1.out.size)⟩
end Go.Proofs.YtideopnblhbngaaDoor
