/- What PowersMeet answers. -/
import Derived.Test.YtideopnblhbngaaDoorPAlive
import Derived.Test.YtideopnblhbngaaDoorPowLaw
namespace Go.Proofs.YtideopnblhbngaaDoor
open Go.RowKit Go.Shelf

/-- What stays throughout a law of layer 8. -/
structure St (w0 : World) (v : Value) (vs : List Va) (aS aR aT : Addr) (L : List (Value × List Int)) (W : World) : Prop where
  vals : Vals W v vs
  sen : Sen W aS aR aT
  ins : ∀ p ∈ L, Ins W p.1 p.2
  bel : Below w0.heap.size w0 W
theorem St.go {w0 W W' : World} {v : Value} {vs : List Va} {aS aR aT : Addr} {L : List (Value × List Int)} (h : St w0 v vs aS aR aT L W) (hb : Below W.heap.size W W') : St w0 v vs aS aR aT L W' :=
  ⟨h.vals.below hb, h.sen.below hb, fun p hp => (h.ins p hp).below hb, h.bel.trans (hb.mono h.bel.size)⟩
theorem St.add {w0 W : World} {v u : Value} {vs : List Va} {aS aR aT : Addr} {L : List (Value × List Int)} {xs : List Int} (h : St w0 v vs aS aR aT L W) (hi : Ins W u xs) : St w0 v vs aS aR aT ((u, xs) :: L) W :=
  ⟨h.vals, h.sen, fun p hp => by
    rcases List.mem_cons.1 hp with rfl | hp
    · exact hi
    · exact h.ins p hp, h.bel⟩
theorem St.is {w0 W : World} {v : Value} {vs : List Va} {aS aR aT : Addr} {L : List (Value × List Int)} (h : St w0 v vs aS aR aT L W) (u : Value) (xs : List Int) (hm : (u, xs) ∈ L) : Ins W u xs := h.ins _ hm
theorem Ins.short {W : World} {A : Option Addr} {m c : Nat} {n b : Nat} (h : Ins W (.slice A m c) (chosenL n b)) : m ≤ n := by rw [h.len]; exact chosenL_len n b

set_option maxHeartbeats 8000000 in
set_option maxRecDepth 100000 in
theorem powersMeet_any (vs : List Va) (A : Option Addr) (n c : Nat) (a b : Nat) (ha : a < 18446744073709551616) (hb : b < 18446744073709551616) (aS aR aT : Addr) (w : World) (hv : Vals w (.slice A n c) vs) (hs : Sen w aS aR aT) :
    Calls Tryd.prog 3 #[.slice A n c, .int .u64 (a : Int), .int .u64 (b : Int)] w fun e w' => e = .returned (.bool true) ∧ Below w.heap.size w w' := by
  have HN := Lib.hid hv.len
  have S0 := Lib.hid (show St w (.slice A n c) vs aS aR aT [] w from ⟨hv, hs, fun p hp => by simp at hp, Below.refl _ _⟩)
  have hand := bits_and_u64_nat a b ha hb
  have hxor := u64_xor a ha
  have hat := turned_lt a ha
  have hab : a &&& b < 18446744073709551616 := Nat.lt_of_le_of_lt Nat.and_le_left ha
  clear hv hs
  go_enter Tryd.func3, Tryd.ntmps3
  go_wp2_with fail
  refine (alive_any aS aR aT w S0.out.sen).mono ?_
  rintro _ w1 ⟨rfl, bel1⟩
  have S1 := Lib.hid (S0.out.go bel1)
  clear bel1 S0
  by_cases h7 : 7 < n
  · have h7' : (7 : Int) < n := by omega
    go_wp2_with fail
    go_ret
    exact ⟨rfl, S1.out.bel⟩
  have h7' : ¬ (7 : Int) < n := by omega
  go_wp2_with fail
  refine (check_any vs A n c aS aR aT w1 S1.out.vals S1.out.sen).mono ?_
  rintro _ w2 ⟨rfl, bel2⟩
  have S2 := Lib.hid (S1.out.go bel2)
  clear bel2 S1
  by_cases hval : validB vs = true
  rotate_left
  · have hck : checkV vs aS = errV aS := by unfold checkV; rw [if_neg hval]
    rw [hck]
    clear hck
    go_wp2_with fail
    go_ret
    exact ⟨rfl, S2.out.bel⟩
  have hck : checkV vs aS = .nilIface := by unfold checkV; rw [if_pos hval]
  rw [hck]
  clear hck
  go_wp2_with fail
  refine (chosen_any A n c a ha w2 (by omega)).mono ?_
  rintro _ w3 ⟨A1, m1, c1, rfl, I1, bel3⟩
  have S3 := Lib.hid ((S2.out.go bel3).add I1)
  have M1 := Lib.hid I1.short
  clear bel3 S2 I1
  go_wp2_with fail
  refine (chosen_any A n c b hb w3 (by omega)).mono ?_
  rintro _ w4 ⟨A2, m2, c2, rfl, I2, bel4⟩
  have S4 := Lib.hid ((S3.out.go bel4).add I2)
  have M2 := Lib.hid I2.short
  clear bel4 S3 I2
  go_wp2_with fail
  refine (chosen_any A n c (a &&& b) hab w4 (by omega)).mono ?_
  rintro _ w5 ⟨A3, m3, c3, rfl, I3, bel5⟩
  have S5 := Lib.hid ((S4.out.go bel5).add I3)
  have M3 := Lib.hid I3.short
  clear bel5 S4 I3 hand
  go_wp2_with fail
  refine (enough_any vs (chosenL n a) A A1 n c m1 c1 aS aR aT w5 S5.out.vals (S5.out.is _ _ (by simp)) S5.out.sen (by omega) (by have := M1.out; omega)).mono ?_
  rintro _ w6 ⟨rfl, bel6⟩
  have S6 := Lib.hid (S5.out.go bel6)
  clear bel6 S5
  cases he1 : enoughB vs (chosenL n a) with
  | false =>
    clear he1
    go_wp2_with fail
    refine (few_any vs (chosenL n a) A A1 n c m1 c1 aS aR aT w6 S6.out.vals (S6.out.is _ _ (by simp)) S6.out.sen (by omega) (by have := M1.out; omega)).mono ?_
    rintro _ w10 ⟨rfl, bel10⟩
    have S10 := Lib.hid (S6.out.go bel10)
    clear bel10 S6
    cases hf : fewB vs (chosenL n a) with
    | false =>
      clear hf
      go_wp2_with fail
      refine (psum_any vs (chosenL n a) A A1 n c m1 c1 aS aR aT w10 S10.out.vals (S10.out.is _ _ (by simp)) S10.out.sen (by omega) (by have := M1.out; omega)).mono ?_
      rintro _ w20 ⟨rfl, bel20⟩
      have S20 := Lib.hid (S10.out.go bel20)
      rw [sumV_good aS aR aT (by rw [HN.out]; exact chosen_good hval a), show (powAt vs (chosenL n a)).sum = pset vs a by rw [HN.out]; exact chosen_sum vs a]
      clear bel20 S10
      go_wp2_with fail
      refine (chosen_any A n c (turned a) hat w20 (by omega)).mono ?_
      rintro _ w21 ⟨A5, m5, c5, rfl, I5, bel21⟩
      have S21 := Lib.hid ((S20.out.go bel21).add I5)
      have M5 := Lib.hid I5.short
      clear bel21 S20 I5
      go_wp2_with fail
      refine (psum_any vs (chosenL n (turned a)) A A5 n c m5 c5 aS aR aT w21 S21.out.vals (S21.out.is _ _ (by simp)) S21.out.sen (by omega) (by have := M5.out; omega)).mono ?_
      rintro _ w22 ⟨rfl, bel22⟩
      have S22 := Lib.hid (S21.out.go bel22)
      rw [sumV_good aS aR aT (by rw [HN.out]; exact chosen_good hval (turned a)), show (powAt vs (chosenL n (turned a))).sum = pset vs (turned a) by rw [HN.out]; exact chosen_sum vs (turned a)]
      clear bel22 S21
      have h1 := pset_turned hval a
      have h2 := pset_range hval a
      have h3 := pset_range hval (turned a)
      have h4 := total_range vs
      obtain ⟨PX, hPX⟩ : ∃ p, p = pset vs a := ⟨_, rfl⟩
      obtain ⟨PY, hPY⟩ : ∃ p, p = pset vs (turned a) := ⟨_, rfl⟩
      rw [← hPX] at h1 h2 ⊢
      rw [← hPY] at h1 h3 ⊢
      clear hPX hPY
      go_wp2_with fail
      refine (total_any vs A n c aS aR aT w22 S22.out.vals S22.out.sen (by omega)).mono ?_
      rintro _ w23 ⟨rfl, bel23⟩
      have S23 := Lib.hid (S22.out.go bel23)
      clear bel23 S22
      obtain ⟨T, hT⟩ : ∃ t, t = total vs := ⟨_, rfl⟩
      rw [← hT] at h1 h2 h3 h4 ⊢
      clear hT
      subst h1
      go_wp2_with fail
      go_ret
      exact ⟨by simp, S23.out.bel⟩
    | true =>
      have hen : enoughB vs (chosenL n (turned a)) = true := by rw [HN.out] at hf ⊢; exact meet_rest hval a hf
      clear hf
      go_wp2_with fail
      refine (chosen_any A n c (turned a) hat w10 (by omega)).mono ?_
      rintro _ w11 ⟨A4, m4, c4, rfl, I4, bel11⟩
      have S11 := Lib.hid ((S10.out.go bel11).add I4)
      have M4 := Lib.hid I4.short
      clear bel11 S10 I4
      go_wp2_with fail
      refine (enough_any vs (chosenL n (turned a)) A A4 n c m4 c4 aS aR aT w11 S11.out.vals (S11.out.is _ _ (by simp)) S11.out.sen (by omega) (by have := M4.out; omega)).mono ?_
      rintro _ w12 ⟨rfl, bel12⟩
      rw [hen]
      have S12 := Lib.hid (S11.out.go bel12)
      clear bel12 S11 hen
      go_wp2_with fail
      refine (psum_any vs (chosenL n a) A A1 n c m1 c1 aS aR aT w12 S12.out.vals (S12.out.is _ _ (by simp)) S12.out.sen (by omega) (by have := M1.out; omega)).mono ?_
      rintro _ w20 ⟨rfl, bel20⟩
      have S20 := Lib.hid (S12.out.go bel20)
      rw [sumV_good aS aR aT (by rw [HN.out]; exact chosen_good hval a), show (powAt vs (chosenL n a)).sum = pset vs a by rw [HN.out]; exact chosen_sum vs a]
      clear bel20 S12
      go_wp2_with fail
      refine (chosen_any A n c (turned a) hat w20 (by omega)).mono ?_
      rintro _ w21 ⟨A5, m5, c5, rfl, I5, bel21⟩
      have S21 := Lib.hid ((S20.out.go bel21).add I5)
      have M5 := Lib.hid I5.short
      clear bel21 S20 I5
      go_wp2_with fail
      refine (psum_any vs (chosenL n (turned a)) A A5 n c m5 c5 aS aR aT w21 S21.out.vals (S21.out.is _ _ (by simp)) S21.out.sen (by omega) (by have := M5.out; omega)).mono ?_
      rintro _ w22 ⟨rfl, bel22⟩
      have S22 := Lib.hid (S21.out.go bel22)
      rw [sumV_good aS aR aT (by rw [HN.out]; exact chosen_good hval (turned a)), show (powAt vs (chosenL n (turned a))).sum = pset vs (turned a) by rw [HN.out]; exact chosen_sum vs (turned a)]
      clear bel22 S21
      have h1 := pset_turned hval a
      have h2 := pset_range hval a
      have h3 := pset_range hval (turned a)
      have h4 := total_range vs
      obtain ⟨PX, hPX⟩ : ∃ p, p = pset vs a := ⟨_, rfl⟩
      obtain ⟨PY, hPY⟩ : ∃ p, p = pset vs (turned a) := ⟨_, rfl⟩
      rw [← hPX] at h1 h2 ⊢
      rw [← hPY] at h1 h3 ⊢
      clear hPX hPY
      go_wp2_with fail
      refine (total_any vs A n c aS aR aT w22 S22.out.vals S22.out.sen (by omega)).mono ?_
      rintro _ w23 ⟨rfl, bel23⟩
      have S23 := Lib.hid (S22.out.go bel23)
      clear bel23 S22
      obtain ⟨T, hT⟩ : ∃ t, t = total vs := ⟨_, rfl⟩
      rw [← hT] at h1 h2 h3 h4 ⊢
      clear hT
      subst h1
      go_wp2_with fail
      go_ret
      exact ⟨by simp, S23.out.bel⟩
  | true =>
    go_wp2_with fail
    refine (enough_any vs (chosenL n b) A A2 n c m2 c2 aS aR aT w6 S6.out.vals (S6.out.is _ _ (by simp)) S6.out.sen (by omega) (by have := M2.out; omega)).mono ?_
    rintro _ w7 ⟨rfl, bel7⟩
    have S7 := Lib.hid (S6.out.go bel7)
    clear bel7 S6
    cases he2 : enoughB vs (chosenL n b) with
    | false =>
      clear he1 he2
      go_wp2_with fail
      refine (few_any vs (chosenL n a) A A1 n c m1 c1 aS aR aT w7 S7.out.vals (S7.out.is _ _ (by simp)) S7.out.sen (by omega) (by have := M1.out; omega)).mono ?_
      rintro _ w10 ⟨rfl, bel10⟩
      have S10 := Lib.hid (S7.out.go bel10)
      clear bel10 S7
      cases hf : fewB vs (chosenL n a) with
      | false =>
        clear hf
        go_wp2_with fail
        refine (psum_any vs (chosenL n a) A A1 n c m1 c1 aS aR aT w10 S10.out.vals (S10.out.is _ _ (by simp)) S10.out.sen (by omega) (by have := M1.out; omega)).mono ?_
        rintro _ w20 ⟨rfl, bel20⟩
        have S20 := Lib.hid (S10.out.go bel20)
        rw [sumV_good aS aR aT (by rw [HN.out]; exact chosen_good hval a), show (powAt vs (chosenL n a)).sum = pset vs a by rw [HN.out]; exact chosen_sum vs a]
        clear bel20 S10
        go_wp2_with fail
        refine (chosen_any A n c (turned a) hat w20 (by omega)).mono ?_
        rintro _ w21 ⟨A5, m5, c5, rfl, I5, bel21⟩
        have S21 := Lib.hid ((S20.out.go bel21).add I5)
        have M5 := Lib.hid I5.short
        clear bel21 S20 I5
        go_wp2_with fail
        refine (psum_any vs (chosenL n (turned a)) A A5 n c m5 c5 aS aR aT w21 S21.out.vals (S21.out.is _ _ (by simp)) S21.out.sen (by omega) (by have := M5.out; omega)).mono ?_
        rintro _ w22 ⟨rfl, bel22⟩
        have S22 := Lib.hid (S21.out.go bel22)
        rw [sumV_good aS aR aT (by rw [HN.out]; exact chosen_good hval (turned a)), show (powAt vs (chosenL n (turned a))).sum = pset vs (turned a) by rw [HN.out]; exact chosen_sum vs (turned a)]
        clear bel22 S21
        have h1 := pset_turned hval a
        have h2 := pset_range hval a
        have h3 := pset_range hval (turned a)
        have h4 := total_range vs
        obtain ⟨PX, hPX⟩ : ∃ p, p = pset vs a := ⟨_, rfl⟩
        obtain ⟨PY, hPY⟩ : ∃ p, p = pset vs (turned a) := ⟨_, rfl⟩
        rw [← hPX] at h1 h2 ⊢
        rw [← hPY] at h1 h3 ⊢
        clear hPX hPY
        go_wp2_with fail
        refine (total_any vs A n c aS aR aT w22 S22.out.vals S22.out.sen (by omega)).mono ?_
        rintro _ w23 ⟨rfl, bel23⟩
        have S23 := Lib.hid (S22.out.go bel23)
        clear bel23 S22
        obtain ⟨T, hT⟩ : ∃ t, t = total vs := ⟨_, rfl⟩
        rw [← hT] at h1 h2 h3 h4 ⊢
        clear hT
        subst h1
        go_wp2_with fail
        go_ret
        exact ⟨by simp, S23.out.bel⟩
      | true =>
        have hen : enoughB vs (chosenL n (turned a)) = true := by rw [HN.out] at hf ⊢; exact meet_rest hval a hf
        clear hf
        go_wp2_with fail
        refine (chosen_any A n c (turned a) hat w10 (by omega)).mono ?_
        rintro _ w11 ⟨A4, m4, c4, rfl, I4, bel11⟩
        have S11 := Lib.hid ((S10.out.go bel11).add I4)
        have M4 := Lib.hid I4.short
        clear bel11 S10 I4
        go_wp2_with fail
        refine (enough_any vs (chosenL n (turned a)) A A4 n c m4 c4 aS aR aT w11 S11.out.vals (S11.out.is _ _ (by simp)) S11.out.sen (by omega) (by have := M4.out; omega)).mono ?_
        rintro _ w12 ⟨rfl, bel12⟩
        rw [hen]
        have S12 := Lib.hid (S11.out.go bel12)
        clear bel12 S11 hen
        go_wp2_with fail
        refine (psum_any vs (chosenL n a) A A1 n c m1 c1 aS aR aT w12 S12.out.vals (S12.out.is _ _ (by simp)) S12.out.sen (by omega) (by have := M1.out; omega)).mono ?_
        rintro _ w20 ⟨rfl, bel20⟩
        have S20 := Lib.hid (S12.out.go bel20)
        rw [sumV_good aS aR aT (by rw [HN.out]; exact chosen_good hval a), show (powAt vs (chosenL n a)).sum = pset vs a by rw [HN.out]; exact chosen_sum vs a]
        clear bel20 S12
        go_wp2_with fail
        refine (chosen_any A n c (turned a) hat w20 (by omega)).mono ?_
        rintro _ w21 ⟨A5, m5, c5, rfl, I5, bel21⟩
        have S21 := Lib.hid ((S20.out.go bel21).add I5)
        have M5 := Lib.hid I5.short
        clear bel21 S20 I5
        go_wp2_with fail
        refine (psum_any vs (chosenL n (turned a)) A A5 n c m5 c5 aS aR aT w21 S21.out.vals (S21.out.is _ _ (by simp)) S21.out.sen (by omega) (by have := M5.out; omega)).mono ?_
        rintro _ w22 ⟨rfl, bel22⟩
        have S22 := Lib.hid (S21.out.go bel22)
        rw [sumV_good aS aR aT (by rw [HN.out]; exact chosen_good hval (turned a)), show (powAt vs (chosenL n (turned a))).sum = pset vs (turned a) by rw [HN.out]; exact chosen_sum vs (turned a)]
        clear bel22 S21
        have h1 := pset_turned hval a
        have h2 := pset_range hval a
        have h3 := pset_range hval (turned a)
        have h4 := total_range vs
        obtain ⟨PX, hPX⟩ : ∃ p, p = pset vs a := ⟨_, rfl⟩
        obtain ⟨PY, hPY⟩ : ∃ p, p = pset vs (turned a) := ⟨_, rfl⟩
        rw [← hPX] at h1 h2 ⊢
        rw [← hPY] at h1 h3 ⊢
        clear hPX hPY
        go_wp2_with fail
        refine (total_any vs A n c aS aR aT w22 S22.out.vals S22.out.sen (by omega)).mono ?_
        rintro _ w23 ⟨rfl, bel23⟩
        have S23 := Lib.hid (S22.out.go bel23)
        clear bel23 S22
        obtain ⟨T, hT⟩ : ∃ t, t = total vs := ⟨_, rfl⟩
        rw [← hT] at h1 h2 h3 h4 ⊢
        clear hT
        subst h1
        go_wp2_with fail
        go_ret
        exact ⟨by simp, S23.out.bel⟩
    | true =>
      have hno : fewB vs (chosenL n (a &&& b)) = false := by rw [HN.out] at he1 he2 ⊢; exact meet_no hval a b he1 he2
      clear he1 he2
      go_wp2_with fail
      refine (few_any vs (chosenL n (a &&& b)) A A3 n c m3 c3 aS aR aT w7 S7.out.vals (S7.out.is _ _ (by simp)) S7.out.sen (by omega) (by have := M3.out; omega)).mono ?_
      rintro _ w8 ⟨rfl, bel8⟩
      rw [hno]
      have S8 := Lib.hid (S7.out.go bel8)
      clear bel8 S7 hno
      go_wp2_with fail
      refine (few_any vs (chosenL n a) A A1 n c m1 c1 aS aR aT w8 S8.out.vals (S8.out.is _ _ (by simp)) S8.out.sen (by omega) (by have := M1.out; omega)).mono ?_
      rintro _ w10 ⟨rfl, bel10⟩
      have S10 := Lib.hid (S8.out.go bel10)
      clear bel10 S8
      cases hf : fewB vs (chosenL n a) with
      | false =>
        clear hf
        go_wp2_with fail
        refine (psum_any vs (chosenL n a) A A1 n c m1 c1 aS aR aT w10 S10.out.vals (S10.out.is _ _ (by simp)) S10.out.sen (by omega) (by have := M1.out; omega)).mono ?_
        rintro _ w20 ⟨rfl, bel20⟩
        have S20 := Lib.hid (S10.out.go bel20)
        rw [sumV_good aS aR aT (by rw [HN.out]; exact chosen_good hval a), show (powAt vs (chosenL n a)).sum = pset vs a by rw [HN.out]; exact chosen_sum vs a]
        clear bel20 S10
        go_wp2_with fail
        refine (chosen_any A n c (turned a) hat w20 (by omega)).mono ?_
        rintro _ w21 ⟨A5, m5, c5, rfl, I5, bel21⟩
        have S21 := Lib.hid ((S20.out.go bel21).add I5)
        have M5 := Lib.hid I5.short
        clear bel21 S20 I5
        go_wp2_with fail
        refine (psum_any vs (chosenL n (turned a)) A A5 n c m5 c5 aS aR aT w21 S21.out.vals (S21.out.is _ _ (by simp)) S21.out.sen (by omega) (by have := M5.out; omega)).mono ?_
        rintro _ w22 ⟨rfl, bel22⟩
        have S22 := Lib.hid (S21.out.go bel22)
        rw [sumV_good aS aR aT (by rw [HN.out]; exact chosen_good hval (turned a)), show (powAt vs (chosenL n (turned a))).sum = pset vs (turned a) by rw [HN.out]; exact chosen_sum vs (turned a)]
        clear bel22 S21
        have h1 := pset_turned hval a
        have h2 := pset_range hval a
        have h3 := pset_range hval (turned a)
        have h4 := total_range vs
        obtain ⟨PX, hPX⟩ : ∃ p, p = pset vs a := ⟨_, rfl⟩
        obtain ⟨PY, hPY⟩ : ∃ p, p = pset vs (turned a) := ⟨_, rfl⟩
        rw [← hPX] at h1 h2 ⊢
        rw [← hPY] at h1 h3 ⊢
        clear hPX hPY
        go_wp2_with fail
        refine (total_any vs A n c aS aR aT w22 S22.out.vals S22.out.sen (by omega)).mono ?_
        rintro _ w23 ⟨rfl, bel23⟩
        have S23 := Lib.hid (S22.out.go bel23)
        clear bel23 S22
        obtain ⟨T, hT⟩ : ∃ t, t = total vs := ⟨_, rfl⟩
        rw [← hT] at h1 h2 h3 h4 ⊢
        clear hT
        subst h1
        go_wp2_with fail
        go_ret
        exact ⟨by simp, S23.out.bel⟩
      | true =>
        have hen : enoughB vs (chosenL n (turned a)) = true := by rw [HN.out] at hf ⊢; exact meet_rest hval a hf
        clear hf
        go_wp2_with fail
        refine (chosen_any A n c (turned a) hat w10 (by omega)).mono ?_
        rintro _ w11 ⟨A4, m4, c4, rfl, I4, bel11⟩
        have S11 := Lib.hid ((S10.out.go bel11).add I4)
        have M4 := Lib.hid I4.short
        clear bel11 S10 I4
        go_wp2_with fail
        refine (enough_any vs (chosenL n (turned a)) A A4 n c m4 c4 aS aR aT w11 S11.out.vals (S11.out.is _ _ (by simp)) S11.out.sen (by omega) (by have := M4.out; omega)).mono ?_
        rintro _ w12 ⟨rfl, bel12⟩
        rw [hen]
        have S12 := Lib.hid (S11.out.go bel12)
        clear bel12 S11 hen
        go_wp2_with fail
        refine (psum_any vs (chosenL n a) A A1 n c m1 c1 aS aR aT w12 S12.out.vals (S12.out.is _ _ (by simp)) S12.out.sen (by omega) (by have := M1.out; omega)).mono ?_
        rintro _ w20 ⟨rfl, bel20⟩
        have S20 := Lib.hid (S12.out.go bel20)
        rw [sumV_good aS aR aT (by rw [HN.out]; exact chosen_good hval a), show (powAt vs (chosenL n a)).sum = pset vs a by rw [HN.out]; exact chosen_sum vs a]
        clear bel20 S12
        go_wp2_with fail
        refine (chosen_any A n c (turned a) hat w20 (by omega)).mono ?_
        rintro _ w21 ⟨A5, m5, c5, rfl, I5, bel21⟩
        have S21 := Lib.hid ((S20.out.go bel21).add I5)
        have M5 := Lib.hid I5.short
        clear bel21 S20 I5
        go_wp2_with fail
        refine (psum_any vs (chosenL n (turned a)) A A5 n c m5 c5 aS aR aT w21 S21.out.vals (S21.out.is _ _ (by simp)) S21.out.sen (by omega) (by have := M5.out; omega)).mono ?_
        rintro _ w22 ⟨rfl, bel22⟩
        have S22 := Lib.hid (S21.out.go bel22)
        rw [sumV_good aS aR aT (by rw [HN.out]; exact chosen_good hval (turned a)), show (powAt vs (chosenL n (turned a))).sum = pset vs (turned a) by rw [HN.out]; exact chosen_sum vs (turned a)]
        clear bel22 S21
        have h1 := pset_turned hval a
        have h2 := pset_range hval a
        have h3 := pset_range hval (turned a)
        have h4 := total_range vs
        obtain ⟨PX, hPX⟩ : ∃ p, p = pset vs a := ⟨_, rfl⟩
        obtain ⟨PY, hPY⟩ : ∃ p, p = pset vs (turned a) := ⟨_, rfl⟩
        rw [← hPX] at h1 h2 ⊢
        rw [← hPY] at h1 h3 ⊢
        clear hPX hPY
        go_wp2_with fail
        refine (total_any vs A n c aS aR aT w22 S22.out.vals S22.out.sen (by omega)).mono ?_
        rintro _ w23 ⟨rfl, bel23⟩
        have S23 := Lib.hid (S22.out.go bel23)
        clear bel23 S22
        obtain ⟨T, hT⟩ : ∃ t, t = total vs := ⟨_, rfl⟩
        rw [← hT] at h1 h2 h3 h4 ⊢
        clear hT
        subst h1
        go_wp2_with fail
        go_ret
        exact ⟨by simp, S23.out.bel⟩
end Go.Proofs.YtideopnblhbngaaDoor
