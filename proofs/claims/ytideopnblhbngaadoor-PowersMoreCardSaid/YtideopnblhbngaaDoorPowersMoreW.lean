/- What PowersMore answers. -/
import Derived.Test.YtideopnblhbngaaDoorPowersMeetW
import Derived.Test.YtideopnblhbngaaDoorPowMore
namespace Go.Proofs.YtideopnblhbngaaDoor
open Go.RowKit Go.Shelf

theorem u64_or (a b : Nat) (ha : a < 18446744073709551616) (hb : b < 18446744073709551616) : Go.bits .or .u64 (a : Int) (b : Int) = ((a ||| b : Nat) : Int) := bits_or_u64_nat a b ha hb

set_option maxHeartbeats 8000000 in
set_option maxRecDepth 100000 in
theorem powersMore_any (vs : List Va) (A : Option Addr) (n c : Nat) (a : Nat) (ha : a < 18446744073709551616) (z : Int) (hwf : (Lit.int .i64 z).wf = true) (aS aR aT : Addr) (w : World) (hv : Vals w (.slice A n c) vs) (hs : Sen w aS aR aT) :
    Calls Tryd.prog 4 #[.slice A n c, .int .u64 (a : Int), .int .i64 z] w fun e w' => e = .returned (.bool true) ∧ Below w.heap.size w w' := by
  have HN := Lib.hid hv.len
  have S0 := Lib.hid (show St w (.slice A n c) vs aS aR aT [] w from ⟨hv, hs, fun p hp => by simp at hp, Below.refl _ _⟩)
  clear hv hs
  go_enter Tryd.func4, Tryd.ntmps4
  go_wp2_with fail
  refine (alive_any aS aR aT w S0.out.sen).mono ?_
  rintro _ w1 ⟨rfl, bel1⟩
  have S1 := Lib.hid (S0.out.go bel1)
  clear bel1 S0
  by_cases h7 : 7 < n
  · have h7' : (7 : Int) < n := by omega
    go_wp2_with fail
    go_ret
    exact ⟨rfl, S1.out.bel⟩
  have h7' : ¬ (7 : Int) < n := by omega
  go_wp2_with fail
  refine (check_any vs A n c aS aR aT w1 S1.out.vals S1.out.sen).mono ?_
  rintro _ w2 ⟨rfl, bel2⟩
  have S2 := Lib.hid (S1.out.go bel2)
  clear bel2 S1
  by_cases hval : validB vs = true
  rotate_left
  · have hck : checkV vs aS = errV aS := by unfold checkV; rw [if_neg hval]
    rw [hck]
    clear hck
    go_wp2_with fail
    go_ret
    exact ⟨rfl, S2.out.bel⟩
  have hck : checkV vs aS = .nilIface := by unfold checkV; rw [if_pos hval]
  rw [hck]
  clear hck
  go_wp2_with fail
  refine (chosen_any A n c a ha w2 (by omega)).mono ?_
  rintro _ w3 ⟨A1, m1, c1, rfl, I1, bel3⟩
  have S3 := Lib.hid ((S2.out.go bel3).add I1)
  have M1 := Lib.hid I1.short
  have ML := Lib.hid I1.len
  clear bel3 S2 I1
  have hown0 : (w3.alloc (.cells #[] 3)).ownsRow w3.heap.size 3 1 (.slice (some ⟨w3.heap.size, 0, none⟩) 0 0) 0 (i64s ((chosenL n a).reverse.take 0)) := own_empty w3 #[] rfl (Nat.le_refl _)
  have O0 := Lib.hid hown0
  have B0 : Hid (Below w3.heap.size w3 (w3.alloc (.cells #[] 3))) := Lib.hid ((Below.refl _ _).alloc (Nat.le_refl _) _)
  have hm1 : m1 ≤ 7 := by have := M1.out; omega
  clear hown0
  go_wp2_with fail
  go_loopw [8, 9] (fun s k wr => ∃ (i c' : Nat) (A' : Option Addr), i ≤ m1 ∧ s = .slice A' i c' ∧ k = .int .i64 ((m1 : Int) - 1 - i) ∧ Hid (wr.ownsRow w3.heap.size 3 1 (.slice A' i c') i (i64s ((chosenL n a).reverse.take i))) ∧ Hid (Below w3.heap.size w3 wr))
    (fun _ k _ => (intOf k + 1).toNat)
  case atStart => exact ⟨0, 0, _, by omega, rfl, by simp, O0, B0⟩
  case round =>
    clear O0 B0
    obtain ⟨i, c', A', hi, rfl, rfl, hown, hbel⟩ := hrel
    by_cases hlt : i < m1
    · obtain ⟨j, hj⟩ : ∃ j : Nat, (m1 : Int) - 1 - i = j := ⟨m1 - 1 - i, by omega⟩
      have hjm : j < m1 := by omega
      rw [hj]
      obtain ⟨b, off, rfl, hb, hr⟩ := ((S3.out.go hbel.out).is (.slice A1 m1 c1) (chosenL n a) (by simp)).el j hjm
      have hnx := reverse_take (xs := chosenL n a) (k := i) (by rw [← ML.out]; exact hlt)
      rw [show (chosenL n a).length - 1 - i = j by rw [← ML.out]; omega] at hnx
      obtain ⟨X, hX⟩ : ∃ X, X = (chosenL n a).getD j 0 := ⟨_, rfl⟩
      rw [← hX] at hr hnx
      have HNX := Lib.hid hnx
      clear hnx hX hb
      have hj0 : (0 : Int) ≤ j := by omega
      have hjl : (j : Int) < m1 := by omega
      go_wp2_with (at_builtin; refine app1 (w0 := w3) w3.heap.size rfl (.tmp 36) (.tmp 41) 28 3 (.int .i64 0) 1 8 rfl Tryd.underlying28 Tryd.info3 rfl (by omega) (by omega) _ i (i64s ((chosenL n a).reverse.take i)) rfl 1 [.int .i64 X] rfl rfl (by simp [Value.oneCell']) hown.out hbel.out (by omega) hbel.out.size ?_; intro v5 w5 ap5; obtain ⟨g5, cap5, rfl⟩ := ownsRow_succ ap5.own; have O5 := Lib.hid ap5.own; have B5 := Lib.hid ap5.below; clear ap5)
      go_roundw
      case rel => exact ⟨i + 1, _, _, by omega, rfl, by go_num, Lib.hid (by rw [HNX.out]; have := O5.out; simpa [i64s] using this), B5⟩
      case measure => simp [intOf]
    · obtain rfl : i = m1 := by omega
      have hlt0 : ¬ (0 : Int) ≤ (i : Int) - 1 - i := by omega
      have hrev : (chosenL n a).reverse.take i = (chosenL n a).reverse := List.take_of_length_le (by rw [List.length_reverse, ← ML.out]; exact Nat.le_refl _)
      have S4 := Lib.hid ((S3.out.go hbel.out).add (Ins.of_own (xs := (chosenL n a).reverse) (by have := hown.out; rwa [hrev] at this)))
      clear hrev hown hbel
      have hgd : goodW vs (chosenL n a) = true := by rw [HN.out]; exact chosen_good hval a
      have hsum : (powAt vs (chosenL n a).reverse).sum = (powAt vs (chosenL n a)).sum := powAt_reverse _ _
      have herev : enoughB vs (chosenL n a).reverse = enoughB vs (chosenL n a) := enough_reverse hgd
      go_wp2_with fail
      refine (psum_any vs (chosenL n a) A A1 n c i c1 aS aR aT _ S4.out.vals (S4.out.is (.slice A1 i c1) _ (by simp)) S4.out.sen (by omega) (by omega)).mono ?_
      rintro _ w5 ⟨rfl, bel5⟩
      have S5 := Lib.hid (S4.out.go bel5)
      rw [sumV_good aS aR aT hgd]
      clear bel5 S4
      go_wp2_with fail
      refine (psum_any vs (chosenL n a).reverse A A' n c i c' aS aR aT w5 S5.out.vals (S5.out.is (.slice A' i c') _ (by simp)) S5.out.sen (by omega) (by omega)).mono ?_
      rintro _ w6 ⟨rfl, bel6⟩
      have S6 := Lib.hid (S5.out.go bel6)
      rw [sumV_good aS aR aT (goodW_reverse hgd), hsum]
      clear bel6 S5 hsum
      obtain ⟨P0, hP0⟩ : ∃ p, p = (powAt vs (chosenL n a)).sum := ⟨_, rfl⟩
      rw [← hP0]
      clear hP0
      go_wp2_with fail
      refine (enough_any vs (chosenL n a) A A1 n c i c1 aS aR aT w6 S6.out.vals (S6.out.is (.slice A1 i c1) _ (by simp)) S6.out.sen (by omega) (by omega)).mono ?_
      rintro _ w7 ⟨rfl, bel7⟩
      have S7 := Lib.hid (S6.out.go bel7)
      clear bel7 S6
      go_wp2_with fail
      refine (enough_any vs (chosenL n a).reverse A A' n c i c' aS aR aT w7 S7.out.vals (S7.out.is (.slice A' i c') _ (by simp)) S7.out.sen (by omega) (by omega)).mono ?_
      rintro _ w8 ⟨rfl, bel8⟩
      have S8 := Lib.hid (S7.out.go bel8)
      rw [herev]
      clear bel8 S7 herev
      obtain ⟨E, hE⟩ : ∃ p, p = enoughB vs (chosenL n a) := ⟨_, rfl⟩
      rw [← hE]
      have hEE : (E != E) = false := by simp
      have hn0 : 0 < n := by have := valid_len hval; have := HN.out; omega
      obtain ⟨r, hr, hrn⟩ : ∃ r : Nat, (IntKind.u64.wrap z).tmod (n : Int) = r ∧ r < 7 := by
        have h0 : 0 ≤ IntKind.u64.wrap z := by rw [IntKind.wrap_u64]; omega
        rw [Int.tmod_eq_emod_of_nonneg h0]
        have h1 := Int.emod_nonneg (IntKind.u64.wrap z) (show (n : Int) ≠ 0 by omega)
        have h2 := Int.emod_lt_of_pos (IntKind.u64.wrap z) (show (0 : Int) < n by omega)
        exact ⟨((IntKind.u64.wrap z) % n).toNat, by omega, by omega⟩
      obtain ⟨p, hp, hp64⟩ : ∃ p : Nat, IntKind.u64.wrap (2 ^ r) = (p : Int) ∧ p < 18446744073709551616 := by
        have h0 : 2 ^ r < 2 ^ 7 := Nat.pow_lt_pow_right (by decide) hrn
        have hq : (2 : Int) ^ r = ((2 ^ r : Nat) : Int) := by norm_cast
        generalize (2 ^ r : Nat) = q at hq h0
        refine ⟨q, ?_, by omega⟩
        rw [hq, IntKind.wrap_u64]
        omega
      have hor := u64_or a p ha hp64
      have hap : a ||| p < 18446744073709551616 := Nat.or_lt_two_pow (n := 64) ha hp64
      go_wp2_with fail
      refine (chosen_any A n c (a ||| p) hap w8 (by omega)).mono ?_
      rintro _ w9 ⟨A4, m4, c4, rfl, I4, bel9⟩
      have S9 := Lib.hid ((S8.out.go bel9).add I4)
      have M4 := Lib.hid I4.short
      clear bel9 S8 I4 hor hp hEE hE
      go_wp2_with fail
      refine (enough_any vs (chosenL n a) A A1 n c i c1 aS aR aT w9 S9.out.vals (S9.out.is (.slice A1 i c1) _ (by simp)) S9.out.sen (by omega) (by omega)).mono ?_
      rintro _ w10 ⟨rfl, bel10⟩
      have S10 := Lib.hid (S9.out.go bel10)
      clear bel10 S9
      cases he1 : enoughB vs (chosenL n a) with
      | false =>
        clear he1
        go_wp2_with fail
        refine (few_any vs (chosenL n (a ||| p)) A A4 n c m4 c4 aS aR aT w10 S10.out.vals (S10.out.is (.slice A4 m4 c4) _ (by simp)) S10.out.sen (by omega) (by have := M4.out; omega)).mono ?_
        rintro _ w12 ⟨rfl, bel12⟩
        have S12 := Lib.hid (S10.out.go bel12)
        clear bel12 S10
        cases hf : fewB vs (chosenL n (a ||| p)) with
        | false =>
          clear hf
          go_wp2_with fail
          refine (chosen_any A n c 127 (by decide) w12 (by omega)).mono ?_
          rintro _ w20 ⟨A5, m5, c5, rfl, I5, bel20⟩
          have S20 := Lib.hid ((S12.out.go bel20).add I5)
          have M5 := Lib.hid I5.short
          clear bel20 S12 I5
          go_wp2_with fail
          refine (enough_any vs (chosenL n 127) A A5 n c m5 c5 aS aR aT w20 S20.out.vals (S20.out.is _ _ (by simp)) S20.out.sen (by omega) (by have := M5.out; omega)).mono ?_
          rintro _ w21 ⟨rfl, bel21⟩
          rw [show enoughB vs (chosenL n 127) = true by rw [HN.out]; exact all_enough hval]
          have S21 := Lib.hid (S20.out.go bel21)
          clear bel21 S20
          go_wp2_with fail
          refine (enough_any vs [] A none n c 0 0 aS aR aT w21 S21.out.vals Ins.nil S21.out.sen (by omega) (by omega)).mono ?_
          rintro _ w22 ⟨rfl, bel22⟩
          rw [none_enough hval]
          have S22 := Lib.hid (S21.out.go bel22)
          clear bel22 S21
          go_wp2_with fail
          refine (few_any vs [] A none n c 0 0 aS aR aT w22 S22.out.vals Ins.nil S22.out.sen (by omega) (by omega)).mono ?_
          rintro _ w23 ⟨rfl, bel23⟩
          rw [none_few hval]
          have S23 := Lib.hid (S22.out.go bel23)
          clear bel23 S22
          go_wp2_with fail
          go_ret
          exact ⟨rfl, S23.out.bel⟩
        | true =>
          have hfw : fewB vs (chosenL n a) = true := by rw [HN.out] at hf ⊢; exact more_few hval a p hf
          clear hf
          go_wp2_with fail
          refine (few_any vs (chosenL n a) A A1 n c i c1 aS aR aT w12 S12.out.vals (S12.out.is (.slice A1 i c1) _ (by simp)) S12.out.sen (by omega) (by omega)).mono ?_
          rintro _ w13 ⟨rfl, bel13⟩
          rw [hfw]
          have S13 := Lib.hid (S12.out.go bel13)
          clear bel13 S12 hfw
          go_wp2_with fail
          refine (chosen_any A n c 127 (by decide) w13 (by omega)).mono ?_
          rintro _ w20 ⟨A5, m5, c5, rfl, I5, bel20⟩
          have S20 := Lib.hid ((S13.out.go bel20).add I5)
          have M5 := Lib.hid I5.short
          clear bel20 S13 I5
          go_wp2_with fail
          refine (enough_any vs (chosenL n 127) A A5 n c m5 c5 aS aR aT w20 S20.out.vals (S20.out.is _ _ (by simp)) S20.out.sen (by omega) (by have := M5.out; omega)).mono ?_
          rintro _ w21 ⟨rfl, bel21⟩
          rw [show enoughB vs (chosenL n 127) = true by rw [HN.out]; exact all_enough hval]
          have S21 := Lib.hid (S20.out.go bel21)
          clear bel21 S20
          go_wp2_with fail
          refine (enough_any vs [] A none n c 0 0 aS aR aT w21 S21.out.vals Ins.nil S21.out.sen (by omega) (by omega)).mono ?_
          rintro _ w22 ⟨rfl, bel22⟩
          rw [none_enough hval]
          have S22 := Lib.hid (S21.out.go bel22)
          clear bel22 S21
          go_wp2_with fail
          refine (few_any vs [] A none n c 0 0 aS aR aT w22 S22.out.vals Ins.nil S22.out.sen (by omega) (by omega)).mono ?_
          rintro _ w23 ⟨rfl, bel23⟩
          rw [none_few hval]
          have S23 := Lib.hid (S22.out.go bel23)
          clear bel23 S22
          go_wp2_with fail
          go_ret
          exact ⟨rfl, S23.out.bel⟩
      | true =>
        have hew : enoughB vs (chosenL n (a ||| p)) = true := by rw [HN.out] at he1 ⊢; exact more_enough hval a p he1
        clear he1
        go_wp2_with fail
        refine (enough_any vs (chosenL n (a ||| p)) A A4 n c m4 c4 aS aR aT w10 S10.out.vals (S10.out.is (.slice A4 m4 c4) _ (by simp)) S10.out.sen (by omega) (by have := M4.out; omega)).mono ?_
        rintro _ w11 ⟨rfl, bel11⟩
        rw [hew]
        have S11 := Lib.hid (S10.out.go bel11)
        clear bel11 S10 hew
        go_wp2_with fail
        refine (few_any vs (chosenL n (a ||| p)) A A4 n c m4 c4 aS aR aT w11 S11.out.vals (S11.out.is (.slice A4 m4 c4) _ (by simp)) S11.out.sen (by omega) (by have := M4.out; omega)).mono ?_
        rintro _ w12 ⟨rfl, bel12⟩
        have S12 := Lib.hid (S11.out.go bel12)
        clear bel12 S11
        cases hf : fewB vs (chosenL n (a ||| p)) with
        | false =>
          clear hf
          go_wp2_with fail
          refine (chosen_any A n c 127 (by decide) w12 (by omega)).mono ?_
          rintro _ w20 ⟨A5, m5, c5, rfl, I5, bel20⟩
          have S20 := Lib.hid ((S12.out.go bel20).add I5)
          have M5 := Lib.hid I5.short
          clear bel20 S12 I5
          go_wp2_with fail
          refine (enough_any vs (chosenL n 127) A A5 n c m5 c5 aS aR aT w20 S20.out.vals (S20.out.is _ _ (by simp)) S20.out.sen (by omega) (by have := M5.out; omega)).mono ?_
          rintro _ w21 ⟨rfl, bel21⟩
          rw [show enoughB vs (chosenL n 127) = true by rw [HN.out]; exact all_enough hval]
          have S21 := Lib.hid (S20.out.go bel21)
          clear bel21 S20
          go_wp2_with fail
          refine (enough_any vs [] A none n c 0 0 aS aR aT w21 S21.out.vals Ins.nil S21.out.sen (by omega) (by omega)).mono ?_
          rintro _ w22 ⟨rfl, bel22⟩
          rw [none_enough hval]
          have S22 := Lib.hid (S21.out.go bel22)
          clear bel22 S21
          go_wp2_with fail
          refine (few_any vs [] A none n c 0 0 aS aR aT w22 S22.out.vals Ins.nil S22.out.sen (by omega) (by omega)).mono ?_
          rintro _ w23 ⟨rfl, bel23⟩
          rw [none_few hval]
          have S23 := Lib.hid (S22.out.go bel23)
          clear bel23 S22
          go_wp2_with fail
          go_ret
          exact ⟨rfl, S23.out.bel⟩
        | true =>
          have hfw : fewB vs (chosenL n a) = true := by rw [HN.out] at hf ⊢; exact more_few hval a p hf
          clear hf
          go_wp2_with fail
          refine (few_any vs (chosenL n a) A A1 n c i c1 aS aR aT w12 S12.out.vals (S12.out.is (.slice A1 i c1) _ (by simp)) S12.out.sen (by omega) (by omega)).mono ?_
          rintro _ w13 ⟨rfl, bel13⟩
          rw [hfw]
          have S13 := Lib.hid (S12.out.go bel13)
          clear bel13 S12 hfw
          go_wp2_with fail
          refine (chosen_any A n c 127 (by decide) w13 (by omega)).mono ?_
          rintro _ w20 ⟨A5, m5, c5, rfl, I5, bel20⟩
          have S20 := Lib.hid ((S13.out.go bel20).add I5)
          have M5 := Lib.hid I5.short
          clear bel20 S13 I5
          go_wp2_with fail
          refine (enough_any vs (chosenL n 127) A A5 n c m5 c5 aS aR aT w20 S20.out.vals (S20.out.is _ _ (by simp)) S20.out.sen (by omega) (by have := M5.out; omega)).mono ?_
          rintro _ w21 ⟨rfl, bel21⟩
          rw [show enoughB vs (chosenL n 127) = true by rw [HN.out]; exact all_enough hval]
          have S21 := Lib.hid (S20.out.go bel21)
          clear bel21 S20
          go_wp2_with fail
          refine (enough_any vs [] A none n c 0 0 aS aR aT w21 S21.out.vals Ins.nil S21.out.sen (by omega) (by omega)).mono ?_
          rintro _ w22 ⟨rfl, bel22⟩
          rw [none_enough hval]
          have S22 := Lib.hid (S21.out.go bel22)
          clear bel22 S21
          go_wp2_with fail
          refine (few_any vs [] A none n c 0 0 aS aR aT w22 S22.out.vals Ins.nil S22.out.sen (by omega) (by omega)).mono ?_
          rintro _ w23 ⟨rfl, bel23⟩
          rw [none_few hval]
          have S23 := Lib.hid (S22.out.go bel23)
          clear bel23 S22
          go_wp2_with fail
          go_ret
          exact ⟨rfl, S23.out.bel⟩
end Go.Proofs.YtideopnblhbngaaDoor
