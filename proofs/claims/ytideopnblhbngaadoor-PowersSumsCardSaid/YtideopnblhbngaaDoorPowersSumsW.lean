/- What PowersSums answers. -/
import Derived.Test.YtideopnblhbngaaDoorRefEn
import Derived.Test.YtideopnblhbngaaDoorPAlive
import Derived.Test.YtideopnblhbngaaDoorNum
namespace Go.Proofs.YtideopnblhbngaaDoor
open Go.RowKit Go.Shelf

theorem SenN.sen {w : World} {al : List Addr} {aS aR aT : Addr} (h : SenN w al) (hS : al[10]? = some aS) (hR : al[0]? = some aR) (hT : al[16]? = some aT) : Sen w aS aR aT :=
  ⟨h.cell 10 0 aS rfl hS, h.cell 0 1 aR rfl hR, h.cell 16 2 aT rfl hT⟩
/-- What stands over PowersSums. -/
structure QS (w : World) (vs : List Va) (who : List Int) (A A' : Option Addr) (n c m c' : Nat) (al : List Addr) (W : World) : Prop where
  v : Vals W (.slice A n c) vs
  i : Ins W (.slice A' m c') who
  s : SenN W al
  b : Below w.heap.size w W
theorem QS.go {w : World} {vs : List Va} {who : List Int} {A A' : Option Addr} {n c m c' : Nat} {al : List Addr} {W W' : World} (h : QS w vs who A A' n c m c' al W) (hb : Below W.heap.size W W') : QS w vs who A A' n c m c' al W' :=
  ⟨h.v.below hb, h.i.below hb, h.s.below hb, h.b.trans (hb.mono h.b.size)⟩
/-- An error and its number. -/
def NumOf (al : List Addr) (ev : Value) (k : Int) : Prop := ∀ W, SenN W al → Calls Tryd.prog 38 #[ev] W fun e w' => e = .returned (.int .i64 k) ∧ Below W.heap.size W w'
theorem numOf_nil (al : List Addr) : NumOf al .nilIface 0 := fun W _ => (num_nil W).mono fun e w' ⟨h1, h2⟩ => ⟨h1, by rw [h2]; exact Below.refl _ _⟩
theorem numOf_err {al : List Addr} {k : Nat} {a : Addr} (h : al[k]? = some a) : NumOf al (errV a) ((k : Int) + 1) := fun W hs => num_err al k a W hs h
theorem sums_match (vs : List Va) (who : List Int) (al : List Addr) (aS aR aT : Addr) (hS : al[10]? = some aS) (hR : al[0]? = some aR) (hT : al[16]? = some aT) :
    ∃ (N : Int) (ev : Value) (k : Int), sumV vs who aS aR aT = .tuple #[.int .i64 N, ev] ∧ refSumV vs who = (N, k) ∧ NumOf al ev k := by
  unfold sumV refSumV
  by_cases h1 : validB vs = false
  · exact ⟨0, errV aS, 11, by rw [if_pos h1], by rw [if_pos h1], numOf_err hS⟩
  · by_cases h2 : inR vs.length who = false
    · exact ⟨0, errV aR, 1, by rw [if_neg h1, if_pos h2], by rw [if_neg h1, if_pos h2], numOf_err hR⟩
    · by_cases h3 : who.Nodup
      · exact ⟨(powAt vs who).sum, .nilIface, 0, by rw [if_neg h1, if_neg h2, if_neg (fun h => h h3)], by rw [if_neg h1, if_neg h2, if_neg (fun h => h h3)], numOf_nil al⟩
      · exact ⟨0, errV aT, 17, by rw [if_neg h1, if_neg h2, if_pos h3], by rw [if_neg h1, if_neg h2, if_pos h3], numOf_err hT⟩

set_option maxHeartbeats 8000000 in
set_option maxRecDepth 100000 in
theorem powersSums_any (vs : List Va) (who : List Int) (A A' : Option Addr) (n c m c' : Nat) (al : List Addr) (aS aR aT : Addr) (w : World) (hv : Vals w (.slice A n c) vs) (hw : Ins w (.slice A' m c') who) (hs : SenN w al) (hS : al[10]? = some aS) (hR : al[0]? = some aR) (hT : al[16]? = some aT) :
    Calls Tryd.prog 10 #[.slice A n c, .slice A' m c'] w fun e w' => e = .returned (.bool true) ∧ Below w.heap.size w w' := by
  have Q0 : Hid (QS w vs who A A' n c m c' al w) := Lib.hid ⟨hv, hw, hs, Below.refl _ _⟩
  have HSN : Hid (∀ W, SenN W al → Sen W aS aR aT) := Lib.hid (fun W h => h.sen hS hR hT)
  have HS := Lib.hid hS
  obtain ⟨N, ev, k, e1, e2, hnum⟩ := sums_match vs who al aS aR aT hS hR hT
  have E1 := Lib.hid e1
  have E2 := Lib.hid e2
  have NU := Lib.hid hnum
  clear hv hw hs hS hR hT e1 e2 hnum
  go_enter Tryd.func10, Tryd.ntmps10
  go_wp2_with fail
  refine (alive_any aS aR aT w (HSN.out w Q0.out.s)).mono ?_
  rintro _ w1 ⟨rfl, bel1⟩
  have Q1 := Lib.hid (Q0.out.go bel1)
  clear bel1 Q0
  by_cases h30 : 30 < n
  · have h30' : (30 : Int) < n := by omega
    go_wp2_with fail
    go_ret
    exact ⟨rfl, Q1.out.b⟩
  have h30' : ¬ (30 : Int) < n := by omega
  by_cases h40 : 40 < m
  · have h40' : (40 : Int) < m := by omega
    go_wp2_with fail
    go_ret
    exact ⟨rfl, Q1.out.b⟩
  have h40' : ¬ (40 : Int) < m := by omega
  go_wp2_with fail
  refine (psum_any vs who A A' n c m c' aS aR aT w1 Q1.out.v Q1.out.i (HSN.out w1 Q1.out.s) (by omega) (by omega)).mono ?_
  rintro _ w2 ⟨rfl, bel2⟩
  rw [E1.out]
  have Q2 := Lib.hid (Q1.out.go bel2)
  clear bel2 Q1
  go_wp2_with fail
  refine (refSum_any vs who A A' n c m c' w2 Q2.out.v Q2.out.i (by omega) (by omega)).mono ?_
  rintro _ w3 ⟨rfl, bel3⟩
  rw [E2.out]
  have Q3 := Lib.hid (Q2.out.go bel3)
  clear bel3 Q2
  dsimp only
  go_wp2_with fail
  refine (right_any vs A n c w3 Q3.out.v).mono ?_
  rintro _ w4 ⟨rfl, bel4⟩
  have Q4 := Lib.hid (Q3.out.go bel4)
  clear bel4 Q3
  go_wp2_with fail
  refine (check_any vs A n c aS aR aT w4 Q4.out.v (HSN.out w4 Q4.out.s)).mono ?_
  rintro _ w5 ⟨rfl, bel5⟩
  have Q5 := Lib.hid (Q4.out.go bel5)
  clear bel5 Q4
  have hkk : (k == k) = true := by simp
  have hNN : (N == N) = true := by simp
  cases hval : validB vs with
  | false =>
    have hck : checkV vs aS = errV aS := by unfold checkV; rw [hval]; rfl
    rw [hck]
    have HTOT : Hid (total vs = 0) := Lib.hid (by unfold total; rw [hval]; rfl)
    have HQ : Hid (quorum vs = 0) := Lib.hid (by unfold quorum; rw [HTOT.out]; rfl)
    have hg : goodW vs who = false := by unfold goodW; rw [hval]; rfl
    have HEN : Hid (enoughB vs who = false) := Lib.hid (by unfold enoughB; rw [hg, Bool.false_and])
    have HFE : Hid (fewB vs who = false) := Lib.hid (by unfold fewB; rw [hg, Bool.false_and])
    clear hck hg hval
    go_wp2_with fail
    refine (check_any vs A n c aS aR aT w5 Q5.out.v (HSN.out w5 Q5.out.s)).mono ?_
    rintro _ w6 ⟨rfl, bel6⟩
    have hck : checkV vs aS = errV aS := by
      unfold checkV
      cases h : validB vs with
      | false => rfl
      | true => have := (total_valid h).2.2.1; rw [HTOT.out] at this; omega
    rw [hck]
    have Q6 := Lib.hid (Q5.out.go bel6)
    clear bel6 Q5 hck
    go_wp2_with fail
    refine (numOf_err HS.out w6 Q6.out.s).mono ?_
    rintro _ w7 ⟨rfl, bel7⟩
    rw [show ((10 : Nat) : Int) + 1 = 11 from rfl]
    have Q7 := Lib.hid (Q6.out.go bel7)
    clear bel7 Q6
    go_wp2_with fail
    refine (NU.out w7 Q7.out.s).mono ?_
    rintro _ w8 ⟨rfl, bel8⟩
    have Q8 := Lib.hid (Q7.out.go bel8)
    clear bel8 Q7
    go_wp2_with fail
    refine (total_any vs A n c aS aR aT w8 Q8.out.v (HSN.out w8 Q8.out.s) (by omega)).mono ?_
    rintro _ w9 ⟨rfl, bel9⟩
    rw [HTOT.out]
    have Q9 := Lib.hid (Q8.out.go bel9)
    clear bel9 Q8
    go_wp2_with fail
    refine (quorum_any vs A n c aS aR aT w9 Q9.out.v (HSN.out w9 Q9.out.s) (by omega)).mono ?_
    rintro _ w10 ⟨rfl, bel10⟩
    rw [HQ.out]
    have Q10 := Lib.hid (Q9.out.go bel10)
    clear bel10 Q9
    go_wp2_with fail
    refine (enough_any vs who A A' n c m c' aS aR aT w10 Q10.out.v Q10.out.i (HSN.out w10 Q10.out.s) (by omega) (by omega)).mono ?_
    rintro _ w11 ⟨rfl, bel11⟩
    rw [HEN.out]
    have Q11 := Lib.hid (Q10.out.go bel11)
    clear bel11 Q10
    go_wp2_with fail
    refine (few_any vs who A A' n c m c' aS aR aT w11 Q11.out.v Q11.out.i (HSN.out w11 Q11.out.s) (by omega) (by omega)).mono ?_
    rintro _ w12 ⟨rfl, bel12⟩
    rw [HFE.out]
    have Q12 := Lib.hid (Q11.out.go bel12)
    clear bel12 Q11
    go_wp2_with fail
    go_ret
    exact ⟨rfl, Q12.out.b⟩
  | true =>
    have hck : checkV vs aS = .nilIface := by unfold checkV; rw [hval]; rfl
    rw [hck]
    obtain ⟨_, htw, ht1, ht2⟩ := total_valid hval
    have HTW := Lib.hid htw
    have hq : quorum vs = 2 * total vs / 3 + 1 := by unfold quorum; rw [if_neg (by omega)]
    obtain ⟨T, hTT⟩ : ∃ T, T = total vs := ⟨_, rfl⟩
    rw [← hTT] at ht1 ht2 hq
    obtain ⟨K, hK⟩ : ∃ K, K = quorum vs := ⟨_, rfl⟩
    rw [← hK] at hq
    have HK := Lib.hid hK
    have HTT := Lib.hid hTT
    have k1 : 2 * T < 3 * K := by omega
    have k2 : 3 * (K - 1) ≤ 2 * T := by omega
    have k0 : 1 ≤ K ∧ K ≤ 1099511627776001 := by omega
    have hw1 : IntKind.i64.wrap (3 * K) = 3 * K := by rw [IntKind.wrap_i64]; omega
    have hw2 : IntKind.i64.wrap (2 * T) = 2 * T := by rw [IntKind.wrap_i64]; omega
    have hw3 : IntKind.i64.wrap (K - 1) = K - 1 := by rw [IntKind.wrap_i64]; omega
    have hw4 : IntKind.i64.wrap (3 * (K - 1)) = 3 * (K - 1) := by rw [IntKind.wrap_i64]; omega
    have hTb : (T == T) = true := by simp
    clear hck hval htw hq hK hTT
    go_wp2_with fail
    refine (NU.out w5 Q5.out.s).mono ?_
    rintro _ w8 ⟨rfl, bel8⟩
    have Q8 := Lib.hid (Q5.out.go bel8)
    clear bel8 Q5
    go_wp2_with fail
    refine (quorum_any vs A n c aS aR aT w8 Q8.out.v (HSN.out w8 Q8.out.s) (by omega)).mono ?_
    rintro _ w10 ⟨rfl, bel10⟩
    rw [← HK.out]
    have Q10 := Lib.hid (Q8.out.go bel10)
    clear bel10 Q8
    go_wp2_with fail
    refine (refTotal_any vs A n c w10 Q10.out.v (by omega)).mono ?_
    rintro _ w11 ⟨rfl, bel11⟩
    rw [HTW.out, ← HTT.out]
    have Q11 := Lib.hid (Q10.out.go bel11)
    clear bel11 Q10
    go_wp2_with fail
    refine (total_any vs A n c aS aR aT w11 Q11.out.v (HSN.out w11 Q11.out.s) (by omega)).mono ?_
    rintro _ w12 ⟨rfl, bel12⟩
    rw [← HTT.out]
    have Q12 := Lib.hid (Q11.out.go bel12)
    clear bel12 Q11
    go_wp2_with fail
    refine (enough_any vs who A A' n c m c' aS aR aT w12 Q12.out.v Q12.out.i (HSN.out w12 Q12.out.s) (by omega) (by omega)).mono ?_
    rintro _ w13 ⟨rfl, bel13⟩
    have Q13 := Lib.hid (Q12.out.go bel13)
    clear bel13 Q12
    go_wp2_with fail
    refine (refEnough_any vs who A A' n c m c' w13 Q13.out.v Q13.out.i (by omega) (by omega)).mono ?_
    rintro _ w14 ⟨rfl, bel14⟩
    have Q14 := Lib.hid (Q13.out.go bel14)
    clear bel14 Q13
    obtain ⟨EB, hEB⟩ : ∃ x, x = enoughB vs who := ⟨_, rfl⟩
    rw [← hEB]
    clear hEB
    have hEE : (EB == EB) = true := by simp
    go_wp2_with fail
    refine (few_any vs who A A' n c m c' aS aR aT w14 Q14.out.v Q14.out.i (HSN.out w14 Q14.out.s) (by omega) (by omega)).mono ?_
    rintro _ w15 ⟨rfl, bel15⟩
    have Q15 := Lib.hid (Q14.out.go bel15)
    clear bel15 Q14
    go_wp2_with fail
    refine (refFew_any vs who A A' n c m c' w15 Q15.out.v Q15.out.i (by omega) (by omega)).mono ?_
    rintro _ w16 ⟨rfl, bel16⟩
    have Q16 := Lib.hid (Q15.out.go bel16)
    clear bel16 Q15
    obtain ⟨FB, hFB⟩ : ∃ x, x = fewB vs who := ⟨_, rfl⟩
    rw [← hFB]
    clear hFB
    have hFF : (FB == FB) = true := by simp
    go_wp2_with fail
    go_ret
    exact ⟨rfl, Q16.out.b⟩
end Go.Proofs.YtideopnblhbngaaDoor
