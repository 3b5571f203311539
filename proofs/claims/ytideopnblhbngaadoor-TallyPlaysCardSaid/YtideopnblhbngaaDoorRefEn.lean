/- The reference's Enough and Few. -/
import Derived.Test.YtideopnblhbngaaDoorRef08b
namespace Go.Proofs.YtideopnblhbngaaDoor
open Go.RowKit Go.Shelf

theorem refSumV_good {vs : List Va} {who : List Int} (h : goodW vs who = true) : refSumV vs who = ((powAt vs who).sum, 0) := by
  obtain ⟨h1, h2, h3⟩ := (goodW_iff _ _).1 h
  unfold refSumV
  rw [if_neg (by rw [h1]; simp), if_neg (by rw [h2]; simp), if_neg (fun hh => hh h3)]
theorem refSumV_bad {vs : List Va} {who : List Int} (h : goodW vs who = false) : ∃ e : Int, refSumV vs who = (0, e) ∧ (e == 0) = false := by
  unfold refSumV
  by_cases h1 : validB vs = false
  · exact ⟨11, by rw [if_pos h1], rfl⟩
  · by_cases h2 : inR vs.length who = false
    · exact ⟨1, by rw [if_neg h1, if_pos h2], rfl⟩
    · by_cases h3 : who.Nodup
      · have := (goodW_iff vs who).2 ⟨by simpa using h1, by simpa using h2, h3⟩
        rw [h] at this; cases this
      · exact ⟨17, by rw [if_neg h1, if_neg h2, if_pos h3], rfl⟩
theorem good_total {vs : List Va} {who : List Int} (h : goodW vs who = true) : sumW (vs.map (·.2)) = total vs := (total_valid ((goodW_iff _ _).1 h).1).2.1
theorem enoughB_eq {vs : List Va} {who : List Int} (h : goodW vs who = true) : enoughB vs who = decide (2 * total vs < 3 * (powAt vs who).sum) := by
  have ht := total_valid ((goodW_iff _ _).1 h).1
  have h1 := ht.2.2.1
  unfold enoughB quorum
  rw [h, Bool.true_and, if_neg (by omega), decide_eq_decide]
  omega
theorem fewB_eq {vs : List Va} {who : List Int} (h : goodW vs who = true) : fewB vs who = decide (3 * (powAt vs who).sum < total vs) := by
  unfold fewB
  rw [h, Bool.true_and]

set_option maxHeartbeats 8000000 in
set_option maxRecDepth 100000 in
theorem refEnough_any (vs : List Va) (who : List Int) (A A' : Option Addr) (n c m c' : Nat) (w : World) (hv : Vals w (.slice A n c) vs) (hw : Ins w (.slice A' m c') who) (hz : n ≤ 1000000) (hz2 : m ≤ 1000000) :
    Calls Tryd.prog 41 #[.slice A n c, .slice A' m c'] w fun e w' => e = .returned (.bool (enoughB vs who)) ∧ Below w.heap.size w w' := by
  have HV := Lib.hid hv
  have HW := Lib.hid hw
  clear hv hw
  go_enter Tryd.func41, Tryd.ntmps41
  go_wp2_with fail
  refine (refSum_any vs who A A' n c m c' w HV.out HW.out hz hz2).mono ?_
  rintro _ w1 ⟨rfl, bel1⟩
  have V1 := Lib.hid (HV.out.below bel1)
  have B1 := Lib.hid bel1
  clear bel1
  cases hg : goodW vs who with
  | true =>
    rw [refSumV_good hg]
    have HE := Lib.hid (enoughB_eq hg)
    have HT := Lib.hid (good_total hg)
    obtain ⟨hs1, hs2⟩ := goodW_sum hg
    have ht1 := total_range vs
    obtain ⟨S, hS⟩ : ∃ S, S = (powAt vs who).sum := ⟨_, rfl⟩
    obtain ⟨T, hT⟩ : ∃ T, T = total vs := ⟨_, rfl⟩
    rw [← hS] at HE hs1 hs2 ⊢
    rw [← hT] at HE HT ht1
    obtain ⟨ht2, ht3⟩ := ht1
    have hw1 : IntKind.i64.wrap (3 * S) = 3 * S := by rw [IntKind.wrap_i64]; omega
    have hw2 : IntKind.i64.wrap (2 * T) = 2 * T := by rw [IntKind.wrap_i64]; omega
    clear hg hS hT
    go_wp2_with fail
    refine (refTotal_any vs A n c w1 V1.out hz).mono ?_
    rintro _ w2 ⟨rfl, bel2⟩
    rw [HT.out]
    have B2 := Lib.hid (B1.out.trans (bel2.mono B1.out.size))
    clear bel2
    go_wp2_with fail
    go_ret
    exact ⟨by rw [HE.out]; rfl, B2.out⟩
  | false =>
    obtain ⟨e, he, hne⟩ := refSumV_bad hg
    rw [he]
    have HE : Hid (enoughB vs who = false) := Lib.hid (by unfold enoughB; rw [hg, Bool.false_and])
    clear he hg
    go_wp2_with fail
    go_ret
    exact ⟨by rw [HE.out]; rfl, B1.out⟩

set_option maxHeartbeats 8000000 in
set_option maxRecDepth 100000 in
theorem refFew_any (vs : List Va) (who : List Int) (A A' : Option Addr) (n c m c' : Nat) (w : World) (hv : Vals w (.slice A n c) vs) (hw : Ins w (.slice A' m c') who) (hz : n ≤ 1000000) (hz2 : m ≤ 1000000) :
    Calls Tryd.prog 42 #[.slice A n c, .slice A' m c'] w fun e w' => e = .returned (.bool (fewB vs who)) ∧ Below w.heap.size w w' := by
  have HV := Lib.hid hv
  have HW := Lib.hid hw
  clear hv hw
  go_enter Tryd.func42, Tryd.ntmps42
  go_wp2_with fail
  refine (refSum_any vs who A A' n c m c' w HV.out HW.out hz hz2).mono ?_
  rintro _ w1 ⟨rfl, bel1⟩
  have V1 := Lib.hid (HV.out.below bel1)
  have B1 := Lib.hid bel1
  clear bel1
  cases hg : goodW vs who with
  | true =>
    rw [refSumV_good hg]
    have HE := Lib.hid (fewB_eq hg)
    have HT := Lib.hid (good_total hg)
    obtain ⟨hs1, hs2⟩ := goodW_sum hg
    have ht1 := total_range vs
    obtain ⟨S, hS⟩ : ∃ S, S = (powAt vs who).sum := ⟨_, rfl⟩
    obtain ⟨T, hT⟩ : ∃ T, T = total vs := ⟨_, rfl⟩
    rw [← hS] at HE hs1 hs2 ⊢
    rw [← hT] at HE HT ht1
    obtain ⟨ht2, ht3⟩ := ht1
    have hw1 : IntKind.i64.wrap (3 * S) = 3 * S := by rw [IntKind.wrap_i64]; omega
    clear hg hS hT
    go_wp2_with fail
    refine (refTotal_any vs A n c w1 V1.out hz).mono ?_
    rintro _ w2 ⟨rfl, bel2⟩
    rw [HT.out]
    have B2 := Lib.hid (B1.out.trans (bel2.mono B1.out.size))
    clear bel2
    go_wp2_with fail
    go_ret
    exact ⟨by rw [HE.out]; rfl, B2.out⟩
  | false =>
    obtain ⟨e, he, hne⟩ := refSumV_bad hg
    rw [he]
    have HE : Hid (fewB vs who = false) := Lib.hid (by unfold fewB; rw [hg, Bool.false_and])
    clear he hg
    go_wp2_with fail
    go_ret
    exact ⟨by rw [HE.out]; rfl, B1.out⟩
end Go.Proofs.YtideopnblhbngaaDoor
