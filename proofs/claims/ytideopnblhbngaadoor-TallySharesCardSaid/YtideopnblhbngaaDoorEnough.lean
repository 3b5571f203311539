/- Whether some validators are a quorum, or few: powers.Enough, powers.Few. -/
import Derived.Test.YtideopnblhbngaaDoorPsum
namespace Go.Proofs.YtideopnblhbngaaDoor
open Go.RowKit Go.Shelf

theorem goodW_iff (vs : List Va) (who : List Int) : goodW vs who = true ↔ validB vs = true ∧ inR vs.length who = true ∧ who.Nodup := by
  unfold goodW
  rw [Bool.and_eq_true, Bool.and_eq_true, decide_eq_true_iff, and_assoc]
theorem sumV_good {vs : List Va} {who : List Int} (aS aR aT : Addr) (h : goodW vs who = true) : sumV vs who aS aR aT = .tuple #[.int .i64 (powAt vs who).sum, .nilIface] := by
  obtain ⟨h1, h2, h3⟩ := (goodW_iff _ _).1 h
  unfold sumV
  rw [if_neg (by rw [h1]; simp), if_neg (by rw [h2]; simp), if_neg (fun h => h h3)]
theorem sumV_bad {vs : List Va} {who : List Int} (aS aR aT : Addr) (h : goodW vs who = false) : ∃ a, sumV vs who aS aR aT = .tuple #[.int .i64 0, errV a] := by
  unfold sumV
  split
  · exact ⟨_, rfl⟩
  · rename_i h1
    split
    · exact ⟨_, rfl⟩
    · rename_i h2
      split
      · exact ⟨_, rfl⟩
      · rename_i h3
        have : goodW vs who = true := (goodW_iff _ _).2 ⟨by simpa using h1, by simpa using h2, by simpa using h3⟩
        rw [h] at this
        cases this
theorem goodW_sum {vs : List Va} {who : List Int} (h : goodW vs who = true) : 0 ≤ (powAt vs who).sum ∧ (powAt vs who).sum ≤ 1099511627776000 := by
  obtain ⟨h1, h2, h3⟩ := (goodW_iff _ _).1 h
  exact (powAt_sum h1 h2 h3).2

def enoughB (vs : List Va) (who : List Int) : Bool := goodW vs who && decide (quorum vs ≤ (powAt vs who).sum)
def fewB (vs : List Va) (who : List Int) : Bool := goodW vs who && decide (3 * (powAt vs who).sum < total vs)

set_option maxHeartbeats 4000000 in
set_option maxRecDepth 100000 in
theorem enough_any (vs : List Va) (who : List Int) (A A' : Option Addr) (n c m c' : Nat) (aS aR aT : Addr) (w : World) (hv : Vals w (.slice A n c) vs) (hw : Ins w (.slice A' m c') who) (hs : Sen w aS aR aT) (hz : n ≤ 1000000) (hz2 : m ≤ 1000000) :
    Calls Tryd.prog 20 #[.slice A n c, .slice A' m c'] w fun e w' => e = .returned (.bool (enoughB vs who)) ∧ Below w.heap.size w w' := by
  have HV := Lib.hid hv
  have HW := Lib.hid hw
  have HS := Lib.hid hs
  clear hv hw hs
  go_enter Tryd.func20, Tryd.ntmps20
  go_wp2_with fail
  refine (psum_any vs who A A' n c m c' aS aR aT w HV.out HW.out HS.out hz hz2).mono ?_
  rintro _ w1 ⟨rfl, bel1⟩
  have HV1 := Lib.hid (HV.out.below bel1)
  have HS1 := Lib.hid (HS.out.below bel1)
  have B1 := Lib.hid bel1
  clear bel1
  cases hg : goodW vs who with
  | true =>
    rw [sumV_good aS aR aT hg]
    have hE : enoughB vs who = decide (quorum vs ≤ (powAt vs who).sum) := by unfold enoughB; rw [hg, Bool.true_and]
    obtain ⟨S, hS⟩ : ∃ S, S = (powAt vs who).sum := ⟨_, rfl⟩
    rw [← hS] at hE ⊢
    have HE := Lib.hid hE
    clear hE hg hS
    go_wp2_with fail
    refine (quorum_any vs A n c aS aR aT w1 HV1.out HS1.out hz).mono ?_
    rintro _ w2 ⟨rfl, bel2⟩
    have B2 := Lib.hid (B1.out.trans (bel2.mono B1.out.size))
    obtain ⟨K, hK⟩ : ∃ K, K = quorum vs := ⟨_, rfl⟩
    rw [← hK] at HE ⊢
    clear bel2 hK
    go_wp2
    go_ret
    exact ⟨by rw [HE.out]; rfl, B2.out⟩
  | false =>
    obtain ⟨a, ha⟩ := sumV_bad aS aR aT hg
    rw [ha]
    have hE : enoughB vs who = false := by unfold enoughB; rw [hg, Bool.false_and]
    have HE := Lib.hid hE
    clear hE hg ha
    go_wp2
    go_ret
    exact ⟨by rw [HE.out]; rfl, B1.out⟩

set_option maxHeartbeats 4000000 in
set_option maxRecDepth 100000 in
theorem few_any (vs : List Va) (who : List Int) (A A' : Option Addr) (n c m c' : Nat) (aS aR aT : Addr) (w : World) (hv : Vals w (.slice A n c) vs) (hw : Ins w (.slice A' m c') who) (hs : Sen w aS aR aT) (hz : n ≤ 1000000) (hz2 : m ≤ 1000000) :
    Calls Tryd.prog 21 #[.slice A n c, .slice A' m c'] w fun e w' => e = .returned (.bool (fewB vs who)) ∧ Below w.heap.size w w' := by
  have HV := Lib.hid hv
  have HW := Lib.hid hw
  have HS := Lib.hid hs
  clear hv hw hs
  go_enter Tryd.func21, Tryd.ntmps21
  go_wp2_with fail
  refine (psum_any vs who A A' n c m c' aS aR aT w HV.out HW.out HS.out hz hz2).mono ?_
  rintro _ w1 ⟨rfl, bel1⟩
  have HV1 := Lib.hid (HV.out.below bel1)
  have HS1 := Lib.hid (HS.out.below bel1)
  have B1 := Lib.hid bel1
  clear bel1
  cases hg : goodW vs who with
  | true =>
    rw [sumV_good aS aR aT hg]
    have hE : fewB vs who = decide (3 * (powAt vs who).sum < total vs) := by unfold fewB; rw [hg, Bool.true_and]
    have hb := goodW_sum hg
    obtain ⟨S, hS⟩ : ∃ S, S = (powAt vs who).sum := ⟨_, rfl⟩
    rw [← hS] at hE hb ⊢
    have HE := Lib.hid hE
    clear hE hg hS
    go_wp2_with fail
    refine (total_any vs A n c aS aR aT w1 HV1.out HS1.out hz).mono ?_
    rintro _ w2 ⟨rfl, bel2⟩
    have B2 := Lib.hid (B1.out.trans (bel2.mono B1.out.size))
    obtain ⟨K, hK⟩ : ∃ K, K = total vs := ⟨_, rfl⟩
    rw [← hK] at HE ⊢
    clear bel2 hK
    go_wp2
    go_ret
    exact ⟨by rw [HE.out]; rfl, B2.out⟩
  | false =>
    obtain ⟨a, ha⟩ := sumV_bad aS aR aT hg
    rw [ha]
    have hE : fewB vs who = false := by unfold fewB; rw [hg, Bool.false_and]
    have HE := Lib.hid hE
    clear hE hg ha
    go_wp2
    go_ret
    exact ⟨by rw [HE.out]; rfl, B1.out⟩
end Go.Proofs.YtideopnblhbngaaDoor
