/- What all validators have, and how much is a quorum: powers.Total, powers.Quorum. -/
import Derived.Test.YtideopnblhbngaaDoorIns
import Derived.Test.YtideopnblhbngaaDoorCheck
namespace Go.Proofs.YtideopnblhbngaaDoor
open Go.RowKit Go.Shelf

theorem sumW_fold : ∀ (ps : List Int) (s : Int), 0 ≤ s → (∀ p ∈ ps, 0 ≤ p ∧ p ≤ 1099511627776) → s + ps.length * 1099511627776 ≤ 9223372036854775807 →
    ps.foldl (fun s v => wrap64 (s + v)) s = s + ps.sum ∧ s ≤ s + ps.sum ∧ s + ps.sum ≤ s + ps.length * 1099511627776
  | [], s, _, _, _ => by simp
  | p :: ps, s, hs, hp, hb => by
    obtain ⟨h0, h1⟩ := hp p (by simp)
    simp only [List.length_cons, Int.natCast_add, Int.natCast_one, Int.add_mul] at hb
    have hw : wrap64 (s + p) = s + p := by unfold wrap64; omega
    obtain ⟨ih1, ih2, ih3⟩ := sumW_fold ps (s + p) (by omega) (fun q hq => hp q (List.mem_cons_of_mem _ hq)) (by omega)
    simp only [List.foldl_cons, hw, List.sum_cons, List.length_cons, Int.natCast_add, Int.natCast_one, Int.add_mul]
    refine ⟨by rw [ih1]; omega, by omega, by omega⟩
theorem sumW_eq (ps : List Int) (hp : ∀ p ∈ ps, 0 ≤ p ∧ p ≤ 1099511627776) (hl : ps.length ≤ 1000) : sumW ps = ps.sum ∧ 0 ≤ ps.sum ∧ ps.sum ≤ 1099511627776000 := by
  obtain ⟨h1, h2, h3⟩ := sumW_fold ps 0 (Int.le_refl _) hp (by omega)
  refine ⟨by unfold sumW; rw [h1]; omega, by omega, by omega⟩

theorem validB_iff (vs : List Va) : validB vs = true ↔ (1 ≤ vs.length ∧ vs.length ≤ 7) ∧ ∀ i, i < vs.length → (1 ≤ (vs.getD i ([], 0)).2 ∧ (vs.getD i ([], 0)).2 ≤ 1099511627776 ∧ findK vs (vs.getD i ([], 0)).1 = i) := by
  unfold validB okAt
  rw [Bool.and_eq_true, decide_eq_true_iff, List.all_eq_true]
  simp only [List.mem_range, decide_eq_true_iff]
theorem valid_pow {vs : List Va} (h : validB vs = true) : ∀ p ∈ vs.map (·.2), 1 ≤ p ∧ p ≤ 1099511627776 := by
  intro p hp
  rw [List.mem_map] at hp
  obtain ⟨x, hx, rfl⟩ := hp
  obtain ⟨i, hi, rfl⟩ := List.getElem_of_mem hx
  have := ((validB_iff vs).1 h).2 i hi
  rw [List.getD_eq_getElem?_getD, List.getElem?_eq_getElem hi] at this
  exact ⟨this.1, this.2.1⟩
theorem valid_len {vs : List Va} (h : validB vs = true) : 1 ≤ vs.length ∧ vs.length ≤ 7 := ((validB_iff vs).1 h).1

/-- All their power. -/
def total (vs : List Va) : Int := if validB vs then (vs.map (·.2)).sum else 0
theorem total_valid {vs : List Va} (h : validB vs = true) : total vs = (vs.map (·.2)).sum ∧ sumW (vs.map (·.2)) = total vs ∧ 1 ≤ total vs ∧ total vs ≤ 1099511627776000 := by
  have hp := valid_pow h
  obtain ⟨h1, h2, h3⟩ := sumW_eq (vs.map (·.2)) (fun p hp' => by have := hp p hp'; omega) (by have := valid_len h; simp; omega)
  have ht : total vs = (vs.map (·.2)).sum := by unfold total; rw [if_pos h]
  refine ⟨ht, by rw [h1, ht], ?_, by omega⟩
  rw [ht]
  cases hv : vs with
  | nil => have := valid_len h; rw [hv] at this; simp at this
  | cons x xs =>
    rw [hv] at hp
    have h0 : 0 ≤ (xs.map (·.2)).sum := (sumW_eq (xs.map (·.2)) (fun p hp' => by have := hp p (by simp only [List.map_cons, List.mem_cons]; exact .inr hp'); omega) (by have := valid_len h; rw [hv] at this; simp at this ⊢; omega)).2.1
    have := hp x.2 (by simp)
    simp only [List.map_cons, List.sum_cons]
    omega
theorem total_range (vs : List Va) : 0 ≤ total vs ∧ total vs ≤ 1099511627776000 := by
  by_cases h : validB vs = true
  · have := (total_valid h).2.2
    omega
  · unfold total
    rw [if_neg h]
    omega
def quorum (vs : List Va) : Int := if total vs = 0 then 0 else 2 * total vs / 3 + 1

set_option maxHeartbeats 4000000 in
set_option maxRecDepth 100000 in
theorem total_any (vs : List Va) (A : Option Addr) (n c : Nat) (aS aR aT : Addr) (w : World) (hv : Vals w (.slice A n c) vs) (hs : Sen w aS aR aT) (hz : n ≤ 1000000) :
    Calls Tryd.prog 23 #[.slice A n c] w fun e w' => e = .returned (.int .i64 (total vs)) ∧ Below w.heap.size w w' := by
  have bel0 : Below w.heap.size w (w.alloc (.cells #[.slice A n c] 22)) := (Below.refl _ _).alloc (Nat.le_refl _) _
  have hbox := (Boxed.new w 22 (.slice A n c)).cell
  have HV := Lib.hid (hv.below bel0)
  have HS := Lib.hid (hs.below bel0)
  have HB := Lib.hid bel0
  have HBX := Lib.hid hbox
  clear hv hs bel0 hbox
  go_enter Tryd.func23, Tryd.ntmps23
  go_wp2_with fail
  refine (check_any vs A n c aS aR aT _ HV.out HS.out).mono ?_
  rintro _ w1 ⟨rfl, bel1⟩
  have HV1 := Lib.hid (HV.out.below bel1)
  have HBX1 := Lib.hid (cell_on bel1 HBX.out)
  have B1 := Lib.hid (HB.out.trans (bel1.mono HB.out.size))
  clear bel1
  by_cases hval : validB vs = true
  · have hck : checkV vs aS = .nilIface := by unfold checkV; rw [if_pos hval]
    have HT := Lib.hid (total_valid hval).2.1
    rw [hck]
    clear hck
    go_wp2_with fail
    refine (sum_any 66 _ (vs.map (·.2)) n w1 (enters_of Tryd.func66 (by kernel_rfl) rfl) (total1_stops 3 (by omega) w.heap.size A n c vs w1 HBX1.out HV1.out hz)).mono ?_
    rintro _ w2 ⟨rfl, bel2⟩
    have B2 := Lib.hid (B1.out.trans (bel2.mono B1.out.size))
    rw [HT.out]
    clear bel2
    go_wp2
    go_ret
    exact ⟨rfl, B2.out⟩
  · have hck : checkV vs aS = errV aS := by unfold checkV; rw [if_neg hval]
    have HT : Hid (total vs = 0) := Lib.hid (by unfold total; rw [if_neg hval])
    rw [hck]
    clear hck
    go_wp2
    go_ret
    exact ⟨by rw [HT.out]; rfl, B1.out⟩

set_option maxHeartbeats 4000000 in
set_option maxRecDepth 100000 in
theorem quorum_any (vs : List Va) (A : Option Addr) (n c : Nat) (aS aR aT : Addr) (w : World) (hv : Vals w (.slice A n c) vs) (hs : Sen w aS aR aT) (hz : n ≤ 1000000) :
    Calls Tryd.prog 39 #[.slice A n c] w fun e w' => e = .returned (.int .i64 (quorum vs)) ∧ Below w.heap.size w w' := by
  have HV := Lib.hid hv
  have HS := Lib.hid hs
  clear hv hs
  go_enter Tryd.func39, Tryd.ntmps39
  go_wp2_with fail
  refine (total_any vs A n c aS aR aT w HV.out HS.out hz).mono ?_
  rintro _ w1 ⟨rfl, bel1⟩
  obtain ⟨h0, h1⟩ := total_range vs
  have hq : quorum vs = if total vs = 0 then 0 else 2 * total vs / 3 + 1 := rfl
  obtain ⟨T, hT⟩ : ∃ T, T = total vs := ⟨_, rfl⟩
  rw [← hT] at h0 h1 hq ⊢
  have HQ := Lib.hid hq
  have B1 := Lib.hid bel1
  clear hT hq bel1
  by_cases hz0 : T = 0
  · subst hz0
    go_wp2
    go_ret
    exact ⟨by rw [HQ.out]; rfl, B1.out⟩
  · have hb : (T == 0) = false := by simp [hz0]
    have hm : IntKind.i64.wrap (2 * T) = 2 * T := by rw [IntKind.wrap_i64]; omega
    go_wp2
    go_ret
    refine ⟨?_, B1.out⟩
    rw [HQ.out, if_neg hz0]
    rfl
end Go.Proofs.YtideopnblhbngaaDoor
