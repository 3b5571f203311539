/- New rows of validators and integers; the chapter's example (powers). -/
import Derived.Test.YtideopnblhbngaaDoorChosen
namespace Go.Proofs.YtideopnblhbngaaDoor
open Go.RowKit Go.Shelf

def rcells (vs : List Va) : List Value := vs.flatMap vcells
theorem rcells_at (vs : List Va) (h : ∀ x ∈ vs, x.1.length = 16) (i j : Nat) (hi : i < vs.length) (hj : j < 17) : (rcells vs)[i * 17 + j]? = (vcells (vs.getD i ([], 0)))[j]? := by
  induction vs generalizing i with
  | nil => simp at hi
  | cons d ds ih =>
    have hd : (vcells d).length = 17 := vcells_len d (h d (by simp))
    rw [show rcells (d :: ds) = vcells d ++ rcells ds by simp [rcells]]
    cases i with
    | zero => rw [Nat.zero_mul, Nat.zero_add, List.getElem?_append_left (by omega)]; rfl
    | succ i =>
      rw [List.getElem?_append_right (by omega), hd, show (i + 1) * 17 + j - 17 = i * 17 + j by omega, ih (fun d hd => h d (by simp [hd])) i (by simpa using hi)]
      rfl
theorem Vals.of_own {w : World} {base : Nat} {v : Value} {n : Nat} {vs : List Va} (h : w.ownsRow base 39 17 v n (rcells vs)) (hn : n = vs.length) (hg : ∀ x ∈ vs, x.1.length = 16) : Vals w v vs := by
  have hcells := @World.ownsRow.cells w base 39 17 v n (rcells vs) h
  obtain ⟨_, h2⟩ := h
  rcases h2 with ⟨rfl, rfl⟩ | ⟨g, cap, cur, rfl, e1, e2, e3, e4, _, _⟩
  · cases vs with
    | nil => exact ⟨⟨_, _, rfl⟩, fun h => absurd rfl h, hg⟩
    | cons => simp at hn
  · subst hn
    refine ⟨⟨_, _, rfl⟩, fun _ => ⟨g, 0, cap, rfl, e3, e4, blk_lt e2, fun i hi j u hu => ?_⟩, hg⟩
    have hj : j < 17 := by
      have := (List.getElem?_eq_some_iff.1 hu).1
      rw [List.getD_eq_getElem?_getD, List.getElem?_eq_getElem hi] at this
      rwa [Option.getD_some, vcells_len _ (hg _ (List.getElem_mem hi))] at this
    have := hcells rfl (i * 17 + j) u (by rw [rcells_at vs hg i j hi hj]; exact hu)
    rw [show (⟨g, 0, none⟩ : Addr).add (i * 17 + j) = ⟨g, 0 + i * 17 + j, none⟩ by unfold Addr.add; split <;> simp_all] at this
    exact this
theorem Vals.new (w : World) (vs : List Va) (e : Nat) (hg : ∀ x ∈ vs, x.1.length = 16) (hl : vs.length ≤ 1000) : Vals (w.alloc (.cells (rcells vs).toArray e)) (.slice (some ⟨w.heap.size, 0, none⟩) vs.length vs.length) vs := by
  refine ⟨⟨_, _, rfl⟩, fun _ => ⟨_, 0, _, rfl, Nat.le_refl _, by simp only [maxLen]; omega, by simp, fun i hi j u hu => ?_⟩, hg⟩
  have hj : j < 17 := by
    have := (List.getElem?_eq_some_iff.1 hu).1
    rw [List.getD_eq_getElem?_getD, List.getElem?_eq_getElem hi] at this
    rwa [Option.getD_some, vcells_len _ (hg _ (List.getElem_mem hi))] at this
  have h2 : (rcells vs)[i * 17 + j]? = some u := by rw [rcells_at vs hg i j hi hj]; exact hu
  have := range_new w (rcells vs) e (i * 17 + j) u h2
  rw [Nat.zero_add] at this ⊢
  exact this
theorem Ins.new (w : World) (xs : List Int) (e : Nat) (hl : xs.length ≤ 1000) : Ins (w.alloc (.cells (i64s xs).toArray e)) (.slice (some ⟨w.heap.size, 0, none⟩) xs.length xs.length) xs := by
  refine ⟨⟨_, _, rfl⟩, fun _ => ⟨_, 0, _, rfl, Nat.le_refl _, by simp only [maxLen]; omega, by simp, fun i hi => ?_⟩⟩
  exact range_new w (i64s xs) e i _ (by simp [i64s, List.getD_eq_getElem?_getD, hi])

def four : List Va := [([1,0,0,0,0,0,0,0,0,0,0,0,0,0,0,0], 1), ([2,0,0,0,0,0,0,0,0,0,0,0,0,0,0,0], 1), ([3,0,0,0,0,0,0,0,0,0,0,0,0,0,0,0], 1), ([4,0,0,0,0,0,0,0,0,0,0,0,0,0,0,0], 1)]
theorem four_good : ∀ x ∈ four, x.1.length = 16 := by
  intro x hx
  simp only [four, List.mem_cons, List.not_mem_nil, or_false] at hx
  rcases hx with rfl | rfl | rfl | rfl <;> rfl
theorem four_quorum : quorum four = 3 := by kernel_rfl
theorem four_total : total four = 4 := by kernel_rfl
theorem four_yes : enoughB four [0, 2, 3] = true := by kernel_rfl
theorem four_no : enoughB four [0, 1] = false := by kernel_rfl

set_option maxHeartbeats 4000000 in
set_option maxRecDepth 100000 in
theorem alive_any (aS aR aT : Addr) (w : World) (hs : Sen w aS aR aT) :
    Calls Tryd.prog 17 #[] w fun e w' => e = .returned (.bool true) ∧ Below w.heap.size w w' := by
  have bel0 : Below w.heap.size w (w.alloc (.cells (rcells four).toArray 39)) := (Below.refl _ _).alloc (Nat.le_refl _) _
  have HS := Lib.hid (hs.below bel0)
  have HV : Hid (Vals (w.alloc (.cells (rcells four).toArray 39)) (.slice (some ⟨w.heap.size, 0, none⟩) 4 4) four) := Lib.hid (Vals.new w four 39 four_good (by decide))
  have HB := Lib.hid bel0
  clear hs bel0
  go_enter Tryd.func17, Tryd.ntmps17
  go_wp2_with fail
  refine (quorum_any four _ 4 4 aS aR aT _ HV.out HS.out (by omega)).mono ?_
  rintro _ w1 ⟨rfl, bel1⟩
  rw [four_quorum]
  have HV1 := Lib.hid (HV.out.below bel1)
  have HS1 := Lib.hid (HS.out.below bel1)
  have B1 := Lib.hid (HB.out.trans (bel1.mono HB.out.size))
  clear bel1 HV HS HB
  go_wp2_with fail
  refine (total_any four _ 4 4 aS aR aT _ HV1.out HS1.out (by omega)).mono ?_
  rintro _ w2 ⟨rfl, bel2⟩
  rw [four_total]
  have bel3 : Below w2.heap.size w2 (w2.alloc (.cells (i64s [0, 2, 3]).toArray 3)) := (Below.refl _ _).alloc (Nat.le_refl _) _
  have HV2 := Lib.hid ((HV1.out.below bel2).below bel3)
  have HS2 := Lib.hid ((HS1.out.below bel2).below bel3)
  have B2 := Lib.hid ((B1.out.trans (bel2.mono B1.out.size)).trans (bel3.mono (Nat.le_trans B1.out.size bel2.size)))
  have I2 := Lib.hid (Ins.new w2 [0, 2, 3] 3 (by decide))
  clear bel2 bel3 HV1 HS1 B1
  go_wp2_with fail
  refine (enough_any four [0, 2, 3] _ _ 4 4 3 3 aS aR aT _ HV2.out I2.out HS2.out (by omega) (by omega)).mono ?_
  rintro _ w4 ⟨rfl, bel4⟩
  rw [four_yes]
  have bel5 : Below w4.heap.size w4 (w4.alloc (.cells (i64s [0, 1]).toArray 3)) := (Below.refl _ _).alloc (Nat.le_refl _) _
  have HV4 := Lib.hid ((HV2.out.below bel4).below bel5)
  have HS4 := Lib.hid ((HS2.out.below bel4).below bel5)
  have B4 := Lib.hid ((B2.out.trans (bel4.mono B2.out.size)).trans (bel5.mono (Nat.le_trans B2.out.size bel4.size)))
  have I4 := Lib.hid (Ins.new w4 [0, 1] 3 (by decide))
  clear bel4 bel5 HV2 HS2 B2
  go_wp2_with fail
  refine (enough_any four [0, 1] _ _ 4 4 2 2 aS aR aT _ HV4.out I4.out HS4.out (by omega) (by omega)).mono ?_
  rintro _ w6 ⟨rfl, bel6⟩
  rw [four_no]
  have B6 := Lib.hid (B4.out.trans (bel6.mono B4.out.size))
  clear bel6 HV4 HS4 B4
  go_wp2_with fail
  go_ret
  exact ⟨rfl, B6.out⟩
end Go.Proofs.YtideopnblhbngaaDoor
