/- One more, turned, all and none: the plain laws. -/
import Derived.Test.YtideopnblhbngaaDoorPowLaw
namespace Go.Proofs.YtideopnblhbngaaDoor
open Go.RowKit

theorem goodW_reverse {vs : List Va} {who : List Int} (h : goodW vs who = true) : goodW vs who.reverse = true := by
  rw [goodW_iff] at h ⊢
  refine ⟨h.1, (inR_iff _ _).2 fun i hi => (inR_iff _ _).1 h.2.1 i (List.mem_reverse.1 hi), List.nodup_iff_pairwise_ne.2 (List.pairwise_reverse.2 (List.Pairwise.imp Ne.symm (List.nodup_iff_pairwise_ne.1 h.2.2)))⟩
theorem powAt_reverse (vs : List Va) (who : List Int) : (powAt vs who.reverse).sum = (powAt vs who).sum := by
  unfold powAt
  rw [List.map_reverse, List.sum_reverse]
theorem enough_reverse {vs : List Va} {who : List Int} (h : goodW vs who = true) : enoughB vs who.reverse = enoughB vs who := by
  unfold enoughB
  rw [goodW_reverse h, h, powAt_reverse]

theorem pset_more (vs : List Va) (hv : validB vs = true) (a b : Nat) : pset vs a ≤ pset vs (a ||| b) := by
  unfold pset
  refine pwr_mono _ _ (fun i h => ?_) _ _ (pset_pos hv)
  rw [Nat.testBit_or, h, Bool.true_or]
theorem more_enough {vs : List Va} (hv : validB vs = true) (a b : Nat) (h : enoughB vs (chosenL vs.length a) = true) : enoughB vs (chosenL vs.length (a ||| b)) = true := by
  rw [enough_chosen hv, decide_eq_true_iff] at h ⊢
  have := pset_more vs hv a b
  omega
theorem more_few {vs : List Va} (hv : validB vs = true) (a b : Nat) (h : fewB vs (chosenL vs.length (a ||| b)) = true) : fewB vs (chosenL vs.length a) = true := by
  rw [few_chosen hv, decide_eq_true_iff] at h ⊢
  have := pset_more vs hv a b
  omega
theorem pset_all {vs : List Va} (hv : validB vs = true) : pset vs 127 = total vs := by
  rw [(total_valid hv).1, ← pwr_true (vs.map (·.2)) 0]
  refine pwr_congr _ _ _ _ fun i hi => ?_
  have := valid_len hv
  rw [show (127 : Nat) = 2 ^ 7 - 1 by decide, Nat.testBit_two_pow_sub_one]
  simp at hi ⊢
  omega
theorem all_enough {vs : List Va} (hv : validB vs = true) : enoughB vs (chosenL vs.length 127) = true := by
  rw [enough_chosen hv, decide_eq_true_iff, pset_all hv]
  have := (total_valid hv).2.2.1
  omega
theorem none_good {vs : List Va} (hv : validB vs = true) : goodW vs [] = true := (goodW_iff _ _).2 ⟨hv, rfl, List.nodup_nil⟩
theorem none_enough {vs : List Va} (hv : validB vs = true) : enoughB vs [] = false := by
  unfold enoughB
  rw [none_good hv, Bool.true_and, decide_eq_false_iff_not]
  have := (total_valid hv).2.2.1
  unfold quorum
  rw [if_neg (by omega)]
  show ¬ (_ ≤ (0 : Int))
  omega
theorem none_few {vs : List Va} (hv : validB vs = true) : fewB vs [] = true := by
  unfold fewB
  rw [none_good hv, Bool.true_and, decide_eq_true_iff]
  have := (total_valid hv).2.2.1
  show 3 * (0 : Int) < _
  omega
theorem reverse_take {xs : List Int} {k : Nat} (hk : k < xs.length) : xs.reverse.take (k + 1) = xs.reverse.take k ++ [xs.getD (xs.length - 1 - k) 0] := by
  rw [List.take_succ_eq_append_getElem (by simpa using hk)]
  congr 2
  rw [List.getElem_reverse, List.getD_eq_getElem?_getD, List.getElem?_eq_getElem (by omega)]
  rfl
end Go.Proofs.YtideopnblhbngaaDoor
