/- What chosen places have together: the plain laws. -/
import Derived.Test.YtideopnblhbngaaDoorChosen
import Derived.Test.YtideopnblhbngaaDoorPow
namespace Go.Proofs.YtideopnblhbngaaDoor
open Go.RowKit

/-- The powers of the places whose bits are set. -/
def pset (vs : List Va) (bits : Nat) : Int := pwr (vs.map (·.2)) 0 (fun i => bits.testBit i)

theorem chosen_sum (vs : List Va) (bits : Nat) : (powAt vs (chosenL vs.length bits)).sum = pset vs bits := by
  unfold pset
  rw [← sumAt_filter]
  unfold powAt chosenL chosenN sumAt
  rw [List.map_map, List.length_map]
  congr 1
  apply List.map_congr_left
  intro i _
  simp only [Function.comp_apply, Int.toNat_natCast, List.getD_eq_getElem?_getD, List.getElem?_map]
  cases vs[i]? <;> rfl
theorem chosen_in (n bits : Nat) : inR n (chosenL n bits) = true := by
  rw [inR_iff]
  intro i hi
  unfold chosenL chosenN at hi
  rw [List.mem_map] at hi
  obtain ⟨j, hj, rfl⟩ := hi
  have := (List.mem_filter.1 hj).1
  simp at this
  omega
theorem chosen_nodup (n bits : Nat) : (chosenL n bits).Nodup := by
  unfold chosenL chosenN
  rw [List.nodup_iff_pairwise_ne, List.pairwise_map]
  refine List.Pairwise.imp ?_ (List.Pairwise.filter _ List.nodup_range)
  intro a b h e
  exact h (by omega)
theorem chosen_good {vs : List Va} (hv : validB vs = true) (bits : Nat) : goodW vs (chosenL vs.length bits) = true :=
  (goodW_iff _ _).2 ⟨hv, chosen_in _ _, chosen_nodup _ _⟩
theorem enough_chosen {vs : List Va} (hv : validB vs = true) (bits : Nat) : enoughB vs (chosenL vs.length bits) = decide (2 * total vs / 3 + 1 ≤ pset vs bits) := by
  unfold enoughB
  rw [chosen_good hv, chosen_sum, Bool.true_and]
  have := (total_valid hv).2.2.1
  unfold quorum
  rw [if_neg (by omega)]
theorem few_chosen {vs : List Va} (hv : validB vs = true) (bits : Nat) : fewB vs (chosenL vs.length bits) = decide (3 * pset vs bits < total vs) := by
  unfold fewB
  rw [chosen_good hv, chosen_sum, Bool.true_and]
theorem pset_pos {vs : List Va} (hv : validB vs = true) : ∀ p ∈ vs.map (·.2), 0 ≤ p := fun p hp => by have := valid_pow hv p hp; omega
theorem pset_range {vs : List Va} (hv : validB vs = true) (bits : Nat) : 0 ≤ pset vs bits ∧ pset vs bits ≤ total vs := by
  rw [(total_valid hv).1]
  exact ⟨pwr_nonneg _ _ _ (pset_pos hv), pwr_le _ _ _ (pset_pos hv)⟩

/-- All bits turned. -/
def turned (a : Nat) : Nat := 18446744073709551615 ^^^ a
theorem turned_lt (a : Nat) (ha : a < 18446744073709551616) : turned a < 18446744073709551616 :=
  Nat.xor_lt_two_pow (n := 64) (by decide) ha
theorem turned_bit (a i : Nat) (hi : i < 64) : (turned a).testBit i = !a.testBit i := by
  unfold turned
  rw [Nat.testBit_xor, show (18446744073709551615 : Nat) = 2 ^ 64 - 1 by decide, Nat.testBit_two_pow_sub_one]
  simp [hi]
theorem pwr_congr (f g : Nat → Bool) : ∀ (ps : List Int) (k : Nat), (∀ i, i < k + ps.length → f i = g i) → pwr ps k f = pwr ps k g
  | [], _, _ => rfl
  | p :: ps, k, h => by
    simp only [pwr]
    rw [h k (by simp), pwr_congr f g ps (k + 1) (fun i hi => h i (by simp only [List.length_cons]; omega))]
theorem pset_turned {vs : List Va} (hv : validB vs = true) (a : Nat) : pset vs a + pset vs (turned a) = total vs := by
  have h := pwr_not (fun i => a.testBit i) (vs.map (·.2)) 0
  rw [(total_valid hv).1, ← h]
  unfold pset
  rw [pwr_congr (fun i => (turned a).testBit i) (fun i => !a.testBit i) (vs.map (·.2)) 0 (fun i hi => turned_bit a i (by have := valid_len hv; simp at hi; omega))]
theorem pset_and {vs : List Va} (hv : validB vs = true) (a b : Nat) : pset vs a + pset vs b ≤ total vs + pset vs (a &&& b) := by
  have h := pwr_split (fun i => a.testBit i) (fun i => b.testBit i) (vs.map (·.2)) 0
  have h2 := pwr_le (fun i => a.testBit i || b.testBit i) (vs.map (·.2)) 0 (pset_pos hv)
  rw [← (total_valid hv).1] at h2
  unfold pset
  rw [show (fun i => (a &&& b).testBit i) = (fun i => a.testBit i && b.testBit i) from funext fun i => Nat.testBit_and a b i]
  omega

theorem meet_no {vs : List Va} (hv : validB vs = true) (a b : Nat) (h1 : enoughB vs (chosenL vs.length a) = true) (h2 : enoughB vs (chosenL vs.length b) = true) : fewB vs (chosenL vs.length (a &&& b)) = false := by
  rw [enough_chosen hv, decide_eq_true_iff] at h1 h2
  rw [few_chosen hv, decide_eq_false_iff_not]
  exact two_quorums _ _ _ _ (pset_and hv a b) h1 h2
theorem meet_rest {vs : List Va} (hv : validB vs = true) (a : Nat) (h : fewB vs (chosenL vs.length a) = true) : enoughB vs (chosenL vs.length (turned a)) = true := by
  rw [few_chosen hv, decide_eq_true_iff] at h
  rw [enough_chosen hv, decide_eq_true_iff]
  exact rest_quorum _ _ _ (pset_turned hv a) h

theorem u64_xor (a : Nat) (ha : a < 18446744073709551616) : Go.bits .xor .u64 IntKind.u64.max (a : Int) = ((turned a : Nat) : Int) := by
  rw [show IntKind.u64.max = ((18446744073709551615 : Nat) : Int) by decide]
  exact bits_xor_u64_nat 18446744073709551615 a (by decide) ha
end Go.Proofs.YtideopnblhbngaaDoor
