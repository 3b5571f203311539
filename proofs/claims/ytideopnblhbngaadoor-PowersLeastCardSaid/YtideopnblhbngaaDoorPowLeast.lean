/- Validators of one power: the plain laws. -/
import Derived.Test.YtideopnblhbngaaDoorPowLaw
namespace Go.Proofs.YtideopnblhbngaaDoor
open Go.RowKit

/-- The key whose first byte is i. -/
def keyN (i : Nat) : List Int := [(i : Int), 0, 0, 0, 0, 0, 0, 0, 0, 0, 0, 0, 0, 0, 0, 0]
/-- Validators of one power. -/
def evens (n : Nat) (p : Int) : List Va := (List.range n).map fun i => (keyN i, p)
theorem evens_len (n : Nat) (p : Int) : (evens n p).length = n := by simp [evens]
theorem evens_good (n : Nat) (p : Int) : ∀ x ∈ evens n p, x.1.length = 16 := by
  intro x hx
  simp only [evens, List.mem_map] at hx
  obtain ⟨i, _, rfl⟩ := hx
  rfl
theorem evens_succ (n : Nat) (p : Int) : evens (n + 1) p = evens n p ++ [(keyN n, p)] := by
  unfold evens
  rw [List.range_succ, List.map_append]
  rfl
theorem evens_at (n : Nat) (p : Int) (i : Nat) (hi : i < n) : (evens n p).getD i ([], 0) = (keyN i, p) := by
  simp [evens, List.getD_eq_getElem?_getD, hi]
theorem keyN_inj {i j : Nat} (h : keyN i = keyN j) : i = j := by
  simp only [keyN, List.cons.injEq] at h
  exact_mod_cast h.1
theorem evens_valid (n : Nat) (p : Int) (h1 : 1 ≤ n) (h7 : n ≤ 7) (hp : 1 ≤ p) (hq : p ≤ 1000000) : validB (evens n p) = true := by
  rw [validB_iff, evens_len]
  refine ⟨⟨h1, h7⟩, fun i hi => ?_⟩
  rw [evens_at n p i hi]
  refine ⟨hp, by show p ≤ _; omega, ?_⟩
  refine findK_at _ _ _ (by rw [evens_len]; exact hi) (by rw [evens_at n p i hi]) fun j hj h => ?_
  rw [evens_at n p j (by omega)] at h
  have := keyN_inj h
  omega
theorem evens_pow (n : Nat) (p : Int) : (evens n p).map (·.2) = List.replicate n p := by
  apply List.ext_getElem
  · simp [evens]
  · intro i h1 h2
    simp [evens]
theorem evens_total (n : Nat) (p : Int) (h1 : 1 ≤ n) (h7 : n ≤ 7) (hp : 1 ≤ p) (hq : p ≤ 1000000) : total (evens n p) = n * p := by
  rw [(total_valid (evens_valid n p h1 h7 hp hq)).1, evens_pow, sum_replicate]

/-- The first m places. -/
def firsts (m : Nat) : List Int := (List.range m).map fun (i : Nat) => (i : Int)
theorem firsts_succ (m : Nat) : firsts (m + 1) = firsts m ++ [(m : Int)] := by
  unfold firsts
  rw [List.range_succ, List.map_append]
  rfl
theorem firsts_len (m : Nat) : (firsts m).length = m := by simp [firsts]
theorem firsts_good (n m : Nat) (p : Int) (h1 : 1 ≤ n) (h7 : n ≤ 7) (hp : 1 ≤ p) (hq : p ≤ 1000000) (hm : m ≤ n) : goodW (evens n p) (firsts m) = true := by
  refine (goodW_iff _ _).2 ⟨evens_valid n p h1 h7 hp hq, (inR_iff _ _).2 fun i hi => ?_, ?_⟩
  · rw [evens_len]
    simp only [firsts, List.mem_map, List.mem_range] at hi
    obtain ⟨j, hj, rfl⟩ := hi
    omega
  · unfold firsts
    rw [List.nodup_iff_pairwise_ne, List.pairwise_map]
    refine List.Pairwise.imp ?_ (List.nodup_iff_pairwise_ne.1 List.nodup_range)
    intro a b h e
    exact h (by omega)
theorem firsts_sum (n m : Nat) (p : Int) (hm : m ≤ n) : (powAt (evens n p) (firsts m)).sum = m * p := by
  rw [← sumAt_all p n m hm]
  unfold powAt firsts sumAt
  rw [List.map_map]
  congr 1
  apply List.map_congr_left
  intro i hi
  have hi' : i < n := by simp at hi; omega
  simp only [Function.comp_apply, Int.toNat_natCast]
  rw [evens_at n p i hi']
  simp [List.getD_eq_getElem?_getD, hi']
theorem least_enoughB (n m : Nat) (p : Int) (h1 : 1 ≤ n) (h7 : n ≤ 7) (hp : 1 ≤ p) (hq : p ≤ 1000000) (hm : m ≤ n) : enoughB (evens n p) (firsts m) = decide (2 * (n : Int) < 3 * m) := by
  unfold enoughB
  rw [firsts_good n m p h1 h7 hp hq hm, Bool.true_and, firsts_sum n m p hm]
  have ht := evens_total n p h1 h7 hp hq
  have hpos := (total_valid (evens_valid n p h1 h7 hp hq)).2.2.1
  unfold quorum
  rw [if_neg (by omega), ht]
  exact decide_eq_decide.2 (least_enough n m p hp)
theorem least_fewB (n m : Nat) (p : Int) (h1 : 1 ≤ n) (h7 : n ≤ 7) (hp : 1 ≤ p) (hq : p ≤ 1000000) (hm : m ≤ n) : fewB (evens n p) (firsts m) = decide (3 * (m : Int) < n) := by
  unfold fewB
  rw [firsts_good n m p h1 h7 hp hq hm, Bool.true_and, firsts_sum n m p hm, evens_total n p h1 h7 hp hq]
  exact decide_eq_decide.2 (least_few n m p hp)
end Go.Proofs.YtideopnblhbngaaDoor
