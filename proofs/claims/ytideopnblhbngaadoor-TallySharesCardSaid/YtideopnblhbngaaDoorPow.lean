/- Sums of powers over some places: the plain laws. -/
namespace Go.Proofs.YtideopnblhbngaaDoor

/-- The powers at the places (from k on) where f holds, together. -/
def pwr : List Int → Nat → (Nat → Bool) → Int
  | [], _, _ => 0
  | p :: ps, k, f => (if f k then p else 0) + pwr ps (k + 1) f

theorem pwr_split (f g : Nat → Bool) : ∀ (ps : List Int) (k : Nat), pwr ps k f + pwr ps k g = pwr ps k (fun i => f i || g i) + pwr ps k (fun i => f i && g i)
  | [], _ => rfl
  | p :: ps, k => by
    have ih := pwr_split f g ps (k + 1)
    simp only [pwr]
    by_cases hf : f k = true <;> by_cases hg : g k = true <;> simp [hf, hg] <;> omega
theorem pwr_mono (f g : Nat → Bool) (h : ∀ i, f i = true → g i = true) : ∀ (ps : List Int) (k : Nat), (∀ p ∈ ps, 0 ≤ p) → pwr ps k f ≤ pwr ps k g
  | [], _, _ => Int.le_refl _
  | p :: ps, k, hp => by
    have ih := pwr_mono f g h ps (k + 1) (fun x hx => hp x (List.mem_cons_of_mem _ hx))
    have h0 := hp p (by simp)
    have hk := h k
    simp only [pwr]
    by_cases hf : f k = true <;> by_cases hg : g k = true <;> simp_all <;> omega
theorem pwr_true : ∀ (ps : List Int) (k : Nat), pwr ps k (fun _ => true) = ps.sum
  | [], _ => rfl
  | p :: ps, k => by simp [pwr, pwr_true ps (k + 1)]
theorem pwr_false : ∀ (ps : List Int) (k : Nat), pwr ps k (fun _ => false) = 0
  | [], _ => rfl
  | p :: ps, k => by simp [pwr, pwr_false ps (k + 1)]
theorem pwr_not (f : Nat → Bool) (ps : List Int) (k : Nat) : pwr ps k f + pwr ps k (fun i => !f i) = ps.sum := by
  have h := pwr_split f (fun i => !f i) ps k
  rw [show (fun i => f i || !f i) = (fun _ => true) from funext fun i => by cases f i <;> rfl, show (fun i => f i && !f i) = (fun _ => false) from funext fun i => by cases f i <;> rfl, pwr_true, pwr_false] at h
  omega
theorem pwr_nonneg (f : Nat → Bool) (ps : List Int) (k : Nat) (hp : ∀ p ∈ ps, 0 ≤ p) : 0 ≤ pwr ps k f := by
  have := pwr_mono (fun _ => false) f (fun _ h => by cases h) ps k hp
  rwa [pwr_false] at this
theorem pwr_le (f : Nat → Bool) (ps : List Int) (k : Nat) (hp : ∀ p ∈ ps, 0 ≤ p) : pwr ps k f ≤ ps.sum := by
  have := pwr_mono f (fun _ => true) (fun _ _ => rfl) ps k hp
  rwa [pwr_true] at this

/-- The powers of the places of a list, together. -/
def sumAt (ps : List Int) (who : List Nat) : Int := (who.map fun i => ps.getD i 0).sum

theorem sumAt_chosen (f : Nat → Bool) : ∀ (ps : List Int) (k : Nat) (qs : List Int), (∀ i, ps.getD i 0 = qs.getD (k + i) 0) → sumAt qs ((List.range' k ps.length).filter f) = pwr ps k f
  | [], k, qs, _ => rfl
  | p :: ps, k, qs, h => by
    have ih := sumAt_chosen f ps (k + 1) qs (fun i => by have := h (i + 1); simpa [Nat.add_assoc, Nat.add_comm 1 i] using this)
    have h0 : p = qs.getD k 0 := by simpa using h 0
    simp only [pwr, List.length_cons, List.range'_succ, List.filter_cons]
    by_cases hf : f k = true
    rotate_left
    · simpa [hf] using ih
    · simp only [hf, if_true, sumAt, List.map_cons, List.sum_cons] at ih ⊢
      rw [ih, h0]
theorem sumAt_filter (f : Nat → Bool) (ps : List Int) : sumAt ps ((List.range ps.length).filter f) = pwr ps 0 f := by
  rw [List.range_eq_range']
  exact sumAt_chosen f ps 0 ps (fun i => by simp)

/-- Quorum and few. -/
theorem two_quorums (T x y b : Int) (h : x + y ≤ T + b) (hx : 2 * T / 3 + 1 ≤ x) (hy : 2 * T / 3 + 1 ≤ y) : ¬ 3 * b < T := by omega
theorem rest_quorum (T x y : Int) (h : x + y = T) (hx : 3 * x < T) : 2 * T / 3 + 1 ≤ y := by omega
theorem least_enough (n m p : Int) (hp : 1 ≤ p) : 2 * (n * p) / 3 + 1 ≤ m * p ↔ 2 * n < 3 * m := by
  rw [show 2 * (n * p) / 3 + 1 ≤ m * p ↔ 2 * n * p < 3 * m * p by rw [Int.mul_assoc, Int.mul_assoc]; omega]
  exact Int.mul_lt_mul_right (by omega)
theorem least_few (n m p : Int) (hp : 1 ≤ p) : 3 * (m * p) < n * p ↔ 3 * m < n := by
  rw [← Int.mul_assoc]
  exact Int.mul_lt_mul_right (by omega)
theorem sum_replicate (n : Nat) (p : Int) : (List.replicate n p).sum = n * p := by
  induction n with
  | zero => simp
  | succ n ih => rw [List.replicate_succ, List.sum_cons, ih, Int.natCast_add, Int.add_mul]; omega
theorem sumAt_all (p : Int) (n : Nat) : ∀ m, m ≤ n → sumAt (List.replicate n p) (List.range m) = m * p := by
  intro m hm
  rw [show sumAt (List.replicate n p) (List.range m) = (List.replicate m p).sum from ?_, sum_replicate]
  unfold sumAt
  congr 1
  apply List.ext_getElem
  · simp
  · intro i h1 h2
    have : i < n := by simp at h1; omega
    simp [List.getD_eq_getElem?_getD, this]
theorem sumAt_reverse (ps : List Int) (who : List Nat) : sumAt ps who.reverse = sumAt ps who := by
  unfold sumAt
  rw [List.map_reverse, List.sum_reverse]
end Go.Proofs.YtideopnblhbngaaDoor
