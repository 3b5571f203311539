/- Plain lists: the digits of a digest. -/
namespace Go.Proofs.YtdedphhohiioiaaDoor

def four (b : Int) : List Int := [b / 64 % 4, b / 16 % 4, b / 4 % 4, b % 4]
def top (bs : List Int) : List Int := bs.flatMap four
def lack : List Int → Int
  | [] => 0
  | x :: xs => (3 - x) + lack xs
def last4 (s : Int) : List Int := [s / 64 % 4, s / 16 % 4, s / 4 % 4, s % 4]
def digits (bs : List Int) : List Int := top bs ++ last4 (lack (top bs))

theorem lack_append (xs ys : List Int) : lack (xs ++ ys) = lack xs + lack ys := by
  induction xs with
  | nil => simp [lack]
  | cons x xs ih => simp only [List.cons_append, lack, ih]; omega
theorem lack_one (x : Int) : lack [x] = 3 - x := by simp [lack]

theorem four_len (b : Int) : (four b).length = 4 := rfl
theorem top_len (bs : List Int) : (top bs).length = 4 * bs.length := by
  induction bs with
  | nil => rfl
  | cons b bs ih => simp only [top, List.flatMap_cons, List.length_append, List.length_cons] at ih ⊢; simp only [four_len, ih]; omega
theorem four_range (b : Int) : ∀ x ∈ four b, 0 ≤ x ∧ x ≤ 3 := by
  intro x hx
  simp only [four, List.mem_cons, List.not_mem_nil, or_false] at hx
  omega
theorem top_range (bs : List Int) : ∀ x ∈ top bs, 0 ≤ x ∧ x ≤ 3 := by
  intro x hx
  obtain ⟨b, _, hb⟩ := List.mem_flatMap.1 hx
  exact four_range b x hb
theorem lack_range (xs : List Int) (h : ∀ x ∈ xs, 0 ≤ x ∧ x ≤ 3) : 0 ≤ lack xs ∧ lack xs ≤ 3 * xs.length := by
  induction xs with
  | nil => simp [lack]
  | cons x xs ih =>
    have h1 := h x (by simp)
    have h2 := ih (fun y hy => h y (by simp [hy]))
    simp only [lack, List.length_cons]
    omega
theorem top_take_succ (bs : List Int) (k : Nat) (h : k < bs.length) : top (bs.take (k + 1)) = top (bs.take k) ++ four bs[k] := by
  rw [List.take_succ_eq_append_getElem h]
  unfold top
  rw [List.flatMap_append]
  simp
theorem digits_len (bs : List Int) : (digits bs).length = 4 * bs.length + 4 := by
  simp [digits, top_len, last4]
theorem digits_range (bs : List Int) : ∀ x ∈ digits bs, 0 ≤ x ∧ x ≤ 3 := by
  intro x hx
  rcases List.mem_append.1 hx with h | h
  · exact top_range bs x h
  · simp only [last4, List.mem_cons, List.not_mem_nil, or_false] at h
    omega
theorem dig_bd (bs : List Int) (k j : Nat) (b : Int) (hk : k ≤ 16) (hj : j ≤ 4) : 0 ≤ lack (top (bs.take k) ++ (four b).take j) ∧ lack (top (bs.take k) ++ (four b).take j) ≤ 3 * 68 := by
  have h := lack_range (top (bs.take k) ++ (four b).take j) (by
    intro x hx
    rcases List.mem_append.1 hx with h | h
    · exact top_range _ x h
    · exact four_range b x (List.mem_of_mem_take h))
  have h1 : (bs.take k).length ≤ k := List.length_take_le _ _
  simp only [List.length_append, top_len, List.length_take, four_len] at h
  omega
theorem dig_lo (bs : List Int) (k j : Nat) (b : Int) (hk : k ≤ 16) (hj : j ≤ 4) : 0 ≤ lack (top (bs.take k) ++ (four b).take j) := (dig_bd bs k j b hk hj).1
theorem dig_hi (bs : List Int) (k j : Nat) (b : Int) (hk : k ≤ 16) (hj : j ≤ 4) : lack (top (bs.take k) ++ (four b).take j) ≤ 3 * 68 := (dig_bd bs k j b hk hj).2
end Go.Proofs.YtdedphhohiioiaaDoor
