/- Plain lists: of two different digests each has a lesser digit. -/
import Derived.Test.YtdedphhohiioiaaPlain
namespace Go.Proofs.Ytdedphhohiioiaa

/-- No digit of the first is less than the other's. -/
def NoLess (xs ys : List Int) : Prop := ∀ i, i < xs.length → ys.getD i 0 ≤ xs.getD i 0

theorem lack_mono : ∀ (xs ys : List Int), xs.length = ys.length → NoLess xs ys → lack xs ≤ lack ys ∧ (lack xs = lack ys → xs = ys)
  | [], [], _, _ => by simp
  | x :: xs, y :: ys, hl, h => by
    have h0 := h 0 (by simp)
    have hr := lack_mono xs ys (by simpa using hl) (fun i hi => by simpa using h (i + 1) (by simpa using hi))
    simp only [List.getD_cons_zero] at h0
    simp only [lack]
    refine ⟨by omega, fun e => ?_⟩
    have e1 : x = y := by omega
    have e2 : xs = ys := hr.2 (by omega)
    rw [e1, e2]
  | [], _ :: _, hl, _ => by simp at hl
  | _ :: _, [], hl, _ => by simp at hl

theorem four_inj {b c : Int} (hb : 0 ≤ b ∧ b ≤ 255) (hc : 0 ≤ c ∧ c ≤ 255) (h : four b = four c) : b = c := by
  simp only [four, List.cons.injEq, and_true] at h
  omega

theorem top_inj : ∀ (p q : List Int), p.length = q.length → (∀ b ∈ p, 0 ≤ b ∧ b ≤ 255) → (∀ b ∈ q, 0 ≤ b ∧ b ≤ 255) → top p = top q → p = q
  | [], [], _, _, _, _ => rfl
  | b :: p, c :: q, hl, hp, hq, h => by
    simp only [top, List.flatMap_cons] at h
    have hlen : (four b).length = (four c).length := rfl
    obtain ⟨h1, h2⟩ := List.append_inj h hlen
    rw [four_inj (hp b (by simp)) (hq c (by simp)) h1, top_inj p q (by simpa using hl) (fun x hx => hp x (by simp [hx])) (fun x hx => hq x (by simp [hx])) h2]
  | [], _ :: _, hl, _, _, _ => by simp at hl
  | _ :: _, [], hl, _, _, _ => by simp at hl

theorem num4 (s : Int) (h0 : 0 ≤ s) (h1 : s < 256) : s = 64 * (s / 64 % 4) + 16 * (s / 16 % 4) + 4 * (s / 4 % 4) + s % 4 := by omega

theorem noLess_eq (p q : List Int) (hl : p.length = 16) (hm : q.length = 16) (hp : ∀ b ∈ p, 0 ≤ b ∧ b ≤ 255) (hq : ∀ b ∈ q, 0 ≤ b ∧ b ≤ 255) (h : NoLess (digits p) (digits q)) : p = q := by
  have lp := top_len p
  have lq := top_len q
  have h1 : NoLess (top p) (top q) := fun i hi => by
    have := h i (by rw [digits_len]; omega)
    simp only [digits, List.getD_eq_getElem?_getD] at this
    rwa [List.getElem?_append_left (by omega), List.getElem?_append_left (by omega)] at this
  obtain ⟨h2, h3⟩ := lack_mono _ _ (by omega) h1
  have at4 : ∀ j, j < 4 → (last4 (lack (top q))).getD j 0 ≤ (last4 (lack (top p))).getD j 0 := fun j hj => by
    have := h (64 + j) (by rw [digits_len]; omega)
    simp only [digits, List.getD_eq_getElem?_getD] at this
    rw [List.getElem?_append_right (by omega), List.getElem?_append_right (by omega)] at this
    simpa [lp, lq, hl, hm, List.getD_eq_getElem?_getD] using this
  have a0 := at4 0 (by omega)
  have a1 := at4 1 (by omega)
  have a2 := at4 2 (by omega)
  have a3 := at4 3 (by omega)
  have r1 := lack_range (top p) (top_range p)
  have r2 := lack_range (top q) (top_range q)
  simp only [last4, List.getD_cons_zero, List.getD_cons_succ] at a0 a1 a2 a3
  have n1 := num4 _ r1.1 (by omega)
  have n2 := num4 _ r2.1 (by omega)
  refine top_inj p q (by omega) hp hq (h3 ?_)
  clear r1 r2 lp lq h1 h3 at4
  generalize lack (top p) = s at *
  generalize lack (top q) = t at *
  generalize s / 64 % 4 = s0 at *
  generalize s / 16 % 4 = s1 at *
  generalize s / 4 % 4 = s2 at *
  generalize s % 4 = s3 at *
  generalize t / 64 % 4 = t0 at *
  generalize t / 16 % 4 = t1 at *
  generalize t / 4 % 4 = t2 at *
  generalize t % 4 = t3 at *
  omega

/-- Is a digit up to k less? -/
def lessB (xs ys : List Int) (k : Nat) : Bool := (List.range k).any fun i => decide (xs.getD i 0 < ys.getD i 0)
theorem lessB_succ (xs ys : List Int) (k : Nat) : lessB xs ys (k + 1) = (lessB xs ys k || decide (xs.getD k 0 < ys.getD k 0)) := by
  simp [lessB, List.range_succ]
theorem lessB_all (p q : List Int) (hl : p.length = 16) (hm : q.length = 16) (hp : ∀ b ∈ p, 0 ≤ b ∧ b ≤ 255) (hq : ∀ b ∈ q, 0 ≤ b ∧ b ≤ 255) : lessB (digits p) (digits q) 68 = !decide (p = q) := by
  by_cases e : p = q
  · subst e
    simp [lessB]
  · rw [decide_eq_false e]
    cases hb : lessB (digits p) (digits q) 68 with
    | true => rfl
    | false =>
      refine absurd (noLess_eq p q hl hm hp hq (fun i hi => ?_)) e
      rw [digits_len] at hi
      simp only [lessB, List.any_eq_false, List.mem_range, decide_eq_true_eq] at hb
      have := hb i (by omega)
      omega
end Go.Proofs.Ytdedphhohiioiaa
