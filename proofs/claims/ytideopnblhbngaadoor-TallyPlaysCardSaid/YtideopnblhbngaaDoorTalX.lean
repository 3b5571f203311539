/- A tally and the reference's: what they have in common. -/
import Derived.Test.YtideopnblhbngaaDoorTalV
import Derived.Test.YtideopnblhbngaaDoorNum
namespace Go.Proofs.YtideopnblhbngaaDoor
open Go.RowKit Go.Shelf

/-- The words of one place, by the tally. -/
def oneOf (ws : List (Wd Int)) (i : Nat) : List W3 := match ws[i]? with
  | some (true, k, x) => [(k, (i : Int), x)]
  | _ => []
/-- A tally's words and the reference's are the same. -/
structure TInv (n : Nat) (ws : List (Wd Int)) (xs : List W3) : Prop where
  len : ws.length = n
  each : ∀ i, i < n → (xs.filter fun w => decide (w.2.1 = (i : Int))) = oneOf ws i
  count : ws.countP (fun w => w.1) = xs.length
theorem TInv.start (n : Nat) : TInv n (List.replicate n (false, 0, 0)) [] :=
  ⟨by simp, fun i hi => by simp [oneOf, hi], by simp [List.countP_replicate]⟩
theorem TInv.said {n : Nat} {ws : List (Wd Int)} {xs : List W3} (h : TInv n ws xs) (k : Int) : ∀ j, j ≤ n → saidL j xs k = sel (fun x => decide (x = k)) ws j
  | 0, _ => rfl
  | j + 1, hj => by
    have ih := h.said k j (by omega)
    have hjl : j < ws.length := by rw [h.len]; omega
    rw [saidL_succ, ih]
    have hf : (xs.filter fun w => decide (w.2.1 = (j : Int)) && decide (w.1 = k)) = (oneOf ws j).filter fun w => decide (w.1 = k) := by
      rw [← h.each j (by omega), List.filter_filter]
      congr 1
      funext w
      rw [Bool.and_comm]
    rw [hf]
    obtain ⟨⟨sd, kk, x⟩, hX⟩ : ∃ X, ws[j]? = some X := ⟨_, List.getElem?_eq_getElem hjl⟩
    cases sd with
    | false =>
      rw [sel_no (selAt_unsaid hX)]
      simp [oneOf, hX]
    | true =>
      by_cases hk : kk = k
      · rw [sel_yes hX (decide_eq_true hk)]
        simp [oneOf, hX, hk]
      · rw [sel_no (selAt_other hX (decide_eq_false hk))]
        simp [oneOf, hX, hk]
theorem TInv.who {n : Nat} {ws : List (Wd Int)} {xs : List W3} (h : TInv n ws xs) (k : Int) : whoR n xs k = whoOf ws k := by
  unfold whoR whoOf
  rw [h.said k n (Nat.le_refl _), h.len]
theorem TInv.free {n : Nat} {ws : List (Wd Int)} {xs : List W3} (h : TInv n ws xs) (who : Int) : freeAt ws who = rok n xs who := by
  by_cases hr : 0 ≤ who ∧ who < n
  · obtain ⟨i, rfl⟩ : ∃ i : Nat, who = (i : Int) := ⟨who.toNat, by omega⟩
    have hi : i < n := by omega
    obtain ⟨⟨sd, kk, x⟩, hX⟩ : ∃ X, ws[i]? = some X := ⟨_, List.getElem?_eq_getElem (by rw [h.len]; exact hi)⟩
    have he := h.each i hi
    unfold rok
    rw [decide_eq_true hr, Bool.true_and]
    cases sd with
    | false =>
      have hs : rsaid xs i = false := by
        unfold rsaid
        rw [List.any_eq_false]
        intro y hy hd
        have hm : y ∈ xs.filter fun w => decide (w.2.1 = (i : Int)) := List.mem_filter.2 ⟨hy, hd⟩
        rw [he] at hm
        simp [oneOf, hX] at hm
      rw [hs]
      simp [freeAt, hX]
    | true =>
      have hs : rsaid xs i = true := by
        have hm : (kk, (i : Int), x) ∈ xs.filter fun w => decide (w.2.1 = (i : Int)) := by rw [he]; simp [oneOf, hX]
        obtain ⟨h1, h2⟩ := List.mem_filter.1 hm
        unfold rsaid
        rw [List.any_eq_true]
        exact ⟨_, h1, h2⟩
      rw [hs]
      simp [freeAt, hX]
  · rw [freeAt_out (by rw [h.len]; exact hr)]
    unfold rok
    rw [decide_eq_false hr]
    rfl
theorem TInv.put {n : Nat} {ws : List (Wd Int)} {xs : List W3} (h : TInv n ws xs) (k who x : Int) : TInv n (putW ws k who x) (rputW n xs (k, who, x)) := by
  unfold putW rputW
  rw [← h.free who]
  cases hf : freeAt ws who with
  | false => exact h
  | true =>
    rw [if_pos rfl, if_pos rfl]
    have h0 := freeAt_nonneg hf
    obtain ⟨i, rfl⟩ : ∃ i : Nat, who = (i : Int) := ⟨who.toNat, by omega⟩
    rw [Int.toNat_natCast]
    have hX : ∃ kk xx, ws[i]? = some (false, kk, xx) := by
      unfold freeAt at hf
      simp only [Bool.and_eq_true, Int.toNat_natCast] at hf
      have h2 := hf.2
      split at h2
      · rename_i y hy
        exact ⟨_, _, hy⟩
      · cases h2
    obtain ⟨kk, xx, hX⟩ := hX
    have hi := (List.getElem?_eq_some_iff.1 hX).1
    refine ⟨by rw [List.length_set]; exact h.len, fun j hj => ?_, ?_⟩
    · rw [List.filter_append, h.each j hj]
      by_cases hij : i = j
      · subst hij
        have e1 : oneOf ws i = [] := by simp [oneOf, hX]
        have e2 : oneOf (ws.set i (true, k, x)) i = [(k, (i : Int), x)] := by unfold oneOf; rw [List.getElem?_set_self hi]
        rw [e1, e2]
        simp
      · simp only [oneOf, List.getElem?_set_ne hij]
        have : (decide ((i : Int) = (j : Int))) = false := decide_eq_false (by omega)
        simp [this]
    · have e : ws[i] = (false, kk, xx) := by
        have := List.getElem?_eq_getElem hi
        rw [hX] at this
        exact (Option.some.inj this).symm
      rw [List.countP_set hi, e, List.length_append, ← h.count]
      simp
theorem sel_count (ws : List (Wd Int)) : ∀ j, j ≤ ws.length → (sel (fun _ => true) ws j).length = (ws.take j).countP (fun w => w.1)
  | 0, _ => by simp [sel_zero]
  | j + 1, hj => by
    have ih := sel_count ws j (by omega)
    obtain ⟨⟨sd, kk, x⟩, hX⟩ : ∃ X, ws[j]? = some X := ⟨_, List.getElem?_eq_getElem (by omega)⟩
    rw [List.take_add_one, hX, List.countP_append]
    cases sd with
    | false =>
      rw [sel_no (selAt_unsaid hX), ih]
      simp
    | true =>
      rw [sel_yes hX rfl, List.length_append, ih]
      simp
theorem TInv.n {n : Nat} {ws : List (Wd Int)} {xs : List W3} (h : TInv n ws xs) : saidN ws = xs.length := by
  unfold saidN
  rw [sel_count ws _ (Nat.le_refl _), List.take_length, h.count]
theorem TInv.bool {n : Nat} {ws : List (Wd Int)} {xs : List W3} (h : TInv n ws xs) (va : List Va) (k who x : Int) : putB va ws k who x = rputB va n xs (k, who, x) := by
  unfold putB rputB
  rw [h.free who, h.who k, (h.put k who x).who k]
theorem TInv.err {n : Nat} {ws : List (Wd Int)} {xs : List W3} (h : TInv n ws xs) (who : Int) (al : List Addr) (aR aT : Addr) (w : World) (hs : SenN w al) (hR : al[0]? = some aR) (hT : al[16]? = some aT) :
    Calls Tryd.prog 38 #[putE ws who aR aT] w fun e w' => e = .returned (.int .i64 (rputE n xs who)) ∧ Below w.heap.size w w' := by
  unfold putE rputE
  rw [h.len]
  by_cases hr : 0 ≤ who ∧ who < n
  · rw [if_pos hr, if_pos hr, h.free who]
    unfold rok
    rw [decide_eq_true hr]
    cases rsaid xs who with
    | false =>
      refine (num_nil w).mono ?_
      rintro _ _ ⟨rfl, rfl⟩
      exact ⟨rfl, Below.refl _ _⟩
    | true => exact num_err al 16 aT w hs hT
  · rw [if_neg hr, if_neg hr]
    exact num_err al 0 aR w hs hR
end Go.Proofs.YtideopnblhbngaaDoor
