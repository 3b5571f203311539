/- At most one key of a tally is ever enough. -/
import Derived.Test.YtideopnblhbngaaDoorTalR
import Derived.Test.YtideopnblhbngaaDoorPowLaw
namespace Go.Proofs.YtideopnblhbngaaDoor
open Go.RowKit Go.Shelf

def pAt (vs : List Va) (i : Nat) : Int := (vs.getD i ([], 0)).2
/-- The power of those of the first j that said such a key. -/
def pUp (vs : List Va) (q : Int → Bool) (ws : List (Wd Int)) (j : Nat) : Int := (powAt vs ((sel q ws j).map (·.1))).sum
theorem powAt_snoc (vs : List Va) (l : List Int) (i : Nat) : (powAt vs (l ++ [(i : Int)])).sum = (powAt vs l).sum + pAt vs i := by
  simp [powAt, pAt]
theorem pUp_yes {vs : List Va} {q : Int → Bool} {ws : List (Wd Int)} {j : Nat} {k x : Int} (h : ws[j]? = some (true, k, x)) (hq : q k = true) : pUp vs q ws (j + 1) = pUp vs q ws j + pAt vs j := by
  unfold pUp
  rw [sel_yes h hq, List.map_append]
  exact powAt_snoc vs _ j
theorem pUp_no {vs : List Va} {q : Int → Bool} {ws : List (Wd Int)} {j : Nat} (h : selAt q ws j = none) : pUp vs q ws (j + 1) = pUp vs q ws j := by
  unfold pUp
  rw [sel_no h]
def tUp (vs : List Va) (j : Nat) : Int := ((vs.take j).map (·.2)).sum
theorem tUp_succ {vs : List Va} {j : Nat} (h : j < vs.length) : tUp vs (j + 1) = tUp vs j + pAt vs j := by
  unfold tUp pAt
  rw [List.take_succ_eq_append_getElem h, List.map_append, List.sum_append]
  simp [List.getD_eq_getElem?_getD, h]
/-- Two keys' powers together are not more than all. -/
theorem pUp_two {vs : List Va} (hp : ∀ i, 0 ≤ pAt vs i) (ws : List (Wd Int)) (k k' : Int) (hne : k ≠ k') : ∀ j, j ≤ ws.length → j ≤ vs.length → pUp vs (fun x => decide (x = k)) ws j + pUp vs (fun x => decide (x = k')) ws j ≤ tUp vs j
  | 0, _, _ => by simp [pUp, tUp, sel_zero, powAt]
  | j + 1, h1, h2 => by
    have ih := pUp_two hp ws k k' hne j (by omega) (by omega)
    rw [tUp_succ (by omega)]
    have hpj := hp j
    obtain ⟨⟨sd, kk, x⟩, hX⟩ : ∃ X, ws[j]? = some X := ⟨_, List.getElem?_eq_getElem (by omega)⟩
    cases sd with
    | false =>
      rw [pUp_no (selAt_unsaid hX), pUp_no (selAt_unsaid hX)]
      omega
    | true =>
      by_cases hk : kk = k
      · have hk' : kk ≠ k' := fun e => hne (hk.symm.trans e)
        rw [pUp_yes hX (decide_eq_true hk), pUp_no (selAt_other hX (decide_eq_false hk'))]
        omega
      · rw [pUp_no (selAt_other hX (decide_eq_false hk))]
        by_cases hk' : kk = k'
        · rw [pUp_yes hX (decide_eq_true hk')]
          omega
        · rw [pUp_no (selAt_other hX (decide_eq_false hk'))]
          omega
/-- A word more takes no power away; another key's word adds none. -/
theorem pUp_set {vs : List Va} (hp : ∀ i, 0 ≤ pAt vs i) {ws : List (Wd Int)} {i : Nat} {k kk x xx : Int} (h : ws[i]? = some (false, kk, xx)) (k' : Int) : ∀ j, j ≤ ws.length → pUp vs (fun x => decide (x = k')) ws j ≤ pUp vs (fun x => decide (x = k')) (ws.set i (true, k, x)) j ∧ (k ≠ k' → pUp vs (fun x => decide (x = k')) (ws.set i (true, k, x)) j = pUp vs (fun x => decide (x = k')) ws j)
  | 0, _ => by simp [pUp, sel_zero]
  | j + 1, hj => by
    obtain ⟨ih1, ih2⟩ := pUp_set hp (k := k) (x := x) h k' j (by omega)
    have hpj := hp j
    have hi := (List.getElem?_eq_some_iff.1 h).1
    by_cases hij : i = j
    · subst hij
      have hX : (ws.set i (true, k, x))[i]? = some (true, k, x) := List.getElem?_set_self hi
      rw [pUp_no (selAt_unsaid h)]
      by_cases hk : k = k'
      · rw [pUp_yes hX (decide_eq_true hk)]
        exact ⟨by omega, fun hne => absurd hk hne⟩
      · rw [pUp_no (selAt_other hX (decide_eq_false hk))]
        exact ⟨ih1, ih2⟩
    · obtain ⟨⟨sd, k2, x2⟩, hX⟩ : ∃ X, ws[j]? = some X := ⟨_, List.getElem?_eq_getElem (by omega)⟩
      have hX' : (ws.set i (true, k, x))[j]? = some (sd, k2, x2) := by rw [List.getElem?_set_ne hij]; exact hX
      cases sd with
      | false =>
        rw [pUp_no (selAt_unsaid hX), pUp_no (selAt_unsaid hX')]
        exact ⟨ih1, ih2⟩
      | true =>
        by_cases hk : k2 = k'
        · rw [pUp_yes hX (decide_eq_true hk), pUp_yes hX' (decide_eq_true hk)]
          exact ⟨by omega, fun hne => by rw [ih2 hne]⟩
        · rw [pUp_no (selAt_other hX (decide_eq_false hk)), pUp_no (selAt_other hX' (decide_eq_false hk))]
          exact ⟨ih1, ih2⟩
theorem pAt_valid {vs : List Va} (h : validB vs = true) (i : Nat) : 0 ≤ pAt vs i := by
  unfold pAt
  by_cases hi : i < vs.length
  · have := valid_pow h (vs[i]).2 (List.mem_map.2 ⟨_, List.getElem_mem hi, rfl⟩)
    rw [List.getD_eq_getElem?_getD, List.getElem?_eq_getElem hi]
    exact Int.le_trans (by decide) this.1
  · rw [List.getD_eq_getElem?_getD, List.getElem?_eq_none (by omega)]
    exact Int.le_refl _
theorem enough_pUp {vs : List Va} {ws : List (Wd Int)} (k : Int) (hv : validB vs = true) (hl : ws.length = vs.length) : enoughB vs (whoOf ws k) = decide (quorum vs ≤ pUp vs (fun x => decide (x = k)) ws ws.length) := by
  unfold enoughB
  rw [whoOf_good k hv hl, Bool.true_and]
  rfl
/-- What the number of those that came to be enough is. -/
structure YInv (vs : List Va) (ws : List (Wd Int)) (yes : Nat) : Prop where
  len : ws.length = vs.length
  le : yes ≤ 1
  one : yes = 1 → ∃ k, enoughB vs (whoOf ws k) = true
  zero : yes = 0 → ∀ k, enoughB vs (whoOf ws k) = false
theorem not_two {vs : List Va} {ws : List (Wd Int)} (hv : validB vs = true) (hl : ws.length = vs.length) {k k' : Int} (hne : k ≠ k') (h1 : enoughB vs (whoOf ws k) = true) (h2 : enoughB vs (whoOf ws k') = true) : False := by
  rw [enough_pUp k hv hl, decide_eq_true_iff] at h1
  rw [enough_pUp k' hv hl, decide_eq_true_iff] at h2
  have h3 := pUp_two (pAt_valid hv) ws k k' hne ws.length (Nat.le_refl _) (by omega)
  have h4 : tUp vs ws.length = total vs := by
    unfold tUp
    rw [hl, List.take_length, (total_valid hv).1]
  have h5 := (total_valid hv).2.2.1
  unfold quorum at h1 h2
  rw [if_neg (by omega)] at h1 h2
  omega
theorem YInv.start {vs : List Va} (hv : validB vs = true) (n : Nat) (hn : n = vs.length) : YInv vs (List.replicate n (false, 0, 0)) 0 := by
  refine ⟨by simp [hn], by omega, fun h => by omega, fun _ k => ?_⟩
  rw [enough_pUp k hv (by simp [hn])]
  refine decide_eq_false ?_
  have h0 : ∀ j, j ≤ n → pUp vs (fun x => decide (x = k)) (List.replicate n (false, 0, 0)) j = 0 := by
    intro j
    induction j with
    | zero => intro _; simp [pUp, sel_zero, powAt]
    | succ j ih =>
      intro hj
      have hX : (List.replicate n ((false, 0, 0) : Wd Int))[j]? = some (false, 0, 0) := by rw [List.getElem?_replicate, if_pos (by omega)]
      rw [pUp_no (selAt_unsaid hX)]
      exact ih (by omega)
  rw [h0 _ (by simp)]
  have h5 := (total_valid hv).2.2.1
  unfold quorum
  rw [if_neg (by omega)]
  omega
theorem YInv.put {vs : List Va} {ws : List (Wd Int)} {yes : Nat} (h : YInv vs ws yes) (hv : validB vs = true) (k who x : Int) : YInv vs (putW ws k who x) (if putB vs ws k who x then yes + 1 else yes) := by
  have hl' : (putW ws k who x).length = vs.length := by rw [putW_len]; exact h.len
  cases hf : freeAt ws who with
  | false =>
    have hw : putW ws k who x = ws := by unfold putW; rw [hf]; rfl
    have hb : putB vs ws k who x = false := by unfold putB; rw [hf]; rfl
    rw [hw, hb]
    exact h
  | true =>
    have h0 := freeAt_nonneg hf
    obtain ⟨i, rfl⟩ : ∃ i : Nat, who = (i : Int) := ⟨who.toNat, by omega⟩
    have hX : ∃ kk xx, ws[i]? = some (false, kk, xx) := by
      unfold freeAt at hf
      simp only [Bool.and_eq_true, Int.toNat_natCast] at hf
      have h2 := hf.2
      split at h2
      · rename_i y hy
        exact ⟨_, _, hy⟩
      · cases h2
    obtain ⟨kk, xx, hX⟩ := hX
    have hw : putW ws k i x = ws.set i (true, k, x) := by unfold putW; rw [hf, Int.toNat_natCast]; rfl
    have hmono : ∀ k', enoughB vs (whoOf ws k') = true → enoughB vs (whoOf (putW ws k i x) k') = true := by
      intro k' he
      rw [enough_pUp k' hv h.len, decide_eq_true_iff] at he
      rw [enough_pUp k' hv hl', decide_eq_true_iff, putW_len, hw]
      have := (pUp_set (pAt_valid hv) (k := k) (x := x) hX k' ws.length (Nat.le_refl _)).1
      omega
    have hsame : ∀ k', k ≠ k' → enoughB vs (whoOf (putW ws k i x) k') = enoughB vs (whoOf ws k') := by
      intro k' hne
      rw [enough_pUp k' hv h.len, enough_pUp k' hv hl', putW_len, hw, (pUp_set (pAt_valid hv) (k := k) (x := x) hX k' ws.length (Nat.le_refl _)).2 hne]
    have hb : putB vs ws k i x = (!enoughB vs (whoOf ws k) && enoughB vs (whoOf (putW ws k i x) k)) := by unfold putB; rw [hf, Bool.true_and]
    rw [hb]
    cases h1 : enoughB vs (whoOf ws k) with
    | true =>
      simp only [Bool.not_true, Bool.false_and, Bool.false_eq_true, if_false]
      refine ⟨hl', h.le, fun _ => ⟨k, hmono k h1⟩, fun hz => ?_⟩
      rw [h.zero hz k] at h1
      cases h1
    | false =>
      cases h2 : enoughB vs (whoOf (putW ws k i x) k) with
      | false =>
        simp only [Bool.not_false, Bool.true_and, Bool.false_eq_true, if_false]
        refine ⟨hl', h.le, fun ho => ?_, fun hz k' => ?_⟩
        · obtain ⟨k', hk'⟩ := h.one ho
          exact ⟨k', hmono k' hk'⟩
        · by_cases hkk : k = k'
          · rw [← hkk]; exact h2
          · rw [hsame k' hkk]; exact h.zero hz k'
      | true =>
        simp only [Bool.not_false, Bool.and_self, if_true]
        have hy : yes = 0 := by
          have := h.le
          by_cases ho : yes = 1
          · obtain ⟨k', hk'⟩ := h.one ho
            have hne : k ≠ k' := fun e => by rw [e, hk'] at h1; cases h1
            exact (not_two hv hl' hne h2 (hmono k' hk')).elim
          · omega
        exact ⟨hl', by omega, fun _ => ⟨k, h2⟩, fun hz => by omega⟩
end Go.Proofs.YtideopnblhbngaaDoor
