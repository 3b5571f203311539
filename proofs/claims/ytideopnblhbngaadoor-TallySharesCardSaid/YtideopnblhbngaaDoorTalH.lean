/- The powers of keys together are the power of all words: plain. -/
import Derived.Test.YtideopnblhbngaaDoorTalZ
namespace Go.Proofs.YtideopnblhbngaaDoor
open Go.RowKit Go.Maps

/-- A word of another kind counts for nothing. -/
theorem pUp_step {vs : List Va} {q : Int → Bool} {ws : List (Wd Int)} {j : Nat} {sd : Bool} {k x : Int} (h : ws[j]? = some (sd, k, x)) : pUp vs q ws (j + 1) = pUp vs q ws j + (if sd && q k then pAt vs j else 0) := by
  cases sd with
  | false => rw [pUp_no (selAt_unsaid h)]; simp
  | true =>
    cases hq : q k with
    | true => rw [pUp_yes h hq]; simp
    | false => rw [pUp_no (selAt_other h hq)]; simp
theorem pUp_zero (vs : List Va) (q : Int → Bool) (ws : List (Wd Int)) : pUp vs q ws 0 = 0 := by simp [pUp, sel_zero, powAt]
theorem pUp_split (vs : List Va) (q p : Int → Bool) (ws : List (Wd Int)) : ∀ j, j ≤ ws.length → pUp vs q ws j = pUp vs (fun k => q k && p k) ws j + pUp vs (fun k => q k && !p k) ws j
  | 0, _ => by simp [pUp_zero]
  | j + 1, hj => by
    have ih := pUp_split vs q p ws j (by omega)
    obtain ⟨⟨sd, k, x⟩, hX⟩ : ∃ X, ws[j]? = some X := ⟨_, List.getElem?_eq_getElem (by omega)⟩
    rw [pUp_step hX, pUp_step hX, pUp_step hX, ih]
    cases sd <;> cases q k <;> cases p k <;> simp <;> omega
theorem pUp_congr (vs : List Va) (q p : Int → Bool) (ws : List (Wd Int)) (h : ∀ (i : Nat) (k x : Int), ws[i]? = some (true, k, x) → q k = p k) : ∀ j, j ≤ ws.length → pUp vs q ws j = pUp vs p ws j
  | 0, _ => by simp [pUp_zero]
  | j + 1, hj => by
    have ih := pUp_congr vs q p ws h j (by omega)
    obtain ⟨⟨sd, k, x⟩, hX⟩ : ∃ X, ws[j]? = some X := ⟨_, List.getElem?_eq_getElem (by omega)⟩
    rw [pUp_step hX, pUp_step hX, ih]
    cases sd with
    | false => rfl
    | true => rw [h j k x hX]
theorem pUp_none (vs : List Va) (q : Int → Bool) (ws : List (Wd Int)) (h : ∀ k, q k = false) : ∀ j, j ≤ ws.length → pUp vs q ws j = 0
  | 0, _ => pUp_zero _ _ _
  | j + 1, hj => by
    obtain ⟨⟨sd, k, x⟩, hX⟩ : ∃ X, ws[j]? = some X := ⟨_, List.getElem?_eq_getElem (by omega)⟩
    rw [pUp_step hX, pUp_none vs q ws h j (by omega), h]
    simp
theorem pUp_bound {vs : List Va} (hp : ∀ i, 0 ≤ pAt vs i) (q : Int → Bool) (ws : List (Wd Int)) : ∀ j, j ≤ ws.length → j ≤ vs.length → 0 ≤ pUp vs q ws j ∧ pUp vs q ws j ≤ tUp vs j
  | 0, _, _ => by simp [pUp_zero, tUp]
  | j + 1, hj, hv => by
    have ih := pUp_bound hp q ws j (by omega) (by omega)
    have hpj := hp j
    obtain ⟨⟨sd, k, x⟩, hX⟩ : ∃ X, ws[j]? = some X := ⟨_, List.getElem?_eq_getElem (by omega)⟩
    rw [pUp_step hX, tUp_succ (by omega)]
    split <;> omega
/-- The power of all that spoke. -/
def sUp (vs : List Va) (ws : List (Wd Int)) : Int := pUp vs (fun _ => true) ws ws.length
theorem tUp_all {vs : List Va} (hv : validB vs = true) : tUp vs vs.length = total vs := by
  unfold tUp
  rw [List.take_length, (total_valid hv).1]
theorem pUp_small {vs : List Va} (hv : validB vs = true) (q : Int → Bool) {ws : List (Wd Int)} (hl : ws.length = vs.length) : 0 ≤ pUp vs q ws ws.length ∧ pUp vs q ws ws.length ≤ 1099511627776000 := by
  have h := pUp_bound (pAt_valid hv) q ws ws.length (Nat.le_refl _) (by omega)
  have h2 := (total_valid hv).2.2.2
  rw [hl] at h ⊢
  rw [tUp_all hv] at h
  omega
theorem sUp_start (vs : List Va) (n : Nat) : sUp vs (List.replicate n (false, 0, 0)) = 0 := by
  unfold sUp
  refine (pUp_congr vs (fun _ => true) (fun _ => false) _ (fun i k x h => ?_) _ (Nat.le_refl _)).trans (pUp_none vs _ _ (fun _ => rfl) _ (Nat.le_refl _))
  rw [List.getElem?_replicate] at h
  split at h <;> cases h
theorem pUp_set_true {vs : List Va} {ws : List (Wd Int)} {i : Nat} {k kk x xx : Int} (h : ws[i]? = some (false, kk, xx)) : ∀ j, j ≤ ws.length → pUp vs (fun _ => true) (ws.set i (true, k, x)) j = pUp vs (fun _ => true) ws j + (if i < j then pAt vs i else 0)
  | 0, _ => by simp [pUp_zero]
  | j + 1, hj => by
    have ih := pUp_set_true (vs := vs) (k := k) (x := x) h j (by omega)
    have hi := (List.getElem?_eq_some_iff.1 h).1
    obtain ⟨⟨sd, k2, x2⟩, hX⟩ : ∃ X, ws[j]? = some X := ⟨_, List.getElem?_eq_getElem (by omega)⟩
    by_cases hij : i = j
    · subst hij
      have hY : (ws.set i (true, k, x))[i]? = some (true, k, x) := List.getElem?_set_self hi
      rw [h] at hX
      cases hX
      rw [pUp_step hY, pUp_step h, ih]
      simp
    · have hY : (ws.set i (true, k, x))[j]? = some (sd, k2, x2) := by rw [List.getElem?_set_ne hij]; exact hX
      rw [pUp_step hY, pUp_step hX, ih]
      by_cases h1 : i < j
      · rw [if_pos h1, if_pos (show i < j + 1 by omega)]; omega
      · rw [if_neg h1, if_neg (show ¬ i < j + 1 by omega)]; omega
theorem free_word {ws : List (Wd Int)} {who : Int} (hf : freeAt ws who = true) : ∃ (i : Nat) (kk xx : Int), who = (i : Int) ∧ ws[i]? = some (false, kk, xx) := by
  have h0 := freeAt_nonneg hf
  refine ⟨who.toNat, ?_⟩
  unfold freeAt at hf
  simp only [Bool.and_eq_true] at hf
  have h2 := hf.2
  split at h2
  · rename_i y hy
    exact ⟨y.1, y.2, by omega, hy⟩
  · cases h2
theorem sUp_put {vs : List Va} {ws : List (Wd Int)} {who : Int} (hf : freeAt ws who = true) (k x : Int) : sUp vs (putW ws k who x) = sUp vs ws + pAt vs who.toNat := by
  obtain ⟨i, kk, xx, rfl, hX⟩ := free_word hf
  have hi := (List.getElem?_eq_some_iff.1 hX).1
  have hw : putW ws k i x = ws.set i (true, k, x) := by unfold putW; rw [hf, Int.toNat_natCast]; rfl
  unfold sUp
  rw [hw, List.length_set, pUp_set_true hX _ (Nat.le_refl _), if_pos hi, Int.toNat_natCast]
/-- The map has every key that was said. -/
def KV (ws : List (Wd Int)) (D : DU) : Prop := ∀ (i : Nat) (k x : Int), ws[i]? = some (true, k, x) → Maps.has D (.int .i64 k) = true
theorem KV.start (n : Nat) (D : DU) : KV (List.replicate n (false, 0, 0)) D := fun i k x h => by
  rw [List.getElem?_replicate] at h
  split at h <;> cases h
theorem KV.put {ws : List (Wd Int)} {D : DU} (h : KV ws D) (hM : IsMap D) {who : Int} (hf : freeAt ws who = true) (k x : Int) (d : DU) : KV (putW ws k who x) (D.put (.int .i64 k) d) := by
  obtain ⟨i, kk, xx, rfl, hX⟩ := free_word hf
  have hw : putW ws k i x = ws.set i (true, k, x) := by unfold putW; rw [hf, Int.toNat_natCast]; rfl
  rw [hw]
  have hself := Maps.has_put_same hM (show WideAt.IsKeyLit (.int .i64 k) from trivial) d
  intro j k' x' hj
  by_cases hk : k' = k
  · rw [hk]; exact hself
  · rw [Maps.has_put_other (lit_ne hk)]
    by_cases hij : i = j
    · subst hij
      rw [List.getElem?_set_self (List.getElem?_eq_some_iff.1 hX).1] at hj
      cases hj
      exact absurd rfl hk
    · rw [List.getElem?_set_ne hij] at hj
      exact h j k' x' hj
/-- The power of the keys that are left. -/
def lUp (vs : List Va) (ws : List (Wd Int)) (left : Lit → Bool) : Int := pUp vs (fun k => left (.int .i64 k)) ws ws.length
theorem lUp_start {vs : List Va} {ws : List (Wd Int)} {D : DU} (h : KV ws D) : lUp vs ws (Maps.has D) = sUp vs ws :=
  pUp_congr vs _ _ ws (fun i k x hX => (h i k x hX)) _ (Nat.le_refl _)
theorem lUp_done {vs : List Va} {ws : List (Wd Int)} {left : Lit → Bool} (h : ∀ kl, left kl = false) : lUp vs ws left = 0 :=
  pUp_none vs _ ws (fun k => h _) _ (Nat.le_refl _)
theorem same_int (a b : Int) : (Lit.int .i64 a).sameKey (.int .i64 b) = decide (a = b) := by
  by_cases h : a = b
  · subst h; simp [Lit.sameKey]
  · simp [Lit.sameKey, h]
theorem lUp_step {vs : List Va} {ws : List (Wd Int)} {left : Lit → Bool} {k : Int} (h : left (.int .i64 k) = true) : lUp vs ws left = powOf vs ws k + lUp vs ws (fun z => left z && !z.sameKey (.int .i64 k)) := by
  unfold lUp
  rw [pUp_split vs _ (fun x => decide (x = k)) ws _ (Nat.le_refl _)]
  congr 1
  · refine (pUp_congr vs _ (fun x => decide (x = k)) ws (fun i k' x _ => ?_) _ (Nat.le_refl _)).trans rfl
    by_cases hk : k' = k
    · subst hk; simp [h]
    · simp [hk]
  · refine pUp_congr vs _ _ ws (fun i k' x _ => ?_) _ (Nat.le_refl _)
    show _ = (left (.int .i64 k') && !(Lit.int .i64 k').sameKey (.int .i64 k))
    rw [same_int]
theorem powOf_small {vs : List Va} (hv : validB vs = true) {ws : List (Wd Int)} (hl : ws.length = vs.length) (k : Int) : 0 ≤ powOf vs ws k ∧ powOf vs ws k ≤ 1099511627776000 := pUp_small hv (fun x => decide (x = k)) hl
end Go.Proofs.YtideopnblhbngaaDoor
