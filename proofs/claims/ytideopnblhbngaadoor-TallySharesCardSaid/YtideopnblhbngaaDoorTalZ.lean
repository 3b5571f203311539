/- The map of the things that were put, against the words. -/
import Derived.Test.YtideopnblhbngaaDoorTalY
import Derived.Maps.OwnIn
import Derived.Maps.OwnSet
namespace Go.Proofs.YtideopnblhbngaaDoor
open Go.RowKit Go.Maps

theorem sel_countZ (ws : List (Wd Int)) : ∀ j, j ≤ ws.length → (sel (fun _ => true) ws j).length = (ws.take j).countP (fun w => w.1)
  | 0, _ => by simp [sel_zero]
  | j + 1, hj => by
    have ih := sel_countZ ws j (by omega)
    obtain ⟨⟨sd, kk, x⟩, hX⟩ : ∃ X, ws[j]? = some X := ⟨_, List.getElem?_eq_getElem (by omega)⟩
    rw [List.take_add_one, hX, List.countP_append]
    cases sd with
    | false =>
      rw [sel_no (selAt_unsaid hX), ih]
      simp
    | true =>
      rw [sel_yes hX rfl, List.length_append, ih]
      simp
theorem law3 : Keyed Tryd.prog 3 := int_keyed Tryd.underlying3
theorem zero3 (w : World) : (zeroValue 3).run Tryd.prog w = .ok (.int .i64 0) w := by kernel_rfl
abbrev DU := DataW Unit
/-- The map holds each word's thing at its place, and nothing else. -/
structure MV (ws : List (Wd Int)) (D : DU) : Prop where
  said : ∀ (i : Nat) (k x : Int), ws[i]? = some (true, k, x) → D.atKey (.int .i64 i) (.lit (.int .i64 0)) = .lit (.int .i64 x)
  unsaid : ∀ (i : Nat) (k x : Int), ws[i]? = some (false, k, x) → Maps.has D (.int .i64 i) = false
  size : Maps.size D = ws.countP (fun w => w.1)
theorem MV.start (n : Nat) : MV (List.replicate n (false, 0, 0)) (.map []) := by
  refine ⟨fun i k x h => ?_, fun i k x _ => rfl, ?_⟩
  · rw [List.getElem?_replicate] at h
    split at h <;> cases h
  · induction n with
    | zero => rfl
    | succ n ih => rw [List.replicate_succ, List.countP_cons_of_neg (by simp)]; exact ih
theorem lit_ne {a b : Int} (h : a ≠ b) : (Lit.int .i64 a) ≠ .int .i64 b := fun e => h (by injection e)
theorem countP_set : ∀ (ws : List (Wd Int)) (i : Nat) (k0 x0 k x : Int), ws[i]? = some (false, k0, x0) → (ws.set i (true, k, x)).countP (fun w => w.1) = ws.countP (fun w => w.1) + 1
  | [], _, _, _, _, _, h => by simp at h
  | y :: r, 0, k0, x0, k, x, h => by
    simp only [List.getElem?_cons_zero, Option.some.injEq] at h
    subst h
    simp
  | y :: r, i + 1, k0, x0, k, x, h => by
    rw [List.getElem?_cons_succ] at h
    have ih := countP_set r i k0 x0 k x h
    simp only [List.set_cons_succ, List.countP_cons, ih]
    omega
theorem MV.put {ws : List (Wd Int)} {D : DU} (h : MV ws D) (hT : Tidy D) {who : Int} (hf : freeAt ws who = true) (k x : Int) : MV (putW ws k who x) (D.put (.int .i64 who) (.lit (.int .i64 x))) := by
  have h0 := freeAt_nonneg hf
  obtain ⟨i, rfl⟩ : ∃ i : Nat, who = (i : Int) := ⟨who.toNat, by omega⟩
  have hX : ∃ kk xx, ws[i]? = some (false, kk, xx) := by
    unfold freeAt at hf
    simp only [Bool.and_eq_true, Int.toNat_natCast] at hf
    have h2 := hf.2
    split at h2
    · rename_i y hy
      exact ⟨_, _, hy⟩
    · cases h2
  obtain ⟨kk, xx, hX⟩ := hX
  have hw : putW ws k i x = ws.set i (true, k, x) := by unfold putW; rw [hf, Int.toNat_natCast]; rfl
  have hi := (List.getElem?_eq_some_iff.1 hX).1
  rw [hw]
  refine ⟨fun j k' x' hj => ?_, fun j k' x' hj => ?_, ?_⟩
  · by_cases hij : i = j
    · subst hij
      rw [List.getElem?_set_self hi] at hj
      cases hj
      exact Maps.atKey_put_same hT.isMap (show WideAt.IsKeyLit (.int .i64 (i : Int)) from trivial) _ _
    · rw [List.getElem?_set_ne hij] at hj
      rw [Maps.atKey_put_other (lit_ne (by omega))]
      exact h.said j k' x' hj
  · by_cases hij : i = j
    · subst hij
      rw [List.getElem?_set_self hi] at hj
      cases hj
    · rw [List.getElem?_set_ne hij] at hj
      rw [Maps.has_put_other (lit_ne (by omega))]
      exact h.unsaid j k' x' hj
  · rw [Maps.size_put hT, h.unsaid i kk xx hX, h.size, countP_set ws i kk xx k x hX]
    rfl
theorem putW_no {ws : List (Wd Int)} {who : Int} (hf : freeAt ws who = false) (k x : Int) : putW ws k who x = ws := by unfold putW; rw [hf]; rfl
theorem putE_ok {ws : List (Wd Int)} {who : Int} (hf : freeAt ws who = true) (aR aT : Addr) : putE ws who aR aT = .nilIface := by
  unfold putE
  rw [if_pos, hf]
  · rfl
  · by_cases h : 0 ≤ who ∧ who < ws.length
    · exact h
    · rw [freeAt_out h] at hf
      cases hf
theorem putE_no {ws : List (Wd Int)} {who : Int} (hf : freeAt ws who = false) (aR aT : Addr) : ∃ a, putE ws who aR aT = errV a := by
  unfold putE
  split
  · rw [hf]
    exact ⟨_, rfl⟩
  · exact ⟨_, rfl⟩
theorem freeAt_lt {ws : List (Wd Int)} {who : Int} (hf : freeAt ws who = true) : 0 ≤ who ∧ who < ws.length := by
  by_cases h : 0 ≤ who ∧ who < ws.length
  · exact h
  · rw [freeAt_out h] at hf
    cases hf
theorem int_wf {x : Int} (h0 : 0 ≤ x) (h1 : x < 9223372036854775808) : (Lit.int .i64 x).wf = true := by
  have h : wrap64 x = x := by unfold wrap64; omega
  rw [← h]
  exact wrap64_wf x
theorem ownsMap_but {S : Nat → Prop} {k : TypeId} {R : Value → Option (DU × List MemPlace)} {b n : Nat} {D : DU} {w w' : World} (h : w.ownsMap Tryd.prog k R b n D) (hb : But S w w') (hs : ¬ S b) : w'.ownsMap Tryd.prog k R b n D := by
  obtain ⟨es, clock, h1, r⟩ := h
  exact ⟨es, clock, hb.blk h1 hs, r⟩
theorem ownsMap_below {k : TypeId} {R : Value → Option (DU × List MemPlace)} {b n : Nat} {D : DU} {w w' : World} (h : w.ownsMap Tryd.prog k R b n D) (hb : Below w.heap.size w w') : w'.ownsMap Tryd.prog k R b n D := by
  obtain ⟨es, clock, h1, r⟩ := h
  exact ⟨es, clock, blk_below h1 hb, r⟩
theorem sel_last {ws : List (Wd Int)} {m : Nat} : ∀ {pre : List (Int × Int)} {x : Int × Int}, (∃ i, pre ++ [x] = (sel (fun _ => true) ws m).take i) → (∀ y ∈ pre, y.1 < x.1) ∧ ∃ k, 0 ≤ x.1 ∧ ws[x.1.toNat]? = some (true, k, x.2) := by
  induction m with
  | zero =>
    rintro pre x ⟨i, h⟩
    rw [sel_zero, List.take_nil] at h
    have := congrArg List.length h
    simp at this
  | succ m ih =>
    rintro pre x ⟨i, h⟩
    cases hX : selAt (fun _ => true) ws m with
    | none => rw [sel_no hX] at h; exact ih ⟨i, h⟩
    | some y =>
      obtain ⟨k, hy, hx⟩ : ∃ k, ws[m]? = some (true, k, y.2) ∧ y.1 = (m : Int) := by
        unfold selAt at hX
        split at hX
        · rename_i k x hx
          simp only [if_true, Option.some.injEq] at hX
          subst hX
          exact ⟨k, hx, rfl⟩
        · cases hX
      have hs := sel_yes (q := fun _ => true) hy rfl
      rw [hs] at h
      by_cases hi : i ≤ (sel (fun _ => true) ws m).length
      · rw [List.take_append_of_le_length hi] at h
        exact ih ⟨i, h⟩
      · rw [List.take_of_length_le (by simp; omega)] at h
        obtain ⟨h1, h2⟩ := List.append_inj' h rfl
        have h3 : x = ((m : Int), y.2) := by simpa using h2
        subst h1 h3
        refine ⟨fun z hz => (sel_range (fun _ => true) ws m z hz).2, k, by simp, by simpa using hy⟩
end Go.Proofs.YtideopnblhbngaaDoor
