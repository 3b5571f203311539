/- Words that came in; whether two rows of numbers are the same; words put in turn. -/
import Derived.Test.YtideopnblhbngaaDoorTalQ
import Derived.Deep.QuietTactic
import Derived.BigQuiet
namespace Go.Proofs.YtideopnblhbngaaDoor
open Go.RowKit Go.Shelf

theorem bel_drewN' {B : Nat} {w0 w : World} (h : Below B w0 w) (n : Nat) : Below B w0 (w.drewN n) := ⟨h.os, h.tape, h.output, h.size, h.block⟩
set_option maxHeartbeats 400000 in
theorem sameInts_any (xs ys : List Int) (A A' : Option Addr) (n n' c c' : Nat) (w : World) (hx : Ins w (.slice A n c) xs) (hy : Ins w (.slice A' n' c') ys) (hz : n ≤ 1000000) (hz' : n' ≤ 1000000) :
    Calls Tryd.prog 57 #[.slice A n c, .slice A' n' c'] w fun e w' => e = .returned (.bool (decide (xs = ys))) ∧ Below w.heap.size w w' := by
  have HX := Lib.hid hx
  have HY := Lib.hid hy
  have hln := hx.len
  have hln' := hy.len
  have HLN := Lib.hid hln
  have HLN' := Lib.hid hln'
  clear hx hy hln hln'
  by_cases hl : n = n'
  · subst hl
    go_enter Tryd.func57, Tryd.ntmps57
    go_wp2
    go_loopw [5, 13] (fun _ i wr => ∃ (k d : Nat), k ≤ n ∧ i = .int .i64 k ∧ wr = w.drewN d ∧ Hid (xs.take k = ys.take k))
      (fun _ i _ => n - (intOf i).toNat)
    case atStart => exact ⟨0, 0, by omega, rfl, rfl, Lib.hid rfl⟩
    case round =>
      obtain ⟨k, d, hk, rfl, rfl, HP⟩ := hrel
      by_cases hlt : k < n
      · obtain ⟨b, off, rfl, hb1, c1⟩ := HX.out.el k hlt
        obtain ⟨b', off', rfl, hb2, c2⟩ := HY.out.el k hlt
        have hlx : k < xs.length := by rw [← HLN.out]; exact hlt
        have hly : k < ys.length := by rw [← HLN'.out]; exact hlt
        have e1 : xs.take (k + 1) = xs.take k ++ [xs.getD k 0] := by rw [List.take_succ_eq_append_getElem hlx]; simp [List.getD_eq_getElem?_getD, hlx]
        have e2 : ys.take (k + 1) = ys.take k ++ [ys.getD k 0] := by rw [List.take_succ_eq_append_getElem hly]; simp [List.getD_eq_getElem?_getD, hly]
        obtain ⟨x, hx⟩ : ∃ x, x = xs.getD k 0 := ⟨_, rfl⟩
        obtain ⟨y, hy⟩ : ∃ y, y = ys.getD k 0 := ⟨_, rfl⟩
        rw [← hx] at c1 e1
        rw [← hy] at c2 e2
        have E1 := Lib.hid e1
        have E2 := Lib.hid e2
        have hil : (k : Int) < n := by omega
        clear hx hy e1 e2 hlx hly
        by_cases he : x = y
        · subst he
          have hb : (x != x) = false := by simp
          go_wp2
          go_quiet (fail)
          go_wp2
          go_roundw
          case rel => exact ⟨k + 1, _, by omega, by go_num, rfl, Lib.hid (by rw [E1.out, E2.out, HP.out])⟩
          case measure => simp [intOf]; omega
        · have hb : (x != y) = true := by simp [he]
          have HNE := Lib.hid (show ¬ xs = ys from fun e => by
            have h1 := E1.out
            have h2 := E2.out
            rw [e] at h1
            have h3 := h1.symm.trans h2
            rw [← e, HP.out] at h3
            have h4 := List.append_cancel_left h3
            exact he (by simpa using h4))
          go_wp2
          go_quiet (fail)
          go_wp2
          go_ret
          exact ⟨by rw [decide_eq_false HNE.out]; rfl, bel_drewN' (bel_drewN' (Below.refl _ _) _) _⟩
      · have hke : k = n := by omega
        subst hke
        have : xs = ys := by
          have h1 := HP.out
          rwa [List.take_of_length_le (by rw [← HLN.out]; exact Nat.le_refl _), List.take_of_length_le (by rw [← HLN'.out]; exact Nat.le_refl _)] at h1
        have HE := Lib.hid this
        clear this
        go_wp2
        go_ret
        exact ⟨by simp [HE.out], bel_drewN' (Below.refl _ _) _⟩
  · have hn : ((n : Int) != n') = true := by simp; omega
    have HL : Hid (¬ xs = ys) := Lib.hid (fun e => hl (by rw [HLN.out, HLN'.out, e]))
    clear hl
    go_enter Tryd.func57, Tryd.ntmps57
    go_wp2
    go_ret
    exact ⟨by rw [decide_eq_false HL.out]; rfl, Below.refl _ _⟩

/-- A word that is put: its key, who says it, its thing. -/
abbrev W3 := Int × Int × Int
def w3 (x : W3) : List Value := [.int .i64 x.1, .int .i64 x.2.1, .int .i64 x.2.2]
structure Wsl (w : World) (v : Value) (xs : List W3) : Prop where
  form : ∃ A c, v = .slice A xs.length c
  cells : xs ≠ [] → ∃ b off c, v = .slice (some ⟨b, off, none⟩) xs.length c ∧ xs.length ≤ c ∧ c ≤ maxLen ∧ b < w.heap.size ∧ ∀ (i : Nat) (x : W3), xs[i]? = some x → w.rangeAt b (off + i * 3) (w3 x)
theorem Wsl.below {w w' : World} {v : Value} {xs : List W3} (h : Wsl w v xs) (hb : Below w.heap.size w w') : Wsl w' v xs :=
  ⟨h.form, fun hne => by
    obtain ⟨b, off, c, e, h1, h2, h3, h4⟩ := h.cells hne
    exact ⟨b, off, c, e, h1, h2, Nat.lt_of_lt_of_le h3 hb.size, fun i x hx => range_below (h4 i x hx) hb⟩⟩
theorem Wsl.len {w : World} {A : Option Addr} {n c : Nat} {xs : List W3} (h : Wsl w (.slice A n c) xs) : n = xs.length := by
  obtain ⟨A', c', e⟩ := h.form
  simp only [Value.slice.injEq] at e
  exact e.2.1
theorem Wsl.el {w : World} {A : Option Addr} {n c : Nat} {xs : List W3} (h : Wsl w (.slice A n c) xs) (i : Nat) (hi : i < n) :
    ∃ b off k who x, A = some ⟨b, off, none⟩ ∧ n ≤ c ∧ xs[i]? = some (k, who, x) ∧ w.cell? ⟨b, off + i * 3, none⟩ = some (.int .i64 k) ∧ w.cell? ⟨b, off + i * 3 + 1, none⟩ = some (.int .i64 who) ∧ w.cell? ⟨b, off + i * 3 + 2, none⟩ = some (.int .i64 x) := by
  have hl := h.len
  obtain ⟨b, off, c', e, h1, _, _, h4⟩ := h.cells (by intro e; subst e; simp at hl; omega)
  simp only [Value.slice.injEq] at e
  have hi' : i < xs.length := by omega
  obtain ⟨⟨k, who, x⟩, hX⟩ : ∃ X, xs[i]? = some X := ⟨_, List.getElem?_eq_getElem hi'⟩
  have hr := h4 i _ hX
  exact ⟨b, off, k, who, x, e.1, by omega, hX, hr 0 _ rfl, hr 1 _ rfl, hr 2 _ rfl⟩

section
variable {K : Type}
/-- Words put in turn. -/
def putAll (ws : List (Wd K)) (xs : List (K × Int × Int)) : List (Wd K) := xs.foldl (fun ws x => putW ws x.1 x.2.1 x.2.2) ws
theorem putAll_snoc (ws : List (Wd K)) (xs : List (K × Int × Int)) (x : K × Int × Int) : putAll ws (xs ++ [x]) = putW (putAll ws xs) x.1 x.2.1 x.2.2 := by simp [putAll]
theorem putAll_len (ws : List (Wd K)) : ∀ (xs : List (K × Int × Int)), (putAll ws xs).length = ws.length := by
  intro xs
  unfold putAll
  induction xs generalizing ws with
  | nil => rfl
  | cons x xs ih =>
    rw [List.foldl_cons, ih, putW_len]
theorem freeAt_set {ws : List (Wd K)} {a b : Int} {y : Wd K} (ha : 0 ≤ a) (hab : a ≠ b) : freeAt (ws.set a.toNat y) b = freeAt ws b := by
  unfold freeAt
  by_cases hb : 0 ≤ b
  · rw [List.getElem?_set_ne (by omega)]
  · simp [hb]
theorem freeAt_nonneg {ws : List (Wd K)} {a : Int} (h : freeAt ws a = true) : 0 ≤ a := by
  unfold freeAt at h
  simp only [Bool.and_eq_true, decide_eq_true_eq] at h
  exact h.1
theorem putW_comm (ws : List (Wd K)) (k k' : K) (a b x y : Int) (hab : a ≠ b) : putW (putW ws k a x) k' b y = putW (putW ws k' b y) k a x := by
  unfold putW
  cases ha : freeAt ws a with
  | false =>
    cases hb : freeAt ws b with
    | false => simp [ha, hb]
    | true => simp [freeAt_set (freeAt_nonneg hb) (Ne.symm hab), ha, hb]
  | true =>
    cases hb : freeAt ws b with
    | false => simp [freeAt_set (freeAt_nonneg ha) hab, ha, hb]
    | true =>
      have h1 := freeAt_nonneg ha
      have h2 := freeAt_nonneg hb
      simp only [if_true, freeAt_set h1 hab, freeAt_set h2 (Ne.symm hab), ha, hb]
      exact List.set_comm _ _ (by omega)
theorem putAll_cons_out (x : K × Int × Int) : ∀ (l : List (K × Int × Int)) (ws : List (Wd K)), (∀ y ∈ l, x.2.1 ≠ y.2.1) → putAll ws (x :: l) = putW (putAll ws l) x.1 x.2.1 x.2.2
  | [], ws, _ => rfl
  | y :: t, ws, h => by
    have ih := putAll_cons_out x t (putW ws y.1 y.2.1 y.2.2) (fun z hz => h z (List.mem_cons_of_mem _ hz))
    have e : putAll ws (x :: y :: t) = putAll (putW (putW ws x.1 x.2.1 x.2.2) y.1 y.2.1 y.2.2) t := rfl
    rw [e, putW_comm _ _ _ _ _ _ _ (h y (by simp))]
    exact ih
/-- Words of unlike validators may come in any order. -/
theorem putAll_reverse : ∀ (l : List (K × Int × Int)) (ws : List (Wd K)), (l.map (·.2.1)).Nodup → putAll ws l.reverse = putAll ws l
  | [], _, _ => rfl
  | x :: t, ws, h => by
    rw [List.map_cons, List.nodup_cons] at h
    rw [List.reverse_cons, putAll_snoc, putAll_reverse t ws h.2, putAll_cons_out x t ws (fun y hy e => h.1 (List.mem_map.2 ⟨y, hy, e.symm⟩))]
end
end Go.Proofs.YtideopnblhbngaaDoor
