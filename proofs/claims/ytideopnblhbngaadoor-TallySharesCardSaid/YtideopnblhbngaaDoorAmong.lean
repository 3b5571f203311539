/- Whether a text is one of a list: slices.Contains at texts, pool.among. -/
import Derived.Test.YtideopnblhbngaaDoorStrs
import Derived.Test.YtideopnblhbngaaDoorWide
namespace Go.Proofs.YtideopnblhbngaaDoor
open Go.RowKit

/-- Is a text one of a list? -/
def inT (xs : List ByteArray) (z : ByteArray) : Bool := xs.any fun x => decide (x = z)
/-- The place of a text, or -1. -/
def findT (xs : List ByteArray) (z : ByteArray) : Int :=
  match xs.findIdx? (fun x => decide (x = z)) with
  | some i => i
  | none => -1
theorem findT_at (xs : List ByteArray) (z : ByteArray) (i : Nat) (hi : i < xs.length) (he : xs.getD i ByteArray.empty = z) (hb : ∀ j, j < i → xs.getD j ByteArray.empty ≠ z) : findT xs z = i := by
  have : xs.findIdx? (fun x => decide (x = z)) = some i := by
    rw [List.findIdx?_eq_some_iff_getElem]
    refine ⟨hi, ?_, fun j hj => ?_⟩
    · rw [List.getD_eq_getElem?_getD, List.getElem?_eq_getElem hi] at he
      simpa using he
    · have h2 := hb j hj
      rw [List.getD_eq_getElem?_getD, List.getElem?_eq_getElem (Nat.lt_trans hj hi)] at h2
      simpa using h2
  unfold findT
  rw [this]
theorem findT_none (xs : List ByteArray) (z : ByteArray) (hb : ∀ j, j < xs.length → xs.getD j ByteArray.empty ≠ z) : findT xs z = -1 := by
  have : xs.findIdx? (fun x => decide (x = z)) = none := by
    rw [List.findIdx?_eq_none_iff]
    intro x hx
    obtain ⟨j, hj, rfl⟩ := List.getElem_of_mem hx
    have h2 := hb j hj
    rw [List.getD_eq_getElem?_getD, List.getElem?_eq_getElem hj] at h2
    simpa using h2
  unfold findT
  rw [this]
theorem inT_iff (xs : List ByteArray) (z : ByteArray) : inT xs z = true ↔ z ∈ xs := by
  unfold inT
  rw [List.any_eq_true]
  constructor
  · rintro ⟨x, hx, h⟩
    have : x = z := by simpa using h
    rw [← this]; exact hx
  · exact fun h => ⟨z, h, by simp⟩
theorem findT_ge (xs : List ByteArray) (z : ByteArray) : decide (0 ≤ findT xs z) = inT xs z := by
  rw [Bool.eq_iff_iff, decide_eq_true_iff, inT_iff]
  unfold findT
  cases h : xs.findIdx? (fun x => decide (x = z)) with
  | some i =>
    rw [List.findIdx?_eq_some_iff_getElem] at h
    obtain ⟨hi, he, _⟩ := h
    have : xs[i] = z := by simpa using he
    exact ⟨fun _ => by rw [← this]; exact List.getElem_mem hi, fun _ => by simp⟩
  | none =>
    rw [List.findIdx?_eq_none_iff] at h
    constructor
    · intro hh; simp at hh
    · intro hm; have := h z hm; simp at this

theorem ba_beq (a b : ByteArray) : (a == b) = decide (a = b) := by
  obtain ⟨x⟩ := a
  obtain ⟨y⟩ := b
  rw [show ((ByteArray.mk x) == (ByteArray.mk y)) = (x == y) from rfl]
  by_cases h : x = y
  · subst h; simp
  · rw [decide_eq_false (by intro e; cases e; exact h rfl)]
    simp [h]
theorem str_beq (a b : ByteArray) : (a.toList == b.toList) = decide (a = b) := by rw [← beq_toListBytes, ba_beq]

set_option maxHeartbeats 4000000 in
set_option maxRecDepth 100000 in
theorem indexT_any (xs : List ByteArray) (z : ByteArray) (A : Option Addr) (n c : Nat) (w : World) (hv : Txs w (.slice A n c) xs) (hz : n ≤ 1000000) :
    Calls Tryd.prog 89 #[.slice A n c, .string z] w fun e w' => e = .returned (.int .i64 (findT xs z)) ∧ w' = w := by
  have hn := hv.len
  have HV := Lib.hid hv
  have HN := Lib.hid hn
  clear hv hn
  go_enter Tryd.func89, Tryd.ntmps89
  go_wp2
  go_loopw [5, 8] (fun _ k wr => ∃ (i : Nat), i ≤ n ∧ k = .int .i64 i ∧ Hid (∀ j, j < i → xs.getD j ByteArray.empty ≠ z) ∧ w = wr)
    (fun _ k _ => n - (intOf k).toNat)
  case atStart => exact ⟨0, by omega, rfl, Lib.hid (fun j h => absurd h (by omega)), rfl⟩
  case round =>
    obtain ⟨i, hi, rfl, hne, rfl⟩ := hrel
    by_cases hlt : i < n
    · obtain ⟨b, off, rfl, hb, hr⟩ := HV.out.el i hlt
      obtain ⟨X, hX⟩ : ∃ X, X = xs.getD i ByteArray.empty := ⟨_, rfl⟩
      rw [← hX] at hr
      have HXE := Lib.hid hX
      clear hX hb
      have hil : (i : Int) < n := by omega
      have hsb := str_beq z X
      by_cases he : z = X
      · have hb1 : (z == X) = true := by rw [ba_beq]; simp [he]
        rw [decide_eq_true he] at hsb
        go_wp2
        go_ret
        rw [findT_at xs z i (by rw [← HN.out]; exact hlt) (by rw [← HXE.out]; exact he.symm) hne.out]
        exact ⟨rfl, rfl⟩
      · have hb1 : (z == X) = false := by rw [ba_beq]; simp [he]
        rw [decide_eq_false he] at hsb
        go_wp2
        go_roundw
        case rel => exact ⟨i + 1, by omega, by go_num, Lib.hid (fun j hj => by
          by_cases hji : j = i
          · subst hji; rw [← HXE.out]; exact fun h => he h.symm
          · exact hne.out j (by omega)), trivial⟩
        case measure => simp [intOf]; omega
    · obtain rfl : i = n := by omega
      go_wp2
      go_ret
      rw [findT_none xs z (by rw [← HN.out]; exact hne.out)]
      exact ⟨rfl, rfl⟩

set_option maxHeartbeats 4000000 in
set_option maxRecDepth 100000 in
theorem containsT_any (xs : List ByteArray) (z : ByteArray) (A : Option Addr) (n c : Nat) (w : World) (hv : Txs w (.slice A n c) xs) (hz : n ≤ 1000000) :
    Calls Tryd.prog 72 #[.slice A n c, .string z] w fun e w' => e = .returned (.bool (inT xs z)) ∧ w' = w := by
  have HV := Lib.hid hv
  clear hv
  have hge := findT_ge xs z
  go_enter Tryd.func72, Tryd.ntmps72
  go_wp2_with (go_at_call 89; refine (indexT_any xs z A n c w HV.out hz).mono ?_; rintro _ w1 ⟨rfl, rfl⟩)
  go_ret
  exact ⟨by first | rfl | rw [← hge]; rfl, rfl⟩

set_option maxHeartbeats 4000000 in
set_option maxRecDepth 100000 in
theorem among1_any (x : List Int) (z : ByteArray) (B : Option Addr) (m d : Nat) (bx : Nat) (w : World) (hx : Bs w (.slice B m d) x) (hb : w.cell? ⟨bx, 0, none⟩ = some (.string z)) :
    Calls Tryd.prog 87 #[.slice B m d, .pointer (some ⟨bx, 0, none⟩)] w fun e w' => e = .returned (.bool (decide (strOfNums x = z))) ∧ w' = w := by
  have HX := Lib.hid hx
  clear hx
  have hsb := str_beq (strOfNums x) z
  have hsb2 := ba_beq (strOfNums x) z
  go_enter Tryd.func87, Tryd.ntmps87
  go_wp2_with (refine wpList_conv_str rfl (.tmp 4) rfl (.slice B m d) x rfl HX.out ?_)
  go_ret
  refine ⟨?_, rfl⟩
  first
    | rfl
    | (simp only [hsb]; rfl)
    | (simp only [hsb2]; rfl)

set_option maxHeartbeats 4000000 in
set_option maxRecDepth 100000 in
theorem indexB_any (ps : List (List Int)) (z : ByteArray) (A : Option Addr) (n c : Nat) (bx : Nat) (w : World) (hv : Bss w (.slice A n c) ps) (hb : w.cell? ⟨bx, 0, none⟩ = some (.string z)) (hz : n ≤ 1000000) :
    Calls Tryd.prog 95 #[.slice A n c, .func (.func 87) #[] #[.pointer (some ⟨bx, 0, none⟩)]] w fun e w' => e = .returned (.int .i64 (findT (ps.map strOfNums) z)) ∧ w' = w := by
  have hn := hv.len
  have HV := Lib.hid hv
  have HN := Lib.hid hn
  clear hv hn
  go_enter Tryd.func95, Tryd.ntmps95
  go_wp2
  go_loopw [5, 8] (fun _ k wr => ∃ (i : Nat), i ≤ n ∧ k = .int .i64 i ∧ Hid (∀ j, j < i → (ps.map strOfNums).getD j ByteArray.empty ≠ z) ∧ w = wr)
    (fun _ k _ => n - (intOf k).toNat)
  case atStart => exact ⟨0, by omega, rfl, Lib.hid (fun j h => absurd h (by omega)), rfl⟩
  case round =>
    obtain ⟨i, hi, rfl, hne, rfl⟩ := hrel
    by_cases hlt : i < n
    · obtain ⟨b, off, B, m, d, rfl, hr, hbs⟩ := HV.out.el i hlt
      have hgd : (ps.map strOfNums).getD i ByteArray.empty = strOfNums (ps.getD i []) := by
        have : i < ps.length := by rw [← HN.out]; exact hlt
        simp [List.getD_eq_getElem?_getD, this]
      obtain ⟨X, hX⟩ : ∃ X, X = ps.getD i [] := ⟨_, rfl⟩
      rw [← hX] at hbs hgd
      have HBS := Lib.hid hbs
      have HG := Lib.hid hgd
      clear hX hbs hgd
      have hil : (i : Int) < n := by omega
      go_wp2_with fail
      refine (among1_any X z B m d bx w HBS.out hb).mono ?_
      rintro _ w1 ⟨rfl, rfl⟩
      by_cases he : strOfNums X = z
      · rw [decide_eq_true he]
        go_wp2_with fail
        go_ret
        rw [findT_at _ z i (by rw [List.length_map, ← HN.out]; exact hlt) (by rw [HG.out]; exact he) hne.out]
        exact ⟨rfl, rfl⟩
      · rw [decide_eq_false he]
        go_wp2_with fail
        go_roundw
        case rel => exact ⟨i + 1, by omega, by go_num, Lib.hid (fun j hj => by
          by_cases hji : j = i
          · subst hji; rw [HG.out]; exact he
          · exact hne.out j (by omega)), trivial⟩
        case measure => simp [intOf]; omega
    · obtain rfl : i = n := by omega
      go_wp2
      go_ret
      rw [findT_none _ z (by rw [List.length_map, ← HN.out]; exact hne.out)]
      exact ⟨rfl, rfl⟩

set_option maxHeartbeats 4000000 in
set_option maxRecDepth 100000 in
theorem containsB_any (ps : List (List Int)) (z : ByteArray) (A : Option Addr) (n c : Nat) (bx : Nat) (w : World) (hv : Bss w (.slice A n c) ps) (hb : w.cell? ⟨bx, 0, none⟩ = some (.string z)) (hz : n ≤ 1000000) :
    Calls Tryd.prog 86 #[.slice A n c, .func (.func 87) #[] #[.pointer (some ⟨bx, 0, none⟩)]] w fun e w' => e = .returned (.bool (inT (ps.map strOfNums) z)) ∧ w' = w := by
  have HV := Lib.hid hv
  clear hv
  have hge := findT_ge (ps.map strOfNums) z
  go_enter Tryd.func86, Tryd.ntmps86
  go_wp2_with (go_at_call 95; refine (indexB_any ps z A n c bx w HV.out hb hz).mono ?_; rintro _ w1 ⟨rfl, rfl⟩)
  go_ret
  exact ⟨by first | rfl | rw [← hge]; rfl, rfl⟩

set_option maxHeartbeats 4000000 in
set_option maxRecDepth 100000 in
theorem among_any (ps : List (List Int)) (z : ByteArray) (A : Option Addr) (n c : Nat) (w : World) (hv : Bss w (.slice A n c) ps) (hz : n ≤ 1000000) :
    Calls Tryd.prog 67 #[.slice A n c, .string z] w fun e w' => e = .returned (.bool (inT (ps.map strOfNums) z)) ∧ w' = w.alloc (.cells #[.string z] 9) := by
  have bel0 : Below w.heap.size w (w.alloc (.cells #[.string z] 9)) := (Below.refl _ _).alloc (Nat.le_refl _) _
  have HV := Lib.hid (hv.below bel0)
  have HB := Lib.hid (Boxed.new w 9 (.string z)).cell
  clear hv bel0
  go_enter Tryd.func67, Tryd.ntmps67
  go_wp2_with fail
  refine (containsB_any ps z A n c w.heap.size _ HV.out HB.out hz).mono ?_
  rintro _ w1 ⟨rfl, rfl⟩
  go_wp2_with fail
  go_ret
  exact ⟨rfl, rfl⟩
end Go.Proofs.YtideopnblhbngaaDoor
