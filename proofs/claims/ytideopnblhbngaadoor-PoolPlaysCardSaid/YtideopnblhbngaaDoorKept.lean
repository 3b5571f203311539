/- Lists that stay as they are beside a pool. -/
import Derived.Test.YtideopnblhbngaaDoorTake
import Derived.Test.YtideopnblhbngaaDoorDrop
import Derived.Test.YtideopnblhbngaaDoorAdd
import Derived.Test.YtideopnblhbngaaDoorLists
namespace Go.Proofs.YtideopnblhbngaaDoor
open Go.RowKit

/-- What is below the pools, and every block that is none of texts' and none of a pool's, stays. -/
structure Stay (base : Nat) (w w' : World) : Prop where
  os : w'.os = w.os
  tape : w'.tape = w.tape
  output : w'.output = w.output
  size : w.heap.size ≤ w'.heap.size
  same : ∀ k, k < w.heap.size → (k < base ∨ ∃ cs t fr, w.heap[k]? = some (.cells cs t fr) ∧ t ≠ 9 ∧ t ≠ 109) → w'.heap[k]? = w.heap[k]?
theorem Stay.refl (base : Nat) (w : World) : Stay base w w := ⟨rfl, rfl, rfl, Nat.le_refl _, fun _ _ _ => rfl⟩
theorem Stay.of_below {base : Nat} {w w' : World} (h : Below w.heap.size w w') : Stay base w w' := ⟨h.os, h.tape, h.output, h.size, fun k hk _ => h.block k hk⟩
theorem Stay.trans {base : Nat} {a b c : World} (h : Stay base a b) (k : Stay base b c) : Stay base a c := by
  refine ⟨k.os.trans h.os, k.tape.trans h.tape, k.output.trans h.output, Nat.le_trans h.size k.size, fun i hi hx => ?_⟩
  have e := h.same i hi hx
  refine (k.same i (Nat.lt_of_lt_of_le hi h.size) ?_).trans e
  rcases hx with hx | ⟨cs, t, fr, hc, h1, h2⟩
  · exact .inl hx
  · exact .inr ⟨cs, t, fr, e.trans hc, h1, h2⟩
theorem Stay.low {base : Nat} {w w' : World} (h : Stay base w w') (hb : base ≤ w.heap.size) : Below base w w' :=
  ⟨h.os, h.tape, h.output, h.size, fun k hk => h.same k (by omega) (.inl hk)⟩
theorem Stay.of_but {base p : Nat} {v : Value} {ts : List ByteArray} {w w' : World} (hp : PoolAt base p v ts w) (h : But (PoolS p v) w w') : Stay base w w' := by
  refine ⟨h.os, h.tape, h.output, h.size, fun k hk hx => h.same k hk ?_⟩
  rcases hx with hx | ⟨cs, t, fr, hc, h1, h2⟩
  · exact fun hs => by have := hp.low k hs; omega
  · exact hp.notS hc h1 h2
theorem Stay.cell {base : Nat} {w w' : World} (h : Stay base w w') {a : Addr} {v : Value} (hb : base ≤ w.heap.size) (ha : a.block < base) (hc : w.cell? a = some v) : w'.cell? a = some v :=
  ((h.low hb).cell ha).trans hc

def Free (base : Nat) (w : World) (v : Value) : Prop := ∀ k, v.ownBlock = some k → k < w.heap.size → k < base ∨ ∃ cs t fr, w.heap[k]? = some (.cells cs t fr) ∧ t ≠ 9 ∧ t ≠ 109
/-- A slice of bytes that is none of a pool's. -/
structure BsF (base : Nat) (w : World) (v : Value) (bs : List Int) : Prop where
  red : Bs w v bs
  free : bs ≠ [] → Free base w v
theorem BsF.stay {base : Nat} {w w' : World} {v : Value} {bs : List Int} (h : BsF base w v bs) (hs : Stay base w w') : BsF base w' v bs := by
  by_cases hne : bs = []
  · exact ⟨⟨h.red.form, fun h => absurd hne h, h.red.ok⟩, fun h => absurd hne h⟩
  · have hf := h.free hne
    have hsame : ∀ k, v.ownBlock = some k → k < w.heap.size → w'.heap[k]? = w.heap[k]? := fun k hk hl => hs.same k hl (hf k hk hl)
    refine ⟨h.red.same hsame, fun _ k hk hl => ?_⟩
    obtain ⟨b, off, c, rfl, _, _, hb, _⟩ := h.red.cells hne
    obtain rfl : b = k := by simpa [Value.ownBlock] using hk
    rcases hf b rfl hb with h1 | ⟨cs, t, fr, hc, h1, h2⟩
    · exact .inl h1
    · exact .inr ⟨cs, t, fr, (hsame b rfl hb).trans hc, h1, h2⟩
theorem BsF.of_low {base : Nat} {w w' : World} {v : Value} {bs : List Int} (h : Bs w v bs) (hb : w.heap.size ≤ base) (hw : Below w.heap.size w w') : BsF base w' v bs := by
  refine ⟨h.below hw, fun hne k hk _ => ?_⟩
  obtain ⟨b, off, c, rfl, _, _, hl, _⟩ := h.cells hne
  obtain rfl : b = k := by simpa [Value.ownBlock] using hk
  exact .inl (by omega)
theorem BsF.of_own {base base' : Nat} {w : World} {v : Value} {bs : List Int} (h : OwnO w base' 5 v (u8s bs)) (hok : u8s_ok bs) : BsF base w v bs := by
  refine ⟨Bs.of_own h hok, fun _ k hk _ => ?_⟩
  rcases h with ⟨rfl, _⟩ | ⟨g, off, cap, cur, fr, rfl, _, hg, _⟩
  · simp [Value.ownBlock] at hk
  · obtain rfl : g = k := by simpa [Value.ownBlock] using hk
    exact .inr ⟨cur, 5, fr, hg, by decide, by decide⟩
/-- A list of slices of bytes; the row is the list's own, and nothing is a pool's. -/
structure Lst (base : Nat) (w : World) (v : Value) (xs : List (Value × List Int)) : Prop where
  own : OwnO w base 44 v (xs.map (·.1))
  el : ∀ y ∈ xs, BsF base w y.1 y.2
theorem Lst.stay {base : Nat} {w w' : World} {v : Value} {xs : List (Value × List Int)} (h : Lst base w v xs) (hs : Stay base w w') : Lst base w' v xs := by
  refine ⟨?_, fun y hy => (h.el y hy).stay hs⟩
  rcases h.own with h | ⟨g, off, cap, cur, fr, rfl, hb, hg, rest⟩
  · exact .inl h
  · exact .inr ⟨g, off, cap, cur, fr, rfl, hb, (hs.same g (blk_lt hg) (.inr ⟨cur, 44, fr, hg, by decide, by decide⟩)).trans hg, rest⟩
theorem Lst.form {base : Nat} {w : World} {v : Value} {xs : List (Value × List Int)} (h : Lst base w v xs) : ∃ A c, v = .slice A xs.length c := by
  obtain ⟨A, c, e, _⟩ := h.own.len
  exact ⟨A, c, by rw [e, List.length_map]⟩
theorem Lst.len {base : Nat} {w : World} {A : Option Addr} {n c : Nat} {xs : List (Value × List Int)} (h : Lst base w (.slice A n c) xs) : n = xs.length := by
  obtain ⟨A', c', e⟩ := h.form
  simp only [Value.slice.injEq] at e
  exact e.2.1
theorem Lst.el_at {base : Nat} {w : World} {v : Value} {xs : List (Value × List Int)} (h : Lst base w v xs) (i : Nat) (hi : i < xs.length) :
    ∃ b off c, v = .slice (some ⟨b, off, none⟩) xs.length c ∧ w.cell? ⟨b, off + i, none⟩ = some (xs[i]).1 ∧ BsF base w (xs[i]).1 (xs[i]).2 := by
  obtain ⟨b, off, c, e, _, _, hc⟩ := h.own.row (by simp; omega)
  rw [List.length_map] at e
  exact ⟨b, off, c, e, hc i _ (by simp [hi]), h.el _ (List.getElem_mem hi)⟩
theorem Lst.bss {base : Nat} {w : World} {v : Value} {xs : List (Value × List Int)} (h : Lst base w v xs) : Bss w v (xs.map (·.2)) := by
  refine ⟨?_, fun hne => ?_⟩
  · obtain ⟨A, c, e⟩ := h.form
    exact ⟨A, c, by rw [e, List.length_map]⟩
  · have hl : 0 < xs.length := by cases xs with | nil => exact absurd rfl hne | cons => simp
    rcases h.own with ⟨_, h0⟩ | ⟨g, off, cap, cur, fr, rfl, hb, hg, hnc, hm, _⟩
    · rw [List.map_eq_nil_iff] at h0; subst h0; simp at hl
    · refine ⟨g, off, cap, by simp, by simpa using hnc, hm, blk_lt hg, fun i hi => ?_⟩
      have hi' : i < xs.length := by simpa using hi
      obtain ⟨b, off', c, e, hc, hbs⟩ := h.el_at i hi'
      simp only [Value.slice.injEq, Option.some.injEq, Addr.mk.injEq] at e
      obtain ⟨⟨rfl, rfl, _⟩, _, _⟩ := e
      exact ⟨_, hc, by rw [List.getD_eq_getElem?_getD, List.getElem?_map, List.getElem?_eq_getElem hi']; exact hbs.red⟩
theorem Lst.texts {xs : List (Value × List Int)} : (xs.map (·.2)).map strOfNums = xs.map fun y => strOfNums y.2 := by rw [List.map_map]; rfl
/-- What Take hands out. -/
def outL (os : List (Value × ByteArray)) : List (Value × List Int) := os.map fun y => (y.1, sb y.2)
theorem Lst.of_take {base : Nat} {w w' : World} {u : Value} {os : List (Value × ByteArray)} (hb : base ≤ w.heap.size) (ho : w'.ownsRow w.heap.size 44 1 u os.length (os.map (·.1))) (hf : ∀ y ∈ os, FactB y w') : Lst base w' u (outL os) := by
  refine ⟨?_, fun y hy => ?_⟩
  · have := (OwnO.of_own ho).mono hb
    rw [show (outL os).map (·.1) = os.map (·.1) by unfold outL; rw [List.map_map]; rfl]
    exact this
  · obtain ⟨x, hx, rfl⟩ := List.mem_map.1 hy
    exact BsF.of_own (hf x hx).1 (sb_ok _)
theorem outL_texts (os : List (Value × ByteArray)) : ((outL os).map (·.2)).map strOfNums = os.map (·.2) := by
  unfold outL
  rw [List.map_map, List.map_map]
  refine List.map_congr_left fun x _ => ?_
  exact str_sb x.2
theorem outL_len (os : List (Value × ByteArray)) : (outL os).length = os.length := by simp [outL]
theorem Lst.bss_but {base p : Nat} {v u : Value} {ts : List ByteArray} {w : World} {xs : List (Value × List Int)} (h : Lst base w u xs) (hp : PoolAt base p v ts w) : ∀ W, But (PoolS p v) w W → Bss W u (xs.map (·.2)) :=
  fun _ hW => (h.stay (Stay.of_but hp hW)).bss
theorem one_lst (xs : List (Value × List Int)) {base : Nat} {w : World} (h : ∀ y ∈ xs, BsF base w y.1 y.2) : ∀ u ∈ xs.map (·.1), u.oneCell' = true := by
  intro u hu
  obtain ⟨y, hy, rfl⟩ := List.mem_map.1 hu
  obtain ⟨A, c, e⟩ := (h y hy).red.form
  rw [e]
  rfl
end Go.Proofs.YtideopnblhbngaaDoor
