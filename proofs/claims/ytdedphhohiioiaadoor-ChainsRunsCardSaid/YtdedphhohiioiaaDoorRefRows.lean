/- What the reference's sum holds in memory. -/
import Derived.Test.YtdedphhohiioiaaDoorRefK
namespace Go.Proofs.YtdedphhohiioiaaDoor
open Go.RowKit

/-- What the reference's sum holds: the row of bytes, the words in b6, the state in b7, the constants in b8. -/
structure RS (W0 : World) (B b6 b7 b8 : Nat) (v : Value) (rows : List Int) (w : World) (ws st tb : List Int) : Prop where
  own : OwnO w B 5 v (u8s rows)
  glt : ∀ k, v.ownBlock = some k → k < b6
  h6 : w.heap[b6]? = some (.cells (u32s ws).toArray 104 (0, 0))
  h7 : w.heap[b7]? = some (.cells (u32s st).toArray 105 (0, 0))
  h8 : w.heap[b8]? = some (.cells (u32s tb).toArray 104 (0, 0))
  bel : Below B W0 w
theorem RS.below {W0 w w' : World} {B b6 b7 b8 : Nat} {v : Value} {rows ws st tb : List Int} (h : RS W0 B b6 b7 b8 v rows w ws st tb) (hb : Below w.heap.size w w') (hB : B ≤ w.heap.size) : RS W0 B b6 b7 b8 v rows w' ws st tb :=
  ⟨h.own.below hb, h.glt, blk_below h.h6 hb, blk_below h.h7 hb, blk_below h.h8 hb, h.bel.trans (hb.mono hB)⟩
theorem RS.drew {W0 w : World} {B b6 b7 b8 : Nat} {v : Value} {rows ws st tb : List Int} (h : RS W0 B b6 b7 b8 v rows w ws st tb) : RS W0 B b6 b7 b8 v rows w.drew ws st tb :=
  ⟨h.own.below ⟨rfl, rfl, rfl, Nat.le_refl _, fun _ _ => rfl⟩, h.glt, h.h6, h.h7, h.h8, h.bel.trans ⟨rfl, rfl, rfl, Nat.le_refl _, fun _ _ => rfl⟩⟩
theorem grown_one (w : World) (b i : Nat) (x : Value) : w.grownBy (w.setCell ⟨b, i, none⟩ x) (some b) :=
  ⟨rfl, rfl, rfl, by simp, fun k _ hne => heap_setCell_other w ⟨b, i, none⟩ k x (fun e => hne (by rw [e]))⟩
theorem u32s_set (xs : List Int) (i : Nat) (x : Int) : (u32s xs).set i (.int .u32 x) = u32s (xs.set i x) := by rw [u32s, u32s, List.map_set]
theorem RS.set6 {W0 w : World} {B b6 b7 b8 : Nat} {v : Value} {rows ws st tb : List Int} (h : RS W0 B b6 b7 b8 v rows w ws st tb) (hB : B ≤ b6 ∧ b6 < b7 ∧ b7 < b8) (i : Nat) (x : Int) :
    RS W0 B b6 b7 b8 v rows (w.setCell ⟨b6, i, none⟩ (.int .u32 x)) (ws.set i x) st tb := by
  refine ⟨h.own.kept (grown_one w b6 i _) (fun k hk e => ?_), h.glt, by rw [← u32s_set]; exact blk_set h.h6 i _, ?_, ?_, h.bel.setCell (by simp; omega) _⟩
  · have := h.glt k hk; simp only [Option.some.injEq] at e; omega
  · rw [heap_setCell_other w ⟨b6, i, none⟩ _ _ (by simp; omega)]; exact h.h7
  · rw [heap_setCell_other w ⟨b6, i, none⟩ _ _ (by simp; omega)]; exact h.h8
theorem RS.set7 {W0 w : World} {B b6 b7 b8 : Nat} {v : Value} {rows ws st tb : List Int} (h : RS W0 B b6 b7 b8 v rows w ws st tb) (hB : B ≤ b6 ∧ b6 < b7 ∧ b7 < b8) (i : Nat) (x : Int) :
    RS W0 B b6 b7 b8 v rows (w.setCell ⟨b7, i, none⟩ (.int .u32 x)) ws (st.set i x) tb := by
  refine ⟨h.own.kept (grown_one w b7 i _) (fun k hk e => ?_), h.glt, ?_, by rw [← u32s_set]; exact blk_set h.h7 i _, ?_, h.bel.setCell (by simp; omega) _⟩
  · have := h.glt k hk; simp only [Option.some.injEq] at e; omega
  · rw [heap_setCell_other w ⟨b7, i, none⟩ _ _ (by simp; omega)]; exact h.h6
  · rw [heap_setCell_other w ⟨b7, i, none⟩ _ _ (by simp; omega)]; exact h.h8
theorem RS.set8 {W0 w : World} {B b6 b7 b8 : Nat} {v : Value} {rows ws st tb : List Int} (h : RS W0 B b6 b7 b8 v rows w ws st tb) (hB : B ≤ b6 ∧ b6 < b7 ∧ b7 < b8) (i : Nat) (x : Int) :
    RS W0 B b6 b7 b8 v rows (w.setCell ⟨b8, i, none⟩ (.int .u32 x)) ws st (tb.set i x) := by
  refine ⟨h.own.kept (grown_one w b8 i _) (fun k hk e => ?_), h.glt, ?_, ?_, by rw [← u32s_set]; exact blk_set h.h8 i _, h.bel.setCell (by simp; omega) _⟩
  · have := h.glt k hk; simp only [Option.some.injEq] at e; omega
  · rw [heap_setCell_other w ⟨b8, i, none⟩ _ _ (by simp; omega)]; exact h.h6
  · rw [heap_setCell_other w ⟨b8, i, none⟩ _ _ (by simp; omega)]; exact h.h7
theorem u32s_at (xs : List Int) (i : Nat) (h : i < xs.length) : (u32s xs)[i]? = some (.int .u32 (xs.getD i 0)) := by
  simp [u32s, List.getD_eq_getElem?_getD, h]
theorem RS.byte {W0 w : World} {B b6 b7 b8 g off n c : Nat} {rows ws st tb : List Int} (h : RS W0 B b6 b7 b8 (.slice (some ⟨g, off, none⟩) n c) rows w ws st tb) (j : Nat) (hj : j < rows.length) :
    w.cell? ⟨g, off + j, none⟩ = some (.int .u8 (rows.getD j 0)) := by
  obtain ⟨b, off', c', he, _, _, hc⟩ := h.own.row (by rw [u8s_len']; omega)
  simp only [Value.slice.injEq, Option.some.injEq, Addr.mk.injEq] at he
  obtain ⟨⟨rfl, rfl, _⟩, _, rfl⟩ := he
  exact hc j _ (by simp [u8s, List.getD_eq_getElem?_getD, hj])
theorem RS.cell6 {W0 w : World} {B b6 b7 b8 : Nat} {v : Value} {rows ws st tb : List Int} (h : RS W0 B b6 b7 b8 v rows w ws st tb) (j : Nat) (hj : j < ws.length) : w.cell? ⟨b6, j, none⟩ = some (.int .u32 (ws.getD j 0)) :=
  blk_cell h.h6 j _ (u32s_at ws j hj)
theorem RS.cell7 {W0 w : World} {B b6 b7 b8 : Nat} {v : Value} {rows ws st tb : List Int} (h : RS W0 B b6 b7 b8 v rows w ws st tb) (j : Nat) (hj : j < st.length) : w.cell? ⟨b7, j, none⟩ = some (.int .u32 (st.getD j 0)) :=
  blk_cell h.h7 j _ (u32s_at st j hj)
theorem RS.cell8 {W0 w : World} {B b6 b7 b8 : Nat} {v : Value} {rows ws st tb : List Int} (h : RS W0 B b6 b7 b8 v rows w ws st tb) (j : Nat) (hj : j < tb.length) : w.cell? ⟨b8, j, none⟩ = some (.int .u32 (tb.getD j 0)) :=
  blk_cell h.h8 j _ (u32s_at tb j hj)
theorem sched_pre (bs : List Int) (k d : Nat) : ∀ i, i < 16 + k → (sched bs (k + d)).getD i 0 = (sched bs k).getD i 0 := by
  induction d with
  | zero => intro i _; rfl
  | succ d ih =>
    intro i hi
    rw [← ih i hi, ← Nat.add_assoc, sched, List.getD_eq_getElem?_getD, List.getElem?_append_left (by rw [sched_len]; omega), ← List.getD_eq_getElem?_getD]
theorem sch_pre (bs : List Int) (k i : Nat) (hk : k ≤ 48) (hi : i < 16 + k) : (sch bs).getD i 0 = (sched bs k).getD i 0 := by
  have h := sched_pre bs k (48 - k) i hi
  rw [show k + (48 - k) = 48 by omega] at h
  exact h
theorem sch_len (bs : List Int) : (sch bs).length = 64 := sched_len bs 48
theorem sch_word (bs : List Int) (i : Nat) (hi : i < 16) : (sch bs).getD i 0 = wordAt bs i := by
  rw [sch_pre bs 0 i (by omega) (by omega)]
  simp [sched, words, List.getD_eq_getElem?_getD, hi]
theorem sch_next (bs : List Int) (k : Nat) (hk : k < 48) : (sch bs).getD (16 + k) 0 = ((sch bs).getD k 0 + sg0 ((sch bs).getD (k + 1) 0) + (sch bs).getD (k + 9) 0 + sg1 ((sch bs).getD (k + 14) 0)) % 4294967296 := by
  rw [sch_pre bs (k + 1) (16 + k) (by omega) (by omega), sched, List.getD_eq_getElem?_getD, List.getElem?_append_right (by rw [sched_len]; omega), sched_len, Nat.sub_self]
  rw [sch_pre bs k k (by omega) (by omega), sch_pre bs k (k + 1) (by omega) (by omega), sch_pre bs k (k + 9) (by omega) (by omega), sch_pre bs k (k + 14) (by omega) (by omega)]
  simp only [List.getElem?_cons_zero, Option.getD_some, nextW]
  rw [show 16 + k - 16 = k by omega, show 16 + k - 15 = k + 1 by omega, show 16 + k - 7 = k + 9 by omega, show 16 + k - 2 = k + 14 by omega]
theorem over_lo (xs ys : List Int) (j i n : Nat) (hy : ys.length = n) (hj : j ≤ n) (hi : i < j) : (over xs ys j).getD i 0 = ys.getD i 0 := by
  simp only [over, List.getD_eq_getElem?_getD]
  rw [List.getElem?_append_left (by rw [List.length_take]; omega), List.getElem?_take, if_pos hi]
theorem be8_at (n j : Nat) (hj : j < 8) : (n : Int) * 8 / 2 ^ (56 - 8 * j) % 256 = (be8 n).getD j 0 := by
  have : j = 0 ∨ j = 1 ∨ j = 2 ∨ j = 3 ∨ j = 4 ∨ j = 5 ∨ j = 6 ∨ j = 7 := by omega
  rcases this with rfl | rfl | rfl | rfl | rfl | rfl | rfl | rfl <;> simp [be8]
end Go.Proofs.YtdedphhohiioiaaDoor
