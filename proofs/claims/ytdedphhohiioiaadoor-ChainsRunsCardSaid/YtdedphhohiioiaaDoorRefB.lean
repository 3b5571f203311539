/- The reference's sum: one block. -/
import Derived.Test.YtdedphhohiioiaaDoorRefG8
import Derived.Test.YtdedphhohiioiaaDoorRefG10
import Derived.Test.YtdedphhohiioiaaDoorRefG12
import Derived.Test.YtdedphhohiioiaaDoorRefG14
namespace Go.Proofs.YtdedphhohiioiaaDoor
open Go.RowKit

set_option maxHeartbeats 2000000 in
set_option maxRecDepth 100000 in
theorem body7 (W0 : World) (B b6 b7 b8 b off n c : Nat) (rows ws : List Int) (s : St) (hsok : s.ok) (hwl : ws.length = 64) (hrok : u8s_ok rows) (HO1 : B ≤ b6 ∧ b6 < b7 ∧ b7 < b8) (hn : rows.length = n) (hn64 : 64 ≤ n) (hnc : n ≤ c)
    (f : Nat → Value) (h4 : f 4 = .slice (some ⟨b, off, none⟩) n c) (h6 : f 6 = .pointer (some ⟨b6, 0, none⟩)) (h7 : f 7 = .pointer (some ⟨b7, 0, none⟩)) (h8 : f 8 = .pointer (some ⟨b8, 0, none⟩))
    (Q : Exit → Act → World → Prop) (w : World) (hrs : RS W0 B b6 b7 b8 (.slice (some ⟨b, off, none⟩) n c) rows w ws s.list kk)
    (hend : ∀ g w' A, Same W7 f g → g 4 = .slice A (n - 64) (c - 64) → RS W0 B b6 b7 b8 (.slice A (n - 64) (c - 64)) (rows.drop 64) w' (sch (rows.take 64)) (s.comp (rows.take 64)).list kk → Q .normal (frm 270 g) w') : Code.wp Tryd.prog (refLoop 7) Q (frm 270 f) w := by
  have hbl : (rows.take 64).length = 64 := by rw [List.length_take]; omega
  have hbb : ∀ x ∈ rows.take 64, B8 x := hrok.take 64
  have hat : ∀ i, i < 64 → rows.getD i 0 = (rows.take 64).getD i 0 := fun i hi => by simp only [List.getD_eq_getElem?_getD, List.getElem?_take, if_pos hi]
  generalize hbs : rows.take 64 = bs at *
  refine wp_seq (wp_seq ?_)
  refine wp_region_lit ?_
  refine plv rfl (is_move (.inr rfl) rfl) ?_
  refine wpList_nil ?_
  change Code.wp _ _ _ _ _
  refine wp_block (loop8 W0 B b6 b7 b8 b off n c rows ws bs s.list hwl hbb HO1 hn hn64 hat _ (by exact h4) (by exact h6) (by rfl) _ w hrs fun g1 w1 q1 r1 => ?_)
  have s1 : Same W7 f g1 := Same.trans (Same.some rfl _ (Same.refl _ _)) (in7 q1 in7_8)
  have e4 : g1 4 = .slice (some ⟨b, off, none⟩) n c := (q1 4 rfl).trans h4
  change Code.wp _ _ _ _ _
  refine wp_seq (wp_seq ?_)
  refine wp_region_lit ?_
  refine plv rfl (is_move (.inr rfl) rfl) ?_
  refine wpList_nil ?_
  change Code.wp _ _ _ _ _
  refine wp_block (loop10 W0 B b6 b7 b8 _ rows ws bs s.list hwl hbb HO1 _ (by exact (s1 6 rfl).trans h6) (by rfl) _ w1 r1 fun g2 w2 q2 r2 => ?_)
  have s2 : Same W7 f g2 := s1.trans (Same.trans (Same.some rfl _ (Same.refl _ _)) (in7 q2 in7_10))
  have e4b : g2 4 = .slice (some ⟨b, off, none⟩) n c := (q2 4 rfl).trans e4
  change Code.wp _ _ _ _ _
  refine wp_seq ?_
  refine wp_region_lit ?_
  refine wpList_load_g rfl 105 _ rfl b7 0 (frm_tmp (by decide) ((s2 7 rfl).trans h7)) (u32s s.list) _ (blk_range r2.h7) Tryd.underlying105 rfl (by kernel_rfl) ?_
  rw [frm_put]
  refine pla rfl (al105 rfl) ?_
  refine wpList_store_row rfl 105 _ _ rfl w2.heap.size (frm_tmp (by decide) rfl) (u32s s.list) (frm_tmp (by decide) rfl) 105 (has_new w2 _ _ _ rfl) (by kernel_rfl) (one_u32s _) ?_
  intro w3 hp
  rw [frm_put]
  refine wpList_nil ?_
  change Code.wp _ _ _ _ _
  generalize hi : updO _ none _ = g3
  have s3 : Same W7 f g3 := by rw [← hi]; refine Same.none _ ?_; repeat (first | exact s2 | refine Same.some rfl _ ?_)
  have e14 : g3 14 = .pointer (some ⟨w2.heap.size, 0, none⟩) := by rw [← hi]; rfl
  have e4c : g3 4 = .slice (some ⟨b, off, none⟩) n c := by rw [← hi]; exact e4b
  clear hi
  have hb8 : b8 < w2.heap.size := blk_lt r2.h8
  have r3 : RV W0 B b6 b7 b8 w2.heap.size (.slice (some ⟨b, off, none⟩) n c) rows w3 (sch bs) s.list kk s.list :=
    ⟨(r2.below ((Below.refl _ _).alloc (Nat.le_refl _) _) (by omega)).put HO1 hb8 hp, hp.blk, hb8⟩
  refine wp_seq (wp_seq ?_)
  refine wp_region_lit ?_
  refine plv rfl (is_move (.inr rfl) rfl) ?_
  refine wpList_nil ?_
  change Code.wp _ _ _ _ _
  refine wp_block (loop12 W0 B b6 b7 b8 w2.heap.size _ rows (sch bs) s.list s hsok (sch_len bs) HO1 _ (by exact (s3 6 rfl).trans h6) (by exact (s3 8 rfl).trans h8) (by exact e14) (by rfl) _ w3 r3 fun g4 w4 q4 r4 => ?_)
  have s4 : Same W7 f g4 := s3.trans (Same.trans (Same.some rfl _ (Same.refl _ _)) (in7 q4 in7_12))
  have e4d : g4 4 = .slice (some ⟨b, off, none⟩) n c := (q4 4 rfl).trans e4c
  have e14b : g4 14 = .pointer (some ⟨w2.heap.size, 0, none⟩) := (q4 14 rfl).trans e14
  change Code.wp _ _ _ _ _
  refine wp_seq (wp_seq ?_)
  refine wp_region_lit ?_
  refine plv rfl (is_move (.inl rfl) rfl) ?_
  refine wpList_nil ?_
  change Code.wp _ _ _ _ _
  refine wp_block (loop14 W0 B b6 b7 b8 w2.heap.size _ rows (sch bs) s (s.rnds (sch bs) 64) HO1 _ (by exact (s4 7 rfl).trans h7) (by exact e14b) (by rfl) _ w4 r4 fun g5 w5 q5 r5 => ?_)
  have s5 : Same W7 f g5 := s4.trans (Same.trans (Same.some rfl _ (Same.refl _ _)) (in7 q5 in7_14))
  have e4e : g5 4 = .slice (some ⟨b, off, none⟩) n c := (q5 4 rfl).trans e4d
  change Code.wp _ _ _ _ _
  refine wp_region_lit ?_
  refine plv rfl (is_move (.inl rfl) (frm_tmp (by decide) e4e)) ?_
  refine plv rfl (is_cut64 hn64 hnc rfl (frm_tmp (by decide) rfl) rfl) ?_
  refine plv rfl (is_move (.inr rfl) (frm_tmp (by decide) rfl)) ?_
  refine wpList_nil ?_
  refine hend _ _ _ ?_ rfl ?_
  · repeat (first | exact s5 | refine Same.some rfl _ ?_)
  · have hd := r5.rs.own.drop (k := 64) (by rw [u8s_len']; omega)
    rw [u8s, ← List.map_drop] at hd
    refine ⟨hd, fun k hk => r5.rs.glt k ?_, r5.rs.h6, r5.rs.h7, r5.rs.h8, r5.rs.bel⟩
    by_cases hc : c = 64 <;> simpa [Value.ownBlock, hc] using hk
end Go.Proofs.YtdedphhohiioiaaDoor
