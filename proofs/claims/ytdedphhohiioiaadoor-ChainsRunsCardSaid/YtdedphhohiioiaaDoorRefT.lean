/- The reference's sum: its end. -/
import Derived.Test.YtdedphhohiioiaaDoorRefG6
namespace Go.Proofs.YtdedphhohiioiaaDoor
open Go.RowKit

def W16 (t : Nat) : Bool := Wr 252 268 22 t
def behind (id : Nat) : Code → Option Code
  | .seq (.block i _) b => if i = id then some b else behind id b
  | .seq _ b => behind id b
  | _ => none
noncomputable def refTail : Code := (Tryd.f28.body.bind (behind 6)).getD .skip

set_option maxHeartbeats 2000000 in
set_option maxRecDepth 100000 in
theorem loop16 (S : St) (b7 b21 : Nat) (hlt7 : b7 < b21) (f : Nat → Value) (h7 : f 7 = .pointer (some ⟨b7, 0, none⟩)) (h21 : f 21 = .pointer (some ⟨b21, 0, none⟩)) (h252 : f 252 = .int .i64 0)
    (Q : Exit → Act → World → Prop) (w : World) (hb7 : w.heap[b7]? = some (.cells (u32s S.list).toArray 105 (0, 0))) (hb21 : w.heap[b21]? = some (.cells (u8s (pad 32 (outB S 0))).toArray 25 (0, 0)))
    (hexit : ∀ g w', Same W16 f g → Below b21 w w' → w'.heap[b21]? = some (.cells (u8s (outB S 32)).toArray 25 (0, 0)) → Q (.exit 16) (frm 270 g) w') : Code.wp Tryd.prog (refLoop 16) Q (frm 270 f) w := by
  refine wp_loop (fun a w' => ∃ (g : Nat → Value) (i : Nat), a = frm 270 g ∧ i ≤ 32 ∧ Same W16 f g ∧ g 252 = .int .i64 (i : Int) ∧ Below b21 w w' ∧ w'.heap[b21]? = some (.cells (u8s (pad 32 (outB S i))).toArray 25 (0, 0)))
    (fun a _ => 64 - (intOf (a.eval (.tmp 252))).toNat) ⟨f, 0, rfl, by omega, Same.refl _ _, h252, Below.refl _ _, hb21⟩ ?_
  rintro a wr ⟨g, i, rfl, hk, hs, e252, hbel, hbk⟩
  refine wp_seq ?_
  refine wp_region_lit ?_
  refine plv rfl (is_lss rfl (frm_tmp (by decide) e252) rfl) ?_
  refine wpList_nil ?_
  change Code.wp _ _ _ _ _
  by_cases hlt : i < 32
  · refine wp_seq (wp_cond_true (frm_tmp (by decide) (congrArg Value.bool (decide_eq_true (by omega)))) (wp_skip ?_))
    change Code.wp _ _ _ _ _
    refine wp_seq (wp_block (wp_seq ?_))
    generalize hi : updO _ (some 253) _ = k
    have sk : Same W16 f k := by rw [← hi]; repeat (first | exact hs | refine Same.some rfl _ ?_)
    have k252 : k 252 = .int .i64 (i : Int) := by rw [← hi]; exact e252
    clear hi
    refine wp_region_lit ?_
    refine plv rfl (is_move (.inl rfl) (frm_tmp (by decide) k252)) ?_
    refine plv rfl (is_move (.inr rfl) (frm_tmp (by decide) rfl)) ?_
    refine wpList_nil ?_
    change Code.wp _ _ _ _ _
    generalize hi : updO _ (some 22) _ = j
    have sj : Same W16 f j := by rw [← hi]; repeat (first | exact sk | refine Same.some rfl _ ?_)
    have j22 : j 22 = .int .i64 (i : Int) := by rw [← hi]; rfl
    have j252 : j 252 = .int .i64 (i : Int) := by rw [← hi]; exact k252
    have j7 : j 7 = .pointer (some ⟨b7, 0, none⟩) := (sj 7 rfl).trans h7
    have j21 : j 21 = .pointer (some ⟨b21, 0, none⟩) := (sj 21 rfl).trans h21
    clear hi
    obtain ⟨y, hy⟩ : ∃ y, y = S.list.getD (i / 4) 0 := ⟨_, rfl⟩
    have cy : wr.cell? ⟨b7, i / 4, none⟩ = some (.int .u32 y) := blk_cell ((hbel.block _ hlt7).trans hb7) (i / 4) _ (by rw [hy]; exact u32s_at S.list (i / 4) (show i / 4 < 8 by omega))
    have hpl : (u8s (pad 32 (outB S i))).length = 32 := by rw [u8s_len', pad_len _ _ (by rw [outB_len]; omega)]
    have hil : i < (u8s (pad 32 (outB S i))).length := by omega
    have cz : wr.cell? ⟨b21, i, none⟩ = some (u8s (pad 32 (outB S i)))[i] := blk_cell hbk i _ (by simp)
    have qz : wr.frozen? ⟨b21, i, none⟩ = false := blk_free hbk i
    have hcalc : IntKind.i64.wrap (24 - IntKind.i64.wrap (8 * ((i % 4 : Nat) : Int))) = ((24 - 8 * (i % 4) : Nat) : Int) := by
      rw [i64_mul _ _ (by omega) (by omega) (by omega) (by omega), i64_sub _ _ (by omega) (by omega) (by omega) (by omega)]
      omega
    obtain ⟨D, hD, hDo⟩ : ∃ D : Int, ((24 - 8 * (i % 4) = 0 ∧ D = 1) ∨ (24 - 8 * (i % 4) = 8 ∧ D = 256) ∨ (24 - 8 * (i % 4) = 16 ∧ D = 65536) ∨ (24 - 8 * (i % 4) = 24 ∧ D = 16777216)) ∧ y / D % 256 = outAt S i := by
      have : i % 4 = 0 ∨ i % 4 = 1 ∨ i % 4 = 2 ∨ i % 4 = 3 := by omega
      unfold outAt
      rw [← hy]
      rcases this with h | h | h | h
      · exact ⟨16777216, by omega, by simp [h]⟩
      · exact ⟨65536, by omega, by simp [h]⟩
      · exact ⟨256, by omega, by simp [h]⟩
      · exact ⟨1, by omega, by simp [h]⟩
    refine wp_region_lit ?_
    refine plv rfl (is_move (.inl rfl) (frm_tmp (by decide) j22)) ?_
    refine plv rfl (is_move (.inl rfl) (frm_tmp (by decide) j22)) ?_
    refine plv rfl (is_quo4 i hlt rfl (frm_tmp (by decide) rfl) rfl) ?_
    refine plv rfl (is_idx105 (i / 4) rfl (by omega) rfl (frm_tmp (by decide) j7) (frm_tmp (by decide) rfl)) ?_
    refine plv rfl (is_load103 rfl (frm_tmp (by decide) rfl) cy) ?_
    refine plv rfl (is_move (.inl rfl) (frm_tmp (by decide) j22)) ?_
    refine plv rfl (is_rem4 i hlt rfl (frm_tmp (by decide) rfl) rfl) ?_
    refine plv rfl (is_mul rfl rfl (frm_tmp (by decide) rfl)) ?_
    refine plv rfl (is_sub rfl rfl (frm_tmp (by decide) rfl)) ?_
    refine plv rfl (is_convN (24 - 8 * (i % 4)) (by omega) rfl (frm_tmp (by decide) (congrArg (Value.int .i64) hcalc))) ?_
    refine plv rfl (is_shrN (24 - 8 * (i % 4)) D hD rfl (frm_tmp (by decide) rfl) (frm_tmp (by decide) rfl)) ?_
    refine plv rfl (is_conv5 rfl (frm_tmp (by decide) rfl)) ?_
    refine plv rfl (is_idx25 i rfl hlt rfl (frm_tmp (by decide) j21) (frm_tmp (by decide) rfl)) ?_
    refine plw rfl (is_store5 rfl (frm_tmp (by decide) rfl) (frm_tmp (by decide) rfl) cz qz) ?_
    refine wpList_nil ?_
    change Code.wp _ _ _ _ _
    generalize hi : updO _ none _ = n
    have sn : Same W16 f n := by rw [← hi]; refine Same.none _ ?_; repeat (first | exact sj | refine Same.some rfl _ ?_)
    have n252 : n 252 = .int .i64 (i : Int) := by rw [← hi]; exact j252
    clear hi
    refine wp_region_lit ?_
    refine plv rfl (is_add rfl (frm_tmp (by decide) n252) rfl) ?_
    refine plv rfl (is_move (.inl rfl) (frm_tmp (by decide) rfl)) ?_
    refine wpList_nil ?_
    refine ⟨⟨_, i + 1, rfl, by omega, ?_, ?_, hbel.setCell (Nat.le_refl _) _, ?_⟩, ?_⟩
    · repeat (first | exact sn | refine Same.some rfl _ ?_)
    · exact congrArg (Value.int .i64) ((i64_add _ _ (by omega) (by omega) (by omega) (by omega)).trans (by omega))
    · have h := pad_set 32 (outB S i) (outAt S i) (by rw [outB_len]; omega)
      rw [outB_len] at h
      rw [outB_succ, ← h, hDo, u8s, List.map_set]
      exact blk_set hbk i _
    · rw [frm_tmp (v := .int .i64 ((i : Int) + 1)) (by decide) (congrArg (Value.int .i64) (i64_add _ _ (by omega) (by omega) (by omega) (by omega))), frm_tmp (by decide) e252]
      simp [intOf]
      omega
  · obtain rfl : i = 32 := by omega
    refine wp_seq (wp_cond_false (frm_tmp (by decide) (congrArg Value.bool (decide_eq_false (by omega)))) (wp_exit ?_))
    rw [pad_full _ _ (outB_len _ _)] at hbk
    refine hexit _ _ ?_ hbel hbk
    repeat (first | exact hs | refine Same.some rfl _ ?_)

set_option maxHeartbeats 2000000 in
set_option maxRecDepth 100000 in
theorem tail28 (S : St) (b2 b7 : Nat) (f : Nat → Value) (h2 : f 2 = .pointer (some ⟨b2, 0, none⟩)) (h7 : f 7 = .pointer (some ⟨b7, 0, none⟩))
    (Q : Exit → Act → World → Prop) (w : World) (hb7 : w.heap[b7]? = some (.cells (u32s S.list).toArray 105 (0, 0))) (hb2 : Has w b2 25 32)
    (hret : ∀ g w1 w2, g 2 = .pointer (some ⟨b2, 0, none⟩) → Below w.heap.size w w1 → Put w1 b2 25 (u8s (outB S 32)) w2 → Q .ret (frm 270 g) w2) : Code.wp Tryd.prog refTail Q (frm 270 f) w := by
  refine wp_seq ?_
  refine wp_region_lit ?_
  refine plv rfl (is_build25 rfl rfl) ?_
  refine pla rfl (al25 rfl) ?_
  refine wpList_store_row rfl 25 _ _ rfl w.heap.size (frm_tmp (by decide) rfl) (u8s (List.replicate 32 0)) (frm_tmp (by decide) rfl) 25 (has_new w _ _ _ rfl) (by kernel_rfl) (one_u8s _) ?_
  intro w1 hp
  rw [frm_put]
  refine wpList_nil ?_
  change Code.wp _ _ _ _ _
  generalize hi : updO _ none _ = k
  have k2 : k 2 = .pointer (some ⟨b2, 0, none⟩) := by rw [← hi]; exact h2
  have k7 : k 7 = .pointer (some ⟨b7, 0, none⟩) := by rw [← hi]; exact h7
  have k21 : k 21 = .pointer (some ⟨w.heap.size, 0, none⟩) := by rw [← hi]; rfl
  clear hi
  have bel1 : Below w.heap.size w w1 := hp.below ((Below.refl _ _).alloc (Nat.le_refl _) _) (Nat.le_refl _)
  have hlt7 : b7 < w.heap.size := blk_lt hb7
  refine wp_seq (wp_seq ?_)
  refine wp_region_lit ?_
  refine plv rfl (is_move (.inl rfl) rfl) ?_
  refine wpList_nil ?_
  change Code.wp _ _ _ _ _
  refine wp_block (loop16 S b7 w.heap.size hlt7 _ (by exact k7) (by exact k21) (by rfl) _ w1 ((bel1.block _ hlt7).trans hb7) hp.blk fun g2 w2 q2 bel2 hb21 => ?_)
  change Code.wp _ _ _ _ _
  have g21 : g2 21 = .pointer (some ⟨w.heap.size, 0, none⟩) := (q2 21 rfl).trans k21
  have g22 : g2 2 = .pointer (some ⟨b2, 0, none⟩) := (q2 2 rfl).trans k2
  have hl : (u8s (outB S 32)).length = 32 := by rw [u8s_len', outB_len]
  have hi25 : (Tryd.prog.info? 25).map (·.size) = some (u8s (outB S 32)).length := by rw [hl]; exact Tryd.size25
  refine wp_seq ?_
  refine wp_region_lit ?_
  refine wpList_load_g rfl 25 _ rfl w.heap.size 0 (frm_tmp (by decide) g21) (u8s (outB S 32)) _ (blk_range hb21) Tryd.underlying25 rfl hi25 ?_
  rw [frm_put]
  have hh : Has w2 b2 25 (u8s (outB S 32)).length := by rw [hl]; exact (hb2.below bel1).same (bel2.block _ hb2.lt)
  refine wpList_store_row rfl 25 _ _ rfl b2 (frm_tmp (by decide) g22) (u8s (outB S 32)) (frm_tmp (by decide) rfl) 25 hh hi25 (one_u8s _) ?_
  intro w3 hp3
  rw [frm_put]
  refine wpList_nil ?_
  change Code.wp _ _ _ _ _
  exact wp_ret (hret _ w2 w3 g22 (bel1.trans bel2) hp3)
end Go.Proofs.YtdedphhohiioiaaDoor
