/- The reference's sum: the eight sums. -/
import Derived.Test.YtdedphhohiioiaaDoorRefE
namespace Go.Proofs.YtdedphhohiioiaaDoor
open Go.RowKit

set_option maxHeartbeats 2000000 in
set_option maxRecDepth 100000 in
theorem loop14 (W0 : World) (B b6 b7 b8 b14 : Nat) (v : Value) (rows ws : List Int) (s r : St) (HO1 : B ≤ b6 ∧ b6 < b7 ∧ b7 < b8)
    (f : Nat → Value) (h7 : f 7 = .pointer (some ⟨b7, 0, none⟩)) (h14 : f 14 = .pointer (some ⟨b14, 0, none⟩)) (h237 : f 237 = .int .i64 0)
    (Q : Exit → Act → World → Prop) (w : World) (hrs : RV W0 B b6 b7 b8 b14 v rows w ws s.list kk r.list)
    (hexit : ∀ g w', Same W14 f g → RV W0 B b6 b7 b8 b14 v rows w' ws (s.add r).list kk r.list → Q (.exit 14) (frm 270 g) w') : Code.wp Tryd.prog (refLoop 14) Q (frm 270 f) w := by
  refine wp_loop (fun a w' => ∃ (g : Nat → Value) (i : Nat), a = frm 270 g ∧ i ≤ 8 ∧ Same W14 f g ∧ g 237 = .int .i64 (i : Int) ∧ RV W0 B b6 b7 b8 b14 v rows w' ws (over s.list (s.add r).list i) kk r.list)
    (fun a _ => 64 - (intOf (a.eval (.tmp 237))).toNat) ⟨f, 0, rfl, by omega, Same.refl _ _, h237, by rw [over_zero]; exact hrs⟩ ?_
  rintro a wr ⟨g, i, rfl, hk, hs, e237, hrs⟩
  refine wp_seq ?_
  refine wp_region_lit ?_
  refine plv rfl (is_lss rfl (frm_tmp (by decide) e237) rfl) ?_
  refine wpList_nil ?_
  change Code.wp _ _ _ _ _
  by_cases hlt : i < 8
  · refine wp_seq (wp_cond_true (frm_tmp (by decide) (congrArg Value.bool (decide_eq_true (by omega)))) (wp_skip ?_))
    change Code.wp _ _ _ _ _
    refine wp_seq (wp_block (wp_seq ?_))
    generalize hi : updO _ (some 238) _ = k
    have sk : Same W14 f k := by rw [← hi]; repeat (first | exact hs | refine Same.some rfl _ ?_)
    have k237 : k 237 = .int .i64 (i : Int) := by rw [← hi]; exact e237
    clear hi
    refine wp_region_lit ?_
    refine plv rfl (is_move (.inl rfl) (frm_tmp (by decide) k237)) ?_
    refine plv rfl (is_move (.inr rfl) (frm_tmp (by decide) rfl)) ?_
    refine wpList_nil ?_
    change Code.wp _ _ _ _ _
    generalize hi : updO _ (some 20) _ = j
    have sj : Same W14 f j := by rw [← hi]; repeat (first | exact sk | refine Same.some rfl _ ?_)
    have j20 : j 20 = .int .i64 (i : Int) := by rw [← hi]; rfl
    have j237 : j 237 = .int .i64 (i : Int) := by rw [← hi]; exact k237
    have j7 : j 7 = .pointer (some ⟨b7, 0, none⟩) := (sj 7 rfl).trans h7
    have j14 : j 14 = .pointer (some ⟨b14, 0, none⟩) := (sj 14 rfl).trans h14
    clear hi
    have hol : (over s.list (s.add r).list i).length = 8 := over_len _ _ _ 8 rfl rfl (by omega)
    have cs : wr.drew.cell? ⟨b7, i, none⟩ = some (.int .u32 (s.list.getD i 0)) := by rw [hrs.drew.rs.cell7 i (by omega), over_at _ _ _ 8 rfl rfl hlt]
    have cv : wr.drew.cell? ⟨b14, i, none⟩ = some (.int .u32 (r.list.getD i 0)) := hrs.drew.cell i _ (by
      have hl : i < r.list.length := hlt
      simp [List.getD_eq_getElem?_getD, hl])
    have q1 : wr.drew.frozen? ⟨b7, i, none⟩ = false := blk_free hrs.drew.rs.h7 i
    refine wp_region_still_tail 7 (by kernel_rfl) (by kernel_rfl) ?_
    change wpStill _ _ wr.drew _ _ _
    simp only [List.take_succ_cons, List.take_zero, List.drop_succ_cons, List.drop_zero]
    refine stv rfl (is_move (.inl rfl) (frm_tmp (by decide) j20)) ?_
    refine stv rfl (is_idx105 i rfl hlt rfl (frm_tmp (by decide) j7) (frm_tmp (by decide) rfl)) ?_
    refine stv rfl (is_load103 rfl (frm_tmp (by decide) rfl) cs) ?_
    refine stv rfl (is_move (.inl rfl) (frm_tmp (by decide) j20)) ?_
    refine stv rfl (is_idx105 i rfl hlt rfl (frm_tmp (by decide) j14) (frm_tmp (by decide) rfl)) ?_
    refine stv rfl (is_load103 rfl (frm_tmp (by decide) rfl) cv) ?_
    refine stv rfl (is_add rfl (frm_tmp (by decide) rfl) (frm_tmp (by decide) rfl)) ?_
    refine wpStill_nil ?_
    refine plv rfl (is_idx105 i rfl hlt rfl (frm_tmp (by decide) j7) (frm_tmp (by decide) rfl)) ?_
    refine plw rfl (is_store103 rfl (frm_tmp (by decide) rfl) (frm_tmp (by decide) rfl) cs q1) ?_
    refine wpList_nil ?_
    change Code.wp _ _ _ _ _
    generalize hi : updO _ none _ = n
    have sn : Same W14 f n := by rw [← hi]; refine Same.none _ ?_; repeat (first | exact sj | refine Same.some rfl _ ?_)
    have n237 : n 237 = .int .i64 (i : Int) := by rw [← hi]; exact j237
    clear hi
    refine wp_region_lit ?_
    refine plv rfl (is_add rfl (frm_tmp (by decide) n237) rfl) ?_
    refine plv rfl (is_move (.inl rfl) (frm_tmp (by decide) rfl)) ?_
    refine wpList_nil ?_
    refine ⟨⟨_, i + 1, rfl, by omega, ?_, ?_, ?_⟩, ?_⟩
    · repeat (first | exact sn | refine Same.some rfl _ ?_)
    · exact congrArg (Value.int .i64) ((i64_add _ _ (by omega) (by omega) (by omega) (by omega)).trans (by omega))
    · have h := hrs.drew.set7 HO1 i ((s.add r).list.getD i 0)
      rw [over_set _ _ _ 8 rfl rfl hlt, St.add_at s r i hlt, ← IntKind.wrap_u32] at h
      exact h
    · rw [frm_tmp (v := .int .i64 ((i : Int) + 1)) (by decide) (congrArg (Value.int .i64) (i64_add _ _ (by omega) (by omega) (by omega) (by omega))), frm_tmp (by decide) e237]
      simp [intOf]
      omega
  · obtain rfl : i = 8 := by omega
    refine wp_seq (wp_cond_false (frm_tmp (by decide) (congrArg Value.bool (decide_eq_false (by omega)))) (wp_exit ?_))
    rw [over_all _ _ 8 rfl rfl] at hrs
    refine hexit _ _ ?_ hrs
    repeat (first | exact hs | refine Same.some rfl _ ?_)
end Go.Proofs.YtdedphhohiioiaaDoor
