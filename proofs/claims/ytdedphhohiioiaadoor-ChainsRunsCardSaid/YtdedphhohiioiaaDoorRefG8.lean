/- The reference's sum: the loop that reads the words. -/
import Derived.Test.YtdedphhohiioiaaDoorRefF
namespace Go.Proofs.YtdedphhohiioiaaDoor
open Go.RowKit

set_option maxHeartbeats 4000000 in
set_option maxRecDepth 100000 in
theorem loop8 (W0 : World) (B b6 b7 b8 b off n c : Nat) (rows ws bs st : List Int) (hwl : ws.length = 64) (hbb : ∀ b ∈ bs, B8 b) (HO1 : B ≤ b6 ∧ b6 < b7 ∧ b7 < b8) (hn : rows.length = n) (hn64 : 64 ≤ n) (hat : ∀ i, i < 64 → rows.getD i 0 = bs.getD i 0)
    (f : Nat → Value) (h4 : f 4 = .slice (some ⟨b, off, none⟩) n c) (h6 : f 6 = .pointer (some ⟨b6, 0, none⟩)) (h10 : f 10 = .int .i64 0)
    (Q : Exit → Act → World → Prop) (w : World) (hrs : RS W0 B b6 b7 b8 (.slice (some ⟨b, off, none⟩) n c) rows w ws st kk)
    (hexit : ∀ g w', Same W8 f g → RS W0 B b6 b7 b8 (.slice (some ⟨b, off, none⟩) n c) rows w' (over ws (sch bs) 16) st kk → Q (.exit 8) (frm 270 g) w') : Code.wp Tryd.prog (refLoop 8) Q (frm 270 f) w := by
  refine wp_loop (fun a w' => ∃ (g : Nat → Value) (i : Nat), a = frm 270 g ∧ i ≤ 16 ∧ Same W8 f g ∧ g 10 = .int .i64 (i : Int) ∧ RS W0 B b6 b7 b8 (.slice (some ⟨b, off, none⟩) n c) rows w' (over ws (sch bs) i) st kk)
    (fun a _ => 64 - (intOf (a.eval (.tmp 10))).toNat) ⟨f, 0, rfl, by omega, Same.refl _ _, h10, by rw [over_zero]; exact hrs⟩ ?_
  rintro a wr ⟨g, i, rfl, hk, hs, e10, hrs⟩
  have e6 : g 6 = .pointer (some ⟨b6, 0, none⟩) := (hs 6 rfl).trans h6
  have e4 : g 4 = .slice (some ⟨b, off, none⟩) n c := (hs 4 rfl).trans h4
  refine wp_seq (wp_seq ?_)
  refine wp_region_lit ?_
  refine plv rfl (is_move (.inl rfl) (frm_tmp (by decide) e10)) ?_
  refine plv rfl (is_lss rfl (frm_tmp (by decide) rfl) rfl) ?_
  refine wpList_nil ?_
  change Code.wp _ _ _ _ _
  by_cases hlt : i < 16
  · refine wp_cond_true (frm_tmp (by decide) (congrArg Value.bool (decide_eq_true (by omega)))) (wp_skip ?_)
    change Code.wp _ _ _ _ _
    refine wp_seq (wp_block ?_)
    obtain ⟨x0, hx0⟩ : ∃ x, x = bs.getD (4 * i) 0 := ⟨_, rfl⟩
    obtain ⟨x1, hx1⟩ : ∃ x, x = bs.getD (4 * i + 1) 0 := ⟨_, rfl⟩
    obtain ⟨x2, hx2⟩ : ∃ x, x = bs.getD (4 * i + 2) 0 := ⟨_, rfl⟩
    obtain ⟨x3, hx3⟩ : ∃ x, x = bs.getD (4 * i + 3) 0 := ⟨_, rfl⟩
    have r0 : B8 x0 := hx0 ▸ byte_at hbb _
    have r1 : B8 x1 := hx1 ▸ byte_at hbb _
    have r2 : B8 x2 := hx2 ▸ byte_at hbb _
    have r3 : B8 x3 := hx3 ▸ byte_at hbb _
    have cc : ∀ d, d < 64 → wr.drew.cell? ⟨b, off + d, none⟩ = some (.int .u8 (bs.getD d 0)) := fun d hd => by rw [hrs.drew.byte d (by omega), hat d hd]
    have c0 : wr.drew.cell? ⟨b, off + 4 * i, none⟩ = some (.int .u8 x0) := (cc (4 * i) (by omega)).trans (by rw [hx0])
    have c1 : wr.drew.cell? ⟨b, off + (4 * i + 1), none⟩ = some (.int .u8 x1) := (cc (4 * i + 1) (by omega)).trans (by rw [hx1])
    have c2 : wr.drew.cell? ⟨b, off + (4 * i + 2), none⟩ = some (.int .u8 x2) := (cc (4 * i + 2) (by omega)).trans (by rw [hx2])
    have c3 : wr.drew.cell? ⟨b, off + (4 * i + 3), none⟩ = some (.int .u8 x3) := (cc (4 * i + 3) (by omega)).trans (by rw [hx3])
    have hol : (over ws (sch bs) i).length = 64 := over_len _ _ _ 64 hwl (sch_len bs) (by omega)
    obtain ⟨z0, q0⟩ : ∃ z, wr.drew.cell? ⟨b6, i, none⟩ = some z := ⟨_, hrs.drew.cell6 i (by omega)⟩
    have q1 : wr.drew.frozen? ⟨b6, i, none⟩ = false := blk_free hrs.drew.h6 i
    · refine wp_region_still_tail 34 (by kernel_rfl) (by kernel_rfl) ?_
      change wpStill _ _ wr.drew _ _ _
      simp only [List.take_succ_cons, List.take_zero, List.drop_succ_cons, List.drop_zero]
      refine stv rfl (is_move (.inl rfl) (frm_tmp (by decide) e10)) ?_
      refine stv rfl (is_move (.inl rfl) (frm_tmp (by decide) e4)) ?_
      refine stv rfl (is_move (.inl rfl) (frm_tmp (by decide) e10)) ?_
      refine stv rfl (is_mul rfl rfl (frm_tmp (by decide) rfl)) ?_
      refine stv rfl (is_idx22 (4 * i) (four_i i hlt) (by omega) rfl (frm_tmp (by decide) rfl) (frm_tmp (by decide) rfl)) ?_
      refine stv rfl (is_load5 rfl (frm_tmp (by decide) rfl) c0) ?_
      refine stv rfl (is_conv103 rfl (frm_tmp (by decide) rfl)) ?_
      refine stv rfl (is_mul rfl (frm_tmp (by decide) rfl) rfl) ?_
      refine stv rfl (is_move (.inl rfl) (frm_tmp (by decide) e4)) ?_
      refine stv rfl (is_move (.inl rfl) (frm_tmp (by decide) e10)) ?_
      refine stv rfl (is_mul rfl rfl (frm_tmp (by decide) rfl)) ?_
      refine stv rfl (is_add rfl (frm_tmp (by decide) rfl) rfl) ?_
      refine stv rfl (is_idx22 (4 * i + 1) (four_id i 1 hlt (by omega)) (by omega) rfl (frm_tmp (by decide) rfl) (frm_tmp (by decide) rfl)) ?_
      refine stv rfl (is_load5 rfl (frm_tmp (by decide) rfl) c1) ?_
      refine stv rfl (is_conv103 rfl (frm_tmp (by decide) rfl)) ?_
      refine stv rfl (is_mul rfl (frm_tmp (by decide) rfl) rfl) ?_
      refine stv rfl (is_add rfl (frm_tmp (by decide) rfl) (frm_tmp (by decide) rfl)) ?_
      refine stv rfl (is_move (.inl rfl) (frm_tmp (by decide) e4)) ?_
      refine stv rfl (is_move (.inl rfl) (frm_tmp (by decide) e10)) ?_
      refine stv rfl (is_mul rfl rfl (frm_tmp (by decide) rfl)) ?_
      refine stv rfl (is_add rfl (frm_tmp (by decide) rfl) rfl) ?_
      refine stv rfl (is_idx22 (4 * i + 2) (four_id i 2 hlt (by omega)) (by omega) rfl (frm_tmp (by decide) rfl) (frm_tmp (by decide) rfl)) ?_
      refine stv rfl (is_load5 rfl (frm_tmp (by decide) rfl) c2) ?_
      refine stv rfl (is_conv103 rfl (frm_tmp (by decide) rfl)) ?_
      refine stv rfl (is_mul rfl (frm_tmp (by decide) rfl) rfl) ?_
      refine stv rfl (is_add rfl (frm_tmp (by decide) rfl) (frm_tmp (by decide) rfl)) ?_
      refine stv rfl (is_move (.inl rfl) (frm_tmp (by decide) e4)) ?_
      refine stv rfl (is_move (.inl rfl) (frm_tmp (by decide) e10)) ?_
      refine stv rfl (is_mul rfl rfl (frm_tmp (by decide) rfl)) ?_
      refine stv rfl (is_add rfl (frm_tmp (by decide) rfl) rfl) ?_
      refine stv rfl (is_idx22 (4 * i + 3) (four_id i 3 hlt (by omega)) (by omega) rfl (frm_tmp (by decide) rfl) (frm_tmp (by decide) rfl)) ?_
      refine stv rfl (is_load5 rfl (frm_tmp (by decide) rfl) c3) ?_
      refine stv rfl (is_conv103 rfl (frm_tmp (by decide) rfl)) ?_
      refine stv rfl (is_add rfl (frm_tmp (by decide) rfl) (frm_tmp (by decide) rfl)) ?_
      refine wpStill_nil ?_
      refine plv rfl (is_idx104 i rfl (by omega) rfl (frm_tmp (by decide) e6) (frm_tmp (by decide) rfl)) ?_
      refine plw rfl (is_store103 rfl (frm_tmp (by decide) rfl) (frm_tmp (by decide) rfl) q0 q1) ?_
      refine wpList_nil ?_
      change Code.wp _ _ _ _ _
      generalize hl : updO _ none _ = l
      have sl : Same W8 f l := by rw [← hl]; refine Same.none _ ?_; repeat (first | exact hs | refine Same.some rfl _ ?_)
      have l10 : l 10 = .int .i64 (i : Int) := by rw [← hl]; exact e10
      clear hl
      refine wp_region_lit ?_
      refine plv rfl (is_move (.inl rfl) (frm_tmp (by decide) l10)) ?_
      refine plv rfl (is_add rfl (frm_tmp (by decide) rfl) rfl) ?_
      refine plv rfl (is_move (.inr rfl) (frm_tmp (by decide) rfl)) ?_
      refine wpList_nil ?_
      refine ⟨⟨_, i + 1, rfl, by omega, ?_, ?_, ?_⟩, ?_⟩
      · repeat (first | exact sl | refine Same.some rfl _ ?_)
      · exact congrArg (Value.int .i64) ((i64_add _ _ (by omega) (by omega) (by omega) (by omega)).trans (by omega))
      · have h := hrs.drew.set6 HO1 i ((sch bs).getD i 0)
        rw [over_set ws (sch bs) i 64 hwl (sch_len bs) (by omega), sch_word bs i hlt, wordAt, ← hx0, ← hx1, ← hx2, ← hx3, ← word_sum x0 x1 x2 x3 r0 r1 r2 r3] at h
        exact h
      · rw [frm_tmp (v := .int .i64 ((i : Int) + 1)) (by decide) (congrArg (Value.int .i64) (i64_add _ _ (by omega) (by omega) (by omega) (by omega))), frm_tmp (by decide) e10]
        simp [intOf]
        omega
  · obtain rfl : i = 16 := by omega
    refine wp_cond_false (frm_tmp (by decide) (congrArg Value.bool (decide_eq_false (by omega)))) (wp_exit ?_)
    refine hexit _ _ ?_ hrs
    repeat (first | exact hs | refine Same.some rfl _ ?_)
end Go.Proofs.YtdedphhohiioiaaDoor
