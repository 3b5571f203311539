/- The reference's sum: the loop that fills the words in. -/
import Derived.Test.YtdedphhohiioiaaDoorRefF
namespace Go.Proofs.YtdedphhohiioiaaDoor
open Go.RowKit

set_option maxHeartbeats 4000000 in
set_option maxRecDepth 100000 in
theorem loop10 (W0 : World) (B b6 b7 b8 : Nat) (v : Value) (rows ws bs st : List Int) (hwl : ws.length = 64) (hbb : ∀ b ∈ bs, B8 b) (HO1 : B ≤ b6 ∧ b6 < b7 ∧ b7 < b8) (f : Nat → Value) (h6 : f 6 = .pointer (some ⟨b6, 0, none⟩)) (h11 : f 11 = .int .i64 16)
    (Q : Exit → Act → World → Prop) (w : World) (hrs : RS W0 B b6 b7 b8 v rows w (over ws (sch bs) 16) st kk)
    (hexit : ∀ g w', Same W10 f g → RS W0 B b6 b7 b8 v rows w' (sch bs) st kk → Q (.exit 10) (frm 270 g) w') : Code.wp Tryd.prog (refLoop 10) Q (frm 270 f) w := by
  refine wp_loop (fun a w' => ∃ (g : Nat → Value) (k : Nat), a = frm 270 g ∧ k ≤ 48 ∧ Same W10 f g ∧ g 11 = .int .i64 (16 + (k : Int)) ∧ RS W0 B b6 b7 b8 v rows w' (over ws (sch bs) (16 + k)) st kk)
    (fun a _ => 64 - (intOf (a.eval (.tmp 11))).toNat) ⟨f, 0, rfl, by omega, Same.refl _ _, h11, hrs⟩ ?_
  rintro a wr ⟨g, k, rfl, hk, hs, e11, hrs⟩
  have e6 : g 6 = .pointer (some ⟨b6, 0, none⟩) := (hs 6 rfl).trans h6
  refine wp_seq (wp_seq ?_)
  refine wp_region_lit ?_
  refine plv rfl (is_move (.inl rfl) (frm_tmp (by decide) e11)) ?_
  refine plv rfl (is_lss rfl (frm_tmp (by decide) rfl) rfl) ?_
  refine wpList_nil ?_
  change Code.wp _ _ _ _ _
  by_cases hlt : k < 48
  · refine wp_cond_true (frm_tmp (by decide) (congrArg Value.bool (decide_eq_true (by omega)))) (wp_skip ?_)
    change Code.wp _ _ _ _ _
    refine wp_seq (wp_block (wp_seq ?_))
    obtain ⟨xa, hxa⟩ : ∃ x, x = (sch bs).getD k 0 := ⟨_, rfl⟩
    obtain ⟨xb, hxb⟩ : ∃ x, x = (sch bs).getD (k + 1) 0 := ⟨_, rfl⟩
    obtain ⟨xc, hxc⟩ : ∃ x, x = (sch bs).getD (k + 9) 0 := ⟨_, rfl⟩
    obtain ⟨xd, hxd⟩ : ∃ x, x = (sch bs).getD (k + 14) 0 := ⟨_, rfl⟩
    have sr : ∀ x ∈ sch bs, U x := sched_range hbb 48
    have rb : U xb := hxb ▸ getD_range sr _
    have rd : U xd := hxd ▸ getD_range sr _
    have hol : (over ws (sch bs) (16 + k)).length = 64 := over_len _ _ _ 64 hwl (sch_len bs) (by omega)
    have at_ : ∀ j, j < 16 + k → wr.drew.cell? ⟨b6, j, none⟩ = some (.int .u32 ((sch bs).getD j 0)) := fun j hj => by
      rw [hrs.drew.cell6 j (by omega), over_lo ws (sch bs) (16 + k) j 64 (sch_len bs) (by omega) hj]
    have qa : wr.drew.drew.cell? ⟨b6, k, none⟩ = some (.int .u32 xa) := (at_ k (by omega)).trans (by rw [hxa])
    have ca : wr.drew.cell? ⟨b6, k + 1, none⟩ = some (.int .u32 xb) := (at_ (k + 1) (by omega)).trans (by rw [hxb])
    have qc : wr.drew.drew.cell? ⟨b6, k + 9, none⟩ = some (.int .u32 xc) := (at_ (k + 9) (by omega)).trans (by rw [hxc])
    have cd : wr.drew.cell? ⟨b6, k + 14, none⟩ = some (.int .u32 xd) := (at_ (k + 14) (by omega)).trans (by rw [hxd])
    obtain ⟨z0, q0⟩ : ∃ z, wr.drew.drew.cell? ⟨b6, 16 + k, none⟩ = some z := ⟨_, hrs.drew.drew.cell6 (16 + k) (by omega)⟩
    have q1 : wr.drew.drew.frozen? ⟨b6, 16 + k, none⟩ = false := blk_free hrs.drew.drew.h6 (16 + k)
    have hnx : (sch bs).getD (16 + k) 0 = (xa + sg0 xb + xc + sg1 xd) % 4294967296 := by rw [sch_next bs k hlt, hxa, hxb, hxc, hxd]
    · refine wp_region_still_lit (by kernel_rfl) (by kernel_rfl) ?_
      change wpStill _ _ wr.drew _ _ _
      refine stv rfl (is_move (.inl rfl) (frm_tmp (by decide) e11)) ?_
      refine stv rfl (is_sub rfl (frm_tmp (by decide) rfl) rfl) ?_
      refine stv rfl (is_idx104 (k + 1) (by rw [i64_sub _ _ (by omega) (by omega) (by omega) (by omega)]; omega) (by omega) rfl (frm_tmp (by decide) e6) (frm_tmp (by decide) rfl)) ?_
      refine stv rfl (is_load103 rfl (frm_tmp (by decide) rfl) ca) ?_
      refine stv rfl (is_move (.inl rfl) (frm_tmp (by decide) e11)) ?_
      refine stv rfl (is_sub rfl (frm_tmp (by decide) rfl) rfl) ?_
      refine stv rfl (is_idx104 (k + 14) (by rw [i64_sub _ _ (by omega) (by omega) (by omega) (by omega)]; omega) (by omega) rfl (frm_tmp (by decide) e6) (frm_tmp (by decide) rfl)) ?_
      refine stv rfl (is_load103 rfl (frm_tmp (by decide) rfl) cd) ?_
      refine stv rfl (is_move (.inr rfl) (frm_tmp (by decide) rfl)) ?_
      refine stv rfl (is_move (.inr rfl) (frm_tmp (by decide) rfl)) ?_
      refine wpStill_nil ?_
      change Code.wp _ _ _ _ wr.drew
      generalize hi : updO _ (some 13) _ = i
      have i12 : i 12 = .int .u32 xb := by rw [← hi]; rfl
      have i13 : i 13 = .int .u32 xd := by rw [← hi]; rfl
      have si : Same W10 f i := by rw [← hi]; repeat (first | exact hs | refine Same.some rfl _ ?_)
      have i11 : i 11 = .int .i64 (16 + (k : Int)) := by rw [← hi]; exact e11
      have i6 : i 6 = .pointer (some ⟨b6, 0, none⟩) := (si 6 rfl).trans h6
      clear hi
      refine wp_region_still_tail 28 (by kernel_rfl) (by kernel_rfl) ?_
      change wpStill _ _ wr.drew.drew _ _ _
      simp only [List.take_succ_cons, List.take_zero, List.drop_succ_cons, List.drop_zero]
      refine stv rfl (is_move (.inl rfl) (frm_tmp (by decide) i11)) ?_
      refine stv rfl (is_move (.inl rfl) (frm_tmp (by decide) i11)) ?_
      refine stv rfl (is_sub rfl (frm_tmp (by decide) rfl) rfl) ?_
      refine stv rfl (is_idx104 k (by rw [i64_sub _ _ (by omega) (by omega) (by omega) (by omega)]; omega) (by omega) rfl (frm_tmp (by decide) i6) (frm_tmp (by decide) rfl)) ?_
      refine stv rfl (is_load103 rfl (frm_tmp (by decide) rfl) qa) ?_
      refine stv rfl (is_move (.inl rfl) (frm_tmp (by decide) i12)) ?_
      refine stc rfl (is_call2 Tryd.call72 rfl rfl (frm_tmp (by decide) rfl) rfl (flip (right_7 _ rb.1 rb.2 _))) ?_
      refine stv rfl (is_move (.inl rfl) (frm_tmp (by decide) i12)) ?_
      refine stc rfl (is_call2 Tryd.call72 rfl rfl (frm_tmp (by decide) rfl) rfl (flip (right_18 _ rb.1 rb.2 _))) ?_
      refine stv rfl (is_xor rfl (frm_tmp (by decide) rfl) (frm_tmp (by decide) rfl)) ?_
      refine stv rfl (is_move (.inl rfl) (frm_tmp (by decide) i12)) ?_
      refine stv rfl (is_shr3 rfl (frm_tmp (by decide) rfl) rfl) ?_
      refine stv rfl (is_xor rfl (frm_tmp (by decide) rfl) (frm_tmp (by decide) rfl)) ?_
      refine stv rfl (is_add rfl (frm_tmp (by decide) rfl) (frm_tmp (by decide) rfl)) ?_
      refine stv rfl (is_move (.inl rfl) (frm_tmp (by decide) i11)) ?_
      refine stv rfl (is_sub rfl (frm_tmp (by decide) rfl) rfl) ?_
      refine stv rfl (is_idx104 (k + 9) (by rw [i64_sub _ _ (by omega) (by omega) (by omega) (by omega)]; omega) (by omega) rfl (frm_tmp (by decide) i6) (frm_tmp (by decide) rfl)) ?_
      refine stv rfl (is_load103 rfl (frm_tmp (by decide) rfl) qc) ?_
      refine stv rfl (is_add rfl (frm_tmp (by decide) rfl) (frm_tmp (by decide) rfl)) ?_
      refine stv rfl (is_move (.inl rfl) (frm_tmp (by decide) i13)) ?_
      refine stc rfl (is_call2 Tryd.call72 rfl rfl (frm_tmp (by decide) rfl) rfl (flip (right_17 _ rd.1 rd.2 _))) ?_
      refine stv rfl (is_move (.inl rfl) (frm_tmp (by decide) i13)) ?_
      refine stc rfl (is_call2 Tryd.call72 rfl rfl (frm_tmp (by decide) rfl) rfl (flip (right_19 _ rd.1 rd.2 _))) ?_
      refine stv rfl (is_xor rfl (frm_tmp (by decide) rfl) (frm_tmp (by decide) rfl)) ?_
      refine stv rfl (is_move (.inl rfl) (frm_tmp (by decide) i13)) ?_
      refine stv rfl (is_shr10 rfl (frm_tmp (by decide) rfl) rfl) ?_
      refine stv rfl (is_xor rfl (frm_tmp (by decide) rfl) (frm_tmp (by decide) rfl)) ?_
      refine stv rfl (is_add rfl (frm_tmp (by decide) rfl) (frm_tmp (by decide) rfl)) ?_
      refine wpStill_nil ?_
      refine plv rfl (is_idx104 (16 + k) (by omega) (by omega) rfl (frm_tmp (by decide) i6) (frm_tmp (by decide) rfl)) ?_
      refine plw rfl (is_store103 rfl (frm_tmp (by decide) rfl) (frm_tmp (by decide) rfl) q0 q1) ?_
      refine wpList_nil ?_
      change Code.wp _ _ _ _ _
      generalize hl : updO _ none _ = l
      have sl : Same W10 f l := by rw [← hl]; refine Same.none _ ?_; repeat (first | exact si | refine Same.some rfl _ ?_)
      have l11 : l 11 = .int .i64 (16 + (k : Int)) := by rw [← hl]; exact i11
      clear hl
      refine wp_region_lit ?_
      refine plv rfl (is_move (.inl rfl) (frm_tmp (by decide) l11)) ?_
      refine plv rfl (is_add rfl (frm_tmp (by decide) rfl) rfl) ?_
      refine plv rfl (is_move (.inr rfl) (frm_tmp (by decide) rfl)) ?_
      refine wpList_nil ?_
      refine ⟨⟨_, k + 1, rfl, by omega, ?_, ?_, ?_⟩, ?_⟩
      · repeat (first | exact sl | refine Same.some rfl _ ?_)
      · exact congrArg (Value.int .i64) ((i64_add _ _ (by omega) (by omega) (by omega) (by omega)).trans (by omega))
      · have h := hrs.drew.drew.set6 HO1 (16 + k) ((sch bs).getD (16 + k) 0)
        rw [over_set ws (sch bs) (16 + k) 64 hwl (sch_len bs) (by omega), hnx] at h
        have e := mod_word xa (sg0 xb) xc (sg1 xd)
        rw [← e] at h
        exact h
      · rw [frm_tmp (v := .int .i64 (16 + (k : Int) + 1)) (by decide) (congrArg (Value.int .i64) (i64_add _ _ (by omega) (by omega) (by omega) (by omega))), frm_tmp (by decide) e11]
        simp [intOf]
        omega
  · obtain rfl : k = 48 := by omega
    refine wp_cond_false (frm_tmp (by decide) (congrArg Value.bool (decide_eq_false (by omega)))) (wp_exit ?_)
    refine hexit _ _ ?_ ?_
    · repeat (first | exact hs | refine Same.some rfl _ ?_)
    · have h := hrs
      rw [over_all ws (sch bs) 64 hwl (sch_len bs)] at h
      exact h
end Go.Proofs.YtdedphhohiioiaaDoor
