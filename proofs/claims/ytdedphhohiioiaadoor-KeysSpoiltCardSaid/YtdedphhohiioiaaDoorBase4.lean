/- Lemmas that laws of this seat rest on, part 4; each says its own conditions: RefG10, RefR, RefG12, RefE, RefG14, RefB, RefG6, RefT, RefSum, HashBytesW, HashSumsW. -/
import Derived.Test.YtdedphhohiioiaaDoorBase2
import Derived.Test.YtdedphhohiioiaaDoorBase3
/- The reference's sum: the loop that fills the words in. -/
namespace Go.Proofs.YtdedphhohiioiaaDoor
open Go.RowKit

set_option maxHeartbeats 4000000 in
set_option maxRecDepth 100000 in
theorem loop10 (W0 : World) (B b6 b7 b8 : Nat) (v : Value) (rows ws bs st : List Int) (hwl : ws.length = 64) (hbb : ∀ b ∈ bs, B8 b) (HO1 : B ≤ b6 ∧ b6 < b7 ∧ b7 < b8) (f : Nat → Value) (h6 : f 6 = .pointer (some ⟨b6, 0, none⟩)) (h11 : f 11 = .int .i64 16)
    (Q : Exit → Act → World → Prop) (w : World) (hrs : RS W0 B b6 b7 b8 v rows w (over ws (sch bs) 16) st kk)
    (hexit : ∀ g w', Same W10 f g → RS W0 B b6 b7 b8 v rows w' (sch bs) st kk → Q (.exit 10) (frm 270 g) w') : Code.wp Tryd.prog (refLoop 10) Q (frm 270 f) w := by
  refine wp_loop (fun a w' => ∃ (g : Nat → Value) (k : Nat), a = frm 270 g ∧ k ≤ 48 ∧ Same W10 f g ∧ g 11 = .int .i64 (16 + (k : Int)) ∧ RS W0 B b6 b7 b8 v rows w' (over ws (sch bs) (16 + k)) st kk)
    (fun a _ => 64 - (intOf (a.eval (.tmp 11))).toNat) ⟨f, 0, rfl, by omega, Same.refl _ _, h11, hrs⟩ ?_
  rintro a wr ⟨g, k, rfl, hk, hs, e11, hrs⟩
  have e6 : g 6 = .pointer (some ⟨b6, 0, none⟩) := (hs 6 rfl).trans h6
  refine wp_seq (wp_seq ?_)
  refine wp_region_lit ?_
  refine plv rfl (is_move (.inl rfl) (frm_tmp (by decide) e11)) ?_
  refine plv rfl (is_lss rfl (frm_tmp (by decide) rfl) rfl) ?_
  refine wpList_nil ?_
  change Code.wp _ _ _ _ _
  by_cases hlt : k < 48
  · refine wp_cond_true (frm_tmp (by decide) (congrArg Value.bool (decide_eq_true (by omega)))) (wp_skip ?_)
    change Code.wp _ _ _ _ _
    refine wp_seq (wp_block (wp_seq ?_))
    obtain ⟨xa, hxa⟩ : ∃ x, x = (sch bs).getD k 0 := ⟨_, rfl⟩
    obtain ⟨xb, hxb⟩ : ∃ x, x = (sch bs).getD (k + 1) 0 := ⟨_, rfl⟩
    obtain ⟨xc, hxc⟩ : ∃ x, x = (sch bs).getD (k + 9) 0 := ⟨_, rfl⟩
    obtain ⟨xd, hxd⟩ : ∃ x, x = (sch bs).getD (k + 14) 0 := ⟨_, rfl⟩
    have sr : ∀ x ∈ sch bs, U x := sched_range hbb 48
    have rb : U xb := hxb ▸ getD_range sr _
    have rd : U xd := hxd ▸ getD_range sr _
    have hol : (over ws (sch bs) (16 + k)).length = 64 := over_len _ _ _ 64 hwl (sch_len bs) (by omega)
    have at_ : ∀ j, j < 16 + k → wr.drew.cell? ⟨b6, j, none⟩ = some (.int .u32 ((sch bs).getD j 0)) := fun j hj => by
      rw [hrs.drew.cell6 j (by omega), over_lo ws (sch bs) (16 + k) j 64 (sch_len bs) (by omega) hj]
    have qa : wr.drew.drew.cell? ⟨b6, k, none⟩ = some (.int .u32 xa) := (at_ k (by omega)).trans (by rw [hxa])
    have ca : wr.drew.cell? ⟨b6, k + 1, none⟩ = some (.int .u32 xb) := (at_ (k + 1) (by omega)).trans (by rw [hxb])
    have qc : wr.drew.drew.cell? ⟨b6, k + 9, none⟩ = some (.int .u32 xc) := (at_ (k + 9) (by omega)).trans (by rw [hxc])
    have cd : wr.drew.cell? ⟨b6, k + 14, none⟩ = some (.int .u32 xd) := (at_ (k + 14) (by omega)).trans (by rw [hxd])
    obtain ⟨z0, q0⟩ : ∃ z, wr.drew.drew.cell? ⟨b6, 16 + k, none⟩ = some z := ⟨_, hrs.drew.drew.cell6 (16 + k) (by omega)⟩
    have q1 : wr.drew.drew.frozen? ⟨b6, 16 + k, none⟩ = false := blk_free hrs.drew.drew.h6 (16 + k)
    have hnx : (sch bs).getD (16 + k) 0 = (xa + sg0 xb + xc + sg1 xd) % 4294967296 := by rw [sch_next bs k hlt, hxa, hxb, hxc, hxd]
    · refine wp_region_still_lit (by kernel_rfl) (by kernel_rfl) ?_
      change wpStill _ _ wr.drew _ _ _
      refine stv rfl (is_move (.inl rfl) (frm_tmp (by decide) e11)) ?_
      refine stv rfl (is_sub rfl (frm_tmp (by decide) rfl) rfl) ?_
      refine stv rfl (is_idx104 (k + 1) (by rw [i64_sub _ _ (by omega) (by omega) (by omega) (by omega)]; omega) (by omega) rfl (frm_tmp (by decide) e6) (frm_tmp (by decide) rfl)) ?_
      refine stv rfl (is_load103 rfl (frm_tmp (by decide) rfl) ca) ?_
      refine stv rfl (is_move (.inl rfl) (frm_tmp (by decide) e11)) ?_
      refine stv rfl (is_sub rfl (frm_tmp (by decide) rfl) rfl) ?_
      refine stv rfl (is_idx104 (k + 14) (by rw [i64_sub _ _ (by omega) (by omega) (by omega) (by omega)]; omega) (by omega) rfl (frm_tmp (by decide) e6) (frm_tmp (by decide) rfl)) ?_
      refine stv rfl (is_load103 rfl (frm_tmp (by decide) rfl) cd) ?_
      refine stv rfl (is_move (.inr rfl) (frm_tmp (by decide) rfl)) ?_
      refine stv rfl (is_move (.inr rfl) (frm_tmp (by decide) rfl)) ?_
      refine wpStill_nil ?_
      change Code.wp _ _ _ _ wr.drew
      generalize hi : updO _ (some 13) _ = i
      have i12 : i 12 = .int .u32 xb := by rw [← hi]; rfl
      have i13 : i 13 = .int .u32 xd := by rw [← hi]; rfl
      have si : Same W10 f i := by rw [← hi]; repeat (first | exact hs | refine Same.some rfl _ ?_)
      have i11 : i 11 = .int .i64 (16 + (k : Int)) := by rw [← hi]; exact e11
      have i6 : i 6 = .pointer (some ⟨b6, 0, none⟩) := (si 6 rfl).trans h6
      clear hi
      refine wp_region_still_tail 28 (by kernel_rfl) (by kernel_rfl) ?_
      change wpStill _ _ wr.drew.drew _ _ _
      simp only [List.take_succ_cons, List.take_zero, List.drop_succ_cons, List.drop_zero]
      refine stv rfl (is_move (.inl rfl) (frm_tmp (by decide) i11)) ?_
      refine stv rfl (is_move (.inl rfl) (frm_tmp (by decide) i11)) ?_
      refine stv rfl (is_sub rfl (frm_tmp (by decide) rfl) rfl) ?_
      refine stv rfl (is_idx104 k (by rw [i64_sub _ _ (by omega) (by omega) (by omega) (by omega)]; omega) (by omega) rfl (frm_tmp (by decide) i6) (frm_tmp (by decide) rfl)) ?_
      refine stv rfl (is_load103 rfl (frm_tmp (by decide) rfl) qa) ?_
      refine stv rfl (is_move (.inl rfl) (frm_tmp (by decide) i12)) ?_
      refine stc rfl (is_call2 Tryd.call72 rfl rfl (frm_tmp (by decide) rfl) rfl (flip (right_7 _ rb.1 rb.2 _))) ?_
      refine stv rfl (is_move (.inl rfl) (frm_tmp (by decide) i12)) ?_
      refine stc rfl (is_call2 Tryd.call72 rfl rfl (frm_tmp (by decide) rfl) rfl (flip (right_18 _ rb.1 rb.2 _))) ?_
      refine stv rfl (is_xor rfl (frm_tmp (by decide) rfl) (frm_tmp (by decide) rfl)) ?_
      refine stv rfl (is_move (.inl rfl) (frm_tmp (by decide) i12)) ?_
      refine stv rfl (is_shr3 rfl (frm_tmp (by decide) rfl) rfl) ?_
      refine stv rfl (is_xor rfl (frm_tmp (by decide) rfl) (frm_tmp (by decide) rfl)) ?_
      refine stv rfl (is_add rfl (frm_tmp (by decide) rfl) (frm_tmp (by decide) rfl)) ?_
      refine stv rfl (is_move (.inl rfl) (frm_tmp (by decide) i11)) ?_
      refine stv rfl (is_sub rfl (frm_tmp (by decide) rfl) rfl) ?_
      refine stv rfl (is_idx104 (k + 9) (by rw [i64_sub _ _ (by omega) (by omega) (by omega) (by omega)]; omega) (by omega) rfl (frm_tmp (by decide) i6) (frm_tmp (by decide) rfl)) ?_
      refine stv rfl (is_load103 rfl (frm_tmp (by decide) rfl) qc) ?_
      refine stv rfl (is_add rfl (frm_tmp (by decide) rfl) (frm_tmp (by decide) rfl)) ?_
      refine stv rfl (is_move (.inl rfl) (frm_tmp (by decide) i13)) ?_
      refine stc rfl (is_call2 Tryd.call72 rfl rfl (frm_tmp (by decide) rfl) rfl (flip (right_17 _ rd.1 rd.2 _))) ?_
      refine stv rfl (is_move (.inl rfl) (frm_tmp (by decide) i13)) ?_
      refine stc rfl (is_call2 Tryd.call72 rfl rfl (frm_tmp (by decide) rfl) rfl (flip (right_19 _ rd.1 rd.2 _))) ?_
      refine stv rfl (is_xor rfl (frm_tmp (by decide) rfl) (frm_tmp (by decide) rfl)) ?_
      refine stv rfl (is_move (.inl rfl) (frm_tmp (by decide) i13)) ?_
      refine stv rfl (is_shr10 rfl (frm_tmp (by decide) rfl) rfl) ?_
      refine stv rfl (is_xor rfl (frm_tmp (by decide) rfl) (frm_tmp (by decide) rfl)) ?_
      refine stv rfl (is_add rfl (frm_tmp (by decide) rfl) (frm_tmp (by decide) rfl)) ?_
      refine wpStill_nil ?_
      refine plv rfl (is_idx104 (16 + k) (by omega) (by omega) rfl (frm_tmp (by decide) i6) (frm_tmp (by decide) rfl)) ?_
      refine plw rfl (is_store103 rfl (frm_tmp (by decide) rfl) (frm_tmp (by decide) rfl) q0 q1) ?_
      refine wpList_nil ?_
      change Code.wp _ _ _ _ _
      generalize hl : updO _ none _ = l
      have sl : Same W10 f l := by rw [← hl]; refine Same.none _ ?_; repeat (first | exact si | refine Same.some rfl _ ?_)
      have l11 : l 11 = .int .i64 (16 + (k : Int)) := by rw [← hl]; exact i11
      clear hl
      refine wp_region_lit ?_
      refine plv rfl (is_move (.inl rfl) (frm_tmp (by decide) l11)) ?_
      refine plv rfl (is_add rfl (frm_tmp (by decide) rfl) rfl) ?_
      refine plv rfl (is_move (.inr rfl) (frm_tmp (by decide) rfl)) ?_
      refine wpList_nil ?_
      refine ⟨⟨_, k + 1, rfl, by omega, ?_, ?_, ?_⟩, ?_⟩
      · repeat (first | exact sl | refine Same.some rfl _ ?_)
      · exact congrArg (Value.int .i64) ((i64_add _ _ (by omega) (by omega) (by omega) (by omega)).trans (by omega))
      · have h := hrs.drew.drew.set6 HO1 (16 + k) ((sch bs).getD (16 + k) 0)
        rw [over_set ws (sch bs) (16 + k) 64 hwl (sch_len bs) (by omega), hnx] at h
        have e := mod_word xa (sg0 xb) xc (sg1 xd)
        rw [← e] at h
        exact h
      · rw [frm_tmp (v := .int .i64 (16 + (k : Int) + 1)) (by decide) (congrArg (Value.int .i64) (i64_add _ _ (by omega) (by omega) (by omega) (by omega))), frm_tmp (by decide) e11]
        simp [intOf]
        omega
  · obtain rfl : k = 48 := by omega
    refine wp_cond_false (frm_tmp (by decide) (congrArg Value.bool (decide_eq_false (by omega)))) (wp_exit ?_)
    refine hexit _ _ ?_ ?_
    · repeat (first | exact hs | refine Same.some rfl _ ?_)
    · have h := hrs
      rw [over_all ws (sch bs) 64 hwl (sch_len bs)] at h
      exact h
end Go.Proofs.YtdedphhohiioiaaDoor
/- The reference's sum: a round's regions. -/
namespace Go.Proofs.YtdedphhohiioiaaDoor
open Go.RowKit

set_option maxHeartbeats 1000000 in
set_option maxRecDepth 100000 in
theorem do31 (b14 : Nat) (r : St) (g : Nat → Value) (e14 : g 14 = .pointer (some ⟨b14, 0, none⟩)) (w : World) (c4 : w.cell? ⟨b14, 4, none⟩ = some (.int .u32 r.e)) (c5 : w.cell? ⟨b14, 5, none⟩ = some (.int .u32 r.f)) (c6 : w.cell? ⟨b14, 6, none⟩ = some (.int .u32 r.g)) (Q : Exit → Act → World → Prop)
    (h : ∀ i, Same (Wr 151 162 16) g i → i 16 = .int .u32 (chs r.e r.f r.g) → Q .normal (frm 270 i) w) : Code.wp Tryd.prog (refReg 31) Q (frm 270 g) w := by
  refine wp_region_lit ?_
  refine plv rfl (is_idx105 4 rfl (by omega) rfl (frm_tmp (by decide) e14) rfl) ?_
  refine plv rfl (is_load103 rfl (frm_tmp (by decide) rfl) c4) ?_
  refine plv rfl (is_idx105 5 rfl (by omega) rfl (frm_tmp (by decide) e14) rfl) ?_
  refine plv rfl (is_load103 rfl (frm_tmp (by decide) rfl) c5) ?_
  refine plv rfl (is_and rfl (frm_tmp (by decide) rfl) (frm_tmp (by decide) rfl)) ?_
  refine plv rfl (is_idx105 4 rfl (by omega) rfl (frm_tmp (by decide) e14) rfl) ?_
  refine plv rfl (is_load103 rfl (frm_tmp (by decide) rfl) c4) ?_
  refine plv rfl (is_not rfl (frm_tmp (by decide) rfl)) ?_
  refine plv rfl (is_idx105 6 rfl (by omega) rfl (frm_tmp (by decide) e14) rfl) ?_
  refine plv rfl (is_load103 rfl (frm_tmp (by decide) rfl) c6) ?_
  refine plv rfl (is_and rfl (frm_tmp (by decide) rfl) (frm_tmp (by decide) rfl)) ?_
  refine plv rfl (is_xor rfl (frm_tmp (by decide) rfl) (frm_tmp (by decide) rfl)) ?_
  refine plv rfl (is_move (.inr rfl) (frm_tmp (by decide) rfl)) ?_
  refine wpList_nil ?_
  generalize hi : updO _ (some 16) _ = i
  refine h i ?_ ?_
  · rw [← hi]; repeat (first | exact Same.refl _ _ | refine Same.some rfl _ ?_)
  · rw [← hi]; rfl
set_option maxHeartbeats 1000000 in
set_option maxRecDepth 100000 in
theorem do32 (b14 : Nat) (r : St) (g : Nat → Value) (e14 : g 14 = .pointer (some ⟨b14, 0, none⟩)) (w : World) (c0 : w.cell? ⟨b14, 0, none⟩ = some (.int .u32 r.a)) (c1 : w.cell? ⟨b14, 1, none⟩ = some (.int .u32 r.b)) (c2 : w.cell? ⟨b14, 2, none⟩ = some (.int .u32 r.c)) (Q : Exit → Act → World → Prop)
    (h : ∀ i, Same (Wr 163 179 17) g i → i 17 = .int .u32 (maj r.a r.b r.c) → Q .normal (frm 270 i) w) : Code.wp Tryd.prog (refReg 32) Q (frm 270 g) w := by
  refine wp_region_lit ?_
  refine plv rfl (is_idx105 0 rfl (by omega) rfl (frm_tmp (by decide) e14) rfl) ?_
  refine plv rfl (is_load103 rfl (frm_tmp (by decide) rfl) c0) ?_
  refine plv rfl (is_idx105 1 rfl (by omega) rfl (frm_tmp (by decide) e14) rfl) ?_
  refine plv rfl (is_load103 rfl (frm_tmp (by decide) rfl) c1) ?_
  refine plv rfl (is_and rfl (frm_tmp (by decide) rfl) (frm_tmp (by decide) rfl)) ?_
  refine plv rfl (is_idx105 0 rfl (by omega) rfl (frm_tmp (by decide) e14) rfl) ?_
  refine plv rfl (is_load103 rfl (frm_tmp (by decide) rfl) c0) ?_
  refine plv rfl (is_idx105 2 rfl (by omega) rfl (frm_tmp (by decide) e14) rfl) ?_
  refine plv rfl (is_load103 rfl (frm_tmp (by decide) rfl) c2) ?_
  refine plv rfl (is_and rfl (frm_tmp (by decide) rfl) (frm_tmp (by decide) rfl)) ?_
  refine plv rfl (is_xor rfl (frm_tmp (by decide) rfl) (frm_tmp (by decide) rfl)) ?_
  refine plv rfl (is_idx105 1 rfl (by omega) rfl (frm_tmp (by decide) e14) rfl) ?_
  refine plv rfl (is_load103 rfl (frm_tmp (by decide) rfl) c1) ?_
  refine plv rfl (is_idx105 2 rfl (by omega) rfl (frm_tmp (by decide) e14) rfl) ?_
  refine plv rfl (is_load103 rfl (frm_tmp (by decide) rfl) c2) ?_
  refine plv rfl (is_and rfl (frm_tmp (by decide) rfl) (frm_tmp (by decide) rfl)) ?_
  refine plv rfl (is_xor rfl (frm_tmp (by decide) rfl) (frm_tmp (by decide) rfl)) ?_
  refine plv rfl (is_move (.inr rfl) (frm_tmp (by decide) rfl)) ?_
  refine wpList_nil ?_
  generalize hi : updO _ (some 17) _ = i
  refine h i ?_ ?_
  · rw [← hi]; repeat (first | exact Same.refl _ _ | refine Same.some rfl _ ?_)
  · rw [← hi]; rfl
set_option maxHeartbeats 1000000 in
set_option maxRecDepth 100000 in
theorem do33 (b6 b8 b14 k : Nat) (hlt : k < 64) (r : St) (xk xw : Int) (g : Nat → Value) (e14 : g 14 = .pointer (some ⟨b14, 0, none⟩)) (e16 : g 16 = .int .u32 (chs r.e r.f r.g)) (e15 : g 15 = .int .i64 (k : Int)) (e8 : g 8 = .pointer (some ⟨b8, 0, none⟩)) (e6 : g 6 = .pointer (some ⟨b6, 0, none⟩))
    (he : U r.e) (w : World) (c4 : w.drew.cell? ⟨b14, 4, none⟩ = some (.int .u32 r.e)) (c7 : w.drew.cell? ⟨b14, 7, none⟩ = some (.int .u32 r.h)) (ck : w.drew.cell? ⟨b8, k, none⟩ = some (.int .u32 xk)) (cw : w.drew.cell? ⟨b6, k, none⟩ = some (.int .u32 xw)) (Q : Exit → Act → World → Prop)
    (h : ∀ i, Same (Wr 180 203 18) g i → i 18 = .int .u32 (r.t1 xk xw) → Q .normal (frm 270 i) w.drew) : Code.wp Tryd.prog (refReg 33) Q (frm 270 g) w := by
  refine wp_region_still_lit (by kernel_rfl) (by kernel_rfl) ?_
  change wpStill _ _ w.drew _ _ _
  refine stv rfl (is_idx105 7 rfl (by omega) rfl (frm_tmp (by decide) e14) rfl) ?_
  refine stv rfl (is_load103 rfl (frm_tmp (by decide) rfl) c7) ?_
  refine stv rfl (is_idx105 4 rfl (by omega) rfl (frm_tmp (by decide) e14) rfl) ?_
  refine stv rfl (is_load103 rfl (frm_tmp (by decide) rfl) c4) ?_
  refine stc rfl (is_call2 Tryd.call72 rfl rfl (frm_tmp (by decide) rfl) rfl (flip (right_6 _ he.1 he.2 _))) ?_
  refine stv rfl (is_idx105 4 rfl (by omega) rfl (frm_tmp (by decide) e14) rfl) ?_
  refine stv rfl (is_load103 rfl (frm_tmp (by decide) rfl) c4) ?_
  refine stc rfl (is_call2 Tryd.call72 rfl rfl (frm_tmp (by decide) rfl) rfl (flip (right_11 _ he.1 he.2 _))) ?_
  refine stv rfl (is_xor rfl (frm_tmp (by decide) rfl) (frm_tmp (by decide) rfl)) ?_
  refine stv rfl (is_idx105 4 rfl (by omega) rfl (frm_tmp (by decide) e14) rfl) ?_
  refine stv rfl (is_load103 rfl (frm_tmp (by decide) rfl) c4) ?_
  refine stc rfl (is_call2 Tryd.call72 rfl rfl (frm_tmp (by decide) rfl) rfl (flip (right_25 _ he.1 he.2 _))) ?_
  refine stv rfl (is_xor rfl (frm_tmp (by decide) rfl) (frm_tmp (by decide) rfl)) ?_
  refine stv rfl (is_add rfl (frm_tmp (by decide) rfl) (frm_tmp (by decide) rfl)) ?_
  refine stv rfl (is_move (.inl rfl) (frm_tmp (by decide) e16)) ?_
  refine stv rfl (is_add rfl (frm_tmp (by decide) rfl) (frm_tmp (by decide) rfl)) ?_
  refine stv rfl (is_move (.inl rfl) (frm_tmp (by decide) e15)) ?_
  refine stv rfl (is_idx104 k rfl hlt rfl (frm_tmp (by decide) e8) (frm_tmp (by decide) rfl)) ?_
  refine stv rfl (is_load103 rfl (frm_tmp (by decide) rfl) ck) ?_
  refine stv rfl (is_add rfl (frm_tmp (by decide) rfl) (frm_tmp (by decide) rfl)) ?_
  refine stv rfl (is_move (.inl rfl) (frm_tmp (by decide) e15)) ?_
  refine stv rfl (is_idx104 k rfl hlt rfl (frm_tmp (by decide) e6) (frm_tmp (by decide) rfl)) ?_
  refine stv rfl (is_load103 rfl (frm_tmp (by decide) rfl) cw) ?_
  refine stv rfl (is_add rfl (frm_tmp (by decide) rfl) (frm_tmp (by decide) rfl)) ?_
  refine stv rfl (is_move (.inr rfl) (frm_tmp (by decide) rfl)) ?_
  refine wpStill_nil ?_
  generalize hi : updO _ (some 18) _ = i
  refine h i ?_ ?_
  · rw [← hi]; repeat (first | exact Same.refl _ _ | refine Same.some rfl _ ?_)
  · rw [← hi, ← t1_sum]; rfl
set_option maxHeartbeats 1000000 in
set_option maxRecDepth 100000 in
theorem do34 (b14 : Nat) (r : St) (g : Nat → Value) (e14 : g 14 = .pointer (some ⟨b14, 0, none⟩)) (e17 : g 17 = .int .u32 (maj r.a r.b r.c)) (ha : U r.a) (w : World) (c0 : w.drew.cell? ⟨b14, 0, none⟩ = some (.int .u32 r.a)) (Q : Exit → Act → World → Prop)
    (h : ∀ i, Same (Wr 204 216 19) g i → i 19 = .int .u32 r.t2 → Q .normal (frm 270 i) w.drew) : Code.wp Tryd.prog (refReg 34) Q (frm 270 g) w := by
  refine wp_region_still_lit (by kernel_rfl) (by kernel_rfl) ?_
  change wpStill _ _ w.drew _ _ _
  refine stv rfl (is_idx105 0 rfl (by omega) rfl (frm_tmp (by decide) e14) rfl) ?_
  refine stv rfl (is_load103 rfl (frm_tmp (by decide) rfl) c0) ?_
  refine stc rfl (is_call2 Tryd.call72 rfl rfl (frm_tmp (by decide) rfl) rfl (flip (right_2 _ ha.1 ha.2 _))) ?_
  refine stv rfl (is_idx105 0 rfl (by omega) rfl (frm_tmp (by decide) e14) rfl) ?_
  refine stv rfl (is_load103 rfl (frm_tmp (by decide) rfl) c0) ?_
  refine stc rfl (is_call2 Tryd.call72 rfl rfl (frm_tmp (by decide) rfl) rfl (flip (right_13 _ ha.1 ha.2 _))) ?_
  refine stv rfl (is_xor rfl (frm_tmp (by decide) rfl) (frm_tmp (by decide) rfl)) ?_
  refine stv rfl (is_idx105 0 rfl (by omega) rfl (frm_tmp (by decide) e14) rfl) ?_
  refine stv rfl (is_load103 rfl (frm_tmp (by decide) rfl) c0) ?_
  refine stc rfl (is_call2 Tryd.call72 rfl rfl (frm_tmp (by decide) rfl) rfl (flip (right_22 _ ha.1 ha.2 _))) ?_
  refine stv rfl (is_xor rfl (frm_tmp (by decide) rfl) (frm_tmp (by decide) rfl)) ?_
  refine stv rfl (is_move (.inl rfl) (frm_tmp (by decide) e17)) ?_
  refine stv rfl (is_add rfl (frm_tmp (by decide) rfl) (frm_tmp (by decide) rfl)) ?_
  refine stv rfl (is_move (.inr rfl) (frm_tmp (by decide) rfl)) ?_
  refine wpStill_nil ?_
  generalize hi : updO _ (some 19) _ = i
  refine h i ?_ ?_
  · rw [← hi]; repeat (first | exact Same.refl _ _ | refine Same.some rfl _ ?_)
  · rw [← hi, ← t2_sum]; rfl
set_option maxHeartbeats 1000000 in
set_option maxRecDepth 100000 in
theorem do35 (b14 : Nat) (r r2 : St) (t1 t2 : Int) (g : Nat → Value) (e14 : g 14 = .pointer (some ⟨b14, 0, none⟩)) (e18 : g 18 = .int .u32 t1) (e19 : g 19 = .int .u32 t2) (w : World) (c0 : w.cell? ⟨b14, 0, none⟩ = some (.int .u32 r.a)) (c1 : w.cell? ⟨b14, 1, none⟩ = some (.int .u32 r.b)) (c2 : w.cell? ⟨b14, 2, none⟩ = some (.int .u32 r.c)) (c3 : w.cell? ⟨b14, 3, none⟩ = some (.int .u32 r.d)) (c4 : w.cell? ⟨b14, 4, none⟩ = some (.int .u32 r.e)) (c5 : w.cell? ⟨b14, 5, none⟩ = some (.int .u32 r.f)) (c6 : w.cell? ⟨b14, 6, none⟩ = some (.int .u32 r.g)) (hh : Has w b14 105 8)
    (hnew : [IntKind.u32.wrap (t1 + t2), r.a, r.b, r.c, IntKind.u32.wrap (r.d + t1), r.e, r.f, r.g] = r2.list) (Q : Exit → Act → World → Prop)
    (h : ∀ i w1, Same (Wr 217 236 236) g i → Put w b14 105 (u32s r2.list) w1 → Q .normal (frm 270 i) w1) : Code.wp Tryd.prog (refReg 35) Q (frm 270 g) w := by
  refine wp_region_lit ?_
  refine plv rfl (is_move (.inl rfl) (frm_tmp (by decide) e18)) ?_
  refine plv rfl (is_move (.inl rfl) (frm_tmp (by decide) e19)) ?_
  refine plv rfl (is_add rfl (frm_tmp (by decide) rfl) (frm_tmp (by decide) rfl)) ?_
  refine plv rfl (is_idx105 0 rfl (by omega) rfl (frm_tmp (by decide) e14) rfl) ?_
  refine plv rfl (is_load103 rfl (frm_tmp (by decide) rfl) c0) ?_
  refine plv rfl (is_idx105 1 rfl (by omega) rfl (frm_tmp (by decide) e14) rfl) ?_
  refine plv rfl (is_load103 rfl (frm_tmp (by decide) rfl) c1) ?_
  refine plv rfl (is_idx105 2 rfl (by omega) rfl (frm_tmp (by decide) e14) rfl) ?_
  refine plv rfl (is_load103 rfl (frm_tmp (by decide) rfl) c2) ?_
  refine plv rfl (is_idx105 3 rfl (by omega) rfl (frm_tmp (by decide) e14) rfl) ?_
  refine plv rfl (is_load103 rfl (frm_tmp (by decide) rfl) c3) ?_
  refine plv rfl (is_move (.inl rfl) (frm_tmp (by decide) e18)) ?_
  refine plv rfl (is_add rfl (frm_tmp (by decide) rfl) (frm_tmp (by decide) rfl)) ?_
  refine plv rfl (is_idx105 4 rfl (by omega) rfl (frm_tmp (by decide) e14) rfl) ?_
  refine plv rfl (is_load103 rfl (frm_tmp (by decide) rfl) c4) ?_
  refine plv rfl (is_idx105 5 rfl (by omega) rfl (frm_tmp (by decide) e14) rfl) ?_
  refine plv rfl (is_load103 rfl (frm_tmp (by decide) rfl) c5) ?_
  refine plv rfl (is_idx105 6 rfl (by omega) rfl (frm_tmp (by decide) e14) rfl) ?_
  refine plv rfl (is_load103 rfl (frm_tmp (by decide) rfl) c6) ?_
  refine plv rfl (is_build105 rfl rfl (frm_tmp (by decide) rfl) (frm_tmp (by decide) rfl) (frm_tmp (by decide) rfl) (frm_tmp (by decide) rfl) (frm_tmp (by decide) rfl) (frm_tmp (by decide) rfl) (frm_tmp (by decide) rfl) (frm_tmp (by decide) rfl)) ?_
  rw [hnew]
  refine wpList_store_row rfl 105 _ _ rfl b14 (frm_tmp (by decide) e14) (u32s r2.list) (frm_tmp (by decide) rfl) 105 hh (by kernel_rfl) (one_u32s _) ?_
  intro w1 hp
  rw [frm_put]
  refine wpList_nil ?_
  generalize hi : updO _ none _ = i
  refine h i w1 ?_ hp
  rw [← hi]; refine Same.none _ ?_; repeat (first | exact Same.refl _ _ | refine Same.some rfl _ ?_)
end Go.Proofs.YtdedphhohiioiaaDoor
/- The reference's sum: the rounds. -/
namespace Go.Proofs.YtdedphhohiioiaaDoor
open Go.RowKit

theorem in12 {a b x : Nat} {f g : Nat → Value} (h : Same (Wr a b x) f g) (h1 : 147 ≤ a) (h2 : b ≤ 236) (h3 : (15 ≤ x ∧ x ≤ 19) ∨ (147 ≤ x ∧ x ≤ 236)) : Same W12 f g := h.mono fun t ht => by
  simp only [W12, Bool.or_eq_false_iff, Bool.and_eq_false_iff, decide_eq_false_iff_not] at ht
  exact Wr_false (by omega) (by omega)
set_option maxHeartbeats 4000000 in
set_option maxRecDepth 100000 in
theorem loop12 (W0 : World) (B b6 b7 b8 b14 : Nat) (v : Value) (rows ws st : List Int) (s : St) (hsok : s.ok) (hwl : ws.length = 64) (HO1 : B ≤ b6 ∧ b6 < b7 ∧ b7 < b8)
    (f : Nat → Value) (h6 : f 6 = .pointer (some ⟨b6, 0, none⟩)) (h8 : f 8 = .pointer (some ⟨b8, 0, none⟩)) (h14 : f 14 = .pointer (some ⟨b14, 0, none⟩)) (h15 : f 15 = .int .i64 0)
    (Q : Exit → Act → World → Prop) (w : World) (hrs : RV W0 B b6 b7 b8 b14 v rows w ws st kk s.list)
    (hexit : ∀ g w', Same W12 f g → RV W0 B b6 b7 b8 b14 v rows w' ws st kk (s.rnds ws 64).list → Q (.exit 12) (frm 270 g) w') : Code.wp Tryd.prog (refLoop 12) Q (frm 270 f) w := by
  refine wp_loop (fun a w' => ∃ (g : Nat → Value) (k : Nat), a = frm 270 g ∧ k ≤ 64 ∧ Same W12 f g ∧ g 15 = .int .i64 (k : Int) ∧ RV W0 B b6 b7 b8 b14 v rows w' ws st kk (s.rnds ws k).list)
    (fun a _ => 64 - (intOf (a.eval (.tmp 15))).toNat) ⟨f, 0, rfl, by omega, Same.refl _ _, h15, hrs⟩ ?_
  rintro a wr ⟨g, k, rfl, hk, hs, e15, hrs⟩
  refine wp_seq (wp_seq ?_)
  refine wp_region_lit ?_
  refine plv rfl (is_move (.inl rfl) (frm_tmp (by decide) e15)) ?_
  refine plv rfl (is_lss rfl (frm_tmp (by decide) rfl) rfl) ?_
  refine wpList_nil ?_
  change Code.wp _ _ _ _ _
  by_cases hlt : k < 64
  · refine wp_cond_true (frm_tmp (by decide) (congrArg Value.bool (decide_eq_true (by omega)))) (wp_skip ?_)
    change Code.wp _ _ _ _ _
    refine wp_seq (wp_block (wp_seq ?_))
    obtain ⟨r, hr⟩ : ∃ r, r = s.rnds ws k := ⟨_, rfl⟩
    have hrok : r.ok := hr ▸ St.rnds_ok hsok ws k
    rw [← hr] at hrs
    have c0 : wr.cell? ⟨b14, 0, none⟩ = some (.int .u32 r.a) := hrs.cell 0 _ rfl
    have c1 : wr.cell? ⟨b14, 1, none⟩ = some (.int .u32 r.b) := hrs.cell 1 _ rfl
    have c2 : wr.cell? ⟨b14, 2, none⟩ = some (.int .u32 r.c) := hrs.cell 2 _ rfl
    have c3 : wr.cell? ⟨b14, 3, none⟩ = some (.int .u32 r.d) := hrs.cell 3 _ rfl
    have c4 : wr.cell? ⟨b14, 4, none⟩ = some (.int .u32 r.e) := hrs.cell 4 _ rfl
    have c5 : wr.cell? ⟨b14, 5, none⟩ = some (.int .u32 r.f) := hrs.cell 5 _ rfl
    have c6 : wr.cell? ⟨b14, 6, none⟩ = some (.int .u32 r.g) := hrs.cell 6 _ rfl
    have c7 : wr.cell? ⟨b14, 7, none⟩ = some (.int .u32 r.h) := hrs.cell 7 _ rfl
    have ck : wr.cell? ⟨b8, k, none⟩ = some (.int .u32 (kk.getD k 0)) := hrs.rs.cell8 k (by rw [kk_len]; exact hlt)
    have cw : wr.cell? ⟨b6, k, none⟩ = some (.int .u32 (ws.getD k 0)) := hrs.rs.cell6 k (by omega)
    generalize hg : updO _ (some 148) _ = g1
    have s1 : Same W12 f g1 := by rw [← hg]; repeat (first | exact hs | refine Same.some rfl _ ?_)
    have e1 : g1 15 = .int .i64 (k : Int) := by rw [← hg]; exact e15
    clear hg
    refine do31 b14 r g1 ((s1 14 rfl).trans h14) wr c4 c5 c6 _ fun g2 q2 e2 => ?_
    change Code.wp _ _ _ _ _
    have s2 := s1.trans (in12 q2 (by decide) (by decide) (by decide))
    refine wp_seq (do32 b14 r g2 ((s2 14 rfl).trans h14) wr c0 c1 c2 _ fun g3 q3 e3 => ?_)
    change Code.wp _ _ _ _ _
    have s3 := s2.trans (in12 q3 (by decide) (by decide) (by decide))
    refine wp_seq (do33 b6 b8 b14 k hlt r _ _ g3 ((s3 14 rfl).trans h14) ((q3 16 rfl).trans e2) ((q3 15 rfl).trans ((q2 15 rfl).trans e1)) ((s3 8 rfl).trans h8) ((s3 6 rfl).trans h6) hrok.2.2.2.2.1 wr c4 c7 ck cw _ fun g4 q4 e4 => ?_)
    change Code.wp _ _ _ _ _
    have s4 := s3.trans (in12 q4 (by decide) (by decide) (by decide))
    refine wp_seq (do34 b14 r g4 ((s4 14 rfl).trans h14) ((q4 17 rfl).trans e3) hrok.1 wr.drew c0 _ fun g5 q5 e5 => ?_)
    change Code.wp _ _ _ _ _
    have s5 := s4.trans (in12 q5 (by decide) (by decide) (by decide))
    have hnew : [IntKind.u32.wrap (r.t1 (kk.getD k 0) (ws.getD k 0) + r.t2), r.a, r.b, r.c, IntKind.u32.wrap (r.d + r.t1 (kk.getD k 0) (ws.getD k 0)), r.e, r.f, r.g] = (s.rnds ws (k + 1)).list := by
      rw [St.rnds, ← hr]
      simp only [IntKind.wrap_u32]
      rfl
    refine do35 b14 r (s.rnds ws (k + 1)) _ _ g5 ((s5 14 rfl).trans h14) ((q5 18 rfl).trans e4) e5 wr.drew.drew c0 c1 c2 c3 c4 c5 c6 ⟨(u32s r.list).toArray, rfl, hrs.h14⟩ hnew _ fun n w1 q6 hp => ?_
    change Code.wp _ _ _ _ _
    have sn := s5.trans (in12 q6 (by decide) (by decide) (by decide))
    have n15 : n 15 = .int .i64 (k : Int) := (q6 15 rfl).trans ((q5 15 rfl).trans ((q4 15 rfl).trans ((q3 15 rfl).trans ((q2 15 rfl).trans e1))))
    refine wp_region_lit ?_
    refine plv rfl (is_move (.inl rfl) (frm_tmp (by decide) n15)) ?_
    refine plv rfl (is_add rfl (frm_tmp (by decide) rfl) rfl) ?_
    refine plv rfl (is_move (.inr rfl) (frm_tmp (by decide) rfl)) ?_
    refine wpList_nil ?_
    refine ⟨⟨_, k + 1, rfl, by omega, ?_, ?_, ?_⟩, ?_⟩
    · repeat (first | exact sn | refine Same.some rfl _ ?_)
    · exact congrArg (Value.int .i64) ((i64_add _ _ (by omega) (by omega) (by omega) (by omega)).trans (by omega))
    · exact hrs.drew.drew.put HO1 hp
    · rw [frm_tmp (v := .int .i64 ((k : Int) + 1)) (by decide) (congrArg (Value.int .i64) (i64_add _ _ (by omega) (by omega) (by omega) (by omega))), frm_tmp (by decide) e15]
      simp [intOf]
      omega
  · obtain rfl : k = 64 := by omega
    refine wp_cond_false (frm_tmp (by decide) (congrArg Value.bool (decide_eq_false (by omega)))) (wp_exit ?_)
    refine hexit _ _ ?_ hrs
    repeat (first | exact hs | refine Same.some rfl _ ?_)
end Go.Proofs.YtdedphhohiioiaaDoor
/- Single operations, for the end of the reference's sum. -/
namespace Go.Proofs.YtdedphhohiioiaaDoor
open Go.RowKit

section
variable {P : Program} {ops : Array Oper} {Q : Exit → Act → World → Prop} {o : Oper} {rest : List Oper} {N : Nat} {f : Nat → Value} {w : World}
/-- The operation gives this value, and makes this world. -/
def Alc (P : Program) (o : Oper) (ρ : Operand → Value) (w : World) (V : Value) (w' : World) : Prop := (execOp ρ o).run P w = .ok (.value V) w'
theorem pla {V : Value} {w' : World} (hgd : o.guard = none) (hG : Alc P o (frm N f).eval w V w') (h : wpList P ops Q rest (frm N (updO f o.dst V)) w') : wpList P ops Q (o :: rest) (frm N f) w := by
  refine wpList_plain hgd fun K hK => ?_
  unfold Oper.wp
  rw [hG]
  refine hK _ _ ?_
  rw [frm_put]
  exact h
end
section
variable {o : Oper} {ρ : Operand → Value} {w : World}
theorem al105 (ho : o.op = .alloc 105) : Alc Tryd.prog o ρ w (.pointer (some ⟨w.heap.size, 0, none⟩)) (w.alloc (.cells (Array.replicate 8 (.int .u32 0)) 105)) := by
  unfold Alc execOp
  simp only [ho]
  go_simp
  rfl
theorem al25 (ho : o.op = .alloc 25) : Alc Tryd.prog o ρ w (.pointer (some ⟨w.heap.size, 0, none⟩)) (w.alloc (.cells (Array.replicate 32 (.int .u8 0)) 25)) := by
  unfold Alc execOp
  simp only [ho]
  go_simp
  rfl
theorem is_build25 {t : TypeId} (ht : t = 25) (ho : o.op = .build t #[]) : Val Tryd.prog o ρ w (.agg (u8s (List.replicate 32 0)).toArray) := by
  subst ht
  unfold Val execOp
  simp only [ho]
  go_simp
  rfl
theorem is_cut64 {x : Operand} {b off n c : Nat} (h1 : 64 ≤ n) (h2 : n ≤ c) (ho : o.op = .slice 22 x (some (.const (.int .i64 64))) none none) (hx : ρ x = .slice (some ⟨b, off, none⟩) n c) (hc : ρ (.const (.int .i64 64)) = .int .i64 64) :
    Val Tryd.prog o ρ w (.slice (some (if c = 64 then ⟨b, off, none⟩ else ⟨b, off + 64, none⟩)) (n - 64) (c - 64)) := by
  have g1 : (64 : Int) ≤ (n : Int) := by omega
  have g2 : (n : Int) ≤ (c : Int) := by omega
  have g3 : (64 : Int) ≤ (c : Int) := by omega
  have g4 : ¬ c = 0 := by omega
  unfold Val execOp
  simp only [ho, hx, Option.map_some, Option.map_none, hc]
  by_cases hcc : c = 64
  · subst hcc
    obtain rfl : n = 64 := by omega
    go_simp
  · go_simp
theorem is_quo4 {t t2 : TypeId} {x y : Operand} (i : Nat) (hi : i < 32) (ho : o.op = .binOp .quo t x y t2) (hx : ρ x = .int .i64 (i : Int)) (hy : ρ y = .int .i64 4) : Val Tryd.prog o ρ w (.int .i64 ((i / 4 : Nat) : Int)) := by
  have h1 : (0 : Int) ≤ (i : Int) := by omega
  have h2 : (i : Int) < 32 := by omega
  refine is_bin ho hx hy rfl ?_
  go_simp
  exact IntWalk.i64_in _ (by omega)
theorem is_rem4 {t t2 : TypeId} {x y : Operand} (i : Nat) (hi : i < 32) (ho : o.op = .binOp .rem t x y t2) (hx : ρ x = .int .i64 (i : Int)) (hy : ρ y = .int .i64 4) : Val Tryd.prog o ρ w (.int .i64 ((i % 4 : Nat) : Int)) := by
  have h1 : (0 : Int) ≤ (i : Int) := by omega
  have h2 : (i : Int) < 32 := by omega
  refine is_bin ho hx hy rfl ?_
  go_simp
  exact Int.tmod_eq_emod_of_nonneg h1
theorem is_convN {x : Operand} (n : Nat) (hn : n < 64) (ho : o.op = .convert 3 39 x) (hx : ρ x = .int .i64 (n : Int)) : Val Tryd.prog o ρ w (.int .u64 (n : Int)) := by
  have h1 : (n : Int) < 64 := by omega
  unfold Val execOp
  simp only [ho, hx]
  go_simp
  rw [IntKind.wrap_u64]
  omega
theorem is_shrN {t t2 : TypeId} {x y : Operand} {a : Int} (n : Nat) (d : Int) (hn : (n = 0 ∧ d = 1) ∨ (n = 8 ∧ d = 256) ∨ (n = 16 ∧ d = 65536) ∨ (n = 24 ∧ d = 16777216)) (ho : o.op = .binOp .shr t x y t2) (hx : ρ x = .int .u32 a) (hy : ρ y = .int .u64 (n : Int)) : Val Tryd.prog o ρ w (.int .u32 (a / d)) := by
  rcases hn with ⟨rfl, rfl⟩ | ⟨rfl, rfl⟩ | ⟨rfl, rfl⟩ | ⟨rfl, rfl⟩
  all_goals
    refine is_bin ho hx hy rfl ?_
    go_simp
theorem is_conv5 {x : Operand} {a : Int} (ho : o.op = .convert 103 5 x) (hx : ρ x = .int .u32 a) : Val Tryd.prog o ρ w (.int .u8 (a % 256)) := by
  unfold Val execOp
  simp only [ho, hx]
  go_simp
  exact IntKind.wrap_u8 a
end
theorem RV.set7 {W0 w : World} {B b6 b7 b8 b14 : Nat} {v : Value} {rows ws st tb vs : List Int} (h : RV W0 B b6 b7 b8 b14 v rows w ws st tb vs) (hB : B ≤ b6 ∧ b6 < b7 ∧ b7 < b8) (i : Nat) (x : Int) :
    RV W0 B b6 b7 b8 b14 v rows (w.setCell ⟨b7, i, none⟩ (.int .u32 x)) ws (st.set i x) tb vs :=
  ⟨h.rs.set7 hB i x, (heap_setCell_other w ⟨b7, i, none⟩ _ _ (by have := h.lt; simp; omega)).trans h.h14, h.lt⟩
def W14 (t : Nat) : Bool := Wr 237 248 20 t
def W7 (t : Nat) : Bool := t == 4 || (9 ≤ t && t ≤ 20) || (63 ≤ t && t ≤ 250)
theorem in7 {S : Nat → Bool} {f g : Nat → Value} (h : Same S f g) (hS : ∀ t, S t = true → W7 t = true) : Same W7 f g := h.mono fun t ht => by
  cases e : S t with
  | false => rfl
  | true => rw [hS t e] at ht; cases ht
theorem in7_8 : ∀ t, W8 t = true → W7 t = true := by
  intro t; simp only [W8, W7, Bool.or_eq_true, beq_iff_eq, Bool.and_eq_true, decide_eq_true_eq]; omega
theorem in7_10 : ∀ t, W10 t = true → W7 t = true := by
  intro t; simp only [W10, W7, Bool.or_eq_true, beq_iff_eq, Bool.and_eq_true, decide_eq_true_eq]; omega
theorem in7_12 : ∀ t, W12 t = true → W7 t = true := by
  intro t; simp only [W12, W7, Bool.or_eq_true, beq_iff_eq, Bool.and_eq_true, decide_eq_true_eq]; omega
theorem in7_14 : ∀ t, W14 t = true → W7 t = true := by
  intro t; simp only [W14, Wr, W7, Bool.or_eq_true, beq_iff_eq, Bool.and_eq_true, decide_eq_true_eq]; omega
end Go.Proofs.YtdedphhohiioiaaDoor
/- The reference's sum: the eight sums. -/
namespace Go.Proofs.YtdedphhohiioiaaDoor
open Go.RowKit

set_option maxHeartbeats 2000000 in
set_option maxRecDepth 100000 in
theorem loop14 (W0 : World) (B b6 b7 b8 b14 : Nat) (v : Value) (rows ws : List Int) (s r : St) (HO1 : B ≤ b6 ∧ b6 < b7 ∧ b7 < b8)
    (f : Nat → Value) (h7 : f 7 = .pointer (some ⟨b7, 0, none⟩)) (h14 : f 14 = .pointer (some ⟨b14, 0, none⟩)) (h237 : f 237 = .int .i64 0)
    (Q : Exit → Act → World → Prop) (w : World) (hrs : RV W0 B b6 b7 b8 b14 v rows w ws s.list kk r.list)
    (hexit : ∀ g w', Same W14 f g → RV W0 B b6 b7 b8 b14 v rows w' ws (s.add r).list kk r.list → Q (.exit 14) (frm 270 g) w') : Code.wp Tryd.prog (refLoop 14) Q (frm 270 f) w := by
  refine wp_loop (fun a w' => ∃ (g : Nat → Value) (i : Nat), a = frm 270 g ∧ i ≤ 8 ∧ Same W14 f g ∧ g 237 = .int .i64 (i : Int) ∧ RV W0 B b6 b7 b8 b14 v rows w' ws (over s.list (s.add r).list i) kk r.list)
    (fun a _ => 64 - (intOf (a.eval (.tmp 237))).toNat) ⟨f, 0, rfl, by omega, Same.refl _ _, h237, by rw [over_zero]; exact hrs⟩ ?_
  rintro a wr ⟨g, i, rfl, hk, hs, e237, hrs⟩
  refine wp_seq ?_
  refine wp_region_lit ?_
  refine plv rfl (is_lss rfl (frm_tmp (by decide) e237) rfl) ?_
  refine wpList_nil ?_
  change Code.wp _ _ _ _ _
  by_cases hlt : i < 8
  · refine wp_seq (wp_cond_true (frm_tmp (by decide) (congrArg Value.bool (decide_eq_true (by omega)))) (wp_skip ?_))
    change Code.wp _ _ _ _ _
    refine wp_seq (wp_block (wp_seq ?_))
    generalize hi : updO _ (some 238) _ = k
    have sk : Same W14 f k := by rw [← hi]; repeat (first | exact hs | refine Same.some rfl _ ?_)
    have k237 : k 237 = .int .i64 (i : Int) := by rw [← hi]; exact e237
    clear hi
    refine wp_region_lit ?_
    refine plv rfl (is_move (.inl rfl) (frm_tmp (by decide) k237)) ?_
    refine plv rfl (is_move (.inr rfl) (frm_tmp (by decide) rfl)) ?_
    refine wpList_nil ?_
    change Code.wp _ _ _ _ _
    generalize hi : updO _ (some 20) _ = j
    have sj : Same W14 f j := by rw [← hi]; repeat (first | exact sk | refine Same.some rfl _ ?_)
    have j20 : j 20 = .int .i64 (i : Int) := by rw [← hi]; rfl
    have j237 : j 237 = .int .i64 (i : Int) := by rw [← hi]; exact k237
    have j7 : j 7 = .pointer (some ⟨b7, 0, none⟩) := (sj 7 rfl).trans h7
    have j14 : j 14 = .pointer (some ⟨b14, 0, none⟩) := (sj 14 rfl).trans h14
    clear hi
    have hol : (over s.list (s.add r).list i).length = 8 := over_len _ _ _ 8 rfl rfl (by omega)
    have cs : wr.drew.cell? ⟨b7, i, none⟩ = some (.int .u32 (s.list.getD i 0)) := by rw [hrs.drew.rs.cell7 i (by omega), over_at _ _ _ 8 rfl rfl hlt]
    have cv : wr.drew.cell? ⟨b14, i, none⟩ = some (.int .u32 (r.list.getD i 0)) := hrs.drew.cell i _ (by
      have hl : i < r.list.length := hlt
      simp [List.getD_eq_getElem?_getD, hl])
    have q1 : wr.drew.frozen? ⟨b7, i, none⟩ = false := blk_free hrs.drew.rs.h7 i
    refine wp_region_still_tail 7 (by kernel_rfl) (by kernel_rfl) ?_
    change wpStill _ _ wr.drew _ _ _
    simp only [List.take_succ_cons, List.take_zero, List.drop_succ_cons, List.drop_zero]
    refine stv rfl (is_move (.inl rfl) (frm_tmp (by decide) j20)) ?_
    refine stv rfl (is_idx105 i rfl hlt rfl (frm_tmp (by decide) j7) (frm_tmp (by decide) rfl)) ?_
    refine stv rfl (is_load103 rfl (frm_tmp (by decide) rfl) cs) ?_
    refine stv rfl (is_move (.inl rfl) (frm_tmp (by decide) j20)) ?_
    refine stv rfl (is_idx105 i rfl hlt rfl (frm_tmp (by decide) j14) (frm_tmp (by decide) rfl)) ?_
    refine stv rfl (is_load103 rfl (frm_tmp (by decide) rfl) cv) ?_
    refine stv rfl (is_add rfl (frm_tmp (by decide) rfl) (frm_tmp (by decide) rfl)) ?_
    refine wpStill_nil ?_
    refine plv rfl (is_idx105 i rfl hlt rfl (frm_tmp (by decide) j7) (frm_tmp (by decide) rfl)) ?_
    refine plw rfl (is_store103 rfl (frm_tmp (by decide) rfl) (frm_tmp (by decide) rfl) cs q1) ?_
    refine wpList_nil ?_
    change Code.wp _ _ _ _ _
    generalize hi : updO _ none _ = n
    have sn : Same W14 f n := by rw [← hi]; refine Same.none _ ?_; repeat (first | exact sj | refine Same.some rfl _ ?_)
    have n237 : n 237 = .int .i64 (i : Int) := by rw [← hi]; exact j237
    clear hi
    refine wp_region_lit ?_
    refine plv rfl (is_add rfl (frm_tmp (by decide) n237) rfl) ?_
    refine plv rfl (is_move (.inl rfl) (frm_tmp (by decide) rfl)) ?_
    refine wpList_nil ?_
    refine ⟨⟨_, i + 1, rfl, by omega, ?_, ?_, ?_⟩, ?_⟩
    · repeat (first | exact sn | refine Same.some rfl _ ?_)
    · exact congrArg (Value.int .i64) ((i64_add _ _ (by omega) (by omega) (by omega) (by omega)).trans (by omega))
    · have h := hrs.drew.set7 HO1 i ((s.add r).list.getD i 0)
      rw [over_set _ _ _ 8 rfl rfl hlt, St.add_at s r i hlt, ← IntKind.wrap_u32] at h
      exact h
    · rw [frm_tmp (v := .int .i64 ((i : Int) + 1)) (by decide) (congrArg (Value.int .i64) (i64_add _ _ (by omega) (by omega) (by omega) (by omega))), frm_tmp (by decide) e237]
      simp [intOf]
      omega
  · obtain rfl : i = 8 := by omega
    refine wp_seq (wp_cond_false (frm_tmp (by decide) (congrArg Value.bool (decide_eq_false (by omega)))) (wp_exit ?_))
    rw [over_all _ _ 8 rfl rfl] at hrs
    refine hexit _ _ ?_ hrs
    repeat (first | exact hs | refine Same.some rfl _ ?_)
end Go.Proofs.YtdedphhohiioiaaDoor
/- The reference's sum: one block. -/
namespace Go.Proofs.YtdedphhohiioiaaDoor
open Go.RowKit

set_option maxHeartbeats 2000000 in
set_option maxRecDepth 100000 in
theorem body7 (W0 : World) (B b6 b7 b8 b off n c : Nat) (rows ws : List Int) (s : St) (hsok : s.ok) (hwl : ws.length = 64) (hrok : u8s_ok rows) (HO1 : B ≤ b6 ∧ b6 < b7 ∧ b7 < b8) (hn : rows.length = n) (hn64 : 64 ≤ n) (hnc : n ≤ c)
    (f : Nat → Value) (h4 : f 4 = .slice (some ⟨b, off, none⟩) n c) (h6 : f 6 = .pointer (some ⟨b6, 0, none⟩)) (h7 : f 7 = .pointer (some ⟨b7, 0, none⟩)) (h8 : f 8 = .pointer (some ⟨b8, 0, none⟩))
    (Q : Exit → Act → World → Prop) (w : World) (hrs : RS W0 B b6 b7 b8 (.slice (some ⟨b, off, none⟩) n c) rows w ws s.list kk)
    (hend : ∀ g w' A, Same W7 f g → g 4 = .slice A (n - 64) (c - 64) → RS W0 B b6 b7 b8 (.slice A (n - 64) (c - 64)) (rows.drop 64) w' (sch (rows.take 64)) (s.comp (rows.take 64)).list kk → Q .normal (frm 270 g) w') : Code.wp Tryd.prog (refLoop 7) Q (frm 270 f) w := by
  have hbl : (rows.take 64).length = 64 := by rw [List.length_take]; omega
  have hbb : ∀ x ∈ rows.take 64, B8 x := hrok.take 64
  have hat : ∀ i, i < 64 → rows.getD i 0 = (rows.take 64).getD i 0 := fun i hi => by simp only [List.getD_eq_getElem?_getD, List.getElem?_take, if_pos hi]
  generalize hbs : rows.take 64 = bs at *
  refine wp_seq (wp_seq ?_)
  refine wp_region_lit ?_
  refine plv rfl (is_move (.inr rfl) rfl) ?_
  refine wpList_nil ?_
  change Code.wp _ _ _ _ _
  refine wp_block (loop8 W0 B b6 b7 b8 b off n c rows ws bs s.list hwl hbb HO1 hn hn64 hat _ (by exact h4) (by exact h6) (by rfl) _ w hrs fun g1 w1 q1 r1 => ?_)
  have s1 : Same W7 f g1 := Same.trans (Same.some rfl _ (Same.refl _ _)) (in7 q1 in7_8)
  have e4 : g1 4 = .slice (some ⟨b, off, none⟩) n c := (q1 4 rfl).trans h4
  change Code.wp _ _ _ _ _
  refine wp_seq (wp_seq ?_)
  refine wp_region_lit ?_
  refine plv rfl (is_move (.inr rfl) rfl) ?_
  refine wpList_nil ?_
  change Code.wp _ _ _ _ _
  refine wp_block (loop10 W0 B b6 b7 b8 _ rows ws bs s.list hwl hbb HO1 _ (by exact (s1 6 rfl).trans h6) (by rfl) _ w1 r1 fun g2 w2 q2 r2 => ?_)
  have s2 : Same W7 f g2 := s1.trans (Same.trans (Same.some rfl _ (Same.refl _ _)) (in7 q2 in7_10))
  have e4b : g2 4 = .slice (some ⟨b, off, none⟩) n c := (q2 4 rfl).trans e4
  change Code.wp _ _ _ _ _
  refine wp_seq ?_
  refine wp_region_lit ?_
  refine wpList_load_g rfl 105 _ rfl b7 0 (frm_tmp (by decide) ((s2 7 rfl).trans h7)) (u32s s.list) _ (blk_range r2.h7) Tryd.underlying105 rfl (by kernel_rfl) ?_
  rw [frm_put]
  refine pla rfl (al105 rfl) ?_
  refine wpList_store_row rfl 105 _ _ rfl w2.heap.size (frm_tmp (by decide) rfl) (u32s s.list) (frm_tmp (by decide) rfl) 105 (has_new w2 _ _ _ rfl) (by kernel_rfl) (one_u32s _) ?_
  intro w3 hp
  rw [frm_put]
  refine wpList_nil ?_
  change Code.wp _ _ _ _ _
  generalize hi : updO _ none _ = g3
  have s3 : Same W7 f g3 := by rw [← hi]; refine Same.none _ ?_; repeat (first | exact s2 | refine Same.some rfl _ ?_)
  have e14 : g3 14 = .pointer (some ⟨w2.heap.size, 0, none⟩) := by rw [← hi]; rfl
  have e4c : g3 4 = .slice (some ⟨b, off, none⟩) n c := by rw [← hi]; exact e4b
  clear hi
  have hb8 : b8 < w2.heap.size := blk_lt r2.h8
  have r3 : RV W0 B b6 b7 b8 w2.heap.size (.slice (some ⟨b, off, none⟩) n c) rows w3 (sch bs) s.list kk s.list :=
    ⟨(r2.below ((Below.refl _ _).alloc (Nat.le_refl _) _) (by omega)).put HO1 hb8 hp, hp.blk, hb8⟩
  refine wp_seq (wp_seq ?_)
  refine wp_region_lit ?_
  refine plv rfl (is_move (.inr rfl) rfl) ?_
  refine wpList_nil ?_
  change Code.wp _ _ _ _ _
  refine wp_block (loop12 W0 B b6 b7 b8 w2.heap.size _ rows (sch bs) s.list s hsok (sch_len bs) HO1 _ (by exact (s3 6 rfl).trans h6) (by exact (s3 8 rfl).trans h8) (by exact e14) (by rfl) _ w3 r3 fun g4 w4 q4 r4 => ?_)
  have s4 : Same W7 f g4 := s3.trans (Same.trans (Same.some rfl _ (Same.refl _ _)) (in7 q4 in7_12))
  have e4d : g4 4 = .slice (some ⟨b, off, none⟩) n c := (q4 4 rfl).trans e4c
  have e14b : g4 14 = .pointer (some ⟨w2.heap.size, 0, none⟩) := (q4 14 rfl).trans e14
  change Code.wp _ _ _ _ _
  refine wp_seq (wp_seq ?_)
  refine wp_region_lit ?_
  refine plv rfl (is_move (.inl rfl) rfl) ?_
  refine wpList_nil ?_
  change Code.wp _ _ _ _ _
  refine wp_block (loop14 W0 B b6 b7 b8 w2.heap.size _ rows (sch bs) s (s.rnds (sch bs) 64) HO1 _ (by exact (s4 7 rfl).trans h7) (by exact e14b) (by rfl) _ w4 r4 fun g5 w5 q5 r5 => ?_)
  have s5 : Same W7 f g5 := s4.trans (Same.trans (Same.some rfl _ (Same.refl _ _)) (in7 q5 in7_14))
  have e4e : g5 4 = .slice (some ⟨b, off, none⟩) n c := (q5 4 rfl).trans e4d
  change Code.wp _ _ _ _ _
  refine wp_region_lit ?_
  refine plv rfl (is_move (.inl rfl) (frm_tmp (by decide) e4e)) ?_
  refine plv rfl (is_cut64 hn64 hnc rfl (frm_tmp (by decide) rfl) rfl) ?_
  refine plv rfl (is_move (.inr rfl) (frm_tmp (by decide) rfl)) ?_
  refine wpList_nil ?_
  refine hend _ _ _ ?_ rfl ?_
  · repeat (first | exact s5 | refine Same.some rfl _ ?_)
  · have hd := r5.rs.own.drop (k := 64) (by rw [u8s_len']; omega)
    rw [u8s, ← List.map_drop] at hd
    refine ⟨hd, fun k hk => r5.rs.glt k ?_, r5.rs.h6, r5.rs.h7, r5.rs.h8, r5.rs.bel⟩
    by_cases hc : c = 64 <;> simpa [Value.ownBlock, hc] using hk
end Go.Proofs.YtdedphhohiioiaaDoor
/- The reference's sum: all blocks. -/
namespace Go.Proofs.YtdedphhohiioiaaDoor
open Go.RowKit

set_option maxHeartbeats 2000000 in
set_option maxRecDepth 100000 in
theorem loop6 (W0 : World) (B b6 b7 b8 : Nat) (P ws0 : List Int) (v0 : Value) (hP : u8s_ok P) (h64 : P.length % 64 = 0) (hwl0 : ws0.length = 64) (HO1 : B ≤ b6 ∧ b6 < b7 ∧ b7 < b8)
    (f : Nat → Value) (h4 : f 4 = v0) (h6 : f 6 = .pointer (some ⟨b6, 0, none⟩)) (h7 : f 7 = .pointer (some ⟨b7, 0, none⟩)) (h8 : f 8 = .pointer (some ⟨b8, 0, none⟩))
    (Q : Exit → Act → World → Prop) (w : World) (hrs : RS W0 B b6 b7 b8 v0 P w ws0 St.init.list kk)
    (hexit : ∀ g w' v rows ws, Same W7 f g → RS W0 B b6 b7 b8 v rows w' ws (stN P (P.length / 64)).list kk → Q (.exit 6) (frm 270 g) w') : Code.wp Tryd.prog (refLoop 6) Q (frm 270 f) w := by
  refine wp_loop (fun a w' => ∃ (g : Nat → Value) (q k c : Nat) (A : Option Addr) (ws : List Int), a = frm 270 g ∧ 64 * q + k = P.length ∧ Same W7 f g ∧ g 4 = .slice A k c ∧ ws.length = 64 ∧ RS W0 B b6 b7 b8 (.slice A k c) (P.drop (64 * q)) w' ws (stN P q).list kk)
    (fun a _ => vlen (a.eval (.tmp 4))) ?_ ?_
  · obtain ⟨A, c, rfl, _⟩ := hrs.own.len
    rw [u8s_len'] at h4 hrs
    exact ⟨f, 0, P.length, c, A, ws0, rfl, by omega, Same.refl _ _, h4, hwl0, hrs⟩
  rintro a wr ⟨g, q, k, c, A, ws, rfl, hq, hs, e4, hwl, hrs⟩
  have hlen : (P.drop (64 * q)).length = k := by rw [List.length_drop]; omega
  refine wp_seq (wp_seq ?_)
  refine wp_region_lit ?_
  refine plv rfl (is_move (.inl rfl) (frm_tmp (by decide) e4)) ?_
  refine plv rfl (is_len22 rfl (frm_tmp (by decide) rfl)) ?_
  refine plv rfl (is_gtr rfl (frm_tmp (by decide) rfl) rfl) ?_
  refine wpList_nil ?_
  change Code.wp _ _ _ _ _
  by_cases hlt : 0 < k
  · refine wp_cond_true (frm_tmp (by decide) (congrArg Value.bool (decide_eq_true (by omega)))) (wp_skip ?_)
    change Code.wp _ _ _ _ _
    obtain ⟨b, off, c', he, hnc, _, _⟩ := hrs.own.row (by rw [u8s_len']; omega)
    rw [u8s_len', hlen] at he hnc
    simp only [Value.slice.injEq] at he
    obtain ⟨rfl, -, rfl⟩ := he
    refine wp_block (body7 W0 B b6 b7 b8 b off k c (P.drop (64 * q)) ws (stN P q) (stN_ok P q) hwl (hP.drop _) HO1 hlen (by omega) hnc _ (by exact e4) (by exact (hs 6 rfl).trans h6) (by exact (hs 7 rfl).trans h7) (by exact (hs 8 rfl).trans h8) _ wr hrs fun g2 w2 A2 q2 e42 r2 => ?_)
    refine ⟨⟨g2, q + 1, k - 64, c - 64, A2, sch ((P.drop (64 * q)).take 64), rfl, by omega, ?_, e42, sch_len _, ?_⟩, ?_⟩
    · refine Same.trans ?_ q2
      repeat (first | exact hs | refine Same.some rfl _ ?_)
    · rw [List.drop_drop] at r2
      exact r2
    · rw [frm_tmp (by decide) e42, frm_tmp (by decide) e4]
      simp only [vlen]
      omega
  · obtain rfl : k = 0 := by omega
    refine wp_cond_false (frm_tmp (by decide) (congrArg Value.bool (decide_eq_false (by omega)))) (wp_exit ?_)
    obtain rfl : q = P.length / 64 := by omega
    refine hexit _ _ _ _ _ ?_ hrs
    repeat (first | exact hs | refine Same.some rfl _ ?_)
end Go.Proofs.YtdedphhohiioiaaDoor
/- The reference's sum: its end. -/
namespace Go.Proofs.YtdedphhohiioiaaDoor
open Go.RowKit

def W16 (t : Nat) : Bool := Wr 252 268 22 t
def behind (id : Nat) : Code → Option Code
  | .seq (.block i _) b => if i = id then some b else behind id b
  | .seq _ b => behind id b
  | _ => none
noncomputable def refTail : Code := (Tryd.f28.body.bind (behind 6)).getD .skip

set_option maxHeartbeats 2000000 in
set_option maxRecDepth 100000 in
theorem loop16 (S : St) (b7 b21 : Nat) (hlt7 : b7 < b21) (f : Nat → Value) (h7 : f 7 = .pointer (some ⟨b7, 0, none⟩)) (h21 : f 21 = .pointer (some ⟨b21, 0, none⟩)) (h252 : f 252 = .int .i64 0)
    (Q : Exit → Act → World → Prop) (w : World) (hb7 : w.heap[b7]? = some (.cells (u32s S.list).toArray 105 (0, 0))) (hb21 : w.heap[b21]? = some (.cells (u8s (pad 32 (outB S 0))).toArray 25 (0, 0)))
    (hexit : ∀ g w', Same W16 f g → Below b21 w w' → w'.heap[b21]? = some (.cells (u8s (outB S 32)).toArray 25 (0, 0)) → Q (.exit 16) (frm 270 g) w') : Code.wp Tryd.prog (refLoop 16) Q (frm 270 f) w := by
  refine wp_loop (fun a w' => ∃ (g : Nat → Value) (i : Nat), a = frm 270 g ∧ i ≤ 32 ∧ Same W16 f g ∧ g 252 = .int .i64 (i : Int) ∧ Below b21 w w' ∧ w'.heap[b21]? = some (.cells (u8s (pad 32 (outB S i))).toArray 25 (0, 0)))
    (fun a _ => 64 - (intOf (a.eval (.tmp 252))).toNat) ⟨f, 0, rfl, by omega, Same.refl _ _, h252, Below.refl _ _, hb21⟩ ?_
  rintro a wr ⟨g, i, rfl, hk, hs, e252, hbel, hbk⟩
  refine wp_seq ?_
  refine wp_region_lit ?_
  refine plv rfl (is_lss rfl (frm_tmp (by decide) e252) rfl) ?_
  refine wpList_nil ?_
  change Code.wp _ _ _ _ _
  by_cases hlt : i < 32
  · refine wp_seq (wp_cond_true (frm_tmp (by decide) (congrArg Value.bool (decide_eq_true (by omega)))) (wp_skip ?_))
    change Code.wp _ _ _ _ _
    refine wp_seq (wp_block (wp_seq ?_))
    generalize hi : updO _ (some 253) _ = k
    have sk : Same W16 f k := by rw [← hi]; repeat (first | exact hs | refine Same.some rfl _ ?_)
    have k252 : k 252 = .int .i64 (i : Int) := by rw [← hi]; exact e252
    clear hi
    refine wp_region_lit ?_
    refine plv rfl (is_move (.inl rfl) (frm_tmp (by decide) k252)) ?_
    refine plv rfl (is_move (.inr rfl) (frm_tmp (by decide) rfl)) ?_
    refine wpList_nil ?_
    change Code.wp _ _ _ _ _
    generalize hi : updO _ (some 22) _ = j
    have sj : Same W16 f j := by rw [← hi]; repeat (first | exact sk | refine Same.some rfl _ ?_)
    have j22 : j 22 = .int .i64 (i : Int) := by rw [← hi]; rfl
    have j252 : j 252 = .int .i64 (i : Int) := by rw [← hi]; exact k252
    have j7 : j 7 = .pointer (some ⟨b7, 0, none⟩) := (sj 7 rfl).trans h7
    have j21 : j 21 = .pointer (some ⟨b21, 0, none⟩) := (sj 21 rfl).trans h21
    clear hi
    obtain ⟨y, hy⟩ : ∃ y, y = S.list.getD (i / 4) 0 := ⟨_, rfl⟩
    have cy : wr.cell? ⟨b7, i / 4, none⟩ = some (.int .u32 y) := blk_cell ((hbel.block _ hlt7).trans hb7) (i / 4) _ (by rw [hy]; exact u32s_at S.list (i / 4) (show i / 4 < 8 by omega))
    have hpl : (u8s (pad 32 (outB S i))).length = 32 := by rw [u8s_len', pad_len _ _ (by rw [outB_len]; omega)]
    have hil : i < (u8s (pad 32 (outB S i))).length := by omega
    have cz : wr.cell? ⟨b21, i, none⟩ = some (u8s (pad 32 (outB S i)))[i] := blk_cell hbk i _ (by simp)
    have qz : wr.frozen? ⟨b21, i, none⟩ = false := blk_free hbk i
    have hcalc : IntKind.i64.wrap (24 - IntKind.i64.wrap (8 * ((i % 4 : Nat) : Int))) = ((24 - 8 * (i % 4) : Nat) : Int) := by
      rw [i64_mul _ _ (by omega) (by omega) (by omega) (by omega), i64_sub _ _ (by omega) (by omega) (by omega) (by omega)]
      omega
    obtain ⟨D, hD, hDo⟩ : ∃ D : Int, ((24 - 8 * (i % 4) = 0 ∧ D = 1) ∨ (24 - 8 * (i % 4) = 8 ∧ D = 256) ∨ (24 - 8 * (i % 4) = 16 ∧ D = 65536) ∨ (24 - 8 * (i % 4) = 24 ∧ D = 16777216)) ∧ y / D % 256 = outAt S i := by
      have : i % 4 = 0 ∨ i % 4 = 1 ∨ i % 4 = 2 ∨ i % 4 = 3 := by omega
      unfold outAt
      rw [← hy]
      rcases this with h | h | h | h
      · exact ⟨16777216, by omega, by simp [h]⟩
      · exact ⟨65536, by omega, by simp [h]⟩
      · exact ⟨256, by omega, by simp [h]⟩
      · exact ⟨1, by omega, by simp [h]⟩
    refine wp_region_lit ?_
    refine plv rfl (is_move (.inl rfl) (frm_tmp (by decide) j22)) ?_
    refine plv rfl (is_move (.inl rfl) (frm_tmp (by decide) j22)) ?_
    refine plv rfl (is_quo4 i hlt rfl (frm_tmp (by decide) rfl) rfl) ?_
    refine plv rfl (is_idx105 (i / 4) rfl (by omega) rfl (frm_tmp (by decide) j7) (frm_tmp (by decide) rfl)) ?_
    refine plv rfl (is_load103 rfl (frm_tmp (by decide) rfl) cy) ?_
    refine plv rfl (is_move (.inl rfl) (frm_tmp (by decide) j22)) ?_
    refine plv rfl (is_rem4 i hlt rfl (frm_tmp (by decide) rfl) rfl) ?_
    refine plv rfl (is_mul rfl rfl (frm_tmp (by decide) rfl)) ?_
    refine plv rfl (is_sub rfl rfl (frm_tmp (by decide) rfl)) ?_
    refine plv rfl (is_convN (24 - 8 * (i % 4)) (by omega) rfl (frm_tmp (by decide) (congrArg (Value.int .i64) hcalc))) ?_
    refine plv rfl (is_shrN (24 - 8 * (i % 4)) D hD rfl (frm_tmp (by decide) rfl) (frm_tmp (by decide) rfl)) ?_
    refine plv rfl (is_conv5 rfl (frm_tmp (by decide) rfl)) ?_
    refine plv rfl (is_idx25 i rfl hlt rfl (frm_tmp (by decide) j21) (frm_tmp (by decide) rfl)) ?_
    refine plw rfl (is_store5 rfl (frm_tmp (by decide) rfl) (frm_tmp (by decide) rfl) cz qz) ?_
    refine wpList_nil ?_
    change Code.wp _ _ _ _ _
    generalize hi : updO _ none _ = n
    have sn : Same W16 f n := by rw [← hi]; refine Same.none _ ?_; repeat (first | exact sj | refine Same.some rfl _ ?_)
    have n252 : n 252 = .int .i64 (i : Int) := by rw [← hi]; exact j252
    clear hi
    refine wp_region_lit ?_
    refine plv rfl (is_add rfl (frm_tmp (by decide) n252) rfl) ?_
    refine plv rfl (is_move (.inl rfl) (frm_tmp (by decide) rfl)) ?_
    refine wpList_nil ?_
    refine ⟨⟨_, i + 1, rfl, by omega, ?_, ?_, hbel.setCell (Nat.le_refl _) _, ?_⟩, ?_⟩
    · repeat (first | exact sn | refine Same.some rfl _ ?_)
    · exact congrArg (Value.int .i64) ((i64_add _ _ (by omega) (by omega) (by omega) (by omega)).trans (by omega))
    · have h := pad_set 32 (outB S i) (outAt S i) (by rw [outB_len]; omega)
      rw [outB_len] at h
      rw [outB_succ, ← h, hDo, u8s, List.map_set]
      exact blk_set hbk i _
    · rw [frm_tmp (v := .int .i64 ((i : Int) + 1)) (by decide) (congrArg (Value.int .i64) (i64_add _ _ (by omega) (by omega) (by omega) (by omega))), frm_tmp (by decide) e252]
      simp [intOf]
      omega
  · obtain rfl : i = 32 := by omega
    refine wp_seq (wp_cond_false (frm_tmp (by decide) (congrArg Value.bool (decide_eq_false (by omega)))) (wp_exit ?_))
    rw [pad_full _ _ (outB_len _ _)] at hbk
    refine hexit _ _ ?_ hbel hbk
    repeat (first | exact hs | refine Same.some rfl _ ?_)

set_option maxHeartbeats 2000000 in
set_option maxRecDepth 100000 in
theorem tail28 (S : St) (b2 b7 : Nat) (f : Nat → Value) (h2 : f 2 = .pointer (some ⟨b2, 0, none⟩)) (h7 : f 7 = .pointer (some ⟨b7, 0, none⟩))
    (Q : Exit → Act → World → Prop) (w : World) (hb7 : w.heap[b7]? = some (.cells (u32s S.list).toArray 105 (0, 0))) (hb2 : Has w b2 25 32)
    (hret : ∀ g w1 w2, g 2 = .pointer (some ⟨b2, 0, none⟩) → Below w.heap.size w w1 → Put w1 b2 25 (u8s (outB S 32)) w2 → Q .ret (frm 270 g) w2) : Code.wp Tryd.prog refTail Q (frm 270 f) w := by
  refine wp_seq ?_
  refine wp_region_lit ?_
  refine plv rfl (is_build25 rfl rfl) ?_
  refine pla rfl (al25 rfl) ?_
  refine wpList_store_row rfl 25 _ _ rfl w.heap.size (frm_tmp (by decide) rfl) (u8s (List.replicate 32 0)) (frm_tmp (by decide) rfl) 25 (has_new w _ _ _ rfl) (by kernel_rfl) (one_u8s _) ?_
  intro w1 hp
  rw [frm_put]
  refine wpList_nil ?_
  change Code.wp _ _ _ _ _
  generalize hi : updO _ none _ = k
  have k2 : k 2 = .pointer (some ⟨b2, 0, none⟩) := by rw [← hi]; exact h2
  have k7 : k 7 = .pointer (some ⟨b7, 0, none⟩) := by rw [← hi]; exact h7
  have k21 : k 21 = .pointer (some ⟨w.heap.size, 0, none⟩) := by rw [← hi]; rfl
  clear hi
  have bel1 : Below w.heap.size w w1 := hp.below ((Below.refl _ _).alloc (Nat.le_refl _) _) (Nat.le_refl _)
  have hlt7 : b7 < w.heap.size := blk_lt hb7
  refine wp_seq (wp_seq ?_)
  refine wp_region_lit ?_
  refine plv rfl (is_move (.inl rfl) rfl) ?_
  refine wpList_nil ?_
  change Code.wp _ _ _ _ _
  refine wp_block (loop16 S b7 w.heap.size hlt7 _ (by exact k7) (by exact k21) (by rfl) _ w1 ((bel1.block _ hlt7).trans hb7) hp.blk fun g2 w2 q2 bel2 hb21 => ?_)
  change Code.wp _ _ _ _ _
  have g21 : g2 21 = .pointer (some ⟨w.heap.size, 0, none⟩) := (q2 21 rfl).trans k21
  have g22 : g2 2 = .pointer (some ⟨b2, 0, none⟩) := (q2 2 rfl).trans k2
  have hl : (u8s (outB S 32)).length = 32 := by rw [u8s_len', outB_len]
  have hi25 : (Tryd.prog.info? 25).map (·.size) = some (u8s (outB S 32)).length := by rw [hl]; exact Tryd.size25
  refine wp_seq ?_
  refine wp_region_lit ?_
  refine wpList_load_g rfl 25 _ rfl w.heap.size 0 (frm_tmp (by decide) g21) (u8s (outB S 32)) _ (blk_range hb21) Tryd.underlying25 rfl hi25 ?_
  rw [frm_put]
  have hh : Has w2 b2 25 (u8s (outB S 32)).length := by rw [hl]; exact (hb2.below bel1).same (bel2.block _ hb2.lt)
  refine wpList_store_row rfl 25 _ _ rfl b2 (frm_tmp (by decide) g22) (u8s (outB S 32)) (frm_tmp (by decide) rfl) 25 hh hi25 (one_u8s _) ?_
  intro w3 hp3
  rw [frm_put]
  refine wpList_nil ?_
  change Code.wp _ _ _ _ _
  exact wp_ret (hret _ w2 w3 g22 (bel1.trans bel2) hp3)
end Go.Proofs.YtdedphhohiioiaaDoor
/- What the reference's sum does. -/
namespace Go.Proofs.YtdedphhohiioiaaDoor
open Go.RowKit

theorem wp_frm {P : Program} {c : Code} {Q : Exit → Act → World → Prop} {N : Nat} {a : Act} {w : World} (hd : a.defers = []) (hs : a.tmps.size = N) (h : ∀ f, (∀ t, t < N → f t = a.tmps.getD t undef) → Code.wp P c Q (frm N f) w) : Code.wp P c Q a w := by
  have e := frm_of a hd
  rw [hs] at e
  rw [e]
  exact h _ fun t _ => rfl

set_option maxHeartbeats 8000000 in
set_option maxRecDepth 100000 in
theorem refsum_any (s : ByteArray) (hs : s.size ≤ 1099511627776) (w : World) :
    Calls Tryd.prog 28 #[.string s] w fun e w' => e = .returned (.agg (u8s (sha (sb s))).toArray) ∧ Below w.heap.size w w' := by
  obtain ⟨m, hm⟩ : ∃ m, m = sb s := ⟨_, rfl⟩
  have hml : m.length = s.size := by rw [hm, sb_len]
  have hmb : u8s_ok m := hm ▸ sb_ok s
  rw [← hm]
  have wu : IntKind.u64.wrap ((s.size : Int) * 8) = (s.size : Int) * 8 := by rw [IntKind.wrap_u64]; omega
  have HM := Lib.hid hm
  have HML := Lib.hid hml
  clear hm hml
  obtain ⟨B, hB⟩ : ∃ B, B = w.heap.size + 1 := ⟨_, rfl⟩
  have HB := Lib.hid hB
  clear hB
  go_enter Tryd.func28, Tryd.ntmps28
  go_loud (go_wp2_with (first
    | (refine wpList_conv_own B rfl 9 22 5 (.tmp 27) rfl s rfl Tryd.underlying9 Tryd.underlying22 Tryd.underlying5 (by omega) (Below.refl _ _) (by have := HB.out; simp; omega) ?_; intro A2 c2 w2 own2 bel2; have hz2 : B ≤ w2.heap.size := (by have h1 := bel2.size; have h2 := HB.out; simp at h1; omega); have O2 := Lib.hid own2; have B2 := Lib.hid bel2; clear own2 bel2)
    | (at_builtin; refine appO B rfl (.tmp 28) (.tmp 29) 22 22 5 (.int .u8 0) 1 rfl Tryd.underlying22 Tryd.info5 rfl (by omega) _ _ rfl _ 1 [.int .u8 128] rfl (src_new w2 5 [.int .u8 128] 1 rfl Tryd.underlying22 (by simp [Value.oneCell'])) (O2.out.below ((Below.refl _ _).alloc (Nat.le_refl _) _)) (B2.out.alloc hz2 _) (by simp; omega) (by rw [u8s_len', sb_len]; omega) ?_; intro v3 w3 ap3; obtain ⟨A3, c3, rfl, O3, B3⟩ := ap3.byte (n := s.size) (sb_len s); clear ap3)))
  have hW0 : ∃ W0 : World, Below w.heap.size w W0 ∧ Has W0 w.heap.size 25 32 ∧ B ≤ W0.heap.size ∧ Below B W0 w3 := ⟨_, (Below.refl _ _).alloc (Nat.le_refl _) _, has_new w _ _ _ rfl, by have := HB.out; simp; omega, B3.out⟩
  obtain ⟨W0, w01, w02, w03, w04⟩ := hW0
  have HW0 := Lib.hid w01
  have HW0H := Lib.hid w02
  have HW0B := Lib.hid w03
  have hbel := Lib.hid w04
  clear w01 w02 w03 w04 B3 B2 O2
  obtain ⟨R, hR⟩ : ∃ R, R = m ++ [128] := ⟨_, rfl⟩
  rw [← HM.out, ← hR] at O3
  have hRl : R.length = s.size + 1 := by rw [hR, List.length_append, HML.out]; rfl
  have HR := Lib.hid hR
  have HRL := Lib.hid hRl
  clear hR hRl
  obtain ⟨Z, hZ⟩ : ∃ z, z = zc m.length := ⟨_, rfl⟩
  have HZC := Lib.hid hZ
  clear hZ
  go_loopw [4] (fun v wr => ∃ (z c : Nat) (A : Option Addr), z ≤ Z ∧ v = Value.slice A (s.size + 1 + z) c ∧ Hid (OwnO wr B 5 v (u8s (R ++ List.replicate z 0))) ∧ Hid (Below B W0 wr))
    (fun v _ => s.size + 65 - vlen v)
  case atStart => exact ⟨0, c3, A3, by omega, rfl, Lib.hid (by simpa using O3.out), hbel⟩
  case round =>
    clear O3 hbel
    obtain ⟨z, c4, A4, hz, rfl, hown, hbel⟩ := hrel
    have hz64 : z < 64 := by have := HZC.out; unfold zc at this; omega
    have hmod : ((s.size + 1 + z) % 64 = 56) ↔ z = Z := by
      rw [HZC.out, ← zc_at m.length z (by rw [← HZC.out]; exact hz), HML.out]
    by_cases hlt : z < Z
    ·
      have hmi : ¬ ((s.size : Int) + 1 + z) % 64 = 56 := by omega
      have hrl : (R ++ List.replicate z 0).length = s.size + 1 + z := by simp only [List.length_append, HRL.out, List.length_replicate]
      have HRZ := Lib.hid hrl
      clear hrl hmod
      go_wp2_with (at_builtin; refine appO (w0 := W0) B rfl (.tmp 35) (.tmp 36) 22 22 5 (.int .u8 0) 1 rfl Tryd.underlying22 Tryd.info5 rfl (by omega) _ _ rfl _ 1 [.int .u8 0] rfl (src_new wr 5 [.int .u8 0] 1 rfl Tryd.underlying22 (by simp [Value.oneCell'])) (hown.out.below ((Below.refl _ _).alloc (Nat.le_refl _) _)) (hbel.out.alloc (Nat.le_trans HW0B.out hbel.out.size) _) (by have h1 := hbel.out.size; have h2 := HW0B.out; simp; omega) (by rw [u8s_len', HRZ.out]; omega) ?_; intro v5 w5 ap5; obtain ⟨A5, c5, rfl, O5, B5⟩ := ap5.byte HRZ.out; clear ap5)
      go_roundw
      case rel => exact ⟨z + 1, c5, A5, by omega, rfl, Lib.hid (by simpa [List.replicate_succ'] using O5.out), B5⟩
      case measure => simp only [vlen]; omega
    · have hmi : ((s.size : Int) + 1 + z) % 64 = 56 := by omega
      obtain rfl : z = Z := by omega
      clear hmod
      go_wp2
      clear hmi hlt hz
      obtain ⟨wo, rfl⟩ : ∃ wo : World, wo = wr := ⟨_, rfl⟩
      obtain ⟨T, hT⟩ : ∃ T, T = R ++ List.replicate z 0 := ⟨_, rfl⟩
      rw [← hT] at hown
      have hTl : T.length = s.size + 1 + z := by rw [hT]; simp only [List.length_append, HRL.out, List.length_replicate]
      have HT := Lib.hid hT
      have HTL := Lib.hid hTl
      clear hT hTl
      go_loopw [4, 5] (fun v i wr => ∃ (j c : Nat) (A : Option Addr), j ≤ 8 ∧ v = Value.slice A (s.size + 1 + z + j) c ∧ i = .int .i64 (j : Int) ∧ Hid (OwnO wr B 5 v (u8s (T ++ (be8 m.length).take j))) ∧ Hid (Below B W0 wr))
        (fun v _ _ => s.size + 1 + z + 8 - vlen v)
      case atStart => exact ⟨0, c4, A4, by omega, rfl, rfl, Lib.hid (by simpa using hown.out), hbel⟩
      case round =>
        clear hown hbel
        obtain ⟨j, c5, A5, hj, rfl, rfl, hown, hbel⟩ := hrel
        by_cases hlt : j < 8
        ·
          have hjc : j = 0 ∨ j = 1 ∨ j = 2 ∨ j = 3 ∨ j = 4 ∨ j = 5 ∨ j = 6 ∨ j = 7 := by omega
          have hrl : (T ++ (be8 m.length).take j).length = s.size + 1 + z + j := by simp only [List.length_append, List.length_take, be8_len, HTL.out]; omega
          have HRZ := Lib.hid hrl
          clear hrl
          clear hjc
          have e1 : IntKind.i64.wrap (56 - 8 * (j : Int)) = 56 - 8 * (j : Int) := IntWalk.i64_in _ (by omega)
          go_wp2_with (at_builtin; refine appO (w0 := W0) B rfl (.tmp 42) (.tmp 50) 22 22 5 (.int .u8 0) 1 rfl Tryd.underlying22 Tryd.info5 rfl (by omega) _ _ rfl _ 1 [.int .u8 _] rfl (src_new wr 5 [.int .u8 _] 1 rfl Tryd.underlying22 (by simp [Value.oneCell'])) (hown.out.below ((Below.refl _ _).alloc (Nat.le_refl _) _)) (hbel.out.alloc (Nat.le_trans HW0B.out hbel.out.size) _) (by have h1 := hbel.out.size; have h2 := HW0B.out; simp; omega) (by rw [u8s_len', HRZ.out]; omega) ?_; intro v5 w5 ap5; obtain ⟨A6, c6, rfl, O6, B6⟩ := ap5.byte HRZ.out; clear ap5)
          go_roundw
          case rel => exact ⟨j + 1, c6, A6, by omega, rfl, by go_num, Lib.hid (by have := O6.out; rw [be8_take T m.length j _ hlt (by rw [HML.out]; exact be8_at s.size j hlt)] at this; exact this), B6⟩
          case measure => simp only [vlen]; omega
        · have hj8 : j = 8 := by omega
          have hji : ¬ (j : Int) < 8 := by omega
          have hrows : T ++ (be8 m.length).take j = shaP m := by
            rw [hj8, shaP, HT.out, HR.out, padOf, ← HZC.out, List.take_of_length_le (Nat.le_of_eq (be8_len _))]
            simp
          have hPl : (shaP m).length = s.size + 1 + z + j := by rw [shaP_len, ← HZC.out, HML.out]; omega
          have hP64 := shaP_mod m
          obtain ⟨P, hP⟩ : ∃ P, P = shaP m := ⟨_, rfl⟩
          have hPb : u8s_ok P := by rw [hP]; exact shaP_ok hmb
          rw [hrows, ← hP] at hown
          rw [← hP] at hPl hP64
          rw [← hPl] at hown
          rw [← hPl]
          have HPE := Lib.hid hP
          have HPL := Lib.hid hPl
          have HP6 := Lib.hid hP64
          have HPB := Lib.hid hPb
          clear hP hPl hP64 hPb hrows hj8 hj hlt wu
          have hwz : B ≤ wr.heap.size := Nat.le_trans HW0B.out hbel.out.size
          go_wp2_with (first
            | (refine wpList_store_row rfl 104 (.tmp 6) (.tmp 52) rfl wr.heap.size rfl (u32s (List.replicate 64 0)) rfl 104 (has_new wr _ _ _ rfl) Tryd.size104 (one_u32s _) ?_; intro w6 hp6; have S6 : Hid (w6.heap.size = wr.heap.size + 1) := Lib.hid (by rw [hp6.size]; simp); have H6 := Lib.hid hp6; clear hp6)
            | (refine wpList_store_row rfl 105 (.tmp 7) (.tmp 53) rfl w6.heap.size rfl (u32s St.init.list) rfl 105 (has_new w6 _ _ _ rfl) Tryd.size105 (one_u32s _) ?_; intro w7 hp7; have S7 : Hid (w7.heap.size = w6.heap.size + 1) := Lib.hid (by rw [hp7.size]; simp); have H7 := Lib.hid hp7; clear hp7)
            | (refine wpList_store_row rfl 104 (.tmp 8) (.tmp 54) rfl w7.heap.size rfl (u32s (List.replicate 64 0)) rfl 104 (has_new w7 _ _ _ rfl) Tryd.size104 (one_u32s _) ?_; intro w8 hp8; have S8 : Hid (w8.heap.size = w7.heap.size + 1) := Lib.hid (by rw [hp8.size]; simp); have H8 := Lib.hid hp8; clear hp8))
          have hrs : RS W0 B wr.heap.size w6.heap.size w7.heap.size (.slice A5 P.length c5) P w8 (List.replicate 64 0) St.init.list (List.replicate 64 0) := by
            have h6 := H6.out; have h7 := H7.out; have h8 := H8.out
            have e6 := S6.out; have e7 := S7.out; have e8 := S8.out
            have b6 : Below wr.heap.size wr w6 := h6.below ((Below.refl _ _).alloc (Nat.le_refl _) _) (Nat.le_refl _)
            have b7 : Below w6.heap.size w6 w7 := h7.below ((Below.refl _ _).alloc (Nat.le_refl _) _) (Nat.le_refl _)
            have b8 : Below w7.heap.size w7 w8 := h8.below ((Below.refl _ _).alloc (Nat.le_refl _) _) (Nat.le_refl _)
            have bb : Below wr.heap.size wr w8 := b6.trans ((b7.mono (by omega)).trans (b8.mono (by omega)))
            exact ⟨hown.out.below bb, fun k hk => (hown.out.lt k hk).2, blk_below (blk_below h6.blk b7) b8, blk_below h7.blk b8, h8.blk, hbel.out.trans (bb.mono hwz)⟩
          have HRS := Lib.hid hrs
          have HO1 : Hid (B ≤ wr.heap.size ∧ wr.heap.size < w6.heap.size ∧ w6.heap.size < w7.heap.size) := Lib.hid ⟨hwz, by have := S6.out; omega, by have := S7.out; omega⟩
          clear hrs hwz H6 H7 H8 S6 S7 S8 hown hbel
          generalize wr.heap.size = b6 at HRS HO1 ⊢
          generalize w6.heap.size = b7 at HRS HO1 ⊢
          generalize w7.heap.size = b8 at HRS HO1 ⊢
          clear hji
          generalize (Value.agg #[Value.int IntKind.u32 0, Value.int IntKind.u32 0, Value.int IntKind.u32 0, Value.int IntKind.u32 0, Value.int IntKind.u32 0, Value.int IntKind.u32 0, Value.int IntKind.u32 0, Value.int IntKind.u32 0, Value.int IntKind.u32 0, Value.int IntKind.u32 0, Value.int IntKind.u32 0, Value.int IntKind.u32 0, Value.int IntKind.u32 0, Value.int IntKind.u32 0, Value.int IntKind.u32 0, Value.int IntKind.u32 0, Value.int IntKind.u32 0, Value.int IntKind.u32 0, Value.int IntKind.u32 0, Value.int IntKind.u32 0, Value.int IntKind.u32 0, Value.int IntKind.u32 0, Value.int IntKind.u32 0, Value.int IntKind.u32 0, Value.int IntKind.u32 0, Value.int IntKind.u32 0, Value.int IntKind.u32 0, Value.int IntKind.u32 0, Value.int IntKind.u32 0, Value.int IntKind.u32 0, Value.int IntKind.u32 0, Value.int IntKind.u32 0, Value.int IntKind.u32 0, Value.int IntKind.u32 0, Value.int IntKind.u32 0, Value.int IntKind.u32 0, Value.int IntKind.u32 0, Value.int IntKind.u32 0, Value.int IntKind.u32 0, Value.int IntKind.u32 0, Value.int IntKind.u32 0, Value.int IntKind.u32 0, Value.int IntKind.u32 0, Value.int IntKind.u32 0, Value.int IntKind.u32 0, Value.int IntKind.u32 0, Value.int IntKind.u32 0, Value.int IntKind.u32 0, Value.int IntKind.u32 0, Value.int IntKind.u32 0, Value.int IntKind.u32 0, Value.int IntKind.u32 0, Value.int IntKind.u32 0, Value.int IntKind.u32 0, Value.int IntKind.u32 0, Value.int IntKind.u32 0, Value.int IntKind.u32 0, Value.int IntKind.u32 0, Value.int IntKind.u32 0, Value.int IntKind.u32 0, Value.int IntKind.u32 0, Value.int IntKind.u32 0, Value.int IntKind.u32 0, Value.int IntKind.u32 0]) = u52
          go_loopw [9, 55] (fun _ i wr => ∃ (k : Nat), k ≤ 64 ∧ i = .int .i64 (k : Int) ∧ Hid (RS W0 B b6 b7 b8 (.slice A5 P.length c5) P wr (List.replicate 64 0) St.init.list (pad 64 (kk.take k))))
            (fun _ i _ => 64 - (intOf i).toNat)
          case atStart => exact ⟨0, by omega, rfl, HRS⟩
          case round =>
            clear HRS
            obtain ⟨k, hk, rfl, hrs⟩ := hrel
            by_cases hlt : k < 64
            ·
              have hz : ∃ z, wr.cell? ⟨b8, k, none⟩ = some z := by
                have hl : (u32s (pad 64 (kk.take k))).length = 64 := by rw [u32s_len, pad_len _ _ (by rw [List.length_take]; omega)]
                exact ⟨_, blk_cell hrs.out.h8 k (u32s (pad 64 (kk.take k)))[k] (by simp)⟩
              obtain ⟨z0, d0⟩ := hz
              have d1 : wr.frozen? ⟨b8, k, none⟩ = false := blk_free hrs.out.h8 k
              have hn := hrs.out.set8 HO1.out k (kk.getD k 0)
              have hset : (pad 64 (kk.take k)).set k (kk.getD k 0) = pad 64 (kk.take (k + 1)) := by
                have hl : (kk.take k).length = k := by rw [List.length_take, kk_len]; omega
                have h := pad_set 64 (kk.take k) (kk.getD k 0) (by omega)
                rw [hl] at h
                have hkl : k < kk.length := by rw [kk_len]; exact hlt
                rw [h, List.take_succ_eq_append_getElem hkl]
                simp [List.getD_eq_getElem?_getD, hkl]
              rw [hset] at hn
              have HN := Lib.hid hn
              clear hn hset hrs
              obtain ⟨y, hy⟩ : ∃ y, y = kk.getD k 0 := ⟨_, rfl⟩
              rw [← hy] at HN
              have HY := Lib.hid hy
              clear hy
              go_wp2_with fail
              refine (k_any k hlt _).mono ?_
              rintro e w' ⟨rfl, rfl⟩
              rw [← HY.out]
              go_wp2
              go_roundw
              case rel => exact ⟨k + 1, by omega, by go_num, HN⟩
              case measure => simp [intOf]; omega
            · have hk64 : k = 64 := by omega
              have hpk : pad 64 (kk.take k) = kk := by rw [hk64, List.take_of_length_le (by rw [kk_len]; omega), pad_full _ _ kk_len]
              rw [hpk] at hrs
              clear hpk hk64
              have HRS2 := Lib.hid hrs
              clear hrs
              go_wp2
              clear hk hlt
              refine wp_frm (N := 270) (by rfl) (by rfl) fun F hF => ?_
              refine loop6 W0 B b6 b7 b8 P (List.replicate 64 0) _ HPB.out HP6.out rfl HO1.out F (hF 4 (by decide)) (hF 6 (by decide)) (hF 7 (by decide)) (hF 8 (by decide)) _ wr HRS2.out fun g2 w2 v2 rows2 ws2 q2 r2 => ?_
              refine ‹∀ (a : Act) (w : World), Code.wp Tryd.prog _ _ a w → _› _ _ ?_
              have hh2 : Has w2 w.heap.size 25 32 := HW0H.out.same (r2.bel.block _ (by have := HB.out; omega))
              refine tail28 (stN P (P.length / 64)) w.heap.size b7 g2 ((q2 2 rfl).trans (hF 2 (by decide))) ((q2 7 rfl).trans (hF 7 (by decide))) _ w2 r2.h7 hh2 fun g3 w3 w4 e2 bel3 hp4 => ?_
              have hfin : outB (stN P (P.length / 64)) 32 = sha m := by rw [HPE.out]; rfl
              have bel2 : Below w.heap.size w w2 := HW0.out.trans (r2.bel.mono (by have := HB.out; omega))
              have hl : (u8s (outB (stN P (P.length / 64)) 32)).length = 32 := by rw [u8s_len', outB_len]
              refine bodyPost_ret (v := .agg (u8s (outB (stN P (P.length / 64)) 32)).toArray) (results_cell_row rfl _ _ w.heap.size 25 _ (0, 0) _ (frm_tmp (by decide) e2) hp4.blk Tryd.underlying25 rfl (by rw [List.size_toArray, hl]; exact Tryd.size25)) rfl ⟨by rw [hfin], hp4.below (bel2.trans (bel3.mono bel2.size)) (Nat.le_refl _)⟩
end Go.Proofs.YtdedphhohiioiaaDoor
/- The law HashBytes, walked. -/
namespace Go.Proofs.YtdedphhohiioiaaDoor
open Go.RowKit

theorem run_same32 (OUT : List Int) (h : OUT.length = 32) (W : World) : (Op.equalIn 10000 25 (.agg (u8s OUT).toArray) (.agg (u8s OUT).toArray)).run Tryd.prog W = .ok true W := by
  rw [run_equalIn_bytes 9998 25 5 32 OUT OUT Tryd.underlying25 Tryd.underlying5 (by kernel_rfl) h h]
  simp
theorem take_add (bs : List Int) (i : Nat) (h : i < bs.length) : bs.take (i + 1) = bs.take i ++ [bs.getD i 0] := by
  rw [List.take_succ_eq_append_getElem h]
  simp [List.getD_eq_getElem?_getD, h]

set_option maxHeartbeats 4000000 in
set_option maxRecDepth 100000 in
theorem hashBytes_any (bs : List Int) (A : Option Addr) (n c : Nat) (w : World) (hv : Bs w (.slice A n c) bs) (hn : n = bs.length) (hk : w.rangeAt 18 0 (u32s kk)) (h18 : 18 < w.heap.size) :
    Calls Tryd.prog 6 #[.slice A n c] w fun e w' => e = .returned (.bool true) ∧ Below w.heap.size w w' := by
  have HK := Lib.hid hk
  have HV := Lib.hid hv
  have HN := Lib.hid hn
  clear hk hv hn
  by_cases hlt : 300 < n
  · go_enter Tryd.func6, Tryd.ntmps6
    go_wp2_with (refine (alive_hash _ HK.out h18).mono ?_; rintro e w1 ⟨rfl, hb1⟩)
    go_ret
    exact ⟨rfl, hb1⟩
  · have hle : n ≤ 300 := by omega
    clear hlt
    go_enter Tryd.func6, Tryd.ntmps6
    go_wp2_with fail
    refine (alive_hash _ HK.out h18).mono ?_
    rintro e w1 ⟨rfl, hb1⟩
    have BA := Lib.hid hb1
    clear hb1
    go_wp2_with fail
    refine (new_any _).mono ?_
    rintro e w2 ⟨hb, rfl, hlt, hat, hb2⟩
    have HAT := Lib.hid hat
    have HLT := Lib.hid hlt
    have HB2 := Lib.hid hb2
    clear hat hlt hb2
    go_wp2
    obtain ⟨B, hB⟩ : ∃ B, B = w1.heap.size := ⟨_, rfl⟩
    rw [← hB] at HAT HLT HB2
    have h0 : w.heap.size ≤ B := by rw [hB]; exact BA.out.size
    have hW : Below w.heap.size w w2 := BA.out.trans (HB2.out.mono h0)
    have hBz : B ≤ w2.heap.size := by have := HB2.out.size; omega
    have hB18 : 18 < B := by omega
    have HW := Lib.hid hW
    clear hB hW BA
    go_loopw [14] (fun s wr => ∃ (i : Nat) (rv : Value), i ≤ n ∧ s = .int .i64 i ∧ Hid (HashAt B wr hb (bs.take i) rv) ∧ Hid (Below B w2 wr))
      (fun s _ => n - (intOf s).toNat)
    case atStart => exact ⟨0, _, by omega, rfl, HAT, Lib.hid (Below.refl _ _)⟩
    case round =>
      clear HAT
      obtain ⟨i, rv, hi, rfl, hat, hbel⟩ := hrel
      have hsz : B ≤ wr.heap.size := Nat.le_trans hBz hbel.out.size
      have hbl : hb < wr.heap.size := blk_lt hat.out.blk
      by_cases hlt : i < n
      · have hi2 : i < bs.length := by have := HN.out; omega
        obtain ⟨b, off, c', e1, h1, h2, h3, h4⟩ := (HV.out.below HW.out).cells (by intro e; rw [e] at hi2; simp at hi2)
        obtain ⟨x, hx⟩ : ∃ x, x = bs.getD i 0 := ⟨_, rfl⟩
        obtain ⟨b', off', c'', e1', _, _, h3', _⟩ := HV.out.cells (by intro e; rw [e] at hi2; simp at hi2)
        simp only [Value.slice.injEq] at e1 e1'
        obtain ⟨rfl, -, rfl⟩ := e1
        simp only [Option.some.injEq, Addr.mk.injEq] at e1'
        obtain ⟨⟨rfl, rfl, -⟩, -, -⟩ := e1'
        have hc := (hbel.out.cell (p := ⟨b, off + i, none⟩) (by simp; omega)).trans (h4 i hi2)
        rw [← hx] at hc
        have hxb : B8 x := hx ▸ byte_at HV.out.ok i
        have htk := take_add bs i hi2
        rw [← hx] at htk
        have HTK := Lib.hid htk
        have HXB := Lib.hid hxb
        clear hx htk h1 h2 h3 h3' h4 hi2 hxb
        have hil : (i : Int) < n := by omega
        have hsm : (bs.take i).length + [x].length ≤ 1099511627776 := by have h1 := List.length_take_le i bs; simp only [List.length_cons, List.length_nil]; omega
        have hno : (Value.slice (some ⟨wr.heap.size, 0, none⟩) 1 1).ownBlock ≠ some hb := by simp only [Value.ownBlock, ne_eq, Option.some.injEq]; omega
        go_wp2_with fail
        refine (write_bs B hb (bs.take i) [x] rv (.slice (some ⟨wr.heap.size, 0, none⟩) 1 1) (wr.alloc (.cells (u8s [x]).toArray 5)) (hat.out.below ((Below.refl _ _).alloc (Nat.le_refl _) _)) (Bs.new wr [x] (fun b hb => by simp at hb; rw [hb]; exact HXB.out) (by simp) (0, 0)) hno hsm (range_below HK.out (HW.out.trans ((hbel.out.alloc hsz _).mono h0))) hB18 HLT.out).mono ?_
        rintro e w5 ⟨rfl, rv', hat', _, honly⟩
        have hb5 : Below B w2 w5 := (hbel.out.alloc hsz _).trans (honly.low (hat.out.below ((Below.refl _ _).alloc (Nat.le_refl _) _)) HLT.out (by simp; omega))
        rw [← HTK.out] at hat'
        have HA5 := Lib.hid hat'
        have HB5 := Lib.hid hb5
        clear hat' hb5 honly hc
        go_wp2
        go_roundw
        case rel => exact ⟨i + 1, rv', by omega, by go_num, HA5, HB5⟩
        case measure => simp [intOf]; omega
      · have hin : i = n := by omega
        have htk : bs.take i = bs := List.take_of_length_le (by rw [hin, HN.out]; exact Nat.le_refl _)
        rw [htk] at hat
        clear htk
        go_wp2_with fail
        refine (write_bs B hb bs [] rv (.slice none 0 0) wr hat.out Bs.nil (by simp [Value.ownBlock]) (by have := HN.out; simp; omega) (range_below HK.out (HW.out.trans (hbel.out.mono h0))) hB18 HLT.out).mono ?_
        rintro e w5 ⟨rfl, rv', hat', _, honly⟩
        rw [List.append_nil] at hat'
        have hb5 : Below w.heap.size w w5 := HW.out.trans ((hbel.out.trans (honly.low hat.out HLT.out hsz)).mono h0)
        have HA5 := Lib.hid hat'
        have HB5 := Lib.hid hb5
        clear hat' hb5 honly hat hbel hin
        obtain ⟨OUT, hOUT⟩ : ∃ o, o = sha bs := ⟨_, rfl⟩
        have hol : OUT.length = 32 := by rw [hOUT, sha_len]
        have HOUT := Lib.hid hOUT
        have hsame := run_same32 OUT hol
        clear hol hOUT
        go_wp2_with fail
        refine (sumM_any B hb bs rv' w5 HA5.out (range_below HK.out HB5.out)).mono ?_
        rintro e w6 ⟨rfl, hb6⟩
        rw [← HOUT.out]
        have hB6 : Below w.heap.size w w6 := HB5.out.trans (hb6.mono HB5.out.size)
        have HA6 := Lib.hid (HA5.out.below hb6)
        have HB6 := Lib.hid hB6
        clear hb6 hB6 HA5 HB5
        go_wp2_with fail
        refine (sumF_bs bs (.slice A n c) w6 (HV.out.below HB6.out) (by have := HN.out; omega) (range_below HK.out HB6.out) (by have := HB6.out.size; omega)).mono ?_
        rintro e w7 ⟨rfl, hb7⟩
        rw [← HOUT.out]
        have hB7 : Below w.heap.size w w7 := HB6.out.trans (hb7.mono HB6.out.size)
        have HA7 := Lib.hid (HA6.out.below hb7)
        have HB7 := Lib.hid hB7
        clear hb7 hB7 HA6 HB6
        go_wp2_with fail
        refine (sumM_any B hb bs rv' w7 HA7.out (range_below HK.out HB7.out)).mono ?_
        rintro e w8 ⟨rfl, hb8⟩
        rw [← HOUT.out]
        have hB8 : Below w.heap.size w w8 := HB7.out.trans (hb8.mono HB7.out.size)
        have HA8 := Lib.hid (HA7.out.below hb8)
        have HB8 := Lib.hid hB8
        clear hb8 hB8 HA7 HB7
        go_wp2_with fail
        refine (sumM_any B hb bs rv' w8 HA8.out (range_below HK.out HB8.out)).mono ?_
        rintro e w9 ⟨rfl, hb9⟩
        rw [← HOUT.out]
        have hB9 : Below w.heap.size w w9 := HB8.out.trans (hb9.mono HB8.out.size)
        have HB9 := Lib.hid hB9
        clear hb9 hB9 HA8 HB8
        go_wp2
        go_ret
        exact ⟨rfl, HB9.out⟩
end Go.Proofs.YtdedphhohiioiaaDoor
/- The law HashSums, walked. -/
namespace Go.Proofs.YtdedphhohiioiaaDoor
open Go.RowKit

theorem sb_str (bs : List Int) (h : u8s_ok bs) : sb (strOfNums bs) = bs := by
  unfold sb
  rw [strOfNums_data, List.map_map]
  conv => rhs; rw [← List.map_id bs]
  refine List.map_congr_left fun x hx => ?_
  have hx := h x hx
  unfold B8 at hx
  have : (UInt8.ofNat x.toNat).toNat = x.toNat := by
    rw [UInt8.toNat_ofNat']
    omega
  show ((UInt8.ofNat x.toNat).toNat : Int) = id x
  rw [this, id]
  omega

set_option maxHeartbeats 4000000 in
set_option maxRecDepth 100000 in
theorem hashSums_any (bs : List Int) (A : Option Addr) (n c : Nat) (w : World) (hv : Bs w (.slice A n c) bs) (hn : n = bs.length) (hk : w.rangeAt 18 0 (u32s kk)) (h18 : 18 < w.heap.size) :
    Calls Tryd.prog 3 #[.slice A n c] w fun e w' => e = .returned (.bool true) ∧ Below w.heap.size w w' := by
  have HK := Lib.hid hk
  have HV := Lib.hid hv
  have HN := Lib.hid hn
  clear hk hv hn
  by_cases hlt : 1000 < n
  · go_enter Tryd.func3, Tryd.ntmps3
    go_wp2_with (refine (alive_hash _ HK.out h18).mono ?_; rintro e w1 ⟨rfl, hb1⟩)
    go_ret
    exact ⟨rfl, hb1⟩
  · have hle : n ≤ 1000 := by omega
    clear hlt
    go_enter Tryd.func3, Tryd.ntmps3
    go_wp2_with fail
    refine (alive_hash _ HK.out h18).mono ?_
    rintro e w1 ⟨rfl, hb1⟩
    have B1 := Lib.hid hb1
    clear hb1
    go_wp2_with fail
    refine (bytes_any bs A n c w1 (HV.out.below B1.out) HN.out (by omega)).mono ?_
    rintro e w2 ⟨V, rfl, hr, hb2⟩
    obtain ⟨B, hB⟩ : ∃ B, B = w1.heap.size := ⟨_, rfl⟩
    rw [← hB] at hr
    have HR0 := Lib.hid hr
    have BELX : Hid (Below w.heap.size w w2) := Lib.hid (B1.out.trans (hb2.mono B1.out.size))
    have HK1 := Lib.hid (range_below HK.out BELX.out)
    have hz2 : 18 < w2.heap.size := by have := BELX.out.size; omega
    obtain ⟨SS, hSS⟩ : ∃ s, s = strOfNums bs := ⟨_, rfl⟩
    have hsb : sb SS = bs := by rw [hSS]; exact sb_str bs HV.out.ok
    have hsz : SS.size ≤ 1099511627776 := by rw [hSS, strOfNums_size, ← HN.out]; omega
    have c1 := conv_bs HV.out
    rw [← hSS] at c1
    obtain ⟨OUT, hOUT⟩ : ∃ o, o = sha bs := ⟨_, rfl⟩
    have hol : OUT.length = 32 := by rw [hOUT, sha_len]
    have hsame := run_same32 OUT hol
    have HOUT := Lib.hid hOUT
    have hor : sha (sb SS) = OUT := by rw [hsb, hOUT]
    have HOR := Lib.hid hor
    have HSZ := Lib.hid hsz
    have C1 := Lib.hid c1
    have HVB := HV
    have HLS : Hid (bs.length ≤ 1099511627776) := Lib.hid (by rw [← HN.out]; omega)
    clear hr hb2 hB hSS hsb hsz c1 hOUT hol hor B1
    go_wp2_with fail
    refine wp_region_rely (by kernel_rfl) 11 (by kernel_rfl) (by kernel_rfl) Ext Ext.refl Ext.trans (fun i => match i with
      | 0 => fun w v => v = V ∧ Roomy w B v bs
      | 1 => fun _ v => v = .agg (u8s OUT).toArray
      | 2 => fun _ v => v = .slice A n c
      | 3 => fun _ v => v = .string SS
      | 4 => fun _ v => v = .agg (u8s OUT).toArray
      | 5 => fun _ v => v = .bool true
      | 6 => fun _ v => v = .bool true
      | 7 => fun w v => v = V ∧ Roomy w B v bs
      | 8 => fun _ v => v = .slice A n c
      | 9 => fun _ v => v = .bool true
      | 10 => fun _ v => v = .bool true
      | _ => fun _ _ => False) ?_
    simp (maxSteps := 10000000) only [Rely, List.take_succ_cons, List.take_zero, List.drop_succ_cons, List.drop_zero, Nat.reduceAdd, Nat.zero_add, Act.put, List.setIfInBounds_toArray, List.set_cons_succ, List.set_cons_zero]
    refine ⟨?_, ?_, ?_, ?_, ?_, ?_, ?_, ?_, ?_, ?_, ?_, ?_⟩
    · refine step_plain rfl fun vs w1 hE hd => ?_
      exact gives_move _ V (.inl rfl) rfl ⟨Ext.refl _, fun _ h => ⟨rfl, (HR0.out.below (ext_of_drew hE)).below h⟩⟩
    · refine step_plain rfl fun vs w1 hE hd => ?_
      refine gives_call 27 Tryd.call27 _ _ rfl rfl [vs 0] rfl ?_
      refine (sumF_bs bs (vs 0) w1 ((hd.1)).2.bs HLS.out (range_below HK1.out (ext_of_drew hE)) (by have := (ext_of_drew hE).size; omega)).mono ?_
      rintro e w2 ⟨rfl, hb⟩
      exact ⟨_, rfl, hb, fun _ _ => congrArg (fun o => Value.agg (u8s o).toArray) HOUT.out.symm⟩
    · refine step_plain rfl fun vs w1 hE hd => ?_
      exact gives_move _ (.slice A n c) (.inl rfl) rfl ⟨Ext.refl _, fun _ _ => rfl⟩
    · refine step_plain rfl fun vs w1 hE hd => ?_
      exact gives_convert 22 9 _ rfl (.slice A n c) _ (show vs 2 = _ from (hd.1)) (C1.out w1 ((BELX.out).trans (Below.mono (ext_of_drew hE) BELX.out.size))) ⟨Ext.refl _, fun _ _ => rfl⟩
    · refine step_plain rfl fun vs w1 hE hd => ?_
      refine gives_call 28 Tryd.call28 _ _ rfl rfl [.string SS] (congrArg (fun x => [x]) (hd.1)) ?_
      refine (refsum_any SS HSZ.out w1).mono ?_
      rintro e w2 ⟨rfl, hb⟩
      exact ⟨_, rfl, hb, fun _ _ => congrArg (fun o => Value.agg (u8s o).toArray) HOR.out⟩
    · refine step_plain rfl fun vs w1 hE hd => ?_
      exact gives_binOp .eql 25 _ _ _ rfl (.agg (u8s OUT).toArray) (.agg (u8s OUT).toArray) (.bool true) (show vs 1 = _ from hd.1) (show vs 4 = _ from hd.2.1) (by go_simp) (by go_simp) ⟨Ext.refl _, fun _ _ => rfl⟩
    · refine step_plain rfl fun vs w1 hE hd => ?_
      exact gives_move _ (.bool true) (.inl rfl) (show vs 5 = _ from hd.1) ⟨Ext.refl _, fun _ _ => rfl⟩
    · refine step_guard 6 true 17 rfl rfl (fun _ => rfl) fun vs w1 hE hd => ⟨hd.1, ?_⟩
      exact gives_move _ V (.inl rfl) rfl ⟨Ext.refl _, fun _ h => ⟨rfl, (HR0.out.below (ext_of_drew hE)).below h⟩⟩
    · refine step_guard 6 true 17 rfl rfl (fun _ => rfl) fun vs w1 hE hd => ⟨hd.1, ?_⟩
      exact gives_move _ (.slice A n c) (.inl rfl) rfl ⟨Ext.refl _, fun _ _ => rfl⟩
    · refine step_guard 6 true 17 rfl rfl (fun _ => rfl) fun vs w1 hE hd => ⟨hd.2.2.1, ?_⟩
      refine gives_call 29 Tryd.call29 _ _ rfl rfl [vs 7, .slice A n c] (congrArg (fun x => [vs 7, x]) (hd.2.1)) ?_
      refine (kept_any bs B (vs 7) (.slice A n c) w1 ((hd.1)).2 ((HVB.out).below ((BELX.out).trans (Below.mono (ext_of_drew hE) BELX.out.size))) HLS.out).mono ?_
      rintro e w2 ⟨rfl, hb⟩
      exact ⟨_, rfl, hb, fun _ _ => rfl⟩
    · refine step_plain rfl fun vs w1 hE hd => ?_
      exact gives_pick _ _ _ (.bool true) true rfl (show vs 6 = _ from hd.1) (show vs 9 = _ from hd.2.1) ⟨Ext.refl _, fun _ _ => rfl⟩
    · intro vs w3 hE hR
      have h10 : vs 10 = .bool true := hR 10 (by omega)
      rw [h10]
      have hfin : Below w.heap.size w w3 := BELX.out.trans (Below.mono (ext_of_drew hE) BELX.out.size)
      clear hR hE h10
      go_wp2
      go_ret
      exact ⟨rfl, hfin⟩
end Go.Proofs.YtdedphhohiioiaaDoor
