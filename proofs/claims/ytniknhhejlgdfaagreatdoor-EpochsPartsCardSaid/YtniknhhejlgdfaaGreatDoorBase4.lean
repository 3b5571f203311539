/- Lemmas that laws of this seat rest on, part 4; each says its own conditions: RefR, RefG12, RefE, RefG14, RefB, RefG6, RefT, RefSum, HashSumsW, Framed, RefOf, HashOfW. -/
import Derived.Lib.SlBytesConst
import Derived.Test.YtniknhhejlgdfaaGreatDoorBase2
import Derived.Test.YtniknhhejlgdfaaGreatDoorBase3
/- The reference's sum: a round's regions. -/
namespace Go.Proofs.YtniknhhejlgdfaaGreatDoor
open Go.RowKit

set_option maxHeartbeats 1000000 in
set_option maxRecDepth 100000 in
theorem do31 (b14 : Nat) (r : St) (g : Nat → Value) (e14 : g 14 = .pointer (some ⟨b14, 0, none⟩)) (w : World) (c4 : w.cell? ⟨b14, 4, none⟩ = some (.int .u32 r.e)) (c5 : w.cell? ⟨b14, 5, none⟩ = some (.int .u32 r.f)) (c6 : w.cell? ⟨b14, 6, none⟩ = some (.int .u32 r.g)) (Q : Exit → Act → World → Prop)
    (h : ∀ i, Same (Wr 151 162 16) g i → i 16 = .int .u32 (chs r.e r.f r.g) → Q .normal (frm 270 i) w) : Code.wp Tryz.prog (refReg 31) Q (frm 270 g) w := by
  refine wp_region_lit ?_
  refine plv rfl (is_idx105 4 rfl (by omega) rfl (frm_tmp (by decide) e14) rfl) ?_
  refine plv rfl (is_load103 rfl (frm_tmp (by decide) rfl) c4) ?_
  refine plv rfl (is_idx105 5 rfl (by omega) rfl (frm_tmp (by decide) e14) rfl) ?_
  refine plv rfl (is_load103 rfl (frm_tmp (by decide) rfl) c5) ?_
  refine plv rfl (is_and rfl (frm_tmp (by decide) rfl) (frm_tmp (by decide) rfl)) ?_
  refine plv rfl (is_idx105 4 rfl (by omega) rfl (frm_tmp (by decide) e14) rfl) ?_
  refine plv rfl (is_load103 rfl (frm_tmp (by decide) rfl) c4) ?_
  refine plv rfl (is_not rfl (frm_tmp (by decide) rfl)) ?_
  refine plv rfl (is_idx105 6 rfl (by omega) rfl (frm_tmp (by decide) e14) rfl) ?_
  refine plv rfl (is_load103 rfl (frm_tmp (by decide) rfl) c6) ?_
  refine plv rfl (is_and rfl (frm_tmp (by decide) rfl) (frm_tmp (by decide) rfl)) ?_
  refine plv rfl (is_xor rfl (frm_tmp (by decide) rfl) (frm_tmp (by decide) rfl)) ?_
  refine plv rfl (is_move (.inr rfl) (frm_tmp (by decide) rfl)) ?_
  refine wpList_nil ?_
  generalize hi : updO _ (some 16) _ = i
  refine h i ?_ ?_
  · rw [← hi]; repeat (first | exact Same.refl _ _ | refine Same.some rfl _ ?_)
  · rw [← hi]; rfl
set_option maxHeartbeats 1000000 in
set_option maxRecDepth 100000 in
theorem do32 (b14 : Nat) (r : St) (g : Nat → Value) (e14 : g 14 = .pointer (some ⟨b14, 0, none⟩)) (w : World) (c0 : w.cell? ⟨b14, 0, none⟩ = some (.int .u32 r.a)) (c1 : w.cell? ⟨b14, 1, none⟩ = some (.int .u32 r.b)) (c2 : w.cell? ⟨b14, 2, none⟩ = some (.int .u32 r.c)) (Q : Exit → Act → World → Prop)
    (h : ∀ i, Same (Wr 163 179 17) g i → i 17 = .int .u32 (maj r.a r.b r.c) → Q .normal (frm 270 i) w) : Code.wp Tryz.prog (refReg 32) Q (frm 270 g) w := by
  refine wp_region_lit ?_
  refine plv rfl (is_idx105 0 rfl (by omega) rfl (frm_tmp (by decide) e14) rfl) ?_
  refine plv rfl (is_load103 rfl (frm_tmp (by decide) rfl) c0) ?_
  refine plv rfl (is_idx105 1 rfl (by omega) rfl (frm_tmp (by decide) e14) rfl) ?_
  refine plv rfl (is_load103 rfl (frm_tmp (by decide) rfl) c1) ?_
  refine plv rfl (is_and rfl (frm_tmp (by decide) rfl) (frm_tmp (by decide) rfl)) ?_
  refine plv rfl (is_idx105 0 rfl (by omega) rfl (frm_tmp (by decide) e14) rfl) ?_
  refine plv rfl (is_load103 rfl (frm_tmp (by decide) rfl) c0) ?_
  refine plv rfl (is_idx105 2 rfl (by omega) rfl (frm_tmp (by decide) e14) rfl) ?_
  refine plv rfl (is_load103 rfl (frm_tmp (by decide) rfl) c2) ?_
  refine plv rfl (is_and rfl (frm_tmp (by decide) rfl) (frm_tmp (by decide) rfl)) ?_
  refine plv rfl (is_xor rfl (frm_tmp (by decide) rfl) (frm_tmp (by decide) rfl)) ?_
  refine plv rfl (is_idx105 1 rfl (by omega) rfl (frm_tmp (by decide) e14) rfl) ?_
  refine plv rfl (is_load103 rfl (frm_tmp (by decide) rfl) c1) ?_
  refine plv rfl (is_idx105 2 rfl (by omega) rfl (frm_tmp (by decide) e14) rfl) ?_
  refine plv rfl (is_load103 rfl (frm_tmp (by decide) rfl) c2) ?_
  refine plv rfl (is_and rfl (frm_tmp (by decide) rfl) (frm_tmp (by decide) rfl)) ?_
  refine plv rfl (is_xor rfl (frm_tmp (by decide) rfl) (frm_tmp (by decide) rfl)) ?_
  refine plv rfl (is_move (.inr rfl) (frm_tmp (by decide) rfl)) ?_
  refine wpList_nil ?_
  generalize hi : updO _ (some 17) _ = i
  refine h i ?_ ?_
  · rw [← hi]; repeat (first | exact Same.refl _ _ | refine Same.some rfl _ ?_)
  · rw [← hi]; rfl
set_option maxHeartbeats 1000000 in
set_option maxRecDepth 100000 in
theorem do33 (b6 b8 b14 k : Nat) (hlt : k < 64) (r : St) (xk xw : Int) (g : Nat → Value) (e14 : g 14 = .pointer (some ⟨b14, 0, none⟩)) (e16 : g 16 = .int .u32 (chs r.e r.f r.g)) (e15 : g 15 = .int .i64 (k : Int)) (e8 : g 8 = .pointer (some ⟨b8, 0, none⟩)) (e6 : g 6 = .pointer (some ⟨b6, 0, none⟩))
    (he : U r.e) (w : World) (c4 : w.drew.cell? ⟨b14, 4, none⟩ = some (.int .u32 r.e)) (c7 : w.drew.cell? ⟨b14, 7, none⟩ = some (.int .u32 r.h)) (ck : w.drew.cell? ⟨b8, k, none⟩ = some (.int .u32 xk)) (cw : w.drew.cell? ⟨b6, k, none⟩ = some (.int .u32 xw)) (Q : Exit → Act → World → Prop)
    (h : ∀ i, Same (Wr 180 203 18) g i → i 18 = .int .u32 (r.t1 xk xw) → Q .normal (frm 270 i) w.drew) : Code.wp Tryz.prog (refReg 33) Q (frm 270 g) w := by
  refine wp_region_still_lit (by kernel_rfl) (by kernel_rfl) ?_
  change wpStill _ _ w.drew _ _ _
  refine stv rfl (is_idx105 7 rfl (by omega) rfl (frm_tmp (by decide) e14) rfl) ?_
  refine stv rfl (is_load103 rfl (frm_tmp (by decide) rfl) c7) ?_
  refine stv rfl (is_idx105 4 rfl (by omega) rfl (frm_tmp (by decide) e14) rfl) ?_
  refine stv rfl (is_load103 rfl (frm_tmp (by decide) rfl) c4) ?_
  refine stc rfl (is_call2 Tryz.call114 rfl rfl (frm_tmp (by decide) rfl) rfl (flip (right_6 _ he.1 he.2 _))) ?_
  refine stv rfl (is_idx105 4 rfl (by omega) rfl (frm_tmp (by decide) e14) rfl) ?_
  refine stv rfl (is_load103 rfl (frm_tmp (by decide) rfl) c4) ?_
  refine stc rfl (is_call2 Tryz.call114 rfl rfl (frm_tmp (by decide) rfl) rfl (flip (right_11 _ he.1 he.2 _))) ?_
  refine stv rfl (is_xor rfl (frm_tmp (by decide) rfl) (frm_tmp (by decide) rfl)) ?_
  refine stv rfl (is_idx105 4 rfl (by omega) rfl (frm_tmp (by decide) e14) rfl) ?_
  refine stv rfl (is_load103 rfl (frm_tmp (by decide) rfl) c4) ?_
  refine stc rfl (is_call2 Tryz.call114 rfl rfl (frm_tmp (by decide) rfl) rfl (flip (right_25 _ he.1 he.2 _))) ?_
  refine stv rfl (is_xor rfl (frm_tmp (by decide) rfl) (frm_tmp (by decide) rfl)) ?_
  refine stv rfl (is_add rfl (frm_tmp (by decide) rfl) (frm_tmp (by decide) rfl)) ?_
  refine stv rfl (is_move (.inl rfl) (frm_tmp (by decide) e16)) ?_
  refine stv rfl (is_add rfl (frm_tmp (by decide) rfl) (frm_tmp (by decide) rfl)) ?_
  refine stv rfl (is_move (.inl rfl) (frm_tmp (by decide) e15)) ?_
  refine stv rfl (is_idx104 k rfl hlt rfl (frm_tmp (by decide) e8) (frm_tmp (by decide) rfl)) ?_
  refine stv rfl (is_load103 rfl (frm_tmp (by decide) rfl) ck) ?_
  refine stv rfl (is_add rfl (frm_tmp (by decide) rfl) (frm_tmp (by decide) rfl)) ?_
  refine stv rfl (is_move (.inl rfl) (frm_tmp (by decide) e15)) ?_
  refine stv rfl (is_idx104 k rfl hlt rfl (frm_tmp (by decide) e6) (frm_tmp (by decide) rfl)) ?_
  refine stv rfl (is_load103 rfl (frm_tmp (by decide) rfl) cw) ?_
  refine stv rfl (is_add rfl (frm_tmp (by decide) rfl) (frm_tmp (by decide) rfl)) ?_
  refine stv rfl (is_move (.inr rfl) (frm_tmp (by decide) rfl)) ?_
  refine wpStill_nil ?_
  generalize hi : updO _ (some 18) _ = i
  refine h i ?_ ?_
  · rw [← hi]; repeat (first | exact Same.refl _ _ | refine Same.some rfl _ ?_)
  · rw [← hi, ← t1_sum]; rfl
set_option maxHeartbeats 1000000 in
set_option maxRecDepth 100000 in
theorem do34 (b14 : Nat) (r : St) (g : Nat → Value) (e14 : g 14 = .pointer (some ⟨b14, 0, none⟩)) (e17 : g 17 = .int .u32 (maj r.a r.b r.c)) (ha : U r.a) (w : World) (c0 : w.drew.cell? ⟨b14, 0, none⟩ = some (.int .u32 r.a)) (Q : Exit → Act → World → Prop)
    (h : ∀ i, Same (Wr 204 216 19) g i → i 19 = .int .u32 r.t2 → Q .normal (frm 270 i) w.drew) : Code.wp Tryz.prog (refReg 34) Q (frm 270 g) w := by
  refine wp_region_still_lit (by kernel_rfl) (by kernel_rfl) ?_
  change wpStill _ _ w.drew _ _ _
  refine stv rfl (is_idx105 0 rfl (by omega) rfl (frm_tmp (by decide) e14) rfl) ?_
  refine stv rfl (is_load103 rfl (frm_tmp (by decide) rfl) c0) ?_
  refine stc rfl (is_call2 Tryz.call114 rfl rfl (frm_tmp (by decide) rfl) rfl (flip (right_2 _ ha.1 ha.2 _))) ?_
  refine stv rfl (is_idx105 0 rfl (by omega) rfl (frm_tmp (by decide) e14) rfl) ?_
  refine stv rfl (is_load103 rfl (frm_tmp (by decide) rfl) c0) ?_
  refine stc rfl (is_call2 Tryz.call114 rfl rfl (frm_tmp (by decide) rfl) rfl (flip (right_13 _ ha.1 ha.2 _))) ?_
  refine stv rfl (is_xor rfl (frm_tmp (by decide) rfl) (frm_tmp (by decide) rfl)) ?_
  refine stv rfl (is_idx105 0 rfl (by omega) rfl (frm_tmp (by decide) e14) rfl) ?_
  refine stv rfl (is_load103 rfl (frm_tmp (by decide) rfl) c0) ?_
  refine stc rfl (is_call2 Tryz.call114 rfl rfl (frm_tmp (by decide) rfl) rfl (flip (right_22 _ ha.1 ha.2 _))) ?_
  refine stv rfl (is_xor rfl (frm_tmp (by decide) rfl) (frm_tmp (by decide) rfl)) ?_
  refine stv rfl (is_move (.inl rfl) (frm_tmp (by decide) e17)) ?_
  refine stv rfl (is_add rfl (frm_tmp (by decide) rfl) (frm_tmp (by decide) rfl)) ?_
  refine stv rfl (is_move (.inr rfl) (frm_tmp (by decide) rfl)) ?_
  refine wpStill_nil ?_
  generalize hi : updO _ (some 19) _ = i
  refine h i ?_ ?_
  · rw [← hi]; repeat (first | exact Same.refl _ _ | refine Same.some rfl _ ?_)
  · rw [← hi, ← t2_sum]; rfl
set_option maxHeartbeats 1000000 in
set_option maxRecDepth 100000 in
theorem do35 (b14 : Nat) (r r2 : St) (t1 t2 : Int) (g : Nat → Value) (e14 : g 14 = .pointer (some ⟨b14, 0, none⟩)) (e18 : g 18 = .int .u32 t1) (e19 : g 19 = .int .u32 t2) (w : World) (c0 : w.cell? ⟨b14, 0, none⟩ = some (.int .u32 r.a)) (c1 : w.cell? ⟨b14, 1, none⟩ = some (.int .u32 r.b)) (c2 : w.cell? ⟨b14, 2, none⟩ = some (.int .u32 r.c)) (c3 : w.cell? ⟨b14, 3, none⟩ = some (.int .u32 r.d)) (c4 : w.cell? ⟨b14, 4, none⟩ = some (.int .u32 r.e)) (c5 : w.cell? ⟨b14, 5, none⟩ = some (.int .u32 r.f)) (c6 : w.cell? ⟨b14, 6, none⟩ = some (.int .u32 r.g)) (hh : Has w b14 211 8)
    (hnew : [IntKind.u32.wrap (t1 + t2), r.a, r.b, r.c, IntKind.u32.wrap (r.d + t1), r.e, r.f, r.g] = r2.list) (Q : Exit → Act → World → Prop)
    (h : ∀ i w1, Same (Wr 217 236 236) g i → Put w b14 211 (u32s r2.list) w1 → Q .normal (frm 270 i) w1) : Code.wp Tryz.prog (refReg 35) Q (frm 270 g) w := by
  refine wp_region_lit ?_
  refine plv rfl (is_move (.inl rfl) (frm_tmp (by decide) e18)) ?_
  refine plv rfl (is_move (.inl rfl) (frm_tmp (by decide) e19)) ?_
  refine plv rfl (is_add rfl (frm_tmp (by decide) rfl) (frm_tmp (by decide) rfl)) ?_
  refine plv rfl (is_idx105 0 rfl (by omega) rfl (frm_tmp (by decide) e14) rfl) ?_
  refine plv rfl (is_load103 rfl (frm_tmp (by decide) rfl) c0) ?_
  refine plv rfl (is_idx105 1 rfl (by omega) rfl (frm_tmp (by decide) e14) rfl) ?_
  refine plv rfl (is_load103 rfl (frm_tmp (by decide) rfl) c1) ?_
  refine plv rfl (is_idx105 2 rfl (by omega) rfl (frm_tmp (by decide) e14) rfl) ?_
  refine plv rfl (is_load103 rfl (frm_tmp (by decide) rfl) c2) ?_
  refine plv rfl (is_idx105 3 rfl (by omega) rfl (frm_tmp (by decide) e14) rfl) ?_
  refine plv rfl (is_load103 rfl (frm_tmp (by decide) rfl) c3) ?_
  refine plv rfl (is_move (.inl rfl) (frm_tmp (by decide) e18)) ?_
  refine plv rfl (is_add rfl (frm_tmp (by decide) rfl) (frm_tmp (by decide) rfl)) ?_
  refine plv rfl (is_idx105 4 rfl (by omega) rfl (frm_tmp (by decide) e14) rfl) ?_
  refine plv rfl (is_load103 rfl (frm_tmp (by decide) rfl) c4) ?_
  refine plv rfl (is_idx105 5 rfl (by omega) rfl (frm_tmp (by decide) e14) rfl) ?_
  refine plv rfl (is_load103 rfl (frm_tmp (by decide) rfl) c5) ?_
  refine plv rfl (is_idx105 6 rfl (by omega) rfl (frm_tmp (by decide) e14) rfl) ?_
  refine plv rfl (is_load103 rfl (frm_tmp (by decide) rfl) c6) ?_
  refine plv rfl (is_build105 rfl rfl (frm_tmp (by decide) rfl) (frm_tmp (by decide) rfl) (frm_tmp (by decide) rfl) (frm_tmp (by decide) rfl) (frm_tmp (by decide) rfl) (frm_tmp (by decide) rfl) (frm_tmp (by decide) rfl) (frm_tmp (by decide) rfl)) ?_
  rw [hnew]
  refine wpList_store_row rfl 211 _ _ rfl b14 (frm_tmp (by decide) e14) (u32s r2.list) (frm_tmp (by decide) rfl) 211 hh (by kernel_rfl) (one_u32s _) ?_
  intro w1 hp
  rw [frm_put]
  refine wpList_nil ?_
  generalize hi : updO _ none _ = i
  refine h i w1 ?_ hp
  rw [← hi]; refine Same.none _ ?_; repeat (first | exact Same.refl _ _ | refine Same.some rfl _ ?_)
end Go.Proofs.YtniknhhejlgdfaaGreatDoor
/- The reference's sum: the rounds. -/
namespace Go.Proofs.YtniknhhejlgdfaaGreatDoor
open Go.RowKit

theorem in12 {a b x : Nat} {f g : Nat → Value} (h : Same (Wr a b x) f g) (h1 : 147 ≤ a) (h2 : b ≤ 236) (h3 : (15 ≤ x ∧ x ≤ 19) ∨ (147 ≤ x ∧ x ≤ 236)) : Same W12 f g := h.mono fun t ht => by
  simp only [W12, Bool.or_eq_false_iff, Bool.and_eq_false_iff, decide_eq_false_iff_not] at ht
  exact Wr_false (by omega) (by omega)
set_option maxHeartbeats 4000000 in
set_option maxRecDepth 100000 in
theorem loop12 (W0 : World) (B b6 b7 b8 b14 : Nat) (v : Value) (rows ws st : List Int) (s : St) (hsok : s.ok) (hwl : ws.length = 64) (HO1 : B ≤ b6 ∧ b6 < b7 ∧ b7 < b8)
    (f : Nat → Value) (h6 : f 6 = .pointer (some ⟨b6, 0, none⟩)) (h8 : f 8 = .pointer (some ⟨b8, 0, none⟩)) (h14 : f 14 = .pointer (some ⟨b14, 0, none⟩)) (h15 : f 15 = .int .i64 0)
    (Q : Exit → Act → World → Prop) (w : World) (hrs : RV W0 B b6 b7 b8 b14 v rows w ws st kk s.list)
    (hexit : ∀ g w', Same W12 f g → RV W0 B b6 b7 b8 b14 v rows w' ws st kk (s.rnds ws 64).list → Q (.exit 12) (frm 270 g) w') : Code.wp Tryz.prog (refLoop 12) Q (frm 270 f) w := by
  refine wp_loop (fun a w' => ∃ (g : Nat → Value) (k : Nat), a = frm 270 g ∧ k ≤ 64 ∧ Same W12 f g ∧ g 15 = .int .i64 (k : Int) ∧ RV W0 B b6 b7 b8 b14 v rows w' ws st kk (s.rnds ws k).list)
    (fun a _ => 64 - (intOf (a.eval (.tmp 15))).toNat) ⟨f, 0, rfl, by omega, Same.refl _ _, h15, hrs⟩ ?_
  rintro a wr ⟨g, k, rfl, hk, hs, e15, hrs⟩
  refine wp_seq (wp_seq ?_)
  refine wp_region_lit ?_
  refine plv rfl (is_move (.inl rfl) (frm_tmp (by decide) e15)) ?_
  refine plv rfl (is_lss rfl (frm_tmp (by decide) rfl) rfl) ?_
  refine wpList_nil ?_
  change Code.wp _ _ _ _ _
  by_cases hlt : k < 64
  · refine wp_cond_true (frm_tmp (by decide) (congrArg Value.bool (decide_eq_true (by omega)))) (wp_skip ?_)
    change Code.wp _ _ _ _ _
    refine wp_seq (wp_block (wp_seq ?_))
    obtain ⟨r, hr⟩ : ∃ r, r = s.rnds ws k := ⟨_, rfl⟩
    have hrok : r.ok := hr ▸ St.rnds_ok hsok ws k
    rw [← hr] at hrs
    have c0 : wr.cell? ⟨b14, 0, none⟩ = some (.int .u32 r.a) := hrs.cell 0 _ rfl
    have c1 : wr.cell? ⟨b14, 1, none⟩ = some (.int .u32 r.b) := hrs.cell 1 _ rfl
    have c2 : wr.cell? ⟨b14, 2, none⟩ = some (.int .u32 r.c) := hrs.cell 2 _ rfl
    have c3 : wr.cell? ⟨b14, 3, none⟩ = some (.int .u32 r.d) := hrs.cell 3 _ rfl
    have c4 : wr.cell? ⟨b14, 4, none⟩ = some (.int .u32 r.e) := hrs.cell 4 _ rfl
    have c5 : wr.cell? ⟨b14, 5, none⟩ = some (.int .u32 r.f) := hrs.cell 5 _ rfl
    have c6 : wr.cell? ⟨b14, 6, none⟩ = some (.int .u32 r.g) := hrs.cell 6 _ rfl
    have c7 : wr.cell? ⟨b14, 7, none⟩ = some (.int .u32 r.h) := hrs.cell 7 _ rfl
    have ck : wr.cell? ⟨b8, k, none⟩ = some (.int .u32 (kk.getD k 0)) := hrs.rs.cell8 k (by rw [kk_len]; exact hlt)
    have cw : wr.cell? ⟨b6, k, none⟩ = some (.int .u32 (ws.getD k 0)) := hrs.rs.cell6 k (by omega)
    generalize hg : updO _ (some 148) _ = g1
    have s1 : Same W12 f g1 := by rw [← hg]; repeat (first | exact hs | refine Same.some rfl _ ?_)
    have e1 : g1 15 = .int .i64 (k : Int) := by rw [← hg]; exact e15
    clear hg
    refine do31 b14 r g1 ((s1 14 rfl).trans h14) wr c4 c5 c6 _ fun g2 q2 e2 => ?_
    change Code.wp _ _ _ _ _
    have s2 := s1.trans (in12 q2 (by decide) (by decide) (by decide))
    refine wp_seq (do32 b14 r g2 ((s2 14 rfl).trans h14) wr c0 c1 c2 _ fun g3 q3 e3 => ?_)
    change Code.wp _ _ _ _ _
    have s3 := s2.trans (in12 q3 (by decide) (by decide) (by decide))
    refine wp_seq (do33 b6 b8 b14 k hlt r _ _ g3 ((s3 14 rfl).trans h14) ((q3 16 rfl).trans e2) ((q3 15 rfl).trans ((q2 15 rfl).trans e1)) ((s3 8 rfl).trans h8) ((s3 6 rfl).trans h6) hrok.2.2.2.2.1 wr c4 c7 ck cw _ fun g4 q4 e4 => ?_)
    change Code.wp _ _ _ _ _
    have s4 := s3.trans (in12 q4 (by decide) (by decide) (by decide))
    refine wp_seq (do34 b14 r g4 ((s4 14 rfl).trans h14) ((q4 17 rfl).trans e3) hrok.1 wr.drew c0 _ fun g5 q5 e5 => ?_)
    change Code.wp _ _ _ _ _
    have s5 := s4.trans (in12 q5 (by decide) (by decide) (by decide))
    have hnew : [IntKind.u32.wrap (r.t1 (kk.getD k 0) (ws.getD k 0) + r.t2), r.a, r.b, r.c, IntKind.u32.wrap (r.d + r.t1 (kk.getD k 0) (ws.getD k 0)), r.e, r.f, r.g] = (s.rnds ws (k + 1)).list := by
      rw [St.rnds, ← hr]
      simp only [IntKind.wrap_u32]
      rfl
    refine do35 b14 r (s.rnds ws (k + 1)) _ _ g5 ((s5 14 rfl).trans h14) ((q5 18 rfl).trans e4) e5 wr.drew.drew c0 c1 c2 c3 c4 c5 c6 ⟨(u32s r.list).toArray, rfl, hrs.h14⟩ hnew _ fun n w1 q6 hp => ?_
    change Code.wp _ _ _ _ _
    have sn := s5.trans (in12 q6 (by decide) (by decide) (by decide))
    have n15 : n 15 = .int .i64 (k : Int) := (q6 15 rfl).trans ((q5 15 rfl).trans ((q4 15 rfl).trans ((q3 15 rfl).trans ((q2 15 rfl).trans e1))))
    refine wp_region_lit ?_
    refine plv rfl (is_move (.inl rfl) (frm_tmp (by decide) n15)) ?_
    refine plv rfl (is_add rfl (frm_tmp (by decide) rfl) rfl) ?_
    refine plv rfl (is_move (.inr rfl) (frm_tmp (by decide) rfl)) ?_
    refine wpList_nil ?_
    refine ⟨⟨_, k + 1, rfl, by omega, ?_, ?_, ?_⟩, ?_⟩
    · repeat (first | exact sn | refine Same.some rfl _ ?_)
    · exact congrArg (Value.int .i64) ((i64_add _ _ (by omega) (by omega) (by omega) (by omega)).trans (by omega))
    · exact hrs.drew.drew.put HO1 hp
    · rw [frm_tmp (v := .int .i64 ((k : Int) + 1)) (by decide) (congrArg (Value.int .i64) (i64_add _ _ (by omega) (by omega) (by omega) (by omega))), frm_tmp (by decide) e15]
      simp [intOf]
      omega
  · obtain rfl : k = 64 := by omega
    refine wp_cond_false (frm_tmp (by decide) (congrArg Value.bool (decide_eq_false (by omega)))) (wp_exit ?_)
    refine hexit _ _ ?_ hrs
    repeat (first | exact hs | refine Same.some rfl _ ?_)
end Go.Proofs.YtniknhhejlgdfaaGreatDoor
/- Single operations, for the end of the reference's sum. -/
namespace Go.Proofs.YtniknhhejlgdfaaGreatDoor
open Go.RowKit

section
variable {P : Program} {ops : Array Oper} {Q : Exit → Act → World → Prop} {o : Oper} {rest : List Oper} {N : Nat} {f : Nat → Value} {w : World}
/-- The operation gives this value, and makes this world. -/
def Alc (P : Program) (o : Oper) (ρ : Operand → Value) (w : World) (V : Value) (w' : World) : Prop := (execOp ρ o).run P w = .ok (.value V) w'
theorem pla {V : Value} {w' : World} (hgd : o.guard = none) (hG : Alc P o (frm N f).eval w V w') (h : wpList P ops Q rest (frm N (updO f o.dst V)) w') : wpList P ops Q (o :: rest) (frm N f) w := by
  refine wpList_plain hgd fun K hK => ?_
  unfold Oper.wp
  rw [hG]
  refine hK _ _ ?_
  rw [frm_put]
  exact h
end
section
variable {o : Oper} {ρ : Operand → Value} {w : World}
theorem al105 (ho : o.op = .alloc 211) : Alc Tryz.prog o ρ w (.pointer (some ⟨w.heap.size, 0, none⟩)) (w.alloc (.cells (Array.replicate 8 (.int .u32 0)) 211)) := by
  unfold Alc execOp
  simp only [ho]
  go_simp
  rfl
theorem al25 (ho : o.op = .alloc 171) : Alc Tryz.prog o ρ w (.pointer (some ⟨w.heap.size, 0, none⟩)) (w.alloc (.cells (Array.replicate 32 (.int .u8 0)) 171)) := by
  unfold Alc execOp
  simp only [ho]
  go_simp
  rfl
theorem is_build25 {t : TypeId} (ht : t = 171) (ho : o.op = .build t #[]) : Val Tryz.prog o ρ w (.agg (u8s (List.replicate 32 0)).toArray) := by
  subst ht
  unfold Val execOp
  simp only [ho]
  go_simp
  rfl
theorem is_cut64 {x : Operand} {b off n c : Nat} (h1 : 64 ≤ n) (h2 : n ≤ c) (ho : o.op = .slice 137 x (some (.const (.int .i64 64))) none none) (hx : ρ x = .slice (some ⟨b, off, none⟩) n c) (hc : ρ (.const (.int .i64 64)) = .int .i64 64) :
    Val Tryz.prog o ρ w (.slice (some (if c = 64 then ⟨b, off, none⟩ else ⟨b, off + 64, none⟩)) (n - 64) (c - 64)) := by
  have g1 : (64 : Int) ≤ (n : Int) := by omega
  have g2 : (n : Int) ≤ (c : Int) := by omega
  have g3 : (64 : Int) ≤ (c : Int) := by omega
  have g4 : ¬ c = 0 := by omega
  unfold Val execOp
  simp only [ho, hx, Option.map_some, Option.map_none, hc]
  by_cases hcc : c = 64
  · subst hcc
    obtain rfl : n = 64 := by omega
    go_simp
  · go_simp
theorem is_quo4 {t t2 : TypeId} {x y : Operand} (i : Nat) (hi : i < 32) (ho : o.op = .binOp .quo t x y t2) (hx : ρ x = .int .i64 (i : Int)) (hy : ρ y = .int .i64 4) : Val Tryz.prog o ρ w (.int .i64 ((i / 4 : Nat) : Int)) := by
  have h1 : (0 : Int) ≤ (i : Int) := by omega
  have h2 : (i : Int) < 32 := by omega
  refine is_bin ho hx hy rfl ?_
  go_simp
  exact IntWalk.i64_in _ (by omega)
theorem is_rem4 {t t2 : TypeId} {x y : Operand} (i : Nat) (hi : i < 32) (ho : o.op = .binOp .rem t x y t2) (hx : ρ x = .int .i64 (i : Int)) (hy : ρ y = .int .i64 4) : Val Tryz.prog o ρ w (.int .i64 ((i % 4 : Nat) : Int)) := by
  have h1 : (0 : Int) ≤ (i : Int) := by omega
  have h2 : (i : Int) < 32 := by omega
  refine is_bin ho hx hy rfl ?_
  go_simp
  exact Int.tmod_eq_emod_of_nonneg h1
theorem is_convN {x : Operand} (n : Nat) (hn : n < 64) (ho : o.op = .convert 3 52 x) (hx : ρ x = .int .i64 (n : Int)) : Val Tryz.prog o ρ w (.int .u64 (n : Int)) := by
  have h1 : (n : Int) < 64 := by omega
  unfold Val execOp
  simp only [ho, hx]
  go_simp
  rw [IntKind.wrap_u64]
  omega
theorem is_shrN {t t2 : TypeId} {x y : Operand} {a : Int} (n : Nat) (d : Int) (hn : (n = 0 ∧ d = 1) ∨ (n = 8 ∧ d = 256) ∨ (n = 16 ∧ d = 65536) ∨ (n = 24 ∧ d = 16777216)) (ho : o.op = .binOp .shr t x y t2) (hx : ρ x = .int .u32 a) (hy : ρ y = .int .u64 (n : Int)) : Val Tryz.prog o ρ w (.int .u32 (a / d)) := by
  rcases hn with ⟨rfl, rfl⟩ | ⟨rfl, rfl⟩ | ⟨rfl, rfl⟩ | ⟨rfl, rfl⟩
  all_goals
    refine is_bin ho hx hy rfl ?_
    go_simp
theorem is_conv5 {x : Operand} {a : Int} (ho : o.op = .convert 209 5 x) (hx : ρ x = .int .u32 a) : Val Tryz.prog o ρ w (.int .u8 (a % 256)) := by
  unfold Val execOp
  simp only [ho, hx]
  go_simp
  exact IntKind.wrap_u8 a
end
theorem RV.set7 {W0 w : World} {B b6 b7 b8 b14 : Nat} {v : Value} {rows ws st tb vs : List Int} (h : RV W0 B b6 b7 b8 b14 v rows w ws st tb vs) (hB : B ≤ b6 ∧ b6 < b7 ∧ b7 < b8) (i : Nat) (x : Int) :
    RV W0 B b6 b7 b8 b14 v rows (w.setCell ⟨b7, i, none⟩ (.int .u32 x)) ws (st.set i x) tb vs :=
  ⟨h.rs.set7 hB i x, (heap_setCell_other w ⟨b7, i, none⟩ _ _ (by have := h.lt; simp; omega)).trans h.h14, h.lt⟩
def W14 (t : Nat) : Bool := Wr 237 248 20 t
def W7 (t : Nat) : Bool := t == 4 || (9 ≤ t && t ≤ 20) || (63 ≤ t && t ≤ 250)
theorem in7 {S : Nat → Bool} {f g : Nat → Value} (h : Same S f g) (hS : ∀ t, S t = true → W7 t = true) : Same W7 f g := h.mono fun t ht => by
  cases e : S t with
  | false => rfl
  | true => rw [hS t e] at ht; cases ht
theorem in7_8 : ∀ t, W8 t = true → W7 t = true := by
  intro t; simp only [W8, W7, Bool.or_eq_true, beq_iff_eq, Bool.and_eq_true, decide_eq_true_eq]; omega
theorem in7_10 : ∀ t, W10 t = true → W7 t = true := by
  intro t; simp only [W10, W7, Bool.or_eq_true, beq_iff_eq, Bool.and_eq_true, decide_eq_true_eq]; omega
theorem in7_12 : ∀ t, W12 t = true → W7 t = true := by
  intro t; simp only [W12, W7, Bool.or_eq_true, beq_iff_eq, Bool.and_eq_true, decide_eq_true_eq]; omega
theorem in7_14 : ∀ t, W14 t = true → W7 t = true := by
  intro t; simp only [W14, Wr, W7, Bool.or_eq_true, beq_iff_eq, Bool.and_eq_true, decide_eq_true_eq]; omega
end Go.Proofs.YtniknhhejlgdfaaGreatDoor
/- The reference's sum: the eight sums. -/
namespace Go.Proofs.YtniknhhejlgdfaaGreatDoor
open Go.RowKit

set_option maxHeartbeats 2000000 in
set_option maxRecDepth 100000 in
theorem loop14 (W0 : World) (B b6 b7 b8 b14 : Nat) (v : Value) (rows ws : List Int) (s r : St) (HO1 : B ≤ b6 ∧ b6 < b7 ∧ b7 < b8)
    (f : Nat → Value) (h7 : f 7 = .pointer (some ⟨b7, 0, none⟩)) (h14 : f 14 = .pointer (some ⟨b14, 0, none⟩)) (h237 : f 237 = .int .i64 0)
    (Q : Exit → Act → World → Prop) (w : World) (hrs : RV W0 B b6 b7 b8 b14 v rows w ws s.list kk r.list)
    (hexit : ∀ g w', Same W14 f g → RV W0 B b6 b7 b8 b14 v rows w' ws (s.add r).list kk r.list → Q (.exit 14) (frm 270 g) w') : Code.wp Tryz.prog (refLoop 14) Q (frm 270 f) w := by
  refine wp_loop (fun a w' => ∃ (g : Nat → Value) (i : Nat), a = frm 270 g ∧ i ≤ 8 ∧ Same W14 f g ∧ g 237 = .int .i64 (i : Int) ∧ RV W0 B b6 b7 b8 b14 v rows w' ws (over s.list (s.add r).list i) kk r.list)
    (fun a _ => 64 - (intOf (a.eval (.tmp 237))).toNat) ⟨f, 0, rfl, by omega, Same.refl _ _, h237, by rw [over_zero]; exact hrs⟩ ?_
  rintro a wr ⟨g, i, rfl, hk, hs, e237, hrs⟩
  refine wp_seq ?_
  refine wp_region_lit ?_
  refine plv rfl (is_lss rfl (frm_tmp (by decide) e237) rfl) ?_
  refine wpList_nil ?_
  change Code.wp _ _ _ _ _
  by_cases hlt : i < 8
  · refine wp_seq (wp_cond_true (frm_tmp (by decide) (congrArg Value.bool (decide_eq_true (by omega)))) (wp_skip ?_))
    change Code.wp _ _ _ _ _
    refine wp_seq (wp_block (wp_seq ?_))
    generalize hi : updO _ (some 238) _ = k
    have sk : Same W14 f k := by rw [← hi]; repeat (first | exact hs | refine Same.some rfl _ ?_)
    have k237 : k 237 = .int .i64 (i : Int) := by rw [← hi]; exact e237
    clear hi
    refine wp_region_lit ?_
    refine plv rfl (is_move (.inl rfl) (frm_tmp (by decide) k237)) ?_
    refine plv rfl (is_move (.inr rfl) (frm_tmp (by decide) rfl)) ?_
    refine wpList_nil ?_
    change Code.wp _ _ _ _ _
    generalize hi : updO _ (some 20) _ = j
    have sj : Same W14 f j := by rw [← hi]; repeat (first | exact sk | refine Same.some rfl _ ?_)
    have j20 : j 20 = .int .i64 (i : Int) := by rw [← hi]; rfl
    have j237 : j 237 = .int .i64 (i : Int) := by rw [← hi]; exact k237
    have j7 : j 7 = .pointer (some ⟨b7, 0, none⟩) := (sj 7 rfl).trans h7
    have j14 : j 14 = .pointer (some ⟨b14, 0, none⟩) := (sj 14 rfl).trans h14
    clear hi
    have hol : (over s.list (s.add r).list i).length = 8 := over_len _ _ _ 8 rfl rfl (by omega)
    have cs : wr.drew.cell? ⟨b7, i, none⟩ = some (.int .u32 (s.list.getD i 0)) := by rw [hrs.drew.rs.cell7 i (by omega), over_at _ _ _ 8 rfl rfl hlt]
    have cv : wr.drew.cell? ⟨b14, i, none⟩ = some (.int .u32 (r.list.getD i 0)) := hrs.drew.cell i _ (by
      have hl : i < r.list.length := hlt
      simp [List.getD_eq_getElem?_getD, hl])
    have q1 : wr.drew.frozen? ⟨b7, i, none⟩ = false := blk_free hrs.drew.rs.h7 i
    refine wp_region_still_tail 7 (by kernel_rfl) (by kernel_rfl) ?_
    change wpStill _ _ wr.drew _ _ _
    simp only [List.take_succ_cons, List.take_zero, List.drop_succ_cons, List.drop_zero]
    refine stv rfl (is_move (.inl rfl) (frm_tmp (by decide) j20)) ?_
    refine stv rfl (is_idx105 i rfl hlt rfl (frm_tmp (by decide) j7) (frm_tmp (by decide) rfl)) ?_
    refine stv rfl (is_load103 rfl (frm_tmp (by decide) rfl) cs) ?_
    refine stv rfl (is_move (.inl rfl) (frm_tmp (by decide) j20)) ?_
    refine stv rfl (is_idx105 i rfl hlt rfl (frm_tmp (by decide) j14) (frm_tmp (by decide) rfl)) ?_
    refine stv rfl (is_load103 rfl (frm_tmp (by decide) rfl) cv) ?_
    refine stv rfl (is_add rfl (frm_tmp (by decide) rfl) (frm_tmp (by decide) rfl)) ?_
    refine wpStill_nil ?_
    refine plv rfl (is_idx105 i rfl hlt rfl (frm_tmp (by decide) j7) (frm_tmp (by decide) rfl)) ?_
    refine plw rfl (is_store103 rfl (frm_tmp (by decide) rfl) (frm_tmp (by decide) rfl) cs q1) ?_
    refine wpList_nil ?_
    change Code.wp _ _ _ _ _
    generalize hi : updO _ none _ = n
    have sn : Same W14 f n := by rw [← hi]; refine Same.none _ ?_; repeat (first | exact sj | refine Same.some rfl _ ?_)
    have n237 : n 237 = .int .i64 (i : Int) := by rw [← hi]; exact j237
    clear hi
    refine wp_region_lit ?_
    refine plv rfl (is_add rfl (frm_tmp (by decide) n237) rfl) ?_
    refine plv rfl (is_move (.inl rfl) (frm_tmp (by decide) rfl)) ?_
    refine wpList_nil ?_
    refine ⟨⟨_, i + 1, rfl, by omega, ?_, ?_, ?_⟩, ?_⟩
    · repeat (first | exact sn | refine Same.some rfl _ ?_)
    · exact congrArg (Value.int .i64) ((i64_add _ _ (by omega) (by omega) (by omega) (by omega)).trans (by omega))
    · have h := hrs.drew.set7 HO1 i ((s.add r).list.getD i 0)
      rw [over_set _ _ _ 8 rfl rfl hlt, St.add_at s r i hlt, ← IntKind.wrap_u32] at h
      exact h
    · rw [frm_tmp (v := .int .i64 ((i : Int) + 1)) (by decide) (congrArg (Value.int .i64) (i64_add _ _ (by omega) (by omega) (by omega) (by omega))), frm_tmp (by decide) e237]
      simp [intOf]
      omega
  · obtain rfl : i = 8 := by omega
    refine wp_seq (wp_cond_false (frm_tmp (by decide) (congrArg Value.bool (decide_eq_false (by omega)))) (wp_exit ?_))
    rw [over_all _ _ 8 rfl rfl] at hrs
    refine hexit _ _ ?_ hrs
    repeat (first | exact hs | refine Same.some rfl _ ?_)
end Go.Proofs.YtniknhhejlgdfaaGreatDoor
/- The reference's sum: one block. -/
namespace Go.Proofs.YtniknhhejlgdfaaGreatDoor
open Go.RowKit

set_option maxHeartbeats 2000000 in
set_option maxRecDepth 100000 in
theorem body7 (W0 : World) (B b6 b7 b8 b off n c : Nat) (rows ws : List Int) (s : St) (hsok : s.ok) (hwl : ws.length = 64) (hrok : u8s_ok rows) (HO1 : B ≤ b6 ∧ b6 < b7 ∧ b7 < b8) (hn : rows.length = n) (hn64 : 64 ≤ n) (hnc : n ≤ c)
    (f : Nat → Value) (h4 : f 4 = .slice (some ⟨b, off, none⟩) n c) (h6 : f 6 = .pointer (some ⟨b6, 0, none⟩)) (h7 : f 7 = .pointer (some ⟨b7, 0, none⟩)) (h8 : f 8 = .pointer (some ⟨b8, 0, none⟩))
    (Q : Exit → Act → World → Prop) (w : World) (hrs : RS W0 B b6 b7 b8 (.slice (some ⟨b, off, none⟩) n c) rows w ws s.list kk)
    (hend : ∀ g w' A, Same W7 f g → g 4 = .slice A (n - 64) (c - 64) → RS W0 B b6 b7 b8 (.slice A (n - 64) (c - 64)) (rows.drop 64) w' (sch (rows.take 64)) (s.comp (rows.take 64)).list kk → Q .normal (frm 270 g) w') : Code.wp Tryz.prog (refLoop 7) Q (frm 270 f) w := by
  have hbl : (rows.take 64).length = 64 := by rw [List.length_take]; omega
  have hbb : ∀ x ∈ rows.take 64, B8 x := hrok.take 64
  have hat : ∀ i, i < 64 → rows.getD i 0 = (rows.take 64).getD i 0 := fun i hi => by simp only [List.getD_eq_getElem?_getD, List.getElem?_take, if_pos hi]
  generalize hbs : rows.take 64 = bs at *
  refine wp_seq (wp_seq ?_)
  refine wp_region_lit ?_
  refine plv rfl (is_move (.inr rfl) rfl) ?_
  refine wpList_nil ?_
  change Code.wp _ _ _ _ _
  refine wp_block (loop8 W0 B b6 b7 b8 b off n c rows ws bs s.list hwl hbb HO1 hn hn64 hat _ (by exact h4) (by exact h6) (by rfl) _ w hrs fun g1 w1 q1 r1 => ?_)
  have s1 : Same W7 f g1 := Same.trans (Same.some rfl _ (Same.refl _ _)) (in7 q1 in7_8)
  have e4 : g1 4 = .slice (some ⟨b, off, none⟩) n c := (q1 4 rfl).trans h4
  change Code.wp _ _ _ _ _
  refine wp_seq (wp_seq ?_)
  refine wp_region_lit ?_
  refine plv rfl (is_move (.inr rfl) rfl) ?_
  refine wpList_nil ?_
  change Code.wp _ _ _ _ _
  refine wp_block (loop10 W0 B b6 b7 b8 _ rows ws bs s.list hwl hbb HO1 _ (by exact (s1 6 rfl).trans h6) (by rfl) _ w1 r1 fun g2 w2 q2 r2 => ?_)
  have s2 : Same W7 f g2 := s1.trans (Same.trans (Same.some rfl _ (Same.refl _ _)) (in7 q2 in7_10))
  have e4b : g2 4 = .slice (some ⟨b, off, none⟩) n c := (q2 4 rfl).trans e4
  change Code.wp _ _ _ _ _
  refine wp_seq ?_
  refine wp_region_lit ?_
  refine wpList_load_g rfl 211 _ rfl b7 0 (frm_tmp (by decide) ((s2 7 rfl).trans h7)) (u32s s.list) _ (blk_range r2.h7) Tryz.underlying211 rfl (by kernel_rfl) ?_
  rw [frm_put]
  refine pla rfl (al105 rfl) ?_
  refine wpList_store_row rfl 211 _ _ rfl w2.heap.size (frm_tmp (by decide) rfl) (u32s s.list) (frm_tmp (by decide) rfl) 211 (has_new w2 _ _ _ rfl) (by kernel_rfl) (one_u32s _) ?_
  intro w3 hp
  rw [frm_put]
  refine wpList_nil ?_
  change Code.wp _ _ _ _ _
  generalize hi : updO _ none _ = g3
  have s3 : Same W7 f g3 := by rw [← hi]; refine Same.none _ ?_; repeat (first | exact s2 | refine Same.some rfl _ ?_)
  have e14 : g3 14 = .pointer (some ⟨w2.heap.size, 0, none⟩) := by rw [← hi]; rfl
  have e4c : g3 4 = .slice (some ⟨b, off, none⟩) n c := by rw [← hi]; exact e4b
  clear hi
  have hb8 : b8 < w2.heap.size := blk_lt r2.h8
  have r3 : RV W0 B b6 b7 b8 w2.heap.size (.slice (some ⟨b, off, none⟩) n c) rows w3 (sch bs) s.list kk s.list :=
    ⟨(r2.below ((Below.refl _ _).alloc (Nat.le_refl _) _) (by omega)).put HO1 hb8 hp, hp.blk, hb8⟩
  refine wp_seq (wp_seq ?_)
  refine wp_region_lit ?_
  refine plv rfl (is_move (.inr rfl) rfl) ?_
  refine wpList_nil ?_
  change Code.wp _ _ _ _ _
  refine wp_block (loop12 W0 B b6 b7 b8 w2.heap.size _ rows (sch bs) s.list s hsok (sch_len bs) HO1 _ (by exact (s3 6 rfl).trans h6) (by exact (s3 8 rfl).trans h8) (by exact e14) (by rfl) _ w3 r3 fun g4 w4 q4 r4 => ?_)
  have s4 : Same W7 f g4 := s3.trans (Same.trans (Same.some rfl _ (Same.refl _ _)) (in7 q4 in7_12))
  have e4d : g4 4 = .slice (some ⟨b, off, none⟩) n c := (q4 4 rfl).trans e4c
  have e14b : g4 14 = .pointer (some ⟨w2.heap.size, 0, none⟩) := (q4 14 rfl).trans e14
  change Code.wp _ _ _ _ _
  refine wp_seq (wp_seq ?_)
  refine wp_region_lit ?_
  refine plv rfl (is_move (.inl rfl) rfl) ?_
  refine wpList_nil ?_
  change Code.wp _ _ _ _ _
  refine wp_block (loop14 W0 B b6 b7 b8 w2.heap.size _ rows (sch bs) s (s.rnds (sch bs) 64) HO1 _ (by exact (s4 7 rfl).trans h7) (by exact e14b) (by rfl) _ w4 r4 fun g5 w5 q5 r5 => ?_)
  have s5 : Same W7 f g5 := s4.trans (Same.trans (Same.some rfl _ (Same.refl _ _)) (in7 q5 in7_14))
  have e4e : g5 4 = .slice (some ⟨b, off, none⟩) n c := (q5 4 rfl).trans e4d
  change Code.wp _ _ _ _ _
  refine wp_region_lit ?_
  refine plv rfl (is_move (.inl rfl) (frm_tmp (by decide) e4e)) ?_
  refine plv rfl (is_cut64 hn64 hnc rfl (frm_tmp (by decide) rfl) rfl) ?_
  refine plv rfl (is_move (.inr rfl) (frm_tmp (by decide) rfl)) ?_
  refine wpList_nil ?_
  refine hend _ _ _ ?_ rfl ?_
  · repeat (first | exact s5 | refine Same.some rfl _ ?_)
  · have hd := r5.rs.own.drop (k := 64) (by rw [u8s_len']; omega)
    rw [u8s, ← List.map_drop] at hd
    refine ⟨hd, fun k hk => r5.rs.glt k ?_, r5.rs.h6, r5.rs.h7, r5.rs.h8, r5.rs.bel⟩
    by_cases hc : c = 64 <;> simpa [Value.ownBlock, hc] using hk
end Go.Proofs.YtniknhhejlgdfaaGreatDoor
/- The reference's sum: all blocks. -/
namespace Go.Proofs.YtniknhhejlgdfaaGreatDoor
open Go.RowKit

set_option maxHeartbeats 2000000 in
set_option maxRecDepth 100000 in
theorem loop6 (W0 : World) (B b6 b7 b8 : Nat) (P ws0 : List Int) (v0 : Value) (hP : u8s_ok P) (h64 : P.length % 64 = 0) (hwl0 : ws0.length = 64) (HO1 : B ≤ b6 ∧ b6 < b7 ∧ b7 < b8)
    (f : Nat → Value) (h4 : f 4 = v0) (h6 : f 6 = .pointer (some ⟨b6, 0, none⟩)) (h7 : f 7 = .pointer (some ⟨b7, 0, none⟩)) (h8 : f 8 = .pointer (some ⟨b8, 0, none⟩))
    (Q : Exit → Act → World → Prop) (w : World) (hrs : RS W0 B b6 b7 b8 v0 P w ws0 St.init.list kk)
    (hexit : ∀ g w' v rows ws, Same W7 f g → RS W0 B b6 b7 b8 v rows w' ws (stN P (P.length / 64)).list kk → Q (.exit 6) (frm 270 g) w') : Code.wp Tryz.prog (refLoop 6) Q (frm 270 f) w := by
  refine wp_loop (fun a w' => ∃ (g : Nat → Value) (q k c : Nat) (A : Option Addr) (ws : List Int), a = frm 270 g ∧ 64 * q + k = P.length ∧ Same W7 f g ∧ g 4 = .slice A k c ∧ ws.length = 64 ∧ RS W0 B b6 b7 b8 (.slice A k c) (P.drop (64 * q)) w' ws (stN P q).list kk)
    (fun a _ => vlen (a.eval (.tmp 4))) ?_ ?_
  · obtain ⟨A, c, rfl, _⟩ := hrs.own.len
    rw [u8s_len'] at h4 hrs
    exact ⟨f, 0, P.length, c, A, ws0, rfl, by omega, Same.refl _ _, h4, hwl0, hrs⟩
  rintro a wr ⟨g, q, k, c, A, ws, rfl, hq, hs, e4, hwl, hrs⟩
  have hlen : (P.drop (64 * q)).length = k := by rw [List.length_drop]; omega
  refine wp_seq (wp_seq ?_)
  refine wp_region_lit ?_
  refine plv rfl (is_move (.inl rfl) (frm_tmp (by decide) e4)) ?_
  refine plv rfl (is_len22 rfl (frm_tmp (by decide) rfl)) ?_
  refine plv rfl (is_gtr rfl (frm_tmp (by decide) rfl) rfl) ?_
  refine wpList_nil ?_
  change Code.wp _ _ _ _ _
  by_cases hlt : 0 < k
  · refine wp_cond_true (frm_tmp (by decide) (congrArg Value.bool (decide_eq_true (by omega)))) (wp_skip ?_)
    change Code.wp _ _ _ _ _
    obtain ⟨b, off, c', he, hnc, _, _⟩ := hrs.own.row (by rw [u8s_len']; omega)
    rw [u8s_len', hlen] at he hnc
    simp only [Value.slice.injEq] at he
    obtain ⟨rfl, -, rfl⟩ := he
    refine wp_block (body7 W0 B b6 b7 b8 b off k c (P.drop (64 * q)) ws (stN P q) (stN_ok P q) hwl (hP.drop _) HO1 hlen (by omega) hnc _ (by exact e4) (by exact (hs 6 rfl).trans h6) (by exact (hs 7 rfl).trans h7) (by exact (hs 8 rfl).trans h8) _ wr hrs fun g2 w2 A2 q2 e42 r2 => ?_)
    refine ⟨⟨g2, q + 1, k - 64, c - 64, A2, sch ((P.drop (64 * q)).take 64), rfl, by omega, ?_, e42, sch_len _, ?_⟩, ?_⟩
    · refine Same.trans ?_ q2
      repeat (first | exact hs | refine Same.some rfl _ ?_)
    · rw [List.drop_drop] at r2
      exact r2
    · rw [frm_tmp (by decide) e42, frm_tmp (by decide) e4]
      simp only [vlen]
      omega
  · obtain rfl : k = 0 := by omega
    refine wp_cond_false (frm_tmp (by decide) (congrArg Value.bool (decide_eq_false (by omega)))) (wp_exit ?_)
    obtain rfl : q = P.length / 64 := by omega
    refine hexit _ _ _ _ _ ?_ hrs
    repeat (first | exact hs | refine Same.some rfl _ ?_)
end Go.Proofs.YtniknhhejlgdfaaGreatDoor
/- The reference's sum: its end. -/
namespace Go.Proofs.YtniknhhejlgdfaaGreatDoor
open Go.RowKit

def W16 (t : Nat) : Bool := Wr 252 268 22 t
def behind (id : Nat) : Code → Option Code
  | .seq (.block i _) b => if i = id then some b else behind id b
  | .seq _ b => behind id b
  | _ => none
noncomputable def refTail : Code := (Tryz.f90.body.bind (behind 6)).getD .skip

set_option maxHeartbeats 2000000 in
set_option maxRecDepth 100000 in
theorem loop16 (S : St) (b7 b21 : Nat) (hlt7 : b7 < b21) (f : Nat → Value) (h7 : f 7 = .pointer (some ⟨b7, 0, none⟩)) (h21 : f 21 = .pointer (some ⟨b21, 0, none⟩)) (h252 : f 252 = .int .i64 0)
    (Q : Exit → Act → World → Prop) (w : World) (hb7 : w.heap[b7]? = some (.cells (u32s S.list).toArray 211 (0, 0))) (hb21 : w.heap[b21]? = some (.cells (u8s (pad 32 (outB S 0))).toArray 171 (0, 0)))
    (hexit : ∀ g w', Same W16 f g → Below b21 w w' → w'.heap[b21]? = some (.cells (u8s (outB S 32)).toArray 171 (0, 0)) → Q (.exit 16) (frm 270 g) w') : Code.wp Tryz.prog (refLoop 16) Q (frm 270 f) w := by
  refine wp_loop (fun a w' => ∃ (g : Nat → Value) (i : Nat), a = frm 270 g ∧ i ≤ 32 ∧ Same W16 f g ∧ g 252 = .int .i64 (i : Int) ∧ Below b21 w w' ∧ w'.heap[b21]? = some (.cells (u8s (pad 32 (outB S i))).toArray 171 (0, 0)))
    (fun a _ => 64 - (intOf (a.eval (.tmp 252))).toNat) ⟨f, 0, rfl, by omega, Same.refl _ _, h252, Below.refl _ _, hb21⟩ ?_
  rintro a wr ⟨g, i, rfl, hk, hs, e252, hbel, hbk⟩
  refine wp_seq ?_
  refine wp_region_lit ?_
  refine plv rfl (is_lss rfl (frm_tmp (by decide) e252) rfl) ?_
  refine wpList_nil ?_
  change Code.wp _ _ _ _ _
  by_cases hlt : i < 32
  · refine wp_seq (wp_cond_true (frm_tmp (by decide) (congrArg Value.bool (decide_eq_true (by omega)))) (wp_skip ?_))
    change Code.wp _ _ _ _ _
    refine wp_seq (wp_block (wp_seq ?_))
    generalize hi : updO _ (some 253) _ = k
    have sk : Same W16 f k := by rw [← hi]; repeat (first | exact hs | refine Same.some rfl _ ?_)
    have k252 : k 252 = .int .i64 (i : Int) := by rw [← hi]; exact e252
    clear hi
    refine wp_region_lit ?_
    refine plv rfl (is_move (.inl rfl) (frm_tmp (by decide) k252)) ?_
    refine plv rfl (is_move (.inr rfl) (frm_tmp (by decide) rfl)) ?_
    refine wpList_nil ?_
    change Code.wp _ _ _ _ _
    generalize hi : updO _ (some 22) _ = j
    have sj : Same W16 f j := by rw [← hi]; repeat (first | exact sk | refine Same.some rfl _ ?_)
    have j22 : j 22 = .int .i64 (i : Int) := by rw [← hi]; rfl
    have j252 : j 252 = .int .i64 (i : Int) := by rw [← hi]; exact k252
    have j7 : j 7 = .pointer (some ⟨b7, 0, none⟩) := (sj 7 rfl).trans h7
    have j21 : j 21 = .pointer (some ⟨b21, 0, none⟩) := (sj 21 rfl).trans h21
    clear hi
    obtain ⟨y, hy⟩ : ∃ y, y = S.list.getD (i / 4) 0 := ⟨_, rfl⟩
    have cy : wr.cell? ⟨b7, i / 4, none⟩ = some (.int .u32 y) := blk_cell ((hbel.block _ hlt7).trans hb7) (i / 4) _ (by rw [hy]; exact u32s_at S.list (i / 4) (show i / 4 < 8 by omega))
    have hpl : (u8s (pad 32 (outB S i))).length = 32 := by rw [u8s_len', pad_len _ _ (by rw [outB_len]; omega)]
    have hil : i < (u8s (pad 32 (outB S i))).length := by omega
    have cz : wr.cell? ⟨b21, i, none⟩ = some (u8s (pad 32 (outB S i)))[i] := blk_cell hbk i _ (by simp)
    have qz : wr.frozen? ⟨b21, i, none⟩ = false := blk_free hbk i
    have hcalc : IntKind.i64.wrap (24 - IntKind.i64.wrap (8 * ((i % 4 : Nat) : Int))) = ((24 - 8 * (i % 4) : Nat) : Int) := by
      rw [i64_mul _ _ (by omega) (by omega) (by omega) (by omega), i64_sub _ _ (by omega) (by omega) (by omega) (by omega)]
      omega
    obtain ⟨D, hD, hDo⟩ : ∃ D : Int, ((24 - 8 * (i % 4) = 0 ∧ D = 1) ∨ (24 - 8 * (i % 4) = 8 ∧ D = 256) ∨ (24 - 8 * (i % 4) = 16 ∧ D = 65536) ∨ (24 - 8 * (i % 4) = 24 ∧ D = 16777216)) ∧ y / D % 256 = outAt S i := by
      have : i % 4 = 0 ∨ i % 4 = 1 ∨ i % 4 = 2 ∨ i % 4 = 3 := by omega
      unfold outAt
      rw [← hy]
      rcases this with h | h | h | h
      · exact ⟨16777216, by omega, by simp [h]⟩
      · exact ⟨65536, by omega, by simp [h]⟩
      · exact ⟨256, by omega, by simp [h]⟩
      · exact ⟨1, by omega, by simp [h]⟩
    refine wp_region_lit ?_
    refine plv rfl (is_move (.inl rfl) (frm_tmp (by decide) j22)) ?_
    refine plv rfl (is_move (.inl rfl) (frm_tmp (by decide) j22)) ?_
    refine plv rfl (is_quo4 i hlt rfl (frm_tmp (by decide) rfl) rfl) ?_
    refine plv rfl (is_idx105 (i / 4) rfl (by omega) rfl (frm_tmp (by decide) j7) (frm_tmp (by decide) rfl)) ?_
    refine plv rfl (is_load103 rfl (frm_tmp (by decide) rfl) cy) ?_
    refine plv rfl (is_move (.inl rfl) (frm_tmp (by decide) j22)) ?_
    refine plv rfl (is_rem4 i hlt rfl (frm_tmp (by decide) rfl) rfl) ?_
    refine plv rfl (is_mul rfl rfl (frm_tmp (by decide) rfl)) ?_
    refine plv rfl (is_sub rfl rfl (frm_tmp (by decide) rfl)) ?_
    refine plv rfl (is_convN (24 - 8 * (i % 4)) (by omega) rfl (frm_tmp (by decide) (congrArg (Value.int .i64) hcalc))) ?_
    refine plv rfl (is_shrN (24 - 8 * (i % 4)) D hD rfl (frm_tmp (by decide) rfl) (frm_tmp (by decide) rfl)) ?_
    refine plv rfl (is_conv5 rfl (frm_tmp (by decide) rfl)) ?_
    refine plv rfl (is_idx25 i rfl hlt rfl (frm_tmp (by decide) j21) (frm_tmp (by decide) rfl)) ?_
    refine plw rfl (is_store5 rfl (frm_tmp (by decide) rfl) (frm_tmp (by decide) rfl) cz qz) ?_
    refine wpList_nil ?_
    change Code.wp _ _ _ _ _
    generalize hi : updO _ none _ = n
    have sn : Same W16 f n := by rw [← hi]; refine Same.none _ ?_; repeat (first | exact sj | refine Same.some rfl _ ?_)
    have n252 : n 252 = .int .i64 (i : Int) := by rw [← hi]; exact j252
    clear hi
    refine wp_region_lit ?_
    refine plv rfl (is_add rfl (frm_tmp (by decide) n252) rfl) ?_
    refine plv rfl (is_move (.inl rfl) (frm_tmp (by decide) rfl)) ?_
    refine wpList_nil ?_
    refine ⟨⟨_, i + 1, rfl, by omega, ?_, ?_, hbel.setCell (Nat.le_refl _) _, ?_⟩, ?_⟩
    · repeat (first | exact sn | refine Same.some rfl _ ?_)
    · exact congrArg (Value.int .i64) ((i64_add _ _ (by omega) (by omega) (by omega) (by omega)).trans (by omega))
    · have h := pad_set 32 (outB S i) (outAt S i) (by rw [outB_len]; omega)
      rw [outB_len] at h
      rw [outB_succ, ← h, hDo, u8s, List.map_set]
      exact blk_set hbk i _
    · rw [frm_tmp (v := .int .i64 ((i : Int) + 1)) (by decide) (congrArg (Value.int .i64) (i64_add _ _ (by omega) (by omega) (by omega) (by omega))), frm_tmp (by decide) e252]
      simp [intOf]
      omega
  · obtain rfl : i = 32 := by omega
    refine wp_seq (wp_cond_false (frm_tmp (by decide) (congrArg Value.bool (decide_eq_false (by omega)))) (wp_exit ?_))
    rw [pad_full _ _ (outB_len _ _)] at hbk
    refine hexit _ _ ?_ hbel hbk
    repeat (first | exact hs | refine Same.some rfl _ ?_)

set_option maxHeartbeats 2000000 in
set_option maxRecDepth 100000 in
theorem tail28 (S : St) (b2 b7 : Nat) (f : Nat → Value) (h2 : f 2 = .pointer (some ⟨b2, 0, none⟩)) (h7 : f 7 = .pointer (some ⟨b7, 0, none⟩))
    (Q : Exit → Act → World → Prop) (w : World) (hb7 : w.heap[b7]? = some (.cells (u32s S.list).toArray 211 (0, 0))) (hb2 : Has w b2 171 32)
    (hret : ∀ g w1 w2, g 2 = .pointer (some ⟨b2, 0, none⟩) → Below w.heap.size w w1 → Put w1 b2 171 (u8s (outB S 32)) w2 → Q .ret (frm 270 g) w2) : Code.wp Tryz.prog refTail Q (frm 270 f) w := by
  refine wp_seq ?_
  refine wp_region_lit ?_
  refine plv rfl (is_build25 rfl rfl) ?_
  refine pla rfl (al25 rfl) ?_
  refine wpList_store_row rfl 171 _ _ rfl w.heap.size (frm_tmp (by decide) rfl) (u8s (List.replicate 32 0)) (frm_tmp (by decide) rfl) 171 (has_new w _ _ _ rfl) (by kernel_rfl) (one_u8s _) ?_
  intro w1 hp
  rw [frm_put]
  refine wpList_nil ?_
  change Code.wp _ _ _ _ _
  generalize hi : updO _ none _ = k
  have k2 : k 2 = .pointer (some ⟨b2, 0, none⟩) := by rw [← hi]; exact h2
  have k7 : k 7 = .pointer (some ⟨b7, 0, none⟩) := by rw [← hi]; exact h7
  have k21 : k 21 = .pointer (some ⟨w.heap.size, 0, none⟩) := by rw [← hi]; rfl
  clear hi
  have bel1 : Below w.heap.size w w1 := hp.below ((Below.refl _ _).alloc (Nat.le_refl _) _) (Nat.le_refl _)
  have hlt7 : b7 < w.heap.size := blk_lt hb7
  refine wp_seq (wp_seq ?_)
  refine wp_region_lit ?_
  refine plv rfl (is_move (.inl rfl) rfl) ?_
  refine wpList_nil ?_
  change Code.wp _ _ _ _ _
  refine wp_block (loop16 S b7 w.heap.size hlt7 _ (by exact k7) (by exact k21) (by rfl) _ w1 ((bel1.block _ hlt7).trans hb7) hp.blk fun g2 w2 q2 bel2 hb21 => ?_)
  change Code.wp _ _ _ _ _
  have g21 : g2 21 = .pointer (some ⟨w.heap.size, 0, none⟩) := (q2 21 rfl).trans k21
  have g22 : g2 2 = .pointer (some ⟨b2, 0, none⟩) := (q2 2 rfl).trans k2
  have hl : (u8s (outB S 32)).length = 32 := by rw [u8s_len', outB_len]
  have hi25 : (Tryz.prog.info? 171).map (·.size) = some (u8s (outB S 32)).length := by rw [hl]; exact Tryz.size171
  refine wp_seq ?_
  refine wp_region_lit ?_
  refine wpList_load_g rfl 171 _ rfl w.heap.size 0 (frm_tmp (by decide) g21) (u8s (outB S 32)) _ (blk_range hb21) Tryz.underlying171 rfl hi25 ?_
  rw [frm_put]
  have hh : Has w2 b2 171 (u8s (outB S 32)).length := by rw [hl]; exact (hb2.below bel1).same (bel2.block _ hb2.lt)
  refine wpList_store_row rfl 171 _ _ rfl b2 (frm_tmp (by decide) g22) (u8s (outB S 32)) (frm_tmp (by decide) rfl) 171 hh hi25 (one_u8s _) ?_
  intro w3 hp3
  rw [frm_put]
  refine wpList_nil ?_
  change Code.wp _ _ _ _ _
  exact wp_ret (hret _ w2 w3 g22 (bel1.trans bel2) hp3)
end Go.Proofs.YtniknhhejlgdfaaGreatDoor
/- What the reference's sum does. -/
namespace Go.Proofs.YtniknhhejlgdfaaGreatDoor
open Go.RowKit

theorem wp_frm {P : Program} {c : Code} {Q : Exit → Act → World → Prop} {N : Nat} {a : Act} {w : World} (hd : a.defers = []) (hs : a.tmps.size = N) (h : ∀ f, (∀ t, t < N → f t = a.tmps.getD t undef) → Code.wp P c Q (frm N f) w) : Code.wp P c Q a w := by
  have e := frm_of a hd
  rw [hs] at e
  rw [e]
  exact h _ fun t _ => rfl

set_option maxHeartbeats 8000000 in
set_option maxRecDepth 100000 in
theorem refsum_any (s : ByteArray) (hs : s.size ≤ 1099511627776) (w : World) :
    Calls Tryz.prog 90 #[.string s] w fun e w' => e = .returned (.agg (u8s (sha (sb s))).toArray) ∧ Below w.heap.size w w' := by
  obtain ⟨m, hm⟩ : ∃ m, m = sb s := ⟨_, rfl⟩
  have hml : m.length = s.size := by rw [hm, sb_len]
  have hmb : u8s_ok m := hm ▸ sb_ok s
  rw [← hm]
  have wu : IntKind.u64.wrap ((s.size : Int) * 8) = (s.size : Int) * 8 := by rw [IntKind.wrap_u64]; omega
  have HM := Lib.hid hm
  have HML := Lib.hid hml
  clear hm hml
  obtain ⟨B, hB⟩ : ∃ B, B = w.heap.size + 1 := ⟨_, rfl⟩
  have HB := Lib.hid hB
  clear hB
  go_enter Tryz.func90, Tryz.ntmps90
  go_loud (go_wp2_with (first
    | (refine wpList_conv_own B rfl 9 137 5 (.tmp 27) rfl s rfl Tryz.underlying9 Tryz.underlying137 Tryz.underlying5 (by omega) (Below.refl _ _) (by have := HB.out; simp; omega) ?_; intro A2 c2 w2 own2 bel2; have hz2 : B ≤ w2.heap.size := (by have h1 := bel2.size; have h2 := HB.out; simp at h1; omega); have O2 := Lib.hid own2; have B2 := Lib.hid bel2; clear own2 bel2)
    | (at_builtin; refine appO B rfl (.tmp 28) (.tmp 29) 137 137 5 (.int .u8 0) 1 rfl Tryz.underlying137 Tryz.info5 rfl (by omega) _ _ rfl _ 1 [.int .u8 128] rfl (src_new w2 5 [.int .u8 128] 1 rfl Tryz.underlying137 (by simp [Value.oneCell'])) (O2.out.below ((Below.refl _ _).alloc (Nat.le_refl _) _)) (B2.out.alloc hz2 _) (by simp; omega) (by rw [u8s_len', sb_len]; omega) ?_; intro v3 w3 ap3; obtain ⟨A3, c3, rfl, O3, B3⟩ := ap3.byte (n := s.size) (sb_len s); clear ap3)))
  have hW0 : ∃ W0 : World, Below w.heap.size w W0 ∧ Has W0 w.heap.size 171 32 ∧ B ≤ W0.heap.size ∧ Below B W0 w3 := ⟨_, (Below.refl _ _).alloc (Nat.le_refl _) _, has_new w _ _ _ rfl, by have := HB.out; simp; omega, B3.out⟩
  obtain ⟨W0, w01, w02, w03, w04⟩ := hW0
  have HW0 := Lib.hid w01
  have HW0H := Lib.hid w02
  have HW0B := Lib.hid w03
  have hbel := Lib.hid w04
  clear w01 w02 w03 w04 B3 B2 O2
  obtain ⟨R, hR⟩ : ∃ R, R = m ++ [128] := ⟨_, rfl⟩
  rw [← HM.out, ← hR] at O3
  have hRl : R.length = s.size + 1 := by rw [hR, List.length_append, HML.out]; rfl
  have HR := Lib.hid hR
  have HRL := Lib.hid hRl
  clear hR hRl
  obtain ⟨Z, hZ⟩ : ∃ z, z = zc m.length := ⟨_, rfl⟩
  have HZC := Lib.hid hZ
  clear hZ
  go_loopw [4] (fun v wr => ∃ (z c : Nat) (A : Option Addr), z ≤ Z ∧ v = Value.slice A (s.size + 1 + z) c ∧ Hid (OwnO wr B 5 v (u8s (R ++ List.replicate z 0))) ∧ Hid (Below B W0 wr))
    (fun v _ => s.size + 65 - vlen v)
  case atStart => exact ⟨0, c3, A3, by omega, rfl, Lib.hid (by simpa using O3.out), hbel⟩
  case round =>
    clear O3 hbel
    obtain ⟨z, c4, A4, hz, rfl, hown, hbel⟩ := hrel
    have hz64 : z < 64 := by have := HZC.out; unfold zc at this; omega
    have hmod : ((s.size + 1 + z) % 64 = 56) ↔ z = Z := by
      rw [HZC.out, ← zc_at m.length z (by rw [← HZC.out]; exact hz), HML.out]
    by_cases hlt : z < Z
    ·
      have hmi : ¬ ((s.size : Int) + 1 + z) % 64 = 56 := by omega
      have hrl : (R ++ List.replicate z 0).length = s.size + 1 + z := by simp only [List.length_append, HRL.out, List.length_replicate]
      have HRZ := Lib.hid hrl
      clear hrl hmod
      go_wp2_with (at_builtin; refine appO (w0 := W0) B rfl (.tmp 35) (.tmp 36) 137 137 5 (.int .u8 0) 1 rfl Tryz.underlying137 Tryz.info5 rfl (by omega) _ _ rfl _ 1 [.int .u8 0] rfl (src_new wr 5 [.int .u8 0] 1 rfl Tryz.underlying137 (by simp [Value.oneCell'])) (hown.out.below ((Below.refl _ _).alloc (Nat.le_refl _) _)) (hbel.out.alloc (Nat.le_trans HW0B.out hbel.out.size) _) (by have h1 := hbel.out.size; have h2 := HW0B.out; simp; omega) (by rw [u8s_len', HRZ.out]; omega) ?_; intro v5 w5 ap5; obtain ⟨A5, c5, rfl, O5, B5⟩ := ap5.byte HRZ.out; clear ap5)
      go_roundw
      case rel => exact ⟨z + 1, c5, A5, by omega, rfl, Lib.hid (by simpa [List.replicate_succ'] using O5.out), B5⟩
      case measure => simp only [vlen]; omega
    · have hmi : ((s.size : Int) + 1 + z) % 64 = 56 := by omega
      obtain rfl : z = Z := by omega
      clear hmod
      go_wp2
      clear hmi hlt hz
      obtain ⟨wo, rfl⟩ : ∃ wo : World, wo = wr := ⟨_, rfl⟩
      obtain ⟨T, hT⟩ : ∃ T, T = R ++ List.replicate z 0 := ⟨_, rfl⟩
      rw [← hT] at hown
      have hTl : T.length = s.size + 1 + z := by rw [hT]; simp only [List.length_append, HRL.out, List.length_replicate]
      have HT := Lib.hid hT
      have HTL := Lib.hid hTl
      clear hT hTl
      go_loopw [4, 5] (fun v i wr => ∃ (j c : Nat) (A : Option Addr), j ≤ 8 ∧ v = Value.slice A (s.size + 1 + z + j) c ∧ i = .int .i64 (j : Int) ∧ Hid (OwnO wr B 5 v (u8s (T ++ (be8 m.length).take j))) ∧ Hid (Below B W0 wr))
        (fun v _ _ => s.size + 1 + z + 8 - vlen v)
      case atStart => exact ⟨0, c4, A4, by omega, rfl, rfl, Lib.hid (by simpa using hown.out), hbel⟩
      case round =>
        clear hown hbel
        obtain ⟨j, c5, A5, hj, rfl, rfl, hown, hbel⟩ := hrel
        by_cases hlt : j < 8
        ·
          have hjc : j = 0 ∨ j = 1 ∨ j = 2 ∨ j = 3 ∨ j = 4 ∨ j = 5 ∨ j = 6 ∨ j = 7 := by omega
          have hrl : (T ++ (be8 m.length).take j).length = s.size + 1 + z + j := by simp only [List.length_append, List.length_take, be8_len, HTL.out]; omega
          have HRZ := Lib.hid hrl
          clear hrl
          clear hjc
          have e1 : IntKind.i64.wrap (56 - 8 * (j : Int)) = 56 - 8 * (j : Int) := IntWalk.i64_in _ (by omega)
          go_wp2_with (at_builtin; refine appO (w0 := W0) B rfl (.tmp 42) (.tmp 50) 137 137 5 (.int .u8 0) 1 rfl Tryz.underlying137 Tryz.info5 rfl (by omega) _ _ rfl _ 1 [.int .u8 _] rfl (src_new wr 5 [.int .u8 _] 1 rfl Tryz.underlying137 (by simp [Value.oneCell'])) (hown.out.below ((Below.refl _ _).alloc (Nat.le_refl _) _)) (hbel.out.alloc (Nat.le_trans HW0B.out hbel.out.size) _) (by have h1 := hbel.out.size; have h2 := HW0B.out; simp; omega) (by rw [u8s_len', HRZ.out]; omega) ?_; intro v5 w5 ap5; obtain ⟨A6, c6, rfl, O6, B6⟩ := ap5.byte HRZ.out; clear ap5)
          go_roundw
          case rel => exact ⟨j + 1, c6, A6, by omega, rfl, by go_num, Lib.hid (by have := O6.out; rw [be8_take T m.length j _ hlt (by rw [HML.out]; exact be8_at s.size j hlt)] at this; exact this), B6⟩
          case measure => simp only [vlen]; omega
        · have hj8 : j = 8 := by omega
          have hji : ¬ (j : Int) < 8 := by omega
          have hrows : T ++ (be8 m.length).take j = shaP m := by
            rw [hj8, shaP, HT.out, HR.out, padOf, ← HZC.out, List.take_of_length_le (Nat.le_of_eq (be8_len _))]
            simp
          have hPl : (shaP m).length = s.size + 1 + z + j := by rw [shaP_len, ← HZC.out, HML.out]; omega
          have hP64 := shaP_mod m
          obtain ⟨P, hP⟩ : ∃ P, P = shaP m := ⟨_, rfl⟩
          have hPb : u8s_ok P := by rw [hP]; exact shaP_ok hmb
          rw [hrows, ← hP] at hown
          rw [← hP] at hPl hP64
          rw [← hPl] at hown
          rw [← hPl]
          have HPE := Lib.hid hP
          have HPL := Lib.hid hPl
          have HP6 := Lib.hid hP64
          have HPB := Lib.hid hPb
          clear hP hPl hP64 hPb hrows hj8 hj hlt wu
          have hwz : B ≤ wr.heap.size := Nat.le_trans HW0B.out hbel.out.size
          go_wp2_with (first
            | (refine wpList_store_row rfl 210 (.tmp 6) (.tmp 52) rfl wr.heap.size rfl (u32s (List.replicate 64 0)) rfl 210 (has_new wr _ _ _ rfl) Tryz.size210 (one_u32s _) ?_; intro w6 hp6; have S6 : Hid (w6.heap.size = wr.heap.size + 1) := Lib.hid (by rw [hp6.size]; simp); have H6 := Lib.hid hp6; clear hp6)
            | (refine wpList_store_row rfl 211 (.tmp 7) (.tmp 53) rfl w6.heap.size rfl (u32s St.init.list) rfl 211 (has_new w6 _ _ _ rfl) Tryz.size211 (one_u32s _) ?_; intro w7 hp7; have S7 : Hid (w7.heap.size = w6.heap.size + 1) := Lib.hid (by rw [hp7.size]; simp); have H7 := Lib.hid hp7; clear hp7)
            | (refine wpList_store_row rfl 210 (.tmp 8) (.tmp 54) rfl w7.heap.size rfl (u32s (List.replicate 64 0)) rfl 210 (has_new w7 _ _ _ rfl) Tryz.size210 (one_u32s _) ?_; intro w8 hp8; have S8 : Hid (w8.heap.size = w7.heap.size + 1) := Lib.hid (by rw [hp8.size]; simp); have H8 := Lib.hid hp8; clear hp8))
          have hrs : RS W0 B wr.heap.size w6.heap.size w7.heap.size (.slice A5 P.length c5) P w8 (List.replicate 64 0) St.init.list (List.replicate 64 0) := by
            have h6 := H6.out; have h7 := H7.out; have h8 := H8.out
            have e6 := S6.out; have e7 := S7.out; have e8 := S8.out
            have b6 : Below wr.heap.size wr w6 := h6.below ((Below.refl _ _).alloc (Nat.le_refl _) _) (Nat.le_refl _)
            have b7 : Below w6.heap.size w6 w7 := h7.below ((Below.refl _ _).alloc (Nat.le_refl _) _) (Nat.le_refl _)
            have b8 : Below w7.heap.size w7 w8 := h8.below ((Below.refl _ _).alloc (Nat.le_refl _) _) (Nat.le_refl _)
            have bb : Below wr.heap.size wr w8 := b6.trans ((b7.mono (by omega)).trans (b8.mono (by omega)))
            exact ⟨hown.out.below bb, fun k hk => (hown.out.lt k hk).2, blk_below (blk_below h6.blk b7) b8, blk_below h7.blk b8, h8.blk, hbel.out.trans (bb.mono hwz)⟩
          have HRS := Lib.hid hrs
          have HO1 : Hid (B ≤ wr.heap.size ∧ wr.heap.size < w6.heap.size ∧ w6.heap.size < w7.heap.size) := Lib.hid ⟨hwz, by have := S6.out; omega, by have := S7.out; omega⟩
          clear hrs hwz H6 H7 H8 S6 S7 S8 hown hbel
          generalize wr.heap.size = b6 at HRS HO1 ⊢
          generalize w6.heap.size = b7 at HRS HO1 ⊢
          generalize w7.heap.size = b8 at HRS HO1 ⊢
          clear hji
          generalize (Value.agg #[Value.int IntKind.u32 0, Value.int IntKind.u32 0, Value.int IntKind.u32 0, Value.int IntKind.u32 0, Value.int IntKind.u32 0, Value.int IntKind.u32 0, Value.int IntKind.u32 0, Value.int IntKind.u32 0, Value.int IntKind.u32 0, Value.int IntKind.u32 0, Value.int IntKind.u32 0, Value.int IntKind.u32 0, Value.int IntKind.u32 0, Value.int IntKind.u32 0, Value.int IntKind.u32 0, Value.int IntKind.u32 0, Value.int IntKind.u32 0, Value.int IntKind.u32 0, Value.int IntKind.u32 0, Value.int IntKind.u32 0, Value.int IntKind.u32 0, Value.int IntKind.u32 0, Value.int IntKind.u32 0, Value.int IntKind.u32 0, Value.int IntKind.u32 0, Value.int IntKind.u32 0, Value.int IntKind.u32 0, Value.int IntKind.u32 0, Value.int IntKind.u32 0, Value.int IntKind.u32 0, Value.int IntKind.u32 0, Value.int IntKind.u32 0, Value.int IntKind.u32 0, Value.int IntKind.u32 0, Value.int IntKind.u32 0, Value.int IntKind.u32 0, Value.int IntKind.u32 0, Value.int IntKind.u32 0, Value.int IntKind.u32 0, Value.int IntKind.u32 0, Value.int IntKind.u32 0, Value.int IntKind.u32 0, Value.int IntKind.u32 0, Value.int IntKind.u32 0, Value.int IntKind.u32 0, Value.int IntKind.u32 0, Value.int IntKind.u32 0, Value.int IntKind.u32 0, Value.int IntKind.u32 0, Value.int IntKind.u32 0, Value.int IntKind.u32 0, Value.int IntKind.u32 0, Value.int IntKind.u32 0, Value.int IntKind.u32 0, Value.int IntKind.u32 0, Value.int IntKind.u32 0, Value.int IntKind.u32 0, Value.int IntKind.u32 0, Value.int IntKind.u32 0, Value.int IntKind.u32 0, Value.int IntKind.u32 0, Value.int IntKind.u32 0, Value.int IntKind.u32 0, Value.int IntKind.u32 0]) = u52
          go_loopw [9, 55] (fun _ i wr => ∃ (k : Nat), k ≤ 64 ∧ i = .int .i64 (k : Int) ∧ Hid (RS W0 B b6 b7 b8 (.slice A5 P.length c5) P wr (List.replicate 64 0) St.init.list (pad 64 (kk.take k))))
            (fun _ i _ => 64 - (intOf i).toNat)
          case atStart => exact ⟨0, by omega, rfl, HRS⟩
          case round =>
            clear HRS
            obtain ⟨k, hk, rfl, hrs⟩ := hrel
            by_cases hlt : k < 64
            ·
              have hz : ∃ z, wr.cell? ⟨b8, k, none⟩ = some z := by
                have hl : (u32s (pad 64 (kk.take k))).length = 64 := by rw [u32s_len, pad_len _ _ (by rw [List.length_take]; omega)]
                exact ⟨_, blk_cell hrs.out.h8 k (u32s (pad 64 (kk.take k)))[k] (by simp)⟩
              obtain ⟨z0, d0⟩ := hz
              have d1 : wr.frozen? ⟨b8, k, none⟩ = false := blk_free hrs.out.h8 k
              have hn := hrs.out.set8 HO1.out k (kk.getD k 0)
              have hset : (pad 64 (kk.take k)).set k (kk.getD k 0) = pad 64 (kk.take (k + 1)) := by
                have hl : (kk.take k).length = k := by rw [List.length_take, kk_len]; omega
                have h := pad_set 64 (kk.take k) (kk.getD k 0) (by omega)
                rw [hl] at h
                have hkl : k < kk.length := by rw [kk_len]; exact hlt
                rw [h, List.take_succ_eq_append_getElem hkl]
                simp [List.getD_eq_getElem?_getD, hkl]
              rw [hset] at hn
              have HN := Lib.hid hn
              clear hn hset hrs
              obtain ⟨y, hy⟩ : ∃ y, y = kk.getD k 0 := ⟨_, rfl⟩
              rw [← hy] at HN
              have HY := Lib.hid hy
              clear hy
              go_wp2_with fail
              refine (k_any k hlt _).mono ?_
              rintro e w' ⟨rfl, rfl⟩
              rw [← HY.out]
              go_wp2
              go_roundw
              case rel => exact ⟨k + 1, by omega, by go_num, HN⟩
              case measure => simp [intOf]; omega
            · have hk64 : k = 64 := by omega
              have hpk : pad 64 (kk.take k) = kk := by rw [hk64, List.take_of_length_le (by rw [kk_len]; omega), pad_full _ _ kk_len]
              rw [hpk] at hrs
              clear hpk hk64
              have HRS2 := Lib.hid hrs
              clear hrs
              go_wp2
              clear hk hlt
              refine wp_frm (N := 270) (by rfl) (by rfl) fun F hF => ?_
              refine loop6 W0 B b6 b7 b8 P (List.replicate 64 0) _ HPB.out HP6.out rfl HO1.out F (hF 4 (by decide)) (hF 6 (by decide)) (hF 7 (by decide)) (hF 8 (by decide)) _ wr HRS2.out fun g2 w2 v2 rows2 ws2 q2 r2 => ?_
              refine ‹∀ (a : Act) (w : World), Code.wp Tryz.prog _ _ a w → _› _ _ ?_
              have hh2 : Has w2 w.heap.size 171 32 := HW0H.out.same (r2.bel.block _ (by have := HB.out; omega))
              refine tail28 (stN P (P.length / 64)) w.heap.size b7 g2 ((q2 2 rfl).trans (hF 2 (by decide))) ((q2 7 rfl).trans (hF 7 (by decide))) _ w2 r2.h7 hh2 fun g3 w3 w4 e2 bel3 hp4 => ?_
              have hfin : outB (stN P (P.length / 64)) 32 = sha m := by rw [HPE.out]; rfl
              have bel2 : Below w.heap.size w w2 := HW0.out.trans (r2.bel.mono (by have := HB.out; omega))
              have hl : (u8s (outB (stN P (P.length / 64)) 32)).length = 32 := by rw [u8s_len', outB_len]
              refine bodyPost_ret (v := .agg (u8s (outB (stN P (P.length / 64)) 32)).toArray) (results_cell_row rfl _ _ w.heap.size 171 _ (0, 0) _ (frm_tmp (by decide) e2) hp4.blk Tryz.underlying171 rfl (by rw [List.size_toArray, hl]; exact Tryz.size171)) rfl ⟨by rw [hfin], hp4.below (bel2.trans (bel3.mono bel2.size)) (Nat.le_refl _)⟩
end Go.Proofs.YtniknhhejlgdfaaGreatDoor
/- The law HashSums, walked. -/
namespace Go.Proofs.YtniknhhejlgdfaaGreatDoor
open Go.RowKit

theorem sb_str (bs : List Int) (h : u8s_ok bs) : sb (strOfNums bs) = bs := by
  unfold sb
  rw [strOfNums_data, List.map_map]
  conv => rhs; rw [← List.map_id bs]
  refine List.map_congr_left fun x hx => ?_
  have hx := h x hx
  unfold B8 at hx
  have : (UInt8.ofNat x.toNat).toNat = x.toNat := by
    rw [UInt8.toNat_ofNat']
    omega
  show ((UInt8.ofNat x.toNat).toNat : Int) = id x
  rw [this, id]
  omega

end Go.Proofs.YtniknhhejlgdfaaGreatDoor
/- What the reference's Framed and Of do. -/
namespace Go.Proofs.YtniknhhejlgdfaaGreatDoor
open Go.RowKit

theorem wpList_conv_str {ops : Array Oper} {rest : List Oper} {o : Oper} {a : Act} {w : World} {Q : Exit → Act → World → Prop} (hw : Region.wanted o (yielded ops a.tmps) = true) (x : Operand) (ho : o.op = .convert 137 9 x) (v : Value) (bs : List Int)
    (hx : a.eval x = v) (hv : Bs w v bs) (h : wpList Tryz.prog ops Q rest (a.put o.dst (.string (strOfNums bs))) w) : wpList Tryz.prog ops Q (o :: rest) a w := by
  refine wpList_step fun K hK => ?_
  rw [if_pos hw]
  unfold Oper.wp execOp
  simp only [ho, hx, Sem.run_bind, Sem.run_pure, Result.andThen_ok, conv_bs hv w (Below.refl _ _)]
  exact hK _ _ h

theorem wpList_add_str {P : Program} {ops : Array Oper} {rest : List Oper} {o : Oper} {a : Act} {w : World} {Q : Exit → Act → World → Prop} (hw : Region.wanted o (yielded ops a.tmps) = true) (t : TypeId) (x y : Operand) (r) (ho : o.op = .binOp .add t x y r) (s1 s2 : ByteArray)
    (hx : a.eval x = .string s1) (hy : a.eval y = .string s2) (hz : s1.size + s2.size ≤ 2199023255552) (h : wpList P ops Q rest (a.put o.dst (.string (s1 ++ s2))) w) : wpList P ops Q (o :: rest) a w := by
  refine wpList_step fun K hK => ?_
  rw [if_pos hw]
  unfold Oper.wp execOp
  have hb : ¬ (((s1.size + s2.size : Nat) : Int) > IntKind.i64.max) := by
    have : IntKind.i64.max = 9223372036854775807 := by decide
    rw [this]; omega
  simp only [ho, hx, hy, eqGuard, binOp_string_add, Op.stringOp, if_neg hb, Sem.run_bind, Sem.run_pure]
  exact hK _ _ h

theorem wrap_u64_nat (n : Nat) (h : n ≤ 1099511627776) : IntKind.u64.wrap (n : Int) = n := by
  rw [IntKind.wrap_u64]
  omega

theorem sb_append (a b : ByteArray) : sb (a ++ b) = sb a ++ sb b := by
  unfold sb
  rw [ByteArray.data_append, Array.toList_append, List.map_append]
theorem size_append (a b : ByteArray) : (a ++ b).size = a.size + b.size := by
  rw [← sb_len, sb_append, List.length_append, sb_len, sb_len]

/-- A slice of strings. -/
structure Txs (w : World) (v : Value) (ss : List ByteArray) : Prop where
  form : ∃ A c, v = .slice A ss.length c
  cells : ss ≠ [] → ∃ b off c, v = .slice (some ⟨b, off, none⟩) ss.length c ∧ ss.length ≤ c ∧ c ≤ maxLen ∧ b < w.heap.size ∧ ∀ i, i < ss.length → w.cell? ⟨b, off + i, none⟩ = some (.string (ss.getD i ByteArray.empty))

theorem Txs.below {w w' : World} {v : Value} {ss : List ByteArray} (h : Txs w v ss) (hb : Below w.heap.size w w') : Txs w' v ss := by
  refine ⟨h.form, fun hne => ?_⟩
  obtain ⟨b, off, c, e, h1, h2, h3, h4⟩ := h.cells hne
  exact ⟨b, off, c, e, h1, h2, Nat.lt_of_lt_of_le h3 hb.size, fun i hi => (hb.cell (p := ⟨b, off + i, none⟩) h3).trans (h4 i hi)⟩

set_option maxHeartbeats 4000000 in
set_option maxRecDepth 100000 in
theorem framed_any (z : Int) (ss : List ByteArray) (A : Option Addr) (n c : Nat) (w : World) (hv : Txs w (.slice A n c) ss) (hn : n = ss.length) (hsm : (framed z (ss.map sb)).length ≤ 1099511627776) :
    Calls Tryz.prog 91 #[.int .i64 z, .slice A n c] w fun e w' => ∃ S, e = .returned (.string S) ∧ sb S = framed z (ss.map sb) ∧ Below w.heap.size w w' := by
  have hn40 : n ≤ 1099511627776 := by have := framed_count z (ss.map sb); rw [List.length_map] at this; omega
  have HV := Lib.hid hv
  have HN := Lib.hid hn
  have HSM := Lib.hid hsm
  clear hv hn hsm
  go_enter Tryz.func91, Tryz.ntmps91
  go_wp2_with (refine wpList_conv_str rfl (.tmp 11) rfl (.slice (some ⟨w.heap.size, 0, none⟩) 1 1) [z % 256] rfl (Bs.new w [z % 256] (fun b hb => by simp at hb; rw [hb]; unfold B8; omega) (by simp) (0, 0)) ?_)
  obtain ⟨S0, hS0⟩ : ∃ s, s = strOfNums [z % 256] := ⟨_, rfl⟩
  have hs0 : sb S0 = framed z ((ss.map sb).take 0) := by rw [hS0, framed_zero]; exact sb_str _ (fun b hb => by simp at hb; rw [hb]; unfold B8; omega)
  rw [← hS0]
  have HS0 := Lib.hid hs0
  clear hS0 hs0
  have BW : Hid (Below w.heap.size w (w.alloc (.cells #[Value.int .u8 (z % 256)] 5))) := Lib.hid ((Below.refl _ _).alloc (Nat.le_refl _) _)
  go_loopw [5, 15] (fun s k wr => ∃ (i : Nat) (S : ByteArray), i ≤ n ∧ s = .string S ∧ k = .int .i64 i ∧ Hid (sb S = framed z ((ss.map sb).take i)) ∧ Hid (Below w.heap.size w wr))
    (fun _ k _ => n - (intOf k).toNat)
  case atStart => exact ⟨0, S0, by omega, rfl, rfl, HS0, BW⟩
  case round =>
    clear HS0 BW
    obtain ⟨i, S, hi, rfl, rfl, hS, hbel⟩ := hrel
    by_cases hlt : i < n
    · have hi2 : i < ss.length := by have := HN.out; omega
      obtain ⟨b, off, c', e1, _, _, h3', h4⟩ := HV.out.cells (by intro e; rw [e] at hi2; simp at hi2)
      have hpv := h4 i hi2
      obtain ⟨p, hp⟩ : ∃ p, p = ss.getD i ByteArray.empty := ⟨_, rfl⟩
      rw [← hp] at hpv
      simp only [Value.slice.injEq] at e1
      obtain ⟨rfl, -, rfl⟩ := e1
      have hc := (hbel.out.cell (p := ⟨b, off + i, none⟩) h3').trans hpv
      have hfs := framed_succ z (ss.map sb) i (by rw [List.length_map]; exact hi2)
      have hfl := Nat.le_trans (framed_len z (ss.map sb) (i + 1)) HSM.out
      have hgd : (ss.map sb).getD i [] = sb p := by
        rw [hp, List.getD_eq_getElem?_getD, List.getElem?_map, List.getD_eq_getElem?_getD, List.getElem?_eq_getElem hi2]; rfl
      rw [hgd] at hfs
      rw [hfs] at hfl
      obtain ⟨m, hm⟩ : ∃ m, m = p.size := ⟨_, rfl⟩
      have hpm : (sb p).length = m := by rw [sb_len, hm]
      have hSl : S.size = (framed z ((ss.map sb).take i)).length := by rw [← hS.out, sb_len]
      have hml : S.size + 4 + m ≤ 1099511627776 := by simp only [List.length_append, be4, List.length_cons, List.length_nil, ← hSl, hpm] at hfl; omega
      have hpz : p.size = m := hm.symm
      rw [hpm] at hfs
      have HFS := Lib.hid hfs
      have HPM := Lib.hid hpm
      have HPZ := Lib.hid hpz
      have hm40 : m ≤ 1099511627776 := by omega
      have HML := Lib.hid hml
      have hil : (i : Int) < n := by omega
      obtain ⟨T, hT⟩ : ∃ T, T = strOfNums (be4 m) := ⟨_, rfl⟩
      have HT := Lib.hid hT
      have hTs : T.size = 4 := by rw [hT, strOfNums_size]; rfl
      have hz1 : T.size + p.size ≤ 2199023255552 := by omega
      have hz2 : S.size + (T ++ p).size ≤ 2199023255552 := by rw [size_append]; omega
      have HZ1 := Lib.hid hz1
      have HZ2 := Lib.hid hz2
      have hTb : sb T = be4 m := by rw [hT]; exact sb_str _ (be4_ok m)
      have hsb : sb (S ++ (T ++ p)) = framed z ((ss.map sb).take (i + 1)) := by rw [sb_append, sb_append, hS.out, hTb, hfs, List.append_assoc]
      have HSB := Lib.hid hsb
      have E1 : IntKind.u64.wrap (p.size : Int) = m := by rw [hpz]; exact wrap_u64_nat m (by omega)
      have E2 : ∀ q : Nat, 0 < q → IntKind.u64.wrap ((m : Int).tdiv (q : Int)) = (m : Int) / q := fun q hq => by
        rw [Int.tdiv_eq_ediv_of_nonneg (by omega), ← Int.natCast_ediv]
        exact wrap_u64_nat _ (Nat.le_trans (Nat.div_le_self _ _) hm40)
      have E3 := E2 16777216 (by omega)
      have E4 := E2 65536 (by omega)
      have E5 := E2 256 (by omega)
      have E3 : IntKind.u64.wrap ((m : Int).tdiv 16777216) = (m : Int) / 16777216 := E3
      have E4 : IntKind.u64.wrap ((m : Int).tdiv 65536) = (m : Int) / 65536 := E4
      have E5 : IntKind.u64.wrap ((m : Int).tdiv 256) = (m : Int) / 256 := E5
      clear hpz hpm hm hp hgd hfs hfl hSl hml hi2 hpv h4 h3' hT hTs hTb hsb hz1 hz2 E2
      go_wp2_with (first | (refine wpList_conv_str rfl (.tmp 34) rfl (.slice (some ⟨wr.heap.size, 0, none⟩) 4 4) (be4 m) rfl (Bs.new wr (be4 m) (be4_ok m) (by simp [be4]) (0, 0)) ?_; rw [← HT.out]) | (refine wpList_add_str rfl 9 (.tmp 35) (.tmp 36) _ rfl T p rfl rfl HZ1.out ?_) | (refine wpList_add_str rfl 9 (.tmp 22) (.tmp 37) _ rfl S (T ++ p) rfl rfl HZ2.out ?_))
      go_roundw
      case rel => exact ⟨i + 1, _, by omega, rfl, by go_num, HSB, Lib.hid (hbel.out.alloc hbel.out.size _)⟩
      case measure => simp [intOf]; omega
    · have hin : i = n := by omega
      have htk : (ss.map sb).take i = ss.map sb := List.take_of_length_le (by rw [List.length_map, hin, HN.out]; exact Nat.le_refl _)
      rw [htk] at hS
      go_wp2_with fail
      go_ret
      exact ⟨_, rfl, hS.out, hbel.out⟩
end Go.Proofs.YtniknhhejlgdfaaGreatDoor
/- What the reference's Of does. -/
namespace Go.Proofs.YtniknhhejlgdfaaGreatDoor
open Go.RowKit

set_option maxHeartbeats 4000000 in
set_option maxRecDepth 100000 in
theorem refof_any (z : Int) (ss : List ByteArray) (A : Option Addr) (n c : Nat) (w : World) (hv : Txs w (.slice A n c) ss) (hn : n = ss.length) (hsm : (framed z (ss.map sb)).length ≤ 1099511627776) :
    Calls Tryz.prog 65 #[.int .i64 z, .slice A n c] w fun e w' => e = .returned (.agg (u8s (short z (ss.map sb))).toArray) ∧ Below w.heap.size w w' := by
  have HV := Lib.hid hv
  have HN := Lib.hid hn
  have HSM := Lib.hid hsm
  clear hv hn hsm
  go_enter Tryz.func65, Tryz.ntmps65
  go_wp2_with fail
  have b0 : Below w.heap.size w (w.alloc (Obj.cells (Array.replicate 16 (Value.int .u8 0)) 24)) := (Below.refl _ _).alloc (Nat.le_refl _) _
  refine (framed_any z ss A n c _ (HV.out.below b0) HN.out HSM.out).mono ?_
  rintro e w1 ⟨S, rfl, hS, hb1⟩
  have b1 : Below w.heap.size w w1 := b0.trans (hb1.mono b0.size)
  have h1 : Has w1 w.heap.size 24 16 := (has_new w _ _ _ rfl).below hb1
  have hsz : S.size ≤ 1099511627776 := by rw [← sb_len, hS]; exact HSM.out
  have B1 := Lib.hid b1
  have H1 := Lib.hid h1
  have HS := Lib.hid hS
  clear b0 b1 h1 hS hb1
  go_wp2_with fail
  refine (refsum_any S hsz _).mono ?_
  rintro e w2 ⟨rfl, hb2⟩
  rw [HS.out]
  have b2 : Below w.heap.size w w2 := B1.out.trans (hb2.mono B1.out.size)
  have h2 : Has w2 w.heap.size 24 16 := H1.out.below hb2
  obtain ⟨OUT, hOUT⟩ : ∃ o, o = sha (framed z (ss.map sb)) := ⟨_, rfl⟩
  have hol : OUT.length = 32 := by rw [hOUT, sha_len]
  have hi25 : (Tryz.prog.info? 171).map (·.size) = some (u8s OUT).length := by rw [u8s_len', hol]; exact Tryz.size171
  have hsh : short z (ss.map sb) = OUT.take 16 := by rw [hOUT]; rfl
  rw [← hOUT]
  have HSH := Lib.hid hsh
  have hhz : ∀ Z : Array Value, Z.size = 32 → Has (w2.alloc (.cells Z 171)) w2.heap.size 171 (u8s OUT).length := fun Z hZ => has_new w2 _ _ _ (by rw [hZ, u8s_len', hol])
  have hok : u8s_ok OUT := hOUT ▸ sha_ok _
  have HOK := Lib.hid hok
  have B2 := Lib.hid b2
  have H2 := Lib.hid h2
  have HOL := Lib.hid hol
  have HI := Lib.hid hi25
  have HZ := Lib.hid hhz
  clear hOUT hsh hol hi25 hhz b2 h2 hb2 B1 H1 HS hsz hok
  go_wp2_with (first
    | (refine wpList_store_row rfl 171 (.tmp 5) (.tmp 11) rfl w2.heap.size rfl (u8s OUT) rfl 171 (HZ.out _ rfl) HI.out (one_u8s _) ?_; intro w3 hp3))
  obtain ⟨OB, hOB⟩ : ∃ n, n = w3.heap.size := ⟨_, rfl⟩
  obtain ⟨SB, hSB⟩ : ∃ n, n = w2.heap.size := ⟨_, rfl⟩
  have hz3 : w3.heap.size = w2.heap.size + 1 := by have := hp3.size; simpa using this
  have b3 : Below w.heap.size w w3 := hp3.below (B2.out.alloc B2.out.size _) B2.out.size
  have hstart : (w3.alloc (Obj.cells (Array.replicate 16 (Value.int .u8 0)) 24)).heap[OB]? = some (.cells (u8s (pad 16 (OUT.take 0))).toArray 24 (0, 0)) := by rw [hOB]; exact heap_alloc_new w3 _
  have hwb := b3.alloc b3.size (Obj.cells (Array.replicate 16 (Value.int .u8 0)) 24)
  have h3 : Has w3 w.heap.size 24 16 := H2.out.same ((hp3.other _ (by have := H2.out.lt; omega)).trans (Below.heap_alloc w2 _ _ H2.out.lt))
  have hwh : Has (w3.alloc (Obj.cells (Array.replicate 16 (Value.int .u8 0)) 24)) w.heap.size 24 16 := h3.same (Below.heap_alloc w3 _ _ h3.lt)
  have hws : (w3.alloc (Obj.cells (Array.replicate 16 (Value.int .u8 0)) 24)).heap[SB]? = some (.cells (u8s OUT).toArray 171 (0, 0)) := by rw [hSB, Below.heap_alloc w3 _ _ (by omega)]; exact hp3.blk
  have hlt1 : w.heap.size < SB := by rw [hSB]; exact H2.out.lt
  have hlt2 : SB < OB := by omega
  rw [← hOB, ← hSB]
  have V1 := Lib.hid hstart
  have V2 := Lib.hid hwb
  have V3 := Lib.hid hws
  have V4 := Lib.hid hwh
  clear hstart hwb hwh hws h3 b3 hp3 hz3
  change Code.wp _ _ _ _ (w3.alloc (Obj.cells (Array.replicate 16 (Value.int .u8 0)) 24))
  generalize w3.alloc (Obj.cells (Array.replicate 16 (Value.int .u8 0)) 24) = wo at *
  clear HZ B2 H2 hOB hSB
  have hsl : (OUT.take 16).length = 16 := by rw [List.length_take, HOL.out]; rfl
  have hi43 : (Tryz.prog.info? 24).map (·.size) = some (u8s (OUT.take 16)).length := by rw [u8s_len', hsl]; exact Tryz.size24
  have HSL := Lib.hid hsl
  have HI43 := Lib.hid hi43
  clear hsl hi43
  go_loopw [7, 13] (fun _ s wr => ∃ (i : Nat), i ≤ 16 ∧ s = .int .i64 i ∧ Hid (wr.heap[OB]? = some (.cells (u8s (pad 16 (OUT.take i))).toArray 24 (0, 0))) ∧ Hid (Below w.heap.size w wr) ∧ Hid (wr.heap[SB]? = some (.cells (u8s OUT).toArray 171 (0, 0))) ∧ Hid (Has wr w.heap.size 24 16))
    (fun _ s _ => 16 - (intOf s).toNat)
  case atStart => exact ⟨0, by omega, rfl, V1, V2, V3, V4⟩
  case round =>
    clear V1 V2 V3 V4
    obtain ⟨i, hi, rfl, V1, V2, V3, V4⟩ := hrel
    by_cases hlt : i < 16
    · obtain ⟨y, hy⟩ : ∃ y, y = OUT.getD i 0 := ⟨_, rfl⟩
      have hol := HOL.out
      have htl : (OUT.take i).length = i := by rw [List.length_take]; omega
      have cy : wr.cell? ⟨SB, i, none⟩ = some (.int .u8 y) := blk_cell V3.out i _ (by rw [hy, u8s, List.getElem?_map, List.getD_eq_getElem?_getD, List.getElem?_eq_getElem (by omega)]; rfl)
      have hpl : (u8s (pad 16 (OUT.take i))).length = 16 := by rw [u8s_len', pad_len _ _ (by omega)]
      obtain ⟨z0, d0⟩ : ∃ z, wr.cell? ⟨OB, i, none⟩ = some z := ⟨_, blk_cell V1.out i (u8s (pad 16 (OUT.take i)))[i] (by simp)⟩
      have d1 : wr.frozen? ⟨OB, i, none⟩ = false := blk_free V1.out i
      have hset : (u8s (pad 16 (OUT.take i))).set i (.int .u8 y) = u8s (pad 16 (OUT.take (i + 1))) := by
        have h := pad_set 16 (OUT.take i) y (by omega)
        rw [htl] at h
        rw [List.take_succ_eq_append_getElem (by omega : i < OUT.length), show OUT[i] = y by rw [hy, List.getD_eq_getElem?_getD, List.getElem?_eq_getElem (by omega)]; rfl, ← h, u8s, u8s, List.map_set]
      have F1 : Hid ((wr.setCell ⟨OB, i, none⟩ (.int .u8 y)).heap[OB]? = some (.cells (u8s (pad 16 (OUT.take (i + 1)))).toArray 24 (0, 0))) := Lib.hid (by have := blk_set V1.out i (.int .u8 y); rw [hset] at this; exact this)
      have F2 : Hid (Below w.heap.size w (wr.setCell ⟨OB, i, none⟩ (.int .u8 y))) := Lib.hid (V2.out.setCell (by simp; omega) _)
      have F3 : Hid ((wr.setCell ⟨OB, i, none⟩ (.int .u8 y)).heap[SB]? = some (.cells (u8s OUT).toArray 171 (0, 0))) := Lib.hid (by rw [heap_setCell_other wr ⟨OB, i, none⟩ _ _ (by simp; omega)]; exact V3.out)
      have F4 : Hid (Has (wr.setCell ⟨OB, i, none⟩ (.int .u8 y)) w.heap.size 24 16) := Lib.hid (V4.out.setCell _ _)
      clear V1 V2 V3 V4 hset hpl hy hol htl
      go_wp2
      go_roundw
      case rel => exact ⟨i + 1, by omega, by go_num, F1, F2, F3, F4⟩
      case measure => simp [intOf]; omega
    · obtain rfl : i = 16 := by omega
      have hpf : pad 16 (OUT.take 16) = OUT.take 16 := pad_full _ _ HSL.out
      rw [hpf] at V1
      obtain ⟨SH, hSH'⟩ : ∃ s, s = OUT.take 16 := ⟨_, rfl⟩
      rw [← hSH'] at V1 HI43 HSL
      have hra : wr.rangeAt OB 0 (u8s SH) := blk_range V1.out
      have hh : Has wr w.heap.size 24 (u8s SH).length := by rw [u8s_len', HSL.out]; exact V4.out
      have HRA := Lib.hid hra
      have HH := Lib.hid hh
      have HSS : Hid (short z (ss.map sb) = SH) := Lib.hid (by rw [HSH.out, hSH'])
      clear hra hh V1 V3 V4 hSH' hpf
      go_wp2_with (first
        | (refine wpList_load_g rfl 24 (.tmp 6) rfl OB 0 rfl (u8s SH) _ HRA.out Tryz.underlying24 rfl HI43.out ?_)
        | (refine wpList_store_row rfl 24 (.tmp 4) (.tmp 22) rfl w.heap.size rfl (u8s SH) rfl 24 HH.out HI43.out (one_u8s _) ?_; intro w10 hp10))
      refine bodyPost_ret (v := .agg (u8s SH).toArray) (results_cell_row rfl _ _ w.heap.size 24 _ (0, 0) _ rfl hp10.blk Tryz.underlying24 rfl (by simpa using HI43.out)) rfl ⟨by rw [HSS.out], hp10.below V2.out (Nat.le_refl _)⟩
end Go.Proofs.YtniknhhejlgdfaaGreatDoor
/- The law HashOf, walked. -/
namespace Go.Proofs.YtniknhhejlgdfaaGreatDoor
open Go.RowKit

def strs (ss : List ByteArray) : List Value := ss.map Value.string
theorem strs_len (ss : List ByteArray) : (strs ss).length = ss.length := by simp [strs]
theorem Txs.of_own {w : World} {base : Nat} {v : Value} {ss : List ByteArray} (h : OwnO w base 9 v (strs ss)) : Txs w v ss := by
  refine ⟨?_, fun hne => ?_⟩
  · obtain ⟨A, c, he, _⟩ := h.len
    exact ⟨A, c, by rw [he, strs_len]⟩
  · have hl : 0 < ss.length := by cases ss with | nil => exact absurd rfl hne | cons => simp
    obtain ⟨b, off, c, he, h1, h2, h3⟩ := h.row (by rw [strs_len]; exact hl)
    rw [strs_len] at he h1
    have c0 := h3 0 _ (by rw [strs, List.getElem?_map, List.getElem?_eq_getElem hl]; rfl)
    refine ⟨b, off, c, he, h1, h2, World.block_lt_of_cell? w _ c0, fun i hi => h3 i _ (by rw [strs, List.getElem?_map, List.getElem?_eq_getElem hi, List.getD_eq_getElem?_getD, List.getElem?_eq_getElem hi]; rfl)⟩
end Go.Proofs.YtniknhhejlgdfaaGreatDoor
