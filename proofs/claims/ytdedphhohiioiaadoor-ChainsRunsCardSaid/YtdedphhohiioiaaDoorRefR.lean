/- The reference's sum: a round's regions. -/
import Derived.Test.YtdedphhohiioiaaDoorRefF
namespace Go.Proofs.YtdedphhohiioiaaDoor
open Go.RowKit

set_option maxHeartbeats 1000000 in
set_option maxRecDepth 100000 in
theorem do31 (b14 : Nat) (r : St) (g : Nat → Value) (e14 : g 14 = .pointer (some ⟨b14, 0, none⟩)) (w : World) (c4 : w.cell? ⟨b14, 4, none⟩ = some (.int .u32 r.e)) (c5 : w.cell? ⟨b14, 5, none⟩ = some (.int .u32 r.f)) (c6 : w.cell? ⟨b14, 6, none⟩ = some (.int .u32 r.g)) (Q : Exit → Act → World → Prop)
    (h : ∀ i, Same (Wr 151 162 16) g i → i 16 = .int .u32 (chs r.e r.f r.g) → Q .normal (frm 270 i) w) : Code.wp Tryd.prog (refReg 31) Q (frm 270 g) w := by
  refine wp_region_lit ?_
  refine plv rfl (is_idx105 4 rfl (by omega) rfl (frm_tmp (by decide) e14) rfl) ?_
  refine plv rfl (is_load103 rfl (frm_tmp (by decide) rfl) c4) ?_
  refine plv rfl (is_idx105 5 rfl (by omega) rfl (frm_tmp (by decide) e14) rfl) ?_
  refine plv rfl (is_load103 rfl (frm_tmp (by decide) rfl) c5) ?_
  refine plv rfl (is_and rfl (frm_tmp (by decide) rfl) (frm_tmp (by decide) rfl)) ?_
  refine plv rfl (is_idx105 4 rfl (by omega) rfl (frm_tmp (by decide) e14) rfl) ?_
  refine plv rfl (is_load103 rfl (frm_tmp (by decide) rfl) c4) ?_
  refine plv rfl (is_not rfl (frm_tmp (by decide) rfl)) ?_
  refine plv rfl (is_idx105 6 rfl (by omega) rfl (frm_tmp (by decide) e14) rfl) ?_
  refine plv rfl (is_load103 rfl (frm_tmp (by decide) rfl) c6) ?_
  refine plv rfl (is_and rfl (frm_tmp (by decide) rfl) (frm_tmp (by decide) rfl)) ?_
  refine plv rfl (is_xor rfl (frm_tmp (by decide) rfl) (frm_tmp (by decide) rfl)) ?_
  refine plv rfl (is_move (.inr rfl) (frm_tmp (by decide) rfl)) ?_
  refine wpList_nil ?_
  generalize hi : updO _ (some 16) _ = i
  refine h i ?_ ?_
  · rw [← hi]; repeat (first | exact Same.refl _ _ | refine Same.some rfl _ ?_)
  · rw [← hi]; rfl
set_option maxHeartbeats 1000000 in
set_option maxRecDepth 100000 in
theorem do32 (b14 : Nat) (r : St) (g : Nat → Value) (e14 : g 14 = .pointer (some ⟨b14, 0, none⟩)) (w : World) (c0 : w.cell? ⟨b14, 0, none⟩ = some (.int .u32 r.a)) (c1 : w.cell? ⟨b14, 1, none⟩ = some (.int .u32 r.b)) (c2 : w.cell? ⟨b14, 2, none⟩ = some (.int .u32 r.c)) (Q : Exit → Act → World → Prop)
    (h : ∀ i, Same (Wr 163 179 17) g i → i 17 = .int .u32 (maj r.a r.b r.c) → Q .normal (frm 270 i) w) : Code.wp Tryd.prog (refReg 32) Q (frm 270 g) w := by
  refine wp_region_lit ?_
  refine plv rfl (is_idx105 0 rfl (by omega) rfl (frm_tmp (by decide) e14) rfl) ?_
  refine plv rfl (is_load103 rfl (frm_tmp (by decide) rfl) c0) ?_
  refine plv rfl (is_idx105 1 rfl (by omega) rfl (frm_tmp (by decide) e14) rfl) ?_
  refine plv rfl (is_load103 rfl (frm_tmp (by decide) rfl) c1) ?_
  refine plv rfl (is_and rfl (frm_tmp (by decide) rfl) (frm_tmp (by decide) rfl)) ?_
  refine plv rfl (is_idx105 0 rfl (by omega) rfl (frm_tmp (by decide) e14) rfl) ?_
  refine plv rfl (is_load103 rfl (frm_tmp (by decide) rfl) c0) ?_
  refine plv rfl (is_idx105 2 rfl (by omega) rfl (frm_tmp (by decide) e14) rfl) ?_
  refine plv rfl (is_load103 rfl (frm_tmp (by decide) rfl) c2) ?_
  refine plv rfl (is_and rfl (frm_tmp (by decide) rfl) (frm_tmp (by decide) rfl)) ?_
  refine plv rfl (is_xor rfl (frm_tmp (by decide) rfl) (frm_tmp (by decide) rfl)) ?_
  refine plv rfl (is_idx105 1 rfl (by omega) rfl (frm_tmp (by decide) e14) rfl) ?_
  refine plv rfl (is_load103 rfl (frm_tmp (by decide) rfl) c1) ?_
  refine plv rfl (is_idx105 2 rfl (by omega) rfl (frm_tmp (by decide) e14) rfl) ?_
  refine plv rfl (is_load103 rfl (frm_tmp (by decide) rfl) c2) ?_
  refine plv rfl (is_and rfl (frm_tmp (by decide) rfl) (frm_tmp (by decide) rfl)) ?_
  refine plv rfl (is_xor rfl (frm_tmp (by decide) rfl) (frm_tmp (by decide) rfl)) ?_
  refine plv rfl (is_move (.inr rfl) (frm_tmp (by decide) rfl)) ?_
  refine wpList_nil ?_
  generalize hi : updO _ (some 17) _ = i
  refine h i ?_ ?_
  · rw [← hi]; repeat (first | exact Same.refl _ _ | refine Same.some rfl _ ?_)
  · rw [← hi]; rfl
set_option maxHeartbeats 1000000 in
set_option maxRecDepth 100000 in
theorem do33 (b6 b8 b14 k : Nat) (hlt : k < 64) (r : St) (xk xw : Int) (g : Nat → Value) (e14 : g 14 = .pointer (some ⟨b14, 0, none⟩)) (e16 : g 16 = .int .u32 (chs r.e r.f r.g)) (e15 : g 15 = .int .i64 (k : Int)) (e8 : g 8 = .pointer (some ⟨b8, 0, none⟩)) (e6 : g 6 = .pointer (some ⟨b6, 0, none⟩))
    (he : U r.e) (w : World) (c4 : w.drew.cell? ⟨b14, 4, none⟩ = some (.int .u32 r.e)) (c7 : w.drew.cell? ⟨b14, 7, none⟩ = some (.int .u32 r.h)) (ck : w.drew.cell? ⟨b8, k, none⟩ = some (.int .u32 xk)) (cw : w.drew.cell? ⟨b6, k, none⟩ = some (.int .u32 xw)) (Q : Exit → Act → World → Prop)
    (h : ∀ i, Same (Wr 180 203 18) g i → i 18 = .int .u32 (r.t1 xk xw) → Q .normal (frm 270 i) w.drew) : Code.wp Tryd.prog (refReg 33) Q (frm 270 g) w := by
  refine wp_region_still_lit (by kernel_rfl) (by kernel_rfl) ?_
  change wpStill _ _ w.drew _ _ _
  refine stv rfl (is_idx105 7 rfl (by omega) rfl (frm_tmp (by decide) e14) rfl) ?_
  refine stv rfl (is_load103 rfl (frm_tmp (by decide) rfl) c7) ?_
  refine stv rfl (is_idx105 4 rfl (by omega) rfl (frm_tmp (by decide) e14) rfl) ?_
  refine stv rfl (is_load103 rfl (frm_tmp (by decide) rfl) c4) ?_
  refine stc rfl (is_call2 Tryd.call72 rfl rfl (frm_tmp (by decide) rfl) rfl (flip (right_6 _ he.1 he.2 _))) ?_
  refine stv rfl (is_idx105 4 rfl (by omega) rfl (frm_tmp (by decide) e14) rfl) ?_
  refine stv rfl (is_load103 rfl (frm_tmp (by decide) rfl) c4) ?_
  refine stc rfl (is_call2 Tryd.call72 rfl rfl (frm_tmp (by decide) rfl) rfl (flip (right_11 _ he.1 he.2 _))) ?_
  refine stv rfl (is_xor rfl (frm_tmp (by decide) rfl) (frm_tmp (by decide) rfl)) ?_
  refine stv rfl (is_idx105 4 rfl (by omega) rfl (frm_tmp (by decide) e14) rfl) ?_
  refine stv rfl (is_load103 rfl (frm_tmp (by decide) rfl) c4) ?_
  refine stc rfl (is_call2 Tryd.call72 rfl rfl (frm_tmp (by decide) rfl) rfl (flip (right_25 _ he.1 he.2 _))) ?_
  refine stv rfl (is_xor rfl (frm_tmp (by decide) rfl) (frm_tmp (by decide) rfl)) ?_
  refine stv rfl (is_add rfl (frm_tmp (by decide) rfl) (frm_tmp (by decide) rfl)) ?_
  refine stv rfl (is_move (.inl rfl) (frm_tmp (by decide) e16)) ?_
  refine stv rfl (is_add rfl (frm_tmp (by decide) rfl) (frm_tmp (by decide) rfl)) ?_
  refine stv rfl (is_move (.inl rfl) (frm_tmp (by decide) e15)) ?_
  refine stv rfl (is_idx104 k rfl hlt rfl (frm_tmp (by decide) e8) (frm_tmp (by decide) rfl)) ?_
  refine stv rfl (is_load103 rfl (frm_tmp (by decide) rfl) ck) ?_
  refine stv rfl (is_add rfl (frm_tmp (by decide) rfl) (frm_tmp (by decide) rfl)) ?_
  refine stv rfl (is_move (.inl rfl) (frm_tmp (by decide) e15)) ?_
  refine stv rfl (is_idx104 k rfl hlt rfl (frm_tmp (by decide) e6) (frm_tmp (by decide) rfl)) ?_
  refine stv rfl (is_load103 rfl (frm_tmp (by decide) rfl) cw) ?_
  refine stv rfl (is_add rfl (frm_tmp (by decide) rfl) (frm_tmp (by decide) rfl)) ?_
  refine stv rfl (is_move (.inr rfl) (frm_tmp (by decide) rfl)) ?_
  refine wpStill_nil ?_
  generalize hi : updO _ (some 18) _ = i
  refine h i ?_ ?_
  · rw [← hi]; repeat (first | exact Same.refl _ _ | refine Same.some rfl _ ?_)
  · rw [← hi, ← t1_sum]; rfl
set_option maxHeartbeats 1000000 in
set_option maxRecDepth 100000 in
theorem do34 (b14 : Nat) (r : St) (g : Nat → Value) (e14 : g 14 = .pointer (some ⟨b14, 0, none⟩)) (e17 : g 17 = .int .u32 (maj r.a r.b r.c)) (ha : U r.a) (w : World) (c0 : w.drew.cell? ⟨b14, 0, none⟩ = some (.int .u32 r.a)) (Q : Exit → Act → World → Prop)
    (h : ∀ i, Same (Wr 204 216 19) g i → i 19 = .int .u32 r.t2 → Q .normal (frm 270 i) w.drew) : Code.wp Tryd.prog (refReg 34) Q (frm 270 g) w := by
  refine wp_region_still_lit (by kernel_rfl) (by kernel_rfl) ?_
  change wpStill _ _ w.drew _ _ _
  refine stv rfl (is_idx105 0 rfl (by omega) rfl (frm_tmp (by decide) e14) rfl) ?_
  refine stv rfl (is_load103 rfl (frm_tmp (by decide) rfl) c0) ?_
  refine stc rfl (is_call2 Tryd.call72 rfl rfl (frm_tmp (by decide) rfl) rfl (flip (right_2 _ ha.1 ha.2 _))) ?_
  refine stv rfl (is_idx105 0 rfl (by omega) rfl (frm_tmp (by decide) e14) rfl) ?_
  refine stv rfl (is_load103 rfl (frm_tmp (by decide) rfl) c0) ?_
  refine stc rfl (is_call2 Tryd.call72 rfl rfl (frm_tmp (by decide) rfl) rfl (flip (right_13 _ ha.1 ha.2 _))) ?_
  refine stv rfl (is_xor rfl (frm_tmp (by decide) rfl) (frm_tmp (by decide) rfl)) ?_
  refine stv rfl (is_idx105 0 rfl (by omega) rfl (frm_tmp (by decide) e14) rfl) ?_
  refine stv rfl (is_load103 rfl (frm_tmp (by decide) rfl) c0) ?_
  refine stc rfl (is_call2 Tryd.call72 rfl rfl (frm_tmp (by decide) rfl) rfl (flip (right_22 _ ha.1 ha.2 _))) ?_
  refine stv rfl (is_xor rfl (frm_tmp (by decide) rfl) (frm_tmp (by decide) rfl)) ?_
  refine stv rfl (is_move (.inl rfl) (frm_tmp (by decide) e17)) ?_
  refine stv rfl (is_add rfl (frm_tmp (by decide) rfl) (frm_tmp (by decide) rfl)) ?_
  refine stv rfl (is_move (.inr rfl) (frm_tmp (by decide) rfl)) ?_
  refine wpStill_nil ?_
  generalize hi : updO _ (some 19) _ = i
  refine h i ?_ ?_
  · rw [← hi]; repeat (first | exact Same.refl _ _ | refine Same.some rfl _ ?_)
  · rw [← hi, ← t2_sum]; rfl
set_option maxHeartbeats 1000000 in
set_option maxRecDepth 100000 in
theorem do35 (b14 : Nat) (r r2 : St) (t1 t2 : Int) (g : Nat → Value) (e14 : g 14 = .pointer (some ⟨b14, 0, none⟩)) (e18 : g 18 = .int .u32 t1) (e19 : g 19 = .int .u32 t2) (w : World) (c0 : w.cell? ⟨b14, 0, none⟩ = some (.int .u32 r.a)) (c1 : w.cell? ⟨b14, 1, none⟩ = some (.int .u32 r.b)) (c2 : w.cell? ⟨b14, 2, none⟩ = some (.int .u32 r.c)) (c3 : w.cell? ⟨b14, 3, none⟩ = some (.int .u32 r.d)) (c4 : w.cell? ⟨b14, 4, none⟩ = some (.int .u32 r.e)) (c5 : w.cell? ⟨b14, 5, none⟩ = some (.int .u32 r.f)) (c6 : w.cell? ⟨b14, 6, none⟩ = some (.int .u32 r.g)) (hh : Has w b14 105 8)
    (hnew : [IntKind.u32.wrap (t1 + t2), r.a, r.b, r.c, IntKind.u32.wrap (r.d + t1), r.e, r.f, r.g] = r2.list) (Q : Exit → Act → World → Prop)
    (h : ∀ i w1, Same (Wr 217 236 236) g i → Put w b14 105 (u32s r2.list) w1 → Q .normal (frm 270 i) w1) : Code.wp Tryd.prog (refReg 35) Q (frm 270 g) w := by
  refine wp_region_lit ?_
  refine plv rfl (is_move (.inl rfl) (frm_tmp (by decide) e18)) ?_
  refine plv rfl (is_move (.inl rfl) (frm_tmp (by decide) e19)) ?_
  refine plv rfl (is_add rfl (frm_tmp (by decide) rfl) (frm_tmp (by decide) rfl)) ?_
  refine plv rfl (is_idx105 0 rfl (by omega) rfl (frm_tmp (by decide) e14) rfl) ?_
  refine plv rfl (is_load103 rfl (frm_tmp (by decide) rfl) c0) ?_
  refine plv rfl (is_idx105 1 rfl (by omega) rfl (frm_tmp (by decide) e14) rfl) ?_
  refine plv rfl (is_load103 rfl (frm_tmp (by decide) rfl) c1) ?_
  refine plv rfl (is_idx105 2 rfl (by omega) rfl (frm_tmp (by decide) e14) rfl) ?_
  refine plv rfl (is_load103 rfl (frm_tmp (by decide) rfl) c2) ?_
  refine plv rfl (is_idx105 3 rfl (by omega) rfl (frm_tmp (by decide) e14) rfl) ?_
  refine plv rfl (is_load103 rfl (frm_tmp (by decide) rfl) c3) ?_
  refine plv rfl (is_move (.inl rfl) (frm_tmp (by decide) e18)) ?_
  refine plv rfl (is_add rfl (frm_tmp (by decide) rfl) (frm_tmp (by decide) rfl)) ?_
  refine plv rfl (is_idx105 4 rfl (by omega) rfl (frm_tmp (by decide) e14) rfl) ?_
  refine plv rfl (is_load103 rfl (frm_tmp (by decide) rfl) c4) ?_
  refine plv rfl (is_idx105 5 rfl (by omega) rfl (frm_tmp (by decide) e14) rfl) ?_
  refine plv rfl (is_load103 rfl (frm_tmp (by decide) rfl) c5) ?_
  refine plv rfl (is_idx105 6 rfl (by omega) rfl (frm_tmp (by decide) e14) rfl) ?_
  refine plv rfl (is_load103 rfl (frm_tmp (by decide) rfl) c6) ?_
  refine plv rfl (is_build105 rfl rfl (frm_tmp (by decide) rfl) (frm_tmp (by decide) rfl) (frm_tmp (by decide) rfl) (frm_tmp (by decide) rfl) (frm_tmp (by decide) rfl) (frm_tmp (by decide) rfl) (frm_tmp (by decide) rfl) (frm_tmp (by decide) rfl)) ?_
  rw [hnew]
  refine wpList_store_row rfl 105 _ _ rfl b14 (frm_tmp (by decide) e14) (u32s r2.list) (frm_tmp (by decide) rfl) 105 hh (by kernel_rfl) (one_u32s _) ?_
  intro w1 hp
  rw [frm_put]
  refine wpList_nil ?_
  generalize hi : updO _ none _ = i
  refine h i w1 ?_ hp
  rw [← hi]; refine Same.none _ ?_; repeat (first | exact Same.refl _ _ | refine Same.some rfl _ ?_)
end Go.Proofs.YtdedphhohiioiaaDoor
