/- The reference's sum: all blocks. -/
import Derived.Test.YtdedphhohiioiaaDoorRefB
namespace Go.Proofs.YtdedphhohiioiaaDoor
open Go.RowKit

set_option maxHeartbeats 2000000 in
set_option maxRecDepth 100000 in
theorem loop6 (W0 : World) (B b6 b7 b8 : Nat) (P ws0 : List Int) (v0 : Value) (hP : u8s_ok P) (h64 : P.length % 64 = 0) (hwl0 : ws0.length = 64) (HO1 : B ≤ b6 ∧ b6 < b7 ∧ b7 < b8)
    (f : Nat → Value) (h4 : f 4 = v0) (h6 : f 6 = .pointer (some ⟨b6, 0, none⟩)) (h7 : f 7 = .pointer (some ⟨b7, 0, none⟩)) (h8 : f 8 = .pointer (some ⟨b8, 0, none⟩))
    (Q : Exit → Act → World → Prop) (w : World) (hrs : RS W0 B b6 b7 b8 v0 P w ws0 St.init.list kk)
    (hexit : ∀ g w' v rows ws, Same W7 f g → RS W0 B b6 b7 b8 v rows w' ws (stN P (P.length / 64)).list kk → Q (.exit 6) (frm 270 g) w') : Code.wp Tryd.prog (refLoop 6) Q (frm 270 f) w := by
  refine wp_loop (fun a w' => ∃ (g : Nat → Value) (q k c : Nat) (A : Option Addr) (ws : List Int), a = frm 270 g ∧ 64 * q + k = P.length ∧ Same W7 f g ∧ g 4 = .slice A k c ∧ ws.length = 64 ∧ RS W0 B b6 b7 b8 (.slice A k c) (P.drop (64 * q)) w' ws (stN P q).list kk)
    (fun a _ => vlen (a.eval (.tmp 4))) ?_ ?_
  · obtain ⟨A, c, rfl, _⟩ := hrs.own.len
    rw [u8s_len'] at h4 hrs
    exact ⟨f, 0, P.length, c, A, ws0, rfl, by omega, Same.refl _ _, h4, hwl0, hrs⟩
  rintro a wr ⟨g, q, k, c, A, ws, rfl, hq, hs, e4, hwl, hrs⟩
  have hlen : (P.drop (64 * q)).length = k := by rw [List.length_drop]; omega
  refine wp_seq (wp_seq ?_)
  refine wp_region_lit ?_
  refine plv rfl (is_move (.inl rfl) (frm_tmp (by decide) e4)) ?_
  refine plv rfl (is_len22 rfl (frm_tmp (by decide) rfl)) ?_
  refine plv rfl (is_gtr rfl (frm_tmp (by decide) rfl) rfl) ?_
  refine wpList_nil ?_
  change Code.wp _ _ _ _ _
  by_cases hlt : 0 < k
  · refine wp_cond_true (frm_tmp (by decide) (congrArg Value.bool (decide_eq_true (by omega)))) (wp_skip ?_)
    change Code.wp _ _ _ _ _
    obtain ⟨b, off, c', he, hnc, _, _⟩ := hrs.own.row (by rw [u8s_len']; omega)
    rw [u8s_len', hlen] at he hnc
    simp only [Value.slice.injEq] at he
    obtain ⟨rfl, -, rfl⟩ := he
    refine wp_block (body7 W0 B b6 b7 b8 b off k c (P.drop (64 * q)) ws (stN P q) (stN_ok P q) hwl (hP.drop _) HO1 hlen (by omega) hnc _ (by exact e4) (by exact (hs 6 rfl).trans h6) (by exact (hs 7 rfl).trans h7) (by exact (hs 8 rfl).trans h8) _ wr hrs fun g2 w2 A2 q2 e42 r2 => ?_)
    refine ⟨⟨g2, q + 1, k - 64, c - 64, A2, sch ((P.drop (64 * q)).take 64), rfl, by omega, ?_, e42, sch_len _, ?_⟩, ?_⟩
    · refine Same.trans ?_ q2
      repeat (first | exact hs | refine Same.some rfl _ ?_)
    · rw [List.drop_drop] at r2
      exact r2
    · rw [frm_tmp (by decide) e42, frm_tmp (by decide) e4]
      simp only [vlen]
      omega
  · obtain rfl : k = 0 := by omega
    refine wp_cond_false (frm_tmp (by decide) (congrArg Value.bool (decide_eq_false (by omega)))) (wp_exit ?_)
    obtain rfl : q = P.length / 64 := by omega
    refine hexit _ _ _ _ _ ?_ hrs
    repeat (first | exact hs | refine Same.some rfl _ ?_)
end Go.Proofs.YtdedphhohiioiaaDoor
