/- The reference's sum: the rounds. -/
import Derived.Test.YtdedphhohiioiaaDoorRefR
namespace Go.Proofs.YtdedphhohiioiaaDoor
open Go.RowKit

theorem in12 {a b x : Nat} {f g : Nat → Value} (h : Same (Wr a b x) f g) (h1 : 147 ≤ a) (h2 : b ≤ 236) (h3 : (15 ≤ x ∧ x ≤ 19) ∨ (147 ≤ x ∧ x ≤ 236)) : Same W12 f g := h.mono fun t ht => by
  simp only [W12, Bool.or_eq_false_iff, Bool.and_eq_false_iff, decide_eq_false_iff_not] at ht
  exact Wr_false (by omega) (by omega)
set_option maxHeartbeats 4000000 in
set_option maxRecDepth 100000 in
theorem loop12 (W0 : World) (B b6 b7 b8 b14 : Nat) (v : Value) (rows ws st : List Int) (s : St) (hsok : s.ok) (hwl : ws.length = 64) (HO1 : B ≤ b6 ∧ b6 < b7 ∧ b7 < b8)
    (f : Nat → Value) (h6 : f 6 = .pointer (some ⟨b6, 0, none⟩)) (h8 : f 8 = .pointer (some ⟨b8, 0, none⟩)) (h14 : f 14 = .pointer (some ⟨b14, 0, none⟩)) (h15 : f 15 = .int .i64 0)
    (Q : Exit → Act → World → Prop) (w : World) (hrs : RV W0 B b6 b7 b8 b14 v rows w ws st kk s.list)
    (hexit : ∀ g w', Same W12 f g → RV W0 B b6 b7 b8 b14 v rows w' ws st kk (s.rnds ws 64).list → Q (.exit 12) (frm 270 g) w') : Code.wp Tryd.prog (refLoop 12) Q (frm 270 f) w := by
  refine wp_loop (fun a w' => ∃ (g : Nat → Value) (k : Nat), a = frm 270 g ∧ k ≤ 64 ∧ Same W12 f g ∧ g 15 = .int .i64 (k : Int) ∧ RV W0 B b6 b7 b8 b14 v rows w' ws st kk (s.rnds ws k).list)
    (fun a _ => 64 - (intOf (a.eval (.tmp 15))).toNat) ⟨f, 0, rfl, by omega, Same.refl _ _, h15, hrs⟩ ?_
  rintro a wr ⟨g, k, rfl, hk, hs, e15, hrs⟩
  refine wp_seq (wp_seq ?_)
  refine wp_region_lit ?_
  refine plv rfl (is_move (.inl rfl) (frm_tmp (by decide) e15)) ?_
  refine plv rfl (is_lss rfl (frm_tmp (by decide) rfl) rfl) ?_
  refine wpList_nil ?_
  change Code.wp _ _ _ _ _
  by_cases hlt : k < 64
  · refine wp_cond_true (frm_tmp (by decide) (congrArg Value.bool (decide_eq_true (by omega)))) (wp_skip ?_)
    change Code.wp _ _ _ _ _
    refine wp_seq (wp_block (wp_seq ?_))
    obtain ⟨r, hr⟩ : ∃ r, r = s.rnds ws k := ⟨_, rfl⟩
    have hrok : r.ok := hr ▸ St.rnds_ok hsok ws k
    rw [← hr] at hrs
    have c0 : wr.cell? ⟨b14, 0, none⟩ = some (.int .u32 r.a) := hrs.cell 0 _ rfl
    have c1 : wr.cell? ⟨b14, 1, none⟩ = some (.int .u32 r.b) := hrs.cell 1 _ rfl
    have c2 : wr.cell? ⟨b14, 2, none⟩ = some (.int .u32 r.c) := hrs.cell 2 _ rfl
    have c3 : wr.cell? ⟨b14, 3, none⟩ = some (.int .u32 r.d) := hrs.cell 3 _ rfl
    have c4 : wr.cell? ⟨b14, 4, none⟩ = some (.int .u32 r.e) := hrs.cell 4 _ rfl
    have c5 : wr.cell? ⟨b14, 5, none⟩ = some (.int .u32 r.f) := hrs.cell 5 _ rfl
    have c6 : wr.cell? ⟨b14, 6, none⟩ = some (.int .u32 r.g) := hrs.cell 6 _ rfl
    have c7 : wr.cell? ⟨b14, 7, none⟩ = some (.int .u32 r.h) := hrs.cell 7 _ rfl
    have ck : wr.cell? ⟨b8, k, none⟩ = some (.int .u32 (kk.getD k 0)) := hrs.rs.cell8 k (by rw [kk_len]; exact hlt)
    have cw : wr.cell? ⟨b6, k, none⟩ = some (.int .u32 (ws.getD k 0)) := hrs.rs.cell6 k (by omega)
    generalize hg : updO _ (some 148) _ = g1
    have s1 : Same W12 f g1 := by rw [← hg]; repeat (first | exact hs | refine Same.some rfl _ ?_)
    have e1 : g1 15 = .int .i64 (k : Int) := by rw [← hg]; exact e15
    clear hg
    refine do31 b14 r g1 ((s1 14 rfl).trans h14) wr c4 c5 c6 _ fun g2 q2 e2 => ?_
    change Code.wp _ _ _ _ _
    have s2 := s1.trans (in12 q2 (by decide) (by decide) (by decide))
    refine wp_seq (do32 b14 r g2 ((s2 14 rfl).trans h14) wr c0 c1 c2 _ fun g3 q3 e3 => ?_)
    change Code.wp _ _ _ _ _
    have s3 := s2.trans (in12 q3 (by decide) (by decide) (by decide))
    refine wp_seq (do33 b6 b8 b14 k hlt r _ _ g3 ((s3 14 rfl).trans h14) ((q3 16 rfl).trans e2) ((q3 15 rfl).trans ((q2 15 rfl).trans e1)) ((s3 8 rfl).trans h8) ((s3 6 rfl).trans h6) hrok.2.2.2.2.1 wr c4 c7 ck cw _ fun g4 q4 e4 => ?_)
    change Code.wp _ _ _ _ _
    have s4 := s3.trans (in12 q4 (by decide) (by decide) (by decide))
    refine wp_seq (do34 b14 r g4 ((s4 14 rfl).trans h14) ((q4 17 rfl).trans e3) hrok.1 wr.drew c0 _ fun g5 q5 e5 => ?_)
    change Code.wp _ _ _ _ _
    have s5 := s4.trans (in12 q5 (by decide) (by decide) (by decide))
    have hnew : [IntKind.u32.wrap (r.t1 (kk.getD k 0) (ws.getD k 0) + r.t2), r.a, r.b, r.c, IntKind.u32.wrap (r.d + r.t1 (kk.getD k 0) (ws.getD k 0)), r.e, r.f, r.g] = (s.rnds ws (k + 1)).list := by
      rw [St.rnds, ← hr]
      simp only [IntKind.wrap_u32]
      rfl
    refine do35 b14 r (s.rnds ws (k + 1)) _ _ g5 ((s5 14 rfl).trans h14) ((q5 18 rfl).trans e4) e5 wr.drew.drew c0 c1 c2 c3 c4 c5 c6 ⟨(u32s r.list).toArray, rfl, hrs.h14⟩ hnew _ fun n w1 q6 hp => ?_
    change Code.wp _ _ _ _ _
    have sn := s5.trans (in12 q6 (by decide) (by decide) (by decide))
    have n15 : n 15 = .int .i64 (k : Int) := (q6 15 rfl).trans ((q5 15 rfl).trans ((q4 15 rfl).trans ((q3 15 rfl).trans ((q2 15 rfl).trans e1))))
    refine wp_region_lit ?_
    refine plv rfl (is_move (.inl rfl) (frm_tmp (by decide) n15)) ?_
    refine plv rfl (is_add rfl (frm_tmp (by decide) rfl) rfl) ?_
    refine plv rfl (is_move (.inr rfl) (frm_tmp (by decide) rfl)) ?_
    refine wpList_nil ?_
    refine ⟨⟨_, k + 1, rfl, by omega, ?_, ?_, ?_⟩, ?_⟩
    · repeat (first | exact sn | refine Same.some rfl _ ?_)
    · exact congrArg (Value.int .i64) ((i64_add _ _ (by omega) (by omega) (by omega) (by omega)).trans (by omega))
    · exact hrs.drew.drew.put HO1 hp
    · rw [frm_tmp (v := .int .i64 ((k : Int) + 1)) (by decide) (congrArg (Value.int .i64) (i64_add _ _ (by omega) (by omega) (by omega) (by omega))), frm_tmp (by decide) e15]
      simp [intOf]
      omega
  · obtain rfl : k = 64 := by omega
    refine wp_cond_false (frm_tmp (by decide) (congrArg Value.bool (decide_eq_false (by omega)))) (wp_exit ?_)
    refine hexit _ _ ?_ hrs
    repeat (first | exact hs | refine Same.some rfl _ ?_)
end Go.Proofs.YtdedphhohiioiaaDoor
