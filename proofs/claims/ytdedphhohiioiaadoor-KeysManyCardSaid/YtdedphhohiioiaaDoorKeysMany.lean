/- Signatures by all leaves that are told are right for one root, and unlike those of unlike leaves, whatever the seed, the digest and the leaves. No condition but the constants as they are laid, which the card ties to the program's text. -/
import Derived.Test.YtdedphhohiioiaaDoorBase9
import Derived.Test.YtdedphhohiioiaaDoorBase22
namespace Go.Proofs.YtdedphhohiioiaaDoor
open Go.ChangeShapes Go.WideShapes Go.ChangeAt Go.RowKit

set_option maxRecDepth 100000 in
theorem keysMany_lifted (os : Os) (started : os.Started) (H : Type) (enc : TypeId × Value → H) :
    ReturnsInHanded {} Tryd.checked os 24 .any (fun w args => (Rows.keysManySpec.pre enc Tryd.prog Tryd.f24 Rows.keysManyRow.domain false w args ∧ laidMetH Tryd.prog Rows.keysManyRow.laid w) ∧ sizedMet enc Tryd.prog Tryd.f24 (OpenSpec.ofChange Rows.keysManySpec) false w args)
      (Rows.keysManySpec.post enc Tryd.prog Tryd.f24 false true false false) := by
  refine returnsInHanded_of_change_and (C := Tryd.checked) (X := fun w _ => laidMetH Tryd.prog Rows.keysManyRow.laid w) (fun _ _ _ hh h => h.of_heap hh) own started (by kernel_rfl) Tryd.func24
    (ChangeSpec.witness_shaped (enc := enc) (C := Tryd.checked) (os := os) (X := fun w _ => laidMetH Tryd.prog Rows.keysManyRow.laid w) false (World.doorLaid Tryd.prog 356 os) #[.agg #[.int .u8 0, .int .u8 0, .int .u8 0, .int .u8 0, .int .u8 0, .int .u8 0, .int .u8 0, .int .u8 0, .int .u8 0, .int .u8 0, .int .u8 0, .int .u8 0, .int .u8 0, .int .u8 0, .int .u8 0, .int .u8 0], .agg #[.int .u8 0, .int .u8 0, .int .u8 0, .int .u8 0, .int .u8 0, .int .u8 0, .int .u8 0, .int .u8 0, .int .u8 0, .int .u8 0, .int .u8 0, .int .u8 0, .int .u8 0, .int .u8 0, .int .u8 0, .int .u8 0], .slice none 0 0] 8 rfl (World.shaped_of_RefB (by kernel_rfl) (by kernel_rfl)) (by kernel_rfl) (by kernel_rfl) (by kernel_rfl) (door_metN os _)) ?_
  intro W base args ds gs before hval0 hW _ _ hL _
  have hval : ∀ (j : Nat) t v, Tryd.f24.params[j]? = some t → args[j]? = some v → Value.okWide Tryd.prog W .any base t v := hval0
  have hW' := hW
  obtain ⟨p, q, hA0, hV, rfl, hfz, hnd⟩ := hW
  have hA : DataW.TrodAll enc Tryd.prog W 0 (fun _ => true) true Tryd.f24.params.toList args.toList ds p := hA0
  rw [Tryd.params24] at hA hval
  obtain ⟨v0, vs0, d0, ds0', p0, q0, hargs, rfl, rfl, h0, r0⟩ := trodAll_cons hA
  obtain ⟨v1, vs1, d1, ds1', p1, q1, rfl, rfl, rfl, h1, r1⟩ := trodAll_cons r0
  obtain ⟨v2, vs2, d2, ds2', p2, q2, rfl, rfl, rfl, h2, r2⟩ := trodAll_cons r1
  obtain ⟨rfl, rfl, rfl⟩ := trodAll_nil r2
  obtain rfl : args = #[v0, v1, v2] := by cases args; simp_all
  obtain ⟨rfl, rfl⟩ := trodVars_none hV
  have k0 := h0
  have lt0 : ∀ x ∈ p0, x.block < W.heap.size := by obtain ⟨m, hm⟩ := k0; exact DataW.trod_lt m _ _ _ hm
  obtain ⟨ds0, rfl, hl0, hb0⟩ := open_bytes Tryd.underlying43 Tryd.underlying5 (by kernel_rfl) (by kernel_rfl) (by omega) h0
  have k1 := h1
  have lt1 : ∀ x ∈ p1, x.block < W.heap.size := by obtain ⟨m, hm⟩ := k1; exact DataW.trod_lt m _ _ _ hm
  obtain ⟨ds1, rfl, hl1, hb1⟩ := open_bytes Tryd.underlying43 Tryd.underlying5 (by kernel_rfl) (by kernel_rfl) (by omega) h1
  have k2 := h2
  have lt2 : ∀ x ∈ p2, x.block < W.heap.size := by obtain ⟨m, hm⟩ := k2; exact DataW.trod_lt m _ _ _ hm
  obtain ⟨xs2, A2, n2, c2, rfl, hv2⟩ := open_ins (hval 2 69 v2 rfl rfl) h2
  have hk := kk_of_laidN hL
  obtain ⟨al, hsen⟩ := sen_of_laidN hL
  clear hA0 hval0
  refine (keysMany_any ds0 ds1 hl0 hb0 hl1 hb1 xs2 A2 n2 c2 al W hv2 hsen hk (size_of_range hk)).mono fun e W' ⟨he, bel⟩ => ?_
  subst he
  exact ⟨_, rfl, _, _, _, [], _, [], hW', trodAll_mk1 (shut_bool Tryd.underlying4 _), (trodAll_cons_mk (Below.trod laidOut (by kernel_rfl) (of_decide_eq_true (by kernel_rfl)) k0 bel lt0) (trodAll_cons_mk (Below.trod laidOut (by kernel_rfl) (of_decide_eq_true (by kernel_rfl)) k1 bel lt1) (trodAll_cons_mk (Below.trod laidOut (by kernel_rfl) (of_decide_eq_true (by kernel_rfl)) k2 bel lt2) trodAll_mk0))), rfl, bel.frame _, fun h => by cases h⟩

set_option maxHeartbeats 4000000 in
theorem keysMany_closed : joinedFacts Tryd.prog 24 Tryd.f24 Rows.keysManySpec Rows.keysManyRow = true := by
  unfold joinedFacts
  repeat' (with_reducible refine andB ?_ ?_)
  all_goals (first | (rw [mayEnter_ok]) | (rw [liftsFinal_ok]; kernel_rfl) | (rw [make_ok]; kernel_rfl) | (as_aux_lemma => kernel_rfl))
theorem keysMany_inst : Tryd.f24.isInstance Tryd.prog Rows.keysManyRow.origin Rows.keysManyRow.targs :=
  ⟨by kernel_rfl, by kernel_rfl, by rw [if_pos (by kernel_rfl)]; exact ⟨by kernel_rfl, by kernel_rfl⟩⟩

theorem keysMany_holds : Rows.KeysManySaid :=
  OpenClaim.holds_of_wide 24 Tryd.f24 rfl rfl rfl rfl rfl rfl rfl ⟨rfl, rfl, rfl, rfl, rfl⟩ rfl rfl rfl rfl rfl (by kernel_rfl) Tryd.func24 keysMany_closed
    keysMany_inst (by unfold Func.isWrapper; first | (rw [if_pos (by decide +kernel)]; kernel_rfl) | (rw [if_neg (by decide +kernel)]; exact ⟨rfl, rfl⟩))
    (fun os started H enc _ => keysMany_lifted os started H enc)

theorem keysMany_goes : false = Rows.keysManyRow.goesBy Tryd.prog := by kernel_rfl
theorem keysMany_wf : Rows.keysManyRow.wfByText (OpenSpec.ofChange Rows.keysManySpec) = true := by kernel_rfl
theorem keysMany_num : Tryd.prog.funcNamed "quorate/quoratelaw05.KeysMany" = some 24 := by kernel_rfl
theorem keysMany_card : Rows.KeysManyCardSaid :=
  Claim7.holds_tied_plain_at .later [] [.sentinel, .sentinel, .sentinel, .sentinel, .sentinel, .sentinel, .sentinel, .sentinel, .sentinel, .sentinel, .sentinel, .sentinel, .sentinel, .sentinel, .sentinel, .sentinel, .sentinel, .sentinel, .data] true (true, "3ebc234e78820a6c3663f2ca88585805a99a1b02e22e4e7f501b54a0bb52bb39") true
    keysMany_holds (fun _ h => by cases h) keysMany_wf (fun _ h => by cases h) keysMany_row_tie rfl ⟨rfl, rfl⟩ mainIs_ok rfl
    (fun f fn hf hfn => by
      obtain rfl : f = 24 := Option.some.inj (keysMany_num.symm.trans hf) |>.symm
      obtain rfl : fn = Tryd.f24 := (Option.some.inj (Tryd.func24.symm.trans hfn)).symm
      exact ⟨looks_ok.symm, fun j t ht => by
          rw [Tryd.params24] at ht
          rcases j with _ | j
          · obtain rfl : t = 43 := by simpa using ht.symm
            exact (show Tryd.prog.wantsStandIn 43 = false by kernel_rfl)
          rcases j with _ | j
          · obtain rfl : t = 43 := by simpa using ht.symm
            exact (show Tryd.prog.wantsStandIn 43 = false by kernel_rfl)
          rcases j with _ | j
          · obtain rfl : t = 69 := by simpa using ht.symm
            exact (show Tryd.prog.wantsStandIn 69 = false by kernel_rfl)
          · simp at ht⟩)
    keysMany_goes
#print axioms keysMany_card
end Go.Proofs.YtdedphhohiioiaaDoor
