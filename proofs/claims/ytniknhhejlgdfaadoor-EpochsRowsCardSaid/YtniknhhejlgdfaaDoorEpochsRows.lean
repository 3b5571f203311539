/- Grounds of a row of ids are counted on and keep their own validators, whatever the validators and the ids. No condition but the constants as they are laid, which the card ties to the program's text. -/
import Derived.Test.YtniknhhejlgdfaaDoorBase7
import Derived.Test.YtniknhhejlgdfaaDoorBase9
import Derived.Test.YtniknhhejlgdfaaDoorBase15
import Derived.Test.YtniknhhejlgdfaaDoorBase16
namespace Go.Proofs.YtniknhhejlgdfaaDoor
open Go.ChangeShapes Go.WideShapes Go.ChangeAt Go.RowKit

set_option maxRecDepth 100000 in
theorem epochsRows_lifted (os : Os) (started : os.Started) (H : Type) (enc : TypeId × Value → H) :
    ReturnsInHanded {} Tryd.checked os 4 .any (fun w args => (Rows.epochsRowsSpec.pre enc Tryd.prog Tryd.f4 Rows.epochsRowsRow.domain false w args ∧ laidMetH Tryd.prog Rows.epochsRowsRow.laid w) ∧ sizedMet enc Tryd.prog Tryd.f4 (OpenSpec.ofChange Rows.epochsRowsSpec) false w args)
      (Rows.epochsRowsSpec.post enc Tryd.prog Tryd.f4 false true false false) := by
  refine returnsInHanded_of_change_and (C := Tryd.checked) (X := fun w _ => laidMetH Tryd.prog Rows.epochsRowsRow.laid w) (fun _ _ _ hh h => h.of_heap hh) own started (by kernel_rfl) Tryd.func4
    (ChangeSpec.witness_shaped (enc := enc) (C := Tryd.checked) (os := os) (X := fun w _ => laidMetH Tryd.prog Rows.epochsRowsRow.laid w) false (World.doorLaid Tryd.prog 356 os) #[.slice none 0 0, .slice none 0 0] 8 rfl (World.shaped_of_RefB (by kernel_rfl) (by kernel_rfl)) (by kernel_rfl) (by kernel_rfl) (by kernel_rfl) (door_metE os _)) ?_
  intro W base args ds gs before hval0 hW _ _ hL _
  have hval : ∀ (j : Nat) t v, Tryd.f4.params[j]? = some t → args[j]? = some v → Value.okWide Tryd.prog W .any base t v := hval0
  have hW' := hW
  obtain ⟨p, q, hA0, hV, rfl, hfz, hnd⟩ := hW
  have hA : DataW.TrodAll enc Tryd.prog W 0 (fun _ => true) true Tryd.f4.params.toList args.toList ds p := hA0
  rw [Tryd.params4] at hA hval
  obtain ⟨v0, vs0, d0, ds0', p0, q0, hargs, rfl, rfl, h0, r0⟩ := trodAll_cons hA
  obtain ⟨v1, vs1, d1, ds1', p1, q1, rfl, rfl, rfl, h1, r1⟩ := trodAll_cons r0
  obtain ⟨rfl, rfl, rfl⟩ := trodAll_nil r1
  obtain rfl : args = #[v0, v1] := by cases args; simp_all
  obtain ⟨rfl, rfl⟩ := trodVars_none hV
  have k0 := h0
  have lt0 : ∀ x ∈ p0, x.block < W.heap.size := by obtain ⟨m, hm⟩ := k0; exact DataW.trod_lt m _ _ _ hm
  obtain ⟨vs0'', A0, n0, c0, rfl, hv0⟩ := open_vals (hval 0 22 v0 rfl rfl) h0
  have k1 := h1
  have lt1 : ∀ x ∈ p1, x.block < W.heap.size := by obtain ⟨m, hm⟩ := k1; exact DataW.trod_lt m _ _ _ hm
  obtain ⟨dss1, A1, n1, c1, rfl, hn1, hv1⟩ := open_dgs (hval 1 43 v1 rfl rfl) h1
  obtain ⟨aR, aS, aE, hem⟩ := em_of_laidE hL
  clear hA0 hval0
  refine (epochsRows_any vs0'' A0 n0 c0 dss1 A1 n1 c1 aR aS aE W hv0 hv1 hn1 hem).mono fun e W' ⟨he, bel⟩ => ?_
  subst he
  exact ⟨_, rfl, _, _, _, [], _, [], hW', trodAll_mk1 (shut_bool Tryd.underlying4 _), (trodAll_cons_mk (Below.trod laidOut (by kernel_rfl) (of_decide_eq_true (by kernel_rfl)) k0 bel lt0) (trodAll_cons_mk (Below.trod laidOut (by kernel_rfl) (of_decide_eq_true (by kernel_rfl)) k1 bel lt1) trodAll_mk0)), rfl, bel.frame _, fun h => by cases h⟩

set_option maxHeartbeats 4000000 in
theorem epochsRows_closed : joinedFacts Tryd.prog 4 Tryd.f4 Rows.epochsRowsSpec Rows.epochsRowsRow = true := by
  unfold joinedFacts
  repeat' (with_reducible refine andB ?_ ?_)
  all_goals (first | (rw [mayEnter_ok]) | (rw [liftsFinal_ok]; kernel_rfl) | (rw [make_ok]; kernel_rfl) | (as_aux_lemma => kernel_rfl))
theorem epochsRows_inst : Tryd.f4.isInstance Tryd.prog Rows.epochsRowsRow.origin Rows.epochsRowsRow.targs :=
  ⟨by kernel_rfl, by kernel_rfl, by rw [if_pos (by kernel_rfl)]; exact ⟨by kernel_rfl, by kernel_rfl⟩⟩

theorem epochsRows_holds : Rows.EpochsRowsSaid :=
  OpenClaim.holds_of_wide 4 Tryd.f4 rfl rfl rfl rfl rfl rfl rfl ⟨rfl, rfl, rfl, rfl, rfl⟩ rfl rfl rfl rfl rfl (by kernel_rfl) Tryd.func4 epochsRows_closed
    epochsRows_inst (by unfold Func.isWrapper; first | (rw [if_pos (by decide +kernel)]; kernel_rfl) | (rw [if_neg (by decide +kernel)]; exact ⟨rfl, rfl⟩))
    (fun os started H enc _ => epochsRows_lifted os started H enc)

theorem epochsRows_goes : false = Rows.epochsRowsRow.goesBy Tryd.prog := by kernel_rfl
theorem epochsRows_wf : Rows.epochsRowsRow.wfByText (OpenSpec.ofChange Rows.epochsRowsSpec) = true := by kernel_rfl
theorem epochsRows_num : Tryd.prog.funcNamed "quorate/quoratelaw20.EpochsRows" = some 4 := by kernel_rfl
theorem epochsRows_card : Rows.EpochsRowsCardSaid :=
  Claim7.holds_tied_plain_at .later [] [.sentinel, .sentinel, .sentinel, .data] true (true, "812279d2dbfb78d8f855331c0f8375c20b853a5a2bbd18a2adf1ed4ec52f4248") true
    epochsRows_holds (fun _ h => by cases h) epochsRows_wf (fun _ h => by cases h) epochsRows_row_tie rfl ⟨rfl, rfl⟩ mainIs_ok rfl
    (fun f fn hf hfn => by
      obtain rfl : f = 4 := Option.some.inj (epochsRows_num.symm.trans hf) |>.symm
      obtain rfl : fn = Tryd.f4 := (Option.some.inj (Tryd.func4.symm.trans hfn)).symm
      exact ⟨looks_ok.symm, fun j t ht => by
          rw [Tryd.params4] at ht
          rcases j with _ | j
          · obtain rfl : t = 22 := by simpa using ht.symm
            exact (show Tryd.prog.wantsStandIn 22 = false by kernel_rfl)
          rcases j with _ | j
          · obtain rfl : t = 43 := by simpa using ht.symm
            exact (show Tryd.prog.wantsStandIn 43 = false by kernel_rfl)
          · simp at ht⟩)
    epochsRows_goes
#print axioms epochsRows_card
end Go.Proofs.YtniknhhejlgdfaaDoor
