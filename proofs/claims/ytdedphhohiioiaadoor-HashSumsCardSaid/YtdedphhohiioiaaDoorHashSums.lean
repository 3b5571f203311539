/- The sum is that of the document, whatever the bytes. No condition but the constants as they are laid, which the card ties to the program's text. -/
import Derived.Test.YtdedphhohiioiaaDoorHashSumsW
import Derived.Test.YtdedphhohiioiaaDoorHead
namespace Go.Proofs.YtdedphhohiioiaaDoor
open Go.ChangeShapes Go.WideShapes Go.ChangeAt Go.RowKit

set_option maxRecDepth 100000 in
theorem hashSums_lifted (os : Os) (started : os.Started) (H : Type) (enc : TypeId × Value → H) :
    ReturnsInHanded {} Tryd.checked os 3 .any (fun w args => (Rows.hashSumsSpec.pre enc Tryd.prog Tryd.f3 Rows.hashSumsRow.domain false w args ∧ laidMetH Tryd.prog Rows.hashSumsRow.laid w) ∧ sizedMet enc Tryd.prog Tryd.f3 (OpenSpec.ofChange Rows.hashSumsSpec) false w args)
      (Rows.hashSumsSpec.post enc Tryd.prog Tryd.f3 false true false false) := by
  refine returnsInHanded_of_change_and (C := Tryd.checked) (X := fun w _ => laidMetH Tryd.prog Rows.hashSumsRow.laid w) (fun _ _ _ hh h => h.of_heap hh) own started (by kernel_rfl) Tryd.func3
    (ChangeSpec.witness_shaped (enc := enc) (C := Tryd.checked) (os := os) (X := fun w _ => laidMetH Tryd.prog Rows.hashSumsRow.laid w) false (World.doorLaid Tryd.prog 356 os) #[.slice none 0 0] 8 rfl (World.shaped_of_RefB (by kernel_rfl) (by kernel_rfl)) (by kernel_rfl) (by kernel_rfl) (by kernel_rfl) (door_met1 os _)) ?_
  intro W base args ds gs before hval0 hW _ _ hL _
  have hval : ∀ (j : Nat) t v, Tryd.f3.params[j]? = some t → args[j]? = some v → Value.okWide Tryd.prog W .any base t v := hval0
  have hW' := hW
  obtain ⟨p, q, hA0, hV, rfl, hfz, hnd⟩ := hW
  have hA : DataW.TrodAll enc Tryd.prog W 0 (fun _ => true) true Tryd.f3.params.toList args.toList ds p := hA0
  rw [Tryd.params3] at hA hval
  obtain ⟨v0, vs0, d0, ds0', p0, q0, hargs, rfl, rfl, h0, r0⟩ := trodAll_cons hA
  obtain ⟨rfl, rfl, rfl⟩ := trodAll_nil r0
  obtain rfl : args = #[v0] := by cases args; simp_all
  obtain ⟨rfl, rfl⟩ := trodVars_none hV
  have k0 := h0
  have lt0 : ∀ x ∈ p0, x.block < W.heap.size := by obtain ⟨m, hm⟩ := k0; exact DataW.trod_lt m _ _ _ hm
  obtain ⟨bs0, A0, n0, c0, rfl, hn0, hv0⟩ := open_bs (hval 0 22 v0 rfl rfl) h0
  have hk := kk_of_laid1 hL
  clear hA0 hval0
  refine (hashSums_any bs0 A0 n0 c0 W hv0 hn0 hk (size_of_range hk)).mono fun e W' ⟨he, bel⟩ => ?_
  subst he
  exact ⟨_, rfl, _, _, _, [], _, [], hW', trodAll_mk1 (shut_bool Tryd.underlying4 _), (trodAll_cons_mk (Below.trod laidOut (by kernel_rfl) (of_decide_eq_true (by kernel_rfl)) k0 bel lt0) trodAll_mk0), rfl, bel.frame _, fun h => by cases h⟩

set_option maxHeartbeats 4000000 in
theorem hashSums_closed : joinedFacts Tryd.prog 3 Tryd.f3 Rows.hashSumsSpec Rows.hashSumsRow = true := by
  unfold joinedFacts
  repeat' (with_reducible refine andB ?_ ?_)
  all_goals (first | (rw [mayEnter_ok]) | (rw [liftsFinal_ok]; kernel_rfl) | (rw [make_ok]; kernel_rfl) | (as_aux_lemma => kernel_rfl))
theorem hashSums_inst : Tryd.f3.isInstance Tryd.prog Rows.hashSumsRow.origin Rows.hashSumsRow.targs :=
  ⟨by kernel_rfl, by kernel_rfl, by rw [if_pos (by kernel_rfl)]; exact ⟨by kernel_rfl, by kernel_rfl⟩⟩

theorem hashSums_holds : Rows.HashSumsSaid :=
  OpenClaim.holds_of_wide 3 Tryd.f3 rfl rfl rfl rfl rfl rfl rfl ⟨rfl, rfl, rfl, rfl, rfl⟩ rfl rfl rfl rfl rfl (by kernel_rfl) Tryd.func3 hashSums_closed
    hashSums_inst (by unfold Func.isWrapper; first | (rw [if_pos (by decide +kernel)]; kernel_rfl) | (rw [if_neg (by decide +kernel)]; exact ⟨rfl, rfl⟩))
    (fun os started H enc _ => hashSums_lifted os started H enc)

theorem hashSums_goes : false = Rows.hashSumsRow.goesBy Tryd.prog := by kernel_rfl
theorem hashSums_wf : Rows.hashSumsRow.wfByText (OpenSpec.ofChange Rows.hashSumsSpec) = true := by kernel_rfl
theorem hashSums_num : Tryd.prog.funcNamed "quorate/quoratelaw02.HashSums" = some 3 := by kernel_rfl
theorem hashSums_card : Rows.HashSumsCardSaid :=
  Claim7.holds_tied_plain_at .later [] [.data] true (true, "3ebc234e78820a6c3663f2ca88585805a99a1b02e22e4e7f501b54a0bb52bb39") true
    hashSums_holds (fun _ h => by cases h) hashSums_wf (fun _ h => by cases h) hashSums_row_tie rfl ⟨rfl, rfl⟩ mainIs_ok rfl
    (fun f fn hf hfn => by
      obtain rfl : f = 3 := Option.some.inj (hashSums_num.symm.trans hf) |>.symm
      obtain rfl : fn = Tryd.f3 := (Option.some.inj (Tryd.func3.symm.trans hfn)).symm
      exact ⟨looks_ok.symm, fun j t ht => by
          rw [Tryd.params3] at ht
          rcases j with _ | j
          · obtain rfl : t = 22 := by simpa using ht.symm
            exact (show Tryd.prog.wantsStandIn 22 = false by kernel_rfl)
          · simp at ht⟩)
    hashSums_goes
#print axioms hashSums_card
end Go.Proofs.YtdedphhohiioiaaDoor
