/- After every piece the sum is that of all pieces so far, whatever they are, and what is written over them later changes nothing. No condition but the constants as they are laid, which the card ties to the program's text. -/
import Derived.Test.YtdedphhohiioiaaDoorHashPiecesW
import Derived.Test.YtdedphhohiioiaaDoorKitB
import Derived.Test.YtdedphhohiioiaaDoorHead
namespace Go.Proofs.YtdedphhohiioiaaDoor
open Go.ChangeShapes Go.WideShapes Go.ChangeAt Go.RowKit

set_option maxRecDepth 100000 in
theorem hashPieces_lifted (os : Os) (started : os.Started) (H : Type) (enc : TypeId × Value → H) :
    ReturnsInHanded {} Tryd.checked os 4 .any (fun w args => (Rows.hashPiecesSpec.pre enc Tryd.prog Tryd.f4 Rows.hashPiecesRow.domain false w args ∧ laidMetH Tryd.prog Rows.hashPiecesRow.laid w) ∧ sizedMet enc Tryd.prog Tryd.f4 (OpenSpec.ofChange Rows.hashPiecesSpec) false w args)
      (Rows.hashPiecesSpec.post enc Tryd.prog Tryd.f4 false true false false) := by
  refine returnsInHanded_of_change_and (C := Tryd.checked) (X := fun w _ => laidMetH Tryd.prog Rows.hashPiecesRow.laid w) (fun _ _ _ hh h => h.of_heap hh) own started (by kernel_rfl) Tryd.func4
    (ChangeSpec.witness_shaped (enc := enc) (C := Tryd.checked) (os := os) (X := fun w _ => laidMetH Tryd.prog Rows.hashPiecesRow.laid w) false (World.doorLaid Tryd.prog 356 os) #[.slice none 0 0] 8 rfl (World.shaped_of_RefB (by kernel_rfl) (by kernel_rfl)) (by kernel_rfl) (by kernel_rfl) (by kernel_rfl) (door_met1 os _)) ?_
  intro W base args ds gs before hval0 hW _ _ hL _
  have hval : ∀ (j : Nat) t v, Tryd.f4.params[j]? = some t → args[j]? = some v → Value.okWide Tryd.prog W .any base t v := hval0
  have hW' := hW
  obtain ⟨p, q, hA0, hV, rfl, hfz, hnd⟩ := hW
  have hA : DataW.TrodAll enc Tryd.prog W 0 (fun _ => true) true Tryd.f4.params.toList args.toList ds p := hA0
  rw [Tryd.params4] at hA hval
  obtain ⟨v0, vs0, d0, ds0', p0, q0, hargs, rfl, rfl, h0, r0⟩ := trodAll_cons hA
  obtain ⟨rfl, rfl, rfl⟩ := trodAll_nil r0
  obtain rfl : args = #[v0] := by cases args; simp_all
  obtain ⟨rfl, rfl⟩ := trodVars_none hV
  have k0 := h0
  have lt0 : ∀ x ∈ p0, x.block < W.heap.size := by obtain ⟨m, hm⟩ := k0; exact DataW.trod_lt m _ _ _ hm
  obtain ⟨bss0, A0, n0, c0, rfl, hn0, hv0⟩ := open_bss (hval 0 30 v0 rfl rfl) h0
  have hk := kk_of_laid1 hL
  clear hA0 hval0
  refine (hashPieces_any bss0 A0 n0 c0 W hv0 hn0 hk (size_of_range hk)).mono fun e W' ⟨he, bel⟩ => ?_
  subst he
  exact ⟨_, rfl, _, _, _, [], _, [], hW', trodAll_mk1 (shut_bool Tryd.underlying4 _), (trodAll_cons_mk (Below.trod laidOut (by kernel_rfl) (of_decide_eq_true (by kernel_rfl)) k0 bel lt0) trodAll_mk0), rfl, bel.frame _, fun h => by cases h⟩

set_option maxHeartbeats 4000000 in
theorem hashPieces_closed : joinedFacts Tryd.prog 4 Tryd.f4 Rows.hashPiecesSpec Rows.hashPiecesRow = true := by
  unfold joinedFacts
  repeat' (with_reducible refine andB ?_ ?_)
  all_goals (first | (rw [mayEnter_ok]) | (rw [liftsFinal_ok]; kernel_rfl) | (rw [make_ok]; kernel_rfl) | (as_aux_lemma => kernel_rfl))
theorem hashPieces_inst : Tryd.f4.isInstance Tryd.prog Rows.hashPiecesRow.origin Rows.hashPiecesRow.targs :=
  ⟨by kernel_rfl, by kernel_rfl, by rw [if_pos (by kernel_rfl)]; exact ⟨by kernel_rfl, by kernel_rfl⟩⟩

theorem hashPieces_holds : Rows.HashPiecesSaid :=
  OpenClaim.holds_of_wide 4 Tryd.f4 rfl rfl rfl rfl rfl rfl rfl ⟨rfl, rfl, rfl, rfl, rfl⟩ rfl rfl rfl rfl rfl (by kernel_rfl) Tryd.func4 hashPieces_closed
    hashPieces_inst (by unfold Func.isWrapper; first | (rw [if_pos (by decide +kernel)]; kernel_rfl) | (rw [if_neg (by decide +kernel)]; exact ⟨rfl, rfl⟩))
    (fun os started H enc _ => hashPieces_lifted os started H enc)

theorem hashPieces_goes : false = Rows.hashPiecesRow.goesBy Tryd.prog := by kernel_rfl
theorem hashPieces_wf : Rows.hashPiecesRow.wfByText (OpenSpec.ofChange Rows.hashPiecesSpec) = true := by kernel_rfl
theorem hashPieces_num : Tryd.prog.funcNamed "quorate/quoratelaw02.HashPieces" = some 4 := by kernel_rfl
theorem hashPieces_card : Rows.HashPiecesCardSaid :=
  Claim7.holds_tied_plain_at .later [] [.data] true (true, "3ebc234e78820a6c3663f2ca88585805a99a1b02e22e4e7f501b54a0bb52bb39") true
    hashPieces_holds (fun _ h => by cases h) hashPieces_wf (fun _ h => by cases h) hashPieces_row_tie rfl ⟨rfl, rfl⟩ mainIs_ok rfl
    (fun f fn hf hfn => by
      obtain rfl : f = 4 := Option.some.inj (hashPieces_num.symm.trans hf) |>.symm
      obtain rfl : fn = Tryd.f4 := (Option.some.inj (Tryd.func4.symm.trans hfn)).symm
      exact ⟨looks_ok.symm, fun j t ht => by
          rw [Tryd.params4] at ht
          rcases j with _ | j
          · obtain rfl : t = 30 := by simpa using ht.symm
            exact (show Tryd.prog.wantsStandIn 30 = false by kernel_rfl)
          · simp at ht⟩)
    hashPieces_goes
#print axioms hashPieces_card
end Go.Proofs.YtdedphhohiioiaaDoor
