/- A signature that is changed in a byte is not the same any more, and is right just if the document says so, whatever is signed and whatever is changed. No condition but the constants as they are laid, which the card ties to the program's text. -/
import Derived.Test.YtdedphhohiioiaaDoorBase9
import Derived.Test.YtdedphhohiioiaaDoorBase24
import Derived.Test.YtdedphhohiioiaaDoorBase25
namespace Go.Proofs.YtdedphhohiioiaaDoor
open Go.ChangeShapes Go.WideShapes Go.ChangeAt Go.RowKit

set_option maxRecDepth 100000 in
theorem keysSpoilt_lifted (os : Os) (started : os.Started) (H : Type) (enc : TypeId × Value → H) :
    ReturnsInHanded {} Tryd.checked os 23 .any (fun w args => (Rows.keysSpoiltSpec.pre enc Tryd.prog Tryd.f23 Rows.keysSpoiltRow.domain false w args ∧ laidMetH Tryd.prog Rows.keysSpoiltRow.laid w) ∧ sizedMet enc Tryd.prog Tryd.f23 (OpenSpec.ofChange Rows.keysSpoiltSpec) false w args)
      (Rows.keysSpoiltSpec.post enc Tryd.prog Tryd.f23 false true false false) := by
  refine returnsInHanded_of_change_and (C := Tryd.checked) (X := fun w _ => laidMetH Tryd.prog Rows.keysSpoiltRow.laid w) (fun _ _ _ hh h => h.of_heap hh) own started (by kernel_rfl) Tryd.func23
    (ChangeSpec.witness_shaped (enc := enc) (C := Tryd.checked) (os := os) (X := fun w _ => laidMetH Tryd.prog Rows.keysSpoiltRow.laid w) false (World.doorLaid Tryd.prog 356 os) #[.agg #[.int .u8 0, .int .u8 0, .int .u8 0, .int .u8 0, .int .u8 0, .int .u8 0, .int .u8 0, .int .u8 0, .int .u8 0, .int .u8 0, .int .u8 0, .int .u8 0, .int .u8 0, .int .u8 0, .int .u8 0, .int .u8 0, .int .u8 0, .int .u8 0, .int .u8 0, .int .u8 0, .int .u8 0, .int .u8 0, .int .u8 0, .int .u8 0, .int .u8 0, .int .u8 0, .int .u8 0, .int .u8 0, .int .u8 0, .int .u8 0, .int .u8 0, .int .u8 0, .int .i64 0, .int .i64 0, .int .u8 0, .bool false]] 8 rfl (World.shaped_of_RefB (by kernel_rfl) (by kernel_rfl)) (by kernel_rfl) (by kernel_rfl) (by kernel_rfl) (door_metN os _)) ?_
  intro W base args ds gs before hval0 hW _ _ hL _
  have hval : ∀ (j : Nat) t v, Tryd.f23.params[j]? = some t → args[j]? = some v → Value.okWide Tryd.prog W .any base t v := hval0
  have hW' := hW
  obtain ⟨p, q, hA0, hV, rfl, hfz, hnd⟩ := hW
  have hA : DataW.TrodAll enc Tryd.prog W 0 (fun _ => true) true Tryd.f23.params.toList args.toList ds p := hA0
  rw [Tryd.params23] at hA hval
  obtain ⟨v0, vs0, d0, ds0', p0, q0, hargs, rfl, rfl, h0, r0⟩ := trodAll_cons hA
  obtain ⟨rfl, rfl, rfl⟩ := trodAll_nil r0
  obtain rfl : args = #[v0] := by cases args; simp_all
  obtain ⟨rfl, rfl⟩ := trodVars_none hV
  have k0 := h0
  have lt0 : ∀ x ∈ p0, x.block < W.heap.size := by obtain ⟨m, hm⟩ := k0; exact DataW.trod_lt m _ _ _ hm
  obtain ⟨x0, m0, lf0, at0, by0, way0, rfl, gx0, gm0, hby0⟩ := open_spoilt h0
  have hk := kk_of_laidN hL
  obtain ⟨al, hsen⟩ := sen_of_laidN hL
  clear hA0 hval0
  refine (keysSpoilt_any x0 m0 gx0.1 gx0.2 gm0.1 gm0.2 lf0 at0 by0 way0 hby0 al W hsen hk (size_of_range hk)).mono fun e W' ⟨he, bel⟩ => ?_
  subst he
  exact ⟨_, rfl, _, _, _, [], _, [], hW', trodAll_mk1 (shut_bool Tryd.underlying4 _), (trodAll_cons_mk (Below.trod laidOut (by kernel_rfl) (of_decide_eq_true (by kernel_rfl)) k0 bel lt0) trodAll_mk0), rfl, bel.frame _, fun h => by cases h⟩

set_option maxHeartbeats 4000000 in
theorem keysSpoilt_closed : joinedFacts Tryd.prog 23 Tryd.f23 Rows.keysSpoiltSpec Rows.keysSpoiltRow = true := by
  unfold joinedFacts
  repeat' (with_reducible refine andB ?_ ?_)
  all_goals (first | (rw [mayEnter_ok]) | (rw [liftsFinal_ok]; kernel_rfl) | (rw [make_ok]; kernel_rfl) | (as_aux_lemma => kernel_rfl))
theorem keysSpoilt_inst : Tryd.f23.isInstance Tryd.prog Rows.keysSpoiltRow.origin Rows.keysSpoiltRow.targs :=
  ⟨by kernel_rfl, by kernel_rfl, by rw [if_pos (by kernel_rfl)]; exact ⟨by kernel_rfl, by kernel_rfl⟩⟩

theorem keysSpoilt_holds : Rows.KeysSpoiltSaid :=
  OpenClaim.holds_of_wide 23 Tryd.f23 rfl rfl rfl rfl rfl rfl rfl ⟨rfl, rfl, rfl, rfl, rfl⟩ rfl rfl rfl rfl rfl (by kernel_rfl) Tryd.func23 keysSpoilt_closed
    keysSpoilt_inst (by unfold Func.isWrapper; first | (rw [if_pos (by decide +kernel)]; kernel_rfl) | (rw [if_neg (by decide +kernel)]; exact ⟨rfl, rfl⟩))
    (fun os started H enc _ => keysSpoilt_lifted os started H enc)

theorem keysSpoilt_goes : false = Rows.keysSpoiltRow.goesBy Tryd.prog := by kernel_rfl
theorem keysSpoilt_wf : Rows.keysSpoiltRow.wfByText (OpenSpec.ofChange Rows.keysSpoiltSpec) = true := by kernel_rfl
theorem keysSpoilt_num : Tryd.prog.funcNamed "quorate/quoratelaw05.KeysSpoilt" = some 23 := by kernel_rfl
theorem keysSpoilt_card : Rows.KeysSpoiltCardSaid :=
  Claim7.holds_tied_plain_at .later [] [.sentinel, .sentinel, .sentinel, .sentinel, .sentinel, .sentinel, .sentinel, .sentinel, .sentinel, .sentinel, .sentinel, .sentinel, .sentinel, .sentinel, .sentinel, .sentinel, .sentinel, .sentinel, .data] true (true, "3ebc234e78820a6c3663f2ca88585805a99a1b02e22e4e7f501b54a0bb52bb39") true
    keysSpoilt_holds (fun _ h => by cases h) keysSpoilt_wf (fun _ h => by cases h) keysSpoilt_row_tie rfl ⟨rfl, rfl⟩ mainIs_ok rfl
    (fun f fn hf hfn => by
      obtain rfl : f = 23 := Option.some.inj (keysSpoilt_num.symm.trans hf) |>.symm
      obtain rfl : fn = Tryd.f23 := (Option.some.inj (Tryd.func23.symm.trans hfn)).symm
      exact ⟨looks_ok.symm, fun j t ht => by
          rw [Tryd.params23] at ht
          rcases j with _ | j
          · obtain rfl : t = 99 := by simpa using ht.symm
            exact (show Tryd.prog.wantsStandIn 99 = false by kernel_rfl)
          · simp at ht⟩)
    keysSpoilt_goes
#print axioms keysSpoilt_card
end Go.Proofs.YtdedphhohiioiaaDoor
