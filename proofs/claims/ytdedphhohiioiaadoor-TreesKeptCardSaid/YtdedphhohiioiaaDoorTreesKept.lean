/- Leaves and ways that are handed in stay as they are, and what is answered is apart, whatever the leaves and the place. No condition but the constants as they are laid, which the card ties to the program's text. -/
import Derived.Test.YtdedphhohiioiaaDoorBase9
import Derived.Test.YtdedphhohiioiaaDoorBase15
namespace Go.Proofs.YtdedphhohiioiaaDoor
open Go.ChangeShapes Go.WideShapes Go.ChangeAt Go.RowKit

set_option maxRecDepth 100000 in
theorem treesKept_lifted (os : Os) (started : os.Started) (H : Type) (enc : TypeId × Value → H) :
    ReturnsInHanded {} Tryd.checked os 16 .any (fun w args => (Rows.treesKeptSpec.pre enc Tryd.prog Tryd.f16 Rows.treesKeptRow.domain false w args ∧ laidMetH Tryd.prog Rows.treesKeptRow.laid w) ∧ sizedMet enc Tryd.prog Tryd.f16 (OpenSpec.ofChange Rows.treesKeptSpec) false w args)
      (Rows.treesKeptSpec.post enc Tryd.prog Tryd.f16 false true false false) := by
  refine returnsInHanded_of_change_and (C := Tryd.checked) (X := fun w _ => laidMetH Tryd.prog Rows.treesKeptRow.laid w) (fun _ _ _ hh h => h.of_heap hh) own started (by kernel_rfl) Tryd.func16
    (ChangeSpec.witness_shaped (enc := enc) (C := Tryd.checked) (os := os) (X := fun w _ => laidMetH Tryd.prog Rows.treesKeptRow.laid w) false (World.doorLaid Tryd.prog 356 os) #[.slice none 0 0, .int .i64 0] 8 rfl (World.shaped_of_RefB (by kernel_rfl) (by kernel_rfl)) (by kernel_rfl) (by kernel_rfl) (by kernel_rfl) (door_metP os _)) ?_
  intro W base args ds gs before hval0 hW _ _ hL _
  have hval : ∀ (j : Nat) t v, Tryd.f16.params[j]? = some t → args[j]? = some v → Value.okWide Tryd.prog W .any base t v := hval0
  have hW' := hW
  obtain ⟨p, q, hA0, hV, rfl, hfz, hnd⟩ := hW
  have hA : DataW.TrodAll enc Tryd.prog W 0 (fun _ => true) true Tryd.f16.params.toList args.toList ds p := hA0
  rw [Tryd.params16] at hA hval
  obtain ⟨v0, vs0, d0, ds0', p0, q0, hargs, rfl, rfl, h0, r0⟩ := trodAll_cons hA
  obtain ⟨v1, vs1, d1, ds1', p1, q1, rfl, rfl, rfl, h1, r1⟩ := trodAll_cons r0
  obtain ⟨rfl, rfl, rfl⟩ := trodAll_nil r1
  obtain rfl : args = #[v0, v1] := by cases args; simp_all
  obtain ⟨rfl, rfl⟩ := trodVars_none hV
  have k0 := h0
  have lt0 : ∀ x ∈ p0, x.block < W.heap.size := by obtain ⟨m, hm⟩ := k0; exact DataW.trod_lt m _ _ _ hm
  obtain ⟨dss0, A0, n0, c0, rfl, hn0, hv0⟩ := open_dgs (hval 0 55 v0 rfl rfl) h0
  have k1 := h1
  have lt1 : ∀ x ∈ p1, x.block < W.heap.size := by obtain ⟨m, hm⟩ := k1; exact DataW.trod_lt m _ _ _ hm
  obtain ⟨z1, rfl, rfl, rfl, hw1⟩ := open_int Tryd.underlying3 (hval 1 3 v1 rfl rfl) h1
  have hk := kk_of_laidP hL
  clear hA0 hval0
  refine (treesKept_any dss0 A0 n0 c0 z1 W hv0 hn0 hk (size_of_range hk)).mono fun e W' ⟨he, bel⟩ => ?_
  subst he
  exact ⟨_, rfl, _, _, _, [], _, [], hW', trodAll_mk1 (shut_bool Tryd.underlying4 _), (trodAll_cons_mk (Below.trod laidOut (by kernel_rfl) (of_decide_eq_true (by kernel_rfl)) k0 bel lt0) (trodAll_cons_mk (Below.trod laidOut (by kernel_rfl) (of_decide_eq_true (by kernel_rfl)) k1 bel lt1) trodAll_mk0)), rfl, bel.frame _, fun h => by cases h⟩

set_option maxHeartbeats 4000000 in
theorem treesKept_closed : joinedFacts Tryd.prog 16 Tryd.f16 Rows.treesKeptSpec Rows.treesKeptRow = true := by
  unfold joinedFacts
  repeat' (with_reducible refine andB ?_ ?_)
  all_goals (first | (rw [mayEnter_ok]) | (rw [liftsFinal_ok]; kernel_rfl) | (rw [make_ok]; kernel_rfl) | (as_aux_lemma => kernel_rfl))
theorem treesKept_inst : Tryd.f16.isInstance Tryd.prog Rows.treesKeptRow.origin Rows.treesKeptRow.targs :=
  ⟨by kernel_rfl, by kernel_rfl, by rw [if_pos (by kernel_rfl)]; exact ⟨by kernel_rfl, by kernel_rfl⟩⟩

theorem treesKept_holds : Rows.TreesKeptSaid :=
  OpenClaim.holds_of_wide 16 Tryd.f16 rfl rfl rfl rfl rfl rfl rfl ⟨rfl, rfl, rfl, rfl, rfl⟩ rfl rfl rfl rfl rfl (by kernel_rfl) Tryd.func16 treesKept_closed
    treesKept_inst (by unfold Func.isWrapper; first | (rw [if_pos (by decide +kernel)]; kernel_rfl) | (rw [if_neg (by decide +kernel)]; exact ⟨rfl, rfl⟩))
    (fun os started H enc _ => treesKept_lifted os started H enc)

theorem treesKept_goes : false = Rows.treesKeptRow.goesBy Tryd.prog := by kernel_rfl
theorem treesKept_wf : Rows.treesKeptRow.wfByText (OpenSpec.ofChange Rows.treesKeptSpec) = true := by kernel_rfl
theorem treesKept_num : Tryd.prog.funcNamed "quorate/quoratelaw04.TreesKept" = some 16 := by kernel_rfl
theorem treesKept_card : Rows.TreesKeptCardSaid :=
  Claim7.holds_tied_plain_at .later [] [.sentinel, .sentinel, .data] true (true, "3ebc234e78820a6c3663f2ca88585805a99a1b02e22e4e7f501b54a0bb52bb39") true
    treesKept_holds (fun _ h => by cases h) treesKept_wf (fun _ h => by cases h) treesKept_row_tie rfl ⟨rfl, rfl⟩ mainIs_ok rfl
    (fun f fn hf hfn => by
      obtain rfl : f = 16 := Option.some.inj (treesKept_num.symm.trans hf) |>.symm
      obtain rfl : fn = Tryd.f16 := (Option.some.inj (Tryd.func16.symm.trans hfn)).symm
      exact ⟨looks_ok.symm, fun j t ht => by
          rw [Tryd.params16] at ht
          rcases j with _ | j
          · obtain rfl : t = 55 := by simpa using ht.symm
            exact (show Tryd.prog.wantsStandIn 55 = false by kernel_rfl)
          rcases j with _ | j
          · obtain rfl : t = 3 := by simpa using ht.symm
            exact (show Tryd.prog.wantsStandIn 3 = false by kernel_rfl)
          · simp at ht⟩)
    treesKept_goes
#print axioms treesKept_card
end Go.Proofs.YtdedphhohiioiaaDoor
