/- Pools answer as the reference does, in every order of calls, and what is handed out is not the pool's, whatever the calls. No condition but the sentinels as they are laid, which the card ties to the program's text. -/
import Derived.Test.YtideopnblhbngaaDoorPoolPlaysW
import Derived.Test.YtideopnblhbngaaDoorKitN
import Derived.Test.YtideopnblhbngaaDoorKitO
import Derived.Test.YtideopnblhbngaaDoorHead
namespace Go.Proofs.YtideopnblhbngaaDoor
open Go.ChangeShapes Go.WideShapes Go.ChangeAt Go.RowKit

set_option maxRecDepth 100000 in
theorem poolPlays_lifted (os : Os) (started : os.Started) (H : Type) (enc : TypeId × Value → H) :
    ReturnsInHanded {} Tryd.checked os 11 .any (fun w args => (Rows.poolPlaysSpec.pre enc Tryd.prog Tryd.f11 Rows.poolPlaysRow.domain false w args ∧ laidMetH Tryd.prog Rows.poolPlaysRow.laid w) ∧ sizedMet enc Tryd.prog Tryd.f11 (OpenSpec.ofChange Rows.poolPlaysSpec) false w args)
      (Rows.poolPlaysSpec.post enc Tryd.prog Tryd.f11 false true false false) := by
  refine returnsInHanded_of_change_and (C := Tryd.checked) (X := fun w _ => laidMetH Tryd.prog Rows.poolPlaysRow.laid w) (fun _ _ _ hh h => h.of_heap hh) own started (by kernel_rfl) Tryd.func11
    (ChangeSpec.witness_shaped (enc := enc) (C := Tryd.checked) (os := os) (X := fun w _ => laidMetH Tryd.prog Rows.poolPlaysRow.laid w) false (World.doorLaid Tryd.prog 351 os) #[.slice none 0 0] 8 rfl (World.shaped_of_RefB (by kernel_rfl) (by kernel_rfl)) (by kernel_rfl) (by kernel_rfl) (by kernel_rfl) (door_metN os _)) ?_
  intro W base args ds gs before hval0 hW _ _ hL _
  have hval : ∀ (j : Nat) t v, Tryd.f11.params[j]? = some t → args[j]? = some v → Value.okWide Tryd.prog W .any base t v := hval0
  have hW' := hW
  obtain ⟨p, q, hA0, hV, rfl, hfz, hnd⟩ := hW
  have hA : DataW.TrodAll enc Tryd.prog W 0 (fun _ => true) true Tryd.f11.params.toList args.toList ds p := hA0
  rw [Tryd.params11] at hA hval
  obtain ⟨v0, vs0, d0, ds0', p0, q0, hargs, rfl, rfl, h0, r0⟩ := trodAll_cons hA
  obtain ⟨rfl, rfl, rfl⟩ := trodAll_nil r0
  obtain rfl : args = #[v0] := by cases args; simp_all
  obtain ⟨rfl, rfl⟩ := trodVars_none hV
  have k0 := h0
  have lt0 : ∀ x ∈ p0, x.block < W.heap.size := by obtain ⟨m, hm⟩ := k0; exact DataW.trod_lt m _ _ _ hm
  obtain ⟨os0, A0, n0, c0, rfl, hv0⟩ := open_ops (hval 0 63 v0 rfl rfl) h0
  obtain ⟨al, hsen⟩ := sen_of_laidN hL
  obtain ⟨aF, hF⟩ : ∃ a, al[3]? = some a := ⟨_, List.getElem?_eq_getElem (by rw [hsen.len]; omega)⟩
  obtain ⟨aT, hT⟩ : ∃ a, al[16]? = some a := ⟨_, List.getElem?_eq_getElem (by rw [hsen.len]; omega)⟩
  obtain ⟨aU, hU⟩ : ∃ a, al[7]? = some a := ⟨_, List.getElem?_eq_getElem (by rw [hsen.len]; omega)⟩
  clear hA0 hval0
  refine (poolPlays_any os0 A0 n0 c0 al aF aT aU W hv0 hsen hF hT hU).mono fun e W' ⟨he, bel⟩ => ?_
  subst he
  exact ⟨_, rfl, _, _, _, [], _, [], hW', trodAll_mk1 (shut_bool Tryd.underlying4 _), (trodAll_cons_mk (Below.trod laidOut (by kernel_rfl) (of_decide_eq_true (by kernel_rfl)) k0 bel lt0) trodAll_mk0), rfl, bel.frame _, fun h => by cases h⟩

set_option maxHeartbeats 4000000 in
theorem poolPlays_closed : joinedFacts Tryd.prog 11 Tryd.f11 Rows.poolPlaysSpec Rows.poolPlaysRow = true := by
  unfold joinedFacts
  repeat' (with_reducible refine andB ?_ ?_)
  all_goals (first | (rw [mayEnter_ok]) | (rw [liftsFinal_ok]; kernel_rfl) | (rw [make_ok]; kernel_rfl) | (as_aux_lemma => kernel_rfl))
theorem poolPlays_inst : Tryd.f11.isInstance Tryd.prog Rows.poolPlaysRow.origin Rows.poolPlaysRow.targs :=
  ⟨by kernel_rfl, by kernel_rfl, by rw [if_pos (by kernel_rfl)]; exact ⟨by kernel_rfl, by kernel_rfl⟩⟩

theorem poolPlays_holds : Rows.PoolPlaysSaid :=
  OpenClaim.holds_of_wide 11 Tryd.f11 rfl rfl rfl rfl rfl rfl rfl ⟨rfl, rfl, rfl, rfl, rfl⟩ rfl rfl rfl rfl rfl (by kernel_rfl) Tryd.func11 poolPlays_closed
    poolPlays_inst (by unfold Func.isWrapper; first | (rw [if_pos (by decide +kernel)]; kernel_rfl) | (rw [if_neg (by decide +kernel)]; exact ⟨rfl, rfl⟩))
    (fun os started H enc _ => poolPlays_lifted os started H enc)

theorem poolPlays_goes : false = Rows.poolPlaysRow.goesBy Tryd.prog := by kernel_rfl
theorem poolPlays_wf : Rows.poolPlaysRow.wfByText (OpenSpec.ofChange Rows.poolPlaysSpec) = true := by kernel_rfl
theorem poolPlays_num : Tryd.prog.funcNamed "quorate/quoratelaw17.PoolPlays" = some 11 := by kernel_rfl
theorem poolPlays_card : Rows.PoolPlaysCardSaid :=
  Claim7.holds_tied_plain_at .later [] [.sentinel, .sentinel, .sentinel, .sentinel, .sentinel, .sentinel, .sentinel, .sentinel, .sentinel, .sentinel, .sentinel, .sentinel, .sentinel, .sentinel, .sentinel, .sentinel, .sentinel, .sentinel] true (true, "2dd7ea86df0474276cf7e7881ccfdc12fb7b83fa080d6aec7c4d47b1601dd668") true
    poolPlays_holds (fun _ h => by cases h) poolPlays_wf (fun _ h => by cases h) poolPlays_row_tie rfl ⟨rfl, rfl⟩ mainIs_ok rfl
    (fun f fn hf hfn => by
      obtain rfl : f = 11 := Option.some.inj (poolPlays_num.symm.trans hf) |>.symm
      obtain rfl : fn = Tryd.f11 := (Option.some.inj (Tryd.func11.symm.trans hfn)).symm
      exact ⟨looks_ok.symm, fun j t ht => by
          rw [Tryd.params11] at ht
          rcases j with _ | j
          · obtain rfl : t = 63 := by simpa using ht.symm
            exact (show Tryd.prog.wantsStandIn 63 = false by kernel_rfl)
          · simp at ht⟩)
    poolPlays_goes
#print axioms poolPlays_card
end Go.Proofs.YtideopnblhbngaaDoor
