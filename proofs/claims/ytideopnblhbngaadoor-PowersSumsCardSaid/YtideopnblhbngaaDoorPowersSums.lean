/- Which validators are right, what some of them have, and whether they are a quorum, or few, whatever the validators and the places. No condition but the sentinels as they are laid, which the card ties to the program's text. -/
import Derived.Test.YtideopnblhbngaaDoorPowersSumsW
import Derived.Test.YtideopnblhbngaaDoorKitN
import Derived.Test.YtideopnblhbngaaDoorKitI
import Derived.Test.YtideopnblhbngaaDoorHead
namespace Go.Proofs.YtideopnblhbngaaDoor
open Go.ChangeShapes Go.WideShapes Go.ChangeAt Go.RowKit

set_option maxRecDepth 100000 in
theorem powersSums_lifted (os : Os) (started : os.Started) (H : Type) (enc : TypeId × Value → H) :
    ReturnsInHanded {} Tryd.checked os 10 .any (fun w args => (Rows.powersSumsSpec.pre enc Tryd.prog Tryd.f10 Rows.powersSumsRow.domain false w args ∧ laidMetH Tryd.prog Rows.powersSumsRow.laid w) ∧ sizedMet enc Tryd.prog Tryd.f10 (OpenSpec.ofChange Rows.powersSumsSpec) false w args)
      (Rows.powersSumsSpec.post enc Tryd.prog Tryd.f10 false true false false) := by
  refine returnsInHanded_of_change_and (C := Tryd.checked) (X := fun w _ => laidMetH Tryd.prog Rows.powersSumsRow.laid w) (fun _ _ _ hh h => h.of_heap hh) own started (by kernel_rfl) Tryd.func10
    (ChangeSpec.witness_shaped (enc := enc) (C := Tryd.checked) (os := os) (X := fun w _ => laidMetH Tryd.prog Rows.powersSumsRow.laid w) false (World.doorLaid Tryd.prog 351 os) #[.slice none 0 0, .slice none 0 0] 8 rfl (World.shaped_of_RefB (by kernel_rfl) (by kernel_rfl)) (by kernel_rfl) (by kernel_rfl) (by kernel_rfl) (door_metN os _)) ?_
  intro W base args ds gs before hval0 hW _ _ hL _
  have hval : ∀ (j : Nat) t v, Tryd.f10.params[j]? = some t → args[j]? = some v → Value.okWide Tryd.prog W .any base t v := hval0
  have hW' := hW
  obtain ⟨p, q, hA0, hV, rfl, hfz, hnd⟩ := hW
  have hA : DataW.TrodAll enc Tryd.prog W 0 (fun _ => true) true Tryd.f10.params.toList args.toList ds p := hA0
  rw [Tryd.params10] at hA hval
  obtain ⟨v0, vs0, d0, ds0', p0, q0, hargs, rfl, rfl, h0, r0⟩ := trodAll_cons hA
  obtain ⟨v1, vs1, d1, ds1', p1, q1, rfl, rfl, rfl, h1, r1⟩ := trodAll_cons r0
  obtain ⟨rfl, rfl, rfl⟩ := trodAll_nil r1
  obtain rfl : args = #[v0, v1] := by cases args; simp_all
  obtain ⟨rfl, rfl⟩ := trodVars_none hV
  have k0 := h0
  have lt0 : ∀ x ∈ p0, x.block < W.heap.size := by obtain ⟨m, hm⟩ := k0; exact DataW.trod_lt m _ _ _ hm
  obtain ⟨vs0'', A0, n0, c0, rfl, hv0⟩ := open_vals (hval 0 22 v0 rfl rfl) h0
  have k1 := h1
  have lt1 : ∀ x ∈ p1, x.block < W.heap.size := by obtain ⟨m, hm⟩ := k1; exact DataW.trod_lt m _ _ _ hm
  obtain ⟨xs1, A1, n1, c1, rfl, hv1⟩ := open_ins (hval 1 28 v1 rfl rfl) h1
  obtain ⟨al, hsen⟩ := sen_of_laidN hL
  obtain ⟨aS, hS⟩ : ∃ a, al[10]? = some a := ⟨_, List.getElem?_eq_getElem (by rw [hsen.len]; omega)⟩
  obtain ⟨aT, hT⟩ : ∃ a, al[16]? = some a := ⟨_, List.getElem?_eq_getElem (by rw [hsen.len]; omega)⟩
  obtain ⟨aR, hR⟩ : ∃ a, al[0]? = some a := ⟨_, List.getElem?_eq_getElem (by rw [hsen.len]; omega)⟩
  clear hA0 hval0
  refine (powersSums_any vs0'' xs1 A0 A1 n0 c0 n1 c1 al aS aR aT W hv0 hv1 hsen hS hR hT).mono fun e W' ⟨he, bel⟩ => ?_
  subst he
  exact ⟨_, rfl, _, _, _, [], _, [], hW', trodAll_mk1 (shut_bool Tryd.underlying4 _), (trodAll_cons_mk (Below.trod laidOut (by kernel_rfl) (of_decide_eq_true (by kernel_rfl)) k0 bel lt0) (trodAll_cons_mk (Below.trod laidOut (by kernel_rfl) (of_decide_eq_true (by kernel_rfl)) k1 bel lt1) trodAll_mk0)), rfl, bel.frame _, fun h => by cases h⟩

set_option maxHeartbeats 4000000 in
theorem powersSums_closed : joinedFacts Tryd.prog 10 Tryd.f10 Rows.powersSumsSpec Rows.powersSumsRow = true := by
  unfold joinedFacts
  repeat' (with_reducible refine andB ?_ ?_)
  all_goals (first | (rw [mayEnter_ok]) | (rw [liftsFinal_ok]; kernel_rfl) | (rw [make_ok]; kernel_rfl) | (as_aux_lemma => kernel_rfl))
theorem powersSums_inst : Tryd.f10.isInstance Tryd.prog Rows.powersSumsRow.origin Rows.powersSumsRow.targs :=
  ⟨by kernel_rfl, by kernel_rfl, by rw [if_pos (by kernel_rfl)]; exact ⟨by kernel_rfl, by kernel_rfl⟩⟩

theorem powersSums_holds : Rows.PowersSumsSaid :=
  OpenClaim.holds_of_wide 10 Tryd.f10 rfl rfl rfl rfl rfl rfl rfl ⟨rfl, rfl, rfl, rfl, rfl⟩ rfl rfl rfl rfl rfl (by kernel_rfl) Tryd.func10 powersSums_closed
    powersSums_inst (by unfold Func.isWrapper; first | (rw [if_pos (by decide +kernel)]; kernel_rfl) | (rw [if_neg (by decide +kernel)]; exact ⟨rfl, rfl⟩))
    (fun os started H enc _ => powersSums_lifted os started H enc)

theorem powersSums_goes : false = Rows.powersSumsRow.goesBy Tryd.prog := by kernel_rfl
theorem powersSums_wf : Rows.powersSumsRow.wfByText (OpenSpec.ofChange Rows.powersSumsSpec) = true := by kernel_rfl
theorem powersSums_num : Tryd.prog.funcNamed "quorate/quoratelaw08.PowersSums" = some 10 := by kernel_rfl
theorem powersSums_card : Rows.PowersSumsCardSaid :=
  Claim7.holds_tied_plain_at .later [] [.sentinel, .sentinel, .sentinel, .sentinel, .sentinel, .sentinel, .sentinel, .sentinel, .sentinel, .sentinel, .sentinel, .sentinel, .sentinel, .sentinel, .sentinel, .sentinel, .sentinel, .sentinel] true (true, "2dd7ea86df0474276cf7e7881ccfdc12fb7b83fa080d6aec7c4d47b1601dd668") true
    powersSums_holds (fun _ h => by cases h) powersSums_wf (fun _ h => by cases h) powersSums_row_tie rfl ⟨rfl, rfl⟩ mainIs_ok rfl
    (fun f fn hf hfn => by
      obtain rfl : f = 10 := Option.some.inj (powersSums_num.symm.trans hf) |>.symm
      obtain rfl : fn = Tryd.f10 := (Option.some.inj (Tryd.func10.symm.trans hfn)).symm
      exact ⟨looks_ok.symm, fun j t ht => by
          rw [Tryd.params10] at ht
          rcases j with _ | j
          · obtain rfl : t = 22 := by simpa using ht.symm
            exact (show Tryd.prog.wantsStandIn 22 = false by kernel_rfl)
          rcases j with _ | j
          · obtain rfl : t = 28 := by simpa using ht.symm
            exact (show Tryd.prog.wantsStandIn 28 = false by kernel_rfl)
          · simp at ht⟩)
    powersSums_goes
#print axioms powersSums_card
end Go.Proofs.YtideopnblhbngaaDoor
