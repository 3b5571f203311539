/- Tallies answer as the reference does, in every order of words, whatever the validators, the words and the key that is asked. No condition but the sentinels as they are laid, which the card ties to the program's text. -/
import Derived.Test.YtideopnblhbngaaDoorTallyPlaysW
import Derived.Test.YtideopnblhbngaaDoorKitW
import Derived.Test.YtideopnblhbngaaDoorKitN
import Derived.Test.YtideopnblhbngaaDoorHead
namespace Go.Proofs.YtideopnblhbngaaDoor
open Go.ChangeShapes Go.WideShapes Go.ChangeAt Go.RowKit

set_option maxRecDepth 100000 in
theorem tallyPlays_lifted (os : Os) (started : os.Started) (H : Type) (enc : TypeId × Value → H) :
    ReturnsInHanded {} Tryd.checked os 16 .any (fun w args => (Rows.tallyPlaysSpec.pre enc Tryd.prog Tryd.f16 Rows.tallyPlaysRow.domain false w args ∧ laidMetH Tryd.prog Rows.tallyPlaysRow.laid w) ∧ sizedMet enc Tryd.prog Tryd.f16 (OpenSpec.ofChange Rows.tallyPlaysSpec) false w args)
      (Rows.tallyPlaysSpec.post enc Tryd.prog Tryd.f16 false true false false) := by
  refine returnsInHanded_of_change_and (C := Tryd.checked) (X := fun w _ => laidMetH Tryd.prog Rows.tallyPlaysRow.laid w) (fun _ _ _ hh h => h.of_heap hh) own started (by kernel_rfl) Tryd.func16
    (ChangeSpec.witness_shaped (enc := enc) (C := Tryd.checked) (os := os) (X := fun w _ => laidMetH Tryd.prog Rows.tallyPlaysRow.laid w) false (World.doorLaid Tryd.prog 351 os) #[.slice none 0 0, .slice none 0 0, .int .i64 0] 8 rfl (World.shaped_of_RefB (by kernel_rfl) (by kernel_rfl)) (by kernel_rfl) (by kernel_rfl) (by kernel_rfl) (door_metN os _)) ?_
  intro W base args ds gs before hval0 hW _ _ hL _
  have hval : ∀ (j : Nat) t v, Tryd.f16.params[j]? = some t → args[j]? = some v → Value.okWide Tryd.prog W .any base t v := hval0
  have hW' := hW
  obtain ⟨p, q, hA0, hV, rfl, hfz, hnd⟩ := hW
  have hA : DataW.TrodAll enc Tryd.prog W 0 (fun _ => true) true Tryd.f16.params.toList args.toList ds p := hA0
  rw [Tryd.params16] at hA hval
  obtain ⟨v0, vs0, d0, ds0', p0, q0, hargs, rfl, rfl, h0, r0⟩ := trodAll_cons hA
  obtain ⟨v1, vs1, d1, ds1', p1, q1, rfl, rfl, rfl, h1, r1⟩ := trodAll_cons r0
  obtain ⟨v2, vs2, d2, ds2', p2, q2, rfl, rfl, rfl, h2, r2⟩ := trodAll_cons r1
  obtain ⟨rfl, rfl, rfl⟩ := trodAll_nil r2
  obtain rfl : args = #[v0, v1, v2] := by cases args; simp_all
  obtain ⟨rfl, rfl⟩ := trodVars_none hV
  have k0 := h0
  have lt0 : ∀ x ∈ p0, x.block < W.heap.size := by obtain ⟨m, hm⟩ := k0; exact DataW.trod_lt m _ _ _ hm
  obtain ⟨vs0'', A0, n0, c0, rfl, hv0⟩ := open_vals (hval 0 22 v0 rfl rfl) h0
  have k1 := h1
  have lt1 : ∀ x ∈ p1, x.block < W.heap.size := by obtain ⟨m, hm⟩ := k1; exact DataW.trod_lt m _ _ _ hm
  obtain ⟨xs1, A1, n1, c1, rfl, hv1⟩ := open_words (hval 1 79 v1 rfl rfl) h1
  have k2 := h2
  have lt2 : ∀ x ∈ p2, x.block < W.heap.size := by obtain ⟨m, hm⟩ := k2; exact DataW.trod_lt m _ _ _ hm
  obtain ⟨z2, rfl, rfl, rfl, hw2⟩ := open_int Tryd.underlying3 (hval 2 3 v2 rfl rfl) h2
  obtain ⟨al, hsen⟩ := sen_of_laidN hL
  obtain ⟨aS, hS⟩ : ∃ a, al[10]? = some a := ⟨_, List.getElem?_eq_getElem (by rw [hsen.len]; omega)⟩
  obtain ⟨aT, hT⟩ : ∃ a, al[16]? = some a := ⟨_, List.getElem?_eq_getElem (by rw [hsen.len]; omega)⟩
  obtain ⟨aR, hR⟩ : ∃ a, al[0]? = some a := ⟨_, List.getElem?_eq_getElem (by rw [hsen.len]; omega)⟩
  clear hA0 hval0
  refine (tallyPlays_any vs0'' xs1 z2 A0 A1 n0 c0 n1 c1 al aS aR aT W hv0 hv1 hsen hS hR hT).mono fun e W' ⟨he, bel⟩ => ?_
  subst he
  exact ⟨_, rfl, _, _, _, [], _, [], hW', trodAll_mk1 (shut_bool Tryd.underlying4 _), (trodAll_cons_mk (Below.trod laidOut (by kernel_rfl) (of_decide_eq_true (by kernel_rfl)) k0 bel lt0) (trodAll_cons_mk (Below.trod laidOut (by kernel_rfl) (of_decide_eq_true (by kernel_rfl)) k1 bel lt1) (trodAll_cons_mk (Below.trod laidOut (by kernel_rfl) (of_decide_eq_true (by kernel_rfl)) k2 bel lt2) trodAll_mk0))), rfl, bel.frame _, fun h => by cases h⟩

set_option maxHeartbeats 4000000 in
theorem tallyPlays_closed : joinedFacts Tryd.prog 16 Tryd.f16 Rows.tallyPlaysSpec Rows.tallyPlaysRow = true := by
  unfold joinedFacts
  repeat' (with_reducible refine andB ?_ ?_)
  all_goals (first | (rw [mayEnter_ok]) | (rw [liftsFinal_ok]; kernel_rfl) | (rw [make_ok]; kernel_rfl) | (as_aux_lemma => kernel_rfl))
theorem tallyPlays_inst : Tryd.f16.isInstance Tryd.prog Rows.tallyPlaysRow.origin Rows.tallyPlaysRow.targs :=
  ⟨by kernel_rfl, by kernel_rfl, by rw [if_pos (by kernel_rfl)]; exact ⟨by kernel_rfl, by kernel_rfl⟩⟩

theorem tallyPlays_holds : Rows.TallyPlaysSaid :=
  OpenClaim.holds_of_wide 16 Tryd.f16 rfl rfl rfl rfl rfl rfl rfl ⟨rfl, rfl, rfl, rfl, rfl⟩ rfl rfl rfl rfl rfl (by kernel_rfl) Tryd.func16 tallyPlays_closed
    tallyPlays_inst (by unfold Func.isWrapper; first | (rw [if_pos (by decide +kernel)]; kernel_rfl) | (rw [if_neg (by decide +kernel)]; exact ⟨rfl, rfl⟩))
    (fun os started H enc _ => tallyPlays_lifted os started H enc)

theorem tallyPlays_goes : false = Rows.tallyPlaysRow.goesBy Tryd.prog := by kernel_rfl
theorem tallyPlays_wf : Rows.tallyPlaysRow.wfByText (OpenSpec.ofChange Rows.tallyPlaysSpec) = true := by kernel_rfl
theorem tallyPlays_num : Tryd.prog.funcNamed "quorate/quoratelaw10.TallyPlays" = some 16 := by kernel_rfl
theorem tallyPlays_card : Rows.TallyPlaysCardSaid :=
  Claim7.holds_tied_plain_at .later [] [.sentinel, .sentinel, .sentinel, .sentinel, .sentinel, .sentinel, .sentinel, .sentinel, .sentinel, .sentinel, .sentinel, .sentinel, .sentinel, .sentinel, .sentinel, .sentinel, .sentinel, .sentinel] true (true, "2dd7ea86df0474276cf7e7881ccfdc12fb7b83fa080d6aec7c4d47b1601dd668") true
    tallyPlays_holds (fun _ h => by cases h) tallyPlays_wf (fun _ h => by cases h) tallyPlays_row_tie rfl ⟨rfl, rfl⟩ mainIs_ok rfl
    (fun f fn hf hfn => by
      obtain rfl : f = 16 := Option.some.inj (tallyPlays_num.symm.trans hf) |>.symm
      obtain rfl : fn = Tryd.f16 := (Option.some.inj (Tryd.func16.symm.trans hfn)).symm
      exact ⟨looks_ok.symm, fun j t ht => by
          rw [Tryd.params16] at ht
          rcases j with _ | j
          · obtain rfl : t = 22 := by simpa using ht.symm
            exact (show Tryd.prog.wantsStandIn 22 = false by kernel_rfl)
          rcases j with _ | j
          · obtain rfl : t = 79 := by simpa using ht.symm
            exact (show Tryd.prog.wantsStandIn 79 = false by kernel_rfl)
          rcases j with _ | j
          · obtain rfl : t = 3 := by simpa using ht.symm
            exact (show Tryd.prog.wantsStandIn 3 = false by kernel_rfl)
          · simp at ht⟩)
    tallyPlays_goes
#print axioms tallyPlays_card
end Go.Proofs.YtideopnblhbngaaDoor
