/- Just so many transactions wait, and one more may wait when one was dropped, whatever the numbers. No condition but the sentinels as they are laid, which the card ties to the program's text. -/
import Derived.Test.YtideopnblhbngaaDoorPoolFullW
import Derived.Test.YtideopnblhbngaaDoorKitN
import Derived.Test.YtideopnblhbngaaDoorHead
namespace Go.Proofs.YtideopnblhbngaaDoor
open Go.ChangeShapes Go.WideShapes Go.ChangeAt Go.RowKit

set_option maxRecDepth 100000 in
theorem poolFull_lifted (os : Os) (started : os.Started) (H : Type) (enc : TypeId × Value → H) :
    ReturnsInHanded {} Tryd.checked os 12 .any (fun w args => (Rows.poolFullSpec.pre enc Tryd.prog Tryd.f12 Rows.poolFullRow.domain false w args ∧ laidMetH Tryd.prog Rows.poolFullRow.laid w) ∧ sizedMet enc Tryd.prog Tryd.f12 (OpenSpec.ofChange Rows.poolFullSpec) false w args)
      (Rows.poolFullSpec.post enc Tryd.prog Tryd.f12 false true false false) := by
  refine returnsInHanded_of_change_and (C := Tryd.checked) (X := fun w _ => laidMetH Tryd.prog Rows.poolFullRow.laid w) (fun _ _ _ hh h => h.of_heap hh) own started (by kernel_rfl) Tryd.func12
    (ChangeSpec.witness_shaped (enc := enc) (C := Tryd.checked) (os := os) (X := fun w _ => laidMetH Tryd.prog Rows.poolFullRow.laid w) false (World.doorLaid Tryd.prog 351 os) #[.int .i64 0, .int .i64 0] 8 rfl (World.shaped_of_RefB (by kernel_rfl) (by kernel_rfl)) (by kernel_rfl) (by kernel_rfl) (by kernel_rfl) (door_metN os _)) ?_
  intro W base args ds gs before hval0 hW _ _ hL _
  have hval : ∀ (j : Nat) t v, Tryd.f12.params[j]? = some t → args[j]? = some v → Value.okWide Tryd.prog W .any base t v := hval0
  have hW' := hW
  obtain ⟨p, q, hA0, hV, rfl, hfz, hnd⟩ := hW
  have hA : DataW.TrodAll enc Tryd.prog W 0 (fun _ => true) true Tryd.f12.params.toList args.toList ds p := hA0
  rw [Tryd.params12] at hA hval
  obtain ⟨v0, vs0, d0, ds0', p0, q0, hargs, rfl, rfl, h0, r0⟩ := trodAll_cons hA
  obtain ⟨v1, vs1, d1, ds1', p1, q1, rfl, rfl, rfl, h1, r1⟩ := trodAll_cons r0
  obtain ⟨rfl, rfl, rfl⟩ := trodAll_nil r1
  obtain rfl : args = #[v0, v1] := by cases args; simp_all
  obtain ⟨rfl, rfl⟩ := trodVars_none hV
  have k0 := h0
  have lt0 : ∀ x ∈ p0, x.block < W.heap.size := by obtain ⟨m, hm⟩ := k0; exact DataW.trod_lt m _ _ _ hm
  obtain ⟨z0, rfl, rfl, rfl, hw0⟩ := open_int Tryd.underlying3 (hval 0 3 v0 rfl rfl) h0
  have k1 := h1
  have lt1 : ∀ x ∈ p1, x.block < W.heap.size := by obtain ⟨m, hm⟩ := k1; exact DataW.trod_lt m _ _ _ hm
  obtain ⟨z1, rfl, rfl, rfl, hw1⟩ := open_int Tryd.underlying3 (hval 1 3 v1 rfl rfl) h1
  obtain ⟨al, hsen⟩ := sen_of_laidN hL
  obtain ⟨aF, hF⟩ : ∃ a, al[3]? = some a := ⟨_, List.getElem?_eq_getElem (by rw [hsen.len]; omega)⟩
  obtain ⟨aT, hT⟩ : ∃ a, al[16]? = some a := ⟨_, List.getElem?_eq_getElem (by rw [hsen.len]; omega)⟩
  obtain ⟨aU, hU⟩ : ∃ a, al[7]? = some a := ⟨_, List.getElem?_eq_getElem (by rw [hsen.len]; omega)⟩
  clear hA0 hval0
  refine (poolFull_any z0 z1 al aF aT aU W hsen hF hT hU).mono fun e W' ⟨he, bel⟩ => ?_
  subst he
  exact ⟨_, rfl, _, _, _, [], _, [], hW', trodAll_mk1 (shut_bool Tryd.underlying4 _), (trodAll_cons_mk (Below.trod laidOut (by kernel_rfl) (of_decide_eq_true (by kernel_rfl)) k0 bel lt0) (trodAll_cons_mk (Below.trod laidOut (by kernel_rfl) (of_decide_eq_true (by kernel_rfl)) k1 bel lt1) trodAll_mk0)), rfl, bel.frame _, fun h => by cases h⟩

set_option maxHeartbeats 4000000 in
theorem poolFull_closed : joinedFacts Tryd.prog 12 Tryd.f12 Rows.poolFullSpec Rows.poolFullRow = true := by
  unfold joinedFacts
  repeat' (with_reducible refine andB ?_ ?_)
  all_goals (first | (rw [mayEnter_ok]) | (rw [liftsFinal_ok]; kernel_rfl) | (rw [make_ok]; kernel_rfl) | (as_aux_lemma => kernel_rfl))
theorem poolFull_inst : Tryd.f12.isInstance Tryd.prog Rows.poolFullRow.origin Rows.poolFullRow.targs :=
  ⟨by kernel_rfl, by kernel_rfl, by rw [if_pos (by kernel_rfl)]; exact ⟨by kernel_rfl, by kernel_rfl⟩⟩

theorem poolFull_holds : Rows.PoolFullSaid :=
  OpenClaim.holds_of_wide 12 Tryd.f12 rfl rfl rfl rfl rfl rfl rfl ⟨rfl, rfl, rfl, rfl, rfl⟩ rfl rfl rfl rfl rfl (by kernel_rfl) Tryd.func12 poolFull_closed
    poolFull_inst (by unfold Func.isWrapper; first | (rw [if_pos (by decide +kernel)]; kernel_rfl) | (rw [if_neg (by decide +kernel)]; exact ⟨rfl, rfl⟩))
    (fun os started H enc _ => poolFull_lifted os started H enc)

theorem poolFull_goes : false = Rows.poolFullRow.goesBy Tryd.prog := by kernel_rfl
theorem poolFull_wf : Rows.poolFullRow.wfByText (OpenSpec.ofChange Rows.poolFullSpec) = true := by kernel_rfl
theorem poolFull_num : Tryd.prog.funcNamed "quorate/quoratelaw17.PoolFull" = some 12 := by kernel_rfl
theorem poolFull_card : Rows.PoolFullCardSaid :=
  Claim7.holds_tied_plain_at .later [] [.sentinel, .sentinel, .sentinel, .sentinel, .sentinel, .sentinel, .sentinel, .sentinel, .sentinel, .sentinel, .sentinel, .sentinel, .sentinel, .sentinel, .sentinel, .sentinel, .sentinel, .sentinel] true (true, "2dd7ea86df0474276cf7e7881ccfdc12fb7b83fa080d6aec7c4d47b1601dd668") true
    poolFull_holds (fun _ h => by cases h) poolFull_wf (fun _ h => by cases h) poolFull_row_tie rfl ⟨rfl, rfl⟩ mainIs_ok rfl
    (fun f fn hf hfn => by
      obtain rfl : f = 12 := Option.some.inj (poolFull_num.symm.trans hf) |>.symm
      obtain rfl : fn = Tryd.f12 := (Option.some.inj (Tryd.func12.symm.trans hfn)).symm
      exact ⟨looks_ok.symm, fun j t ht => by
          rw [Tryd.params12] at ht
          rcases j with _ | j
          · obtain rfl : t = 3 := by simpa using ht.symm
            exact (show Tryd.prog.wantsStandIn 3 = false by kernel_rfl)
          rcases j with _ | j
          · obtain rfl : t = 3 := by simpa using ht.symm
            exact (show Tryd.prog.wantsStandIn 3 = false by kernel_rfl)
          · simp at ht⟩)
    poolFull_goes
#print axioms poolFull_card
end Go.Proofs.YtideopnblhbngaaDoor
