/- Which signatures are right is as the document says, whatever the root, the digest and the signature. No condition but the constants as they are laid, which the card ties to the program's text. -/
import Derived.Test.YtdedphhohiioiaaDoorBase9
import Derived.Test.YtdedphhohiioiaaDoorBase19
import Derived.Test.YtdedphhohiioiaaDoorBase20
namespace Go.Proofs.YtdedphhohiioiaaDoor
open Go.ChangeShapes Go.WideShapes Go.ChangeAt Go.RowKit

set_option maxRecDepth 100000 in
theorem keysVerifies_lifted (os : Os) (started : os.Started) (H : Type) (enc : TypeId × Value → H) :
    ReturnsInHanded {} Tryd.checked os 22 .any (fun w args => (Rows.keysVerifiesSpec.pre enc Tryd.prog Tryd.f22 Rows.keysVerifiesRow.domain false w args ∧ laidMetH Tryd.prog Rows.keysVerifiesRow.laid w) ∧ sizedMet enc Tryd.prog Tryd.f22 (OpenSpec.ofChange Rows.keysVerifiesSpec) false w args)
      (Rows.keysVerifiesSpec.post enc Tryd.prog Tryd.f22 false true false false) := by
  refine returnsInHanded_of_change_and (C := Tryd.checked) (X := fun w _ => laidMetH Tryd.prog Rows.keysVerifiesRow.laid w) (fun _ _ _ hh h => h.of_heap hh) own started (by kernel_rfl) Tryd.func22
    (ChangeSpec.witness_shaped (enc := enc) (C := Tryd.checked) (os := os) (X := fun w _ => laidMetH Tryd.prog Rows.keysVerifiesRow.laid w) false (World.doorLaid Tryd.prog 356 os) #[.agg #[.int .u8 0, .int .u8 0, .int .u8 0, .int .u8 0, .int .u8 0, .int .u8 0, .int .u8 0, .int .u8 0, .int .u8 0, .int .u8 0, .int .u8 0, .int .u8 0, .int .u8 0, .int .u8 0, .int .u8 0, .int .u8 0], .agg #[.int .u8 0, .int .u8 0, .int .u8 0, .int .u8 0, .int .u8 0, .int .u8 0, .int .u8 0, .int .u8 0, .int .u8 0, .int .u8 0, .int .u8 0, .int .u8 0, .int .u8 0, .int .u8 0, .int .u8 0, .int .u8 0], .agg #[.int .i64 0, .slice none 0 0, .slice none 0 0]] 8 rfl (World.shaped_of_RefB (by kernel_rfl) (by kernel_rfl)) (by kernel_rfl) (by kernel_rfl) (by kernel_rfl) (door_metN os _)) ?_
  intro W base args ds gs before hval0 hW _ _ hL _
  have hval : ∀ (j : Nat) t v, Tryd.f22.params[j]? = some t → args[j]? = some v → Value.okWide Tryd.prog W .any base t v := hval0
  have hW' := hW
  obtain ⟨p, q, hA0, hV, rfl, hfz, hnd⟩ := hW
  have hA : DataW.TrodAll enc Tryd.prog W 0 (fun _ => true) true Tryd.f22.params.toList args.toList ds p := hA0
  rw [Tryd.params22] at hA hval
  obtain ⟨v0, vs0, d0, ds0', p0, q0, hargs, rfl, rfl, h0, r0⟩ := trodAll_cons hA
  obtain ⟨v1, vs1, d1, ds1', p1, q1, rfl, rfl, rfl, h1, r1⟩ := trodAll_cons r0
  obtain ⟨v2, vs2, d2, ds2', p2, q2, rfl, rfl, rfl, h2, r2⟩ := trodAll_cons r1
  obtain ⟨rfl, rfl, rfl⟩ := trodAll_nil r2
  obtain rfl : args = #[v0, v1, v2] := by cases args; simp_all
  obtain ⟨rfl, rfl⟩ := trodVars_none hV
  have k0 := h0
  have lt0 : ∀ x ∈ p0, x.block < W.heap.size := by obtain ⟨m, hm⟩ := k0; exact DataW.trod_lt m _ _ _ hm
  obtain ⟨ds0, rfl, hl0, hb0⟩ := open_bytes Tryd.underlying43 Tryd.underlying5 (by kernel_rfl) (by kernel_rfl) (by omega) h0
  have k1 := h1
  have lt1 : ∀ x ∈ p1, x.block < W.heap.size := by obtain ⟨m, hm⟩ := k1; exact DataW.trod_lt m _ _ _ hm
  obtain ⟨ds1, rfl, hl1, hb1⟩ := open_bytes Tryd.underlying43 Tryd.underlying5 (by kernel_rfl) (by kernel_rfl) (by omega) h1
  have k2 := h2
  have lt2 : ∀ x ∈ p2, x.block < W.heap.size := by obtain ⟨m, hm⟩ := k2; exact DataW.trod_lt m _ _ _ hm
  obtain ⟨l2, dss2, pss2, A2, B2, n2, c2, k2', d2', rfl, hn2, hm2, hv2, hw2⟩ := open_sig h2
  have hk := kk_of_laidN hL
  obtain ⟨al, hsen⟩ := sen_of_laidN hL
  clear hA0 hval0
  refine (keysVerifies_any ds0 ds1 hl0 hl1 hb1 l2 dss2 pss2 A2 B2 n2 c2 k2' d2' al W hv2 hw2 ⟨hn2, hm2⟩ hsen hk (size_of_range hk)).mono fun e W' ⟨he, bel⟩ => ?_
  subst he
  exact ⟨_, rfl, _, _, _, [], _, [], hW', trodAll_mk1 (shut_bool Tryd.underlying4 _), (trodAll_cons_mk (Below.trod laidOut (by kernel_rfl) (of_decide_eq_true (by kernel_rfl)) k0 bel lt0) (trodAll_cons_mk (Below.trod laidOut (by kernel_rfl) (of_decide_eq_true (by kernel_rfl)) k1 bel lt1) (trodAll_cons_mk (Below.trod laidOut (by kernel_rfl) (of_decide_eq_true (by kernel_rfl)) k2 bel lt2) trodAll_mk0))), rfl, bel.frame _, fun h => by cases h⟩

set_option maxHeartbeats 4000000 in
theorem keysVerifies_closed : joinedFacts Tryd.prog 22 Tryd.f22 Rows.keysVerifiesSpec Rows.keysVerifiesRow = true := by
  unfold joinedFacts
  repeat' (with_reducible refine andB ?_ ?_)
  all_goals (first | (rw [mayEnter_ok]) | (rw [liftsFinal_ok]; kernel_rfl) | (rw [make_ok]; kernel_rfl) | (as_aux_lemma => kernel_rfl))
theorem keysVerifies_inst : Tryd.f22.isInstance Tryd.prog Rows.keysVerifiesRow.origin Rows.keysVerifiesRow.targs :=
  ⟨by kernel_rfl, by kernel_rfl, by rw [if_pos (by kernel_rfl)]; exact ⟨by kernel_rfl, by kernel_rfl⟩⟩

theorem keysVerifies_holds : Rows.KeysVerifiesSaid :=
  OpenClaim.holds_of_wide 22 Tryd.f22 rfl rfl rfl rfl rfl rfl rfl ⟨rfl, rfl, rfl, rfl, rfl⟩ rfl rfl rfl rfl rfl (by kernel_rfl) Tryd.func22 keysVerifies_closed
    keysVerifies_inst (by unfold Func.isWrapper; first | (rw [if_pos (by decide +kernel)]; kernel_rfl) | (rw [if_neg (by decide +kernel)]; exact ⟨rfl, rfl⟩))
    (fun os started H enc _ => keysVerifies_lifted os started H enc)

theorem keysVerifies_goes : false = Rows.keysVerifiesRow.goesBy Tryd.prog := by kernel_rfl
theorem keysVerifies_wf : Rows.keysVerifiesRow.wfByText (OpenSpec.ofChange Rows.keysVerifiesSpec) = true := by kernel_rfl
theorem keysVerifies_num : Tryd.prog.funcNamed "quorate/quoratelaw05.KeysVerifies" = some 22 := by kernel_rfl
theorem keysVerifies_card : Rows.KeysVerifiesCardSaid :=
  Claim7.holds_tied_plain_at .later [] [.sentinel, .sentinel, .sentinel, .sentinel, .sentinel, .sentinel, .sentinel, .sentinel, .sentinel, .sentinel, .sentinel, .sentinel, .sentinel, .sentinel, .sentinel, .sentinel, .sentinel, .sentinel, .data] true (true, "3ebc234e78820a6c3663f2ca88585805a99a1b02e22e4e7f501b54a0bb52bb39") true
    keysVerifies_holds (fun _ h => by cases h) keysVerifies_wf (fun _ h => by cases h) keysVerifies_row_tie rfl ⟨rfl, rfl⟩ mainIs_ok rfl
    (fun f fn hf hfn => by
      obtain rfl : f = 22 := Option.some.inj (keysVerifies_num.symm.trans hf) |>.symm
      obtain rfl : fn = Tryd.f22 := (Option.some.inj (Tryd.func22.symm.trans hfn)).symm
      exact ⟨looks_ok.symm, fun j t ht => by
          rw [Tryd.params22] at ht
          rcases j with _ | j
          · obtain rfl : t = 43 := by simpa using ht.symm
            exact (show Tryd.prog.wantsStandIn 43 = false by kernel_rfl)
          rcases j with _ | j
          · obtain rfl : t = 43 := by simpa using ht.symm
            exact (show Tryd.prog.wantsStandIn 43 = false by kernel_rfl)
          rcases j with _ | j
          · obtain rfl : t = 88 := by simpa using ht.symm
            exact (show Tryd.prog.wantsStandIn 88 = false by kernel_rfl)
          · simp at ht⟩)
    keysVerifies_goes
#print axioms keysVerifies_card
end Go.Proofs.YtdedphhohiioiaaDoor
