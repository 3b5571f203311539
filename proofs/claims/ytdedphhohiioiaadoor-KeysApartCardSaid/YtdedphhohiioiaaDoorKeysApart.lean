/- Two keys of one seed are alike, and what a key hands out is not the key's, whatever the seed, the digest and the leaf. No condition but the constants as they are laid, which the card ties to the program's text. -/
import Derived.Test.YtdedphhohiioiaaDoorBase9
import Derived.Test.YtdedphhohiioiaaDoorBase21
namespace Go.Proofs.YtdedphhohiioiaaDoor
open Go.ChangeShapes Go.WideShapes Go.ChangeAt Go.RowKit

set_option maxRecDepth 100000 in
theorem keysApart_lifted (os : Os) (started : os.Started) (H : Type) (enc : TypeId × Value → H) :
    ReturnsInHanded {} Tryd.checked os 20 .any (fun w args => (Rows.keysApartSpec.pre enc Tryd.prog Tryd.f20 Rows.keysApartRow.domain false w args ∧ laidMetH Tryd.prog Rows.keysApartRow.laid w) ∧ sizedMet enc Tryd.prog Tryd.f20 (OpenSpec.ofChange Rows.keysApartSpec) false w args)
      (Rows.keysApartSpec.post enc Tryd.prog Tryd.f20 false true false false) := by
  refine returnsInHanded_of_change_and (C := Tryd.checked) (X := fun w _ => laidMetH Tryd.prog Rows.keysApartRow.laid w) (fun _ _ _ hh h => h.of_heap hh) own started (by kernel_rfl) Tryd.func20
    (ChangeSpec.witness_shaped (enc := enc) (C := Tryd.checked) (os := os) (X := fun w _ => laidMetH Tryd.prog Rows.keysApartRow.laid w) false (World.doorLaid Tryd.prog 356 os) #[.agg #[.int .u8 0, .int .u8 0, .int .u8 0, .int .u8 0, .int .u8 0, .int .u8 0, .int .u8 0, .int .u8 0, .int .u8 0, .int .u8 0, .int .u8 0, .int .u8 0, .int .u8 0, .int .u8 0, .int .u8 0, .int .u8 0], .agg #[.int .u8 0, .int .u8 0, .int .u8 0, .int .u8 0, .int .u8 0, .int .u8 0, .int .u8 0, .int .u8 0, .int .u8 0, .int .u8 0, .int .u8 0, .int .u8 0, .int .u8 0, .int .u8 0, .int .u8 0, .int .u8 0], .int .i64 0] 8 rfl (World.shaped_of_RefB (by kernel_rfl) (by kernel_rfl)) (by kernel_rfl) (by kernel_rfl) (by kernel_rfl) (door_metN os _)) ?_
  intro W base args ds gs before hval0 hW _ _ hL _
  have hval : ∀ (j : Nat) t v, Tryd.f20.params[j]? = some t → args[j]? = some v → Value.okWide Tryd.prog W .any base t v := hval0
  have hW' := hW
  obtain ⟨p, q, hA0, hV, rfl, hfz, hnd⟩ := hW
  have hA : DataW.TrodAll enc Tryd.prog W 0 (fun _ => true) true Tryd.f20.params.toList args.toList ds p := hA0
  rw [Tryd.params20] at hA hval
  obtain ⟨v0, vs0, d0, ds0', p0, q0, hargs, rfl, rfl, h0, r0⟩ := trodAll_cons hA
  obtain ⟨v1, vs1, d1, ds1', p1, q1, rfl, rfl, rfl, h1, r1⟩ := trodAll_cons r0
  obtain ⟨v2, vs2, d2, ds2', p2, q2, rfl, rfl, rfl, h2, r2⟩ := trodAll_cons r1
  obtain ⟨rfl, rfl, rfl⟩ := trodAll_nil r2
  obtain rfl : args = #[v0, v1, v2] := by cases args; simp_all
  obtain ⟨rfl, rfl⟩ := trodVars_none hV
  have k0 := h0
  have lt0 : ∀ x ∈ p0, x.block < W.heap.size := by obtain ⟨m, hm⟩ := k0; exact DataW.trod_lt m _ _ _ hm
  obtain ⟨ds0, rfl, hl0, hb0⟩ := open_bytes Tryd.underlying43 Tryd.underlying5 (by kernel_rfl) (by kernel_rfl) (by omega) h0
  have k1 := h1
  have lt1 : ∀ x ∈ p1, x.block < W.heap.size := by obtain ⟨m, hm⟩ := k1; exact DataW.trod_lt m _ _ _ hm
  obtain ⟨ds1, rfl, hl1, hb1⟩ := open_bytes Tryd.underlying43 Tryd.underlying5 (by kernel_rfl) (by kernel_rfl) (by omega) h1
  have k2 := h2
  have lt2 : ∀ x ∈ p2, x.block < W.heap.size := by obtain ⟨m, hm⟩ := k2; exact DataW.trod_lt m _ _ _ hm
  obtain ⟨z2, rfl, rfl, rfl, hw2⟩ := open_int Tryd.underlying3 (hval 2 3 v2 rfl rfl) h2
  have hk := kk_of_laidN hL
  obtain ⟨al, hsen⟩ := sen_of_laidN hL
  clear hA0 hval0
  refine (keysApart_any ds0 ds1 hl0 hb0 hl1 hb1 z2 al W hsen hk (size_of_range hk)).mono fun e W' ⟨he, bel⟩ => ?_
  subst he
  exact ⟨_, rfl, _, _, _, [], _, [], hW', trodAll_mk1 (shut_bool Tryd.underlying4 _), (trodAll_cons_mk (Below.trod laidOut (by kernel_rfl) (of_decide_eq_true (by kernel_rfl)) k0 bel lt0) (trodAll_cons_mk (Below.trod laidOut (by kernel_rfl) (of_decide_eq_true (by kernel_rfl)) k1 bel lt1) (trodAll_cons_mk (Below.trod laidOut (by kernel_rfl) (of_decide_eq_true (by kernel_rfl)) k2 bel lt2) trodAll_mk0))), rfl, bel.frame _, fun h => by cases h⟩

set_option maxHeartbeats 4000000 in
theorem keysApart_closed : joinedFacts Tryd.prog 20 Tryd.f20 Rows.keysApartSpec Rows.keysApartRow = true := by
  unfold joinedFacts
  repeat' (with_reducible refine andB ?_ ?_)
  all_goals (first | (rw [mayEnter_ok]) | (rw [liftsFinal_ok]; kernel_rfl) | (rw [make_ok]; kernel_rfl) | (as_aux_lemma => kernel_rfl))
theorem keysApart_inst : Tryd.f20.isInstance Tryd.prog Rows.keysApartRow.origin Rows.keysApartRow.targs :=
  ⟨by kernel_rfl, by kernel_rfl, by rw [if_pos (by kernel_rfl)]; exact ⟨by kernel_rfl, by kernel_rfl⟩⟩

theorem keysApart_holds : Rows.KeysApartSaid :=
  OpenClaim.holds_of_wide 20 Tryd.f20 rfl rfl rfl rfl rfl rfl rfl ⟨rfl, rfl, rfl, rfl, rfl⟩ rfl rfl rfl rfl rfl (by kernel_rfl) Tryd.func20 keysApart_closed
    keysApart_inst (by unfold Func.isWrapper; first | (rw [if_pos (by decide +kernel)]; kernel_rfl) | (rw [if_neg (by decide +kernel)]; exact ⟨rfl, rfl⟩))
    (fun os started H enc _ => keysApart_lifted os started H enc)

theorem keysApart_goes : false = Rows.keysApartRow.goesBy Tryd.prog := by kernel_rfl
theorem keysApart_wf : Rows.keysApartRow.wfByText (OpenSpec.ofChange Rows.keysApartSpec) = true := by kernel_rfl
theorem keysApart_num : Tryd.prog.funcNamed "quorate/quoratelaw05.KeysApart" = some 20 := by kernel_rfl
theorem keysApart_card : Rows.KeysApartCardSaid :=
  Claim7.holds_tied_plain_at .later [] [.sentinel, .sentinel, .sentinel, .sentinel, .sentinel, .sentinel, .sentinel, .sentinel, .sentinel, .sentinel, .sentinel, .sentinel, .sentinel, .sentinel, .sentinel, .sentinel, .sentinel, .sentinel, .data] true (true, "3ebc234e78820a6c3663f2ca88585805a99a1b02e22e4e7f501b54a0bb52bb39") true
    keysApart_holds (fun _ h => by cases h) keysApart_wf (fun _ h => by cases h) keysApart_row_tie rfl ⟨rfl, rfl⟩ mainIs_ok rfl
    (fun f fn hf hfn => by
      obtain rfl : f = 20 := Option.some.inj (keysApart_num.symm.trans hf) |>.symm
      obtain rfl : fn = Tryd.f20 := (Option.some.inj (Tryd.func20.symm.trans hfn)).symm
      exact ⟨looks_ok.symm, fun j t ht => by
          rw [Tryd.params20] at ht
          rcases j with _ | j
          · obtain rfl : t = 43 := by simpa using ht.symm
            exact (show Tryd.prog.wantsStandIn 43 = false by kernel_rfl)
          rcases j with _ | j
          · obtain rfl : t = 43 := by simpa using ht.symm
            exact (show Tryd.prog.wantsStandIn 43 = false by kernel_rfl)
          rcases j with _ | j
          · obtain rfl : t = 3 := by simpa using ht.symm
            exact (show Tryd.prog.wantsStandIn 3 = false by kernel_rfl)
          · simp at ht⟩)
    keysApart_goes
#print axioms keysApart_card
end Go.Proofs.YtdedphhohiioiaaDoor
