/- The law ChainsDigits. -/
import Derived.Test.YtdedphhohiioiaaRefDig
import Derived.Test.YtdedphhohiioiaaSame
import Derived.Deep.RegionWith
import Derived.Test.YtdedphhohiioiaaRely
namespace Go.Proofs.Ytdedphhohiioiaa
open Go.RowKit

theorem own_cell {w : World} {base e n g c : Nat} {xs : List Value} (h : w.ownsRow base e 1 (.slice (some ⟨g, 0, none⟩) n c) n xs) (j : Nat) (u : Value) (hu : xs[j]? = some u) : w.cell? ⟨g, j, none⟩ = some u := by
  have := h.cells (g := g) rfl j u hu
  rwa [show (⟨g, 0, none⟩ : Addr).add j = ⟨g, j, none⟩ by unfold Addr.add; split <;> simp_all] at this

theorem own_head {w : World} {base e n : Nat} {v : Value} {xs : List Value} (h : w.ownsRow base e 1 v n xs) (hn : 0 < n) : ∃ g c, v = .slice (some ⟨g, 0, none⟩) n c := by
  rcases h.2 with ⟨_, rfl⟩ | ⟨g, cap, cur, rfl, _, hg, hnc, hm, hs, ht⟩
  · omega
  · exact ⟨g, cap, rfl⟩

set_option maxHeartbeats 400000 in
theorem alive_any (w : World) : Calls Try.prog 5 #[] w fun e w' => e = .returned (.bool true) ∧ Below w.heap.size w w' := by
  go_enter Try.func5, Try.ntmps5
  go_wp2_with fail
  refine (digits_any (List.replicate 16 0) rfl (by decide) _).mono ?_
  rintro e w1 ⟨v, rfl, hown, hbl⟩
  obtain ⟨g, c, rfl⟩ := own_head hown (by omega)
  have h0 := own_cell hown 0 (.int .i64 0) rfl
  have h63 := own_cell hown 63 (.int .i64 0) rfl
  have h64 := own_cell hown 64 (.int .i64 3) rfl
  have h65 := own_cell hown 65 (.int .i64 0) rfl
  have h67 := own_cell hown 67 (.int .i64 0) rfl
  clear hown
  go_wp2
  go_ret
  exact ⟨rfl, hbl⟩

set_option maxHeartbeats 400000 in
theorem chainsDigits_any (bs : List Int) (hl : bs.length = 16) (hb : ∀ b ∈ bs, 0 ≤ b ∧ b ≤ 255) (w : World) :
    Calls Try.prog 3 #[.agg (u8s bs).toArray] w fun e w' => e = .returned (.bool true) ∧ Below w.heap.size w w' := by
  have hs : (Try.prog.info? 23).map (·.size) = some (u8s bs).length := by rw [Try.size23]; simp [u8s, hl]
  have hr0 := (World.rangeAt_drew (w.alloc (.cells (u8s bs).toArray 23)) w.heap.size 0 (u8s bs)).2 (range_new w (u8s bs) 23)
  go_enter Try.func3, Try.ntmps3
  go_wp2
  refine wp_region_rely (by kernel_rfl) (by kernel_rfl) Ext Ext.refl Ext.trans (fun i => match i with
    | 0 => fun _ v => v = .bool true
    | 1 => fun _ v => v = .bool true
    | 2 => fun _ v => v = .agg (u8s bs).toArray
    | 3 => fun w v => Row w v (i64s (digits bs))
    | 4 => fun _ v => v = .agg (u8s bs).toArray
    | 5 => fun w v => Row w v (i64s (digits bs))
    | 6 => fun _ v => v = .bool true
    | 7 => fun _ v => v = .bool true
    | 8 => fun _ v => v = .bool true
    | _ => fun _ _ => False) ?_
  simp only [Rely, Nat.reduceAdd, Nat.zero_add, Act.put, List.setIfInBounds_toArray, List.set_cons_succ, List.set_cons_zero]
  refine ⟨?_, ?_, ?_, ?_, ?_, ?_, ?_, ?_, ?_, ?_⟩
  · refine step_plain rfl fun vs w1 hE hd => ?_
    refine gives_call 5 Try.call5 _ _ rfl rfl [] rfl ?_
    refine (alive_any _).mono ?_
    rintro e w2 ⟨rfl, hb⟩
    exact ⟨_, rfl, hb, fun _ _ => rfl⟩
  · refine step_plain rfl fun vs w1 hE hd => ?_
    exact gives_move _ (vs 0) (.inl rfl) rfl ⟨Ext.refl _, fun _ _ => hd.1⟩
  · refine step_guard 1 true 4 rfl rfl (fun _ => rfl) fun vs w1 hE hd => ⟨hd.1, ?_⟩
    exact gives_load_row 23 _ rfl _ _ rfl _ _ (range_below hr0 hE) Try.underlying23 rfl hs ⟨Ext.refl _, fun _ _ => rfl⟩
  · refine step_guard 1 true 4 rfl rfl (fun _ => rfl) fun vs w1 hE hd => ⟨hd.2.1, ?_⟩
    refine gives_call 7 Try.call7 _ _ rfl rfl [vs 2] rfl ?_
    rw [show vs 2 = .agg (u8s bs).toArray from hd.1]
    refine (digits_any bs hl hb _).mono ?_
    rintro e w2 ⟨v, rfl, ho, hb⟩
    exact ⟨_, rfl, hb, fun _ h => (Row.of_own ho (by omega)).below h⟩
  · refine step_guard 1 true 4 rfl rfl (fun _ => rfl) fun vs w1 hE hd => ⟨hd.1, ?_⟩
    exact gives_load_row 23 _ rfl _ _ rfl _ _ (range_below hr0 hE) Try.underlying23 rfl hs ⟨Ext.refl _, fun _ _ => rfl⟩
  · refine step_guard 1 true 4 rfl rfl (fun _ => rfl) fun vs w1 hE hd => ⟨hd.2.2.1, ?_⟩
    refine gives_call 8 Try.call8 _ _ rfl rfl [vs 4] rfl ?_
    rw [show vs 4 = .agg (u8s bs).toArray from hd.1]
    refine (refDigits_any bs hl hb _).mono ?_
    rintro e w2 ⟨v, rfl, ho, hb⟩
    exact ⟨_, rfl, hb, fun _ h => (Row.of_own ho (by omega)).below h⟩
  · refine step_guard 1 true 4 rfl rfl (fun _ => rfl) fun vs w1 hE hd => ⟨hd.2.2.2.1, ?_⟩
    refine gives_call 6 Try.call6 _ _ rfl rfl [vs 3, vs 5] rfl ?_
    refine (sameInts_any _ _ _ _ _ hd.1 hd.2.1).mono ?_
    rintro e w2 ⟨rfl, n, rfl⟩
    exact ⟨_, rfl, (Below.refl _ _).trans (by exact ⟨rfl, rfl, rfl, Nat.le_refl _, fun _ _ => rfl⟩), fun _ _ => by simp⟩
  · refine step_plain rfl fun vs w1 hE hd => ?_
    exact gives_pick _ _ _ (vs 6) true rfl (show vs 1 = _ from hd.1) rfl ⟨Ext.refl _, fun _ _ => hd.2.1⟩
  · refine step_plain rfl fun vs w1 hE hd => ?_
    exact gives_move _ (vs 7) (.inr rfl) rfl ⟨Ext.refl _, fun _ _ => hd.1⟩
  · intro vs w1 hE hR
    have h8 : vs 8 = .bool true := hR 8 (by omega)
    go_wp2
    go_ret
    exact ⟨congrArg _ h8, ((Below.refl _ _).alloc (Nat.le_refl _) _).drew.trans (hE.mono (by simp))⟩
end Go.Proofs.Ytdedphhohiioiaa
