/- The law ChainsNoLess. -/
import Derived.Test.YtdedphhohiioiaaLawD
import Derived.Test.YtdedphhohiioiaaLess
import Derived.Deep.QuietTactic
import Derived.BigQuiet
namespace Go.Proofs.Ytdedphhohiioiaa
open Go.RowKit

set_option maxHeartbeats 1000000 in
set_option maxRecDepth 100000 in
theorem noLess_any (p q : List Int) (hl : p.length = 16) (hp : ∀ b ∈ p, 0 ≤ b ∧ b ≤ 255) (hm : q.length = 16) (hq : ∀ b ∈ q, 0 ≤ b ∧ b ≤ 255) (w : World) :
    Calls Try.prog 4 #[.agg (u8s p).toArray, .agg (u8s q).toArray] w fun e w' => e = .returned (.bool true) ∧ Below w.heap.size w w' := by
  have hsa : (Try.prog.info? 23).map (·.size) = some (u8s p).length := by rw [Try.size23]; simp [u8s, hl]
  have hsb : (Try.prog.info? 23).map (·.size) = some (u8s q).length := by rw [Try.size23]; simp [u8s, hm]
  have HSA := Lib.hid hsa
  have HSB := Lib.hid hsb
  have HL := Lib.hid hl
  have HM := Lib.hid hm
  clear hsa hsb hl hm
  go_enter Try.func4, Try.ntmps4
  go_wp2_with (go_at_call 5; refine (alive_any _).mono ?_; rintro e w1 ⟨rfl, hb1⟩)
  have hra : w1.drew.rangeAt w.heap.size 0 (u8s p) := (World.rangeAt_drew w1 w.heap.size 0 (u8s p)).2 (range_below (World.rangeAt_alloc (range_new w (u8s p) 23) (.cells (u8s q).toArray 23)) hb1)
  have hrb : w1.drew.rangeAt (w.heap.size + 1) 0 (u8s q) := (World.rangeAt_drew w1 (w.heap.size + 1) 0 (u8s q)).2 (range_below (by have := range_new (w.alloc (.cells (u8s p).toArray 23)) (u8s q) 23; simpa using this) hb1)
  refine wp_region_rely (by kernel_rfl) (by kernel_rfl) Ext Ext.refl Ext.trans (fun i => match i with
    | 0 => fun _ v => v = .agg (u8s p).toArray
    | 1 => fun w v => Row w v (i64s (digits p))
    | 2 => fun _ v => v = .agg (u8s q).toArray
    | 3 => fun w v => Row w v (i64s (digits q))
    | 4 => fun w v => Row w v (i64s (digits p))
    | 5 => fun w v => Row w v (i64s (digits q))
    | _ => fun _ _ => False) ?_
  simp only [Rely, Nat.reduceAdd, Nat.zero_add, Act.put, List.setIfInBounds_toArray, List.set_cons_succ, List.set_cons_zero]
  refine ⟨?_, ?_, ?_, ?_, ?_, ?_, ?_⟩
  · refine step_plain rfl fun vs w1 hE hd => ?_
    exact gives_load_row 23 _ rfl _ _ rfl _ _ (range_below hra hE) Try.underlying23 rfl HSA.out ⟨Ext.refl _, fun _ _ => rfl⟩
  · refine step_plain rfl fun vs w1 hE hd => ?_
    refine gives_call 7 Try.call7 _ _ rfl rfl [vs 0] rfl ?_
    rw [show vs 0 = .agg (u8s p).toArray from (hd.1)]
    refine (digits_any p HL.out hp _).mono ?_
    rintro e w2 ⟨v, rfl, ho, hb⟩
    exact ⟨_, rfl, hb, fun _ h => (Row.of_own ho (by omega)).below h⟩
  · refine step_plain rfl fun vs w1 hE hd => ?_
    exact gives_load_row 23 _ rfl _ _ rfl _ _ (range_below hrb hE) Try.underlying23 rfl HSB.out ⟨Ext.refl _, fun _ _ => rfl⟩
  · refine step_plain rfl fun vs w1 hE hd => ?_
    refine gives_call 7 Try.call7 _ _ rfl rfl [vs 2] rfl ?_
    rw [show vs 2 = .agg (u8s q).toArray from (hd.1)]
    refine (digits_any q HM.out hq _).mono ?_
    rintro e w2 ⟨v, rfl, ho, hb⟩
    exact ⟨_, rfl, hb, fun _ h => (Row.of_own ho (by omega)).below h⟩
  · refine step_plain rfl fun vs w1 hE hd => ?_
    exact gives_move _ (vs 1) (.inr rfl) rfl ⟨Ext.refl _, fun _ h => Row.below (hd.1) h⟩
  · refine step_plain rfl fun vs w1 hE hd => ?_
    exact gives_move _ (vs 3) (.inr rfl) rfl ⟨Ext.refl _, fun _ h => Row.below (hd.1) h⟩
  · intro vs w2 hE hR
    have h4 : Row w2 (vs 4) (i64s (digits p)) := hR 4 (by omega)
    have h5 : Row w2 (vs 5) (i64s (digits q)) := hR 5 (by omega)
    have lx : (i64s (digits p)).length = 68 := by simp [i64s, digits_len, HL.out]
    have ly : (i64s (digits q)).length = 68 := by simp [i64s, digits_len, HM.out]
    obtain ⟨b, off, c, e4, h1, h2, hcx⟩ := h4
    obtain ⟨b', off', c', e5, h1', h2', hcy⟩ := h5
    rw [lx] at e4 h1
    rw [ly] at e5 h1'
    rw [e4, e5]
    clear e4 e5
    unfold maxLen at h2 h2'
    have HRA := Lib.hid (range_below hra hE)
    have HRB := Lib.hid (range_below hrb hE)
    clear hR lx ly hra hrb
    have hE2 : Below w.heap.size w w2 := ((((Below.refl _ _).alloc (Nat.le_refl _) _).alloc (by simp) _).trans (hb1.mono (by simp; omega))).drew.trans (hE.mono (by have := hb1.size; simp at this ⊢; omega))
    clear hE hb1
    have HX := Lib.hid hcx
    have HY := Lib.hid hcy
    clear hcx hcy
    go_wp2
    go_loopw [7, 8, 9, 26] (fun l m _ i wr => ∃ (k n : Nat) (lb mb : Bool), k ≤ 68 ∧ i = .int .i64 k ∧ l = .bool lb ∧ m = .bool mb ∧ wr = w2.drewN n ∧ lb = lessB (digits p) (digits q) k ∧ mb = lessB (digits q) (digits p) k)
      (fun _ _ _ i _ => 68 - (intOf i).toNat)
    case atStart => exact ⟨0, 0, false, false, by omega, rfl, rfl, rfl, rfl, rfl, rfl⟩
    case round =>
      obtain ⟨k, n, lb, mb, hk, rfl, rfl, rfl, rfl, hlb, hmb⟩ := hrel
      by_cases hlt : k < 68
      · have hkx : k < (digits p).length := by rw [digits_len, HL.out]; omega
        have hky : k < (digits q).length := by rw [digits_len, HM.out]; omega
        obtain ⟨x, hx⟩ : ∃ x, x = (digits p).getD k 0 := ⟨_, rfl⟩
        obtain ⟨y, hy⟩ : ∃ y, y = (digits q).getD k 0 := ⟨_, rfl⟩
        have c1 : w2.cell? ⟨b, off + k, none⟩ = some (.int .i64 x) := HX.out k _ (by simp [i64s, hx, List.getD_eq_getElem?_getD, hkx])
        have c2 : w2.cell? ⟨b', off' + k, none⟩ = some (.int .i64 y) := HY.out k _ (by simp [i64s, hy, List.getD_eq_getElem?_getD, hky])
        have rx : 0 ≤ x ∧ x ≤ 3 := by
          rw [hx, List.getD_eq_getElem?_getD, List.getElem?_eq_getElem hkx]
          exact digits_range p _ (List.getElem_mem _)
        have hlb2 : lessB (digits p) (digits q) (k + 1) = (lb || decide (x < y)) := by rw [lessB_succ, ← hlb, hx, hy]
        have hmb2 : lessB (digits q) (digits p) (k + 1) = (mb || decide (y < x)) := by rw [lessB_succ, ← hmb, hx, hy]
        have HLB := Lib.hid hlb2
        have HMB := Lib.hid hmb2
        clear hlb hmb hlb2 hmb2 hx hy hkx hky
        cases lb <;> cases mb
        all_goals
          go_wp2
          go_quiet (fail)
          go_wp2
          go_quiet (fail)
          go_wp2
          go_roundw
          case rel => exact ⟨k + 1, _, _, _, by omega, by go_num, rfl, rfl, rfl, by rw [HLB.out]; rfl, by rw [HMB.out]; rfl⟩
          case measure => simp [intOf]; omega
      · obtain rfl : k = 68 := by omega
        rw [lessB_all p q HL.out HM.out hp hq] at hlb
        rw [lessB_all q p HM.out HL.out hq hp] at hmb
        have hsym : decide (q = p) = decide (p = q) := by
          rw [Bool.eq_iff_iff]
          simp [eq_comm]
        rw [hsym] at hmb
        obtain ⟨dd, hdd⟩ : ∃ dd, dd = decide (p = q) := ⟨_, rfl⟩
        have hq2 : ∀ W : World, (Op.equalIn 10000 23 (.agg (u8s p).toArray) (.agg (u8s q).toArray)).run Try.prog W = .ok dd W := fun W => by
          rw [hdd]
          exact run_equalIn_bytes 9998 23 5 16 p q Try.underlying23 Try.underlying5 Try.size5 HL.out HM.out
        rw [← hdd] at hlb hmb
        clear hdd hsym hlt hk
        have hra : (w2.drewN n).rangeAt w.heap.size 0 (u8s p) := fun j v hv => HRA.out j v hv
        have hrb : (w2.drewN n).rangeAt (w.heap.size + 1) 0 (u8s q) := fun j v hv => HRB.out j v hv
        have HRA2 := Lib.hid hra
        have HRB2 := Lib.hid hrb
        clear hra hrb
        cases dd
        all_goals
          subst hlb
          subst hmb
          go_wp2_with (first | (refine wpList_load_g rfl 23 (.tmp 2) rfl w.heap.size 0 rfl (u8s p) _ HRA2.out Try.underlying23 rfl HSA.out ?_) | (refine wpList_load_g rfl 23 (.tmp 3) rfl (w.heap.size + 1) 0 rfl (u8s q) _ HRB2.out Try.underlying23 rfl HSB.out ?_))
          go_ret
          exact ⟨rfl, hE2.trans ⟨rfl, rfl, rfl, Nat.le_refl _, fun _ _ => rfl⟩⟩
end Go.Proofs.Ytdedphhohiioiaa
