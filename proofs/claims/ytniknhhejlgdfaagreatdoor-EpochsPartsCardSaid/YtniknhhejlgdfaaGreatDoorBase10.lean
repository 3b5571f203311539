/- Lemmas that laws of this seat rest on, part 10; each says its own conditions: UPool, Number, NumberOk, WDig, Qc0, Bk, WPut130, WSig, Al11, Late0. -/
import Derived.RangeFuncNested
import Derived.RangeFuncBound
import Derived.RangeFuncCalls
import Derived.RangeFuncLeaves
import Derived.Shelf.Abstract
import Derived.Shelf.RegionOpen
import Derived.WalkKit
import Derived.OwnWalkIn
import Derived.TacticsInMore
import Derived.LoopNIn
import Derived.LoopIn
import Derived.WalkSpells
import Derived.Maps.AppendAt
import Derived.Deep.MidRow
import Derived.Deep.AppendSrc
import Derived.Lib.Hide
import Derived.OrdersIn
import Derived.Orders
import Derived.Test.YtniknhhejlgdfaaGreatDoorProg
import Derived.Laws.BytesArg
import Derived.Lib.ConvBytes
import Derived.Lib.SlBytesRow
import Derived.Laws.Cover3
import Derived.Test.YtniknhhejlgdfaaGreatDoorBase5
import Derived.Test.YtniknhhejlgdfaaGreatDoorBase6
import Derived.Test.YtniknhhejlgdfaaGreatDoorBase7
import Derived.Test.YtniknhhejlgdfaaGreatDoorBase8
import Derived.Test.YtniknhhejlgdfaaGreatDoorBase9
/- The pool as it lies; New, Len, Has. -/
namespace Go.Proofs.YtniknhhejlgdfaaGreatDoor
open Go.RowKit

theorem gives_nilCheck {P : Program} {o : Oper} {ρ : Operand → Value} {w : World} {S : Value → World → Prop} (x : Operand) (ho : o.op = .nilCheck x) (a : Addr) (hx : ρ x = .pointer (some a)) (h : S (.pointer (some a)) w) : Gives P o ρ w S := by
  refine gives_val _ (w' := w) ?_ h
  unfold execOp
  simp only [ho, hx]
  go_simp
end Go.Proofs.YtniknhhejlgdfaaGreatDoor
/- wire.Writer.Number. -/
namespace Go.Proofs.YtniknhhejlgdfaaGreatDoor
open Go.RowKit

theorem OwnO.nil {w : World} {base e : Nat} : OwnO w base e (.slice none 0 0) [] := .inl ⟨rfl, rfl⟩
set_option maxHeartbeats 4000000 in
set_option maxRecDepth 100000 in
/-- The number has not the width. -/
theorem number_bad (base q : Nat) (aR : Addr) (s : WS) (r : Option Nat) (n : Int) (k : Nat) (hk : k = 1 ∨ k = 2 ∨ k = 4 ∨ k = 6) (hbad : ¬ (0 ≤ n ∧ n < (256 : Int) ^ k)) (w : World) (H : WrAt base w q aR s r) (hR : w.cell? ⟨0, 0, none⟩ = some (errV aR)) (h1 : 0 < w.heap.size) :
    Calls Tryz.prog 127 #[.pointer (some ⟨q, 0, none⟩), .int .i64 n, .int .i64 k] w fun e w' => e = .returned (.tuple #[]) ∧ WStep base q aR none r w w' := by
  have H0 := Lib.hid H
  have HR := Lib.hid hR
  clear H hR
  have fin : ∀ W, Ext w.drew W → Calls Tryz.prog 152 #[.pointer (some ⟨q, 0, none⟩), errV aR] W fun e w' => e = .returned (.tuple #[]) ∧ WStep base q aR none r w w' := fun W hE =>
    (fail_any base q aR s r W (H0.out.below (ext_of_drew hE))).mono fun e w' h => ⟨h.1, WStep.then_ (Only.of_below (ext_of_drew hE)) (.inl rfl) h.2⟩
  have FIN := Lib.hid fin
  clear fin
  rcases hk with rfl | rfl | rfl | rfl
  · by_cases hn : n < 0
    · clear hbad
      go_enter Tryz.func127, Tryz.ntmps127
      go_wp2_with fail
      refine wp_region_rely3 (by kernel_rfl) 4 (by kernel_rfl) (by kernel_rfl) Ext Ext.refl Ext.trans (fun ix => match ix with
        | 0 => fun _ v => v = .pointer (some ⟨q, 0, none⟩)
        | 1 => fun _ v => v = .pointer (some ⟨q, 0, none⟩)
        | 2 => fun _ v => v = .pointer (some ⟨q, 0, none⟩)
        | 3 => fun _ v => v = errV aR
        | _ => fun _ _ => False) ?_
      simp (maxSteps := 10000000) only [Rely, List.take_succ_cons, List.take_zero, List.drop_succ_cons, List.drop_zero, Nat.reduceAdd, Nat.zero_add, Act.put, List.setIfInBounds_toArray, List.set_cons_succ, List.set_cons_zero]
      refine ⟨?_, ?_, ?_, ?_, ?_⟩
      · refine step_plain rfl fun rv wq hE hd => ?_
        exact gives_move _ (.pointer (some ⟨q, 0, none⟩)) (.inl rfl) rfl ⟨Ext.refl _, fun _ _ => rfl⟩
      · refine step_plain rfl fun rv wq hE hd => ?_
        exact gives_nilCheck _ rfl ⟨q, 0, none⟩ (show rv 0 = _ from hd.1) ⟨Ext.refl _, fun _ _ => rfl⟩
      · refine step_plain rfl fun rv wq hE hd => ?_
        exact gives_fieldAddr' 243 _ 0 rfl (.pointer (some ⟨q, 0, none⟩)) _ (show rv 1 = _ from hd.1) (by go_simp) ⟨Ext.refl _, fun _ _ => rfl⟩
      · refine step_plain rfl fun rv wq hE hd => ?_
        have hc := cell_on (ext_of_drew hE) HR.out
        exact gives_loadAt 40 _ rfl (.pointer (some ⟨0, 0, none⟩)) (errV aR) rfl (by go_simp) ⟨Ext.refl _, fun _ _ => rfl⟩
      · intro rv wq hE hR
        have h0 : rv 2 = .pointer (some ⟨q, 0, none⟩) := hR 2 (by omega)
        have h3 : rv 3 = errV aR := hR 3 (by omega)
        rw [h0, h3]
        have FW := Lib.hid (FIN.out _ hE)
        clear hR hE h0 h3
        go_wp2_with fail
        refine FW.out.mono ?_
        rintro _ w2 ⟨rfl, hst⟩
        go_wp2_with fail
        exact bodyPost_ret (results_none rfl _ _ _) rfl ⟨rfl, hst⟩
    have hn2 : 256 ≤ n := by omega
    clear hbad
    go_enter Tryz.func127, Tryz.ntmps127
    go_wp2_with fail
    refine wp_region_rely3 (by kernel_rfl) 4 (by kernel_rfl) (by kernel_rfl) Ext Ext.refl Ext.trans (fun ix => match ix with
      | 0 => fun _ v => v = .pointer (some ⟨q, 0, none⟩)
      | 1 => fun _ v => v = .pointer (some ⟨q, 0, none⟩)
      | 2 => fun _ v => v = .pointer (some ⟨q, 0, none⟩)
      | 3 => fun _ v => v = errV aR
      | _ => fun _ _ => False) ?_
    simp (maxSteps := 10000000) only [Rely, List.take_succ_cons, List.take_zero, List.drop_succ_cons, List.drop_zero, Nat.reduceAdd, Nat.zero_add, Act.put, List.setIfInBounds_toArray, List.set_cons_succ, List.set_cons_zero]
    refine ⟨?_, ?_, ?_, ?_, ?_⟩
    · refine step_plain rfl fun rv wq hE hd => ?_
      exact gives_move _ (.pointer (some ⟨q, 0, none⟩)) (.inl rfl) rfl ⟨Ext.refl _, fun _ _ => rfl⟩
    · refine step_plain rfl fun rv wq hE hd => ?_
      exact gives_nilCheck _ rfl ⟨q, 0, none⟩ (show rv 0 = _ from hd.1) ⟨Ext.refl _, fun _ _ => rfl⟩
    · refine step_plain rfl fun rv wq hE hd => ?_
      exact gives_fieldAddr' 243 _ 0 rfl (.pointer (some ⟨q, 0, none⟩)) _ (show rv 1 = _ from hd.1) (by go_simp) ⟨Ext.refl _, fun _ _ => rfl⟩
    · refine step_plain rfl fun rv wq hE hd => ?_
      have hc := cell_on (ext_of_drew hE) HR.out
      exact gives_loadAt 40 _ rfl (.pointer (some ⟨0, 0, none⟩)) (errV aR) rfl (by go_simp) ⟨Ext.refl _, fun _ _ => rfl⟩
    · intro rv wq hE hR
      have h0 : rv 2 = .pointer (some ⟨q, 0, none⟩) := hR 2 (by omega)
      have h3 : rv 3 = errV aR := hR 3 (by omega)
      rw [h0, h3]
      have FW := Lib.hid (FIN.out _ hE)
      clear hR hE h0 h3
      go_wp2_with fail
      refine FW.out.mono ?_
      rintro _ w2 ⟨rfl, hst⟩
      go_wp2_with fail
      exact bodyPost_ret (results_none rfl _ _ _) rfl ⟨rfl, hst⟩
  · by_cases hn : n < 0
    · clear hbad
      go_enter Tryz.func127, Tryz.ntmps127
      go_wp2_with fail
      refine wp_region_rely3 (by kernel_rfl) 4 (by kernel_rfl) (by kernel_rfl) Ext Ext.refl Ext.trans (fun ix => match ix with
        | 0 => fun _ v => v = .pointer (some ⟨q, 0, none⟩)
        | 1 => fun _ v => v = .pointer (some ⟨q, 0, none⟩)
        | 2 => fun _ v => v = .pointer (some ⟨q, 0, none⟩)
        | 3 => fun _ v => v = errV aR
        | _ => fun _ _ => False) ?_
      simp (maxSteps := 10000000) only [Rely, List.take_succ_cons, List.take_zero, List.drop_succ_cons, List.drop_zero, Nat.reduceAdd, Nat.zero_add, Act.put, List.setIfInBounds_toArray, List.set_cons_succ, List.set_cons_zero]
      refine ⟨?_, ?_, ?_, ?_, ?_⟩
      · refine step_plain rfl fun rv wq hE hd => ?_
        exact gives_move _ (.pointer (some ⟨q, 0, none⟩)) (.inl rfl) rfl ⟨Ext.refl _, fun _ _ => rfl⟩
      · refine step_plain rfl fun rv wq hE hd => ?_
        exact gives_nilCheck _ rfl ⟨q, 0, none⟩ (show rv 0 = _ from hd.1) ⟨Ext.refl _, fun _ _ => rfl⟩
      · refine step_plain rfl fun rv wq hE hd => ?_
        exact gives_fieldAddr' 243 _ 0 rfl (.pointer (some ⟨q, 0, none⟩)) _ (show rv 1 = _ from hd.1) (by go_simp) ⟨Ext.refl _, fun _ _ => rfl⟩
      · refine step_plain rfl fun rv wq hE hd => ?_
        have hc := cell_on (ext_of_drew hE) HR.out
        exact gives_loadAt 40 _ rfl (.pointer (some ⟨0, 0, none⟩)) (errV aR) rfl (by go_simp) ⟨Ext.refl _, fun _ _ => rfl⟩
      · intro rv wq hE hR
        have h0 : rv 2 = .pointer (some ⟨q, 0, none⟩) := hR 2 (by omega)
        have h3 : rv 3 = errV aR := hR 3 (by omega)
        rw [h0, h3]
        have FW := Lib.hid (FIN.out _ hE)
        clear hR hE h0 h3
        go_wp2_with fail
        refine FW.out.mono ?_
        rintro _ w2 ⟨rfl, hst⟩
        go_wp2_with fail
        exact bodyPost_ret (results_none rfl _ _ _) rfl ⟨rfl, hst⟩
    have hn2 : 65536 ≤ n := by omega
    clear hbad
    go_enter Tryz.func127, Tryz.ntmps127
    go_wp2_with fail
    refine wp_region_rely3 (by kernel_rfl) 4 (by kernel_rfl) (by kernel_rfl) Ext Ext.refl Ext.trans (fun ix => match ix with
      | 0 => fun _ v => v = .pointer (some ⟨q, 0, none⟩)
      | 1 => fun _ v => v = .pointer (some ⟨q, 0, none⟩)
      | 2 => fun _ v => v = .pointer (some ⟨q, 0, none⟩)
      | 3 => fun _ v => v = errV aR
      | _ => fun _ _ => False) ?_
    simp (maxSteps := 10000000) only [Rely, List.take_succ_cons, List.take_zero, List.drop_succ_cons, List.drop_zero, Nat.reduceAdd, Nat.zero_add, Act.put, List.setIfInBounds_toArray, List.set_cons_succ, List.set_cons_zero]
    refine ⟨?_, ?_, ?_, ?_, ?_⟩
    · refine step_plain rfl fun rv wq hE hd => ?_
      exact gives_move _ (.pointer (some ⟨q, 0, none⟩)) (.inl rfl) rfl ⟨Ext.refl _, fun _ _ => rfl⟩
    · refine step_plain rfl fun rv wq hE hd => ?_
      exact gives_nilCheck _ rfl ⟨q, 0, none⟩ (show rv 0 = _ from hd.1) ⟨Ext.refl _, fun _ _ => rfl⟩
    · refine step_plain rfl fun rv wq hE hd => ?_
      exact gives_fieldAddr' 243 _ 0 rfl (.pointer (some ⟨q, 0, none⟩)) _ (show rv 1 = _ from hd.1) (by go_simp) ⟨Ext.refl _, fun _ _ => rfl⟩
    · refine step_plain rfl fun rv wq hE hd => ?_
      have hc := cell_on (ext_of_drew hE) HR.out
      exact gives_loadAt 40 _ rfl (.pointer (some ⟨0, 0, none⟩)) (errV aR) rfl (by go_simp) ⟨Ext.refl _, fun _ _ => rfl⟩
    · intro rv wq hE hR
      have h0 : rv 2 = .pointer (some ⟨q, 0, none⟩) := hR 2 (by omega)
      have h3 : rv 3 = errV aR := hR 3 (by omega)
      rw [h0, h3]
      have FW := Lib.hid (FIN.out _ hE)
      clear hR hE h0 h3
      go_wp2_with fail
      refine FW.out.mono ?_
      rintro _ w2 ⟨rfl, hst⟩
      go_wp2_with fail
      exact bodyPost_ret (results_none rfl _ _ _) rfl ⟨rfl, hst⟩
  · by_cases hn : n < 0
    · clear hbad
      go_enter Tryz.func127, Tryz.ntmps127
      go_wp2_with fail
      refine wp_region_rely3 (by kernel_rfl) 4 (by kernel_rfl) (by kernel_rfl) Ext Ext.refl Ext.trans (fun ix => match ix with
        | 0 => fun _ v => v = .pointer (some ⟨q, 0, none⟩)
        | 1 => fun _ v => v = .pointer (some ⟨q, 0, none⟩)
        | 2 => fun _ v => v = .pointer (some ⟨q, 0, none⟩)
        | 3 => fun _ v => v = errV aR
        | _ => fun _ _ => False) ?_
      simp (maxSteps := 10000000) only [Rely, List.take_succ_cons, List.take_zero, List.drop_succ_cons, List.drop_zero, Nat.reduceAdd, Nat.zero_add, Act.put, List.setIfInBounds_toArray, List.set_cons_succ, List.set_cons_zero]
      refine ⟨?_, ?_, ?_, ?_, ?_⟩
      · refine step_plain rfl fun rv wq hE hd => ?_
        exact gives_move _ (.pointer (some ⟨q, 0, none⟩)) (.inl rfl) rfl ⟨Ext.refl _, fun _ _ => rfl⟩
      · refine step_plain rfl fun rv wq hE hd => ?_
        exact gives_nilCheck _ rfl ⟨q, 0, none⟩ (show rv 0 = _ from hd.1) ⟨Ext.refl _, fun _ _ => rfl⟩
      · refine step_plain rfl fun rv wq hE hd => ?_
        exact gives_fieldAddr' 243 _ 0 rfl (.pointer (some ⟨q, 0, none⟩)) _ (show rv 1 = _ from hd.1) (by go_simp) ⟨Ext.refl _, fun _ _ => rfl⟩
      · refine step_plain rfl fun rv wq hE hd => ?_
        have hc := cell_on (ext_of_drew hE) HR.out
        exact gives_loadAt 40 _ rfl (.pointer (some ⟨0, 0, none⟩)) (errV aR) rfl (by go_simp) ⟨Ext.refl _, fun _ _ => rfl⟩
      · intro rv wq hE hR
        have h0 : rv 2 = .pointer (some ⟨q, 0, none⟩) := hR 2 (by omega)
        have h3 : rv 3 = errV aR := hR 3 (by omega)
        rw [h0, h3]
        have FW := Lib.hid (FIN.out _ hE)
        clear hR hE h0 h3
        go_wp2_with fail
        refine FW.out.mono ?_
        rintro _ w2 ⟨rfl, hst⟩
        go_wp2_with fail
        exact bodyPost_ret (results_none rfl _ _ _) rfl ⟨rfl, hst⟩
    have hn2 : 4294967296 ≤ n := by omega
    clear hbad
    go_enter Tryz.func127, Tryz.ntmps127
    go_wp2_with fail
    refine wp_region_rely3 (by kernel_rfl) 4 (by kernel_rfl) (by kernel_rfl) Ext Ext.refl Ext.trans (fun ix => match ix with
      | 0 => fun _ v => v = .pointer (some ⟨q, 0, none⟩)
      | 1 => fun _ v => v = .pointer (some ⟨q, 0, none⟩)
      | 2 => fun _ v => v = .pointer (some ⟨q, 0, none⟩)
      | 3 => fun _ v => v = errV aR
      | _ => fun _ _ => False) ?_
    simp (maxSteps := 10000000) only [Rely, List.take_succ_cons, List.take_zero, List.drop_succ_cons, List.drop_zero, Nat.reduceAdd, Nat.zero_add, Act.put, List.setIfInBounds_toArray, List.set_cons_succ, List.set_cons_zero]
    refine ⟨?_, ?_, ?_, ?_, ?_⟩
    · refine step_plain rfl fun rv wq hE hd => ?_
      exact gives_move _ (.pointer (some ⟨q, 0, none⟩)) (.inl rfl) rfl ⟨Ext.refl _, fun _ _ => rfl⟩
    · refine step_plain rfl fun rv wq hE hd => ?_
      exact gives_nilCheck _ rfl ⟨q, 0, none⟩ (show rv 0 = _ from hd.1) ⟨Ext.refl _, fun _ _ => rfl⟩
    · refine step_plain rfl fun rv wq hE hd => ?_
      exact gives_fieldAddr' 243 _ 0 rfl (.pointer (some ⟨q, 0, none⟩)) _ (show rv 1 = _ from hd.1) (by go_simp) ⟨Ext.refl _, fun _ _ => rfl⟩
    · refine step_plain rfl fun rv wq hE hd => ?_
      have hc := cell_on (ext_of_drew hE) HR.out
      exact gives_loadAt 40 _ rfl (.pointer (some ⟨0, 0, none⟩)) (errV aR) rfl (by go_simp) ⟨Ext.refl _, fun _ _ => rfl⟩
    · intro rv wq hE hR
      have h0 : rv 2 = .pointer (some ⟨q, 0, none⟩) := hR 2 (by omega)
      have h3 : rv 3 = errV aR := hR 3 (by omega)
      rw [h0, h3]
      have FW := Lib.hid (FIN.out _ hE)
      clear hR hE h0 h3
      go_wp2_with fail
      refine FW.out.mono ?_
      rintro _ w2 ⟨rfl, hst⟩
      go_wp2_with fail
      exact bodyPost_ret (results_none rfl _ _ _) rfl ⟨rfl, hst⟩
  · by_cases hn : n < 0
    · clear hbad
      go_enter Tryz.func127, Tryz.ntmps127
      go_wp2_with fail
      refine wp_region_rely3 (by kernel_rfl) 4 (by kernel_rfl) (by kernel_rfl) Ext Ext.refl Ext.trans (fun ix => match ix with
        | 0 => fun _ v => v = .pointer (some ⟨q, 0, none⟩)
        | 1 => fun _ v => v = .pointer (some ⟨q, 0, none⟩)
        | 2 => fun _ v => v = .pointer (some ⟨q, 0, none⟩)
        | 3 => fun _ v => v = errV aR
        | _ => fun _ _ => False) ?_
      simp (maxSteps := 10000000) only [Rely, List.take_succ_cons, List.take_zero, List.drop_succ_cons, List.drop_zero, Nat.reduceAdd, Nat.zero_add, Act.put, List.setIfInBounds_toArray, List.set_cons_succ, List.set_cons_zero]
      refine ⟨?_, ?_, ?_, ?_, ?_⟩
      · refine step_plain rfl fun rv wq hE hd => ?_
        exact gives_move _ (.pointer (some ⟨q, 0, none⟩)) (.inl rfl) rfl ⟨Ext.refl _, fun _ _ => rfl⟩
      · refine step_plain rfl fun rv wq hE hd => ?_
        exact gives_nilCheck _ rfl ⟨q, 0, none⟩ (show rv 0 = _ from hd.1) ⟨Ext.refl _, fun _ _ => rfl⟩
      · refine step_plain rfl fun rv wq hE hd => ?_
        exact gives_fieldAddr' 243 _ 0 rfl (.pointer (some ⟨q, 0, none⟩)) _ (show rv 1 = _ from hd.1) (by go_simp) ⟨Ext.refl _, fun _ _ => rfl⟩
      · refine step_plain rfl fun rv wq hE hd => ?_
        have hc := cell_on (ext_of_drew hE) HR.out
        exact gives_loadAt 40 _ rfl (.pointer (some ⟨0, 0, none⟩)) (errV aR) rfl (by go_simp) ⟨Ext.refl _, fun _ _ => rfl⟩
      · intro rv wq hE hR
        have h0 : rv 2 = .pointer (some ⟨q, 0, none⟩) := hR 2 (by omega)
        have h3 : rv 3 = errV aR := hR 3 (by omega)
        rw [h0, h3]
        have FW := Lib.hid (FIN.out _ hE)
        clear hR hE h0 h3
        go_wp2_with fail
        refine FW.out.mono ?_
        rintro _ w2 ⟨rfl, hst⟩
        go_wp2_with fail
        exact bodyPost_ret (results_none rfl _ _ _) rfl ⟨rfl, hst⟩
    have hn2 : 281474976710656 ≤ n := by omega
    clear hbad
    go_enter Tryz.func127, Tryz.ntmps127
    go_wp2_with fail
    refine wp_region_rely3 (by kernel_rfl) 4 (by kernel_rfl) (by kernel_rfl) Ext Ext.refl Ext.trans (fun ix => match ix with
      | 0 => fun _ v => v = .pointer (some ⟨q, 0, none⟩)
      | 1 => fun _ v => v = .pointer (some ⟨q, 0, none⟩)
      | 2 => fun _ v => v = .pointer (some ⟨q, 0, none⟩)
      | 3 => fun _ v => v = errV aR
      | _ => fun _ _ => False) ?_
    simp (maxSteps := 10000000) only [Rely, List.take_succ_cons, List.take_zero, List.drop_succ_cons, List.drop_zero, Nat.reduceAdd, Nat.zero_add, Act.put, List.setIfInBounds_toArray, List.set_cons_succ, List.set_cons_zero]
    refine ⟨?_, ?_, ?_, ?_, ?_⟩
    · refine step_plain rfl fun rv wq hE hd => ?_
      exact gives_move _ (.pointer (some ⟨q, 0, none⟩)) (.inl rfl) rfl ⟨Ext.refl _, fun _ _ => rfl⟩
    · refine step_plain rfl fun rv wq hE hd => ?_
      exact gives_nilCheck _ rfl ⟨q, 0, none⟩ (show rv 0 = _ from hd.1) ⟨Ext.refl _, fun _ _ => rfl⟩
    · refine step_plain rfl fun rv wq hE hd => ?_
      exact gives_fieldAddr' 243 _ 0 rfl (.pointer (some ⟨q, 0, none⟩)) _ (show rv 1 = _ from hd.1) (by go_simp) ⟨Ext.refl _, fun _ _ => rfl⟩
    · refine step_plain rfl fun rv wq hE hd => ?_
      have hc := cell_on (ext_of_drew hE) HR.out
      exact gives_loadAt 40 _ rfl (.pointer (some ⟨0, 0, none⟩)) (errV aR) rfl (by go_simp) ⟨Ext.refl _, fun _ _ => rfl⟩
    · intro rv wq hE hR
      have h0 : rv 2 = .pointer (some ⟨q, 0, none⟩) := hR 2 (by omega)
      have h3 : rv 3 = errV aR := hR 3 (by omega)
      rw [h0, h3]
      have FW := Lib.hid (FIN.out _ hE)
      clear hR hE h0 h3
      go_wp2_with fail
      refine FW.out.mono ?_
      rintro _ w2 ⟨rfl, hst⟩
      go_wp2_with fail
      exact bodyPost_ret (results_none rfl _ _ _) rfl ⟨rfl, hst⟩
end Go.Proofs.YtniknhhejlgdfaaGreatDoor
/- wire.Writer.Number, where the number has the width. -/
namespace Go.Proofs.YtniknhhejlgdfaaGreatDoor
open Go.RowKit

theorem beN_take (n : Int) (k j : Nat) (v : Int) (hj : j < k) (hv : v = n / (256 : Int) ^ (k - 1 - j) % 256) : u8s ((beN n k).take j) ++ [Value.int .u8 v] = u8s ((beN n k).take (j + 1)) := by
  have hl : j < (beN n k).length := by rw [beN_len]; exact hj
  have hg : (beN n k)[j] = v := by rw [hv]; simp [beN]
  rw [List.take_succ_eq_append_getElem hl, hg]
  simp [u8s]

set_option maxHeartbeats 4000000 in
set_option maxRecDepth 100000 in
theorem number_ok1 (base q : Nat) (aR : Addr) (s : WS) (r : Option Nat) (n : Int) (h0 : 0 ≤ n) (h1 : n < 256) (w : World) (H : WrAt base w q aR s r) (hlim : Lim s (maxW - 1)) :
    Calls Tryz.prog 127 #[.pointer (some ⟨q, 0, none⟩), .int .i64 n, .int .i64 1] w fun e w' => e = .returned (.tuple #[]) ∧ WStep base q aR (fixS (beN n 1) s) r w w' := by
  have H0 := Lib.hid H
  have HL := Lib.hid hlim
  have hn0 : ¬ n < 0 := by omega
  have hn1 : ¬ 256 ≤ n := by omega
  clear H hlim
  go_enter Tryz.func127, Tryz.ntmps127
  go_wp2
  go_loopw [6, 7] (fun t i wr => ∃ (j c : Nat) (A : Option Addr) (x : Int), j ≤ 1 ∧ t = Value.slice A j c ∧ i = .int .i64 x ∧ x = 0 - (j : Int) ∧ Hid (OwnO wr w.heap.size 5 t (u8s ((beN n 1).take j))) ∧ Hid (Below w.heap.size w wr))
    (fun t _ _ => 1 - vlen t)
  case atStart => exact ⟨0, 0, none, 0, by omega, rfl, rfl, by omega, Lib.hid OwnO.nil, Lib.hid (Below.refl _ _)⟩
  case round =>
    obtain ⟨j, c5, A5, x, hj, rfl, rfl, hx, hown, hbel⟩ := hrel
    by_cases hlt : j < 1
    · have hjc : j = 0 := by omega
      have hrl : ((beN n 1).take j).length = j := by rw [List.length_take, beN_len]; omega
      have HRZ := Lib.hid hrl
      clear hrl
      subst hx
      rcases hjc with rfl
      · go_wp2_with (at_builtin; refine appO (w0 := w) w.heap.size rfl (.tmp 40) (.tmp 46) 137 137 5 (.int .u8 0) 1 rfl Tryz.underlying137 Tryz.info5 rfl (by omega) _ _ rfl _ 1 [.int .u8 _] rfl (src_new wr 5 [.int .u8 _] 1 rfl Tryz.underlying137 (by simp [Value.oneCell'])) (hown.out.below ((Below.refl _ _).alloc (Nat.le_refl _) _)) (hbel.out.alloc hbel.out.size _) (by have := hbel.out.size; simp; omega) (by have := HRZ.out; rw [u8s_len']; omega) ?_; intro v1 w1 ap; obtain ⟨A6, c6, rfl, hc6⟩ := ap.own.len; rw [List.length_append, u8s_len', HRZ.out] at hc6 ap ⊢; have O6 := Lib.hid ap.own; have B6 := Lib.hid ap.below; clear ap)
        go_roundw
        case rel => exact ⟨1, c6, A6, _, by omega, rfl, rfl, by omega, Lib.hid (by have := O6.out; rw [beN_take n 1 0 _ (by omega) (by simp only [Nat.reduceSub, Int.reducePow] <;> omega)] at this; exact this), B6⟩
        case measure => simp only [vlen]; omega
    · obtain rfl : j = 1 := by omega
      have hxn : x < 0 := by omega
      have hb := hown.out
      rw [List.take_of_length_le (by rw [beN_len]; exact Nat.le_refl _)] at hb
      have HB := Lib.hid (Bs.of_own hb (beN_ok n 1))
      clear hb
      go_wp2_with fail
      refine (fixed_any base q aR s r _ (beN n 1) wr (H0.out.below hbel.out) HB.out (by rw [beN_len]; exact HL.out) (by rw [beN_len]; unfold maxW; omega)).mono ?_
      rintro _ w2 ⟨rfl, hst⟩
      go_wp2_with fail
      go_end0
      exact ⟨rfl, WStep.then_ (Only.of_below hbel.out) (.inl rfl) hst⟩

set_option maxHeartbeats 4000000 in
set_option maxRecDepth 100000 in
theorem number_ok2 (base q : Nat) (aR : Addr) (s : WS) (r : Option Nat) (n : Int) (h0 : 0 ≤ n) (h1 : n < 65536) (w : World) (H : WrAt base w q aR s r) (hlim : Lim s (maxW - 2)) :
    Calls Tryz.prog 127 #[.pointer (some ⟨q, 0, none⟩), .int .i64 n, .int .i64 2] w fun e w' => e = .returned (.tuple #[]) ∧ WStep base q aR (fixS (beN n 2) s) r w w' := by
  have H0 := Lib.hid H
  have HL := Lib.hid hlim
  have hn0 : ¬ n < 0 := by omega
  have hn1 : ¬ 65536 ≤ n := by omega
  clear H hlim
  go_enter Tryz.func127, Tryz.ntmps127
  go_wp2
  go_loopw [6, 7] (fun t i wr => ∃ (j c : Nat) (A : Option Addr) (x : Int), j ≤ 2 ∧ t = Value.slice A j c ∧ i = .int .i64 x ∧ x = 1 - (j : Int) ∧ Hid (OwnO wr w.heap.size 5 t (u8s ((beN n 2).take j))) ∧ Hid (Below w.heap.size w wr))
    (fun t _ _ => 2 - vlen t)
  case atStart => exact ⟨0, 0, none, 1, by omega, rfl, rfl, by omega, Lib.hid OwnO.nil, Lib.hid (Below.refl _ _)⟩
  case round =>
    obtain ⟨j, c5, A5, x, hj, rfl, rfl, hx, hown, hbel⟩ := hrel
    by_cases hlt : j < 2
    · have hjc : j = 0 ∨ j = 1 := by omega
      have hrl : ((beN n 2).take j).length = j := by rw [List.length_take, beN_len]; omega
      have HRZ := Lib.hid hrl
      clear hrl
      subst hx
      rcases hjc with rfl | rfl
      · go_wp2_with (at_builtin; refine appO (w0 := w) w.heap.size rfl (.tmp 40) (.tmp 46) 137 137 5 (.int .u8 0) 1 rfl Tryz.underlying137 Tryz.info5 rfl (by omega) _ _ rfl _ 1 [.int .u8 _] rfl (src_new wr 5 [.int .u8 _] 1 rfl Tryz.underlying137 (by simp [Value.oneCell'])) (hown.out.below ((Below.refl _ _).alloc (Nat.le_refl _) _)) (hbel.out.alloc hbel.out.size _) (by have := hbel.out.size; simp; omega) (by have := HRZ.out; rw [u8s_len']; omega) ?_; intro v1 w1 ap; obtain ⟨A6, c6, rfl, hc6⟩ := ap.own.len; rw [List.length_append, u8s_len', HRZ.out] at hc6 ap ⊢; have O6 := Lib.hid ap.own; have B6 := Lib.hid ap.below; clear ap)
        go_roundw
        case rel => exact ⟨1, c6, A6, _, by omega, rfl, rfl, by omega, Lib.hid (by have := O6.out; rw [beN_take n 2 0 _ (by omega) (by simp only [Nat.reduceSub, Int.reducePow] <;> omega)] at this; exact this), B6⟩
        case measure => simp only [vlen]; omega
      · go_wp2_with (at_builtin; refine appO (w0 := w) w.heap.size rfl (.tmp 40) (.tmp 46) 137 137 5 (.int .u8 0) 1 rfl Tryz.underlying137 Tryz.info5 rfl (by omega) _ _ rfl _ 1 [.int .u8 _] rfl (src_new wr 5 [.int .u8 _] 1 rfl Tryz.underlying137 (by simp [Value.oneCell'])) (hown.out.below ((Below.refl _ _).alloc (Nat.le_refl _) _)) (hbel.out.alloc hbel.out.size _) (by have := hbel.out.size; simp; omega) (by have := HRZ.out; rw [u8s_len']; omega) ?_; intro v1 w1 ap; obtain ⟨A6, c6, rfl, hc6⟩ := ap.own.len; rw [List.length_append, u8s_len', HRZ.out] at hc6 ap ⊢; have O6 := Lib.hid ap.own; have B6 := Lib.hid ap.below; clear ap)
        go_roundw
        case rel => exact ⟨2, c6, A6, _, by omega, rfl, rfl, by omega, Lib.hid (by have := O6.out; rw [beN_take n 2 1 _ (by omega) (by simp only [Nat.reduceSub, Int.reducePow] <;> omega)] at this; exact this), B6⟩
        case measure => simp only [vlen]; omega
    · obtain rfl : j = 2 := by omega
      have hxn : x < 0 := by omega
      have hb := hown.out
      rw [List.take_of_length_le (by rw [beN_len]; exact Nat.le_refl _)] at hb
      have HB := Lib.hid (Bs.of_own hb (beN_ok n 2))
      clear hb
      go_wp2_with fail
      refine (fixed_any base q aR s r _ (beN n 2) wr (H0.out.below hbel.out) HB.out (by rw [beN_len]; exact HL.out) (by rw [beN_len]; unfold maxW; omega)).mono ?_
      rintro _ w2 ⟨rfl, hst⟩
      go_wp2_with fail
      go_end0
      exact ⟨rfl, WStep.then_ (Only.of_below hbel.out) (.inl rfl) hst⟩

set_option maxHeartbeats 4000000 in
set_option maxRecDepth 100000 in
theorem number_ok4 (base q : Nat) (aR : Addr) (s : WS) (r : Option Nat) (n : Int) (h0 : 0 ≤ n) (h1 : n < 4294967296) (w : World) (H : WrAt base w q aR s r) (hlim : Lim s (maxW - 4)) :
    Calls Tryz.prog 127 #[.pointer (some ⟨q, 0, none⟩), .int .i64 n, .int .i64 4] w fun e w' => e = .returned (.tuple #[]) ∧ WStep base q aR (fixS (beN n 4) s) r w w' := by
  have H0 := Lib.hid H
  have HL := Lib.hid hlim
  have hn0 : ¬ n < 0 := by omega
  have hn1 : ¬ 4294967296 ≤ n := by omega
  clear H hlim
  go_enter Tryz.func127, Tryz.ntmps127
  go_wp2
  go_loopw [6, 7] (fun t i wr => ∃ (j c : Nat) (A : Option Addr) (x : Int), j ≤ 4 ∧ t = Value.slice A j c ∧ i = .int .i64 x ∧ x = 3 - (j : Int) ∧ Hid (OwnO wr w.heap.size 5 t (u8s ((beN n 4).take j))) ∧ Hid (Below w.heap.size w wr))
    (fun t _ _ => 4 - vlen t)
  case atStart => exact ⟨0, 0, none, 3, by omega, rfl, rfl, by omega, Lib.hid OwnO.nil, Lib.hid (Below.refl _ _)⟩
  case round =>
    obtain ⟨j, c5, A5, x, hj, rfl, rfl, hx, hown, hbel⟩ := hrel
    by_cases hlt : j < 4
    · have hjc : j = 0 ∨ j = 1 ∨ j = 2 ∨ j = 3 := by omega
      have hrl : ((beN n 4).take j).length = j := by rw [List.length_take, beN_len]; omega
      have HRZ := Lib.hid hrl
      clear hrl
      subst hx
      rcases hjc with rfl | rfl | rfl | rfl
      · go_wp2_with (at_builtin; refine appO (w0 := w) w.heap.size rfl (.tmp 40) (.tmp 46) 137 137 5 (.int .u8 0) 1 rfl Tryz.underlying137 Tryz.info5 rfl (by omega) _ _ rfl _ 1 [.int .u8 _] rfl (src_new wr 5 [.int .u8 _] 1 rfl Tryz.underlying137 (by simp [Value.oneCell'])) (hown.out.below ((Below.refl _ _).alloc (Nat.le_refl _) _)) (hbel.out.alloc hbel.out.size _) (by have := hbel.out.size; simp; omega) (by have := HRZ.out; rw [u8s_len']; omega) ?_; intro v1 w1 ap; obtain ⟨A6, c6, rfl, hc6⟩ := ap.own.len; rw [List.length_append, u8s_len', HRZ.out] at hc6 ap ⊢; have O6 := Lib.hid ap.own; have B6 := Lib.hid ap.below; clear ap)
        go_roundw
        case rel => exact ⟨1, c6, A6, _, by omega, rfl, rfl, by omega, Lib.hid (by have := O6.out; rw [beN_take n 4 0 _ (by omega) (by simp only [Nat.reduceSub, Int.reducePow] <;> omega)] at this; exact this), B6⟩
        case measure => simp only [vlen]; omega
      · go_wp2_with (at_builtin; refine appO (w0 := w) w.heap.size rfl (.tmp 40) (.tmp 46) 137 137 5 (.int .u8 0) 1 rfl Tryz.underlying137 Tryz.info5 rfl (by omega) _ _ rfl _ 1 [.int .u8 _] rfl (src_new wr 5 [.int .u8 _] 1 rfl Tryz.underlying137 (by simp [Value.oneCell'])) (hown.out.below ((Below.refl _ _).alloc (Nat.le_refl _) _)) (hbel.out.alloc hbel.out.size _) (by have := hbel.out.size; simp; omega) (by have := HRZ.out; rw [u8s_len']; omega) ?_; intro v1 w1 ap; obtain ⟨A6, c6, rfl, hc6⟩ := ap.own.len; rw [List.length_append, u8s_len', HRZ.out] at hc6 ap ⊢; have O6 := Lib.hid ap.own; have B6 := Lib.hid ap.below; clear ap)
        go_roundw
        case rel => exact ⟨2, c6, A6, _, by omega, rfl, rfl, by omega, Lib.hid (by have := O6.out; rw [beN_take n 4 1 _ (by omega) (by simp only [Nat.reduceSub, Int.reducePow] <;> omega)] at this; exact this), B6⟩
        case measure => simp only [vlen]; omega
      · go_wp2_with (at_builtin; refine appO (w0 := w) w.heap.size rfl (.tmp 40) (.tmp 46) 137 137 5 (.int .u8 0) 1 rfl Tryz.underlying137 Tryz.info5 rfl (by omega) _ _ rfl _ 1 [.int .u8 _] rfl (src_new wr 5 [.int .u8 _] 1 rfl Tryz.underlying137 (by simp [Value.oneCell'])) (hown.out.below ((Below.refl _ _).alloc (Nat.le_refl _) _)) (hbel.out.alloc hbel.out.size _) (by have := hbel.out.size; simp; omega) (by have := HRZ.out; rw [u8s_len']; omega) ?_; intro v1 w1 ap; obtain ⟨A6, c6, rfl, hc6⟩ := ap.own.len; rw [List.length_append, u8s_len', HRZ.out] at hc6 ap ⊢; have O6 := Lib.hid ap.own; have B6 := Lib.hid ap.below; clear ap)
        go_roundw
        case rel => exact ⟨3, c6, A6, _, by omega, rfl, rfl, by omega, Lib.hid (by have := O6.out; rw [beN_take n 4 2 _ (by omega) (by simp only [Nat.reduceSub, Int.reducePow] <;> omega)] at this; exact this), B6⟩
        case measure => simp only [vlen]; omega
      · go_wp2_with (at_builtin; refine appO (w0 := w) w.heap.size rfl (.tmp 40) (.tmp 46) 137 137 5 (.int .u8 0) 1 rfl Tryz.underlying137 Tryz.info5 rfl (by omega) _ _ rfl _ 1 [.int .u8 _] rfl (src_new wr 5 [.int .u8 _] 1 rfl Tryz.underlying137 (by simp [Value.oneCell'])) (hown.out.below ((Below.refl _ _).alloc (Nat.le_refl _) _)) (hbel.out.alloc hbel.out.size _) (by have := hbel.out.size; simp; omega) (by have := HRZ.out; rw [u8s_len']; omega) ?_; intro v1 w1 ap; obtain ⟨A6, c6, rfl, hc6⟩ := ap.own.len; rw [List.length_append, u8s_len', HRZ.out] at hc6 ap ⊢; have O6 := Lib.hid ap.own; have B6 := Lib.hid ap.below; clear ap)
        go_roundw
        case rel => exact ⟨4, c6, A6, _, by omega, rfl, rfl, by omega, Lib.hid (by have := O6.out; rw [beN_take n 4 3 _ (by omega) (by simp only [Nat.reduceSub, Int.reducePow] <;> omega)] at this; exact this), B6⟩
        case measure => simp only [vlen]; omega
    · obtain rfl : j = 4 := by omega
      have hxn : x < 0 := by omega
      have hb := hown.out
      rw [List.take_of_length_le (by rw [beN_len]; exact Nat.le_refl _)] at hb
      have HB := Lib.hid (Bs.of_own hb (beN_ok n 4))
      clear hb
      go_wp2_with fail
      refine (fixed_any base q aR s r _ (beN n 4) wr (H0.out.below hbel.out) HB.out (by rw [beN_len]; exact HL.out) (by rw [beN_len]; unfold maxW; omega)).mono ?_
      rintro _ w2 ⟨rfl, hst⟩
      go_wp2_with fail
      go_end0
      exact ⟨rfl, WStep.then_ (Only.of_below hbel.out) (.inl rfl) hst⟩

set_option maxHeartbeats 4000000 in
set_option maxRecDepth 100000 in
theorem number_ok6 (base q : Nat) (aR : Addr) (s : WS) (r : Option Nat) (n : Int) (h0 : 0 ≤ n) (h1 : n < 281474976710656) (w : World) (H : WrAt base w q aR s r) (hlim : Lim s (maxW - 6)) :
    Calls Tryz.prog 127 #[.pointer (some ⟨q, 0, none⟩), .int .i64 n, .int .i64 6] w fun e w' => e = .returned (.tuple #[]) ∧ WStep base q aR (fixS (beN n 6) s) r w w' := by
  have H0 := Lib.hid H
  have HL := Lib.hid hlim
  have hn0 : ¬ n < 0 := by omega
  have hn1 : ¬ 281474976710656 ≤ n := by omega
  clear H hlim
  go_enter Tryz.func127, Tryz.ntmps127
  go_wp2
  go_loopw [6, 7] (fun t i wr => ∃ (j c : Nat) (A : Option Addr) (x : Int), j ≤ 6 ∧ t = Value.slice A j c ∧ i = .int .i64 x ∧ x = 5 - (j : Int) ∧ Hid (OwnO wr w.heap.size 5 t (u8s ((beN n 6).take j))) ∧ Hid (Below w.heap.size w wr))
    (fun t _ _ => 6 - vlen t)
  case atStart => exact ⟨0, 0, none, 5, by omega, rfl, rfl, by omega, Lib.hid OwnO.nil, Lib.hid (Below.refl _ _)⟩
  case round =>
    obtain ⟨j, c5, A5, x, hj, rfl, rfl, hx, hown, hbel⟩ := hrel
    by_cases hlt : j < 6
    · have hjc : j = 0 ∨ j = 1 ∨ j = 2 ∨ j = 3 ∨ j = 4 ∨ j = 5 := by omega
      have hrl : ((beN n 6).take j).length = j := by rw [List.length_take, beN_len]; omega
      have HRZ := Lib.hid hrl
      clear hrl
      subst hx
      rcases hjc with rfl | rfl | rfl | rfl | rfl | rfl
      · go_wp2_with (at_builtin; refine appO (w0 := w) w.heap.size rfl (.tmp 40) (.tmp 46) 137 137 5 (.int .u8 0) 1 rfl Tryz.underlying137 Tryz.info5 rfl (by omega) _ _ rfl _ 1 [.int .u8 _] rfl (src_new wr 5 [.int .u8 _] 1 rfl Tryz.underlying137 (by simp [Value.oneCell'])) (hown.out.below ((Below.refl _ _).alloc (Nat.le_refl _) _)) (hbel.out.alloc hbel.out.size _) (by have := hbel.out.size; simp; omega) (by have := HRZ.out; rw [u8s_len']; omega) ?_; intro v1 w1 ap; obtain ⟨A6, c6, rfl, hc6⟩ := ap.own.len; rw [List.length_append, u8s_len', HRZ.out] at hc6 ap ⊢; have O6 := Lib.hid ap.own; have B6 := Lib.hid ap.below; clear ap)
        go_roundw
        case rel => exact ⟨1, c6, A6, _, by omega, rfl, rfl, by omega, Lib.hid (by have := O6.out; rw [beN_take n 6 0 _ (by omega) (by simp only [Nat.reduceSub, Int.reducePow] <;> omega)] at this; exact this), B6⟩
        case measure => simp only [vlen]; omega
      · go_wp2_with (at_builtin; refine appO (w0 := w) w.heap.size rfl (.tmp 40) (.tmp 46) 137 137 5 (.int .u8 0) 1 rfl Tryz.underlying137 Tryz.info5 rfl (by omega) _ _ rfl _ 1 [.int .u8 _] rfl (src_new wr 5 [.int .u8 _] 1 rfl Tryz.underlying137 (by simp [Value.oneCell'])) (hown.out.below ((Below.refl _ _).alloc (Nat.le_refl _) _)) (hbel.out.alloc hbel.out.size _) (by have := hbel.out.size; simp; omega) (by have := HRZ.out; rw [u8s_len']; omega) ?_; intro v1 w1 ap; obtain ⟨A6, c6, rfl, hc6⟩ := ap.own.len; rw [List.length_append, u8s_len', HRZ.out] at hc6 ap ⊢; have O6 := Lib.hid ap.own; have B6 := Lib.hid ap.below; clear ap)
        go_roundw
        case rel => exact ⟨2, c6, A6, _, by omega, rfl, rfl, by omega, Lib.hid (by have := O6.out; rw [beN_take n 6 1 _ (by omega) (by simp only [Nat.reduceSub, Int.reducePow] <;> omega)] at this; exact this), B6⟩
        case measure => simp only [vlen]; omega
      · go_wp2_with (at_builtin; refine appO (w0 := w) w.heap.size rfl (.tmp 40) (.tmp 46) 137 137 5 (.int .u8 0) 1 rfl Tryz.underlying137 Tryz.info5 rfl (by omega) _ _ rfl _ 1 [.int .u8 _] rfl (src_new wr 5 [.int .u8 _] 1 rfl Tryz.underlying137 (by simp [Value.oneCell'])) (hown.out.below ((Below.refl _ _).alloc (Nat.le_refl _) _)) (hbel.out.alloc hbel.out.size _) (by have := hbel.out.size; simp; omega) (by have := HRZ.out; rw [u8s_len']; omega) ?_; intro v1 w1 ap; obtain ⟨A6, c6, rfl, hc6⟩ := ap.own.len; rw [List.length_append, u8s_len', HRZ.out] at hc6 ap ⊢; have O6 := Lib.hid ap.own; have B6 := Lib.hid ap.below; clear ap)
        go_roundw
        case rel => exact ⟨3, c6, A6, _, by omega, rfl, rfl, by omega, Lib.hid (by have := O6.out; rw [beN_take n 6 2 _ (by omega) (by simp only [Nat.reduceSub, Int.reducePow] <;> omega)] at this; exact this), B6⟩
        case measure => simp only [vlen]; omega
      · go_wp2_with (at_builtin; refine appO (w0 := w) w.heap.size rfl (.tmp 40) (.tmp 46) 137 137 5 (.int .u8 0) 1 rfl Tryz.underlying137 Tryz.info5 rfl (by omega) _ _ rfl _ 1 [.int .u8 _] rfl (src_new wr 5 [.int .u8 _] 1 rfl Tryz.underlying137 (by simp [Value.oneCell'])) (hown.out.below ((Below.refl _ _).alloc (Nat.le_refl _) _)) (hbel.out.alloc hbel.out.size _) (by have := hbel.out.size; simp; omega) (by have := HRZ.out; rw [u8s_len']; omega) ?_; intro v1 w1 ap; obtain ⟨A6, c6, rfl, hc6⟩ := ap.own.len; rw [List.length_append, u8s_len', HRZ.out] at hc6 ap ⊢; have O6 := Lib.hid ap.own; have B6 := Lib.hid ap.below; clear ap)
        go_roundw
        case rel => exact ⟨4, c6, A6, _, by omega, rfl, rfl, by omega, Lib.hid (by have := O6.out; rw [beN_take n 6 3 _ (by omega) (by simp only [Nat.reduceSub, Int.reducePow] <;> omega)] at this; exact this), B6⟩
        case measure => simp only [vlen]; omega
      · go_wp2_with (at_builtin; refine appO (w0 := w) w.heap.size rfl (.tmp 40) (.tmp 46) 137 137 5 (.int .u8 0) 1 rfl Tryz.underlying137 Tryz.info5 rfl (by omega) _ _ rfl _ 1 [.int .u8 _] rfl (src_new wr 5 [.int .u8 _] 1 rfl Tryz.underlying137 (by simp [Value.oneCell'])) (hown.out.below ((Below.refl _ _).alloc (Nat.le_refl _) _)) (hbel.out.alloc hbel.out.size _) (by have := hbel.out.size; simp; omega) (by have := HRZ.out; rw [u8s_len']; omega) ?_; intro v1 w1 ap; obtain ⟨A6, c6, rfl, hc6⟩ := ap.own.len; rw [List.length_append, u8s_len', HRZ.out] at hc6 ap ⊢; have O6 := Lib.hid ap.own; have B6 := Lib.hid ap.below; clear ap)
        go_roundw
        case rel => exact ⟨5, c6, A6, _, by omega, rfl, rfl, by omega, Lib.hid (by have := O6.out; rw [beN_take n 6 4 _ (by omega) (by simp only [Nat.reduceSub, Int.reducePow] <;> omega)] at this; exact this), B6⟩
        case measure => simp only [vlen]; omega
      · go_wp2_with (at_builtin; refine appO (w0 := w) w.heap.size rfl (.tmp 40) (.tmp 46) 137 137 5 (.int .u8 0) 1 rfl Tryz.underlying137 Tryz.info5 rfl (by omega) _ _ rfl _ 1 [.int .u8 _] rfl (src_new wr 5 [.int .u8 _] 1 rfl Tryz.underlying137 (by simp [Value.oneCell'])) (hown.out.below ((Below.refl _ _).alloc (Nat.le_refl _) _)) (hbel.out.alloc hbel.out.size _) (by have := hbel.out.size; simp; omega) (by have := HRZ.out; rw [u8s_len']; omega) ?_; intro v1 w1 ap; obtain ⟨A6, c6, rfl, hc6⟩ := ap.own.len; rw [List.length_append, u8s_len', HRZ.out] at hc6 ap ⊢; have O6 := Lib.hid ap.own; have B6 := Lib.hid ap.below; clear ap)
        go_roundw
        case rel => exact ⟨6, c6, A6, _, by omega, rfl, rfl, by omega, Lib.hid (by have := O6.out; rw [beN_take n 6 5 _ (by omega) (by simp only [Nat.reduceSub, Int.reducePow] <;> omega)] at this; exact this), B6⟩
        case measure => simp only [vlen]; omega
    · obtain rfl : j = 6 := by omega
      have hxn : x < 0 := by omega
      have hb := hown.out
      rw [List.take_of_length_le (by rw [beN_len]; exact Nat.le_refl _)] at hb
      have HB := Lib.hid (Bs.of_own hb (beN_ok n 6))
      clear hb
      go_wp2_with fail
      refine (fixed_any base q aR s r _ (beN n 6) wr (H0.out.below hbel.out) HB.out (by rw [beN_len]; exact HL.out) (by rw [beN_len]; unfold maxW; omega)).mono ?_
      rintro _ w2 ⟨rfl, hst⟩
      go_wp2_with fail
      go_end0
      exact ⟨rfl, WStep.then_ (Only.of_below hbel.out) (.inl rfl) hst⟩

set_option maxHeartbeats 4000000 in
/-- A number is written. -/
theorem number_any (base q : Nat) (aR : Addr) (s : WS) (r : Option Nat) (n : Int) (k : Nat) (hk : k = 1 ∨ k = 2 ∨ k = 4 ∨ k = 6) (w : World) (H : WrAt base w q aR s r) (hR : w.cell? ⟨0, 0, none⟩ = some (errV aR)) (h1 : 0 < w.heap.size) (hlim : Lim s (maxW - k)) :
    Calls Tryz.prog 127 #[.pointer (some ⟨q, 0, none⟩), .int .i64 n, .int .i64 k] w fun e w' => e = .returned (.tuple #[]) ∧ WStep base q aR (numS n k s) r w w' := by
  by_cases hn : 0 ≤ n ∧ n < (256 : Int) ^ k
  · have e : numS n k s = fixS (beN n k) s := by unfold numS; rw [if_pos hn]
    rw [e]
    rcases hk with rfl | rfl | rfl | rfl
    · exact number_ok1 base q aR s r n hn.1 hn.2 w H hlim
    · exact number_ok2 base q aR s r n hn.1 hn.2 w H hlim
    · exact number_ok4 base q aR s r n hn.1 hn.2 w H hlim
    · exact number_ok6 base q aR s r n hn.1 hn.2 w H hlim
  · have e : numS n k s = none := by unfold numS; rw [if_neg hn]
    rw [e]
    exact number_bad base q aR s r n k hk hn w H hR h1
end Go.Proofs.YtniknhhejlgdfaaGreatDoor
/- Digests are written. -/
namespace Go.Proofs.YtniknhhejlgdfaaGreatDoor
open Go.RowKit

abbrev wrV (q : Nat) : Value := .agg #[.pointer (some ⟨q, 0, none⟩)]
theorem slice24 (b : Nat) (W : World) : (Instr.sliceAt 24 (.pointer (some ⟨b, 0, none⟩)) none none none).run Tryz.prog W = .ok (.slice (some ⟨b, 0, none⟩) 16 16) W := by go_simp
set_option maxHeartbeats 4000000 in
set_option maxRecDepth 100000 in
theorem digest_any (base q : Nat) (aR : Addr) (s : WS) (r : Option Nat) (d : List Int) (hd : d.length = 16) (hok : u8s_ok d) (w : World) (H : WrAt base w q aR s r) (hlim : Lim s (maxW - 16)) :
    Calls Tryz.prog 119 #[wrV q, .agg (u8s d).toArray] w fun e w' => e = .returned (.tuple #[]) ∧ WStep base q aR (fixS d s) r w w' := by
  have b0 : Below w.heap.size w ((w.alloc (.cells #[.pointer (some ⟨q, 0, none⟩)] 192)).alloc (.cells (u8s d).toArray 24)) := ((Below.refl _ _).alloc (Nat.le_refl _) _).alloc (by simp) _
  have h0 : ((w.alloc (.cells #[.pointer (some ⟨q, 0, none⟩)] 192)).alloc (.cells (u8s d).toArray 24)).heap[w.heap.size]? = some (.cells #[.pointer (some ⟨q, 0, none⟩)] 192 (0, 0)) := heap_alloc2_old w _ _
  have h1 : ((w.alloc (.cells #[.pointer (some ⟨q, 0, none⟩)] 192)).alloc (.cells (u8s d).toArray 24)).heap[w.heap.size + 1]? = some (.cells (u8s d).toArray 24 (0, 0)) := by
    have := heap_alloc_new (w.alloc (.cells #[.pointer (some ⟨q, 0, none⟩)] 192)) (.cells (u8s d).toArray 24)
    rwa [World.size_alloc] at this
  have C0 := Lib.hid (blk_cell (xs := [.pointer (some ⟨q, 0, none⟩)]) h0 0 _ rfl)
  have hb := Bs.of_blk (c := 16) h1 hok (by rw [hd]; exact Nat.le_refl _) (by unfold maxLen; omega)
  rw [hd] at hb
  have HB := Lib.hid hb
  have H0 := Lib.hid (H.below b0)
  have B0 := Lib.hid b0
  clear b0 h0 h1 hb H
  go_enter Tryz.func119, Tryz.ntmps119
  go_wp2_with fail
  refine wp_region_rely3 (by kernel_rfl) 3 (by kernel_rfl) (by kernel_rfl) Ext Ext.refl Ext.trans (fun ix => match ix with
    | 0 => fun _ v => v = .pointer (some ⟨w.heap.size, 0, none⟩)
    | 1 => fun _ v => v = .pointer (some ⟨q, 0, none⟩)
    | 2 => fun _ v => v = .slice (some ⟨w.heap.size + 1, 0, none⟩) 16 16
    | _ => fun _ _ => False) ?_
  simp (maxSteps := 10000000) only [Rely, List.take_succ_cons, List.take_zero, List.drop_succ_cons, List.drop_zero, Nat.reduceAdd, Nat.zero_add, Act.put, List.setIfInBounds_toArray, List.set_cons_succ, List.set_cons_zero]
  refine ⟨?_, ?_, ?_, ?_⟩
  · refine step_plain rfl fun rv wq hE hd => ?_
    exact gives_fieldAddr' 192 _ 0 rfl (.pointer (some ⟨w.heap.size, 0, none⟩)) _ rfl (by go_simp) ⟨Ext.refl _, fun _ _ => rfl⟩
  · refine step_plain rfl fun rv wq hE hd => ?_
    have hc := cell_on (ext_of_drew hE) C0.out
    exact gives_loadAt 190 _ rfl (.pointer (some ⟨w.heap.size, 0, none⟩)) (.pointer (some ⟨q, 0, none⟩)) (show rv 0 = _ from hd.1) (by go_simp) ⟨Ext.refl _, fun _ _ => rfl⟩
  · refine step_plain rfl fun rv wq hE hd => ?_
    exact gives_slice 24 _ none none none rfl (.pointer (some ⟨w.heap.size + 1, 0, none⟩)) _ none none none rfl rfl rfl rfl (slice24 (w.heap.size + 1) _) ⟨Ext.refl _, fun _ _ => rfl⟩
  · intro rv wq hE hR
    have h1 : rv 1 = .pointer (some ⟨q, 0, none⟩) := hR 1 (by omega)
    have h2 : rv 2 = .slice (some ⟨w.heap.size + 1, 0, none⟩) 16 16 := hR 2 (by omega)
    rw [h1, h2]
    have BE := Lib.hid (ext_of_drew hE)
    clear hR hE h1 h2
    go_wp2_with fail
    refine (fixed_any base q aR s r _ d wq (H0.out.below BE.out) (HB.out.below BE.out) (by rw [hd]; exact hlim) (by rw [hd]; unfold maxW; omega)).mono ?_
    rintro _ w2 ⟨rfl, hst⟩
    go_wp2_with fail
    go_end0
    exact ⟨rfl, WStep.then_ ((Only.of_below B0.out).trans (Only.of_below BE.out) (.inl rfl)) (.inl rfl) hst⟩

set_option maxHeartbeats 4000000 in
set_option maxRecDepth 100000 in
theorem putDigest_any (base q : Nat) (aR : Addr) (s : WS) (r : Option Nat) (d : List Int) (hd : d.length = 16) (hok : u8s_ok d) (w : World) (H : WrAt base w q aR s r) (hlim : Lim s (maxW - 16)) :
    Calls Tryz.prog 126 #[.pointer (some ⟨q, 0, none⟩), .agg (u8s d).toArray] w fun e w' => e = .returned (.tuple #[]) ∧ WStep base q aR (fixS d s) r w w' := by
  have b0 : Below w.heap.size w (w.alloc (.cells (u8s d).toArray 24)) := (Below.refl _ _).alloc (Nat.le_refl _) _
  have D0 := Lib.hid (range_new w (u8s d) 24)
  have H0 := Lib.hid (H.below b0)
  have B0 := Lib.hid b0
  clear b0 H
  go_enter Tryz.func126, Tryz.ntmps126
  go_wp2_with (refine wpList_load_g rfl 24 (.tmp 3) rfl w.heap.size 0 rfl (u8s d) _ D0.out Tryz.underlying24 rfl (by rw [u8s_len', hd]; exact Tryz.size24) ?_)
  refine (digest_any base q aR s r d hd hok _ H0.out hlim).mono ?_
  rintro _ w2 ⟨rfl, hst⟩
  go_wp2_with fail
  go_end0
  exact ⟨rfl, WStep.then_ (Only.of_below B0.out) (.inl rfl) hst⟩

set_option maxHeartbeats 4000000 in
set_option maxRecDepth 100000 in
theorem wat_any (base q : Nat) (aR : Addr) (s : WS) (r : Option Nat) (e n : Int) (w : World) (H : WrAt base w q aR s r) (hR : w.cell? ⟨0, 0, none⟩ = some (errV aR)) (hb1 : 0 < base) (hlim : Lim s (maxW - 10)) :
    Calls Tryz.prog 118 #[wrV q, .int .i64 e, .int .i64 n] w fun x w' => x = .returned (.tuple #[]) ∧ WStep base q aR (numS n 6 (numS e 4 s)) r w w' := by
  have b0 : Below w.heap.size w (w.alloc (.cells #[.pointer (some ⟨q, 0, none⟩)] 192)) := (Below.refl _ _).alloc (Nat.le_refl _) _
  have hsz : base ≤ w.heap.size := by have := H.low; have := H.lt; omega
  have H0 := Lib.hid (H.below b0)
  have B0 := Lib.hid b0
  have hr := H.row
  have C0 := Lib.hid (heap_alloc_new w (.cells #[.pointer (some ⟨q, 0, none⟩)] 192))
  have c0 := blk_cell (xs := [.pointer (some ⟨q, 0, none⟩)]) C0.out 0 _ rfl
  have R0 := Lib.hid (cell_on b0 hR)
  have hqw : q < w.heap.size := H.lt
  clear b0 hR H
  go_enter Tryz.func118, Tryz.ntmps118
  go_wp2_with fail
  refine (number_any base q aR s r e 4 (by omega) _ H0.out R0.out (by simp) (hlim.mono (by unfold maxW; omega))).mono ?_
  rintro _ w2 ⟨rfl, hst⟩
  obtain ⟨⟨r1, a1, p1⟩, o1⟩ := hst
  have k1 := o1.blk C0.out (by omega) (fun e => by have := (hr _ e.symm).2; omega)
  have c1 := blk_cell (xs := [.pointer (some ⟨q, 0, none⟩)]) k1 0 _ rfl
  have R1 := Lib.hid ((cell_same (o1.block 0 (by simp) (by have := H0.out.low; omega) (fun e => by have := (hr _ e.symm).1; omega)) 0).trans R0.out)
  have A1 := Lib.hid a1
  have O1 := Lib.hid o1
  have P1 := Lib.hid p1
  clear a1 o1 p1 k1 c0
  go_wp2_with fail
  refine (number_any base q aR (numS e 4 s) r1 n 6 (by omega) _ A1.out R1.out (by have := O1.out.size; have := B0.out.size; omega) ((hlim.num e 4).mono (by unfold maxW; omega))).mono ?_
  rintro _ w3 ⟨rfl, hst⟩
  go_wp2_with fail
  go_end0
  refine ⟨rfl, WStep.then_ ((Only.of_below B0.out).trans O1.out (.inl rfl)) ?_ hst⟩
  rcases P1.out with h | ⟨b, h, hb⟩
  · exact .inl h
  · exact .inr ⟨b, h, Nat.le_trans B0.out.size hb⟩
end Go.Proofs.YtniknhhejlgdfaaGreatDoor
/- A QC of round 0. -/
namespace Go.Proofs.YtniknhhejlgdfaaGreatDoor
open Go.RowKit

/-- A QC as it lies. -/
def qcC (e r : Int) (blk : List Int) (v : Value) : List Value := [.int .i64 e, .int .i64 r] ++ u8s blk ++ [v]
def qcV (e r : Int) (blk : List Int) (v : Value) : Value := .agg (qcC e r blk v).toArray
theorem qc_2 {w : World} {b t : Nat} {e r : Int} {blk : List Int} {v : Value} (h : w.heap[b]? = some (.cells (qcC e r blk v).toArray t (0, 0))) : w.rangeAt b 2 (u8s blk) := fun j u hu => blk_cell h (2 + j) u (by
  unfold qcC
  rw [List.append_assoc, List.getElem?_append_right (by simp), List.getElem?_append_left (by have := (List.getElem?_eq_some_iff.1 hu).1; simpa using this)]
  simpa using hu)
theorem qc_3 {w : World} {b t : Nat} {e r : Int} {blk : List Int} {v : Value} (hb : blk.length = 16) (h : w.heap[b]? = some (.cells (qcC e r blk v).toArray t (0, 0))) : w.cell? ⟨b, 18, none⟩ = some v := blk_cell h 18 _ (by
  unfold qcC
  rw [List.getElem?_append_right (by simp [u8s_len', hb])]
  simp [u8s_len', hb])
theorem run_neq24 (a b : List Int) (ha : a.length = 16) (hb : b.length = 16) (W : World) : (binOp .neq 24 (.agg (u8s a).toArray) (.agg (u8s b).toArray)).run Tryz.prog W = .ok (.bool (!decide (a = b))) W :=
  run_neq_bytes 24 5 16 a b Tryz.underlying24 Tryz.underlying5 (by kernel_rfl) ha hb

/-- The error's number of a QC of round 0. -/
def qc0N (vs : List Va) (e : Int) (gen : List Int) (ep : Int) (blk : List Int) (k : Nat) : Nat :=
  if beginN vs e ep 0 0 = 0 then (if blk = gen ∧ k = 0 then 0 else 12) else beginN vs e ep 0 0
set_option maxHeartbeats 4000000 in
set_option maxRecDepth 100000 in
theorem qc0_any (e : Int) (vs : List Va) (A : Option Addr) (n c : Nat) (gen : List Int) (hg : gen.length = 16) (ep : Int) (blk : List Int) (hl : blk.length = 16) (B : Option Addr) (k d : Nat) (al : List Addr) (w : World) (hv : Vals w (.slice A n c) vs) (hs : SenN w al) :
    Calls Tryz.prog 24 #[gndV e (.slice A n c) gen, qcV ep 0 blk (.slice B k d)] w fun x w' => x = .returned (errN al (qc0N vs e gen ep blk k)) ∧ Below w.heap.size w w' := by
  have b0 : Below w.heap.size w ((w.alloc (.cells (gndC e (.slice A n c) gen).toArray 26)).alloc (.cells (qcC ep 0 blk (.slice B k d)).toArray 29)) := ((Below.refl _ _).alloc (Nat.le_refl _) _).alloc (by simp) _
  have h0 : ((w.alloc (.cells (gndC e (.slice A n c) gen).toArray 26)).alloc (.cells (qcC ep 0 blk (.slice B k d)).toArray 29)).heap[w.heap.size]? = some (.cells (gndC e (.slice A n c) gen).toArray 26 (0, 0)) := heap_alloc2_old w _ _
  have h1 : ((w.alloc (.cells (gndC e (.slice A n c) gen).toArray 26)).alloc (.cells (qcC ep 0 blk (.slice B k d)).toArray 29)).heap[w.heap.size + 1]? = some (.cells (qcC ep 0 blk (.slice B k d)).toArray 29 (0, 0)) := by
    have := heap_alloc_new (w.alloc (.cells (gndC e (.slice A n c) gen).toArray 26)) (.cells (qcC ep 0 blk (.slice B k d)).toArray 29)
    rwa [World.size_alloc] at this
  have HV := Lib.hid (hv.below b0)
  have HS := Lib.hid (hs.below b0)
  have B0 := Lib.hid b0
  have G0 := Lib.hid (blk_range h0)
  have H0 := Lib.hid h0
  have H1 := Lib.hid h1
  have c0 : ((w.alloc (.cells (gndC e (.slice A n c) gen).toArray 26)).alloc (.cells (qcC ep 0 blk (.slice B k d)).toArray 29)).cell? ⟨w.heap.size + 1, 0, none⟩ = some (.int .i64 ep) := blk_cell h1 0 _ rfl
  have c1 : ((w.alloc (.cells (gndC e (.slice A n c) gen).toArray 26)).alloc (.cells (qcC ep 0 blk (.slice B k d)).toArray 29)).cell? ⟨w.heap.size + 1, 1, none⟩ = some (.int .i64 0) := blk_cell h1 1 _ rfl
  obtain ⟨aP, iP⟩ := hs.at 11 (by omega)
  have IP := Lib.hid iP
  have CP := Lib.hid (HS.out.cell 11 11 aP rfl iP)
  have HG := Lib.hid hg
  have HL := Lib.hid hl
  clear b0 hv hs iP h0 h1 hg hl
  have h27 : (Tryz.prog.info? 26).map (·.size) = some (gndC e (.slice A n c) gen).length := by rw [gnd_len _ _ _ HG.out]; kernel_rfl
  unfold gndV qcV
  go_enter Tryz.func24, Tryz.ntmps24
  go_wp2_with (refine wpList_load_g rfl 26 (.tmp 2) rfl w.heap.size 0 rfl (gndC e (.slice A n c) gen) _ G0.out Tryz.underlying26 rfl h27 ?_)
  refine (at_any e vs A n c gen ep 0 0 al _ HV.out HS.out).mono ?_
  rintro _ w1 ⟨rfl, hb1⟩
  have B1 := Lib.hid (B0.out.trans (hb1.mono B0.out.size))
  have d0 := cell_on hb1 c0
  have d1 := cell_on hb1 c1
  have cp := cell_on hb1 CP.out
  have R0 := Lib.hid (gnd_2 (blk_below H0.out hb1))
  have R1 := Lib.hid (qc_2 (blk_below H1.out hb1))
  have d3 := qc_3 HL.out (blk_below H1.out hb1)
  clear hb1 c0 c1 CP H0 H1
  by_cases hbg : beginN vs e ep 0 0 = 0
  case neg =>
    have HB : Hid (errN al (qc0N vs e gen ep blk k) = errN al (beginN vs e ep 0 0)) := Lib.hid (by unfold qc0N; rw [if_neg hbg])
    obtain ⟨N, hN⟩ : ∃ N, N = beginN vs e ep 0 0 := ⟨_, rfl⟩
    rw [← hN] at hbg ⊢
    rw [← hN] at HB
    have hle := beginN_le vs e ep 0 0
    rw [← hN] at hle
    obtain ⟨j, rfl⟩ : ∃ j, N = j + 1 := ⟨N - 1, by omega⟩
    obtain ⟨a, ha⟩ := HS.out.at j (by omega)
    have hea := errN_at ha
    rw [hea] at HB ⊢
    clear hea ha hbg hN hle
    go_wp2
    go_ret
    exact ⟨by rw [HB.out]; rfl, B1.out⟩
  rw [hbg, show errN al 0 = Value.nilIface from rfl]
  by_cases he : blk = gen
  · subst he
    have hrun := run_neq24 blk blk HL.out HL.out
    rw [decide_eq_true rfl] at hrun
    by_cases hk : k = 0
    · subst hk
      have HB : Hid (errN al (qc0N vs e blk ep blk 0) = .nilIface) := Lib.hid (by unfold qc0N; rw [if_pos hbg, if_pos ⟨rfl, rfl⟩]; rfl)
      clear hbg
      go_wp2_with (first | (refine wpList_load_g rfl 24 (.tmp 19) rfl (w.heap.size + 1) 2 rfl (u8s blk) _ R1.out Tryz.underlying24 rfl (by rw [u8s_len', HL.out]; exact Tryz.size24) ?_) | (refine wpList_load_g rfl 24 (.tmp 21) rfl w.heap.size 2 rfl (u8s blk) _ R0.out Tryz.underlying24 rfl (by rw [u8s_len', HG.out]; exact Tryz.size24) ?_))
      go_ret
      exact ⟨by rw [HB.out]; rfl, B1.out⟩
    · have hk' : (0 : Int) < k := by omega
      have HB : Hid (errN al (qc0N vs e blk ep blk k) = errV aP) := Lib.hid (by unfold qc0N; rw [if_pos hbg, if_neg (fun h => hk h.2)]; exact errN_at IP.out)
      clear hbg
      go_wp2_with (first | (refine wpList_load_g rfl 24 (.tmp 19) rfl (w.heap.size + 1) 2 rfl (u8s blk) _ R1.out Tryz.underlying24 rfl (by rw [u8s_len', HL.out]; exact Tryz.size24) ?_) | (refine wpList_load_g rfl 24 (.tmp 21) rfl w.heap.size 2 rfl (u8s blk) _ R0.out Tryz.underlying24 rfl (by rw [u8s_len', HG.out]; exact Tryz.size24) ?_))
      go_ret
      exact ⟨by rw [HB.out]; rfl, B1.out⟩
  · have hrun := run_neq24 blk gen HL.out HG.out
    rw [decide_eq_false he] at hrun
    have HB : Hid (errN al (qc0N vs e gen ep blk k) = errV aP) := Lib.hid (by unfold qc0N; rw [if_pos hbg, if_neg (fun h => he h.1)]; exact errN_at IP.out)
    clear hbg he
    go_wp2_with (first | (refine wpList_load_g rfl 24 (.tmp 19) rfl (w.heap.size + 1) 2 rfl (u8s blk) _ R1.out Tryz.underlying24 rfl (by rw [u8s_len', HL.out]; exact Tryz.size24) ?_) | (refine wpList_load_g rfl 24 (.tmp 21) rfl w.heap.size 2 rfl (u8s gen) _ R0.out Tryz.underlying24 rfl (by rw [u8s_len', HG.out]; exact Tryz.size24) ?_))
    go_ret
    exact ⟨by rw [HB.out]; rfl, B1.out⟩
end Go.Proofs.YtniknhhejlgdfaaGreatDoor
/- What a block, a QC and a signature are as lists, how they lie, and what layer 9 writes of them. -/
namespace Go.Proofs.YtniknhhejlgdfaaGreatDoor
open Go.RowKit

structure Sd where
  who : Int
  leaf : Int
  ch : List (List Int)
  pa : List (List Int)
structure Qc where
  epoch : Int
  round : Int
  block : List Int
  votes : List Sd
structure Bk where
  epoch : Int
  round : Int
  parent : List Int
  justify : Qc
  payload : List (List Int)
  next : List Va
def Sd.none : Sd := ⟨0, 0, [], []⟩

def sigS (leaf : Int) (ch pa : List (List Int)) (s : WS) : WS := putS 5 fixS pa (putS 68 fixS ch (numS leaf 1 s))
def sdS (x : Sd) (s : WS) : WS := sigS x.leaf x.ch x.pa (numS x.who 1 s)
def txS (t : List Int) (s : WS) : WS := if 16 < t.length then none else fixS t (numS t.length 2 s)
def vaS (x : Va) (s : WS) : WS := numS x.2 6 (fixS x.1 s)
def qcS (q : Qc) (s : WS) : WS := putS 7 sdS q.votes (fixS q.block (numS q.round 6 (numS q.epoch 4 s)))
def bkS (b : Bk) (s : WS) : WS := putS 7 vaS b.next (putS 4 txS b.payload (qcS b.justify (fixS b.parent (numS b.round 6 (numS b.epoch 4 s)))))

theorem Lim.dg (d : List Int) (hd : d.length = 16) (s : WS) (m : Nat) (h : Lim s m) : Lim (fixS d s) (m + 16) := by
  have := h.fix d
  rwa [hd] at this
theorem Lim.tx (t : List Int) (s : WS) (m : Nat) (h : Lim s m) : Lim (txS t s) (m + 18) := by
  unfold txS
  split
  · intro b hb; cases hb
  · exact ((h.num _ 2).fix t).mono (by omega)

/-- A signature with its signer as it lies. -/
structure SdAt (w : World) (cs : List Value) (x : Sd) : Prop where
  ex : ∃ A c B d, cs = [.int .i64 x.who, .int .i64 x.leaf, .slice A x.ch.length c, .slice B x.pa.length d] ∧ Dgs w (.slice A x.ch.length c) x.ch ∧ Dgs w (.slice B x.pa.length d) x.pa
theorem SdAt.below {w w' : World} {cs : List Value} {x : Sd} (h : SdAt w cs x) (hb : Below w.heap.size w w') : SdAt w' cs x := by
  obtain ⟨A, c, B, d, e, h1, h2⟩ := h.ex
  exact ⟨A, c, B, d, e, h1.below hb, h2.below hb⟩
/-- A slice of signatures. -/
structure Sgs (w : World) (v : Value) (xs : List Sd) : Prop where
  form : ∃ A c, v = .slice A xs.length c
  cells : xs ≠ [] → ∃ b off c, v = .slice (some ⟨b, off, none⟩) xs.length c ∧ xs.length ≤ c ∧ c ≤ maxLen ∧ b < w.heap.size ∧ ∀ i, i < xs.length → ∃ cs, w.rangeAt b (off + i * 4) cs ∧ SdAt w cs (xs.getD i Sd.none)
theorem Sgs.below {w w' : World} {v : Value} {xs : List Sd} (h : Sgs w v xs) (hb : Below w.heap.size w w') : Sgs w' v xs := by
  refine ⟨h.form, fun hne => ?_⟩
  obtain ⟨b, off, c, e, h1, h2, h3, h4⟩ := h.cells hne
  refine ⟨b, off, c, e, h1, h2, Nat.lt_of_lt_of_le h3 hb.size, fun i hi => ?_⟩
  obtain ⟨cs, hr, hs⟩ := h4 i hi
  exact ⟨cs, range_below hr hb, hs.below hb⟩
theorem Sgs.len {w : World} {A : Option Addr} {n c : Nat} {xs : List Sd} (h : Sgs w (.slice A n c) xs) : n = xs.length := by
  obtain ⟨A', c', e⟩ := h.form
  simp only [Value.slice.injEq] at e
  exact e.2.1
theorem Sgs.el {w : World} {A : Option Addr} {n c : Nat} {xs : List Sd} (h : Sgs w (.slice A n c) xs) (i : Nat) (hi : i < n) :
    ∃ b off cs, A = some ⟨b, off, none⟩ ∧ b < w.heap.size ∧ w.rangeAt b (off + i * 4) cs ∧ SdAt w cs (xs.getD i Sd.none) := by
  have hl := h.len
  obtain ⟨b, off, c', e, _, _, h3, h4⟩ := h.cells (by intro e; subst e; simp at hl; omega)
  simp only [Value.slice.injEq] at e
  obtain ⟨cs, hr, hs⟩ := h4 i (by omega)
  exact ⟨b, off, cs, e.1, h3, hr, hs⟩
theorem Dgs.el {w : World} {A : Option Addr} {n c : Nat} {xs : List (List Int)} (h : Dgs w (.slice A n c) xs) (hn : n = xs.length) (i : Nat) (hi : i < n) :
    ∃ b off, A = some ⟨b, off, none⟩ ∧ b < w.heap.size ∧ w.rangeAt b (off + i * 16) (u8s (xs.getD i [])) := by
  obtain ⟨b, off, c', e, _, _, h3, h4⟩ := h.cells (by intro e; subst e; simp at hn; omega)
  simp only [Value.slice.injEq] at e
  exact ⟨b, off, e.1, h3, h4 i (by omega)⟩
/-- A QC as it lies. -/
structure QcAt (w : World) (cs : List Value) (q : Qc) : Prop where
  ex : ∃ A c, cs = qcC q.epoch q.round q.block (.slice A q.votes.length c) ∧ Sgs w (.slice A q.votes.length c) q.votes
  blk : q.block.length = 16 ∧ u8s_ok q.block
theorem QcAt.below {w w' : World} {cs : List Value} {q : Qc} (h : QcAt w cs q) (hb : Below w.heap.size w w') : QcAt w' cs q := by
  obtain ⟨A, c, e, h1⟩ := h.ex
  exact ⟨⟨A, c, e, h1.below hb⟩, h.blk⟩
/-- A block's cells. -/
def bkC (e r : Int) (p : List Int) (q : List Value) (x y : Value) : List Value := [.int .i64 e, .int .i64 r] ++ (u8s p ++ (q ++ [x, y]))
structure BkAt (w : World) (cs : List Value) (b : Bk) : Prop where
  ex : ∃ q A c B d, cs = bkC b.epoch b.round b.parent q (.slice A b.payload.length c) (.slice B b.next.length d) ∧ QcAt w q b.justify ∧ Bss w (.slice A b.payload.length c) b.payload ∧ Vals w (.slice B b.next.length d) b.next
  par : b.parent.length = 16 ∧ u8s_ok b.parent
  keys : ∀ x ∈ b.next, u8s_ok x.1
theorem BkAt.below {w w' : World} {cs : List Value} {b : Bk} (h : BkAt w cs b) (hb : Below w.heap.size w w') : BkAt w' cs b := by
  obtain ⟨q, A, c, B, d, e, h1, h2, h3⟩ := h.ex
  exact ⟨⟨q, A, c, B, d, e, h1.below hb, h2.below hb, h3.below hb⟩, h.par, h.keys⟩

theorem cell_base {w0 w : World} {b off : Nat} {v : Value} (h : w0.cell? ⟨b, off, none⟩ = some v) (hb : Below w0.heap.size w0 w) (_ : b < w0.heap.size) : w.cell? ⟨b, off, none⟩ = some v := cell_on hb h
theorem WStep.next {base q : Nat} {aR : Addr} {s : WS} {r : Option Nat} {w w1 : World} (h : WStep base q aR s r w w1) : ∃ r1, WrAt base w1 q aR s r1 ∧ ∀ s' w2, WStep base q aR s' r1 w1 w2 → WStep base q aR s' r w w2 := by
  obtain ⟨r1, a, p⟩ := h.at_
  exact ⟨r1, a, fun s' w2 h2 => WStep.then_ h.only p h2⟩
/-- A block that was made behind the writer's bytes. -/
theorem WStep.keep {base q : Nat} {aR : Addr} {s s0 : WS} {r : Option Nat} {w w1 : World} {b : Nat} {o : Obj} {w00 : World} (h : WStep base q aR s r w w1) (h0 : WrAt base w00 q aR s0 r) (hb : w.heap[b]? = some o) (hge : w00.heap.size ≤ b) : w1.heap[b]? = some o :=
  h.blk hb (by have := h0.lt; omega) (fun e => by have := (h0.row _ e.symm).2; omega)
theorem Tryz.size58 : (Tryz.prog.info? 58).map (·.size) = some 4 := by kernel_rfl
theorem Tryz.size56 : (Tryz.prog.info? 56).map (·.size) = some 3 := by kernel_rfl
end Go.Proofs.YtniknhhejlgdfaaGreatDoor
/- Lists of digests are written: wire.Put at digests. -/
namespace Go.Proofs.YtniknhhejlgdfaaGreatDoor
open Go.RowKit

theorem Lim.foldD : ∀ (xs : List (List Int)), (∀ d ∈ xs, d.length = 16) → ∀ (s : WS) (m : Nat), Lim s m → Lim (xs.foldl (fun s x => fixS x s) s) (m + xs.length * 16)
  | [], _, s, m, h => by simpa using h
  | x :: xs, hd, s, m, h => by
    refine (Lim.foldD xs (fun d h => hd d (List.mem_cons_of_mem _ h)) (fixS x s) (m + 16) (Lim.dg x (hd x (by simp)) s m h)).mono ?_
    simp only [List.length_cons, Nat.add_mul, Nat.one_mul]
    omega
theorem Lim.putD {most : Nat} {xs : List (List Int)} (hd : ∀ d ∈ xs, d.length = 16) {s : WS} {m : Nat} (h : Lim s m) : Lim (putS most fixS xs s) (m + 1 + most * 16) := by
  unfold putS
  split
  · intro b hb; cases hb
  · refine (Lim.foldD xs hd _ _ (h.num _ 1)).mono ?_
    have : xs.length * 16 ≤ most * 16 := Nat.mul_le_mul_right _ (by omega)
    omega

set_option maxHeartbeats 8000000 in
set_option maxRecDepth 100000 in
theorem put130_any (w0 : World) (q : Nat) (aR : Addr) (s : WS) (r : Option Nat) (most : Nat) (hmost : most ≤ 255) (xs : List (List Int)) (A : Option Addr) (n c : Nat) (hx : Dgs w0 (.slice A n c) xs) (hn : n = xs.length) (w : World) (H : WrAt w0.heap.size w q aR s r) (hb : Below w0.heap.size w0 w) (hR : w0.cell? ⟨0, 0, none⟩ = some (errV aR)) (h1 : 0 < w0.heap.size) (hlim : Lim s (maxW - (1 + most * 16))) (hmx : most * 16 ≤ 10000000) :
    Calls Tryz.prog 162 #[.pointer (some ⟨q, 0, none⟩), .slice A n c, .int .i64 most, .func (.func 126) #[] #[]] w fun e w' => e = .returned (.tuple #[]) ∧ WStep w0.heap.size q aR (putS most fixS xs s) r w w' := by
  have H0 := Lib.hid H
  have HX := Lib.hid hx
  have HN := Lib.hid hn
  have HB := Lib.hid hb
  have RE := Lib.hid (cell_base hR hb h1)
  have RC := Lib.hid hR
  have HL := Lib.hid hlim
  clear H hx hn hb hR hlim
  by_cases hmn : most < n
  · have hmi : (most : Int) < n := by omega
    have PB : Hid (putS most fixS xs s = none) := Lib.hid (by unfold putS; rw [if_pos (by rw [← HN.out]; exact hmn)])
    go_enter Tryz.func162, Tryz.ntmps162
    go_wp2_with fail
    refine wp_region_rely3 (by kernel_rfl) 4 (by kernel_rfl) (by kernel_rfl) Ext Ext.refl Ext.trans (fun ix => match ix with
      | 0 => fun _ v => v = .pointer (some ⟨q, 0, none⟩)
      | 1 => fun _ v => v = .pointer (some ⟨q, 0, none⟩)
      | 2 => fun _ v => v = .pointer (some ⟨q, 0, none⟩)
      | 3 => fun _ v => v = errV aR
      | _ => fun _ _ => False) ?_
    simp (maxSteps := 10000000) only [Rely, List.take_succ_cons, List.take_zero, List.drop_succ_cons, List.drop_zero, Nat.reduceAdd, Nat.zero_add, Act.put, List.setIfInBounds_toArray, List.set_cons_succ, List.set_cons_zero]
    refine ⟨?_, ?_, ?_, ?_, ?_⟩
    · refine step_plain rfl fun rv wq hE hd => ?_
      exact gives_move _ (.pointer (some ⟨q, 0, none⟩)) (.inl rfl) rfl ⟨Ext.refl _, fun _ _ => rfl⟩
    · refine step_plain rfl fun rv wq hE hd => ?_
      exact gives_nilCheck _ rfl ⟨q, 0, none⟩ (show rv 0 = _ from hd.1) ⟨Ext.refl _, fun _ _ => rfl⟩
    · refine step_plain rfl fun rv wq hE hd => ?_
      exact gives_fieldAddr' 243 _ 0 rfl (.pointer (some ⟨q, 0, none⟩)) _ (show rv 1 = _ from hd.1) (by go_simp) ⟨Ext.refl _, fun _ _ => rfl⟩
    · refine step_plain rfl fun rv wq hE hd => ?_
      have hc := cell_on (ext_of_drew hE) RE.out
      exact gives_loadAt 40 _ rfl (.pointer (some ⟨0, 0, none⟩)) (errV aR) rfl (by go_simp) ⟨Ext.refl _, fun _ _ => rfl⟩
    · intro rv wq hE hR
      have h0 : rv 2 = .pointer (some ⟨q, 0, none⟩) := hR 2 (by omega)
      have h3 : rv 3 = errV aR := hR 3 (by omega)
      rw [h0, h3]
      have BE := Lib.hid (ext_of_drew hE)
      clear hR hE h0 h3
      go_wp2_with fail
      refine (fail_any w0.heap.size q aR s r wq (H0.out.below BE.out)).mono ?_
      rintro _ w2 ⟨rfl, hst⟩
      go_wp2_with fail
      refine bodyPost_ret (results_none rfl _ _ _) rfl ⟨rfl, ?_⟩
      rw [PB.out]
      exact WStep.then_ (Only.of_below BE.out) (.inl rfl) hst
  have hmi : ¬ (most : Int) < n := by omega
  have hmj : ¬ (255 : Int) < n := by omega
  go_enter Tryz.func162, Tryz.ntmps162
  go_wp2_with fail
  refine (number_any w0.heap.size q aR s r n 1 (by omega) w H0.out RE.out (by have := HB.out.size; omega) (HL.out.mono (by unfold maxW; omega))).mono ?_
  rintro _ w1 ⟨rfl, hst1⟩
  have HS1 := Lib.hid hst1
  obtain ⟨st, hst⟩ : ∃ st : Nat → WS, st = fun i => (xs.take i).foldl (fun s x => fixS x s) (numS n 1 s) := ⟨_, rfl⟩
  have hs0 : numS n 1 s = st 0 := by rw [hst]; rfl
  have hsn : putS most fixS xs s = st n := by
    rw [hst]
    unfold putS
    rw [if_neg (by rw [← HN.out]; exact hmn)]
    dsimp only
    rw [HN.out, List.take_length]
  have hlm : ∀ i, i ≤ n → Lim (st i) (maxW - (most - i) * 16) := fun i hi => by
    rw [hst]
    dsimp only
    refine (Lim.foldD (xs.take i) (fun d hd => (HX.out.good d (List.mem_of_mem_take hd)).1) _ _ (HL.out.num n 1)).mono ?_
    rw [List.length_take, ← HN.out, Nat.min_eq_left hi]
    have e1 : most * 16 = i * 16 + (most - i) * 16 := by rw [← Nat.add_mul]; congr 1; omega
    unfold maxW at *
    omega
  have hss : ∀ i (hi : i < xs.length), st (i + 1) = fixS (xs.getD i []) (st i) := fun i hi => by
    rw [hst]
    dsimp only
    rw [List.take_succ_eq_append_getElem hi, List.foldl_append, List.getD_eq_getElem?_getD, List.getElem?_eq_getElem hi]
    rfl
  rw [hs0] at HS1
  have HSN := Lib.hid hsn
  have HLM := Lib.hid hlm
  have HSS := Lib.hid hss
  clear hst1 hs0 hsn hlm hss hst
  go_wp2_with fail
  go_loopw [9, 30] (fun _ k wr => ∃ (i : Nat), i ≤ n ∧ k = .int .i64 i ∧ Hid (WStep w0.heap.size q aR (st i) r w wr))
    (fun _ k _ => n - (intOf k).toNat)
  case atStart => exact ⟨0, by omega, rfl, HS1⟩
  case round =>
    obtain ⟨i, hi, rfl, hstp⟩ := hrel
    by_cases hlt : i < n
    · have hil : (i : Int) < n := by omega
      have hix : i < xs.length := by rw [← HN.out]; exact hlt
      have hbel := hstp.out.below H0.out
      have BR := Lib.hid (HB.out.trans hbel)
      obtain ⟨r1, hw1, hk1⟩ := hstp.out.next
      have HW1 := Lib.hid hw1
      have HK1 := Lib.hid hk1
      have HSI := Lib.hid (HSS.out i hix)
      have HLI := Lib.hid ((HLM.out i hi).mono (show maxW - (most - i) * 16 ≤ maxW - 16 by have : 16 ≤ (most - i) * 16 := Nat.le_mul_of_pos_left _ (by omega); omega))
      clear hw1 hk1 hbel
      obtain ⟨bb, oo, rfl, _, hrg⟩ := (HX.out.below BR.out).el HN.out i hlt
      obtain ⟨hl16, hok⟩ := HX.out.at i hix
      obtain ⟨X, hX⟩ : ∃ X, X = xs.getD i [] := ⟨_, rfl⟩
      rw [← hX] at hrg hl16 hok HSI
      have RG := Lib.hid hrg
      have HCL := Lib.hid (show (u8s X).length = 16 by rw [u8s_len', hl16])
      have HOK := Lib.hid hok
      have HL16 := Lib.hid hl16
      clear hrg hX hok hl16
      have hh : ∀ Z : Array Value, Z.size = 16 → Has (wr.alloc (.cells Z 24)) wr.heap.size 24 (u8s X).length := fun Z hZ => has_new wr _ _ _ (by rw [hZ]; exact HCL.out.symm)
      have HH := Lib.hid hh
      clear hh
      go_wp2_with (first | (refine wpList_load_g rfl 24 (.tmp 32) rfl bb (oo + i * 16) rfl (u8s X) _ RG.out Tryz.underlying24 rfl (by rw [HCL.out]; exact Tryz.size24) ?_) | (refine wpList_store_row rfl 24 (.tmp 9) (.tmp 33) rfl wr.heap.size rfl (u8s X) rfl 24 (HH.out _ rfl) (by rw [HCL.out]; exact Tryz.size24) (one_u8s X) ?_; intro w2 hp2; have BL := Lib.hid (show Below wr.heap.size wr w2 from hp2.below ((Below.refl _ _).alloc (Nat.le_refl _) _) (Nat.le_refl _)); have RG2 := Lib.hid (blk_range hp2.blk); clear hp2) | (refine wpList_load_g rfl 24 (.tmp 9) rfl wr.heap.size 0 rfl (u8s X) _ RG2.out Tryz.underlying24 rfl (by rw [HCL.out]; exact Tryz.size24) ?_))
      refine (putDigest_any w0.heap.size q aR (st i) r1 X HL16.out HOK.out w2 (HW1.out.below BL.out) HLI.out).mono ?_
      rintro _ w3 ⟨rfl, hst3⟩
      have HST := Lib.hid hst3
      clear hst3
      go_wp2_with fail
      go_roundw
      case rel => exact ⟨i + 1, by omega, by go_num, Lib.hid (by rw [HSI.out]; exact HK1.out _ _ (WStep.then_ (Only.of_below BL.out) (.inl rfl) HST.out))⟩
      case measure => simp [intOf]; omega
    · obtain rfl : i = n := by omega
      go_wp2
      go_end0
      exact ⟨rfl, by rw [HSN.out]; exact hstp.out⟩
end Go.Proofs.YtniknhhejlgdfaaGreatDoor
/- Signatures are written. -/
namespace Go.Proofs.YtniknhhejlgdfaaGreatDoor
open Go.RowKit

theorem Lim.sig {leaf : Int} {ch pa : List (List Int)} (hc : ∀ d ∈ ch, d.length = 16) (hp : ∀ d ∈ pa, d.length = 16) {s : WS} {m : Nat} (h : Lim s m) : Lim (sigS leaf ch pa s) (m + 1171) := by
  unfold sigS
  exact (Lim.putD hp (Lim.putD hc (h.num leaf 1))).mono (by omega)

set_option maxHeartbeats 8000000 in
set_option maxRecDepth 100000 in
theorem sig_any (w0 : World) (q : Nat) (aR : Addr) (s : WS) (r : Option Nat) (l : Int) (ch pa : List (List Int)) (A B : Option Addr) (n c k d : Nat) (hx : Dgs w0 (.slice A n c) ch) (hp : Dgs w0 (.slice B k d) pa) (hn : n = ch.length) (hk : k = pa.length) (w : World) (H : WrAt w0.heap.size w q aR s r) (hb : Below w0.heap.size w0 w) (hR : w0.cell? ⟨0, 0, none⟩ = some (errV aR)) (h1 : 0 < w0.heap.size) (hlim : Lim s (maxW - 1171)) :
    Calls Tryz.prog 161 #[wrV q, sigV l (.slice A n c) (.slice B k d)] w fun ret w' => ret = .returned (.tuple #[]) ∧ WStep w0.heap.size q aR (sigS l ch pa s) r w w' := by
  have b0 : Below w.heap.size w ((w.alloc (.cells #[.pointer (some ⟨q, 0, none⟩)] 192)).alloc (.cells #[.int .i64 l, .slice A n c, .slice B k d] 56)) := (((Below.refl _ _).alloc (Nat.le_refl _) _).alloc (by simp) _)
  have k0 : ((w.alloc (.cells #[.pointer (some ⟨q, 0, none⟩)] 192)).alloc (.cells #[.int .i64 l, .slice A n c, .slice B k d] 56)).heap[w.heap.size]? = some (.cells #[.pointer (some ⟨q, 0, none⟩)] 192 (0, 0)) := by
    have := heap_alloc_new w (.cells #[.pointer (some ⟨q, 0, none⟩)] 192)
    have := (Below.heap_alloc (w.alloc (.cells #[.pointer (some ⟨q, 0, none⟩)] 192)) (.cells #[.int .i64 l, .slice A n c, .slice B k d] 56) _ (blk_lt this)).trans this
    exact this
  have k1 : ((w.alloc (.cells #[.pointer (some ⟨q, 0, none⟩)] 192)).alloc (.cells #[.int .i64 l, .slice A n c, .slice B k d] 56)).heap[w.heap.size + 1]? = some (.cells #[.int .i64 l, .slice A n c, .slice B k d] 56 (0, 0)) := by
    have := heap_alloc_new (w.alloc (.cells #[.pointer (some ⟨q, 0, none⟩)] 192)) (.cells #[.int .i64 l, .slice A n c, .slice B k d] 56)
    rw [World.size_alloc] at this
    exact this
  have HH := Lib.hid H
  have H0 := Lib.hid (H.below b0)
  have B0 := Lib.hid b0
  have HB := Lib.hid hb
  have RC := Lib.hid hR
  have BB0 := Lib.hid (hb.trans (b0.mono hb.size))
  have K0_0 := Lib.hid k0
  have K1_0 := Lib.hid k1
  have HN := Lib.hid hn
  have HK := Lib.hid hk
  have HX := Lib.hid hx
  have HP := Lib.hid hp
  have HL := Lib.hid hlim
  have HC := Lib.hid (fun d hd => (hx.good d hd).1)
  have cp0 := blk_cell (xs := [.pointer (some ⟨q, 0, none⟩)]) K0_0.out 0 _ rfl
  have c1_0_0 := blk_cell (xs := [.int .i64 l, .slice A n c, .slice B k d]) K1_0.out 0 _ rfl
  clear H b0 hb hR k0 k1 hn hk hx hp hlim
  go_enter Tryz.func161, Tryz.ntmps161
  go_wp2_with fail
  refine (number_any w0.heap.size q aR s r l 1 (by omega) _ H0.out (cell_base RC.out BB0.out h1) (by have := BB0.out.size; omega) (HL.out.mono (by unfold maxW; omega))).mono ?_
  rintro _ w1 ⟨rfl, hst1⟩
  have ST1 := Lib.hid hst1
  clear hst1
  obtain ⟨r1, a1, j1⟩ := ST1.out.next
  have A1 := Lib.hid a1
  have J1 := Lib.hid j1
  have BB1 := Lib.hid (BB0.out.trans (ST1.out.below H0.out))
  have K0_1 := Lib.hid (ST1.out.keep HH.out K0_0.out (by omega))
  have K1_1 := Lib.hid (ST1.out.keep HH.out K1_0.out (by omega))
  have cp1 := blk_cell (xs := [.pointer (some ⟨q, 0, none⟩)]) K0_1.out 0 _ rfl
  have c1_1_1 := blk_cell (xs := [.int .i64 l, .slice A n c, .slice B k d]) K1_1.out 1 _ rfl
  clear a1 j1 cp0 c1_0_0
  go_wp2_with fail
  refine (put130_any w0 q aR (numS l 1 s) r1 68 (by omega) ch A n c HX.out HN.out _ A1.out BB1.out RC.out h1 ((HL.out.num l 1).mono (by unfold maxW; omega)) (by omega)).mono ?_
  rintro _ w2 ⟨rfl, hst2⟩
  have ST2 := Lib.hid (J1.out _ _ hst2)
  clear hst2
  obtain ⟨r2, a2, j2⟩ := ST2.out.next
  have A2 := Lib.hid a2
  have J2 := Lib.hid j2
  have BB2 := Lib.hid (BB0.out.trans (ST2.out.below H0.out))
  have K0_2 := Lib.hid (ST2.out.keep HH.out K0_0.out (by omega))
  have K1_2 := Lib.hid (ST2.out.keep HH.out K1_0.out (by omega))
  have cp2 := blk_cell (xs := [.pointer (some ⟨q, 0, none⟩)]) K0_2.out 0 _ rfl
  have c1_2_2 := blk_cell (xs := [.int .i64 l, .slice A n c, .slice B k d]) K1_2.out 2 _ rfl
  clear a2 j2 cp1 c1_1_1
  go_wp2_with fail
  refine (put130_any w0 q aR (putS 68 fixS ch (numS l 1 s)) r2 5 (by omega) pa B k d HP.out HK.out _ A2.out BB2.out RC.out h1 ((Lim.putD HC.out (HL.out.num l 1)).mono (by unfold maxW; omega)) (by omega)).mono ?_
  rintro _ w3 ⟨rfl, hst3⟩
  have ST3 := Lib.hid (J2.out _ _ hst3)
  clear hst3
  go_wp2_with fail
  go_end0
  exact ⟨rfl, WStep.then_ (Only.of_below B0.out) (.inl rfl) ST3.out⟩
end Go.Proofs.YtniknhhejlgdfaaGreatDoor
/- The fixed fact that ahead of each law of the proofs is asked. -/
namespace Go.Proofs.YtniknhhejlgdfaaGreatDoor
open Go.RowKit

def oneV : List Va := [([1,0,0,0,0,0,0,0,0,0,0,0,0,0,0,0], 1)]
theorem oneV_good : ∀ x ∈ oneV, x.1.length = 16 := by
  intro x hx
  simp only [oneV, List.mem_cons, List.not_mem_nil, or_false] at hx
  rcases hx with rfl
  rfl
def nine16 : List Int := [9,0,0,0,0,0,0,0,0,0,0,0,0,0,0,0]
theorem one_gnd (e : Int) (v : Value) (gen : List Int) (hv : v.oneCell' = true) : ∀ u ∈ gndC e v gen, u.oneCell' = true := by
  intro u hu
  simp only [gndC, List.mem_append, List.mem_cons, List.not_mem_nil, or_false] at hu
  rcases hu with (rfl | rfl) | h
  · rfl
  · exact hv
  · exact one_u8s _ u h
theorem one_qc (e r : Int) (blk : List Int) (v : Value) (hv : v.oneCell' = true) : ∀ u ∈ qcC e r blk v, u.oneCell' = true := by
  intro u hu
  simp only [qcC, List.mem_append, List.mem_cons, List.not_mem_nil, or_false] at hu
  rcases hu with ((rfl | rfl) | h) | rfl
  · rfl
  · rfl
  · exact one_u8s _ u h
  · exact hv
theorem qc_len (e r : Int) (blk : List Int) (v : Value) (h : blk.length = 16) : (qcC e r blk v).length = 19 := by simp [qcC, u8s_len', h]
theorem one_qc0 : qc0N oneV 1 nine16 1 nine16 0 = 0 := by kernel_rfl
theorem one_qc1 : qc0N oneV 1 nine16 1 nine16 1 = 12 := by kernel_rfl
theorem Tryz.size26 : (Tryz.prog.info? 26).map (·.size) = some 18 := by kernel_rfl
theorem Tryz.size29 : (Tryz.prog.info? 29).map (·.size) = some 19 := by kernel_rfl

set_option maxHeartbeats 4000000 in
set_option maxRecDepth 100000 in
theorem alive11_any (al : List Addr) (w : World) (hs : SenN w al) :
    Calls Tryz.prog 16 #[] w fun e w' => e = .returned (.bool true) ∧ Below w.heap.size w w' := by
  have b0 : Below w.heap.size w (w.alloc (.cells (rcells oneV).toArray 90)) := (Below.refl _ _).alloc (Nat.le_refl _) _
  have HS := Lib.hid (hs.below b0)
  have HV : Hid (Vals (w.alloc (.cells (rcells oneV).toArray 90)) (.slice (some ⟨w.heap.size, 0, none⟩) 1 1) oneV) := Lib.hid (Vals.new w oneV 90 oneV_good (by decide))
  have B0 := Lib.hid b0
  clear hs b0
  go_enter Tryz.func16, Tryz.ntmps16
  go_wp2_with (first | (refine wpList_store_row rfl 26 (.tmp 1) (.tmp 7) rfl (w.heap.size + 1) rfl (gndC 1 (.slice (some ⟨w.heap.size, 0, none⟩) 1 1) nine16) rfl 26 (has_new2 w _ _ _ _ rfl) Tryz.size26 (one_gnd _ _ _ rfl) ?_; intro w1 hp1; have L1 : Below (w.heap.size + 1) (w.alloc (.cells (rcells oneV).toArray 90)) w1 := hp1.below ((Below.refl _ _).alloc (by simp) _) (Nat.le_refl _); have G1 := Lib.hid hp1.blk; have S1 := Lib.hid (show w1.heap.size = w.heap.size + 2 by rw [hp1.size]; simp); clear hp1) | (refine wpList_store_row rfl 29 (.tmp 2) (.tmp 9) rfl w1.heap.size rfl (qcC 1 0 nine16 (.slice none 0 0)) rfl 29 (has_new _ _ _ _ rfl) Tryz.size29 (one_qc _ _ _ _ rfl) ?_; intro w2 hp2; have L2 : Below w1.heap.size w1 w2 := (hp2.below ((Below.refl _ _).alloc (Nat.le_refl _) _) (Nat.le_refl _)); have Q2 := Lib.hid hp2.blk; have G2 := Lib.hid (blk_below G1.out L2); have R2 := Lib.hid (blk_range G2.out); have T2 := Lib.hid (blk_range Q2.out); clear hp2) | (refine wpList_load_g rfl 26 (.tmp 1) rfl (w.heap.size + 1) 0 rfl _ _ R2.out Tryz.underlying26 rfl Tryz.size26 ?_) | (refine wpList_load_g rfl 29 (.tmp 2) rfl w1.heap.size 0 rfl _ _ T2.out Tryz.underlying29 rfl Tryz.size29 ?_))
  have hsz : (w.alloc (.cells (rcells oneV).toArray 90)).heap.size = w.heap.size + 1 := World.size_alloc _ _
  rw [← hsz] at L1
  have L12 : Below (w.alloc (.cells (rcells oneV).toArray 90)).heap.size (w.alloc (.cells (rcells oneV).toArray 90)) w2 := L1.trans (L2.mono L1.size)
  have V2 := Lib.hid (HV.out.below L12)
  have S2 := Lib.hid (HS.out.below L12)
  have B2 := Lib.hid (B0.out.trans (L12.mono B0.out.size))
  have LA := Lib.hid L12
  clear L1 L2 L12
  refine (qc0_any 1 oneV _ 1 1 nine16 rfl 1 nine16 rfl none 0 0 al w2 V2.out S2.out).mono ?_
  rintro _ w3 ⟨rfl, hb3⟩
  rw [one_qc0]
  have LA3 := Lib.hid (LA.out.trans (hb3.mono LA.out.size))
  have B3 := Lib.hid (B2.out.trans (hb3.mono B2.out.size))
  have G3 := Lib.hid (blk_below G2.out hb3)
  have Q3 := Lib.hid (blk_below Q2.out hb3)
  clear hb3 V2 S2 B2 G2 Q2 R2 T2
  rw [show errN al 0 = Value.nilIface from rfl]
  have L4 : Below w3.heap.size w3 (w3.alloc (.cells #[.int .i64 0, .int .i64 0, .slice none 0 0, .slice none 0 0] 58)) := (Below.refl _ _).alloc (Nat.le_refl _) _
  have q4 := blk_below Q3.out L4
  have q18 := blk_cell q4 18 _ rfl
  have f18 := blk_free q4 18
  have hw1 : w1.heap.size < w3.heap.size := blk_lt Q3.out
  have L5 : Below w1.heap.size w3 ((w3.alloc (.cells #[.int .i64 0, .int .i64 0, .slice none 0 0, .slice none 0 0] 58)).setCell ⟨w1.heap.size, 18, none⟩ (.slice (some ⟨w3.heap.size, 0, none⟩) 1 1)) := ((Below.refl _ w3).alloc (Nat.le_of_lt hw1) _).setCell (p := ⟨w1.heap.size, 18, none⟩) (Nat.le_refl _) _
  have LA5 : Below (w.alloc (.cells (rcells oneV).toArray 90)).heap.size (w.alloc (.cells (rcells oneV).toArray 90)) ((w3.alloc (.cells #[.int .i64 0, .int .i64 0, .slice none 0 0, .slice none 0 0] 58)).setCell ⟨w1.heap.size, 18, none⟩ (.slice (some ⟨w3.heap.size, 0, none⟩) 1 1)) := LA3.out.trans (L5.mono (by rw [S1.out, hsz]; omega))
  have V5 := Lib.hid (HV.out.below LA5)
  have N5 := Lib.hid (HS.out.below LA5)
  have B5 := Lib.hid (B0.out.trans (LA5.mono B0.out.size))
  have G5 := Lib.hid (blk_range ((heap_setCell_other (w3.alloc (.cells #[.int .i64 0, .int .i64 0, .slice none 0 0, .slice none 0 0] 58)) ⟨w1.heap.size, 18, none⟩ (w.heap.size + 1) (.slice (some ⟨w3.heap.size, 0, none⟩) 1 1) (by rw [S1.out]; simp)).trans (blk_below G3.out L4)))
  have R5 := Lib.hid (blk_range (xs := qcC 1 0 nine16 (.slice (some ⟨w3.heap.size, 0, none⟩) 1 1)) (blk_set (blk_below Q3.out L4) 18 (.slice (some ⟨w3.heap.size, 0, none⟩) 1 1)))
  clear L4 L5 LA5 q4 HV HS B0 LA LA3 hsz hw1
  go_wp2_with (first | (refine wpList_load_g rfl 26 (.tmp 1) rfl (w.heap.size + 1) 0 rfl (gndC 1 (.slice (some ⟨w.heap.size, 0, none⟩) 1 1) nine16) _ G5.out Tryz.underlying26 rfl Tryz.size26 ?_) | (refine wpList_load_g rfl 29 (.tmp 2) rfl w1.heap.size 0 rfl (qcC 1 0 nine16 (.slice (some ⟨w3.heap.size, 0, none⟩) 1 1)) _ R5.out Tryz.underlying29 rfl Tryz.size29 ?_))
  refine (qc0_any 1 oneV _ 1 1 nine16 rfl 1 nine16 rfl (some ⟨w3.heap.size, 0, none⟩) 1 1 al _ V5.out N5.out).mono ?_
  rintro _ w6 ⟨rfl, hb6⟩
  rw [one_qc1]
  have N6 := Lib.hid (N5.out.below hb6)
  have B6 := Lib.hid (B5.out.trans (hb6.mono B5.out.size))
  clear hb6 V5 N5 B5 G5 R5 q18 f18
  go_wp2_with fail
  refine (num_any al 12 (by omega) w6 N6.out).mono ?_
  rintro _ w7 ⟨rfl, hb7⟩
  have B7 := Lib.hid (B6.out.trans (hb7.mono B6.out.size))
  clear hb7 B6
  go_wp2_with fail
  go_ret
  exact ⟨rfl, B7.out⟩
end Go.Proofs.YtniknhhejlgdfaaGreatDoor
/- A timeout with a QC of round 0 and without a TC that could be right. -/
namespace Go.Proofs.YtniknhhejlgdfaaGreatDoor
open Go.RowKit

theorem blk_mid {w : World} {b t : Nat} {xs pre ys post : List Value} (h : w.heap[b]? = some (.cells xs.toArray t (0, 0))) (e : xs = pre ++ (ys ++ post)) : w.rangeAt b pre.length ys := fun j u hu => blk_cell h (pre.length + j) u (by
  rw [e, List.getElem?_append_right (by omega), Nat.add_sub_cancel_left, List.getElem?_append_left (List.getElem?_eq_some_iff.1 hu).1]
  exact hu)

end Go.Proofs.YtniknhhejlgdfaaGreatDoor
