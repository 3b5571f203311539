/- What quoratenum.Kept does. -/
import Derived.Test.YtdedphhohiioiaaDoorNumB
import Derived.Test.YtdedphhohiioiaaDoorExt
import Derived.Test.YtdedphhohiioiaaDoorFrm
namespace Go.Proofs.YtdedphhohiioiaaDoor
open Go.RowKit

theorem conv_bs {w : World} {v : Value} {bs : List Int} (h : Bs w v bs) : ∀ W, Ext w W → (convert 22 9 v).run Tryd.prog W = .ok (.string (strOfNums bs)) W := fun W hE => by
  have hW := h.below hE
  by_cases hne : bs = []
  · obtain ⟨A, c, rfl⟩ := h.form
    subst hne
    cases A with
    | none => exact run_convert_bytes_nil W 22 5 Tryd.underlying22 Tryd.underlying5 0 c 9 Tryd.underlying9
    | some a =>
      show (convert 22 9 (.slice (some a) 0 c)).run Tryd.prog W = _
      rw [run_convert_bytes_string W 22 9 5 (some a) 0 c Tryd.underlying22 Tryd.underlying5 Tryd.underlying9]
      simp [Conv.bytesToString, loadCells, strOfNums]
      rfl
  · obtain ⟨b, off, c, rfl, _, _, _, h4⟩ := hW.cells hne
    exact run_convert_bytes_arg W 22 5 Tryd.underlying22 Tryd.underlying5 b off bs.length c bs rfl h4 9 Tryd.underlying9

set_option maxHeartbeats 4000000 in
set_option maxRecDepth 100000 in
theorem kept_any (bs : List Int) (base : Nat) (u V : Value) (w : World) (hr : Roomy w base u bs) (hv : Bs w V bs) (hsm : bs.length ≤ 1099511627776) :
    Calls Tryd.prog 29 #[u, V] w fun e w' => e = .returned (.bool true) ∧ Below w.heap.size w w' := by
  obtain ⟨⟨g, off, c, rfl, hc6, hcm, hown⟩, hok⟩ := hr
  obtain ⟨n, hn⟩ : ∃ n, n = bs.length := ⟨_, rfl⟩
  have hrb : Bs w (.slice (some ⟨g, off, none⟩) bs.length c) bs := Roomy.bs ⟨⟨g, off, c, rfl, hc6, hcm, hown⟩, hok⟩
  obtain ⟨SS, hSS⟩ : ∃ s, s = strOfNums bs := ⟨_, rfl⟩
  have c1 := conv_bs hrb
  have c2 := conv_bs hv
  rw [← hSS] at c1 c2
  obtain ⟨VA, vc, rfl⟩ := hv.form
  have hcell : ∀ j, j < bs.length + 6 → w.cell? ⟨g, off + j, none⟩ = some (.int .u8 ((bs ++ six).getD j 0)) := fun j hj => by
    obtain ⟨g', off', c', he, _, _, hc⟩ := hown.row (by rw [u8s_len']; simp [six])
    simp only [Value.slice.injEq, Option.some.injEq, Addr.mk.injEq] at he
    obtain ⟨⟨rfl, rfl, -⟩, -, -⟩ := he
    refine hc j _ ?_
    have : j < (bs ++ six).length := by simp [six]; omega
    simp only [u8s, List.getElem?_map, List.getD_eq_getElem?_getD, List.getElem?_eq_getElem this]
    rfl
  rw [← hn] at hc6 c1 c2 hcell hsm ⊢
  have C1 := Lib.hid c1
  have C2 := Lib.hid c2
  have HCE := Lib.hid hcell
  have HN := Lib.hid hn
  clear c1 c2 hcell hn hSS hown hok hrb hv
  unfold maxLen at hcm
  go_enter Tryd.func29, Tryd.ntmps29
  go_wp2_with fail
  refine wp_region_rely (by kernel_rfl) 16 (by kernel_rfl) (by kernel_rfl) Ext Ext.refl Ext.trans (fun i => match i with
    | 0 => fun _ v => v = .slice (some ⟨g, off, none⟩) c c
    | 1 => fun _ v => v = .int .i64 (c : Int)
    | 2 => fun _ v => v = .slice VA n vc
    | 3 => fun _ v => v = .int .i64 (n : Int)
    | 4 => fun _ v => v = .int .i64 ((n : Int) + 6)
    | 5 => fun _ v => v = .bool false
    | 6 => fun _ v => v = .bool false
    | 7 => fun _ v => v = .slice (some ⟨g, off, none⟩) c c
    | 8 => fun _ v => v = .slice VA n vc
    | 9 => fun _ v => v = .int .i64 (n : Int)
    | 10 => fun _ v => v = .slice (some ⟨g, off, none⟩) n c
    | 11 => fun _ v => v = .string SS
    | 12 => fun _ v => v = .slice VA n vc
    | 13 => fun _ v => v = .string SS
    | 14 => fun _ v => v = .bool false
    | 15 => fun _ v => v = .bool false
    | _ => fun _ _ => False) ?_
  simp (maxSteps := 10000000) only [Rely, List.take_succ_cons, List.take_zero, List.drop_succ_cons, List.drop_zero, Nat.reduceAdd, Nat.zero_add, Act.put, List.setIfInBounds_toArray, List.set_cons_succ, List.set_cons_zero]
  refine ⟨?_, ?_, ?_, ?_, ?_, ?_, ?_, ?_, ?_, ?_, ?_, ?_, ?_, ?_, ?_, ?_, ?_⟩
  · refine step_plain rfl fun vs w1 hE hd => ?_
    exact gives_move _ (.slice (some ⟨g, off, none⟩) c c) (.inl rfl) rfl ⟨Ext.refl _, fun _ _ => rfl⟩
  · refine step_plain rfl fun vs w1 hE hd => ?_
    exact gives_val _ (is_len22 rfl (hd.1)) ⟨Ext.refl _, fun _ _ => rfl⟩
  · refine step_plain rfl fun vs w1 hE hd => ?_
    exact gives_move _ (.slice VA n vc) (.inl rfl) rfl ⟨Ext.refl _, fun _ _ => rfl⟩
  · refine step_plain rfl fun vs w1 hE hd => ?_
    exact gives_val _ (is_len22 rfl (hd.1)) ⟨Ext.refl _, fun _ _ => rfl⟩
  · refine step_plain rfl fun vs w1 hE hd => ?_
    exact gives_binOp .add 3 _ _ _ rfl (.int .i64 (n : Int)) (.int .i64 6) _ (show vs 3 = _ from (hd.1)) rfl rfl (by rw [binOp_add]; exact congrArg (fun x => Result.ok (Value.int .i64 x) w1) (IntWalk.i64_in _ (by omega))) ⟨Ext.refl _, fun _ _ => rfl⟩
  · refine step_plain rfl fun vs w1 hE hd => ?_
    exact gives_binOp .lss 3 _ _ _ rfl (.int .i64 (c : Int)) (.int .i64 ((n : Int) + 6)) _ (show vs 1 = _ from (hd.1)) (show vs 4 = _ from (hd.2.1)) rfl (by rw [binOp_lss]; exact congrArg (fun x => Result.ok (Value.bool x) w1) (decide_eq_false (by omega))) ⟨Ext.refl _, fun _ _ => rfl⟩
  · refine step_plain rfl fun vs w1 hE hd => ?_
    exact gives_move _ (.bool false) (.inl rfl) (show vs 5 = _ from hd.1) ⟨Ext.refl _, fun _ _ => rfl⟩
  · refine step_guard 6 false 17 rfl rfl (fun _ => rfl) fun vs w1 hE hd => ⟨hd.1, ?_⟩
    exact gives_move _ (.slice (some ⟨g, off, none⟩) c c) (.inl rfl) rfl ⟨Ext.refl _, fun _ _ => rfl⟩
  · refine step_guard 6 false 17 rfl rfl (fun _ => rfl) fun vs w1 hE hd => ⟨hd.1, ?_⟩
    exact gives_move _ (.slice VA n vc) (.inl rfl) rfl ⟨Ext.refl _, fun _ _ => rfl⟩
  · refine step_guard 6 false 17 rfl rfl (fun _ => rfl) fun vs w1 hE hd => ⟨hd.2.1, ?_⟩
    exact gives_val _ (is_len22 rfl (hd.1)) ⟨Ext.refl _, fun _ _ => rfl⟩
  · refine step_guard 6 false 17 rfl rfl (fun _ => rfl) fun vs w1 hE hd => ⟨hd.2.2.1, ?_⟩
    exact gives_slice 22 _ _ _ _ rfl (.slice (some ⟨g, off, none⟩) c c) _ none (some (.int .i64 (n : Int))) none (show vs 7 = _ from (hd.1)) rfl (congrArg some (show vs 9 = _ from (hd.2.1))) rfl (by have hcn : ¬ c < n := (by omega); go_simp) ⟨Ext.refl _, fun _ _ => rfl⟩
  · refine step_guard 6 false 17 rfl rfl (fun _ => rfl) fun vs w1 hE hd => ⟨hd.2.1, ?_⟩
    exact gives_convert 22 9 _ rfl (.slice (some ⟨g, off, none⟩) n c) _ (show vs 10 = _ from (hd.1)) (C1.out w1 (ext_of_drew hE)) ⟨Ext.refl _, fun _ _ => rfl⟩
  · refine step_guard 6 false 17 rfl rfl (fun _ => rfl) fun vs w1 hE hd => ⟨hd.1, ?_⟩
    exact gives_move _ (.slice VA n vc) (.inl rfl) rfl ⟨Ext.refl _, fun _ _ => rfl⟩
  · refine step_guard 6 false 17 rfl rfl (fun _ => rfl) fun vs w1 hE hd => ⟨hd.2.1, ?_⟩
    exact gives_convert 22 9 _ rfl (.slice VA n vc) _ (show vs 12 = _ from (hd.1)) (C2.out w1 (ext_of_drew hE)) ⟨Ext.refl _, fun _ _ => rfl⟩
  · refine step_guard 6 false 17 rfl rfl (fun _ => rfl) fun vs w1 hE hd => ⟨hd.2.2.1, ?_⟩
    exact gives_binOp .neq 9 _ _ _ rfl (.string SS) (.string SS) (.bool false) (show vs 11 = _ from hd.1) (show vs 13 = _ from hd.2.1) (by go_simp) (by go_simp) ⟨Ext.refl _, fun _ _ => rfl⟩
  · refine step_plain rfl fun vs w1 hE hd => ?_
    exact gives_pick _ _ _ (.bool false) false rfl (show vs 6 = _ from hd.1) (show vs 14 = _ from hd.2.1) ⟨Ext.refl _, fun _ _ => rfl⟩
  · intro vs w2 hE hR
    have h15 : vs 15 = .bool false := hR 15 (by omega)
    rw [h15]
    have hcs : ∀ j, j < n + 6 → w2.cell? ⟨g, off + j, none⟩ = some (.int .u8 ((bs ++ six).getD j 0)) := fun j hj => cell_on (ext_of_drew hE) (HCE.out j hj)
    have HCS := Lib.hid hcs
    have HE := Lib.hid (ext_of_drew hE)
    clear hR hE hcs h15
    go_wp2
    go_loopw [6] (fun s wr => ∃ (i : Nat), i ≤ 6 ∧ s = .int .i64 i ∧ wr = w2)
      (fun s _ => 6 - (intOf s).toNat)
    case atStart => exact ⟨0, by omega, rfl, rfl⟩
    case round =>
      obtain ⟨i, hi, rfl, rfl⟩ := hrel
      by_cases hlt : i < 6
      · have hx : (bs ++ six).getD (n + i) 0 = 201 + (i : Int) := by
          rw [HN.out, List.getD_eq_getElem?_getD, List.getElem?_append_right (by omega), Nat.add_sub_cancel_left]
          have : i = 0 ∨ i = 1 ∨ i = 2 ∨ i = 3 ∨ i = 4 ∨ i = 5 := by omega
          rcases this with rfl | rfl | rfl | rfl | rfl | rfl <;> rfl
        have hc := HCS.out (n + i) (by omega)
        rw [hx] at hc
        clear hx
        have hni : (n : Int) + i < c := by omega
        go_wp2
        exact ⟨⟨i + 1, by omega, by go_num, trivial⟩, by simp [intOf]; omega⟩
      · obtain rfl : i = 6 := by omega
        go_wp2
        go_ret
        exact ⟨rfl, HE.out⟩
end Go.Proofs.YtdedphhohiioiaaDoor
