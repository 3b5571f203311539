/- What ChainsSigns rests on, part 5 of 14: lemmas without conditions of their own. -/
import Derived.Test.YtdedphhohiioiaaDoorChainsSignsP4
/- What quoratenum.Kept does. -/
namespace Go.Proofs.YtdedphhohiioiaaDoor
open Go.RowKit

theorem conv_bs {w : World} {v : Value} {bs : List Int} (h : Bs w v bs) : ∀ W, Ext w W → (convert 22 9 v).run Tryd.prog W = .ok (.string (strOfNums bs)) W := fun W hE => by
  have hW := h.below hE
  by_cases hne : bs = []
  · obtain ⟨A, c, rfl⟩ := h.form
    subst hne
    cases A with
    | none => exact run_convert_bytes_nil W 22 5 Tryd.underlying22 Tryd.underlying5 0 c 9 Tryd.underlying9
    | some a =>
      show (convert 22 9 (.slice (some a) 0 c)).run Tryd.prog W = _
      rw [run_convert_bytes_string W 22 9 5 (some a) 0 c Tryd.underlying22 Tryd.underlying5 Tryd.underlying9]
      simp [Conv.bytesToString, loadCells, strOfNums]
      rfl
  · obtain ⟨b, off, c, rfl, _, _, _, h4⟩ := hW.cells hne
    exact run_convert_bytes_arg W 22 5 Tryd.underlying22 Tryd.underlying5 b off bs.length c bs rfl h4 9 Tryd.underlying9

set_option maxHeartbeats 4000000 in
set_option maxRecDepth 100000 in
theorem kept_any (bs : List Int) (base : Nat) (u V : Value) (w : World) (hr : Roomy w base u bs) (hv : Bs w V bs) (hsm : bs.length ≤ 1099511627776) :
    Calls Tryd.prog 29 #[u, V] w fun e w' => e = .returned (.bool true) ∧ Below w.heap.size w w' := by
  obtain ⟨⟨g, off, c, rfl, hc6, hcm, hown⟩, hok⟩ := hr
  obtain ⟨n, hn⟩ : ∃ n, n = bs.length := ⟨_, rfl⟩
  have hrb : Bs w (.slice (some ⟨g, off, none⟩) bs.length c) bs := Roomy.bs ⟨⟨g, off, c, rfl, hc6, hcm, hown⟩, hok⟩
  obtain ⟨SS, hSS⟩ : ∃ s, s = strOfNums bs := ⟨_, rfl⟩
  have c1 := conv_bs hrb
  have c2 := conv_bs hv
  rw [← hSS] at c1 c2
  obtain ⟨VA, vc, rfl⟩ := hv.form
  have hcell : ∀ j, j < bs.length + 6 → w.cell? ⟨g, off + j, none⟩ = some (.int .u8 ((bs ++ six).getD j 0)) := fun j hj => by
    obtain ⟨g', off', c', he, _, _, hc⟩ := hown.row (by rw [u8s_len']; simp [six])
    simp only [Value.slice.injEq, Option.some.injEq, Addr.mk.injEq] at he
    obtain ⟨⟨rfl, rfl, -⟩, -, -⟩ := he
    refine hc j _ ?_
    have : j < (bs ++ six).length := by simp [six]; omega
    simp only [u8s, List.getElem?_map, List.getD_eq_getElem?_getD, List.getElem?_eq_getElem this]
    rfl
  rw [← hn] at hc6 c1 c2 hcell hsm ⊢
  have C1 := Lib.hid c1
  have C2 := Lib.hid c2
  have HCE := Lib.hid hcell
  have HN := Lib.hid hn
  clear c1 c2 hcell hn hSS hown hok hrb hv
  unfold maxLen at hcm
  go_enter Tryd.func29, Tryd.ntmps29
  go_wp2_with fail
  refine wp_region_rely (by kernel_rfl) 16 (by kernel_rfl) (by kernel_rfl) Ext Ext.refl Ext.trans (fun i => match i with
    | 0 => fun _ v => v = .slice (some ⟨g, off, none⟩) c c
    | 1 => fun _ v => v = .int .i64 (c : Int)
    | 2 => fun _ v => v = .slice VA n vc
    | 3 => fun _ v => v = .int .i64 (n : Int)
    | 4 => fun _ v => v = .int .i64 ((n : Int) + 6)
    | 5 => fun _ v => v = .bool false
    | 6 => fun _ v => v = .bool false
    | 7 => fun _ v => v = .slice (some ⟨g, off, none⟩) c c
    | 8 => fun _ v => v = .slice VA n vc
    | 9 => fun _ v => v = .int .i64 (n : Int)
    | 10 => fun _ v => v = .slice (some ⟨g, off, none⟩) n c
    | 11 => fun _ v => v = .string SS
    | 12 => fun _ v => v = .slice VA n vc
    | 13 => fun _ v => v = .string SS
    | 14 => fun _ v => v = .bool false
    | 15 => fun _ v => v = .bool false
    | _ => fun _ _ => False) ?_
  simp (maxSteps := 10000000) only [Rely, List.take_succ_cons, List.take_zero, List.drop_succ_cons, List.drop_zero, Nat.reduceAdd, Nat.zero_add, Act.put, List.setIfInBounds_toArray, List.set_cons_succ, List.set_cons_zero]
  refine ⟨?_, ?_, ?_, ?_, ?_, ?_, ?_, ?_, ?_, ?_, ?_, ?_, ?_, ?_, ?_, ?_, ?_⟩
  · refine step_plain rfl fun vs w1 hE hd => ?_
    exact gives_move _ (.slice (some ⟨g, off, none⟩) c c) (.inl rfl) rfl ⟨Ext.refl _, fun _ _ => rfl⟩
  · refine step_plain rfl fun vs w1 hE hd => ?_
    exact gives_val _ (is_len22 rfl (hd.1)) ⟨Ext.refl _, fun _ _ => rfl⟩
  · refine step_plain rfl fun vs w1 hE hd => ?_
    exact gives_move _ (.slice VA n vc) (.inl rfl) rfl ⟨Ext.refl _, fun _ _ => rfl⟩
  · refine step_plain rfl fun vs w1 hE hd => ?_
    exact gives_val _ (is_len22 rfl (hd.1)) ⟨Ext.refl _, fun _ _ => rfl⟩
  · refine step_plain rfl fun vs w1 hE hd => ?_
    exact gives_binOp .add 3 _ _ _ rfl (.int .i64 (n : Int)) (.int .i64 6) _ (show vs 3 = _ from (hd.1)) rfl rfl (by rw [binOp_add]; exact congrArg (fun x => Result.ok (Value.int .i64 x) w1) (IntWalk.i64_in _ (by omega))) ⟨Ext.refl _, fun _ _ => rfl⟩
  · refine step_plain rfl fun vs w1 hE hd => ?_
    exact gives_binOp .lss 3 _ _ _ rfl (.int .i64 (c : Int)) (.int .i64 ((n : Int) + 6)) _ (show vs 1 = _ from (hd.1)) (show vs 4 = _ from (hd.2.1)) rfl (by rw [binOp_lss]; exact congrArg (fun x => Result.ok (Value.bool x) w1) (decide_eq_false (by omega))) ⟨Ext.refl _, fun _ _ => rfl⟩
  · refine step_plain rfl fun vs w1 hE hd => ?_
    exact gives_move _ (.bool false) (.inl rfl) (show vs 5 = _ from hd.1) ⟨Ext.refl _, fun _ _ => rfl⟩
  · refine step_guard 6 false 17 rfl rfl (fun _ => rfl) fun vs w1 hE hd => ⟨hd.1, ?_⟩
    exact gives_move _ (.slice (some ⟨g, off, none⟩) c c) (.inl rfl) rfl ⟨Ext.refl _, fun _ _ => rfl⟩
  · refine step_guard 6 false 17 rfl rfl (fun _ => rfl) fun vs w1 hE hd => ⟨hd.1, ?_⟩
    exact gives_move _ (.slice VA n vc) (.inl rfl) rfl ⟨Ext.refl _, fun _ _ => rfl⟩
  · refine step_guard 6 false 17 rfl rfl (fun _ => rfl) fun vs w1 hE hd => ⟨hd.2.1, ?_⟩
    exact gives_val _ (is_len22 rfl (hd.1)) ⟨Ext.refl _, fun _ _ => rfl⟩
  · refine step_guard 6 false 17 rfl rfl (fun _ => rfl) fun vs w1 hE hd => ⟨hd.2.2.1, ?_⟩
    exact gives_slice 22 _ _ _ _ rfl (.slice (some ⟨g, off, none⟩) c c) _ none (some (.int .i64 (n : Int))) none (show vs 7 = _ from (hd.1)) rfl (congrArg some (show vs 9 = _ from (hd.2.1))) rfl (by have hcn : ¬ c < n := (by omega); go_simp) ⟨Ext.refl _, fun _ _ => rfl⟩
  · refine step_guard 6 false 17 rfl rfl (fun _ => rfl) fun vs w1 hE hd => ⟨hd.2.1, ?_⟩
    exact gives_convert 22 9 _ rfl (.slice (some ⟨g, off, none⟩) n c) _ (show vs 10 = _ from (hd.1)) (C1.out w1 (ext_of_drew hE)) ⟨Ext.refl _, fun _ _ => rfl⟩
  · refine step_guard 6 false 17 rfl rfl (fun _ => rfl) fun vs w1 hE hd => ⟨hd.1, ?_⟩
    exact gives_move _ (.slice VA n vc) (.inl rfl) rfl ⟨Ext.refl _, fun _ _ => rfl⟩
  · refine step_guard 6 false 17 rfl rfl (fun _ => rfl) fun vs w1 hE hd => ⟨hd.2.1, ?_⟩
    exact gives_convert 22 9 _ rfl (.slice VA n vc) _ (show vs 12 = _ from (hd.1)) (C2.out w1 (ext_of_drew hE)) ⟨Ext.refl _, fun _ _ => rfl⟩
  · refine step_guard 6 false 17 rfl rfl (fun _ => rfl) fun vs w1 hE hd => ⟨hd.2.2.1, ?_⟩
    exact gives_binOp .neq 9 _ _ _ rfl (.string SS) (.string SS) (.bool false) (show vs 11 = _ from hd.1) (show vs 13 = _ from hd.2.1) (by go_simp) (by go_simp) ⟨Ext.refl _, fun _ _ => rfl⟩
  · refine step_plain rfl fun vs w1 hE hd => ?_
    exact gives_pick _ _ _ (.bool false) false rfl (show vs 6 = _ from hd.1) (show vs 14 = _ from hd.2.1) ⟨Ext.refl _, fun _ _ => rfl⟩
  · intro vs w2 hE hR
    have h15 : vs 15 = .bool false := hR 15 (by omega)
    rw [h15]
    have hcs : ∀ j, j < n + 6 → w2.cell? ⟨g, off + j, none⟩ = some (.int .u8 ((bs ++ six).getD j 0)) := fun j hj => cell_on (ext_of_drew hE) (HCE.out j hj)
    have HCS := Lib.hid hcs
    have HE := Lib.hid (ext_of_drew hE)
    clear hR hE hcs h15
    go_wp2
    go_loopw [6] (fun s wr => ∃ (i : Nat), i ≤ 6 ∧ s = .int .i64 i ∧ wr = w2)
      (fun s _ => 6 - (intOf s).toNat)
    case atStart => exact ⟨0, by omega, rfl, rfl⟩
    case round =>
      obtain ⟨i, hi, rfl, rfl⟩ := hrel
      by_cases hlt : i < 6
      · have hx : (bs ++ six).getD (n + i) 0 = 201 + (i : Int) := by
          rw [HN.out, List.getD_eq_getElem?_getD, List.getElem?_append_right (by omega), Nat.add_sub_cancel_left]
          have : i = 0 ∨ i = 1 ∨ i = 2 ∨ i = 3 ∨ i = 4 ∨ i = 5 := by omega
          rcases this with rfl | rfl | rfl | rfl | rfl | rfl <;> rfl
        have hc := HCS.out (n + i) (by omega)
        rw [hx] at hc
        clear hx
        have hni : (n : Int) + i < c := by omega
        go_wp2
        exact ⟨⟨i + 1, by omega, by go_num, trivial⟩, by simp [intOf]; omega⟩
      · obtain rfl : i = 6 := by omega
        go_wp2
        go_ret
        exact ⟨rfl, HE.out⟩
end Go.Proofs.YtdedphhohiioiaaDoor
/- The reference's table of constants. -/
namespace Go.Proofs.YtdedphhohiioiaaDoor
open Go.RowKit

set_option maxHeartbeats 4000000 in
set_option maxRecDepth 100000 in
theorem k_any (i : Nat) (hi : i < 64) (w : World) : Calls Tryd.prog 71 #[.int .i64 i] w fun e w' => e = .returned (.int .u32 (kk.getD i 0)) ∧ w' = w := by
  go_enter Tryd.func71, Tryd.ntmps71
  go_wp2_with (refine wpList_index_arr rfl 104 103 64 (.tmp 3) (.tmp 4) rfl (u32s kk).toArray .i64 (i : Int) (.int .u32 (kk.getD i 0)) rfl rfl Tryd.underlying104 _ Tryd.underlying103 rfl Tryd.size103 (by omega) (by omega) (by have hl : i < kk.length := hi; simp [u32s, List.getD_eq_getElem?_getD, hl]) ?_)
  go_ret
  exact ⟨rfl, rfl⟩
end Go.Proofs.YtdedphhohiioiaaDoor
/- What the reference's sum holds in memory. -/
namespace Go.Proofs.YtdedphhohiioiaaDoor
open Go.RowKit

/-- What the reference's sum holds: the row of bytes, the words in b6, the state in b7, the constants in b8. -/
structure RS (W0 : World) (B b6 b7 b8 : Nat) (v : Value) (rows : List Int) (w : World) (ws st tb : List Int) : Prop where
  own : OwnO w B 5 v (u8s rows)
  glt : ∀ k, v.ownBlock = some k → k < b6
  h6 : w.heap[b6]? = some (.cells (u32s ws).toArray 104 (0, 0))
  h7 : w.heap[b7]? = some (.cells (u32s st).toArray 105 (0, 0))
  h8 : w.heap[b8]? = some (.cells (u32s tb).toArray 104 (0, 0))
  bel : Below B W0 w
theorem RS.below {W0 w w' : World} {B b6 b7 b8 : Nat} {v : Value} {rows ws st tb : List Int} (h : RS W0 B b6 b7 b8 v rows w ws st tb) (hb : Below w.heap.size w w') (hB : B ≤ w.heap.size) : RS W0 B b6 b7 b8 v rows w' ws st tb :=
  ⟨h.own.below hb, h.glt, blk_below h.h6 hb, blk_below h.h7 hb, blk_below h.h8 hb, h.bel.trans (hb.mono hB)⟩
theorem RS.drew {W0 w : World} {B b6 b7 b8 : Nat} {v : Value} {rows ws st tb : List Int} (h : RS W0 B b6 b7 b8 v rows w ws st tb) : RS W0 B b6 b7 b8 v rows w.drew ws st tb :=
  ⟨h.own.below ⟨rfl, rfl, rfl, Nat.le_refl _, fun _ _ => rfl⟩, h.glt, h.h6, h.h7, h.h8, h.bel.trans ⟨rfl, rfl, rfl, Nat.le_refl _, fun _ _ => rfl⟩⟩
theorem grown_one (w : World) (b i : Nat) (x : Value) : w.grownBy (w.setCell ⟨b, i, none⟩ x) (some b) :=
  ⟨rfl, rfl, rfl, by simp, fun k _ hne => heap_setCell_other w ⟨b, i, none⟩ k x (fun e => hne (by rw [e]))⟩
theorem u32s_set (xs : List Int) (i : Nat) (x : Int) : (u32s xs).set i (.int .u32 x) = u32s (xs.set i x) := by rw [u32s, u32s, List.map_set]
theorem RS.set6 {W0 w : World} {B b6 b7 b8 : Nat} {v : Value} {rows ws st tb : List Int} (h : RS W0 B b6 b7 b8 v rows w ws st tb) (hB : B ≤ b6 ∧ b6 < b7 ∧ b7 < b8) (i : Nat) (x : Int) :
    RS W0 B b6 b7 b8 v rows (w.setCell ⟨b6, i, none⟩ (.int .u32 x)) (ws.set i x) st tb := by
  refine ⟨h.own.kept (grown_one w b6 i _) (fun k hk e => ?_), h.glt, by rw [← u32s_set]; exact blk_set h.h6 i _, ?_, ?_, h.bel.setCell (by simp; omega) _⟩
  · have := h.glt k hk; simp only [Option.some.injEq] at e; omega
  · rw [heap_setCell_other w ⟨b6, i, none⟩ _ _ (by simp; omega)]; exact h.h7
  · rw [heap_setCell_other w ⟨b6, i, none⟩ _ _ (by simp; omega)]; exact h.h8
theorem RS.set7 {W0 w : World} {B b6 b7 b8 : Nat} {v : Value} {rows ws st tb : List Int} (h : RS W0 B b6 b7 b8 v rows w ws st tb) (hB : B ≤ b6 ∧ b6 < b7 ∧ b7 < b8) (i : Nat) (x : Int) :
    RS W0 B b6 b7 b8 v rows (w.setCell ⟨b7, i, none⟩ (.int .u32 x)) ws (st.set i x) tb := by
  refine ⟨h.own.kept (grown_one w b7 i _) (fun k hk e => ?_), h.glt, ?_, by rw [← u32s_set]; exact blk_set h.h7 i _, ?_, h.bel.setCell (by simp; omega) _⟩
  · have := h.glt k hk; simp only [Option.some.injEq] at e; omega
  · rw [heap_setCell_other w ⟨b7, i, none⟩ _ _ (by simp; omega)]; exact h.h6
  · rw [heap_setCell_other w ⟨b7, i, none⟩ _ _ (by simp; omega)]; exact h.h8
theorem RS.set8 {W0 w : World} {B b6 b7 b8 : Nat} {v : Value} {rows ws st tb : List Int} (h : RS W0 B b6 b7 b8 v rows w ws st tb) (hB : B ≤ b6 ∧ b6 < b7 ∧ b7 < b8) (i : Nat) (x : Int) :
    RS W0 B b6 b7 b8 v rows (w.setCell ⟨b8, i, none⟩ (.int .u32 x)) ws st (tb.set i x) := by
  refine ⟨h.own.kept (grown_one w b8 i _) (fun k hk e => ?_), h.glt, ?_, ?_, by rw [← u32s_set]; exact blk_set h.h8 i _, h.bel.setCell (by simp; omega) _⟩
  · have := h.glt k hk; simp only [Option.some.injEq] at e; omega
  · rw [heap_setCell_other w ⟨b8, i, none⟩ _ _ (by simp; omega)]; exact h.h6
  · rw [heap_setCell_other w ⟨b8, i, none⟩ _ _ (by simp; omega)]; exact h.h7
theorem u32s_at (xs : List Int) (i : Nat) (h : i < xs.length) : (u32s xs)[i]? = some (.int .u32 (xs.getD i 0)) := by
  simp [u32s, List.getD_eq_getElem?_getD, h]
theorem RS.byte {W0 w : World} {B b6 b7 b8 g off n c : Nat} {rows ws st tb : List Int} (h : RS W0 B b6 b7 b8 (.slice (some ⟨g, off, none⟩) n c) rows w ws st tb) (j : Nat) (hj : j < rows.length) :
    w.cell? ⟨g, off + j, none⟩ = some (.int .u8 (rows.getD j 0)) := by
  obtain ⟨b, off', c', he, _, _, hc⟩ := h.own.row (by rw [u8s_len']; omega)
  simp only [Value.slice.injEq, Option.some.injEq, Addr.mk.injEq] at he
  obtain ⟨⟨rfl, rfl, _⟩, _, rfl⟩ := he
  exact hc j _ (by simp [u8s, List.getD_eq_getElem?_getD, hj])
theorem RS.cell6 {W0 w : World} {B b6 b7 b8 : Nat} {v : Value} {rows ws st tb : List Int} (h : RS W0 B b6 b7 b8 v rows w ws st tb) (j : Nat) (hj : j < ws.length) : w.cell? ⟨b6, j, none⟩ = some (.int .u32 (ws.getD j 0)) :=
  blk_cell h.h6 j _ (u32s_at ws j hj)
theorem RS.cell7 {W0 w : World} {B b6 b7 b8 : Nat} {v : Value} {rows ws st tb : List Int} (h : RS W0 B b6 b7 b8 v rows w ws st tb) (j : Nat) (hj : j < st.length) : w.cell? ⟨b7, j, none⟩ = some (.int .u32 (st.getD j 0)) :=
  blk_cell h.h7 j _ (u32s_at st j hj)
theorem RS.cell8 {W0 w : World} {B b6 b7 b8 : Nat} {v : Value} {rows ws st tb : List Int} (h : RS W0 B b6 b7 b8 v rows w ws st tb) (j : Nat) (hj : j < tb.length) : w.cell? ⟨b8, j, none⟩ = some (.int .u32 (tb.getD j 0)) :=
  blk_cell h.h8 j _ (u32s_at tb j hj)
theorem sched_pre (bs : List Int) (k d : Nat) : ∀ i, i < 16 + k → (sched bs (k + d)).getD i 0 = (sched bs k).getD i 0 := by
  induction d with
  | zero => intro i _; rfl
  | succ d ih =>
    intro i hi
    rw [← ih i hi, ← Nat.add_assoc, sched, List.getD_eq_getElem?_getD, List.getElem?_append_left (by rw [sched_len]; omega), ← List.getD_eq_getElem?_getD]
theorem sch_pre (bs : List Int) (k i : Nat) (hk : k ≤ 48) (hi : i < 16 + k) : (sch bs).getD i 0 = (sched bs k).getD i 0 := by
  have h := sched_pre bs k (48 - k) i hi
  rw [show k + (48 - k) = 48 by omega] at h
  exact h
theorem sch_len (bs : List Int) : (sch bs).length = 64 := sched_len bs 48
theorem sch_word (bs : List Int) (i : Nat) (hi : i < 16) : (sch bs).getD i 0 = wordAt bs i := by
  rw [sch_pre bs 0 i (by omega) (by omega)]
  simp [sched, words, List.getD_eq_getElem?_getD, hi]
theorem sch_next (bs : List Int) (k : Nat) (hk : k < 48) : (sch bs).getD (16 + k) 0 = ((sch bs).getD k 0 + sg0 ((sch bs).getD (k + 1) 0) + (sch bs).getD (k + 9) 0 + sg1 ((sch bs).getD (k + 14) 0)) % 4294967296 := by
  rw [sch_pre bs (k + 1) (16 + k) (by omega) (by omega), sched, List.getD_eq_getElem?_getD, List.getElem?_append_right (by rw [sched_len]; omega), sched_len, Nat.sub_self]
  rw [sch_pre bs k k (by omega) (by omega), sch_pre bs k (k + 1) (by omega) (by omega), sch_pre bs k (k + 9) (by omega) (by omega), sch_pre bs k (k + 14) (by omega) (by omega)]
  simp only [List.getElem?_cons_zero, Option.getD_some, nextW]
  rw [show 16 + k - 16 = k by omega, show 16 + k - 15 = k + 1 by omega, show 16 + k - 7 = k + 9 by omega, show 16 + k - 2 = k + 14 by omega]
theorem over_lo (xs ys : List Int) (j i n : Nat) (hy : ys.length = n) (hj : j ≤ n) (hi : i < j) : (over xs ys j).getD i 0 = ys.getD i 0 := by
  simp only [over, List.getD_eq_getElem?_getD]
  rw [List.getElem?_append_left (by rw [List.length_take]; omega), List.getElem?_take, if_pos hi]
theorem be8_at (n j : Nat) (hj : j < 8) : (n : Int) * 8 / 2 ^ (56 - 8 * j) % 256 = (be8 n).getD j 0 := by
  have : j = 0 ∨ j = 1 ∨ j = 2 ∨ j = 3 ∨ j = 4 ∨ j = 5 ∨ j = 6 ∨ j = 7 := by omega
  rcases this with rfl | rfl | rfl | rfl | rfl | rfl | rfl | rfl <;> simp [be8]
end Go.Proofs.YtdedphhohiioiaaDoor
/- The reference's sum: its inner loops as codes of their own. -/
namespace Go.Proofs.YtdedphhohiioiaaDoor

def loopOf (id : Nat) : Code → Option Code
  | .block i c => if i = id then some c else loopOf id c
  | .loop c => loopOf id c
  | .scope c => loopOf id c
  | .seq a b => match loopOf id a with
    | some c => some c
    | none => loopOf id b
  | .cond _ a b => match loopOf id a with
    | some c => some c
    | none => loopOf id b
  | _ => none
noncomputable def refLoop (id : Nat) : Code := (Tryd.f28.body.bind (loopOf id)).getD .skip
end Go.Proofs.YtdedphhohiioiaaDoor
/- The reference's sum: what its loops share. -/
namespace Go.Proofs.YtdedphhohiioiaaDoor
open Go.RowKit

theorem is_call2 {P : Program} {o : Oper} {ρ : Operand → Value} {w : World} {g : Nat} {x y : Operand} {ts : Array TypeId} {a b V : Value} {w' : World} (hen : ∀ args w, (callFunc g args).run P w = .ok (.enter g args) w)
    (ho : o.op = .call { callee := .value (.func g), args := #[x, y], argTypes := ts }) (hv : ρ (.func g) = .func (.func g) #[] #[]) (hx : ρ x = a) (hy : ρ y = b) (h : Calls P g #[a, b] w fun e w'' => e = .returned V ∧ w'' = w') : Cal P o ρ w V w' :=
  is_call (args := [x, y]) (vals := [a, b]) hen ho hv (by rw [List.map_cons, List.map_cons, List.map_nil, hx, hy]) h
theorem flip {P : Program} {g : Nat} {ar : Array Value} {w : World} {V : Value} (h : Calls P g ar w fun e w'' => e = .returned V ∧ w = w'') : Calls P g ar w fun e w'' => e = .returned V ∧ w'' = w := h.mono fun _ _ ⟨a, b⟩ => ⟨a, b.symm⟩
theorem mod_word (a b c d : Int) : IntKind.u32.wrap (IntKind.u32.wrap (IntKind.u32.wrap (a + b) + c) + d) = (a + b + c + d) % 4294967296 := by simp only [IntKind.wrap_u32]; omega
theorem i64_sub (a b : Int) (h0 : 0 ≤ a) (h1 : a ≤ 1000) (h2 : 0 ≤ b) (h3 : b ≤ 1000) : IntKind.i64.wrap (a - b) = a - b := IntWalk.i64_in _ (by omega)
theorem i64_add (a b : Int) (h0 : 0 ≤ a) (h1 : a ≤ 1099511627776) (h2 : 0 ≤ b) (h3 : b ≤ 1099511627776) : IntKind.i64.wrap (a + b) = a + b := IntWalk.i64_in _ (by omega)
theorem i64_mul (a b : Int) (h0 : 0 ≤ a) (h1 : a ≤ 1000) (h2 : 0 ≤ b) (h3 : b ≤ 1000) : IntKind.i64.wrap (a * b) = a * b := by
  have h : 0 ≤ a * b := Int.mul_nonneg h0 h2
  have h' : a * b ≤ 1000 * 1000 := Int.mul_le_mul h1 h3 h2 (by omega)
  exact IntWalk.i64_in _ (by omega)
section
variable {o : Oper} {ρ : Operand → Value} {w : World}
theorem is_conv103 {x : Operand} {a : Int} (ho : o.op = .convert 5 103 x) (hx : ρ x = .int .u8 a) : Val Tryd.prog o ρ w (.int .u32 (IntKind.u32.wrap a)) := by
  have e : Tryd.prog.intKind 103 = .u32 := by kernel_rfl
  have h := is_conv (P := Tryd.prog) (w := w) ho hx (by rw [Tryd.underlying5]; rfl) (by rw [e]; exact Tryd.underlying103)
  rwa [e] at h
end
theorem word_sum (a b c d : Int) (ha : B8 a) (hb : B8 b) (hc : B8 c) (hd : B8 d) :
    IntKind.u32.wrap (IntKind.u32.wrap (IntKind.u32.wrap (IntKind.u32.wrap (IntKind.u32.wrap a * 16777216) + IntKind.u32.wrap (IntKind.u32.wrap b * 65536)) + IntKind.u32.wrap (IntKind.u32.wrap c * 256)) + IntKind.u32.wrap d) = word a b c d := by
  unfold B8 at *
  unfold word
  simp only [IntKind.wrap_u32]
  omega
theorem four_i (i : Nat) (h : i < 16) : IntKind.i64.wrap (4 * (i : Int)) = ((4 * i : Nat) : Int) := (i64_mul 4 i (by omega) (by omega) (by omega) (by omega)).trans (by omega)
theorem four_id (i d : Nat) (h : i < 16) (hd : d < 4) : IntKind.i64.wrap (IntKind.i64.wrap (4 * (i : Int)) + (d : Int)) = ((4 * i + d : Nat) : Int) := by
  rw [four_i i h]
  exact (i64_add _ _ (by omega) (by omega) (by omega) (by omega)).trans (by omega)
structure RV (W0 : World) (B b6 b7 b8 b14 : Nat) (v : Value) (rows : List Int) (w : World) (ws st tb vs : List Int) : Prop where
  rs : RS W0 B b6 b7 b8 v rows w ws st tb
  h14 : w.heap[b14]? = some (.cells (u32s vs).toArray 105 (0, 0))
  lt : b8 < b14
theorem RV.drew {W0 w : World} {B b6 b7 b8 b14 : Nat} {v : Value} {rows ws st tb vs : List Int} (h : RV W0 B b6 b7 b8 b14 v rows w ws st tb vs) : RV W0 B b6 b7 b8 b14 v rows w.drew ws st tb vs := ⟨h.rs.drew, h.h14, h.lt⟩
theorem RS.put {W0 w w1 : World} {B b6 b7 b8 b t : Nat} {v : Value} {rows ws st tb : List Int} {cs : List Value} (h : RS W0 B b6 b7 b8 v rows w ws st tb) (hB : B ≤ b6 ∧ b6 < b7 ∧ b7 < b8) (hb : b8 < b) (hp : Put w b t cs w1) : RS W0 B b6 b7 b8 v rows w1 ws st tb :=
  ⟨h.own.kept (row := some b) ⟨hp.os, hp.tape, hp.output, Nat.le_of_eq hp.size.symm, fun k _ hne => hp.other k (fun e => hne (by rw [e]))⟩ (fun k hk e => by have := h.glt k hk; simp only [Option.some.injEq] at e; omega), h.glt,
    (hp.other _ (by omega)).trans h.h6, (hp.other _ (by omega)).trans h.h7, (hp.other _ (by omega)).trans h.h8, hp.below h.bel (by omega)⟩
theorem RV.put {W0 w w1 : World} {B b6 b7 b8 b14 : Nat} {v : Value} {rows ws st tb vs us : List Int} (h : RV W0 B b6 b7 b8 b14 v rows w ws st tb vs) (hB : B ≤ b6 ∧ b6 < b7 ∧ b7 < b8) (hp : Put w b14 105 (u32s us) w1) : RV W0 B b6 b7 b8 b14 v rows w1 ws st tb us :=
  ⟨h.rs.put hB h.lt hp, hp.blk, h.lt⟩
theorem RV.cell {W0 w : World} {B b6 b7 b8 b14 : Nat} {v : Value} {rows ws st tb vs : List Int} (h : RV W0 B b6 b7 b8 b14 v rows w ws st tb vs) (j : Nat) (x : Int) (hj : vs[j]? = some x) : w.cell? ⟨b14, j, none⟩ = some (.int .u32 x) :=
  blk_cell h.h14 j _ (by simp [u32s, hj])
theorem t1_sum (s : St) (k w : Int) : IntKind.u32.wrap (IntKind.u32.wrap (IntKind.u32.wrap (IntKind.u32.wrap (s.h + big1 s.e) + chs s.e s.f s.g) + k) + w) = s.t1 k w := by
  unfold St.t1
  simp only [IntKind.wrap_u32]
  omega
theorem t2_sum (s : St) : IntKind.u32.wrap (big0 s.a + maj s.a s.b s.c) = s.t2 := by
  unfold St.t2
  exact IntKind.wrap_u32 _
section
variable {o : Oper} {ρ : Operand → Value} {w : World}
theorem is_build105 {t : TypeId} {x0 x1 x2 x3 x4 x5 x6 x7 : Operand} {v0 v1 v2 v3 v4 v5 v6 v7 : Int} (ht : t = 105) (ho : o.op = .build t #[(0, x0), (1, x1), (2, x2), (3, x3), (4, x4), (5, x5), (6, x6), (7, x7)])
    (h0 : ρ x0 = .int .u32 v0) (h1 : ρ x1 = .int .u32 v1) (h2 : ρ x2 = .int .u32 v2) (h3 : ρ x3 = .int .u32 v3) (h4 : ρ x4 = .int .u32 v4) (h5 : ρ x5 = .int .u32 v5) (h6 : ρ x6 = .int .u32 v6) (h7 : ρ x7 = .int .u32 v7) :
    Val Tryd.prog o ρ w (.agg (u32s [v0, v1, v2, v3, v4, v5, v6, v7]).toArray) := by
  subst ht
  unfold Val execOp
  simp only [ho, List.map_toArray, List.map_cons, List.map_nil, h0, h1, h2, h3, h4, h5, h6, h7, Sem.run_bind]
  go_simp
  rfl
end
def regOf (id : Nat) : Code → Option Code
  | .region i ops b => if i = id then some (.region i ops b) else none
  | .block _ c => regOf id c
  | .loop c => regOf id c
  | .scope c => regOf id c
  | .seq a b => match regOf id a with
    | some c => some c
    | none => regOf id b
  | .cond _ a b => match regOf id a with
    | some c => some c
    | none => regOf id b
  | _ => none
noncomputable def refReg (id : Nat) : Code := (Tryd.f28.body.bind (regOf id)).getD .skip
def Wr (a b x t : Nat) : Bool := t == x || (a ≤ t && t ≤ b)
theorem Wr_false {a b x t : Nat} (h1 : t ≠ x) (h2 : t < a ∨ b < t) : Wr a b x t = false := by
  simp only [Wr, Bool.or_eq_false_iff, beq_eq_false_iff_ne, Bool.and_eq_false_iff, decide_eq_false_iff_not]
  exact ⟨h1, by omega⟩
def W12 (t : Nat) : Bool := (15 ≤ t && t ≤ 19) || (147 ≤ t && t ≤ 236)
def W8 (t : Nat) : Bool := t == 10 || (66 ≤ t && t ≤ 104)
def W10 (t : Nat) : Bool := (11 ≤ t && t ≤ 13) || (105 ≤ t && t ≤ 145)
end Go.Proofs.YtdedphhohiioiaaDoor
/- The reference's sum: the loop that reads the words. -/
namespace Go.Proofs.YtdedphhohiioiaaDoor
open Go.RowKit

set_option maxHeartbeats 4000000 in
set_option maxRecDepth 100000 in
theorem loop8 (W0 : World) (B b6 b7 b8 b off n c : Nat) (rows ws bs st : List Int) (hwl : ws.length = 64) (hbb : ∀ b ∈ bs, B8 b) (HO1 : B ≤ b6 ∧ b6 < b7 ∧ b7 < b8) (hn : rows.length = n) (hn64 : 64 ≤ n) (hat : ∀ i, i < 64 → rows.getD i 0 = bs.getD i 0)
    (f : Nat → Value) (h4 : f 4 = .slice (some ⟨b, off, none⟩) n c) (h6 : f 6 = .pointer (some ⟨b6, 0, none⟩)) (h10 : f 10 = .int .i64 0)
    (Q : Exit → Act → World → Prop) (w : World) (hrs : RS W0 B b6 b7 b8 (.slice (some ⟨b, off, none⟩) n c) rows w ws st kk)
    (hexit : ∀ g w', Same W8 f g → RS W0 B b6 b7 b8 (.slice (some ⟨b, off, none⟩) n c) rows w' (over ws (sch bs) 16) st kk → Q (.exit 8) (frm 270 g) w') : Code.wp Tryd.prog (refLoop 8) Q (frm 270 f) w := by
  refine wp_loop (fun a w' => ∃ (g : Nat → Value) (i : Nat), a = frm 270 g ∧ i ≤ 16 ∧ Same W8 f g ∧ g 10 = .int .i64 (i : Int) ∧ RS W0 B b6 b7 b8 (.slice (some ⟨b, off, none⟩) n c) rows w' (over ws (sch bs) i) st kk)
    (fun a _ => 64 - (intOf (a.eval (.tmp 10))).toNat) ⟨f, 0, rfl, by omega, Same.refl _ _, h10, by rw [over_zero]; exact hrs⟩ ?_
  rintro a wr ⟨g, i, rfl, hk, hs, e10, hrs⟩
  have e6 : g 6 = .pointer (some ⟨b6, 0, none⟩) := (hs 6 rfl).trans h6
  have e4 : g 4 = .slice (some ⟨b, off, none⟩) n c := (hs 4 rfl).trans h4
  refine wp_seq (wp_seq ?_)
  refine wp_region_lit ?_
  refine plv rfl (is_move (.inl rfl) (frm_tmp (by decide) e10)) ?_
  refine plv rfl (is_lss rfl (frm_tmp (by decide) rfl) rfl) ?_
  refine wpList_nil ?_
  change Code.wp _ _ _ _ _
  by_cases hlt : i < 16
  · refine wp_cond_true (frm_tmp (by decide) (congrArg Value.bool (decide_eq_true (by omega)))) (wp_skip ?_)
    change Code.wp _ _ _ _ _
    refine wp_seq (wp_block ?_)
    obtain ⟨x0, hx0⟩ : ∃ x, x = bs.getD (4 * i) 0 := ⟨_, rfl⟩
    obtain ⟨x1, hx1⟩ : ∃ x, x = bs.getD (4 * i + 1) 0 := ⟨_, rfl⟩
    obtain ⟨x2, hx2⟩ : ∃ x, x = bs.getD (4 * i + 2) 0 := ⟨_, rfl⟩
    obtain ⟨x3, hx3⟩ : ∃ x, x = bs.getD (4 * i + 3) 0 := ⟨_, rfl⟩
    have r0 : B8 x0 := hx0 ▸ byte_at hbb _
    have r1 : B8 x1 := hx1 ▸ byte_at hbb _
    have r2 : B8 x2 := hx2 ▸ byte_at hbb _
    have r3 : B8 x3 := hx3 ▸ byte_at hbb _
    have cc : ∀ d, d < 64 → wr.drew.cell? ⟨b, off + d, none⟩ = some (.int .u8 (bs.getD d 0)) := fun d hd => by rw [hrs.drew.byte d (by omega), hat d hd]
    have c0 : wr.drew.cell? ⟨b, off + 4 * i, none⟩ = some (.int .u8 x0) := (cc (4 * i) (by omega)).trans (by rw [hx0])
    have c1 : wr.drew.cell? ⟨b, off + (4 * i + 1), none⟩ = some (.int .u8 x1) := (cc (4 * i + 1) (by omega)).trans (by rw [hx1])
    have c2 : wr.drew.cell? ⟨b, off + (4 * i + 2), none⟩ = some (.int .u8 x2) := (cc (4 * i + 2) (by omega)).trans (by rw [hx2])
    have c3 : wr.drew.cell? ⟨b, off + (4 * i + 3), none⟩ = some (.int .u8 x3) := (cc (4 * i + 3) (by omega)).trans (by rw [hx3])
    have hol : (over ws (sch bs) i).length = 64 := over_len _ _ _ 64 hwl (sch_len bs) (by omega)
    obtain ⟨z0, q0⟩ : ∃ z, wr.drew.cell? ⟨b6, i, none⟩ = some z := ⟨_, hrs.drew.cell6 i (by omega)⟩
    have q1 : wr.drew.frozen? ⟨b6, i, none⟩ = false := blk_free hrs.drew.h6 i
    · refine wp_region_still_tail 34 (by kernel_rfl) (by kernel_rfl) ?_
      change wpStill _ _ wr.drew _ _ _
      simp only [List.take_succ_cons, List.take_zero, List.drop_succ_cons, List.drop_zero]
      refine stv rfl (is_move (.inl rfl) (frm_tmp (by decide) e10)) ?_
      refine stv rfl (is_move (.inl rfl) (frm_tmp (by decide) e4)) ?_
      refine stv rfl (is_move (.inl rfl) (frm_tmp (by decide) e10)) ?_
      refine stv rfl (is_mul rfl rfl (frm_tmp (by decide) rfl)) ?_
      refine stv rfl (is_idx22 (4 * i) (four_i i hlt) (by omega) rfl (frm_tmp (by decide) rfl) (frm_tmp (by decide) rfl)) ?_
      refine stv rfl (is_load5 rfl (frm_tmp (by decide) rfl) c0) ?_
      refine stv rfl (is_conv103 rfl (frm_tmp (by decide) rfl)) ?_
      refine stv rfl (is_mul rfl (frm_tmp (by decide) rfl) rfl) ?_
      refine stv rfl (is_move (.inl rfl) (frm_tmp (by decide) e4)) ?_
      refine stv rfl (is_move (.inl rfl) (frm_tmp (by decide) e10)) ?_
      refine stv rfl (is_mul rfl rfl (frm_tmp (by decide) rfl)) ?_
      refine stv rfl (is_add rfl (frm_tmp (by decide) rfl) rfl) ?_
      refine stv rfl (is_idx22 (4 * i + 1) (four_id i 1 hlt (by omega)) (by omega) rfl (frm_tmp (by decide) rfl) (frm_tmp (by decide) rfl)) ?_
      refine stv rfl (is_load5 rfl (frm_tmp (by decide) rfl) c1) ?_
      refine stv rfl (is_conv103 rfl (frm_tmp (by decide) rfl)) ?_
      refine stv rfl (is_mul rfl (frm_tmp (by decide) rfl) rfl) ?_
      refine stv rfl (is_add rfl (frm_tmp (by decide) rfl) (frm_tmp (by decide) rfl)) ?_
      refine stv rfl (is_move (.inl rfl) (frm_tmp (by decide) e4)) ?_
      refine stv rfl (is_move (.inl rfl) (frm_tmp (by decide) e10)) ?_
      refine stv rfl (is_mul rfl rfl (frm_tmp (by decide) rfl)) ?_
      refine stv rfl (is_add rfl (frm_tmp (by decide) rfl) rfl) ?_
      refine stv rfl (is_idx22 (4 * i + 2) (four_id i 2 hlt (by omega)) (by omega) rfl (frm_tmp (by decide) rfl) (frm_tmp (by decide) rfl)) ?_
      refine stv rfl (is_load5 rfl (frm_tmp (by decide) rfl) c2) ?_
      refine stv rfl (is_conv103 rfl (frm_tmp (by decide) rfl)) ?_
      refine stv rfl (is_mul rfl (frm_tmp (by decide) rfl) rfl) ?_
      refine stv rfl (is_add rfl (frm_tmp (by decide) rfl) (frm_tmp (by decide) rfl)) ?_
      refine stv rfl (is_move (.inl rfl) (frm_tmp (by decide) e4)) ?_
      refine stv rfl (is_move (.inl rfl) (frm_tmp (by decide) e10)) ?_
      refine stv rfl (is_mul rfl rfl (frm_tmp (by decide) rfl)) ?_
      refine stv rfl (is_add rfl (frm_tmp (by decide) rfl) rfl) ?_
      refine stv rfl (is_idx22 (4 * i + 3) (four_id i 3 hlt (by omega)) (by omega) rfl (frm_tmp (by decide) rfl) (frm_tmp (by decide) rfl)) ?_
      refine stv rfl (is_load5 rfl (frm_tmp (by decide) rfl) c3) ?_
      refine stv rfl (is_conv103 rfl (frm_tmp (by decide) rfl)) ?_
      refine stv rfl (is_add rfl (frm_tmp (by decide) rfl) (frm_tmp (by decide) rfl)) ?_
      refine wpStill_nil ?_
      refine plv rfl (is_idx104 i rfl (by omega) rfl (frm_tmp (by decide) e6) (frm_tmp (by decide) rfl)) ?_
      refine plw rfl (is_store103 rfl (frm_tmp (by decide) rfl) (frm_tmp (by decide) rfl) q0 q1) ?_
      refine wpList_nil ?_
      change Code.wp _ _ _ _ _
      generalize hl : updO _ none _ = l
      have sl : Same W8 f l := by rw [← hl]; refine Same.none _ ?_; repeat (first | exact hs | refine Same.some rfl _ ?_)
      have l10 : l 10 = .int .i64 (i : Int) := by rw [← hl]; exact e10
      clear hl
      refine wp_region_lit ?_
      refine plv rfl (is_move (.inl rfl) (frm_tmp (by decide) l10)) ?_
      refine plv rfl (is_add rfl (frm_tmp (by decide) rfl) rfl) ?_
      refine plv rfl (is_move (.inr rfl) (frm_tmp (by decide) rfl)) ?_
      refine wpList_nil ?_
      refine ⟨⟨_, i + 1, rfl, by omega, ?_, ?_, ?_⟩, ?_⟩
      · repeat (first | exact sl | refine Same.some rfl _ ?_)
      · exact congrArg (Value.int .i64) ((i64_add _ _ (by omega) (by omega) (by omega) (by omega)).trans (by omega))
      · have h := hrs.drew.set6 HO1 i ((sch bs).getD i 0)
        rw [over_set ws (sch bs) i 64 hwl (sch_len bs) (by omega), sch_word bs i hlt, wordAt, ← hx0, ← hx1, ← hx2, ← hx3, ← word_sum x0 x1 x2 x3 r0 r1 r2 r3] at h
        exact h
      · rw [frm_tmp (v := .int .i64 ((i : Int) + 1)) (by decide) (congrArg (Value.int .i64) (i64_add _ _ (by omega) (by omega) (by omega) (by omega))), frm_tmp (by decide) e10]
        simp [intOf]
        omega
  · obtain rfl : i = 16 := by omega
    refine wp_cond_false (frm_tmp (by decide) (congrArg Value.bool (decide_eq_false (by omega)))) (wp_exit ?_)
    refine hexit _ _ ?_ hrs
    repeat (first | exact hs | refine Same.some rfl _ ?_)
end Go.Proofs.YtdedphhohiioiaaDoor
/- The reference's sum: the loop that fills the words in. -/
namespace Go.Proofs.YtdedphhohiioiaaDoor
open Go.RowKit

set_option maxHeartbeats 4000000 in
set_option maxRecDepth 100000 in
theorem loop10 (W0 : World) (B b6 b7 b8 : Nat) (v : Value) (rows ws bs st : List Int) (hwl : ws.length = 64) (hbb : ∀ b ∈ bs, B8 b) (HO1 : B ≤ b6 ∧ b6 < b7 ∧ b7 < b8) (f : Nat → Value) (h6 : f 6 = .pointer (some ⟨b6, 0, none⟩)) (h11 : f 11 = .int .i64 16)
    (Q : Exit → Act → World → Prop) (w : World) (hrs : RS W0 B b6 b7 b8 v rows w (over ws (sch bs) 16) st kk)
    (hexit : ∀ g w', Same W10 f g → RS W0 B b6 b7 b8 v rows w' (sch bs) st kk → Q (.exit 10) (frm 270 g) w') : Code.wp Tryd.prog (refLoop 10) Q (frm 270 f) w := by
  refine wp_loop (fun a w' => ∃ (g : Nat → Value) (k : Nat), a = frm 270 g ∧ k ≤ 48 ∧ Same W10 f g ∧ g 11 = .int .i64 (16 + (k : Int)) ∧ RS W0 B b6 b7 b8 v rows w' (over ws (sch bs) (16 + k)) st kk)
    (fun a _ => 64 - (intOf (a.eval (.tmp 11))).toNat) ⟨f, 0, rfl, by omega, Same.refl _ _, h11, hrs⟩ ?_
  rintro a wr ⟨g, k, rfl, hk, hs, e11, hrs⟩
  have e6 : g 6 = .pointer (some ⟨b6, 0, none⟩) := (hs 6 rfl).trans h6
  refine wp_seq (wp_seq ?_)
  refine wp_region_lit ?_
  refine plv rfl (is_move (.inl rfl) (frm_tmp (by decide) e11)) ?_
  refine plv rfl (is_lss rfl (frm_tmp (by decide) rfl) rfl) ?_
  refine wpList_nil ?_
  change Code.wp _ _ _ _ _
  by_cases hlt : k < 48
  · refine wp_cond_true (frm_tmp (by decide) (congrArg Value.bool (decide_eq_true (by omega)))) (wp_skip ?_)
    change Code.wp _ _ _ _ _
    refine wp_seq (wp_block (wp_seq ?_))
    obtain ⟨xa, hxa⟩ : ∃ x, x = (sch bs).getD k 0 := ⟨_, rfl⟩
    obtain ⟨xb, hxb⟩ : ∃ x, x = (sch bs).getD (k + 1) 0 := ⟨_, rfl⟩
    obtain ⟨xc, hxc⟩ : ∃ x, x = (sch bs).getD (k + 9) 0 := ⟨_, rfl⟩
    obtain ⟨xd, hxd⟩ : ∃ x, x = (sch bs).getD (k + 14) 0 := ⟨_, rfl⟩
    have sr : ∀ x ∈ sch bs, U x := sched_range hbb 48
    have rb : U xb := hxb ▸ getD_range sr _
    have rd : U xd := hxd ▸ getD_range sr _
    have hol : (over ws (sch bs) (16 + k)).length = 64 := over_len _ _ _ 64 hwl (sch_len bs) (by omega)
    have at_ : ∀ j, j < 16 + k → wr.drew.cell? ⟨b6, j, none⟩ = some (.int .u32 ((sch bs).getD j 0)) := fun j hj => by
      rw [hrs.drew.cell6 j (by omega), over_lo ws (sch bs) (16 + k) j 64 (sch_len bs) (by omega) hj]
    have qa : wr.drew.drew.cell? ⟨b6, k, none⟩ = some (.int .u32 xa) := (at_ k (by omega)).trans (by rw [hxa])
    have ca : wr.drew.cell? ⟨b6, k + 1, none⟩ = some (.int .u32 xb) := (at_ (k + 1) (by omega)).trans (by rw [hxb])
    have qc : wr.drew.drew.cell? ⟨b6, k + 9, none⟩ = some (.int .u32 xc) := (at_ (k + 9) (by omega)).trans (by rw [hxc])
    have cd : wr.drew.cell? ⟨b6, k + 14, none⟩ = some (.int .u32 xd) := (at_ (k + 14) (by omega)).trans (by rw [hxd])
    obtain ⟨z0, q0⟩ : ∃ z, wr.drew.drew.cell? ⟨b6, 16 + k, none⟩ = some z := ⟨_, hrs.drew.drew.cell6 (16 + k) (by omega)⟩
    have q1 : wr.drew.drew.frozen? ⟨b6, 16 + k, none⟩ = false := blk_free hrs.drew.drew.h6 (16 + k)
    have hnx : (sch bs).getD (16 + k) 0 = (xa + sg0 xb + xc + sg1 xd) % 4294967296 := by rw [sch_next bs k hlt, hxa, hxb, hxc, hxd]
    · refine wp_region_still_lit (by kernel_rfl) (by kernel_rfl) ?_
      change wpStill _ _ wr.drew _ _ _
      refine stv rfl (is_move (.inl rfl) (frm_tmp (by decide) e11)) ?_
      refine stv rfl (is_sub rfl (frm_tmp (by decide) rfl) rfl) ?_
      refine stv rfl (is_idx104 (k + 1) (by rw [i64_sub _ _ (by omega) (by omega) (by omega) (by omega)]; omega) (by omega) rfl (frm_tmp (by decide) e6) (frm_tmp (by decide) rfl)) ?_
      refine stv rfl (is_load103 rfl (frm_tmp (by decide) rfl) ca) ?_
      refine stv rfl (is_move (.inl rfl) (frm_tmp (by decide) e11)) ?_
      refine stv rfl (is_sub rfl (frm_tmp (by decide) rfl) rfl) ?_
      refine stv rfl (is_idx104 (k + 14) (by rw [i64_sub _ _ (by omega) (by omega) (by omega) (by omega)]; omega) (by omega) rfl (frm_tmp (by decide) e6) (frm_tmp (by decide) rfl)) ?_
      refine stv rfl (is_load103 rfl (frm_tmp (by decide) rfl) cd) ?_
      refine stv rfl (is_move (.inr rfl) (frm_tmp (by decide) rfl)) ?_
      refine stv rfl (is_move (.inr rfl) (frm_tmp (by decide) rfl)) ?_
      refine wpStill_nil ?_
      change Code.wp _ _ _ _ wr.drew
      generalize hi : updO _ (some 13) _ = i
      have i12 : i 12 = .int .u32 xb := by rw [← hi]; rfl
      have i13 : i 13 = .int .u32 xd := by rw [← hi]; rfl
      have si : Same W10 f i := by rw [← hi]; repeat (first | exact hs | refine Same.some rfl _ ?_)
      have i11 : i 11 = .int .i64 (16 + (k : Int)) := by rw [← hi]; exact e11
      have i6 : i 6 = .pointer (some ⟨b6, 0, none⟩) := (si 6 rfl).trans h6
      clear hi
      refine wp_region_still_tail 28 (by kernel_rfl) (by kernel_rfl) ?_
      change wpStill _ _ wr.drew.drew _ _ _
      simp only [List.take_succ_cons, List.take_zero, List.drop_succ_cons, List.drop_zero]
      refine stv rfl (is_move (.inl rfl) (frm_tmp (by decide) i11)) ?_
      refine stv rfl (is_move (.inl rfl) (frm_tmp (by decide) i11)) ?_
      refine stv rfl (is_sub rfl (frm_tmp (by decide) rfl) rfl) ?_
      refine stv rfl (is_idx104 k (by rw [i64_sub _ _ (by omega) (by omega) (by omega) (by omega)]; omega) (by omega) rfl (frm_tmp (by decide) i6) (frm_tmp (by decide) rfl)) ?_
      refine stv rfl (is_load103 rfl (frm_tmp (by decide) rfl) qa) ?_
      refine stv rfl (is_move (.inl rfl) (frm_tmp (by decide) i12)) ?_
      refine stc rfl (is_call2 Tryd.call72 rfl rfl (frm_tmp (by decide) rfl) rfl (flip (right_7 _ rb.1 rb.2 _))) ?_
      refine stv rfl (is_move (.inl rfl) (frm_tmp (by decide) i12)) ?_
      refine stc rfl (is_call2 Tryd.call72 rfl rfl (frm_tmp (by decide) rfl) rfl (flip (right_18 _ rb.1 rb.2 _))) ?_
      refine stv rfl (is_xor rfl (frm_tmp (by decide) rfl) (frm_tmp (by decide) rfl)) ?_
      refine stv rfl (is_move (.inl rfl) (frm_tmp (by decide) i12)) ?_
      refine stv rfl (is_shr3 rfl (frm_tmp (by decide) rfl) rfl) ?_
      refine stv rfl (is_xor rfl (frm_tmp (by decide) rfl) (frm_tmp (by decide) rfl)) ?_
      refine stv rfl (is_add rfl (frm_tmp (by decide) rfl) (frm_tmp (by decide) rfl)) ?_
      refine stv rfl (is_move (.inl rfl) (frm_tmp (by decide) i11)) ?_
      refine stv rfl (is_sub rfl (frm_tmp (by decide) rfl) rfl) ?_
      refine stv rfl (is_idx104 (k + 9) (by rw [i64_sub _ _ (by omega) (by omega) (by omega) (by omega)]; omega) (by omega) rfl (frm_tmp (by decide) i6) (frm_tmp (by decide) rfl)) ?_
      refine stv rfl (is_load103 rfl (frm_tmp (by decide) rfl) qc) ?_
      refine stv rfl (is_add rfl (frm_tmp (by decide) rfl) (frm_tmp (by decide) rfl)) ?_
      refine stv rfl (is_move (.inl rfl) (frm_tmp (by decide) i13)) ?_
      refine stc rfl (is_call2 Tryd.call72 rfl rfl (frm_tmp (by decide) rfl) rfl (flip (right_17 _ rd.1 rd.2 _))) ?_
      refine stv rfl (is_move (.inl rfl) (frm_tmp (by decide) i13)) ?_
      refine stc rfl (is_call2 Tryd.call72 rfl rfl (frm_tmp (by decide) rfl) rfl (flip (right_19 _ rd.1 rd.2 _))) ?_
      refine stv rfl (is_xor rfl (frm_tmp (by decide) rfl) (frm_tmp (by decide) rfl)) ?_
      refine stv rfl (is_move (.inl rfl) (frm_tmp (by decide) i13)) ?_
      refine stv rfl (is_shr10 rfl (frm_tmp (by decide) rfl) rfl) ?_
      refine stv rfl (is_xor rfl (frm_tmp (by decide) rfl) (frm_tmp (by decide) rfl)) ?_
      refine stv rfl (is_add rfl (frm_tmp (by decide) rfl) (frm_tmp (by decide) rfl)) ?_
      refine wpStill_nil ?_
      refine plv rfl (is_idx104 (16 + k) (by omega) (by omega) rfl (frm_tmp (by decide) i6) (frm_tmp (by decide) rfl)) ?_
      refine plw rfl (is_store103 rfl (frm_tmp (by decide) rfl) (frm_tmp (by decide) rfl) q0 q1) ?_
      refine wpList_nil ?_
      change Code.wp _ _ _ _ _
      generalize hl : updO _ none _ = l
      have sl : Same W10 f l := by rw [← hl]; refine Same.none _ ?_; repeat (first | exact si | refine Same.some rfl _ ?_)
      have l11 : l 11 = .int .i64 (16 + (k : Int)) := by rw [← hl]; exact i11
      clear hl
      refine wp_region_lit ?_
      refine plv rfl (is_move (.inl rfl) (frm_tmp (by decide) l11)) ?_
      refine plv rfl (is_add rfl (frm_tmp (by decide) rfl) rfl) ?_
      refine plv rfl (is_move (.inr rfl) (frm_tmp (by decide) rfl)) ?_
      refine wpList_nil ?_
      refine ⟨⟨_, k + 1, rfl, by omega, ?_, ?_, ?_⟩, ?_⟩
      · repeat (first | exact sl | refine Same.some rfl _ ?_)
      · exact congrArg (Value.int .i64) ((i64_add _ _ (by omega) (by omega) (by omega) (by omega)).trans (by omega))
      · have h := hrs.drew.drew.set6 HO1 (16 + k) ((sch bs).getD (16 + k) 0)
        rw [over_set ws (sch bs) (16 + k) 64 hwl (sch_len bs) (by omega), hnx] at h
        have e := mod_word xa (sg0 xb) xc (sg1 xd)
        rw [← e] at h
        exact h
      · rw [frm_tmp (v := .int .i64 (16 + (k : Int) + 1)) (by decide) (congrArg (Value.int .i64) (i64_add _ _ (by omega) (by omega) (by omega) (by omega))), frm_tmp (by decide) e11]
        simp [intOf]
        omega
  · obtain rfl : k = 48 := by omega
    refine wp_cond_false (frm_tmp (by decide) (congrArg Value.bool (decide_eq_false (by omega)))) (wp_exit ?_)
    refine hexit _ _ ?_ ?_
    · repeat (first | exact hs | refine Same.some rfl _ ?_)
    · have h := hrs
      rw [over_all ws (sch bs) 64 hwl (sch_len bs)] at h
      exact h
end Go.Proofs.YtdedphhohiioiaaDoor
/- The reference's sum: a round's regions. -/
namespace Go.Proofs.YtdedphhohiioiaaDoor
open Go.RowKit

set_option maxHeartbeats 1000000 in
set_option maxRecDepth 100000 in
theorem do31 (b14 : Nat) (r : St) (g : Nat → Value) (e14 : g 14 = .pointer (some ⟨b14, 0, none⟩)) (w : World) (c4 : w.cell? ⟨b14, 4, none⟩ = some (.int .u32 r.e)) (c5 : w.cell? ⟨b14, 5, none⟩ = some (.int .u32 r.f)) (c6 : w.cell? ⟨b14, 6, none⟩ = some (.int .u32 r.g)) (Q : Exit → Act → World → Prop)
    (h : ∀ i, Same (Wr 151 162 16) g i → i 16 = .int .u32 (chs r.e r.f r.g) → Q .normal (frm 270 i) w) : Code.wp Tryd.prog (refReg 31) Q (frm 270 g) w := by
  refine wp_region_lit ?_
  refine plv rfl (is_idx105 4 rfl (by omega) rfl (frm_tmp (by decide) e14) rfl) ?_
  refine plv rfl (is_load103 rfl (frm_tmp (by decide) rfl) c4) ?_
  refine plv rfl (is_idx105 5 rfl (by omega) rfl (frm_tmp (by decide) e14) rfl) ?_
  refine plv rfl (is_load103 rfl (frm_tmp (by decide) rfl) c5) ?_
  refine plv rfl (is_and rfl (frm_tmp (by decide) rfl) (frm_tmp (by decide) rfl)) ?_
  refine plv rfl (is_idx105 4 rfl (by omega) rfl (frm_tmp (by decide) e14) rfl) ?_
  refine plv rfl (is_load103 rfl (frm_tmp (by decide) rfl) c4) ?_
  refine plv rfl (is_not rfl (frm_tmp (by decide) rfl)) ?_
  refine plv rfl (is_idx105 6 rfl (by omega) rfl (frm_tmp (by decide) e14) rfl) ?_
  refine plv rfl (is_load103 rfl (frm_tmp (by decide) rfl) c6) ?_
  refine plv rfl (is_and rfl (frm_tmp (by decide) rfl) (frm_tmp (by decide) rfl)) ?_
  refine plv rfl (is_xor rfl (frm_tmp (by decide) rfl) (frm_tmp (by decide) rfl)) ?_
  refine plv rfl (is_move (.inr rfl) (frm_tmp (by decide) rfl)) ?_
  refine wpList_nil ?_
  generalize hi : updO _ (some 16) _ = i
  refine h i ?_ ?_
  · rw [← hi]; repeat (first | exact Same.refl _ _ | refine Same.some rfl _ ?_)
  · rw [← hi]; rfl
set_option maxHeartbeats 1000000 in
set_option maxRecDepth 100000 in
theorem do32 (b14 : Nat) (r : St) (g : Nat → Value) (e14 : g 14 = .pointer (some ⟨b14, 0, none⟩)) (w : World) (c0 : w.cell? ⟨b14, 0, none⟩ = some (.int .u32 r.a)) (c1 : w.cell? ⟨b14, 1, none⟩ = some (.int .u32 r.b)) (c2 : w.cell? ⟨b14, 2, none⟩ = some (.int .u32 r.c)) (Q : Exit → Act → World → Prop)
    (h : ∀ i, Same (Wr 163 179 17) g i → i 17 = .int .u32 (maj r.a r.b r.c) → Q .normal (frm 270 i) w) : Code.wp Tryd.prog (refReg 32) Q (frm 270 g) w := by
  refine wp_region_lit ?_
  refine plv rfl (is_idx105 0 rfl (by omega) rfl (frm_tmp (by decide) e14) rfl) ?_
  refine plv rfl (is_load103 rfl (frm_tmp (by decide) rfl) c0) ?_
  refine plv rfl (is_idx105 1 rfl (by omega) rfl (frm_tmp (by decide) e14) rfl) ?_
  refine plv rfl (is_load103 rfl (frm_tmp (by decide) rfl) c1) ?_
  refine plv rfl (is_and rfl (frm_tmp (by decide) rfl) (frm_tmp (by decide) rfl)) ?_
  refine plv rfl (is_idx105 0 rfl (by omega) rfl (frm_tmp (by decide) e14) rfl) ?_
  refine plv rfl (is_load103 rfl (frm_tmp (by decide) rfl) c0) ?_
  refine plv rfl (is_idx105 2 rfl (by omega) rfl (frm_tmp (by decide) e14) rfl) ?_
  refine plv rfl (is_load103 rfl (frm_tmp (by decide) rfl) c2) ?_
  refine plv rfl (is_and rfl (frm_tmp (by decide) rfl) (frm_tmp (by decide) rfl)) ?_
  refine plv rfl (is_xor rfl (frm_tmp (by decide) rfl) (frm_tmp (by decide) rfl)) ?_
  refine plv rfl (is_idx105 1 rfl (by omega) rfl (frm_tmp (by decide) e14) rfl) ?_
  refine plv rfl (is_load103 rfl (frm_tmp (by decide) rfl) c1) ?_
  refine plv rfl (is_idx105 2 rfl (by omega) rfl (frm_tmp (by decide) e14) rfl) ?_
  refine plv rfl (is_load103 rfl (frm_tmp (by decide) rfl) c2) ?_
  refine plv rfl (is_and rfl (frm_tmp (by decide) rfl) (frm_tmp (by decide) rfl)) ?_
  refine plv rfl (is_xor rfl (frm_tmp (by decide) rfl) (frm_tmp (by decide) rfl)) ?_
  refine plv rfl (is_move (.inr rfl) (frm_tmp (by decide) rfl)) ?_
  refine wpList_nil ?_
  generalize hi : updO _ (some 17) _ = i
  refine h i ?_ ?_
  · rw [← hi]; repeat (first | exact Same.refl _ _ | refine Same.some rfl _ ?_)
  · rw [← hi]; rfl
set_option maxHeartbeats 1000000 in
set_option maxRecDepth 100000 in
theorem do33 (b6 b8 b14 k : Nat) (hlt : k < 64) (r : St) (xk xw : Int) (g : Nat → Value) (e14 : g 14 = .pointer (some ⟨b14, 0, none⟩)) (e16 : g 16 = .int .u32 (chs r.e r.f r.g)) (e15 : g 15 = .int .i64 (k : Int)) (e8 : g 8 = .pointer (some ⟨b8, 0, none⟩)) (e6 : g 6 = .pointer (some ⟨b6, 0, none⟩))
    (he : U r.e) (w : World) (c4 : w.drew.cell? ⟨b14, 4, none⟩ = some (.int .u32 r.e)) (c7 : w.drew.cell? ⟨b14, 7, none⟩ = some (.int .u32 r.h)) (ck : w.drew.cell? ⟨b8, k, none⟩ = some (.int .u32 xk)) (cw : w.drew.cell? ⟨b6, k, none⟩ = some (.int .u32 xw)) (Q : Exit → Act → World → Prop)
    (h : ∀ i, Same (Wr 180 203 18) g i → i 18 = .int .u32 (r.t1 xk xw) → Q .normal (frm 270 i) w.drew) : Code.wp Tryd.prog (refReg 33) Q (frm 270 g) w := by
  refine wp_region_still_lit (by kernel_rfl) (by kernel_rfl) ?_
  change wpStill _ _ w.drew _ _ _
  refine stv rfl (is_idx105 7 rfl (by omega) rfl (frm_tmp (by decide) e14) rfl) ?_
  refine stv rfl (is_load103 rfl (frm_tmp (by decide) rfl) c7) ?_
  refine stv rfl (is_idx105 4 rfl (by omega) rfl (frm_tmp (by decide) e14) rfl) ?_
  refine stv rfl (is_load103 rfl (frm_tmp (by decide) rfl) c4) ?_
  refine stc rfl (is_call2 Tryd.call72 rfl rfl (frm_tmp (by decide) rfl) rfl (flip (right_6 _ he.1 he.2 _))) ?_
  refine stv rfl (is_idx105 4 rfl (by omega) rfl (frm_tmp (by decide) e14) rfl) ?_
  refine stv rfl (is_load103 rfl (frm_tmp (by decide) rfl) c4) ?_
  refine stc rfl (is_call2 Tryd.call72 rfl rfl (frm_tmp (by decide) rfl) rfl (flip (right_11 _ he.1 he.2 _))) ?_
  refine stv rfl (is_xor rfl (frm_tmp (by decide) rfl) (frm_tmp (by decide) rfl)) ?_
  refine stv rfl (is_idx105 4 rfl (by omega) rfl (frm_tmp (by decide) e14) rfl) ?_
  refine stv rfl (is_load103 rfl (frm_tmp (by decide) rfl) c4) ?_
  refine stc rfl (is_call2 Tryd.call72 rfl rfl (frm_tmp (by decide) rfl) rfl (flip (right_25 _ he.1 he.2 _))) ?_
  refine stv rfl (is_xor rfl (frm_tmp (by decide) rfl) (frm_tmp (by decide) rfl)) ?_
  refine stv rfl (is_add rfl (frm_tmp (by decide) rfl) (frm_tmp (by decide) rfl)) ?_
  refine stv rfl (is_move (.inl rfl) (frm_tmp (by decide) e16)) ?_
  refine stv rfl (is_add rfl (frm_tmp (by decide) rfl) (frm_tmp (by decide) rfl)) ?_
  refine stv rfl (is_move (.inl rfl) (frm_tmp (by decide) e15)) ?_
  refine stv rfl (is_idx104 k rfl hlt rfl (frm_tmp (by decide) e8) (frm_tmp (by decide) rfl)) ?_
  refine stv rfl (is_load103 rfl (frm_tmp (by decide) rfl) ck) ?_
  refine stv rfl (is_add rfl (frm_tmp (by decide) rfl) (frm_tmp (by decide) rfl)) ?_
  refine stv rfl (is_move (.inl rfl) (frm_tmp (by decide) e15)) ?_
  refine stv rfl (is_idx104 k rfl hlt rfl (frm_tmp (by decide) e6) (frm_tmp (by decide) rfl)) ?_
  refine stv rfl (is_load103 rfl (frm_tmp (by decide) rfl) cw) ?_
  refine stv rfl (is_add rfl (frm_tmp (by decide) rfl) (frm_tmp (by decide) rfl)) ?_
  refine stv rfl (is_move (.inr rfl) (frm_tmp (by decide) rfl)) ?_
  refine wpStill_nil ?_
  generalize hi : updO _ (some 18) _ = i
  refine h i ?_ ?_
  · rw [← hi]; repeat (first | exact Same.refl _ _ | refine Same.some rfl _ ?_)
  · rw [← hi, ← t1_sum]; rfl
set_option maxHeartbeats 1000000 in
set_option maxRecDepth 100000 in
theorem do34 (b14 : Nat) (r : St) (g : Nat → Value) (e14 : g 14 = .pointer (some ⟨b14, 0, none⟩)) (e17 : g 17 = .int .u32 (maj r.a r.b r.c)) (ha : U r.a) (w : World) (c0 : w.drew.cell? ⟨b14, 0, none⟩ = some (.int .u32 r.a)) (Q : Exit → Act → World → Prop)
    (h : ∀ i, Same (Wr 204 216 19) g i → i 19 = .int .u32 r.t2 → Q .normal (frm 270 i) w.drew) : Code.wp Tryd.prog (refReg 34) Q (frm 270 g) w := by
  refine wp_region_still_lit (by kernel_rfl) (by kernel_rfl) ?_
  change wpStill _ _ w.drew _ _ _
  refine stv rfl (is_idx105 0 rfl (by omega) rfl (frm_tmp (by decide) e14) rfl) ?_
  refine stv rfl (is_load103 rfl (frm_tmp (by decide) rfl) c0) ?_
  refine stc rfl (is_call2 Tryd.call72 rfl rfl (frm_tmp (by decide) rfl) rfl (flip (right_2 _ ha.1 ha.2 _))) ?_
  refine stv rfl (is_idx105 0 rfl (by omega) rfl (frm_tmp (by decide) e14) rfl) ?_
  refine stv rfl (is_load103 rfl (frm_tmp (by decide) rfl) c0) ?_
  refine stc rfl (is_call2 Tryd.call72 rfl rfl (frm_tmp (by decide) rfl) rfl (flip (right_13 _ ha.1 ha.2 _))) ?_
  refine stv rfl (is_xor rfl (frm_tmp (by decide) rfl) (frm_tmp (by decide) rfl)) ?_
  refine stv rfl (is_idx105 0 rfl (by omega) rfl (frm_tmp (by decide) e14) rfl) ?_
  refine stv rfl (is_load103 rfl (frm_tmp (by decide) rfl) c0) ?_
  refine stc rfl (is_call2 Tryd.call72 rfl rfl (frm_tmp (by decide) rfl) rfl (flip (right_22 _ ha.1 ha.2 _))) ?_
  refine stv rfl (is_xor rfl (frm_tmp (by decide) rfl) (frm_tmp (by decide) rfl)) ?_
  refine stv rfl (is_move (.inl rfl) (frm_tmp (by decide) e17)) ?_
  refine stv rfl (is_add rfl (frm_tmp (by decide) rfl) (frm_tmp (by decide) rfl)) ?_
  refine stv rfl (is_move (.inr rfl) (frm_tmp (by decide) rfl)) ?_
  refine wpStill_nil ?_
  generalize hi : updO _ (some 19) _ = i
  refine h i ?_ ?_
  · rw [← hi]; repeat (first | exact Same.refl _ _ | refine Same.some rfl _ ?_)
  · rw [← hi, ← t2_sum]; rfl
set_option maxHeartbeats 1000000 in
set_option maxRecDepth 100000 in
theorem do35 (b14 : Nat) (r r2 : St) (t1 t2 : Int) (g : Nat → Value) (e14 : g 14 = .pointer (some ⟨b14, 0, none⟩)) (e18 : g 18 = .int .u32 t1) (e19 : g 19 = .int .u32 t2) (w : World) (c0 : w.cell? ⟨b14, 0, none⟩ = some (.int .u32 r.a)) (c1 : w.cell? ⟨b14, 1, none⟩ = some (.int .u32 r.b)) (c2 : w.cell? ⟨b14, 2, none⟩ = some (.int .u32 r.c)) (c3 : w.cell? ⟨b14, 3, none⟩ = some (.int .u32 r.d)) (c4 : w.cell? ⟨b14, 4, none⟩ = some (.int .u32 r.e)) (c5 : w.cell? ⟨b14, 5, none⟩ = some (.int .u32 r.f)) (c6 : w.cell? ⟨b14, 6, none⟩ = some (.int .u32 r.g)) (hh : Has w b14 105 8)
    (hnew : [IntKind.u32.wrap (t1 + t2), r.a, r.b, r.c, IntKind.u32.wrap (r.d + t1), r.e, r.f, r.g] = r2.list) (Q : Exit → Act → World → Prop)
    (h : ∀ i w1, Same (Wr 217 236 236) g i → Put w b14 105 (u32s r2.list) w1 → Q .normal (frm 270 i) w1) : Code.wp Tryd.prog (refReg 35) Q (frm 270 g) w := by
  refine wp_region_lit ?_
  refine plv rfl (is_move (.inl rfl) (frm_tmp (by decide) e18)) ?_
  refine plv rfl (is_move (.inl rfl) (frm_tmp (by decide) e19)) ?_
  refine plv rfl (is_add rfl (frm_tmp (by decide) rfl) (frm_tmp (by decide) rfl)) ?_
  refine plv rfl (is_idx105 0 rfl (by omega) rfl (frm_tmp (by decide) e14) rfl) ?_
  refine plv rfl (is_load103 rfl (frm_tmp (by decide) rfl) c0) ?_
  refine plv rfl (is_idx105 1 rfl (by omega) rfl (frm_tmp (by decide) e14) rfl) ?_
  refine plv rfl (is_load103 rfl (frm_tmp (by decide) rfl) c1) ?_
  refine plv rfl (is_idx105 2 rfl (by omega) rfl (frm_tmp (by decide) e14) rfl) ?_
  refine plv rfl (is_load103 rfl (frm_tmp (by decide) rfl) c2) ?_
  refine plv rfl (is_idx105 3 rfl (by omega) rfl (frm_tmp (by decide) e14) rfl) ?_
  refine plv rfl (is_load103 rfl (frm_tmp (by decide) rfl) c3) ?_
  refine plv rfl (is_move (.inl rfl) (frm_tmp (by decide) e18)) ?_
  refine plv rfl (is_add rfl (frm_tmp (by decide) rfl) (frm_tmp (by decide) rfl)) ?_
  refine plv rfl (is_idx105 4 rfl (by omega) rfl (frm_tmp (by decide) e14) rfl) ?_
  refine plv rfl (is_load103 rfl (frm_tmp (by decide) rfl) c4) ?_
  refine plv rfl (is_idx105 5 rfl (by omega) rfl (frm_tmp (by decide) e14) rfl) ?_
  refine plv rfl (is_load103 rfl (frm_tmp (by decide) rfl) c5) ?_
  refine plv rfl (is_idx105 6 rfl (by omega) rfl (frm_tmp (by decide) e14) rfl) ?_
  refine plv rfl (is_load103 rfl (frm_tmp (by decide) rfl) c6) ?_
  refine plv rfl (is_build105 rfl rfl (frm_tmp (by decide) rfl) (frm_tmp (by decide) rfl) (frm_tmp (by decide) rfl) (frm_tmp (by decide) rfl) (frm_tmp (by decide) rfl) (frm_tmp (by decide) rfl) (frm_tmp (by decide) rfl) (frm_tmp (by decide) rfl)) ?_
  rw [hnew]
  refine wpList_store_row rfl 105 _ _ rfl b14 (frm_tmp (by decide) e14) (u32s r2.list) (frm_tmp (by decide) rfl) 105 hh (by kernel_rfl) (one_u32s _) ?_
  intro w1 hp
  rw [frm_put]
  refine wpList_nil ?_
  generalize hi : updO _ none _ = i
  refine h i w1 ?_ hp
  rw [← hi]; refine Same.none _ ?_; repeat (first | exact Same.refl _ _ | refine Same.some rfl _ ?_)
end Go.Proofs.YtdedphhohiioiaaDoor
/- The reference's sum: the rounds. -/
namespace Go.Proofs.YtdedphhohiioiaaDoor
open Go.RowKit

theorem in12 {a b x : Nat} {f g : Nat → Value} (h : Same (Wr a b x) f g) (h1 : 147 ≤ a) (h2 : b ≤ 236) (h3 : (15 ≤ x ∧ x ≤ 19) ∨ (147 ≤ x ∧ x ≤ 236)) : Same W12 f g := h.mono fun t ht => by
  simp only [W12, Bool.or_eq_false_iff, Bool.and_eq_false_iff, decide_eq_false_iff_not] at ht
  exact Wr_false (by omega) (by omega)
set_option maxHeartbeats 4000000 in
set_option maxRecDepth 100000 in
theorem loop12 (W0 : World) (B b6 b7 b8 b14 : Nat) (v : Value) (rows ws st : List Int) (s : St) (hsok : s.ok) (hwl : ws.length = 64) (HO1 : B ≤ b6 ∧ b6 < b7 ∧ b7 < b8)
    (f : Nat → Value) (h6 : f 6 = .pointer (some ⟨b6, 0, none⟩)) (h8 : f 8 = .pointer (some ⟨b8, 0, none⟩)) (h14 : f 14 = .pointer (some ⟨b14, 0, none⟩)) (h15 : f 15 = .int .i64 0)
    (Q : Exit → Act → World → Prop) (w : World) (hrs : RV W0 B b6 b7 b8 b14 v rows w ws st kk s.list)
    (hexit : ∀ g w', Same W12 f g → RV W0 B b6 b7 b8 b14 v rows w' ws st kk (s.rnds ws 64).list → Q (.exit 12) (frm 270 g) w') : Code.wp Tryd.prog (refLoop 12) Q (frm 270 f) w := by
  refine wp_loop (fun a w' => ∃ (g : Nat → Value) (k : Nat), a = frm 270 g ∧ k ≤ 64 ∧ Same W12 f g ∧ g 15 = .int .i64 (k : Int) ∧ RV W0 B b6 b7 b8 b14 v rows w' ws st kk (s.rnds ws k).list)
    (fun a _ => 64 - (intOf (a.eval (.tmp 15))).toNat) ⟨f, 0, rfl, by omega, Same.refl _ _, h15, hrs⟩ ?_
  rintro a wr ⟨g, k, rfl, hk, hs, e15, hrs⟩
  refine wp_seq (wp_seq ?_)
  refine wp_region_lit ?_
  refine plv rfl (is_move (.inl rfl) (frm_tmp (by decide) e15)) ?_
  refine plv rfl (is_lss rfl (frm_tmp (by decide) rfl) rfl) ?_
  refine wpList_nil ?_
  change Code.wp _ _ _ _ _
  by_cases hlt : k < 64
  · refine wp_cond_true (frm_tmp (by decide) (congrArg Value.bool (decide_eq_true (by omega)))) (wp_skip ?_)
    change Code.wp _ _ _ _ _
    refine wp_seq (wp_block (wp_seq ?_))
    obtain ⟨r, hr⟩ : ∃ r, r = s.rnds ws k := ⟨_, rfl⟩
    have hrok : r.ok := hr ▸ St.rnds_ok hsok ws k
    rw [← hr] at hrs
    have c0 : wr.cell? ⟨b14, 0, none⟩ = some (.int .u32 r.a) := hrs.cell 0 _ rfl
    have c1 : wr.cell? ⟨b14, 1, none⟩ = some (.int .u32 r.b) := hrs.cell 1 _ rfl
    have c2 : wr.cell? ⟨b14, 2, none⟩ = some (.int .u32 r.c) := hrs.cell 2 _ rfl
    have c3 : wr.cell? ⟨b14, 3, none⟩ = some (.int .u32 r.d) := hrs.cell 3 _ rfl
    have c4 : wr.cell? ⟨b14, 4, none⟩ = some (.int .u32 r.e) := hrs.cell 4 _ rfl
    have c5 : wr.cell? ⟨b14, 5, none⟩ = some (.int .u32 r.f) := hrs.cell 5 _ rfl
    have c6 : wr.cell? ⟨b14, 6, none⟩ = some (.int .u32 r.g) := hrs.cell 6 _ rfl
    have c7 : wr.cell? ⟨b14, 7, none⟩ = some (.int .u32 r.h) := hrs.cell 7 _ rfl
    have ck : wr.cell? ⟨b8, k, none⟩ = some (.int .u32 (kk.getD k 0)) := hrs.rs.cell8 k (by rw [kk_len]; exact hlt)
    have cw : wr.cell? ⟨b6, k, none⟩ = some (.int .u32 (ws.getD k 0)) := hrs.rs.cell6 k (by omega)
    generalize hg : updO _ (some 148) _ = g1
    have s1 : Same W12 f g1 := by rw [← hg]; repeat (first | exact hs | refine Same.some rfl _ ?_)
    have e1 : g1 15 = .int .i64 (k : Int) := by rw [← hg]; exact e15
    clear hg
    refine do31 b14 r g1 ((s1 14 rfl).trans h14) wr c4 c5 c6 _ fun g2 q2 e2 => ?_
    change Code.wp _ _ _ _ _
    have s2 := s1.trans (in12 q2 (by decide) (by decide) (by decide))
    refine wp_seq (do32 b14 r g2 ((s2 14 rfl).trans h14) wr c0 c1 c2 _ fun g3 q3 e3 => ?_)
    change Code.wp _ _ _ _ _
    have s3 := s2.trans (in12 q3 (by decide) (by decide) (by decide))
    refine wp_seq (do33 b6 b8 b14 k hlt r _ _ g3 ((s3 14 rfl).trans h14) ((q3 16 rfl).trans e2) ((q3 15 rfl).trans ((q2 15 rfl).trans e1)) ((s3 8 rfl).trans h8) ((s3 6 rfl).trans h6) hrok.2.2.2.2.1 wr c4 c7 ck cw _ fun g4 q4 e4 => ?_)
    change Code.wp _ _ _ _ _
    have s4 := s3.trans (in12 q4 (by decide) (by decide) (by decide))
    refine wp_seq (do34 b14 r g4 ((s4 14 rfl).trans h14) ((q4 17 rfl).trans e3) hrok.1 wr.drew c0 _ fun g5 q5 e5 => ?_)
    change Code.wp _ _ _ _ _
    have s5 := s4.trans (in12 q5 (by decide) (by decide) (by decide))
    have hnew : [IntKind.u32.wrap (r.t1 (kk.getD k 0) (ws.getD k 0) + r.t2), r.a, r.b, r.c, IntKind.u32.wrap (r.d + r.t1 (kk.getD k 0) (ws.getD k 0)), r.e, r.f, r.g] = (s.rnds ws (k + 1)).list := by
      rw [St.rnds, ← hr]
      simp only [IntKind.wrap_u32]
      rfl
    refine do35 b14 r (s.rnds ws (k + 1)) _ _ g5 ((s5 14 rfl).trans h14) ((q5 18 rfl).trans e4) e5 wr.drew.drew c0 c1 c2 c3 c4 c5 c6 ⟨(u32s r.list).toArray, rfl, hrs.h14⟩ hnew _ fun n w1 q6 hp => ?_
    change Code.wp _ _ _ _ _
    have sn := s5.trans (in12 q6 (by decide) (by decide) (by decide))
    have n15 : n 15 = .int .i64 (k : Int) := (q6 15 rfl).trans ((q5 15 rfl).trans ((q4 15 rfl).trans ((q3 15 rfl).trans ((q2 15 rfl).trans e1))))
    refine wp_region_lit ?_
    refine plv rfl (is_move (.inl rfl) (frm_tmp (by decide) n15)) ?_
    refine plv rfl (is_add rfl (frm_tmp (by decide) rfl) rfl) ?_
    refine plv rfl (is_move (.inr rfl) (frm_tmp (by decide) rfl)) ?_
    refine wpList_nil ?_
    refine ⟨⟨_, k + 1, rfl, by omega, ?_, ?_, ?_⟩, ?_⟩
    · repeat (first | exact sn | refine Same.some rfl _ ?_)
    · exact congrArg (Value.int .i64) ((i64_add _ _ (by omega) (by omega) (by omega) (by omega)).trans (by omega))
    · exact hrs.drew.drew.put HO1 hp
    · rw [frm_tmp (v := .int .i64 ((k : Int) + 1)) (by decide) (congrArg (Value.int .i64) (i64_add _ _ (by omega) (by omega) (by omega) (by omega))), frm_tmp (by decide) e15]
      simp [intOf]
      omega
  · obtain rfl : k = 64 := by omega
    refine wp_cond_false (frm_tmp (by decide) (congrArg Value.bool (decide_eq_false (by omega)))) (wp_exit ?_)
    refine hexit _ _ ?_ hrs
    repeat (first | exact hs | refine Same.some rfl _ ?_)
end Go.Proofs.YtdedphhohiioiaaDoor
