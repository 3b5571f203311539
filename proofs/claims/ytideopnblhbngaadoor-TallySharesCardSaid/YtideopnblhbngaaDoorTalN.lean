/- A tally of numbers: New, All, Len. -/
import Derived.Test.YtideopnblhbngaaDoorTalN0
import Derived.Test.YtideopnblhbngaaDoorTalK
namespace Go.Proofs.YtideopnblhbngaaDoor
open Go.RowKit Go.Shelf
attribute [local go_sem] Oper.semAt_some

theorem below_none {w w' : World} (h : w.grownBy w' none) : Below w.heap.size w w' := ⟨h.os, h.tape, h.output, h.size, fun k hk => h.block k hk (by simp)⟩
theorem bel_drew1 {w w' : World} (h : Ext w.drew w') : Below w.heap.size w w' := ext_of_drew h
theorem info_parts3 {t : TypeId} {z : Value} {s b : Nat} (h : (Tryd.prog.info? t).map (fun i => (i.zero, i.size, i.bytes)) = some (some z, s, b)) : ∃ i, Tryd.prog.info? t = some i ∧ i.zero = some z ∧ i.size = s ∧ i.bytes = b := by
  obtain ⟨i, h1, h2⟩ := Option.map_eq_some_iff.1 h
  simp only [Prod.mk.injEq] at h2
  exact ⟨i, h1, h2.1, h2.2.1, h2.2.2⟩

theorem info128 : (Tryd.prog.info? 128).map (fun i => (i.zero, i.size, i.bytes)) = some (some (.agg #[.bool false, .int .i64 0, .int .i64 0]), 3, 24) := by kernel_rfl
set_option maxHeartbeats 4000000 in
set_option maxRecDepth 100000 in
theorem new_bad (va : List Va) (A : Option Addr) (n c : Nat) (aS aR aT : Addr) (w : World) (hv : Vals w (.slice A n c) va) (hs : Sen w aS aR aT) (hval : validB va = false) :
    Calls Tryd.prog 51 #[.slice A n c] w fun e w' => e = .returned (.tuple #[.pointer none, errV aS]) ∧ Below w.heap.size w w' := by
  have HV := Lib.hid hv
  have HS := Lib.hid hs
  clear hv hs
  go_enter Tryd.func51, Tryd.ntmps51
  go_wp2_with fail
  refine (check_any va A n c aS aR aT w HV.out HS.out).mono ?_
  rintro _ w1 ⟨rfl, bel1⟩
  have hck : checkV va aS = errV aS := by unfold checkV; rw [hval]; rfl
  rw [hck]
  have B1 := Lib.hid bel1
  clear bel1 hck hval
  go_wp2
  go_ret2
  exact ⟨rfl, B1.out⟩
set_option maxHeartbeats 4000000 in
set_option maxRecDepth 100000 in
theorem new_ok (va : List Va) (A : Option Addr) (n c : Nat) (aS aR aT : Addr) (w : World) (hv : Vals w (.slice A n c) va) (hs : Sen w aS aR aT) (hval : validB va = true) :
    Calls Tryd.prog 51 #[.slice A n c] w fun e w' => (∃ p g A' c', e = .returned (.tuple #[.pointer (some ⟨p, 0, none⟩), .nilIface]) ∧ TalAt 126 128 (Value.int .i64) w.heap.size p g A' n c' n va (List.replicate n (false, 0, 0)) w') ∧ Below w.heap.size w w' := by
  have hln := hv.len
  have hvl := valid_len hval
  have hn1 : 1 ≤ n := by omega
  have hn7 : n ≤ 7 := by omega
  have HG := Lib.hid hv.good
  have HL := Lib.hid hln
  have HV0 := Lib.hid hv
  have HS := Lib.hid hs
  clear hv hs hln hvl
  go_enter Tryd.func51, Tryd.ntmps51
  go_wp2_with fail
  refine (check_any va A n c aS aR aT w HV0.out HS.out).mono ?_
  rintro _ w1 ⟨rfl, bel1⟩
  have hck : checkV va aS = .nilIface := by unfold checkV; rw [hval]; rfl
  rw [hck]
  have B0 := Lib.hid bel1
  have HV := Lib.hid (HV0.out.below bel1)
  clear bel1 hck hval HV0 HS
  go_wp2_with fail
  refine wp_region_rely2 (by kernel_rfl) 9 (by kernel_rfl) (by kernel_rfl) Ext Ext.refl Ext.trans (fun ix => match ix with
    | 0 => fun _ v => v = .slice A n c
    | 1 => fun W v => ∃ A' c', v = .slice A' n c' ∧ W.ownsRow w.heap.size 39 17 (.slice A' n c') n (rcells va)
    | 2 => fun _ v => v = .slice A n c
    | 3 => fun _ v => v = .int .i64 n
    | 4 => fun W v => ∃ g, v = .slice (some ⟨g, 0, none⟩) n n ∧ w.heap.size ≤ g ∧ ∃ cur, W.heap[g]? = some (.cells cur 128 (0, 0)) ∧ ∀ i r, i < n → r < 3 → cur[i * 3 + r]? = (#[.bool false, .int .i64 0, .int .i64 0] : Array Value)[r]?
    | 5 => fun W v => ∃ g A' c', v = .agg #[.slice A' n c', .slice (some ⟨g, 0, none⟩) n n] ∧ W.ownsRow w.heap.size 39 17 (.slice A' n c') n (rcells va) ∧ w.heap.size ≤ g ∧ ∃ cur, W.heap[g]? = some (.cells cur 128 (0, 0)) ∧ ∀ i r, i < n → r < 3 → cur[i * 3 + r]? = (#[.bool false, .int .i64 0, .int .i64 0] : Array Value)[r]?
    | 6 => fun W v => ∃ p g A' c', v = .pointer (some ⟨p, 0, none⟩) ∧ TalAt 126 128 (Value.int .i64) w.heap.size p g A' n c' n va (List.replicate n (false, 0, 0)) W
    | 7 => fun W v => ∃ p g A' c', v = .pointer (some ⟨p, 0, none⟩) ∧ TalAt 126 128 (Value.int .i64) w.heap.size p g A' n c' n va (List.replicate n (false, 0, 0)) W
    | 8 => fun _ v => v = Value.nilIface
    | _ => fun _ _ => False) ?_
  simp (maxSteps := 10000000) only [Rely, List.take_succ_cons, List.take_zero, List.drop_succ_cons, List.drop_zero, Nat.reduceAdd, Nat.zero_add, Act.put, List.setIfInBounds_toArray, List.set_cons_succ, List.set_cons_zero]
  refine ⟨?_, ?_, ?_, ?_, ?_, ?_, ?_, ?_, ?_, ?_⟩
  · refine step_plain rfl fun vs wq hE hd => ?_
    exact gives_move _ (.slice A n c) (.inl rfl) rfl ⟨Ext.refl _, fun _ _ => rfl⟩
  · refine step_plain rfl fun vs wq hE hd => ?_
    refine gives_call 82 (enters_of Tryd.func82 (by kernel_rfl) rfl) _ _ rfl rfl [.slice A n c] ?_ ?_
    · show [vs 0] = _
      rw [show vs 0 = _ from (hd.1)]
    · refine (vclone_any va A n c wq (HV.out.below (bel_drew1 hE)) hn1 (by omega)).mono ?_
      rintro _ w'' ⟨A', c', rfl, ro, hb⟩
      have hsz := (bel_drew1 hE).size
      refine ⟨_, rfl, hb, fun W2 h2 => ⟨A', c', rfl, ?_⟩⟩
      have ro2 := own_le ro (show w.heap.size ≤ wq.heap.size by have := B0.out.size; omega)
      exact ro2.kept (row := none) ⟨h2.os, h2.tape, h2.output, h2.size, fun k hk _ => h2.block k hk⟩ (by cases h' : (Value.slice A' n c').ownBlock <;> simp)
  · refine step_plain rfl fun vs wq hE hd => ?_
    exact gives_move _ (.slice A n c) (.inl rfl) rfl ⟨Ext.refl _, fun _ _ => rfl⟩
  · refine step_plain rfl fun vs wq hE hd => ?_
    exact gives_len2 22 39 _ rfl Tryd.underlying22 A n c (show vs 2 = _ from (hd.1)) ⟨Ext.refl _, fun _ _ => rfl⟩
  · refine step_plain rfl fun vs wq hE hd => ?_
    obtain ⟨i0, hi0, hz0, hz1, hz2⟩ := info_parts3 info128
    obtain ⟨w'', hrun, ro, hgr⟩ := run_make_full wq w.heap.size 124 128 i0 _ 3 Tryd.underlying124 hi0 hz0 hz1 .i64 .i64 n (by rw [hz2]; omega) (by unfold maxLen; omega) (by have h1 := (bel_drew1 hE).size; have h2 := B0.out.size; omega)
    refine gives_makeSlice 124 _ _ rfl (.int .i64 n) (.int .i64 n) _ (show vs 3 = _ from (hd.1)) (show vs 3 = _ from (hd.1)) hrun ⟨below_none hgr, fun W2 h2 => ?_⟩
    rcases ro.2 with ⟨e, _⟩ | ⟨g, cap, cur, e, hb, hg, h3, h4, h5, h6⟩
    · simp at e
    · simp only [Value.slice.injEq, Option.some.injEq, Addr.mk.injEq] at e
      obtain ⟨⟨rfl, -⟩, -, rfl⟩ := e
      refine ⟨_, rfl, hb, cur, blk_below hg h2, fun i r hi hr => ?_⟩
      rw [List.take_of_length_le (by simpa using Nat.le_of_eq h5)] at h6
      rw [← Array.getElem?_toList, h6, Array.getElem?_toList]
      exact made_at _ rfl n i r hi hr
  · refine step_plain rfl fun vs wq hE hd => ?_
    obtain ⟨A', c', h1, ro⟩ := (hd.1)
    obtain ⟨g, h4, hg, cur, hcur, hat⟩ := (hd.2.1)
    refine gives_build2 126 _ _ rfl (.slice A' n c') (.slice (some ⟨g, 0, none⟩) n n) (.agg #[.slice A' n c', .slice (some ⟨g, 0, none⟩) n n]) (show vs 1 = _ from h1) (show vs 4 = _ from h4) (w' := wq) (by go_simp) ⟨Ext.refl _, fun W2 h2 => ⟨g, A', c', rfl, ?_, hg, cur, blk_below hcur h2, hat⟩⟩
    exact ro.kept (row := none) ⟨h2.os, h2.tape, h2.output, h2.size, fun k hk _ => h2.block k hk⟩ (by cases h' : (Value.slice A' n c').ownBlock <;> simp)
  · refine step_plain rfl fun vs wq hE hd => ?_
    obtain ⟨g, A', c', h5, ro, hg, cur, hcur, hat⟩ := (hd.1)
    have hbl : Below wq.heap.size wq (wq.alloc (.cells #[.slice A' n c', .slice (some ⟨g, 0, none⟩) n n] 126)) := (Below.refl _ _).alloc (Nat.le_refl _) _
    refine gives_boxOp 126 _ rfl (.agg #[.slice A' n c', .slice (some ⟨g, 0, none⟩) n n]) (.pointer (some ⟨wq.heap.size, 0, none⟩)) (show vs 5 = _ from h5) (w' := wq.alloc (.cells #[.slice A' n c', .slice (some ⟨g, 0, none⟩) n n] 126)) (by go_simp) ⟨hbl, fun W2 h2 => ⟨wq.heap.size, g, A', c', rfl, ?_⟩⟩
    refine TalAt.below ⟨heap_alloc_new wq _, ro.kept (row := none) ⟨hbl.os, hbl.tape, hbl.output, hbl.size, fun k hk _ => hbl.block k hk⟩ (by cases h' : (Value.slice A' n c').ownBlock <;> simp), ⟨cur, blk_below hcur hbl, fun i x hx => ?_⟩, HL.out, by simp, HG.out, by have h1 := (bel_drew1 hE).size; have h2 := B0.out.size; omega, hg, ⟨Nat.le_refl _, by unfold maxLen; omega⟩⟩ h2
    have hi : i < n := by have := (List.getElem?_eq_some_iff.1 hx).1; simpa using this
    rw [List.getElem?_replicate, if_pos hi] at hx
    cases hx
    exact ⟨by have := hat i 0 hi (by omega); simpa using this, by have := hat i 1 hi (by omega); simpa using this, by have := hat i 2 hi (by omega); simpa using this⟩
  · refine step_plain rfl fun vs wq hE hd => ?_
    obtain ⟨p, g, A', c', h6, ht⟩ := (hd.1)
    exact gives_move _ (.pointer (some ⟨p, 0, none⟩)) (.inr rfl) (show vs 6 = _ from h6) ⟨Ext.refl _, fun W2 h2 => ⟨p, g, A', c', rfl, ht.below h2⟩⟩
  · refine step_plain rfl fun vs wq hE hd => ?_
    exact gives_move _ (Value.nilIface) (.inr rfl) rfl ⟨Ext.refl _, fun _ _ => rfl⟩
  · intro vs wz hE hR
    obtain ⟨p, g, A', c', h7, ht⟩ := hR 7 (by omega)
    have h8 : vs 8 = .nilIface := hR 8 (by omega)
    have B1 := Lib.hid (B0.out.trans ((bel_drew1 hE).mono B0.out.size))
    have HTT := Lib.hid ht
    rw [h7, h8]
    clear hR hE h7 h8 ht
    go_wp2_with fail
    go_ret2
    exact ⟨⟨p, g, A', c', rfl, HTT.out⟩, B1.out⟩

theorem allT_any (p : Nat) (w : World) : Calls Tryd.prog 53 #[.pointer (some ⟨p, 0, none⟩)] w fun e w' => e = .returned (.func (.func 83) #[] #[.pointer (some ⟨w.heap.size, 0, none⟩)]) ∧ w' = w.alloc (.cells #[.pointer (some ⟨p, 0, none⟩)] 80) := by
  go_enter Tryd.func53, Tryd.ntmps53
  go_wp2_with fail
  go_ret
  exact ⟨rfl, rfl⟩
/-- How many words. -/
def saidN {K : Type} (ws : List (Wd K)) : Nat := (sel (fun _ => true) ws ws.length).length
/-- What the loop that counts holds. -/
structure LnI (w : World) (k : Nat) (W : World) : Prop where
  bx : Boxed W w.heap.size 3 (.int .i64 k)
  bel : Below w.heap.size w W
theorem LnI.own {w : World} {C : Nat} {α : Type} (hB : w.heap.size ≤ C) : OwnFrom C (fun (pre : List α) W => LnI w pre.length W) := by
  intro s X Y row hs hg hr
  have hr' := fun k e => (hr k e).2
  exact ⟨boxed_kept' hs.bx hg hr', hs.bel.grown hg hs.bel.size fun k e => by have := (hr k e).1; omega⟩
set_option maxHeartbeats 4000000 in
set_option maxRecDepth 100000 in
theorem lenT_any (base p g : Nat) (A : Option Addr) (m c cw : Nat) (vs : List Va) (ws : List (Wd Int)) (w : World) (ht : TalAt 126 128 (Value.int .i64) base p g A m c cw vs ws w) (hz : m ≤ 1000) :
    Calls Tryd.prog 55 #[.pointer (some ⟨p, 0, none⟩)] w fun e w' => e = .returned (.int .i64 (saidN ws)) ∧ Below w.heap.size w w' := by
  have HT := Lib.hid ht
  clear ht
  refine (callsIn_wide (n := 5)).1 ?_
  refine callsIn_of_wp_marks Tryd.func55 rfl trivial ?_ rfl
  simp only [Tryd.ntmps55, List.size_toArray, List.length_cons, List.length_nil, Nat.reduceAdd, Nat.reduceSub, Array.replicate_succ, Array.replicate_zero, List.push_toArray, List.append_toArray, List.nil_append, List.cons_append]
  gi_wp2_with (refine ⟨trivial, ?_⟩; gi_at_call 53; refine (callsIn_wide.2 (allT_any p _)).mono ?_; rintro _ wa ⟨rfl, rfl⟩)
  obtain ⟨w1, hw1⟩ : ∃ x, x = w.alloc (.cells #[.int .i64 0] 3) := ⟨_, rfl⟩
  obtain ⟨w2, hw2⟩ : ∃ x, x = w1.alloc (.cells #[.pointer (some ⟨p, 0, none⟩)] 80) := ⟨_, rfl⟩
  have z1 : w1.heap.size = w.heap.size + 1 := by rw [hw1]; simp
  have z2 : w2.heap.size = w.heap.size + 2 := by rw [hw2]; simp [z1]
  have b1 : Below w.heap.size w w1 := by rw [hw1]; exact (Below.refl _ _).alloc (Nat.le_refl _) _
  have b2 : Below w1.heap.size w1 w2 := by rw [hw2]; exact (Below.refl _ _).alloc (Nat.le_refl _) _
  have x1 : Boxed w1 w.heap.size 3 (.int .i64 0) := by rw [hw1]; exact Boxed.new w 3 _
  have x2 : Boxed w2 (w.heap.size + 1) 80 (.pointer (some ⟨p, 0, none⟩)) := by have := Boxed.new w1 80 (.pointer (some ⟨p, 0, none⟩)); rwa [z1, ← hw2] at this
  have hB : Below w.heap.size w w2 := b1.trans (b2.mono (by omega))
  have H2 := Lib.hid x2.cell
  have HI : Hid (LnI w ([] : List (Int × Int)).length w2) := Lib.hid ⟨blk_below x1 b2, hB⟩
  have HTD := Lib.hid (HT.out.below hB)
  have hpw : p < w.heap.size := blk_lt HT.out.blk
  have hgw : g < w.heap.size := by obtain ⟨cur, h1, _⟩ := HT.out.wds; exact blk_lt h1
  rw [← hw1, ← hw2]
  clear hw1 hw2 b1 b2 x1 x2 hB z1
  refine wpIn_rangeFunc_ownG rfl (by omega) (gf := 83) (lb := #[.pointer (some ⟨w.heap.size + 1, 0, none⟩)]) rfl trivial (enters_of Tryd.func83 (by kernel_rfl) rfl)
    (allt_stops 4 (by omega) (w.heap.size + 1) base p g A m c cw vs ws w2 H2.out HTD.out hz) keepL_t (fun W l o o' _ hl ho _ => keepL_b W l o o' hl ho) (Below.refl _ _) (fun _ => rfl)
    (fun pre W => LnI w pre.length W)
    (fun _ _ _ => False)
    (LnI.own (by omega))
    (fun _ _ _ _ _ h _ _ => h)
    HI.out
    (fun x => { tmps := #[.pointer (some ⟨p, 0, none⟩), undef, .int .i64 0, .pointer (some ⟨w.heap.size, 0, none⟩), .pointer (some ⟨p, 0, none⟩), .func (.func 83) #[] #[.pointer (some ⟨w.heap.size + 1, 0, none⟩)], .int .i64 x.1, .int .i64 x.2, undef, undef, undef], defers := [] }) ?assign ?body ?done ?stop
  case stop =>
    rintro D c pre W _ _ h _
    exact h.elim
  case assign =>
    intro l x W K hK
    gi_wp2
    simpa using hK
  case body =>
    rintro l pre x W hI hlt
    have hl1 := sel_len (fun _ => true) ws m
    obtain ⟨ln, hln⟩ : ∃ x, x = pre.length := ⟨_, rfl⟩
    rw [← hln] at hI hlt
    have hle : ln ≤ 1000 := by omega
    have cn := hI.bx.cell
    have fo := hI.bx.frozen
    have HI := Lib.hid hI
    have HLN := Lib.hid hln
    clear hI hlt hln hl1
    gi_wp2
    refine ⟨(KeepsOthers.setCell _ _ _).from _, fun j hj cs t fr hk => ?_, ⟨?_, HI.out.bel.setCell (p := ⟨w.heap.size, 0, none⟩) (Nat.le_refl _) _⟩⟩
    · have hj3 : j ≠ w.heap.size := by
        simp only [List.mem_cons, List.not_mem_nil, or_false] at hj
        omega
      exact (heap_setCell_other W ⟨w.heap.size, 0, none⟩ j _ hj3).trans hk
    · rw [List.length_append, ← HLN.out]
      exact HI.out.bx.set _
  case done =>
    rintro D ys W hD rfl hI hK
    have hc := hI.bx.cell
    have HI := Lib.hid hI
    have HNW := Lib.hid HT.out.nw
    clear hI
    gi_wp2
    refine ⟨by simp, .inl ⟨_, _, rfl, run_takeDeferred hK, ?_⟩⟩
    exact ⟨_, results_tmp rfl _ _ _, by unfold saidN; rw [← HNW.out]; rfl, HI.out.bel.trans (belowK_b (w := w) (Nat.le_refl _) W D _ _ (by omega) hK rfl rfl)⟩
end Go.Proofs.YtideopnblhbngaaDoor
