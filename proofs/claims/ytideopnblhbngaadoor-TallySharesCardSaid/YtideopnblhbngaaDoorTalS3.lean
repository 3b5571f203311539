/- A tally of texts: New. -/
import Derived.Test.YtideopnblhbngaaDoorTalS2
import Derived.Test.YtideopnblhbngaaDoorTalN
namespace Go.Proofs.YtideopnblhbngaaDoor
open Go.RowKit Go.Shelf
attribute [local go_sem] Oper.semAt_some

theorem info143 : (Tryd.prog.info? 143).map (fun i => (i.zero, i.size, i.bytes)) = some (some (.agg #[.bool false, .string ByteArray.empty, .int .i64 0]), 3, 32) := by kernel_rfl
set_option maxHeartbeats 4000000 in
set_option maxRecDepth 100000 in
theorem snew_bad (va : List Va) (A : Option Addr) (n c : Nat) (aS aR aT : Addr) (w : World) (hv : Vals w (.slice A n c) va) (hs : Sen w aS aR aT) (hval : validB va = false) :
    Calls Tryd.prog 78 #[.slice A n c] w fun e w' => e = .returned (.tuple #[.pointer none, errV aS]) ∧ Below w.heap.size w w' := by
  have HV := Lib.hid hv
  have HS := Lib.hid hs
  clear hv hs
  go_enter Tryd.func78, Tryd.ntmps78
  go_wp2_with fail
  refine (check_any va A n c aS aR aT w HV.out HS.out).mono ?_
  rintro _ w1 ⟨rfl, bel1⟩
  have hck : checkV va aS = errV aS := by unfold checkV; rw [hval]; rfl
  rw [hck]
  have B1 := Lib.hid bel1
  clear bel1 hck hval
  go_wp2
  go_ret2
  exact ⟨rfl, B1.out⟩
set_option maxHeartbeats 4000000 in
set_option maxRecDepth 100000 in
theorem snew_ok (va : List Va) (A : Option Addr) (n c : Nat) (aS aR aT : Addr) (w : World) (hv : Vals w (.slice A n c) va) (hs : Sen w aS aR aT) (hval : validB va = true) :
    Calls Tryd.prog 78 #[.slice A n c] w fun e w' => (∃ p g A' c', e = .returned (.tuple #[.pointer (some ⟨p, 0, none⟩), .nilIface]) ∧ TalAt 141 143 Value.string w.heap.size p g A' n c' n va (List.replicate n (false, ByteArray.empty, 0)) w') ∧ Below w.heap.size w w' := by
  have hln := hv.len
  have hvl := valid_len hval
  have hn1 : 1 ≤ n := by omega
  have hn7 : n ≤ 7 := by omega
  have HG := Lib.hid hv.good
  have HL := Lib.hid hln
  have HV0 := Lib.hid hv
  have HS := Lib.hid hs
  clear hv hs hln hvl
  go_enter Tryd.func78, Tryd.ntmps78
  go_wp2_with fail
  refine (check_any va A n c aS aR aT w HV0.out HS.out).mono ?_
  rintro _ w1 ⟨rfl, bel1⟩
  have hck : checkV va aS = .nilIface := by unfold checkV; rw [hval]; rfl
  rw [hck]
  have B0 := Lib.hid bel1
  have HV := Lib.hid (HV0.out.below bel1)
  clear bel1 hck hval HV0 HS
  go_wp2_with fail
  refine wp_region_rely2 (by kernel_rfl) 9 (by kernel_rfl) (by kernel_rfl) Ext Ext.refl Ext.trans (fun ix => match ix with
    | 0 => fun _ v => v = .slice A n c
    | 1 => fun W v => ∃ A' c', v = .slice A' n c' ∧ W.ownsRow w.heap.size 39 17 (.slice A' n c') n (rcells va)
    | 2 => fun _ v => v = .slice A n c
    | 3 => fun _ v => v = .int .i64 n
    | 4 => fun W v => ∃ g, v = .slice (some ⟨g, 0, none⟩) n n ∧ w.heap.size ≤ g ∧ ∃ cur, W.heap[g]? = some (.cells cur 143 (0, 0)) ∧ ∀ i r, i < n → r < 3 → cur[i * 3 + r]? = (#[.bool false, .string ByteArray.empty, .int .i64 0] : Array Value)[r]?
    | 5 => fun W v => ∃ g A' c', v = .agg #[.slice A' n c', .slice (some ⟨g, 0, none⟩) n n] ∧ W.ownsRow w.heap.size 39 17 (.slice A' n c') n (rcells va) ∧ w.heap.size ≤ g ∧ ∃ cur, W.heap[g]? = some (.cells cur 143 (0, 0)) ∧ ∀ i r, i < n → r < 3 → cur[i * 3 + r]? = (#[.bool false, .string ByteArray.empty, .int .i64 0] : Array Value)[r]?
    | 6 => fun W v => ∃ p g A' c', v = .pointer (some ⟨p, 0, none⟩) ∧ TalAt 141 143 Value.string w.heap.size p g A' n c' n va (List.replicate n (false, ByteArray.empty, 0)) W
    | 7 => fun W v => ∃ p g A' c', v = .pointer (some ⟨p, 0, none⟩) ∧ TalAt 141 143 Value.string w.heap.size p g A' n c' n va (List.replicate n (false, ByteArray.empty, 0)) W
    | 8 => fun _ v => v = Value.nilIface
    | _ => fun _ _ => False) ?_
  simp (maxSteps := 10000000) only [Rely, List.take_succ_cons, List.take_zero, List.drop_succ_cons, List.drop_zero, Nat.reduceAdd, Nat.zero_add, Act.put, List.setIfInBounds_toArray, List.set_cons_succ, List.set_cons_zero]
  refine ⟨?_, ?_, ?_, ?_, ?_, ?_, ?_, ?_, ?_, ?_⟩
  · refine step_plain rfl fun vs wq hE hd => ?_
    exact gives_move _ (.slice A n c) (.inl rfl) rfl ⟨Ext.refl _, fun _ _ => rfl⟩
  · refine step_plain rfl fun vs wq hE hd => ?_
    refine gives_call 82 (enters_of Tryd.func82 (by kernel_rfl) rfl) _ _ rfl rfl [.slice A n c] ?_ ?_
    · show [vs 0] = _
      rw [show vs 0 = _ from (hd.1)]
    · refine (vclone_any va A n c wq (HV.out.below (bel_drew1 hE)) hn1 (by omega)).mono ?_
      rintro _ w'' ⟨A', c', rfl, ro, hb⟩
      have hsz := (bel_drew1 hE).size
      refine ⟨_, rfl, hb, fun W2 h2 => ⟨A', c', rfl, ?_⟩⟩
      have ro2 := own_le ro (show w.heap.size ≤ wq.heap.size by have := B0.out.size; omega)
      exact ro2.kept (row := none) ⟨h2.os, h2.tape, h2.output, h2.size, fun k hk _ => h2.block k hk⟩ (by cases h' : (Value.slice A' n c').ownBlock <;> simp)
  · refine step_plain rfl fun vs wq hE hd => ?_
    exact gives_move _ (.slice A n c) (.inl rfl) rfl ⟨Ext.refl _, fun _ _ => rfl⟩
  · refine step_plain rfl fun vs wq hE hd => ?_
    exact gives_len2 22 39 _ rfl Tryd.underlying22 A n c (show vs 2 = _ from (hd.1)) ⟨Ext.refl _, fun _ _ => rfl⟩
  · refine step_plain rfl fun vs wq hE hd => ?_
    obtain ⟨i0, hi0, hz0, hz1, hz2⟩ := info_parts3 info143
    obtain ⟨w'', hrun, ro, hgr⟩ := run_make_full wq w.heap.size 139 143 i0 _ 3 Tryd.underlying139 hi0 hz0 hz1 .i64 .i64 n (by rw [hz2]; omega) (by unfold maxLen; omega) (by have h1 := (bel_drew1 hE).size; have h2 := B0.out.size; omega)
    refine gives_makeSlice 139 _ _ rfl (.int .i64 n) (.int .i64 n) _ (show vs 3 = _ from (hd.1)) (show vs 3 = _ from (hd.1)) hrun ⟨below_none hgr, fun W2 h2 => ?_⟩
    rcases ro.2 with ⟨e, _⟩ | ⟨g, cap, cur, e, hb, hg, h3, h4, h5, h6⟩
    · simp at e
    · simp only [Value.slice.injEq, Option.some.injEq, Addr.mk.injEq] at e
      obtain ⟨⟨rfl, -⟩, -, rfl⟩ := e
      refine ⟨_, rfl, hb, cur, blk_below hg h2, fun i r hi hr => ?_⟩
      rw [List.take_of_length_le (by simpa using Nat.le_of_eq h5)] at h6
      rw [← Array.getElem?_toList, h6, Array.getElem?_toList]
      exact made_at _ rfl n i r hi hr
  · refine step_plain rfl fun vs wq hE hd => ?_
    obtain ⟨A', c', h1, ro⟩ := (hd.1)
    obtain ⟨g, h4, hg, cur, hcur, hat⟩ := (hd.2.1)
    refine gives_build2 141 _ _ rfl (.slice A' n c') (.slice (some ⟨g, 0, none⟩) n n) (.agg #[.slice A' n c', .slice (some ⟨g, 0, none⟩) n n]) (show vs 1 = _ from h1) (show vs 4 = _ from h4) (w' := wq) (by go_simp) ⟨Ext.refl _, fun W2 h2 => ⟨g, A', c', rfl, ?_, hg, cur, blk_below hcur h2, hat⟩⟩
    exact ro.kept (row := none) ⟨h2.os, h2.tape, h2.output, h2.size, fun k hk _ => h2.block k hk⟩ (by cases h' : (Value.slice A' n c').ownBlock <;> simp)
  · refine step_plain rfl fun vs wq hE hd => ?_
    obtain ⟨g, A', c', h5, ro, hg, cur, hcur, hat⟩ := (hd.1)
    have hbl : Below wq.heap.size wq (wq.alloc (.cells #[.slice A' n c', .slice (some ⟨g, 0, none⟩) n n] 141)) := (Below.refl _ _).alloc (Nat.le_refl _) _
    refine gives_boxOp 141 _ rfl (.agg #[.slice A' n c', .slice (some ⟨g, 0, none⟩) n n]) (.pointer (some ⟨wq.heap.size, 0, none⟩)) (show vs 5 = _ from h5) (w' := wq.alloc (.cells #[.slice A' n c', .slice (some ⟨g, 0, none⟩) n n] 141)) (by go_simp) ⟨hbl, fun W2 h2 => ⟨wq.heap.size, g, A', c', rfl, ?_⟩⟩
    refine TalAt.below ⟨heap_alloc_new wq _, ro.kept (row := none) ⟨hbl.os, hbl.tape, hbl.output, hbl.size, fun k hk _ => hbl.block k hk⟩ (by cases h' : (Value.slice A' n c').ownBlock <;> simp), ⟨cur, blk_below hcur hbl, fun i x hx => ?_⟩, HL.out, by simp, HG.out, by have h1 := (bel_drew1 hE).size; have h2 := B0.out.size; omega, hg, ⟨Nat.le_refl _, by unfold maxLen; omega⟩⟩ h2
    have hi : i < n := by have := (List.getElem?_eq_some_iff.1 hx).1; simpa using this
    rw [List.getElem?_replicate, if_pos hi] at hx
    cases hx
    exact ⟨by have := hat i 0 hi (by omega); simpa using this, by have := hat i 1 hi (by omega); simpa using this, by have := hat i 2 hi (by omega); simpa using this⟩
  · refine step_plain rfl fun vs wq hE hd => ?_
    obtain ⟨p, g, A', c', h6, ht⟩ := (hd.1)
    exact gives_move _ (.pointer (some ⟨p, 0, none⟩)) (.inr rfl) (show vs 6 = _ from h6) ⟨Ext.refl _, fun W2 h2 => ⟨p, g, A', c', rfl, ht.below h2⟩⟩
  · refine step_plain rfl fun vs wq hE hd => ?_
    exact gives_move _ (Value.nilIface) (.inr rfl) rfl ⟨Ext.refl _, fun _ _ => rfl⟩
  · intro vs wz hE hR
    obtain ⟨p, g, A', c', h7, ht⟩ := hR 7 (by omega)
    have h8 : vs 8 = .nilIface := hR 8 (by omega)
    have B1 := Lib.hid (B0.out.trans ((bel_drew1 hE).mono B0.out.size))
    have HTT := Lib.hid ht
    rw [h7, h8]
    clear hR hE h7 h8 ht
    go_wp2_with fail
    go_ret2
    exact ⟨⟨p, g, A', c', rfl, HTT.out⟩, B1.out⟩
end Go.Proofs.YtideopnblhbngaaDoor
