/- Lemmas that laws of this seat rest on, part 17; each says its own conditions: RefTree, RefPath, TreesRootsW. -/
import Derived.Test.YtdedphhohiioiaaDoorBase9
import Derived.Test.YtdedphhohiioiaaDoorBase14
import Derived.Test.YtdedphhohiioiaaDoorBase16
/- The reference's Root and Path: the tree in halves. -/
namespace Go.Proofs.YtdedphhohiioiaaDoor
open Go.RowKit Go.Shelf

theorem slice55_h (b off n c hi : Nat) (h1 : 0 < hi) (h2 : hi ≤ c) (W : World) : (Instr.sliceAt 55 (.slice (some ⟨b, off, none⟩) n c) none (some (.int .i64 (hi : Int))) none).run Tryd.prog W = .ok (.slice (some ⟨b, off, none⟩) hi c) W := by
  rw [run_sliceAt_slice W 55 _ _ _ _ elem55, run_slice_h W 55 _ n c elem55 .i64 hi (by omega) (by omega), sizeOf55]
  simp only [Result.andThen_ok, sliced, Int.toNat_natCast]
  rw [if_neg (by omega)]
  simp [Addr.add]
theorem Dgs.takeN {w : World} {b o n c : Nat} {ds : List (List Int)} (h : Dgs w (.slice (some ⟨b, o, none⟩) n c) ds) (hn : n = ds.length) (m : Nat) (hm : m ≤ n) (h1 : 1 ≤ n) : Dgs w (.slice (some ⟨b, o, none⟩) m c) (ds.take m) := by
  have hne : ds ≠ [] := by intro e; rw [e] at hn; simp at hn; omega
  obtain ⟨b', o', c', e, hc, hm', hb, hr⟩ := h.cells hne
  simp only [Value.slice.injEq, Option.some.injEq, Addr.mk.injEq] at e
  obtain ⟨⟨rfl, rfl, -⟩, -, rfl⟩ := e
  have hl : (ds.take m).length = m := by rw [List.length_take]; omega
  refine ⟨⟨_, c, by rw [hl]⟩, fun _ => ⟨b, o, c, by rw [hl], by rw [hl]; omega, hm', hb, fun i hi => ?_⟩, fun d hd => h.good d (List.mem_of_mem_take hd)⟩
  rw [hl] at hi
  have := hr i (by omega)
  rw [List.getD_eq_getElem?_getD, List.getElem?_take, if_pos hi, ← List.getD_eq_getElem?_getD]
  exact this
theorem Dgs.dropN {w : World} {b o n c : Nat} {ds : List (List Int)} (h : Dgs w (.slice (some ⟨b, o, none⟩) n c) ds) (hn : n = ds.length) (m : Nat) (hm : m < n) : Dgs w (.slice (some ⟨b, o + m * 16, none⟩) (n - m) (c - m)) (ds.drop m) := by
  have hne : ds ≠ [] := by intro e; rw [e] at hn; simp at hn; omega
  obtain ⟨b', o', c', e, hc, hm', hb, hr⟩ := h.cells hne
  simp only [Value.slice.injEq, Option.some.injEq, Addr.mk.injEq] at e
  obtain ⟨⟨rfl, rfl, -⟩, -, rfl⟩ := e
  have hl : (ds.drop m).length = n - m := by rw [List.length_drop, hn]
  refine ⟨⟨_, c - m, by rw [hl]⟩, fun _ => ⟨b, o + m * 16, c - m, by rw [hl], by rw [hl]; omega, by omega, hb, fun i hi => ?_⟩, fun d hd => h.good d (List.mem_of_mem_drop hd)⟩
  rw [hl] at hi
  have := hr (m + i) (by omega)
  rw [show o + (m + i) * 16 = o + m * 16 + i * 16 by omega] at this
  rw [List.getD_eq_getElem?_getD, List.getElem?_drop, ← List.getD_eq_getElem?_getD]
  exact this
theorem rootH_good : ∀ (k : Nat) (ds : List (List Int)), ds.length = 2 ^ k → (∀ d ∈ ds, d.length = 16 ∧ u8s_ok d) → (rootH joinC [] k ds).length = 16 ∧ u8s_ok (rootH joinC [] k ds)
  | 0, ds, h, hg => by
    match ds, h with
    | [d], _ => exact hg d (by simp)
  | k + 1, ds, _, _ => join_good _ _

set_option maxHeartbeats 8000000 in
set_option maxRecDepth 100000 in
theorem refRoot_any : ∀ (k : Nat) (hk : k ≤ 20) (ds : List (List Int)) (A : Option Addr) (n c : Nat) (w : World) (hd : Dgs w (.slice A n c) ds) (hl : n = ds.length ∧ n = 2 ^ k),
    Calls Tryd.prog 58 #[.slice A n c] w fun e w' => e = .returned (.agg (u8s (rootH joinC [] k ds)).toArray) ∧ Below w.heap.size w w' := by
  intro k
  have hi43 : ∀ V : List Int, V.length = 16 → (Tryd.prog.info? 43).map (·.size) = some (u8s V).length := fun V h => by rw [u8s_len', h]; exact Tryd.size43
  induction k with
  | zero =>
    intro _ ds A n c w hd hl
    obtain ⟨hl1, rfl⟩ := hl
    have hne : ds ≠ [] := by intro e; rw [e] at hl1; simp at hl1
    obtain ⟨b, o, c', he, hc, hb, hr⟩ := slice_form hd hne
    simp only [Value.slice.injEq] at he
    obtain ⟨rfl, -, rfl⟩ := he
    have hr0 := hr 0 (by omega)
    have hg0 := hd.at 0 (by omega)
    rw [Nat.zero_mul, Nat.add_zero] at hr0
    obtain ⟨ST, hST⟩ : ∃ s, s = ds.getD 0 [] := ⟨_, rfl⟩
    have hroot : rootH joinC [] 0 ds = ST := by rw [hST]; rfl
    rw [hroot]
    rw [← hST] at hr0 hg0
    have RR := Lib.hid (range_below hr0 ((Below.refl w.heap.size w).alloc (Nat.le_refl _) (.cells (Array.replicate 16 (Value.int .u8 0)) 43)))
    have HH := Lib.hid (has_new w (Array.replicate 16 (Value.int .u8 0)) 43 (u8s ST).length (by rw [u8s_len', hg0.1]; rfl))
    have GL := Lib.hid hg0.1
    clear hr0 hg0 hr hd hST hroot
    go_enter Tryd.func58, Tryd.ntmps58
    go_wp2_with (first | (refine wpList_load_g rfl 43 (.tmp 8) rfl b o rfl (u8s ST) _ RR.out Tryd.underlying43 rfl (hi43 ST GL.out) ?_) | (refine wpList_store_row rfl 43 (.tmp 2) (.tmp 9) rfl w.heap.size rfl (u8s ST) rfl 43 HH.out (hi43 ST GL.out) (one_u8s _) ?_; intro w10 hp10))
    refine bodyPost_ret (v := .agg (u8s ST).toArray) (results_cell_row rfl _ _ w.heap.size 43 _ (0, 0) _ rfl hp10.blk Tryd.underlying43 rfl (by simpa using hi43 ST GL.out)) rfl ⟨rfl, hp10.below ((Below.refl _ _).alloc (Nat.le_refl _) _) (Nat.le_refl _)⟩
  | succ k IH =>
    intro hk20 ds A n c w hd hl
    obtain ⟨hl1, hn2⟩ := hl
    have IH := IH (by omega)
    have hp : 2 ^ (k + 1) = 2 ^ k + 2 ^ k := by rw [Nat.pow_succ]; omega
    have hp1 : 1 ≤ 2 ^ k := Nat.two_pow_pos k
    have hp20 : 2 ^ k ≤ 2 ^ 20 := Nat.pow_le_pow_right (by omega) (by omega)
    obtain ⟨h, hh⟩ : ∃ h, h = 2 ^ k := ⟨_, rfl⟩
    have hroot0 : rootH joinC [] (k + 1) ds = joinC (rootH joinC [] k (ds.take h)) (rootH joinC [] k (ds.drop h)) := by rw [hh]; rfl
    have hnh : n = h + h := by omega
    have hh1 : 1 ≤ h := by omega
    have hh20 : h ≤ 1048576 := by omega
    have hne : ds ≠ [] := by intro e; rw [e] at hl1; simp at hl1; omega
    obtain ⟨b, o, c', he, hc, hb, hr⟩ := slice_form hd hne
    simp only [Value.slice.injEq] at he
    obtain ⟨rfl, -, rfl⟩ := he
    rw [← hl1] at hc
    have ll : h = (ds.take h).length ∧ h = 2 ^ k := ⟨by rw [List.length_take]; omega, hh⟩
    have lh : n - h = (ds.drop h).length ∧ n - h = 2 ^ k := ⟨by rw [List.length_drop]; omega, by omega⟩
    have bel0 : Below w.heap.size w (w.alloc (.cells (Array.replicate 16 (Value.int .u8 0)) 43)) := (Below.refl _ _).alloc (Nat.le_refl _) _
    have DLO := Lib.hid ((hd.takeN hl1 h (by omega) (by omega)).below bel0)
    have DHI := Lib.hid ((hd.dropN hl1 h (by omega)).below bel0)
    obtain ⟨RA, hRA⟩ : ∃ s, s = rootH joinC [] k (ds.take h) := ⟨_, rfl⟩
    obtain ⟨RB, hRB⟩ : ∃ s, s = rootH joinC [] k (ds.drop h) := ⟨_, rfl⟩
    obtain ⟨RC, hRC⟩ : ∃ s, s = joinC RA RB := ⟨_, rfl⟩
    have ga := rootH_good k (ds.take h) (by rw [← ll.1, hh]) (fun d hd' => hd.good d (List.mem_of_mem_take hd'))
    have gb := rootH_good k (ds.drop h) (by rw [← lh.1, lh.2]) (fun d hd' => hd.good d (List.mem_of_mem_drop hd'))
    rw [← hRA] at ga
    rw [← hRB] at gb
    rw [hroot0, ← hRA, ← hRB, ← hRC]
    have gc : RC.length = 16 := by rw [hRC]; exact (join_good _ _).1
    have GA := Lib.hid ga
    have GB := Lib.hid gb
    have GC := Lib.hid gc
    have HRA := Lib.hid hRA
    have HRB := Lib.hid hRB
    have HRC := Lib.hid hRC
    have LL := Lib.hid ll
    have LH := Lib.hid lh
    have H1 : Hid (0 < h) := Lib.hid (by omega)
    have H2 : Hid (h ≤ c) := Lib.hid (by omega)
    have H3 : Hid (h < n) := Lib.hid (by omega)
    have H4 : Hid (n ≤ c) := Lib.hid hc
    have HH := Lib.hid (has_new w (Array.replicate 16 (Value.int .u8 0)) 43 (u8s RC).length (by rw [u8s_len', gc]; rfl))
    have B0 := Lib.hid bel0
    have hn1 : ((n : Int) == 1) = false := by simp only [beq_eq_false_iff_ne, ne_eq]; omega
    have hn20 : n ≤ 2097152 := by omega
    have hq : (n : Int) / 2 = (h : Int) := by omega
    clear ga gb gc hRA hRB hRC ll lh hroot0 hd hr bel0 hl1 hne hc hnh hh hn2 hp hp1 hp20
    go_enter Tryd.func58, Tryd.ntmps58
    go_wp2_with fail
    try change Code.wp _ _ _ _ (w.alloc (.cells (Array.replicate 16 (Value.int .u8 0)) 43))
    generalize hW0 : w.alloc (.cells (Array.replicate 16 (Value.int .u8 0)) 43) = W0 at *
    refine wp_region_rely (by kernel_rfl) 9 (by kernel_rfl) (by kernel_rfl) Ext Ext.refl Ext.trans (fun ix => match ix with
      | 0 => fun _ v => v = .slice (some ⟨b, o, none⟩) n c
      | 1 => fun _ v => v = .int .i64 (h : Int)
      | 2 => fun _ v => v = .slice (some ⟨b, o, none⟩) h c
      | 3 => fun _ v => v = .agg (u8s RA).toArray
      | 4 => fun _ v => v = .slice (some ⟨b, o, none⟩) n c
      | 5 => fun _ v => v = .int .i64 (h : Int)
      | 6 => fun _ v => v = .slice (some ⟨b, o + h * 16, none⟩) (n - h) (c - h)
      | 7 => fun _ v => v = .agg (u8s RB).toArray
      | 8 => fun _ v => v = .agg (u8s RC).toArray
      | _ => fun _ _ => False) ?_
    simp (maxSteps := 10000000) only [Rely, List.take_succ_cons, List.take_zero, List.drop_succ_cons, List.drop_zero, Nat.reduceAdd, Nat.zero_add, Act.put, List.setIfInBounds_toArray, List.set_cons_succ, List.set_cons_zero]
    refine ⟨?_, ?_, ?_, ?_, ?_, ?_, ?_, ?_, ?_, ?_⟩
    · refine step_plain rfl fun vs wq hE hd => ?_
      exact gives_move _ (.slice (some ⟨b, o, none⟩) n c) (.inl rfl) rfl ⟨Ext.refl _, fun _ _ => rfl⟩
    · refine step_plain rfl fun vs wq hE hd => ?_
      exact gives_move _ (.int .i64 (h : Int)) (.inl rfl) rfl ⟨Ext.refl _, fun _ _ => rfl⟩
    · refine step_plain rfl fun vs wq hE hd => ?_
      exact gives_slice 55 _ _ _ _ rfl (.slice (some ⟨b, o, none⟩) n c) (.slice (some ⟨b, o, none⟩) h c) none (some (.int .i64 (h : Int))) none (show vs 0 = _ from (hd.1)) rfl (congrArg some (show vs 1 = _ from (hd.2.1))) rfl (slice55_h b o _ c (h) H1.out H2.out _) ⟨Ext.refl _, fun _ _ => rfl⟩
    · refine step_plain rfl fun vs wq hE hd => ?_
      refine gives_call 58 (enters_of Tryd.func58 (by kernel_rfl) rfl) _ _ rfl rfl [.slice (some ⟨b, o, none⟩) h c] (congrArg (fun x => [x]) (show vs 2 = _ from (hd.1))) ?_
      refine (IH (ds.take (h)) _ _ _ wq (DLO.out.below (ext_of_drew hE)) LL.out).mono ?_
      rintro _ w'' ⟨rfl, hb⟩
      exact ⟨_, rfl, hb, fun _ _ => by rw [HRA.out]; rfl⟩
    · refine step_plain rfl fun vs wq hE hd => ?_
      exact gives_move _ (.slice (some ⟨b, o, none⟩) n c) (.inl rfl) rfl ⟨Ext.refl _, fun _ _ => rfl⟩
    · refine step_plain rfl fun vs wq hE hd => ?_
      exact gives_move _ (.int .i64 (h : Int)) (.inl rfl) rfl ⟨Ext.refl _, fun _ _ => rfl⟩
    · refine step_plain rfl fun vs wq hE hd => ?_
      exact gives_slice 55 _ _ _ _ rfl (.slice (some ⟨b, o, none⟩) n c) (.slice (some ⟨b, o + h * 16, none⟩) (n - h) (c - h)) (some (.int .i64 (h : Int))) none none (show vs 4 = _ from (hd.1)) (congrArg some (show vs 5 = _ from (hd.2.1))) rfl rfl (slice55_l b o _ c (h) H3.out H4.out _) ⟨Ext.refl _, fun _ _ => rfl⟩
    · refine step_plain rfl fun vs wq hE hd => ?_
      refine gives_call 58 (enters_of Tryd.func58 (by kernel_rfl) rfl) _ _ rfl rfl [.slice (some ⟨b, o + h * 16, none⟩) (n - h) (c - h)] (congrArg (fun x => [x]) (show vs 6 = _ from (hd.1))) ?_
      refine (IH (ds.drop (h)) _ _ _ wq (DHI.out.below (ext_of_drew hE)) LH.out).mono ?_
      rintro _ w'' ⟨rfl, hb⟩
      exact ⟨_, rfl, hb, fun _ _ => by rw [HRB.out]; rfl⟩
    · refine step_plain rfl fun vs wq hE hd => ?_
      refine gives_call 80 (enters_of Tryd.func80 (by kernel_rfl) rfl) _ _ rfl rfl [.agg (u8s RA).toArray, .agg (u8s RB).toArray] ?_ ?_
      · show [vs 3, vs 7] = _
        rw [show vs 3 = _ from (hd.1), show vs 7 = _ from (hd.2.1)]
      · refine (refJoin_any RA RB GA.out.1 GA.out.2 GB.out.1 GB.out.2 wq).mono ?_
        rintro _ w'' ⟨rfl, hb⟩
        exact ⟨_, rfl, hb, fun _ _ => by rw [HRC.out]; rfl⟩
    · intro vs wz hE hR
      have h8 : vs 8 = .agg (u8s RC).toArray := hR 8 (by omega)
      rw [h8]
      have L2 : Below W0.heap.size W0 wz := ext_of_drew hE
      have HH2 := Lib.hid (HH.out.below L2)
      have B2 := Lib.hid (B0.out.trans (L2.mono B0.out.size))
      clear hR hE h8 L2
      go_wp2_with (refine wpList_store_row rfl 43 (.tmp 2) (.tmp 21) rfl w.heap.size rfl (u8s RC) rfl 43 HH2.out (hi43 RC GC.out) (one_u8s _) ?_; intro w10 hp10)
      refine bodyPost_ret (v := .agg (u8s RC).toArray) (results_cell_row rfl _ _ w.heap.size 43 _ (0, 0) _ rfl hp10.blk Tryd.underlying43 rfl (by simpa using hi43 RC GC.out)) rfl ⟨rfl, hp10.below B2.out (Nat.le_refl _)⟩
end Go.Proofs.YtdedphhohiioiaaDoor
/- The reference's Path: a way up by halves. -/
namespace Go.Proofs.YtdedphhohiioiaaDoor
open Go.RowKit Go.Shelf

theorem way_lo (k h : Nat) (hh : h = 2 ^ k) (ds : List (List Int)) (i : Nat) (hi : i < h) : wayH joinC [] (k + 1) ds i = wayH joinC [] k (ds.take h) i ++ [rootH joinC [] k (ds.drop h)] := by
  show (if i < 2 ^ k then _ else _) = _
  rw [if_pos (by omega), hh]
theorem way_hi (k h : Nat) (hh : h = 2 ^ k) (ds : List (List Int)) (i : Nat) (hi : ¬ i < h) : wayH joinC [] (k + 1) ds i = wayH joinC [] k (ds.drop h) (i - h) ++ [rootH joinC [] k (ds.take h)] := by
  show (if i < 2 ^ k then _ else _) = _
  rw [if_neg (by omega), hh]

set_option maxHeartbeats 8000000 in
set_option maxRecDepth 100000 in
theorem refPath_any : ∀ (k : Nat) (hk : k ≤ 20) (ds : List (List Int)) (A : Option Addr) (n c i : Nat) (w : World) (hd : Dgs w (.slice A n c) ds) (hl : n = ds.length ∧ n = 2 ^ k) (hi : i < 2 ^ k),
    Calls Tryd.prog 59 #[.slice A n c, .int .i64 (i : Int)] w fun e w' => ∃ v, e = .returned v ∧ w'.ownsRow w.heap.size 43 16 v k (dcells (wayH joinC [] k ds i)) ∧ Below w.heap.size w w' := by
  intro k
  have hi43 : ∀ V : List Int, V.length = 16 → (Tryd.prog.info? 43).map (·.size) = some (u8s V).length := fun V h => by rw [u8s_len', h]; exact Tryd.size43
  induction k with
  | zero =>
    intro _ ds A n c i w hd hl hi
    obtain ⟨hl1, rfl⟩ := hl
    clear hd hl1
    go_enter Tryd.func59, Tryd.ntmps59
    go_wp2_with fail
    go_ret
    exact ⟨_, rfl, World.ownsRow_made w #[] 0 (Nat.le_refl _) (by simp) rfl, (Below.refl _ _).alloc (Nat.le_refl _) _⟩
  | succ k IH =>
    intro hk20 ds A n c i w hd hl hi
    obtain ⟨hl1, hn2⟩ := hl
    have IH := IH (by omega)
    have hp : 2 ^ (k + 1) = 2 ^ k + 2 ^ k := by rw [Nat.pow_succ]; omega
    have hp1 : 1 ≤ 2 ^ k := Nat.two_pow_pos k
    have hp20 : 2 ^ k ≤ 2 ^ 20 := Nat.pow_le_pow_right (by omega) (by omega)
    obtain ⟨h, hh⟩ : ∃ h, h = 2 ^ k := ⟨_, rfl⟩
    have hnh : n = h + h := by omega
    have hh1 : 1 ≤ h := by omega
    have hh20 : h ≤ 1048576 := by omega
    have hne : ds ≠ [] := by intro e; rw [e] at hl1; simp at hl1; omega
    obtain ⟨b, o, c', he, hc, hb, hr⟩ := slice_form hd hne
    simp only [Value.slice.injEq] at he
    obtain ⟨rfl, -, rfl⟩ := he
    rw [← hl1] at hc
    have ll : h = (ds.take h).length ∧ h = 2 ^ k := ⟨by rw [List.length_take]; omega, hh⟩
    have lh : n - h = (ds.drop h).length ∧ n - h = 2 ^ k := ⟨by rw [List.length_drop]; omega, by omega⟩
    have DLO := Lib.hid (hd.takeN hl1 h (by omega) (by omega))
    have DHI := Lib.hid (hd.dropN hl1 h (by omega))
    obtain ⟨RA, hRA⟩ : ∃ s, s = rootH joinC [] k (ds.take h) := ⟨_, rfl⟩
    obtain ⟨RB, hRB⟩ : ∃ s, s = rootH joinC [] k (ds.drop h) := ⟨_, rfl⟩
    have ga := rootH_good k (ds.take h) (by rw [← ll.1, hh]) (fun d hd' => hd.good d (List.mem_of_mem_take hd'))
    have gb := rootH_good k (ds.drop h) (by rw [← lh.1, lh.2]) (fun d hd' => hd.good d (List.mem_of_mem_drop hd'))
    rw [← hRA] at ga
    rw [← hRB] at gb
    have GRA := Lib.hid ga.1
    have GRB := Lib.hid gb.1
    have HRA := Lib.hid hRA
    have HRB := Lib.hid hRB
    have LL := Lib.hid ll
    have LH := Lib.hid lh
    have H1 : Hid (0 < h) := Lib.hid (by omega)
    have H2 : Hid (h ≤ c) := Lib.hid (by omega)
    have H3 : Hid (h < n) := Lib.hid (by omega)
    have H4 : Hid (n ≤ c) := Lib.hid hc
    have hn1 : ((n : Int) == 1) = false := by simp only [beq_eq_false_iff_ne, ne_eq]; omega
    have hn20 : n ≤ 2097152 := by omega
    have hq : (n : Int) / 2 = (h : Int) := by omega
    have HKH := Lib.hid hh
    have hk20' : k ≤ 20 := by omega
    have hin : i < n := by omega
    have HIN : Hid (i < h + h) := Lib.hid (by omega)
    clear ga gb hRA hRB ll lh hd hr hl1 hne hc hnh hh hn2 hp hp1 hp20 hi
    by_cases hlt : i < h
    · have hlti : (i : Int) < (h : Int) := by omega
      have HIX : Hid (i < 2 ^ k) := Lib.hid (by rw [← HKH.out]; exact hlt)
      have hway := way_lo k h HKH.out ds i hlt
      obtain ⟨WH, hWH⟩ : ∃ d, d = wayH joinC [] k (ds.take h) i := ⟨_, rfl⟩
      rw [← hWH, ← HRB.out] at hway
      have HWH := Lib.hid hWH
      have HWY := Lib.hid hway
      clear hWH hway
      go_enter Tryd.func59, Tryd.ntmps59
      go_wp2_with fail
      refine wp_region_rely3 (by kernel_rfl) 10 (by kernel_rfl) (by kernel_rfl) Ext Ext.refl Ext.trans (fun ix => match ix with
        | 0 => fun _ v => v = .slice (some ⟨b, o, none⟩) n c
        | 1 => fun _ v => v = .int .i64 (h : Int)
        | 2 => fun _ v => v = .slice (some ⟨b, o, none⟩) h c
        | 3 => fun _ v => v = .int .i64 (i : Int)
        | 4 => fun W v => W.ownsRow w.heap.size 43 16 v k (dcells WH)
        | 5 => fun _ v => v = .slice (some ⟨b, o, none⟩) n c
        | 6 => fun _ v => v = .int .i64 (h : Int)
        | 7 => fun _ v => v = .slice (some ⟨b, o + h * 16, none⟩) (n - h) (c - h)
        | 8 => fun _ v => v = .agg (u8s RB).toArray
        | 9 => fun W v => ∃ g8, v = .slice (some ⟨g8, 0, none⟩) 1 1 ∧ W.rangeAt g8 0 (u8s RB)
        | _ => fun _ _ => False) ?_
      simp (maxSteps := 10000000) only [Rely, List.take_succ_cons, List.take_zero, List.drop_succ_cons, List.drop_zero, Nat.reduceAdd, Nat.zero_add, Act.put, List.setIfInBounds_toArray, List.set_cons_succ, List.set_cons_zero]
      refine ⟨?_, ?_, ?_, ?_, ?_, ?_, ?_, ?_, ?_, ?_, ?_⟩
      · refine step_plain rfl fun vs wq hE hd => ?_
        exact gives_move _ (.slice (some ⟨b, o, none⟩) n c) (.inl rfl) rfl ⟨Ext.refl _, fun _ _ => rfl⟩
      · refine step_plain rfl fun vs wq hE hd => ?_
        exact gives_move _ (.int .i64 (h : Int)) (.inl rfl) rfl ⟨Ext.refl _, fun _ _ => rfl⟩
      · refine step_plain rfl fun vs wq hE hd => ?_
        exact gives_slice 55 _ _ _ _ rfl (.slice (some ⟨b, o, none⟩) n c) (.slice (some ⟨b, o, none⟩) h c) none (some (.int .i64 (h : Int))) none (show vs 0 = _ from (hd.1)) rfl (congrArg some (show vs 1 = _ from (hd.2.1))) rfl (slice55_h b o _ c h H1.out H2.out _) ⟨Ext.refl _, fun _ _ => rfl⟩
      · refine step_plain rfl fun vs wq hE hd => ?_
        exact gives_move _ (.int .i64 (i : Int)) (.inl rfl) rfl ⟨Ext.refl _, fun _ _ => rfl⟩
      · refine step_plain rfl fun vs wq hE hd => ?_
        refine gives_call 59 (enters_of Tryd.func59 (by kernel_rfl) rfl) _ _ rfl rfl [.slice (some ⟨b, o, none⟩) h c, .int .i64 (i : Int)] ?_ ?_
        · show [vs 2, vs 3] = _
          rw [show vs 2 = _ from (hd.1), show vs 3 = _ from (hd.2.1)]
        · refine (IH (ds.take h) _ _ _ (i) wq (DLO.out.below (ext_of_drew hE)) LL.out HIX.out).mono ?_
          rintro _ w'' ⟨v, rfl, ro, hb⟩
          rw [← HWH.out] at ro
          exact ⟨_, rfl, hb, fun W2 h2 => own_bel (ownsRow_mono ro (ext_of_drew hE).size) h2⟩
      · refine step_plain rfl fun vs wq hE hd => ?_
        exact gives_move _ (.slice (some ⟨b, o, none⟩) n c) (.inl rfl) rfl ⟨Ext.refl _, fun _ _ => rfl⟩
      · refine step_plain rfl fun vs wq hE hd => ?_
        exact gives_move _ (.int .i64 (h : Int)) (.inl rfl) rfl ⟨Ext.refl _, fun _ _ => rfl⟩
      · refine step_plain rfl fun vs wq hE hd => ?_
        exact gives_slice 55 _ _ _ _ rfl (.slice (some ⟨b, o, none⟩) n c) (.slice (some ⟨b, o + h * 16, none⟩) (n - h) (c - h)) (some (.int .i64 (h : Int))) none none (show vs 5 = _ from (hd.1)) (congrArg some (show vs 6 = _ from (hd.2.1))) rfl rfl (slice55_l b o _ c h H3.out H4.out _) ⟨Ext.refl _, fun _ _ => rfl⟩
      · refine step_plain rfl fun vs wq hE hd => ?_
        refine gives_call 58 (enters_of Tryd.func58 (by kernel_rfl) rfl) _ _ rfl rfl [.slice (some ⟨b, o + h * 16, none⟩) (n - h) (c - h)] (congrArg (fun x => [x]) (show vs 7 = _ from (hd.1))) ?_
        refine (refRoot_any k (by omega) (ds.drop h) _ _ _ wq (DHI.out.below (ext_of_drew hE)) LH.out).mono ?_
        rintro _ w'' ⟨rfl, hb⟩
        exact ⟨_, rfl, hb, fun _ _ => by rw [HRB.out]; rfl⟩
      · refine step_plain rfl fun vs wq hE hd => ?_
        refine gives_build 55 1 _ rfl #[(0, .agg (u8s RB).toArray)] ?_ _ (build55 RB GRB.out wq) ⟨(Below.refl _ _).alloc (Nat.le_refl _) _, fun W2 h2 => ⟨wq.heap.size, rfl, range_below (range_new wq (u8s RB) 43) h2⟩⟩
        simp only [List.map_toArray, List.map_cons, List.map_nil]
        show #[(0, vs 8)] = _
        rw [show vs 8 = _ from (hd.1)]
      · intro vs wz hE hR
        have O4 : wz.ownsRow w.heap.size 43 16 (vs 4) k (dcells WH) := hR 4 (by omega)
        obtain ⟨g8, h8, r8⟩ : ∃ g8, vs 9 = .slice (some ⟨g8, 0, none⟩) 1 1 ∧ wz.rangeAt g8 0 (u8s RB) := hR 9 (by omega)
        obtain ⟨Ao, co, ho⟩ := own_form O4
        rw [ho] at O4
        rw [ho, h8]
        have BZ := Lib.hid (show Below w.heap.size w wz from ext_of_drew hE)
        have OZ := Lib.hid O4
        have RZ := Lib.hid r8
        clear hR hE O4 h8 r8 ho
        go_wp2_with (at_builtin; refine appN (w0 := wz) w.heap.size rfl (.tmp 20) (.tmp 25) 55 43 (.agg (Array.replicate 16 (.int .u8 0))) 16 16 rfl Tryd.underlying55 Tryd.info43 rfl (by omega) (by omega) _ k _ rfl ⟨g8, 0, none⟩ 1 1 (u8s RB) rfl (by rw [u8s_len', GRB.out]) (add_cell RZ.out) (one_u8s _) OZ.out (Below.refl _ _) BZ.out.size (by omega) ?_; intro v9 w9 ap9; have AP9 := Lib.hid ap9; clear ap9)
        go_ret
        refine ⟨_, rfl, ?_, BZ.out.trans AP9.out.below⟩
        rw [HWY.out, dcells_append, show dcells [RB] = u8s RB by simp [dcells]]
        exact AP9.out.own
    · have hge : (h : Int) ≤ (i : Int) := by omega
      have hnlt : ¬ (i : Int) < (h : Int) := by omega
      have HIX : Hid (i - h < 2 ^ k) := Lib.hid (by rw [← HKH.out]; have := HIN.out; omega)
      have HSUB : Hid ((i : Int) - (h : Int) = ((i - h : Nat) : Int)) := Lib.hid (by omega)
      have HSB : Hid ((i : Int) ≤ 2097152) := Lib.hid (by omega)
      have hway := way_hi k h HKH.out ds i hlt
      obtain ⟨WH, hWH⟩ : ∃ d, d = wayH joinC [] k (ds.drop h) (i - h) := ⟨_, rfl⟩
      rw [← hWH, ← HRA.out] at hway
      have HWH := Lib.hid hWH
      have HWY := Lib.hid hway
      clear hWH hway
      go_enter Tryd.func59, Tryd.ntmps59
      go_wp2_with fail
      refine wp_region_rely3 (by kernel_rfl) 12 (by kernel_rfl) (by kernel_rfl) Ext Ext.refl Ext.trans (fun ix => match ix with
        | 0 => fun _ v => v = .slice (some ⟨b, o, none⟩) n c
        | 1 => fun _ v => v = .int .i64 (h : Int)
        | 2 => fun _ v => v = .slice (some ⟨b, o + h * 16, none⟩) (n - h) (c - h)
        | 3 => fun _ v => v = .int .i64 (i : Int)
        | 4 => fun _ v => v = .int .i64 (h : Int)
        | 5 => fun _ v => v = .int .i64 ((i - h : Nat) : Int)
        | 6 => fun W v => W.ownsRow w.heap.size 43 16 v k (dcells WH)
        | 7 => fun _ v => v = .slice (some ⟨b, o, none⟩) n c
        | 8 => fun _ v => v = .int .i64 (h : Int)
        | 9 => fun _ v => v = .slice (some ⟨b, o, none⟩) h c
        | 10 => fun _ v => v = .agg (u8s RA).toArray
        | 11 => fun W v => ∃ g8, v = .slice (some ⟨g8, 0, none⟩) 1 1 ∧ W.rangeAt g8 0 (u8s RA)
        | _ => fun _ _ => False) ?_
      simp (maxSteps := 10000000) only [Rely, List.take_succ_cons, List.take_zero, List.drop_succ_cons, List.drop_zero, Nat.reduceAdd, Nat.zero_add, Act.put, List.setIfInBounds_toArray, List.set_cons_succ, List.set_cons_zero]
      refine ⟨?_, ?_, ?_, ?_, ?_, ?_, ?_, ?_, ?_, ?_, ?_, ?_, ?_⟩
      · refine step_plain rfl fun vs wq hE hd => ?_
        exact gives_move _ (.slice (some ⟨b, o, none⟩) n c) (.inl rfl) rfl ⟨Ext.refl _, fun _ _ => rfl⟩
      · refine step_plain rfl fun vs wq hE hd => ?_
        exact gives_move _ (.int .i64 (h : Int)) (.inl rfl) rfl ⟨Ext.refl _, fun _ _ => rfl⟩
      · refine step_plain rfl fun vs wq hE hd => ?_
        exact gives_slice 55 _ _ _ _ rfl (.slice (some ⟨b, o, none⟩) n c) (.slice (some ⟨b, o + h * 16, none⟩) (n - h) (c - h)) (some (.int .i64 (h : Int))) none none (show vs 0 = _ from (hd.1)) (congrArg some (show vs 1 = _ from (hd.2.1))) rfl rfl (slice55_l b o _ c h H3.out H4.out _) ⟨Ext.refl _, fun _ _ => rfl⟩
      · refine step_plain rfl fun vs wq hE hd => ?_
        exact gives_move _ (.int .i64 (i : Int)) (.inl rfl) rfl ⟨Ext.refl _, fun _ _ => rfl⟩
      · refine step_plain rfl fun vs wq hE hd => ?_
        exact gives_move _ (.int .i64 (h : Int)) (.inl rfl) rfl ⟨Ext.refl _, fun _ _ => rfl⟩
      · refine step_plain rfl fun vs wq hE hd => ?_
        have hs := HSUB.out
        exact gives_binOp .sub 3 _ _ _ rfl (.int .i64 (i : Int)) (.int .i64 (h : Int)) (.int .i64 ((i - h : Nat) : Int)) (show vs 3 = _ from (hd.1)) (show vs 4 = _ from (hd.2.1)) (by go_simp) (by have hw : IntKind.i64.wrap ((i - h : Nat) : Int) = ((i - h : Nat) : Int) := (by have hb := HSB.out; rw [IntKind.wrap_i64]; omega); go_simp) ⟨Ext.refl _, fun _ _ => rfl⟩
      · refine step_plain rfl fun vs wq hE hd => ?_
        refine gives_call 59 (enters_of Tryd.func59 (by kernel_rfl) rfl) _ _ rfl rfl [.slice (some ⟨b, o + h * 16, none⟩) (n - h) (c - h), .int .i64 ((i - h : Nat) : Int)] ?_ ?_
        · show [vs 2, vs 5] = _
          rw [show vs 2 = _ from (hd.1), show vs 5 = _ from (hd.2.1)]
        · refine (IH (ds.drop h) _ _ _ ((i - h : Nat)) wq (DHI.out.below (ext_of_drew hE)) LH.out HIX.out).mono ?_
          rintro _ w'' ⟨v, rfl, ro, hb⟩
          rw [← HWH.out] at ro
          exact ⟨_, rfl, hb, fun W2 h2 => own_bel (ownsRow_mono ro (ext_of_drew hE).size) h2⟩
      · refine step_plain rfl fun vs wq hE hd => ?_
        exact gives_move _ (.slice (some ⟨b, o, none⟩) n c) (.inl rfl) rfl ⟨Ext.refl _, fun _ _ => rfl⟩
      · refine step_plain rfl fun vs wq hE hd => ?_
        exact gives_move _ (.int .i64 (h : Int)) (.inl rfl) rfl ⟨Ext.refl _, fun _ _ => rfl⟩
      · refine step_plain rfl fun vs wq hE hd => ?_
        exact gives_slice 55 _ _ _ _ rfl (.slice (some ⟨b, o, none⟩) n c) (.slice (some ⟨b, o, none⟩) h c) none (some (.int .i64 (h : Int))) none (show vs 7 = _ from (hd.1)) rfl (congrArg some (show vs 8 = _ from (hd.2.1))) rfl (slice55_h b o _ c h H1.out H2.out _) ⟨Ext.refl _, fun _ _ => rfl⟩
      · refine step_plain rfl fun vs wq hE hd => ?_
        refine gives_call 58 (enters_of Tryd.func58 (by kernel_rfl) rfl) _ _ rfl rfl [.slice (some ⟨b, o, none⟩) h c] (congrArg (fun x => [x]) (show vs 9 = _ from (hd.1))) ?_
        refine (refRoot_any k (by omega) (ds.take h) _ _ _ wq (DLO.out.below (ext_of_drew hE)) LL.out).mono ?_
        rintro _ w'' ⟨rfl, hb⟩
        exact ⟨_, rfl, hb, fun _ _ => by rw [HRA.out]; rfl⟩
      · refine step_plain rfl fun vs wq hE hd => ?_
        refine gives_build 55 1 _ rfl #[(0, .agg (u8s RA).toArray)] ?_ _ (build55 RA GRA.out wq) ⟨(Below.refl _ _).alloc (Nat.le_refl _) _, fun W2 h2 => ⟨wq.heap.size, rfl, range_below (range_new wq (u8s RA) 43) h2⟩⟩
        simp only [List.map_toArray, List.map_cons, List.map_nil]
        show #[(0, vs 10)] = _
        rw [show vs 10 = _ from (hd.1)]
      · intro vs wz hE hR
        have O4 : wz.ownsRow w.heap.size 43 16 (vs 6) k (dcells WH) := hR 6 (by omega)
        obtain ⟨g8, h8, r8⟩ : ∃ g8, vs 11 = .slice (some ⟨g8, 0, none⟩) 1 1 ∧ wz.rangeAt g8 0 (u8s RA) := hR 11 (by omega)
        obtain ⟨Ao, co, ho⟩ := own_form O4
        rw [ho] at O4
        rw [ho, h8]
        have BZ := Lib.hid (show Below w.heap.size w wz from ext_of_drew hE)
        have OZ := Lib.hid O4
        have RZ := Lib.hid r8
        clear hR hE O4 h8 r8 ho
        go_wp2_with (at_builtin; refine appN (w0 := wz) w.heap.size rfl (.tmp 33) (.tmp 38) 55 43 (.agg (Array.replicate 16 (.int .u8 0))) 16 16 rfl Tryd.underlying55 Tryd.info43 rfl (by omega) (by omega) _ k _ rfl ⟨g8, 0, none⟩ 1 1 (u8s RA) rfl (by rw [u8s_len', GRA.out]) (add_cell RZ.out) (one_u8s _) OZ.out (Below.refl _ _) BZ.out.size (by omega) ?_; intro v9 w9 ap9; have AP9 := Lib.hid ap9; clear ap9)
        go_ret
        refine ⟨_, rfl, ?_, BZ.out.trans AP9.out.below⟩
        rw [HWY.out, dcells_append, show dcells [RA] = u8s RA by simp [dcells]]
        exact AP9.out.own
end Go.Proofs.YtdedphhohiioiaaDoor
/- TreesRoots: what the law does. -/
namespace Go.Proofs.YtdedphhohiioiaaDoor
open Go.RowKit Go.Shelf

set_option maxHeartbeats 8000000 in
set_option maxRecDepth 100000 in
theorem treesRoots_any (ds : List (List Int)) (A : Option Addr) (k c : Nat) (i : Int) (al : List Addr) (w : World) (hd : Dgs w (.slice A k c) ds) (hkl : k = ds.length) (hS : SenN w al) (hk : w.rangeAt 18 0 (u32s kk)) (h18 : 18 < w.heap.size) :
    Calls Tryd.prog 19 #[.slice A k c, .int .i64 i] w fun e w' => e = .returned (.bool true) ∧ Below w.heap.size w w' := by
  have hi43 : ∀ V : List Int, V.length = 16 → (Tryd.prog.info? 43).map (·.size) = some (u8s V).length := fun V h => by rw [u8s_len', h]; exact Tryd.size43
  have HD := Lib.hid hd
  have HKL := Lib.hid hkl
  have HS := Lib.hid hS
  have HK := Lib.hid hk
  clear hd hkl hk hS
  go_enter Tryd.func19, Tryd.ntmps19
  go_wp2_with fail
  refine (alive_trees w HK.out h18).mono ?_
  rintro e w1 ⟨rfl, hb1⟩
  have B1 := Lib.hid hb1
  have S1 := Lib.hid (HS.out.below hb1)
  clear hb1
  by_cases h100 : 100 < k
  · have hki : (100 : Int) < k := by omega
    go_wp2_with fail
    go_ret
    exact ⟨rfl, B1.out⟩
  have hki : ¬ (100 : Int) < k := by omega
  by_cases hk32 : k = 32
  case neg =>
    have hkne : ((k : Int) != 32) = true := by simp; omega
    obtain ⟨aF, haF⟩ := sen_at S1.out 3 (by omega)
    have hcF := S1.out.cell 3 0 aF rfl haF
    go_wp2_with fail
    refine (root_form A k c aF w1 hk32 hcF).mono ?_
    rintro e w2 ⟨rfl, hb2⟩
    have HAF := Lib.hid haF
    have HHN := Lib.hid (has_new w2 (Array.replicate 16 (Value.int .u8 0)) 43 (u8s zero16).length (by rw [u8s_len', zero16_len]; rfl))
    have B2 := Lib.hid (B1.out.trans (hb2.mono B1.out.size))
    have S2 := Lib.hid (S1.out.below hb2)
    clear hb2 haF hcF
    go_wp2_with (refine wpList_store_row rfl 43 (.tmp 5) (.tmp 19) rfl w2.heap.size rfl (u8s zero16) rfl 43 HHN.out (hi43 zero16 zero16_len) (one_u8s _) ?_; intro w3 hp3; have L3 : Below w2.heap.size w2 w3 := (hp3.below ((Below.refl _ _).alloc (Nat.le_refl _) _) (Nat.le_refl _)); have RS := Lib.hid (blk_range hp3.blk); have B3 := Lib.hid (B2.out.trans (L3.mono B2.out.size)); have S3 := Lib.hid (S2.out.below L3); clear hp3 L3)
    refine (path_form A k c i aF w3 hk32 (S3.out.cell 3 0 aF rfl HAF.out)).mono ?_
    rintro e w4 ⟨rfl, hb4⟩
    have B4 := Lib.hid (B3.out.trans (hb4.mono B3.out.size))
    have S4 := Lib.hid (S3.out.below hb4)
    have RS4 := Lib.hid (range_below RS.out hb4)
    clear hb4
    go_wp2_with (first | (refine wpList_load_g rfl 43 (.tmp 5) rfl w2.heap.size 0 rfl (u8s zero16) _ RS4.out Tryd.underlying43 rfl (hi43 _ zero16_len) ?_) | (refine wpList_eql43 rfl _ _ _ rfl zero16 zero16 rfl rfl zero16_len zero16_len (by go_simp) ?_; rw [decide_eq_true rfl]))
    refine (num_k S4.out 3 aF HAF.out 4 rfl).mono ?_
    rintro e w5 ⟨rfl, hb5⟩
    have B5 := Lib.hid (B4.out.trans (hb5.mono B4.out.size))
    have S5 := Lib.hid (S4.out.below hb5)
    clear hb5
    go_wp2_with fail
    refine (num_k S5.out 3 aF HAF.out 4 rfl).mono ?_
    rintro e w6 ⟨rfl, hb6⟩
    have B6 := Lib.hid (B5.out.trans (hb6.mono B5.out.size))
    clear hb6
    go_wp2_with fail
    go_ret
    exact ⟨rfl, B6.out⟩
  subst hk32
  have hds : ds.length = 32 := HKL.out.symm
  have hne : ds ≠ [] := by intro e; rw [e] at hds; simp at hds
  obtain ⟨b0, o0, c', he, hc0, hbb, hrow0⟩ := slice_form HD.out hne
  simp only [Value.slice.injEq] at he
  obtain ⟨rfl, -, rfl⟩ := he
  rw [hds] at hrow0
  have HDS := Lib.hid hds
  have HG := Lib.hid HD.out.good
  have HROW := Lib.hid hrow0
  clear hne hc0 hrow0
  go_wp2_with fail
  refine (root_ok ds (some ⟨b0, o0, none⟩) 32 c w1 (HD.out.below B1.out) HDS.out.symm rfl (range_below HK.out B1.out) (Nat.lt_of_lt_of_le h18 B1.out.size)).mono ?_
  rintro e w2 ⟨rfl, hb2⟩
  obtain ⟨RO, hRO⟩ : ∃ s, s = rootT ds := ⟨_, rfl⟩
  have hgr := rootT_good ds HDS.out HG.out
  rw [← hRO] at hgr ⊢
  have HRO := Lib.hid hRO
  have GLRO := Lib.hid hgr.1
  have HHN := Lib.hid (has_new w2 (Array.replicate 16 (Value.int .u8 0)) 43 (u8s RO).length (by rw [u8s_len', hgr.1]; rfl))
  have B2 := Lib.hid (B1.out.trans (hb2.mono B1.out.size))
  have S2 := Lib.hid (S1.out.below hb2)
  clear hb2 hRO hgr
  go_wp2_with (refine wpList_store_row rfl 43 (.tmp 5) (.tmp 19) rfl w2.heap.size rfl (u8s RO) rfl 43 HHN.out (hi43 RO GLRO.out) (one_u8s _) ?_; intro w3 hp3; have L3 : Below w2.heap.size w2 w3 := (hp3.below ((Below.refl _ _).alloc (Nat.le_refl _) _) (Nat.le_refl _)); have R3 := Lib.hid (blk_range hp3.blk); have B3 := Lib.hid (B2.out.trans (L3.mono B2.out.size)); have S3 := Lib.hid (S2.out.below L3); clear hp3 L3)
  by_cases hr : 0 ≤ i ∧ i < 32
  · obtain ⟨h0, h1⟩ := hr
    obtain ⟨n, rfl⟩ : ∃ n : Nat, i = n := ⟨i.toNat, by omega⟩
    have hn32 : n < 32 := by omega
    have hn0 : ¬ (n : Int) < 0 := by omega
    have hn1 : ¬ (31 : Int) < (n : Int) := by omega
    refine (path_ok ds (some ⟨b0, o0, none⟩) 32 c n hn32 w3 (HD.out.below B3.out) HDS.out.symm rfl (range_below HK.out B3.out) (Nat.lt_of_lt_of_le h18 B3.out.size)).mono ?_
    rintro e w4 ⟨v4, rfl, ro4, hb4⟩
    obtain ⟨bp, cp, _, rfl, _, _⟩ := own_blk2 (by omega) ro4
    have DP4 := Lib.hid (way_dgs hn32 HDS.out HG.out ro4)
    have B9 := Lib.hid (B3.out.trans (hb4.mono B3.out.size))
    have R9 := Lib.hid (range_below R3.out hb4)
    have D9 := Lib.hid (HD.out.below B9.out)
    clear ro4 hb4
    go_wp2_with fail
    refine wp_region_rely (by kernel_rfl) 8 (by kernel_rfl) (by kernel_rfl) Ext Ext.refl Ext.trans (fun ix => match ix with
      | 0 => fun _ v => v = .nilIface
      | 1 => fun _ v => v = .bool false
      | 2 => fun _ v => v = .bool false
      | 3 => fun _ v => v = .agg (u8s RO).toArray
      | 4 => fun _ v => v = .slice (some ⟨b0, o0, none⟩) 32 c
      | 5 => fun _ v => v = .agg (u8s RO).toArray
      | 6 => fun _ v => v = .bool false
      | 7 => fun _ v => v = .bool false
      | _ => fun _ _ => False) ?_
    simp (maxSteps := 10000000) only [Rely, List.take_succ_cons, List.take_zero, List.drop_succ_cons, List.drop_zero, Nat.reduceAdd, Nat.zero_add, Act.put, List.setIfInBounds_toArray, List.set_cons_succ, List.set_cons_zero]
    refine ⟨?_, ?_, ?_, ?_, ?_, ?_, ?_, ?_, ?_⟩
    · refine step_plain rfl fun vs wq hE hd => ?_
      exact gives_move _ (.nilIface) (.inl rfl) rfl ⟨Ext.refl _, fun _ _ => rfl⟩
    · refine step_plain rfl fun vs wq hE hd => ?_
      exact gives_binOp .neq 57 _ _ _ rfl (.nilIface) (Value.nilIface) (.bool false) (show vs 0 = _ from hd.1) rfl (by go_simp) (by go_simp) ⟨Ext.refl _, fun _ _ => rfl⟩
    · refine step_plain rfl fun vs wq hE hd => ?_
      exact gives_move _ (.bool false) (.inl rfl) (show vs 1 = _ from hd.1) ⟨Ext.refl _, fun _ _ => rfl⟩
    · refine step_guard 2 false 50 rfl rfl (fun _ => rfl) fun vs wq hE hd => ⟨hd.1, ?_⟩
      exact gives_load_row 43 _ rfl w2.heap.size 0 rfl (u8s RO) _ (range_below R9.out (ext_of_drew hE)) Tryd.underlying43 rfl (hi43 RO GLRO.out) ⟨Ext.refl _, fun _ _ => rfl⟩
    · refine step_guard 2 false 50 rfl rfl (fun _ => rfl) fun vs wq hE hd => ⟨hd.1, ?_⟩
      exact gives_move _ (.slice (some ⟨b0, o0, none⟩) 32 c) (.inl rfl) rfl ⟨Ext.refl _, fun _ _ => rfl⟩
    · refine step_guard 2 false 50 rfl rfl (fun _ => rfl) fun vs wq hE hd => ⟨hd.2.1, ?_⟩
      refine gives_call 58 (enters_of Tryd.func58 (by kernel_rfl) rfl) _ _ rfl rfl [.slice (some ⟨b0, o0, none⟩) 32 c] (congrArg (fun x => [x]) (show vs 4 = _ from (hd.1))) ?_
      refine (refRoot_any 5 (by omega) ds _ _ _ wq (D9.out.below (ext_of_drew hE)) ⟨HDS.out.symm, rfl⟩).mono ?_
      rintro _ w'' ⟨rfl, hb⟩
      exact ⟨_, rfl, hb, fun _ _ => by rw [HRO.out]; rfl⟩
    · refine step_guard 2 false 50 rfl rfl (fun _ => rfl) fun vs wq hE hd => ⟨hd.2.2.1, ?_⟩
      have hsame := run_same16 RO GLRO.out
      exact gives_binOp .neq 43 _ _ _ rfl (.agg (u8s RO).toArray) (.agg (u8s RO).toArray) (.bool false) (show vs 3 = _ from (hd.1)) (show vs 5 = _ from (hd.2.1)) (by go_simp) (by go_simp) ⟨Ext.refl _, fun _ _ => rfl⟩
    · refine step_plain rfl fun vs wq hE hd => ?_
      exact gives_pick _ _ _ (.bool false) false rfl (show vs 2 = _ from hd.1) (show vs 6 = _ from hd.2.1) ⟨Ext.refl _, fun _ _ => rfl⟩
    · intro vs wz hE hR
      have h7 : vs 7 = .bool false := hR 7 (by omega)
      have L5 : Below w4.heap.size w4 wz := ext_of_drew hE
      have B5 := Lib.hid (B9.out.trans (L5.mono B9.out.size))
      have R5 := Lib.hid (range_below R9.out L5)
      have DP5 := Lib.hid (DP4.out.below L5)
      rw [h7]
      clear hR hE h7 L5
      have hrx := range_below (HROW.out n hn32) B5.out
      have hgx := HD.out.at n (by rw [HDS.out]; exact hn32)
      have hcw := climb_way ds HDS.out n hn32
      obtain ⟨X, hX⟩ : ∃ d, d = ds.getD n [] := ⟨_, rfl⟩
      rw [← hX] at hrx hgx hcw
      have RX := Lib.hid hrx
      have GX := Lib.hid hgx
      have HCW := Lib.hid hcw
      clear hrx hgx hcw hX
      go_wp2_with (refine wpList_load_g rfl 43 (.tmp 73) rfl b0 (o0 + n * 16) rfl (u8s X) _ RX.out Tryd.underlying43 rfl (hi43 X GX.out.1) ?_)
      refine (climb_in X GX.out.1 GX.out.2 n hn32 (wayT ds n 5) (some ⟨bp, 0, none⟩) 5 cp wz DP5.out (wayT_len ds n 5).symm rfl (range_below HK.out B5.out) (Nat.lt_of_lt_of_le h18 B5.out.size)).mono ?_
      rintro e w6 ⟨rfl, hb6⟩
      rw [HCW.out, ← HRO.out]
      have DP6 := Lib.hid (DP5.out.below hb6)
      have R6 := Lib.hid (range_below R5.out hb6)
      have B6 := Lib.hid (B5.out.trans (hb6.mono B5.out.size))
      have HN6 := Lib.hid (has_new w6 (Array.replicate 16 (Value.int .u8 0)) 43 (u8s RO).length (by rw [u8s_len', GLRO.out]; rfl))
      clear hb6
      go_wp2_with (refine wpList_store_row rfl 43 (.tmp 9) (.tmp 78) rfl w6.heap.size rfl (u8s RO) rfl 43 HN6.out (hi43 RO GLRO.out) (one_u8s _) ?_; intro w7 hp7; have L7 : Below w6.heap.size w6 w7 := (hp7.below ((Below.refl _ _).alloc (Nat.le_refl _) _) (Nat.le_refl _)); have T7 := Lib.hid (blk_range hp7.blk); have DP7 := Lib.hid (DP6.out.below L7); have R7 := Lib.hid (range_below R6.out L7); have B7 := Lib.hid (B6.out.trans (L7.mono B6.out.size)); clear hp7 L7)
      refine (refPath_any 5 (by omega) ds (some ⟨b0, o0, none⟩) 32 c n w7 (HD.out.below B7.out) ⟨HDS.out.symm, rfl⟩ hn32).mono ?_
      rintro e w8 ⟨v8, rfl, ro8, hb8⟩
      rw [← way_halves joinC [] 5 ds n (by rw [HDS.out]) hn32] at ro8
      have dg8 := way_dgs hn32 HDS.out HG.out ro8
      obtain ⟨A8, c8, rfl⟩ := own_form ro8
      have DP8 := Lib.hid (DP7.out.below hb8)
      have R8 := Lib.hid (range_below R7.out hb8)
      have T8 := Lib.hid (range_below T7.out hb8)
      have B8 := Lib.hid (B7.out.trans (hb8.mono B7.out.size))
      have DQ8 := Lib.hid dg8
      clear hb8 ro8 dg8
      go_wp2_with fail
      refine (same_any (wayT ds n 5) (wayT ds n 5) (some ⟨bp, 0, none⟩) A8 5 5 cp c8 w8 DP8.out DQ8.out (wayT_len ds n 5).symm (wayT_len ds n 5).symm (by omega)).mono ?_
      rintro e w9 ⟨rfl, hb9⟩
      rw [decide_eq_true rfl]
      have R9' := Lib.hid (range_below R8.out hb9)
      have T9 := Lib.hid (range_below T8.out hb9)
      have B9' := Lib.hid (B8.out.trans (hb9.mono B8.out.size))
      have hsame := run_same16 RO GLRO.out
      clear hb9
      go_wp2_with (first | (refine wpList_load_g rfl 43 (.tmp 9) rfl w6.heap.size 0 rfl (u8s RO) _ T9.out Tryd.underlying43 rfl (hi43 RO GLRO.out) ?_) | (refine wpList_load_g rfl 43 (.tmp 5) rfl w2.heap.size 0 rfl (u8s RO) _ R9'.out Tryd.underlying43 rfl (hi43 RO GLRO.out) ?_))
      go_ret
      exact ⟨rfl, B9'.out⟩
  · by_cases hneg : i < 0
    · obtain ⟨aR, haR⟩ := sen_at S3.out 0 (by omega)
      have hcR := S3.out.cell 0 1 aR rfl haR
      refine (path_range (some ⟨b0, o0, none⟩) c i aR w3 hr hcR).mono ?_
      rintro e w4 ⟨rfl, hb4⟩
      have HAR := Lib.hid haR
      have B9 := Lib.hid (B3.out.trans (hb4.mono B3.out.size))
      have S9 := Lib.hid (S3.out.below hb4)
      have R9 := Lib.hid (range_below R3.out hb4)
      have D9 := Lib.hid (HD.out.below B9.out)
      clear hb4 haR hcR
      go_wp2_with fail
      refine wp_region_rely (by kernel_rfl) 8 (by kernel_rfl) (by kernel_rfl) Ext Ext.refl Ext.trans (fun ix => match ix with
        | 0 => fun _ v => v = .nilIface
        | 1 => fun _ v => v = .bool false
        | 2 => fun _ v => v = .bool false
        | 3 => fun _ v => v = .agg (u8s RO).toArray
        | 4 => fun _ v => v = .slice (some ⟨b0, o0, none⟩) 32 c
        | 5 => fun _ v => v = .agg (u8s RO).toArray
        | 6 => fun _ v => v = .bool false
        | 7 => fun _ v => v = .bool false
        | _ => fun _ _ => False) ?_
      simp (maxSteps := 10000000) only [Rely, List.take_succ_cons, List.take_zero, List.drop_succ_cons, List.drop_zero, Nat.reduceAdd, Nat.zero_add, Act.put, List.setIfInBounds_toArray, List.set_cons_succ, List.set_cons_zero]
      refine ⟨?_, ?_, ?_, ?_, ?_, ?_, ?_, ?_, ?_⟩
      · refine step_plain rfl fun vs wq hE hd => ?_
        exact gives_move _ (.nilIface) (.inl rfl) rfl ⟨Ext.refl _, fun _ _ => rfl⟩
      · refine step_plain rfl fun vs wq hE hd => ?_
        exact gives_binOp .neq 57 _ _ _ rfl (.nilIface) (Value.nilIface) (.bool false) (show vs 0 = _ from hd.1) rfl (by go_simp) (by go_simp) ⟨Ext.refl _, fun _ _ => rfl⟩
      · refine step_plain rfl fun vs wq hE hd => ?_
        exact gives_move _ (.bool false) (.inl rfl) (show vs 1 = _ from hd.1) ⟨Ext.refl _, fun _ _ => rfl⟩
      · refine step_guard 2 false 50 rfl rfl (fun _ => rfl) fun vs wq hE hd => ⟨hd.1, ?_⟩
        exact gives_load_row 43 _ rfl w2.heap.size 0 rfl (u8s RO) _ (range_below R9.out (ext_of_drew hE)) Tryd.underlying43 rfl (hi43 RO GLRO.out) ⟨Ext.refl _, fun _ _ => rfl⟩
      · refine step_guard 2 false 50 rfl rfl (fun _ => rfl) fun vs wq hE hd => ⟨hd.1, ?_⟩
        exact gives_move _ (.slice (some ⟨b0, o0, none⟩) 32 c) (.inl rfl) rfl ⟨Ext.refl _, fun _ _ => rfl⟩
      · refine step_guard 2 false 50 rfl rfl (fun _ => rfl) fun vs wq hE hd => ⟨hd.2.1, ?_⟩
        refine gives_call 58 (enters_of Tryd.func58 (by kernel_rfl) rfl) _ _ rfl rfl [.slice (some ⟨b0, o0, none⟩) 32 c] (congrArg (fun x => [x]) (show vs 4 = _ from (hd.1))) ?_
        refine (refRoot_any 5 (by omega) ds _ _ _ wq (D9.out.below (ext_of_drew hE)) ⟨HDS.out.symm, rfl⟩).mono ?_
        rintro _ w'' ⟨rfl, hb⟩
        exact ⟨_, rfl, hb, fun _ _ => by rw [HRO.out]; rfl⟩
      · refine step_guard 2 false 50 rfl rfl (fun _ => rfl) fun vs wq hE hd => ⟨hd.2.2.1, ?_⟩
        have hsame := run_same16 RO GLRO.out
        exact gives_binOp .neq 43 _ _ _ rfl (.agg (u8s RO).toArray) (.agg (u8s RO).toArray) (.bool false) (show vs 3 = _ from (hd.1)) (show vs 5 = _ from (hd.2.1)) (by go_simp) (by go_simp) ⟨Ext.refl _, fun _ _ => rfl⟩
      · refine step_plain rfl fun vs wq hE hd => ?_
        exact gives_pick _ _ _ (.bool false) false rfl (show vs 2 = _ from hd.1) (show vs 6 = _ from hd.2.1) ⟨Ext.refl _, fun _ _ => rfl⟩
      · intro vs wz hE hR
        have h7 : vs 7 = .bool false := hR 7 (by omega)
        have L5 : Below w4.heap.size w4 wz := ext_of_drew hE
        have B5 := Lib.hid (B9.out.trans (L5.mono B9.out.size))
        have S5 := Lib.hid (S9.out.below L5)
        rw [h7]
        clear hR hE h7 L5
        go_wp2_with fail
        refine (num_k S5.out 0 aR HAR.out 1 rfl).mono ?_
        rintro e w6 ⟨rfl, hb6⟩
        have B6 := Lib.hid (B5.out.trans (hb6.mono B5.out.size))
        clear hb6
        go_wp2_with fail
        go_ret
        exact ⟨rfl, B6.out⟩
    · have hbig : (31 : Int) < i := by omega
      obtain ⟨aR, haR⟩ := sen_at S3.out 0 (by omega)
      have hcR := S3.out.cell 0 1 aR rfl haR
      refine (path_range (some ⟨b0, o0, none⟩) c i aR w3 hr hcR).mono ?_
      rintro e w4 ⟨rfl, hb4⟩
      have HAR := Lib.hid haR
      have B9 := Lib.hid (B3.out.trans (hb4.mono B3.out.size))
      have S9 := Lib.hid (S3.out.below hb4)
      have R9 := Lib.hid (range_below R3.out hb4)
      have D9 := Lib.hid (HD.out.below B9.out)
      clear hb4 haR hcR
      go_wp2_with fail
      refine wp_region_rely (by kernel_rfl) 8 (by kernel_rfl) (by kernel_rfl) Ext Ext.refl Ext.trans (fun ix => match ix with
        | 0 => fun _ v => v = .nilIface
        | 1 => fun _ v => v = .bool false
        | 2 => fun _ v => v = .bool false
        | 3 => fun _ v => v = .agg (u8s RO).toArray
        | 4 => fun _ v => v = .slice (some ⟨b0, o0, none⟩) 32 c
        | 5 => fun _ v => v = .agg (u8s RO).toArray
        | 6 => fun _ v => v = .bool false
        | 7 => fun _ v => v = .bool false
        | _ => fun _ _ => False) ?_
      simp (maxSteps := 10000000) only [Rely, List.take_succ_cons, List.take_zero, List.drop_succ_cons, List.drop_zero, Nat.reduceAdd, Nat.zero_add, Act.put, List.setIfInBounds_toArray, List.set_cons_succ, List.set_cons_zero]
      refine ⟨?_, ?_, ?_, ?_, ?_, ?_, ?_, ?_, ?_⟩
      · refine step_plain rfl fun vs wq hE hd => ?_
        exact gives_move _ (.nilIface) (.inl rfl) rfl ⟨Ext.refl _, fun _ _ => rfl⟩
      · refine step_plain rfl fun vs wq hE hd => ?_
        exact gives_binOp .neq 57 _ _ _ rfl (.nilIface) (Value.nilIface) (.bool false) (show vs 0 = _ from hd.1) rfl (by go_simp) (by go_simp) ⟨Ext.refl _, fun _ _ => rfl⟩
      · refine step_plain rfl fun vs wq hE hd => ?_
        exact gives_move _ (.bool false) (.inl rfl) (show vs 1 = _ from hd.1) ⟨Ext.refl _, fun _ _ => rfl⟩
      · refine step_guard 2 false 50 rfl rfl (fun _ => rfl) fun vs wq hE hd => ⟨hd.1, ?_⟩
        exact gives_load_row 43 _ rfl w2.heap.size 0 rfl (u8s RO) _ (range_below R9.out (ext_of_drew hE)) Tryd.underlying43 rfl (hi43 RO GLRO.out) ⟨Ext.refl _, fun _ _ => rfl⟩
      · refine step_guard 2 false 50 rfl rfl (fun _ => rfl) fun vs wq hE hd => ⟨hd.1, ?_⟩
        exact gives_move _ (.slice (some ⟨b0, o0, none⟩) 32 c) (.inl rfl) rfl ⟨Ext.refl _, fun _ _ => rfl⟩
      · refine step_guard 2 false 50 rfl rfl (fun _ => rfl) fun vs wq hE hd => ⟨hd.2.1, ?_⟩
        refine gives_call 58 (enters_of Tryd.func58 (by kernel_rfl) rfl) _ _ rfl rfl [.slice (some ⟨b0, o0, none⟩) 32 c] (congrArg (fun x => [x]) (show vs 4 = _ from (hd.1))) ?_
        refine (refRoot_any 5 (by omega) ds _ _ _ wq (D9.out.below (ext_of_drew hE)) ⟨HDS.out.symm, rfl⟩).mono ?_
        rintro _ w'' ⟨rfl, hb⟩
        exact ⟨_, rfl, hb, fun _ _ => by rw [HRO.out]; rfl⟩
      · refine step_guard 2 false 50 rfl rfl (fun _ => rfl) fun vs wq hE hd => ⟨hd.2.2.1, ?_⟩
        have hsame := run_same16 RO GLRO.out
        exact gives_binOp .neq 43 _ _ _ rfl (.agg (u8s RO).toArray) (.agg (u8s RO).toArray) (.bool false) (show vs 3 = _ from (hd.1)) (show vs 5 = _ from (hd.2.1)) (by go_simp) (by go_simp) ⟨Ext.refl _, fun _ _ => rfl⟩
      · refine step_plain rfl fun vs wq hE hd => ?_
        exact gives_pick _ _ _ (.bool false) false rfl (show vs 2 = _ from hd.1) (show vs 6 = _ from hd.2.1) ⟨Ext.refl _, fun _ _ => rfl⟩
      · intro vs wz hE hR
        have h7 : vs 7 = .bool false := hR 7 (by omega)
        have L5 : Below w4.heap.size w4 wz := ext_of_drew hE
        have B5 := Lib.hid (B9.out.trans (L5.mono B9.out.size))
        have S5 := Lib.hid (S9.out.below L5)
        rw [h7]
        clear hR hE h7 L5
        go_wp2_with fail
        refine (num_k S5.out 0 aR HAR.out 1 rfl).mono ?_
        rintro e w6 ⟨rfl, hb6⟩
        have B6 := Lib.hid (B5.out.trans (hb6.mono B5.out.size))
        clear hb6
        go_wp2_with fail
        go_ret
        exact ⟨rfl, B6.out⟩
end Go.Proofs.YtdedphhohiioiaaDoor
