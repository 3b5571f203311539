/- Slices of integers; slices.Index, slices.Contains at them; the iterator over some validators' powers. -/
import Derived.Test.YtideopnblhbngaaDoorSeq
namespace Go.Proofs.YtideopnblhbngaaDoor
open Go.RowKit Go.Shelf
attribute [local go_sem] Oper.semAt_some

/-- A slice of integers. -/
structure Ins (w : World) (v : Value) (xs : List Int) : Prop where
  form : ∃ A c, v = .slice A xs.length c
  cells : xs ≠ [] → ∃ b off c, v = .slice (some ⟨b, off, none⟩) xs.length c ∧ xs.length ≤ c ∧ c ≤ maxLen ∧ b < w.heap.size ∧ ∀ i, i < xs.length → w.cell? ⟨b, off + i, none⟩ = some (.int .i64 (xs.getD i 0))
theorem Ins.nil {w : World} : Ins w (.slice none 0 0) [] := ⟨⟨_, _, rfl⟩, fun h => absurd rfl h⟩
theorem Ins.below {w w' : World} {v : Value} {xs : List Int} (h : Ins w v xs) (hb : Below w.heap.size w w') : Ins w' v xs := by
  refine ⟨h.form, fun hne => ?_⟩
  obtain ⟨b, off, c, e, h1, h2, h3, h4⟩ := h.cells hne
  exact ⟨b, off, c, e, h1, h2, Nat.lt_of_lt_of_le h3 hb.size, fun i hi => (hb.cell (p := ⟨b, off + i, none⟩) h3).trans (h4 i hi)⟩
theorem Ins.len {w : World} {A : Option Addr} {n c : Nat} {xs : List Int} (h : Ins w (.slice A n c) xs) : n = xs.length := by
  obtain ⟨A', c', e⟩ := h.form
  simp only [Value.slice.injEq] at e
  exact e.2.1
theorem Ins.el {w : World} {A : Option Addr} {n c : Nat} {xs : List Int} (h : Ins w (.slice A n c) xs) (i : Nat) (hi : i < n) :
    ∃ b off, A = some ⟨b, off, none⟩ ∧ b < w.heap.size ∧ w.cell? ⟨b, off + i, none⟩ = some (.int .i64 (xs.getD i 0)) := by
  have hl := h.len
  obtain ⟨b, off, c', e, _, _, h3, h4⟩ := h.cells (by intro e; subst e; simp at hl; omega)
  simp only [Value.slice.injEq] at e
  exact ⟨b, off, e.1, h3, h4 i (by omega)⟩
theorem Ins.take {w : World} {A : Option Addr} {n c : Nat} {xs : List Int} (h : Ins w (.slice A n c) xs) (k : Nat) (hk : k ≤ n) : Ins w (.slice A k c) (xs.take k) := by
  have hl := h.len
  have hkl : (xs.take k).length = k := by rw [List.length_take]; omega
  refine ⟨⟨A, c, by rw [hkl]⟩, fun hne => ?_⟩
  have hk0 : 0 < k := by
    cases k with
    | zero => exact absurd rfl hne
    | succ => omega
  obtain ⟨b, off, c', e, h1, h2, h3, h4⟩ := h.cells (by intro e; subst e; simp at hl; omega)
  simp only [Value.slice.injEq] at e
  obtain ⟨rfl, _, rfl⟩ := e
  refine ⟨b, off, c, by rw [hkl], by omega, h2, h3, fun i hi => ?_⟩
  rw [h4 i (by omega)]
  simp only [List.getD_eq_getElem?_getD, List.getElem?_take]
  rw [if_pos (by omega)]
theorem Ins.of_own {w : World} {base e n : Nat} {v : Value} {xs : List Int} (h : w.ownsRow base e 1 v n (i64s xs)) : Ins w v xs := by
  have hl : xs.length = n := by have := h.1; simpa [i64s] using this
  rcases h.2 with ⟨rfl, h0⟩ | ⟨g, cap, cur, rfl, hb, hg, hnc, hm, hs, ht⟩
  · subst h0
    rw [List.eq_nil_of_length_eq_zero hl]
    exact Ins.nil
  · refine ⟨⟨_, cap, by rw [hl]⟩, fun hne => ⟨g, 0, cap, by rw [hl], by omega, hm, blk_lt hg, fun i hi => ?_⟩⟩
    have := h.cells (g := g) rfl i (.int .i64 (xs.getD i 0)) (by simp [i64s, List.getD_eq_getElem?_getD, hi])
    rwa [show (⟨g, 0, none⟩ : Addr).add i = ⟨g, 0 + i, none⟩ by unfold Addr.add; split <;> simp_all] at this

/-- The place of a number, or -1. -/
def findI (xs : List Int) (z : Int) : Int :=
  match xs.findIdx? (fun x => decide (x = z)) with
  | some i => i
  | none => -1
theorem findI_at (xs : List Int) (z : Int) (i : Nat) (hi : i < xs.length) (he : xs.getD i 0 = z) (hb : ∀ j, j < i → xs.getD j 0 ≠ z) : findI xs z = i := by
  have : xs.findIdx? (fun x => decide (x = z)) = some i := by
    rw [List.findIdx?_eq_some_iff_getElem]
    refine ⟨hi, ?_, fun j hj => ?_⟩
    · rw [List.getD_eq_getElem?_getD, List.getElem?_eq_getElem hi] at he
      simpa using he
    · have h2 := hb j hj
      rw [List.getD_eq_getElem?_getD, List.getElem?_eq_getElem (Nat.lt_trans hj hi)] at h2
      simpa using h2
  unfold findI
  rw [this]
theorem findI_none (xs : List Int) (z : Int) (hb : ∀ j, j < xs.length → xs.getD j 0 ≠ z) : findI xs z = -1 := by
  have : xs.findIdx? (fun x => decide (x = z)) = none := by
    rw [List.findIdx?_eq_none_iff]
    intro x hx
    obtain ⟨j, hj, rfl⟩ := List.getElem_of_mem hx
    have h2 := hb j hj
    rw [List.getD_eq_getElem?_getD, List.getElem?_eq_getElem hj] at h2
    simpa using h2
  unfold findI
  rw [this]
theorem findI_ge (xs : List Int) (z : Int) : decide (0 ≤ findI xs z) = decide (z ∈ xs) := by
  rw [decide_eq_decide]
  unfold findI
  cases h : xs.findIdx? (fun x => decide (x = z)) with
  | some i =>
    rw [List.findIdx?_eq_some_iff_getElem] at h
    obtain ⟨hi, he, _⟩ := h
    have : xs[i] = z := by simpa using he
    exact ⟨fun _ => by rw [← this]; exact List.getElem_mem hi, fun _ => by simp⟩
  | none =>
    rw [List.findIdx?_eq_none_iff] at h
    constructor
    · intro hh; simp at hh
    · intro hm; have := h z hm; simp at this

set_option maxHeartbeats 4000000 in
set_option maxRecDepth 100000 in
theorem indexI_any (xs : List Int) (z : Int) (A : Option Addr) (n c : Nat) (w : World) (hv : Ins w (.slice A n c) xs) (hz : n ≤ 1000000) :
    Calls Tryd.prog 85 #[.slice A n c, .int .i64 z] w fun e w' => e = .returned (.int .i64 (findI xs z)) ∧ w' = w := by
  have hn := hv.len
  have HV := Lib.hid hv
  have HN := Lib.hid hn
  clear hv hn
  go_enter Tryd.func85, Tryd.ntmps85
  go_wp2
  go_loopw [5, 8] (fun _ k wr => ∃ (i : Nat), i ≤ n ∧ k = .int .i64 i ∧ Hid (∀ j, j < i → xs.getD j 0 ≠ z) ∧ wr = w)
    (fun _ k _ => n - (intOf k).toNat)
  case atStart => exact ⟨0, by omega, rfl, Lib.hid (fun j h => absurd h (by omega)), rfl⟩
  case round =>
    obtain ⟨i, hi, rfl, hne, rfl⟩ := hrel
    by_cases hlt : i < n
    · obtain ⟨b, off, rfl, hb, hr⟩ := HV.out.el i hlt
      obtain ⟨X, hX⟩ : ∃ X, X = xs.getD i 0 := ⟨_, rfl⟩
      rw [← hX] at hr
      have HXE := Lib.hid hX
      clear hX hb
      have hil : (i : Int) < n := by omega
      by_cases he : z = X
      · have hb1 : (z == X) = true := by simp [he]
        go_wp2
        go_ret
        rw [findI_at xs z i (by rw [← HN.out]; exact hlt) (by rw [← HXE.out]; exact he.symm) hne.out]
        exact ⟨rfl, rfl⟩
      · have hb1 : (z == X) = false := by simp [he]
        go_wp2
        go_roundw
        case rel => exact ⟨i + 1, by omega, by go_num, Lib.hid (fun j hj => by
          by_cases hji : j = i
          · subst hji; rw [← HXE.out]; exact fun h => he h.symm
          · exact hne.out j (by omega)), trivial⟩
        case measure => simp [intOf]; omega
    · obtain rfl : i = n := by omega
      go_wp2
      go_ret
      rw [findI_none xs z (by rw [← HN.out]; exact hne.out)]
      exact ⟨rfl, rfl⟩

set_option maxHeartbeats 4000000 in
set_option maxRecDepth 100000 in
theorem containsI_any (xs : List Int) (z : Int) (A : Option Addr) (n c : Nat) (w : World) (hv : Ins w (.slice A n c) xs) (hz : n ≤ 1000000) :
    Calls Tryd.prog 63 #[.slice A n c, .int .i64 z] w fun e w' => e = .returned (.bool (decide (z ∈ xs))) ∧ w' = w := by
  have HV := Lib.hid hv
  clear hv
  have hge := findI_ge xs z
  go_enter Tryd.func63, Tryd.ntmps63
  go_wp2_with (go_at_call 85; refine (indexI_any xs z A n c w HV.out hz).mono ?_; rintro _ w1 ⟨rfl, rfl⟩)
  go_ret
  exact ⟨by first | rfl | rw [← hge]; rfl, rfl⟩

/-- The powers of the places of a list. -/
def powAt (vs : List Va) (who : List Int) : List Int := who.map fun i => (vs.getD i.toNat ([], 0)).2
theorem powAt_take (vs : List Va) (who : List Int) (k : Nat) (hk : k < who.length) : powAt vs (who.take (k + 1)) = powAt vs (who.take k) ++ [(vs.getD (who.getD k 0).toNat ([], 0)).2] := by
  unfold powAt
  rw [List.take_succ_eq_append_getElem hk, List.map_append]
  simp [List.getD_eq_getElem?_getD, List.getElem?_eq_getElem hk]

set_option maxHeartbeats 4000000 in
set_option maxRecDepth 100000 in
theorem some1_in (n : Nat) (hn : 1 ≤ n) (l Bw Bs : Nat) (A A' : Option Addr) (len cap m c' : Nat) (vs : List Va) (who : List Int) (w0 W : World) (J Jx : List Int → World → Prop)
    (hW : Below w0.heap.size w0 W) (hY : Rounds n l w0.heap.size m J Jx) (hBw : w0.cell? ⟨Bw, 0, none⟩ = some (.slice A' m c')) (hBs : w0.cell? ⟨Bs, 0, none⟩ = some (.slice A len cap))
    (hv : Vals w0 (.slice A len cap) vs) (hw : Ins w0 (.slice A' m c') who) (hin : ∀ x ∈ who, 0 ≤ x ∧ x < len) (hz : m ≤ 1000000) (h0 : J [] W) :
    CallsIn Fence.wide n Tryd.prog 65 #[.func (.yield l) #[] #[], .pointer (some ⟨Bw, 0, none⟩), .pointer (some ⟨Bs, 0, none⟩)] W fun e W' => (∃ v, e = .returned v) ∧
      ((∃ ys, ys = powAt vs who ∧ J ys W') ∨ (∃ pre, True ∧ Jx pre W')) := by
  have hn1 := hv.len
  have hn2 := hw.len
  have hcell : W.cell? ⟨Bw, 0, none⟩ = some (.slice A' m c') := cell_on hW hBw
  have HV := Lib.hid hv
  have HW := Lib.hid hw
  have HN := Lib.hid hn1
  have HN2 := Lib.hid hn2
  have HY := Lib.hid hY
  have J0 := Lib.hid h0
  have HBS := Lib.hid hBs
  have HIN := Lib.hid hin
  clear hv hn1 hn2 hw hBs hBw hY h0 hin
  refine callsIn_of_wp Tryd.func65 rfl trivial ?_ rfl
  simp only [Tryd.ntmps65, List.size_toArray, List.length_cons, List.length_nil, Nat.reduceAdd, Nat.reduceSub, Array.replicate_succ, Array.replicate_zero, List.push_toArray, List.append_toArray, List.nil_append, List.cons_append]
  gi_wp2
  clear hcell
  gi_loopw [8] (fun i wr => ∃ k : Nat, k ≤ m ∧ i = .int .i64 k ∧ Hid (J (powAt vs (who.take k)) wr) ∧ Hid (Below w0.heap.size w0 wr))
    (fun i _ => m - (intOf i).toNat)
  case atStart => exact ⟨0, Nat.zero_le _, rfl, J0, Lib.hid hW⟩
  case round =>
    obtain ⟨k, hk, rfl, hJs, hbel⟩ := hrel
    by_cases hlt : k < m
    · obtain ⟨bw, ow, rfl, hbw, hrw⟩ := (HW.out.below hbel.out).el k hlt
      have hlen : k < who.length := by rw [← HN2.out]; exact hlt
      have hmem : who.getD k 0 ∈ who := by rw [List.getD_eq_getElem?_getD, List.getElem?_eq_getElem hlen]; exact List.getElem_mem _
      obtain ⟨hx0, hx1⟩ := HIN.out _ hmem
      have htk := powAt_take vs who k hlen
      obtain ⟨z, hzz⟩ : ∃ z, z = who.getD k 0 := ⟨_, rfl⟩
      rw [← hzz] at hrw hx0 hx1 htk
      clear hmem hzz
      obtain ⟨i, rfl⟩ : ∃ i : Nat, z = i := ⟨z.toNat, by omega⟩
      have hi : i < len := by omega
      obtain ⟨b, off, rfl, hb, hr⟩ := (HV.out.below hbel.out).el i hi
      have hl := HV.out.at i (by rw [← HN.out]; exact hi)
      rw [Int.toNat_natCast] at htk
      obtain ⟨X, hX⟩ : ∃ X, X = vs.getD i ([], 0) := ⟨_, rfl⟩
      rw [← hX] at hr hl htk
      have hpw := vcells_pow hl hr
      have hcs : wr.cell? ⟨Bs, 0, none⟩ = some (.slice (some ⟨b, off, none⟩) len cap) := cell_on hbel.out HBS.out
      have hpl : (powAt vs (who.take k)).length < m := by unfold powAt; rw [List.length_map, List.length_take]; omega
      obtain ⟨fn, tmps, assign, body, hy, hR⟩ := HY.out _ X.2 wr hJs.out hpl
      have HRR := Lib.hid hR
      have HTK := Lib.hid htk
      clear hr hl hX hb htk hpl hlen hbw hR
      have hil : (k : Int) < m := by omega
      have hil2 : (i : Int) < len := by omega
      gi_wp2
      refine HRR.out.mono ?_
      rintro e W3 (⟨rfl, hJ3, hk3⟩ | ⟨rfl, hJx3⟩)
      · have B3 := Lib.hid (hbel.out.trans hk3)
        have J3 := Lib.hid hJ3
        clear hJ3 hk3 HRR hy hpw hcs hrw
        gi_wp2
        go_roundw
        case rel => exact ⟨k + 1, by omega, by go_num, Lib.hid (by rw [HTK.out]; exact J3.out), B3⟩
        case measure => simp [intOf]; omega
      · clear HRR hy hpw hcs hrw
        gi_wp2
        refine bodyPost_ret (results_none rfl _ _ _) rfl ?_
        exact ⟨⟨_, rfl⟩, .inr ⟨_, trivial, hJx3⟩⟩
    · obtain rfl : k = m := by omega
      gi_wp2
      go_end0
      exact ⟨⟨_, rfl⟩, .inl ⟨_, rfl, by have := hJs.out; rwa [HN2.out, List.take_length] at this⟩⟩

theorem some1_stops (n : Nat) (hn : 1 ≤ n) (Bw Bs : Nat) (A A' : Option Addr) (len cap m c' : Nat) (vs : List Va) (who : List Int) (w0 : World)
    (hBw : w0.cell? ⟨Bw, 0, none⟩ = some (.slice A' m c')) (hBs : w0.cell? ⟨Bs, 0, none⟩ = some (.slice A len cap))
    (hv : Vals w0 (.slice A len cap) vs) (hw : Ins w0 (.slice A' m c') who) (hin : ∀ x ∈ who, 0 ≤ x ∧ x < len) (hz : m ≤ 1000000) :
    SeqStopsK Fence.wide n Tryd.prog 65 #[.pointer (some ⟨Bw, 0, none⟩), .pointer (some ⟨Bs, 0, none⟩)] (fun x : Int => #[Value.int .i64 x]) (Below w0.heap.size) (fun ys => ys = powAt vs who) (fun _ => True) m w0 :=
  fun l J Jx W hW _ _ hY h0 => some1_in n hn l Bw Bs A A' len cap m c' vs who w0 W J Jx hW hY hBw hBs hv hw hin hz h0
end Go.Proofs.YtideopnblhbngaaDoor
