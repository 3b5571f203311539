/- What the pool's Drop does: slices.DeleteFunc at texts. -/
import Derived.Test.YtideopnblhbngaaDoorTake
import Derived.Lib.SliceRun
import Derived.Test.YtideopnblhbngaaDoorAdd
namespace Go.Proofs.YtideopnblhbngaaDoor
open Go.RowKit Go.Shelf

/-- The place of the first text that is of a list, or -1. -/
def findW (wo ts : List ByteArray) : Int :=
  match ts.findIdx? (fun s => inT wo s) with
  | some i => i
  | none => -1
theorem findW_at (wo ts : List ByteArray) (i : Nat) (hi : i < ts.length) (he : inT wo (ts.getD i ByteArray.empty) = true) (hb : ∀ j, j < i → inT wo (ts.getD j ByteArray.empty) = false) : findW wo ts = i := by
  have : ts.findIdx? (fun s => inT wo s) = some i := by
    rw [List.findIdx?_eq_some_iff_getElem]
    refine ⟨hi, ?_, fun j hj => ?_⟩
    · rw [List.getD_eq_getElem?_getD, List.getElem?_eq_getElem hi] at he
      simpa using he
    · have h2 := hb j hj
      rw [List.getD_eq_getElem?_getD, List.getElem?_eq_getElem (Nat.lt_trans hj hi)] at h2
      simpa using h2
  unfold findW
  rw [this]
theorem findW_none (wo ts : List ByteArray) (hb : ∀ j, j < ts.length → inT wo (ts.getD j ByteArray.empty) = false) : findW wo ts = -1 := by
  have : ts.findIdx? (fun s => inT wo s) = none := by
    rw [List.findIdx?_eq_none_iff]
    intro x hx
    obtain ⟨j, hj, rfl⟩ := List.getElem_of_mem hx
    have h2 := hb j hj
    rw [List.getD_eq_getElem?_getD, List.getElem?_eq_getElem hj] at h2
    simpa using h2
  unfold findW
  rw [this]

set_option maxHeartbeats 4000000 in
set_option maxRecDepth 100000 in
theorem drop1_any (ps : List (List Int)) (z : ByteArray) (A : Option Addr) (n c bx : Nat) (w : World) (hb : w.cell? ⟨bx, 0, none⟩ = some (.slice A n c)) (hv : Bss w (.slice A n c) ps) (hz : n ≤ 1000000) :
    Calls Tryd.prog 71 #[.string z, .pointer (some ⟨bx, 0, none⟩)] w fun e w' => e = .returned (.bool (inT (ps.map strOfNums) z)) ∧ Below w.heap.size w w' := by
  have HV := Lib.hid hv
  clear hv
  go_enter Tryd.func71, Tryd.ntmps71
  go_wp2_with fail
  refine (among_any ps z A n c w HV.out hz).mono ?_
  rintro _ w1 ⟨rfl, hw1⟩
  have B1 : Hid (Below w.heap.size w w1) := Lib.hid (by rw [hw1]; exact (Below.refl _ _).alloc (Nat.le_refl _) _)
  clear hw1
  go_wp2_with fail
  go_ret
  exact ⟨rfl, B1.out⟩

set_option maxHeartbeats 4000000 in
set_option maxRecDepth 100000 in
theorem indexW_any (ps : List (List Int)) (ts : List ByteArray) (A Aw : Option Addr) (n c nw cw bx : Nat) (w : World) (hv : Txs w (.slice A n c) ts) (hb : w.cell? ⟨bx, 0, none⟩ = some (.slice Aw nw cw)) (hw : Bss w (.slice Aw nw cw) ps) (hz : n ≤ 1000000) (hzw : nw ≤ 1000000) :
    Calls Tryd.prog 88 #[.slice A n c, .func (.func 71) #[] #[.pointer (some ⟨bx, 0, none⟩)]] w fun e w' => e = .returned (.int .i64 (findW (ps.map strOfNums) ts)) ∧ Below w.heap.size w w' := by
  have hn := hv.len
  have HV := Lib.hid hv
  have HW := Lib.hid hw
  have HB := Lib.hid hb
  have HN := Lib.hid hn
  clear hv hn hw hb
  go_enter Tryd.func88, Tryd.ntmps88
  go_wp2_with fail
  go_loopw [5, 8] (fun _ k wr => ∃ (i : Nat), i ≤ n ∧ k = .int .i64 i ∧ Hid (∀ j, j < i → inT (ps.map strOfNums) (ts.getD j ByteArray.empty) = false) ∧ Hid (Below w.heap.size w wr))
    (fun _ k _ => n - (intOf k).toNat)
  case atStart => exact ⟨0, by omega, rfl, Lib.hid (fun j h => absurd h (by omega)), Lib.hid (Below.refl _ _)⟩
  case round =>
    obtain ⟨i, hi, rfl, hne, hbel⟩ := hrel
    by_cases hlt : i < n
    · obtain ⟨b, off, rfl, hb, hr⟩ := (HV.out.below hbel.out).el i hlt
      obtain ⟨X, hX⟩ : ∃ X, X = ts.getD i ByteArray.empty := ⟨_, rfl⟩
      rw [← hX] at hr
      have HXE := Lib.hid hX
      clear hX hb
      have hil : (i : Int) < n := by omega
      go_wp2_with fail
      refine (drop1_any ps X Aw nw cw bx wr (cell_on hbel.out HB.out) (HW.out.below hbel.out) hzw).mono ?_
      rintro _ w1 ⟨rfl, bel1⟩
      have B1 := Lib.hid (hbel.out.trans (bel1.mono hbel.out.size))
      clear bel1
      cases he : inT (ps.map strOfNums) X with
      | true =>
        go_wp2_with fail
        go_ret
        rw [findW_at _ ts i (by rw [← HN.out]; exact hlt) (by rw [← HXE.out]; exact he) hne.out]
        exact ⟨rfl, B1.out⟩
      | false =>
        go_wp2_with fail
        go_roundw
        case rel => exact ⟨i + 1, by omega, by go_num, Lib.hid (fun j hj => by
          by_cases hji : j = i
          · subst hji; rw [← HXE.out]; exact he
          · exact hne.out j (by omega)), B1⟩
        case measure => simp [intOf]; omega
    · obtain rfl : i = n := by omega
      go_wp2_with fail
      go_ret
      rw [findW_none _ ts (by rw [← HN.out]; exact hne.out)]
      exact ⟨rfl, hbel.out⟩
theorem findW_spec (wo ts : List ByteArray) : (findW wo ts = -1 ∧ ∀ j, j < ts.length → inT wo (ts.getD j ByteArray.empty) = false) ∨ ∃ i : Nat, i < ts.length ∧ findW wo ts = i ∧ inT wo (ts.getD i ByteArray.empty) = true ∧ ∀ j, j < i → inT wo (ts.getD j ByteArray.empty) = false := by
  unfold findW
  cases h : ts.findIdx? (fun s => inT wo s) with
  | some i =>
    rw [List.findIdx?_eq_some_iff_getElem] at h
    obtain ⟨hi, he, hb⟩ := h
    refine .inr ⟨i, hi, rfl, by rw [List.getD_eq_getElem?_getD, List.getElem?_eq_getElem hi]; exact he, fun j hj => ?_⟩
    rw [List.getD_eq_getElem?_getD, List.getElem?_eq_getElem (Nat.lt_trans hj hi)]
    simpa using hb j hj
  | none =>
    rw [List.findIdx?_eq_none_iff] at h
    refine .inl ⟨rfl, fun j hj => ?_⟩
    rw [List.getD_eq_getElem?_getD, List.getElem?_eq_getElem hj]
    exact h _ (List.getElem_mem hj)

/-- Those of the first j that stay. -/
def stay (wo ts : List ByteArray) (j : Nat) : List ByteArray := (ts.take j).filter fun s => !inT wo s
theorem stay_yes {wo ts : List ByteArray} {j : Nat} (hj : j < ts.length) (h : inT wo (ts.getD j ByteArray.empty) = false) : stay wo ts (j + 1) = stay wo ts j ++ [ts.getD j ByteArray.empty] := by
  unfold stay
  rw [List.take_succ_eq_append_getElem hj, List.filter_append]
  rw [List.getD_eq_getElem?_getD, List.getElem?_eq_getElem hj] at h ⊢
  simp only [Option.getD_some] at h ⊢
  simp [h]
theorem stay_no {wo ts : List ByteArray} {j : Nat} (hj : j < ts.length) (h : inT wo (ts.getD j ByteArray.empty) = true) : stay wo ts (j + 1) = stay wo ts j := by
  unfold stay
  rw [List.take_succ_eq_append_getElem hj, List.filter_append]
  rw [List.getD_eq_getElem?_getD, List.getElem?_eq_getElem hj] at h
  simp only [Option.getD_some] at h
  simp [h]
theorem stay_first {wo ts : List ByteArray} {i : Nat} (hi : i ≤ ts.length) (h : ∀ j, j < i → inT wo (ts.getD j ByteArray.empty) = false) : stay wo ts i = ts.take i := by
  unfold stay
  rw [List.filter_eq_self]
  intro s hs
  obtain ⟨j, hj, rfl⟩ := List.getElem_of_mem hs
  have hj' : j < i := by rw [List.length_take] at hj; omega
  have := h j hj'
  rw [List.getD_eq_getElem?_getD, List.getElem?_eq_getElem (by omega)] at this
  rw [List.getElem_take]
  simpa using this

theorem setCells_blk (g t : Nat) : ∀ (vs : List Value) (o : Nat) (w : World) (cur : Array Value), w.heap[g]? = some (.cells cur t (0, 0)) →
    ∃ cur' : Array Value, (w.setCells g o vs).heap[g]? = some (.cells cur' t (0, 0)) ∧ cur'.size = cur.size ∧ (∀ k, k < o → cur'[k]? = cur[k]?) ∧ But (fun k => k = g) w (w.setCells g o vs)
  | [], o, w, cur, h => ⟨cur, h, rfl, fun _ _ => rfl, But.refl _ _⟩
  | v :: r, o, w, cur, h => by
    have h1 : (w.setCell ⟨g, o, none⟩ v).heap[g]? = some (.cells (cur.setIfInBounds o v) t (0, 0)) := heap_setCell_same w g o _ t v h
    obtain ⟨cur', a1, a2, a3, a4⟩ := setCells_blk g t r (o + 1) _ _ h1
    have hb : But (fun k => k = g) w (w.setCell ⟨g, o, none⟩ v) := ⟨rfl, rfl, rfl, by rw [World.size_setCell]; exact Nat.le_refl _, fun k _ hk => heap_setCell_other w ⟨g, o, none⟩ k v hk⟩
    refine ⟨cur', a1, by rw [a2]; simp, fun k hk => ?_, hb.trans a4⟩
    rw [a3 k (by omega), Array.getElem?_setIfInBounds]
    rw [if_neg (by omega)]
theorem take_of_get {cur cur' : Array Value} {i : Nat} (h : ∀ k, k < i → cur'[k]? = cur[k]?) : cur'.toList.take i = cur.toList.take i := by
  apply List.ext_getElem?
  intro k
  rw [List.getElem?_take, List.getElem?_take]
  split
  · rename_i hk; simpa using h k hk
  · rfl

/-- A row of texts in the midst of the deletion. -/
structure Half (g c n i j : Nat) (wo ts : List ByteArray) (w : World) (cur : Array Value) : Prop where
  blk : w.heap[g]? = some (.cells cur 9 (0, 0))
  size : cur.size = c
  done : cur.toList.take i = strs (stay wo ts j)
  rest : ∀ k, j ≤ k → k < n → cur[k]? = some (.string (ts.getD k ByteArray.empty))

set_option maxHeartbeats 8000000 in
set_option maxRecDepth 100000 in
theorem delete_any (base : Nat) (ps : List (List Int)) (ts : List ByteArray) (A Aw : Option Addr) (c nw cw bx : Nat) (w : World) (hv : w.ownsRow base 9 1 (.slice A ts.length c) ts.length (strs ts))
    (hw : ∀ W, But (fun k => (Value.slice A ts.length c).ownBlock = some k) w W → W.cell? ⟨bx, 0, none⟩ = some (.slice Aw nw cw) ∧ Bss W (.slice Aw nw cw) ps) (hz : ts.length ≤ 1000) (hzw : nw ≤ 1000000) :
    Calls Tryd.prog 70 #[.slice A ts.length c, .func (.func 71) #[] #[.pointer (some ⟨bx, 0, none⟩)]] w fun e w' => ∃ (m : Nat), e = .returned (.slice A m c) ∧ m = (stay (ps.map strOfNums) ts ts.length).length ∧
      w'.ownsRow base 9 1 (.slice A m c) m (strs (stay (ps.map strOfNums) ts ts.length)) ∧ But (fun k => (Value.slice A ts.length c).ownBlock = some k) w w' := by
  obtain ⟨n, hn⟩ : ∃ n, n = ts.length := ⟨_, rfl⟩
  rw [← hn] at hv hz ⊢
  rw [← hn] at hw
  have HV := Lib.hid hv
  have HT := Lib.hid (show Txs w (.slice A n c) ts from Txs.of_own hv)
  have HW := Lib.hid hw
  have HN := Lib.hid hn
  clear hv hn hw
  go_enter Tryd.func70, Tryd.ntmps70
  go_wp2_with fail
  obtain ⟨hbx, hws⟩ := HW.out w (But.refl _ _)
  refine (indexW_any ps ts A Aw n c nw cw bx w HT.out hbx hws (by omega) hzw).mono ?_
  rintro _ w1 ⟨rfl, bel1⟩
  have B1 := Lib.hid (But.of_below (S := fun k => (Value.slice A n c).ownBlock = some k) bel1)
  have V1 := Lib.hid (HV.out.kept (row := none) ⟨bel1.os, bel1.tape, bel1.output, bel1.size, fun k hk _ => bel1.block k hk⟩ (by cases h' : Value.ownBlock (.slice A n c) <;> simp))
  clear hbx hws bel1
  rcases findW_spec (ps.map strOfNums) ts with ⟨hf, hall⟩ | ⟨i0, hi0, hf, hin, hbef⟩
  · rw [hf]
    have hst : stay (ps.map strOfNums) ts n = ts := by rw [HN.out, stay_first (Nat.le_refl _) hall, List.take_length]
    go_wp2_with fail
    go_ret
    refine ⟨n, rfl, by rw [hst]; exact HN.out, by rw [hst]; exact V1.out, B1.out⟩
  · rw [hf]
    obtain ⟨g, cur0, rfl, hgb, hg0, hcm, hc0, ht0⟩ : ∃ g cur, A = some ⟨g, 0, none⟩ ∧ base ≤ g ∧ w1.heap[g]? = some (.cells cur 9 (0, 0)) ∧ (n ≤ c ∧ c ≤ maxLen) ∧ cur.size = c ∧ cur.toList.take n = strs ts := by
      rcases V1.out.2 with ⟨e, h0⟩ | ⟨g, cap, cur, e, hb, hg, hnc, hm, hs, ht⟩
      · have := HN.out; omega
      · simp only [Value.slice.injEq] at e
        obtain ⟨rfl, _, rfl⟩ := e
        exact ⟨g, cur, rfl, hb, hg, ⟨hnc, hm⟩, by omega, by simpa using ht⟩
    have hget : ∀ k, k < n → cur0[k]? = some (.string (ts.getD k ByteArray.empty)) := fun k hk => by
      have h1 : (cur0.toList.take n)[k]? = some (.string (ts.getD k ByteArray.empty)) := by
        rw [ht0]
        have : k < ts.length := by rw [← HN.out]; exact hk
        simp [strs, List.getD_eq_getElem?_getD, this]
      rw [List.getElem?_take, if_pos hk] at h1
      simpa using h1
    have hi0n : i0 < n := by rw [HN.out]; exact hi0
    have hs0 : stay (ps.map strOfNums) ts (i0 + 1) = ts.take i0 := by rw [stay_no hi0 hin, stay_first (by omega) hbef]
    have H0 : Half g c n i0 (i0 + 1) (ps.map strOfNums) ts w1 cur0 := ⟨hg0, hc0, by
      rw [hs0]
      have := congrArg (List.take i0) ht0
      rw [List.take_take, Nat.min_eq_left (by omega)] at this
      rw [this]
      simp [strs, List.map_take], fun k _ hk => hget k hk⟩
    have HH0 := Lib.hid H0
    have hne1 : ((i0 : Int) == -1) = false := by rw [beq_eq_false_iff_ne]; omega
    have HL0 : Hid (i0 = (stay (ps.map strOfNums) ts (i0 + 1)).length) := Lib.hid (by rw [hs0, List.length_take]; omega)
    clear hget hs0 H0 hg0 hc0 ht0 hin hbef hi0 V1 HV HT
    go_wp2_with fail
    go_loopw [5, 6] (fun a b wr => ∃ (i j : Nat) (cur : Array Value), i < j ∧ j ≤ n ∧ a = .int .i64 i ∧ b = .int .i64 j ∧ Hid (Half g c n i j (ps.map strOfNums) ts wr cur) ∧ Hid (i = (stay (ps.map strOfNums) ts j).length) ∧ Hid (But (fun k => (Value.slice (some ⟨g, 0, none⟩) n c).ownBlock = some k) w wr))
      (fun _ b _ => n - (intOf b).toNat)
    case atStart => exact ⟨i0, i0 + 1, cur0, by omega, by omega, rfl, by simp, HH0, HL0, B1⟩
    case round =>
      clear HH0 HL0 B1
      obtain ⟨i, j, cur, hij, hjn, rfl, rfl, hhalf, hil, hbut⟩ := hrel
      by_cases hlt : j < n
      · have hcj : wr.cell? ⟨g, j, none⟩ = some (.string (ts.getD j ByteArray.empty)) := by
          rw [cell_of_row _ _ _ _ _ _ hhalf.out.blk]
          exact hhalf.out.rest j (Nat.le_refl _) hlt
        have hjt : j < ts.length := by rw [← HN.out]; exact hlt
        have hy := stay_yes (wo := ps.map strOfNums) hjt
        have hno := stay_no (wo := ps.map strOfNums) hjt
        obtain ⟨X, hX⟩ : ∃ X, X = ts.getD j ByteArray.empty := ⟨_, rfl⟩
        rw [← hX] at hcj hy hno
        have HY := Lib.hid hy
        have HNO := Lib.hid hno
        clear hy hno hX hjt
        have hjl : (j : Int) < n := by omega
        go_wp2_with fail
        obtain ⟨hbx, hws⟩ := HW.out wr hbut.out
        refine (drop1_any ps X Aw nw cw bx wr hbx hws hzw).mono ?_
        rintro _ w2 ⟨rfl, bel2⟩
        have HB2 := Lib.hid (hbut.out.trans (But.of_below bel2))
        have hg2 := blk_below hhalf.out.blk bel2
        have hci : ∃ u, w2.cell? ⟨g, i, none⟩ = some u := by
          rw [cell_of_row _ _ _ _ _ _ hg2]
          exact ⟨_, Array.getElem?_eq_getElem (by rw [hhalf.out.size]; omega)⟩
        obtain ⟨u, hci⟩ := hci
        have hfi := blk_free hg2 i
        have HG2 := Lib.hid hg2
        clear hbx hws bel2 hcj hg2
        cases hin : inT (ps.map strOfNums) X with
        | true =>
          clear hci hfi
          go_wp2_with fail
          go_roundw
          case rel => exact ⟨i, j + 1, cur, by omega, by omega, rfl, by go_num, Lib.hid ⟨HG2.out, hhalf.out.size, by rw [HNO.out hin]; exact hhalf.out.done, fun k h1 h2 => hhalf.out.rest k (by omega) h2⟩, Lib.hid (by rw [HNO.out hin]; exact hil.out), HB2⟩
          case measure => simp [intOf]; omega
        | false =>
          have hin0 : (0 : Int) ≤ i := by omega
          have hinl : (i : Int) < n := by omega
          go_wp2_with fail
          go_roundw
          case rel =>
            refine ⟨i + 1, j + 1, cur.setIfInBounds i (.string X), by omega, by omega, by go_num, by go_num, Lib.hid ⟨heap_setCell_same _ g i _ 9 _ HG2.out, by rw [Array.size_setIfInBounds]; exact hhalf.out.size, ?_, fun k h1 h2 => ?_⟩, Lib.hid ?_, Lib.hid (HB2.out.trans ⟨rfl, rfl, rfl, by rw [World.size_setCell]; exact Nat.le_refl _, fun k _ hk => heap_setCell_other _ ⟨g, i, none⟩ k _ (fun e => hk (by rw [e]; rfl))⟩)⟩
            · rw [HY.out hin, show strs (stay (ps.map strOfNums) ts j ++ [X]) = strs (stay (ps.map strOfNums) ts j) ++ [.string X] by simp [strs], ← hhalf.out.done, Array.toList_setIfInBounds]
              have hs : i < cur.toList.length := by have := hhalf.out.size; simp; omega
              rw [List.take_succ_eq_append_getElem (by simpa using hs), List.take_set_of_le (Nat.le_refl _)]
              simp
            · rw [Array.getElem?_setIfInBounds, if_neg (by omega)]
              exact hhalf.out.rest k (by omega) h2
            · rw [HY.out hin, List.length_append, ← hil.out]; rfl
          case measure => simp [intOf]; omega
      · obtain rfl : j = n := by omega
        have hclr : ∀ ty, (Builtin.clear_ #[65] ty #[.slice (some ⟨g, i, none⟩) (j - i) (c - i)]).run Tryd.prog wr = .ok (.tuple #[]) (wr.setCells g i (List.replicate (j - i) (.string { data := #[] }))) := fun ty =>
          Lib.run_clear_slice wr 65 9 ty (.string { data := #[] }) Tryd.underlying65 Tryd.zeroValue9 rfl rfl g i (j - i) (c - i) (by omega) (fun k hk => by
            rw [cell_of_row _ _ _ _ _ _ hhalf.out.blk, Array.getElem?_eq_getElem (by rw [hhalf.out.size]; omega)]; rfl) (fun k _ => blk_free hhalf.out.blk _)
        obtain ⟨cur', hb', hs', hk', hbu⟩ := setCells_blk g 9 (List.replicate (j - i) (.string { data := #[] })) i wr cur hhalf.out.blk
        have HF : Hid (i = (stay (ps.map strOfNums) ts j).length ∧ (wr.setCells g i (List.replicate (j - i) (.string { data := #[] }))).ownsRow base 9 1 (.slice (some ⟨g, 0, none⟩) i c) i (strs (stay (ps.map strOfNums) ts j)) ∧ But (fun k => (Value.slice (some ⟨g, 0, none⟩) j c).ownBlock = some k) w (wr.setCells g i (List.replicate (j - i) (.string { data := #[] })))) :=
          Lib.hid ⟨hil.out, ⟨by rw [strs_len, hil.out, Nat.mul_one], .inr ⟨g, c, cur', rfl, hgb, hb', by omega, hcm.2, by rw [hs', hhalf.out.size, Nat.mul_one], by rw [Nat.mul_one, take_of_get hk']; exact hhalf.out.done⟩⟩, hbut.out.trans (hbu.mono fun k _ e => by rw [e]; rfl)⟩
        have hi1 : (0 : Int) ≤ i := by omega
        have hi2 : (i : Int) ≤ j := by omega
        have hi3 : (i : Int) ≤ c := by omega
        have hi4 : ¬ c = i := by omega
        clear hb' hs' hk' hbu hhalf hil hbut
        go_wp2_with fail
        go_ret
        exact ⟨i, rfl, HF.out.1, HF.out.2.1, HF.out.2.2⟩

/-- What stays behind a Drop. -/
def dropT (ts wo : List ByteArray) : List ByteArray := ts.filter fun s => !inT wo s
theorem stay_all (wo ts : List ByteArray) : stay wo ts ts.length = dropT ts wo := by unfold stay dropT; rw [List.take_length]
theorem dropT_len (ts wo : List ByteArray) : (dropT ts wo).length ≤ ts.length := List.length_filter_le _ _

set_option maxHeartbeats 8000000 in
set_option maxRecDepth 100000 in
theorem drop_any (base p : Nat) (v : Value) (ts : List ByteArray) (ps : List (List Int)) (Aw : Option Addr) (nw cw : Nat) (w : World) (h : PoolAt base p v ts w) (hst : ∀ W, But (PoolS p v) w W → Bss W (.slice Aw nw cw) ps) (hz : ts.length ≤ 1000) (hzw : nw ≤ 1000000) :
    Calls Tryd.prog 29 #[.pointer (some ⟨p, 0, none⟩), .slice Aw nw cw] w fun e w' => e = .returned (.int .i64 ((ts.length : Int) - (dropT ts (ps.map strOfNums)).length)) ∧
      ∃ v', PoolAt base p v' (dropT ts (ps.map strOfNums)) w' ∧ But (PoolS p v) w w' ∧ v'.ownBlock = v.ownBlock := by
  obtain ⟨A, c, rfl⟩ := h.form
  have bel0 : Below w.heap.size w (w.alloc (.cells #[.slice Aw nw cw] 41)) := (Below.refl _ _).alloc (Nat.le_refl _) _
  have h0 := h.below bel0
  have hc0 := h0.cell
  have hbox : Boxed (w.alloc (.cells #[.slice Aw nw cw] 41)) w.heap.size 41 (.slice Aw nw cw) := Boxed.new w 41 _
  have hdel : ∀ W, But (fun k => (Value.slice A ts.length c).ownBlock = some k) (w.alloc (.cells #[.slice Aw nw cw] 41)) W → W.cell? ⟨w.heap.size, 0, none⟩ = some (.slice Aw nw cw) ∧ Bss W (.slice Aw nw cw) ps := fun W hW =>
    ⟨(show Boxed W w.heap.size 41 (.slice Aw nw cw) from hW.blk hbox (own_not h0.own hbox (by decide))).cell, hst W ((But.of_below bel0).trans (hW.mono fun k _ e => .inr e))⟩
  have H0 := Lib.hid h0
  have HD := Lib.hid hdel
  have HP := Lib.hid h.hp
  have HB0 := Lib.hid bel0
  have hlen := dropT_len ts (ps.map strOfNums)
  have hne := h0.ne
  have HCB := Lib.hid (stay_all (ps.map strOfNums) ts)
  clear h h0 hbox hdel bel0 hst
  go_enter Tryd.func29, Tryd.ntmps29
  go_wp2_with fail
  refine (delete_any base ps ts A Aw c nw cw w.heap.size _ H0.out.own HD.out hz hzw).mono ?_
  rintro _ w2 ⟨m, rfl, hm, hown, hbut⟩
  rw [HCB.out] at hm hown
  have hpb : w2.heap[p]? = some (.cells #[.slice A ts.length c] 109 (0, 0)) := hbut.blk H0.out.blk (fun e => hne e.symm)
  have hc2 : w2.cell? ⟨p, 0, none⟩ = some (.slice A ts.length c) := by simp [World.cell?, hpb]
  have hf2 := free_blk hpb
  have HPB := Lib.hid hpb
  have HOW := Lib.hid hown
  have HBU := Lib.hid hbut
  have HM := Lib.hid hm
  have hml : m ≤ ts.length := by omega
  clear hpb hown hbut hc0 hm hlen
  go_wp2_with fail
  go_ret
  refine ⟨by rw [← HM.out]; rfl, .slice A m c, ?_, ?_, by cases A <;> rfl⟩
  · refine ⟨setCell_blk HPB.out, ?_, HP.out⟩
    rw [← HM.out]
    exact HOW.out.kept (grownBy_setCell' _ _ _) (.inr (fun e => hne (by rw [← e]; cases A <;> rfl)))
  · exact (But.of_below HB0.out).trans ((HBU.out.mono fun k _ e => .inr e).trans (But.setCellT (.inl rfl)))
end Go.Proofs.YtideopnblhbngaaDoor
