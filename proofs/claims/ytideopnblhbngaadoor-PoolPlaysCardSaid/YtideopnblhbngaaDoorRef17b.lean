/- The reference's pool: Take, Drop. -/
import Derived.Test.YtideopnblhbngaaDoorRef17
namespace Go.Proofs.YtideopnblhbngaaDoor
open Go.RowKit Go.Shelf

/-- What is taken of the first i. -/
def takeI (ts : List ByteArray) (nn : Int) (wo : List ByteArray) (i : Nat) : List ByteArray := takeT (ts.take i) nn wo
theorem takeI_le (ts : List ByteArray) (nn : Int) (wo : List ByteArray) (i : Nat) : (takeI ts nn wo i).length ≤ i := by
  unfold takeI takeT
  rw [List.length_take]
  have := List.length_filter_le (fun s => !inT wo s) (ts.take i)
  rw [List.length_take] at this
  omega
theorem takeI_succ {ts : List ByteArray} {nn : Int} {wo : List ByteArray} {i : Nat} (hi : i < ts.length) (X : ByteArray) (hX : X = ts.getD i ByteArray.empty) :
    takeI ts nn wo (i + 1) = if ((takeI ts nn wo i).length : Int) < nn ∧ inT wo X = false then takeI ts nn wo i ++ [X] else takeI ts nn wo i := by
  have ht : ts.take (i + 1) = ts.take i ++ [X] := by rw [List.take_succ_eq_append_getElem hi, hX]; simp [List.getD_eq_getElem?_getD, hi]
  unfold takeI takeT
  rw [ht, List.filter_append]
  obtain ⟨F, hF⟩ : ∃ F, F = (ts.take i).filter fun s => !inT wo s := ⟨_, rfl⟩
  rw [← hF]
  cases hin : inT wo X with
  | true => simp [hin]
  | false =>
    simp only [hin, Bool.not_false, List.filter_cons_of_pos, List.filter_nil, and_true]
    rw [List.length_take]
    by_cases h : ((min nn.toNat F.length : Nat) : Int) < nn
    · rw [if_pos h]
      have h1 : F.length < nn.toNat := by omega
      rw [List.take_of_length_le (by simp; omega), List.take_of_length_le (by omega)]
    · rw [if_neg h]
      by_cases h0 : nn.toNat = 0
      · rw [h0]; simp
      · rw [List.take_append_of_le_length (by omega)]

set_option maxHeartbeats 4000000 in
set_option maxRecDepth 100000 in
theorem refTake_any (base p : Nat) (v : Value) (ts wo : List ByteArray) (nn : Int) (Aw : Option Addr) (mw cw : Nat) (w : World) (h : RefAt base p v ts w) (hw : Txs w (.slice Aw mw cw) wo) (hz : ts.length ≤ 1000) (hz2 : mw ≤ 1000000) :
    Calls Tryd.prog 47 #[.pointer (some ⟨p, 0, none⟩), .int .i64 nn, .slice Aw mw cw] w fun e w' => ∃ A c, e = .returned (.slice A (takeT ts nn wo).length c) ∧ Txs w' (.slice A (takeT ts nn wo).length c) (takeT ts nn wo) ∧ Below w.heap.size w w' := by
  obtain ⟨A, c, rfl⟩ := h.form
  have bel0 : Below w.heap.size w (w.alloc (.cells #[] 9)) := (Below.refl _ _).alloc (Nat.le_refl _) _
  have hown0 : (w.alloc (.cells #[] 9)).ownsRow w.heap.size 9 1 (.slice (some ⟨w.heap.size, 0, none⟩) 0 0) 0 (strs (takeI ts nn wo 0)) := by
    rw [show takeI ts nn wo 0 = [] by simp [takeI, takeT]]
    exact own_empty w #[] rfl (Nat.le_refl _)
  have HW := Lib.hid hw
  have HX := Lib.hid (Txs.of_own h.own)
  have hc := (h.below bel0).cell
  have O0 := Lib.hid hown0
  have B0 := Lib.hid bel0
  obtain ⟨nt, hnt⟩ : ∃ l, l = ts.length := ⟨_, rfl⟩
  rw [← hnt] at hc hz HX
  have HNT := Lib.hid hnt
  clear h hw hown0 bel0 hnt
  go_enter Tryd.func47, Tryd.ntmps47
  go_wp2_with fail
  go_loopw [7, 9, 16] (fun s _ k wr => ∃ (i m c' : Nat) (A' : Option Addr), i ≤ nt ∧ s = .slice A' m c' ∧ k = .int .i64 i ∧ Hid (m = (takeI ts nn wo i).length) ∧ m ≤ i ∧ Hid (wr.ownsRow w.heap.size 9 1 (.slice A' m c') m (strs (takeI ts nn wo i))) ∧ Hid (Below w.heap.size w wr))
    (fun _ _ k _ => nt - (intOf k).toNat)
  case atStart => exact ⟨0, 0, 0, _, by omega, rfl, rfl, Lib.hid (by simp [takeI, takeT]), by omega, O0, B0⟩
  case round =>
    obtain ⟨i, m, c', A', hi, rfl, rfl, hm, hmi, hown, hbel⟩ := hrel
    by_cases hlt : i < nt
    · obtain ⟨b, off, rfl, hb, hr⟩ := (HX.out.below hbel.out).el i hlt
      have hi1 : i < ts.length := by rw [← HNT.out]; exact hlt
      obtain ⟨X, hX⟩ : ∃ X, X = ts.getD i ByteArray.empty := ⟨_, rfl⟩
      rw [← hX] at hr
      have HS := Lib.hid (takeI_succ (nn := nn) (wo := wo) hi1 X hX)
      have HWr := Lib.hid (HW.out.below hbel.out)
      have hil : (i : Int) < nt := by omega
      clear hX hb
      by_cases hmn : (m : Int) < nn
      · go_wp2_with fail
        refine (refHas_any wo X Aw mw cw wr HWr.out (by omega)).mono ?_
        rintro _ wr ⟨rfl, rfl⟩
        cases hin : inT wo X with
        | false =>
          have HE : Hid (takeI ts nn wo (i + 1) = takeI ts nn wo i ++ [X]) := Lib.hid (by rw [HS.out, if_pos ⟨by rw [← hm.out]; exact hmn, hin⟩])
          obtain ⟨L, hL⟩ : ∃ L, L = takeI ts nn wo i := ⟨_, rfl⟩
          rw [← hL] at hown hm HE
          clear hin hL HS
          go_wp2_with (at_builtin; refine app1 (w0 := w) w.heap.size rfl (.tmp 30) (.tmp 32) 65 9 (.string ByteArray.empty) 1 16 rfl Tryd.underlying65 Tryd.info9 rfl (by omega) (by omega) _ m (strs L) rfl 1 [.string X] rfl rfl (by simp [Value.oneCell']) hown.out hbel.out (by omega) hbel.out.size ?_; intro v5 w5 ap5; obtain ⟨g5, cap5, rfl⟩ := ownsRow_succ ap5.own; have O5 := Lib.hid ap5.own; have B5 := Lib.hid ap5.below; clear ap5)
          go_roundw
          case rel => exact ⟨i + 1, m + 1, _, _, by omega, rfl, by go_num, Lib.hid (by rw [HE.out, List.length_append, hm.out]; rfl), by omega, Lib.hid (by rw [HE.out]; have := O5.out; simpa [strs] using this), B5⟩
          case measure => simp [intOf]; omega
        | true =>
          have HE : Hid (takeI ts nn wo (i + 1) = takeI ts nn wo i) := Lib.hid (by rw [HS.out, if_neg (fun hh => by rw [hin] at hh; cases hh.2)])
          clear hin HS
          go_wp2_with fail
          go_roundw
          case rel => exact ⟨i + 1, m, _, _, by omega, rfl, by go_num, Lib.hid (by rw [HE.out]; exact hm.out), by omega, Lib.hid (by rw [HE.out]; exact hown.out), hbel⟩
          case measure => simp [intOf]; omega
      · have HE : Hid (takeI ts nn wo (i + 1) = takeI ts nn wo i) := Lib.hid (by rw [HS.out, if_neg (fun hh => hmn (by rw [hm.out]; exact hh.1))])
        clear HS
        go_wp2_with fail
        go_roundw
        case rel => exact ⟨i + 1, m, _, _, by omega, rfl, by go_num, Lib.hid (by rw [HE.out]; exact hm.out), by omega, Lib.hid (by rw [HE.out]; exact hown.out), hbel⟩
        case measure => simp [intOf]; omega
    · obtain rfl : i = nt := by omega
      have hT : takeI ts nn wo i = takeT ts nn wo := by unfold takeI; rw [List.take_of_length_le (by rw [← HNT.out]; exact Nat.le_refl _)]
      rw [hT] at hm hown
      have hmm := hm.out
      subst hmm
      go_wp2_with fail
      go_ret
      exact ⟨_, _, rfl, Txs.of_own hown.out, hbel.out⟩

set_option maxHeartbeats 4000000 in
set_option maxRecDepth 100000 in
theorem refDrop_any (base p : Nat) (v : Value) (ts wo : List ByteArray) (Aw : Option Addr) (mw cw : Nat) (w : World) (h : RefAt base p v ts w) (hw : Txs w (.slice Aw mw cw) wo) (hz : ts.length ≤ 1000) (hz2 : mw ≤ 1000000) (hb5 : base ≤ w.heap.size) :
    Calls Tryd.prog 48 #[.pointer (some ⟨p, 0, none⟩), .slice Aw mw cw] w fun e w' => e = .returned (.int .i64 ((ts.length : Int) - (dropT ts wo).length)) ∧
      ∃ v', RefAt base p v' (dropT ts wo) w' ∧ But (PoolS p v) w w' ∧ (∀ k, v'.ownBlock = some k → w.heap.size ≤ k) := by
  obtain ⟨A, c, rfl⟩ := h.form
  have bel0 : Below w.heap.size w (w.alloc (.cells #[] 9)) := (Below.refl _ _).alloc (Nat.le_refl _) _
  have hown0 : (w.alloc (.cells #[] 9)).ownsRow w.heap.size 9 1 (.slice (some ⟨w.heap.size, 0, none⟩) 0 0) 0 (strs (dropT (ts.take 0) wo)) := own_empty w #[] rfl (Nat.le_refl _)
  have HW := Lib.hid hw
  have HX := Lib.hid (Txs.of_own h.own)
  have H := Lib.hid h
  have hc := (h.below bel0).cell
  have O0 := Lib.hid hown0
  have B0 := Lib.hid bel0
  obtain ⟨nt, hnt⟩ : ∃ l, l = ts.length := ⟨_, rfl⟩
  rw [← hnt] at hc hz HX
  have HNT := Lib.hid hnt
  clear h hw hown0 bel0 hnt
  go_enter Tryd.func48, Tryd.ntmps48
  go_wp2_with fail
  go_loopw [5, 7, 15] (fun s _ k wr => ∃ (i m c' : Nat) (A' : Option Addr), i ≤ nt ∧ s = .slice A' m c' ∧ k = .int .i64 i ∧ Hid (m = (dropT (ts.take i) wo).length) ∧ m ≤ i ∧ Hid (wr.ownsRow w.heap.size 9 1 (.slice A' m c') m (strs (dropT (ts.take i) wo))) ∧ Hid (Below w.heap.size w wr))
    (fun _ _ k _ => nt - (intOf k).toNat)
  case atStart => exact ⟨0, 0, 0, _, by omega, rfl, rfl, Lib.hid rfl, by omega, O0, B0⟩
  case round =>
    obtain ⟨i, m, c', A', hi, rfl, rfl, hm, hmi, hown, hbel⟩ := hrel
    by_cases hlt : i < nt
    · obtain ⟨b, off, rfl, hb, hr⟩ := (HX.out.below hbel.out).el i hlt
      have hi1 : i < ts.length := by rw [← HNT.out]; exact hlt
      obtain ⟨X, hX⟩ : ∃ X, X = ts.getD i ByteArray.empty := ⟨_, rfl⟩
      rw [← hX] at hr
      have hS : dropT (ts.take (i + 1)) wo = if inT wo X then dropT (ts.take i) wo else dropT (ts.take i) wo ++ [X] := by
        have ht : ts.take (i + 1) = ts.take i ++ [X] := by rw [List.take_succ_eq_append_getElem hi1, hX]; simp [List.getD_eq_getElem?_getD, hi1]
        unfold dropT
        rw [ht, List.filter_append]
        cases h : inT wo X <;> simp [h]
      have HS := Lib.hid hS
      have HWr := Lib.hid (HW.out.below hbel.out)
      have hil : (i : Int) < nt := by omega
      clear hX hb hS
      go_wp2_with fail
      refine (refHas_any wo X Aw mw cw wr HWr.out (by omega)).mono ?_
      rintro _ wr ⟨rfl, rfl⟩
      cases hin : inT wo X with
      | false =>
        have HE : Hid (dropT (ts.take (i + 1)) wo = dropT (ts.take i) wo ++ [X]) := Lib.hid (by rw [HS.out, hin]; rfl)
        obtain ⟨L, hL⟩ : ∃ L, L = dropT (ts.take i) wo := ⟨_, rfl⟩
        rw [← hL] at hown hm HE
        clear hin hL HS
        go_wp2_with (at_builtin; refine app1 (w0 := w) w.heap.size rfl (.tmp 23) (.tmp 25) 65 9 (.string ByteArray.empty) 1 16 rfl Tryd.underlying65 Tryd.info9 rfl (by omega) (by omega) _ m (strs L) rfl 1 [.string X] rfl rfl (by simp [Value.oneCell']) hown.out hbel.out (by omega) hbel.out.size ?_; intro v5 w5 ap5; obtain ⟨g5, cap5, rfl⟩ := ownsRow_succ ap5.own; have O5 := Lib.hid ap5.own; have B5 := Lib.hid ap5.below; clear ap5)
        go_roundw
        case rel => exact ⟨i + 1, m + 1, _, _, by omega, rfl, by go_num, Lib.hid (by rw [HE.out, List.length_append, hm.out]; rfl), by omega, Lib.hid (by rw [HE.out]; have := O5.out; simpa [strs] using this), B5⟩
        case measure => simp [intOf]; omega
      | true =>
        have HE : Hid (dropT (ts.take (i + 1)) wo = dropT (ts.take i) wo) := Lib.hid (by rw [HS.out, hin]; rfl)
        clear hin HS
        go_wp2_with fail
        go_roundw
        case rel => exact ⟨i + 1, m, _, _, by omega, rfl, by go_num, Lib.hid (by rw [HE.out]; exact hm.out), by omega, Lib.hid (by rw [HE.out]; exact hown.out), hbel⟩
        case measure => simp [intOf]; omega
    · obtain rfl : i = nt := by omega
      rw [List.take_of_length_le (by rw [← HNT.out]; exact Nat.le_refl _)] at hm hown
      have H1 := H.out.below hbel.out
      have hc1 := H1.cell
      rw [← HNT.out] at hc1
      have hf1 := free_blk H1.blk
      have HB1 := Lib.hid H1.blk
      have hws : IntKind.i64.wrap ((i : Int) - m) = i - m := by rw [IntKind.wrap_i64]; omega
      have hpl : p < w.heap.size := blk_lt H.out.blk
      clear H1
      go_wp2_with fail
      go_ret
      refine ⟨by rw [← HNT.out, ← hm.out]; rfl, .slice A' m c', ⟨setCell_blk HB1.out, ?_, H.out.hp⟩, ?_, ?_⟩
      · rw [← hm.out]
        have := own_le (hown.out.kept (grownBy_setCell' wr p (.slice A' m c')) (.inr fun e => by have := (hown.out.lt p e).1; omega)) hb5
        exact this
      · exact (But.of_below hbel.out).trans (But.setCellT (.inl rfl))
      · exact fun k hk => (hown.out.lt k hk).1
end Go.Proofs.YtideopnblhbngaaDoor
