/- The reference's Texts. -/
import Derived.Test.YtideopnblhbngaaDoorKept
namespace Go.Proofs.YtideopnblhbngaaDoor
open Go.RowKit

set_option maxHeartbeats 4000000 in
set_option maxRecDepth 100000 in
theorem texts_any (ps : List (List Int)) (A : Option Addr) (n c : Nat) (w : World) (hx : Bss w (.slice A n c) ps) (hz : n ≤ 1000) :
    Calls Tryd.prog 46 #[.slice A n c] w fun e w' => ∃ A' c', e = .returned (.slice A' n c') ∧ w'.ownsRow w.heap.size 9 1 (.slice A' n c') n (strs (ps.map strOfNums)) ∧ Below w.heap.size w w' := by
  have hbel0 : Below w.heap.size w (w.alloc (.cells #[] 9)) := (Below.refl _ _).alloc (Nat.le_refl _) _
  have hown0 : (w.alloc (.cells #[] 9)).ownsRow w.heap.size 9 1 (.slice (some ⟨w.heap.size, 0, none⟩) 0 0) 0 (strs ((ps.map strOfNums).take 0)) := own_empty w #[] rfl (Nat.le_refl _)
  have O0 := Lib.hid hown0
  have B0 := Lib.hid hbel0
  have HX := Lib.hid hx
  have HN := Lib.hid hx.len
  clear hown0 hbel0 hx
  go_enter Tryd.func46, Tryd.ntmps46
  go_wp2_with fail
  go_loopw [3, 9] (fun s k wr => ∃ (i c' : Nat) (A' : Option Addr), i ≤ n ∧ s = .slice A' i c' ∧ k = .int .i64 i ∧ Hid (wr.ownsRow w.heap.size 9 1 (.slice A' i c') i (strs ((ps.map strOfNums).take i))) ∧ Hid (Below w.heap.size w wr))
    (fun _ k _ => n - (intOf k).toNat)
  case atStart => exact ⟨0, 0, _, by omega, rfl, rfl, O0, B0⟩
  case round =>
    obtain ⟨i, c', A', hi, rfl, rfl, hown, hbel⟩ := hrel
    by_cases hlt : i < n
    · have hil : (i : Int) < n := by omega
      obtain ⟨b, off, B1, m1, d1, rfl, ra, ea⟩ := (HX.out.below hbel.out).el i hlt
      have hi1 : i < (ps.map strOfNums).length := by have := HN.out; simp; omega
      have hnx : (ps.map strOfNums).take (i + 1) = (ps.map strOfNums).take i ++ [strOfNums (ps.getD i [])] := by
        rw [List.take_succ_eq_append_getElem hi1]
        simp [List.getD_eq_getElem?_getD, List.getElem?_eq_getElem (show i < ps.length by simpa using hi1)]
      have HNX := Lib.hid hnx
      have HEA := Lib.hid ea
      have hln : ((ps.map strOfNums).take i).length = i := by rw [List.length_take]; omega
      obtain ⟨S, hS⟩ : ∃ S, S = strOfNums (ps.getD i []) := ⟨_, rfl⟩
      obtain ⟨L, hL⟩ : ∃ L, L = (ps.map strOfNums).take i := ⟨_, rfl⟩
      rw [← hL] at hln hown HNX
      rw [← hS] at HNX
      have HLN := Lib.hid hln
      have ES := Lib.hid hS
      clear ea hnx hln hS hL hi1
      go_wp2_with first | (refine wpList_conv_str (by rfl) (.tmp 14) rfl _ _ rfl HEA.out ?_; rw [← ES.out]) | (at_builtin; refine app1 (w0 := w) w.heap.size rfl (.tmp 13) (.tmp 16) 65 9 (.string ByteArray.empty) 1 16 rfl Tryd.underlying65 Tryd.info9 rfl (by omega) (by omega) _ i (strs L) rfl 1 [.string S] rfl rfl (by simp [Value.oneCell']) hown.out hbel.out (by omega) hbel.out.size ?_; intro v5 w5 ap5; obtain ⟨g5, cap5, rfl⟩ := ownsRow_succ ap5.own; have O5 := Lib.hid ap5.own; have B5 := Lib.hid ap5.below; clear ap5)
      go_roundw
      case rel => exact ⟨i + 1, _, _, by omega, rfl, by go_num, Lib.hid (by rw [HNX.out]; have := O5.out; simpa [strs] using this), B5⟩
      case measure => simp [intOf]; omega
    · obtain rfl : i = n := by omega
      go_wp2_with fail
      go_ret
      exact ⟨_, _, rfl, by have := hown.out; rwa [List.take_of_length_le (by rw [List.length_map, ← HN.out]; exact Nat.le_refl _)] at this, hbel.out⟩
end Go.Proofs.YtideopnblhbngaaDoor
