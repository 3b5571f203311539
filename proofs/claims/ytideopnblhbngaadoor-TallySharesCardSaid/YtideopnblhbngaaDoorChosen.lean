/- The places whose bits are set. -/
import Derived.Test.YtideopnblhbngaaDoorEnough
import Derived.Laws.Bits64b
import Derived.Laws.Bits64
namespace Go.Proofs.YtideopnblhbngaaDoor
open Go.RowKit Go.Shelf

def chosenN (n bits : Nat) : List Nat := (List.range n).filter fun i => bits.testBit i
def chosenL (n bits : Nat) : List Int := (chosenN n bits).map fun (i : Nat) => (i : Int)

theorem bit_eq (b i : Nat) (hb : b < 18446744073709551616) : (Go.bits .and .u64 ((b : Int) / 2 ^ i) 1 == 1) = b.testBit i := by
  have h1 : (b : Int) / 2 ^ i = ((b / 2 ^ i : Nat) : Int) := by norm_cast
  have h2 : b / 2 ^ i < 18446744073709551616 := Nat.lt_of_le_of_lt (Nat.div_le_self _ _) hb
  rw [h1, show (1 : Int) = ((1 : Nat) : Int) from rfl, bits_and_u64_nat _ _ h2 (by omega), Nat.and_one_is_mod, Nat.testBit_eq_decide_div_mod_eq, Bool.eq_iff_iff, beq_iff_eq, decide_eq_true_iff]
  norm_cast
theorem chosenN_succ (i b : Nat) : chosenN (i + 1) b = if b.testBit i then chosenN i b ++ [i] else chosenN i b := by
  unfold chosenN
  rw [List.range_succ, List.filter_append]
  by_cases h : b.testBit i = true <;> simp [h]
theorem chosenL_yes {i b : Nat} (h : b.testBit i = true) : chosenL (i + 1) b = chosenL i b ++ [(i : Int)] := by
  unfold chosenL
  rw [chosenN_succ, if_pos h, List.map_append]
  rfl
theorem chosenL_no {i b : Nat} (h : b.testBit i = false) : chosenL (i + 1) b = chosenL i b := by
  unfold chosenL
  rw [chosenN_succ, if_neg (by rw [h]; simp)]
theorem chosenL_len (i b : Nat) : (chosenL i b).length ≤ i := by
  unfold chosenL chosenN
  rw [List.length_map]
  exact Nat.le_trans (List.length_filter_le _ _) (by simp)

theorem Tryd.info3 : (Tryd.prog.info? 3).map (fun i => (i.zero, i.size, i.bytes)) = some (some (Value.int .i64 0), 1, 8) := by kernel_rfl

set_option maxHeartbeats 4000000 in
set_option maxRecDepth 100000 in
theorem chosen_any (A : Option Addr) (n c : Nat) (bits : Nat) (hbt : bits < 18446744073709551616) (w : World) (hz : n ≤ 60) :
    Calls Tryd.prog 19 #[.slice A n c, .int .u64 bits] w fun e w' => ∃ A' m c', e = .returned (.slice A' m c') ∧ Ins w' (.slice A' m c') (chosenL n bits) ∧ Below w.heap.size w w' := by

  have hbel0 : Below w.heap.size w (w.alloc (.cells #[] 3)) := (Below.refl _ _).alloc (Nat.le_refl _) _
  have hown0 : (w.alloc (.cells #[] 3)).ownsRow w.heap.size 3 1 (.slice (some ⟨w.heap.size, 0, none⟩) 0 0) 0 (i64s (chosenL 0 bits)) := own_empty w #[] rfl (Nat.le_refl _)
  have O0 := Lib.hid hown0
  have B0 := Lib.hid hbel0
  clear hown0 hbel0
  go_enter Tryd.func19, Tryd.ntmps19
  go_wp2_with fail
  go_loopw [5, 10] (fun s k wr => ∃ (i m c' : Nat) (A' : Option Addr), i ≤ n ∧ s = .slice A' m c' ∧ m = (chosenL i bits).length ∧ k = .int .i64 i ∧ Hid (wr.ownsRow w.heap.size 3 1 (.slice A' m c') m (i64s (chosenL i bits))) ∧ Hid (Below w.heap.size w wr))
    (fun _ k _ => n - (intOf k).toNat)
  case atStart => exact ⟨0, 0, 0, _, by omega, rfl, rfl, rfl, O0, B0⟩
  case round =>
    obtain ⟨i, m, c', A', hi, rfl, hm, rfl, hown, hbel⟩ := hrel
    by_cases hlt : i < n
    · have hil : (i : Int) < n := by omega
      have hbe := bit_eq bits i hbt
      cases htb : bits.testBit i with
      | true =>
        rw [htb] at hbe
        have HNX := Lib.hid (chosenL_yes htb)
        have HLN := Lib.hid (chosenL_len i bits)
        obtain ⟨L, hL⟩ : ∃ L, L = chosenL i bits := ⟨_, rfl⟩
        rw [← hL] at hm hown HNX HLN
        have HM := Lib.hid hm
        clear htb hL hm
        go_wp2_with (at_builtin; refine app1 (w0 := w) w.heap.size rfl (.tmp 18) (.tmp 20) 28 3 (.int .i64 0) 1 8 rfl Tryd.underlying28 Tryd.info3 rfl (by omega) (by omega) _ m (i64s L) rfl 1 [.int .i64 i] rfl rfl (by simp [Value.oneCell']) hown.out hbel.out (by have := HLN.out; have := HM.out; omega) hbel.out.size ?_; intro v5 w5 ap5; obtain ⟨g5, cap5, rfl⟩ := ownsRow_succ ap5.own; have O5 := Lib.hid ap5.own; have B5 := Lib.hid ap5.below; clear ap5)
        go_roundw
        case rel => exact ⟨i + 1, m + 1, _, _, by omega, rfl, by rw [HNX.out, List.length_append, HM.out]; rfl, by go_num, Lib.hid (by rw [HNX.out]; have := O5.out; simpa [i64s] using this), B5⟩
        case measure => simp [intOf]; omega
      | false =>
        rw [htb] at hbe
        have HNX := Lib.hid (chosenL_no htb)
        clear htb
        go_wp2_with fail
        go_roundw
        case rel => exact ⟨i + 1, m, _, _, by omega, rfl, by rw [HNX.out]; exact hm, by go_num, Lib.hid (by rw [HNX.out]; exact hown.out), hbel⟩
        case measure => simp [intOf]; omega
    · obtain rfl : i = n := by omega
      go_wp2_with fail
      go_ret
      exact ⟨_, _, _, rfl, Ins.of_own hown.out, hbel.out⟩
end Go.Proofs.YtideopnblhbngaaDoor
