/- What the reference's Text and one do. -/
import Derived.Test.YtdedphhohiioiaaDoorRun
namespace Go.Proofs.YtdedphhohiioiaaDoor
open Go.RowKit

theorem one_ok (z : Int) : u8s_ok [z % 256] := fun b hb => by simp at hb; rw [hb]; unfold B8; omega

set_option maxHeartbeats 4000000 in
set_option maxRecDepth 100000 in
theorem one_any (z : Int) (w : World) : Calls Tryd.prog 78 #[.int .i64 z] w fun e w' => e = .returned (.string (strOfNums [z % 256])) ∧ Below w.heap.size w w' := by
  go_enter Tryd.func78, Tryd.ntmps78
  go_wp2_with (refine wpList_conv_str rfl (.tmp 5) rfl (.slice (some ⟨w.heap.size, 0, none⟩) 1 1) [z % 256] rfl (Bs.new1 w z) ?_)
  go_ret
  exact ⟨rfl, (Below.refl _ _).alloc (Nat.le_refl _) _⟩

set_option maxHeartbeats 4000000 in
set_option maxRecDepth 100000 in
theorem text_any (x : List Int) (hl : x.length = 16) (hx : u8s_ok x) (w : World) :
    Calls Tryd.prog 77 #[.agg (u8s x).toArray] w fun e w' => e = .returned (.string (strOfNums x)) ∧ Below w.heap.size w w' := by
  have HL := Lib.hid hl
  have HX := Lib.hid hx
  have hi43 : (Tryd.prog.info? 43).map (·.size) = some (u8s x).length := by rw [u8s_len', hl]; exact Tryd.size43
  have HI := Lib.hid hi43
  clear hl hx hi43
  have hra : ((w.alloc (.cells (u8s x).toArray 43)).alloc (.cells #[] 5)).rangeAt w.heap.size 0 (u8s x) := World.rangeAt_alloc (range_new w (u8s x) 43) _
  have HRA := Lib.hid hra
  clear hra
  go_enter Tryd.func77, Tryd.ntmps77
  go_wp2_with (refine wpList_load_g rfl 43 (.tmp 1) rfl w.heap.size 0 rfl (u8s x) _ HRA.out Tryd.underlying43 rfl HI.out ?_)
  have hown0 : OwnO ((w.alloc (.cells (u8s x).toArray 43)).alloc (.cells #[] 5)) w.heap.size 5 (.slice (some ⟨w.heap.size + 1, 0, none⟩) 0 0) (u8s (x.take 0)) := by
    have := own_mk (w := (w.alloc (.cells (u8s x).toArray 43)).alloc (.cells #[] 5)) (base := w.heap.size) (e := 5) (c := 0) (w.alloc (.cells (u8s x).toArray 43)) (by simp) #[] rfl (by simp) rfl
    rw [World.size_alloc] at this
    exact this
  have hbel0 : Below w.heap.size w ((w.alloc (.cells (u8s x).toArray 43)).alloc (.cells #[] 5)) := ((Below.refl _ _).alloc (Nat.le_refl _) _).alloc (by simp) _
  have O0 := Lib.hid hown0
  have B0 := Lib.hid hbel0
  clear hown0 hbel0
  go_loopw [3, 8] (fun s k wr => ∃ (i c' : Nat) (A' : Option Addr), i ≤ 16 ∧ s = .slice A' i c' ∧ k = .int .i64 i ∧ Hid (OwnO wr w.heap.size 5 s (u8s (x.take i))) ∧ Hid (Below w.heap.size w wr))
    (fun _ k _ => 16 - (intOf k).toNat)
  case atStart => exact ⟨0, 0, _, by omega, rfl, rfl, O0, B0⟩
  case round =>
    clear O0 B0
    obtain ⟨i, c1, A1, hi, rfl, rfl, hown, hbel⟩ := hrel
    by_cases hlt : i < 16
    · have hlx := HL.out
      obtain ⟨b, hb⟩ : ∃ b, b = x.getD i 0 := ⟨_, rfl⟩
      have hbk : (u8s x).toArray[(i : Int).toNat]? = some (.int .u8 b) := by
        simp [u8s, hb, List.getD_eq_getElem?_getD, List.getElem?_eq_getElem (show i < x.length by omega)]
      have htk : x.take (i + 1) = x.take i ++ [b] := by rw [hb]; exact take_add x i (by omega)
      have hrl : (x.take i).length = i := by rw [List.length_take]; omega
      have HBK := Lib.hid hbk
      have HTK := Lib.hid htk
      have HRL := Lib.hid hrl
      clear hbk htk hrl hb hlx
      go_wp2_with (first | (refine wpList_index_arr rfl 43 5 16 (.tmp 7) (.tmp 8) rfl (u8s x).toArray .i64 i (.int .u8 b) rfl rfl Tryd.underlying43 _ Tryd.underlying5 rfl (by kernel_rfl) (by omega) (by omega) HBK.out ?_) | (at_builtin; refine appO (w0 := w) w.heap.size rfl (.tmp 11) (.tmp 13) 22 22 5 (.int .u8 0) 1 rfl Tryd.underlying22 Tryd.info5 rfl (by omega) _ _ rfl _ 1 [.int .u8 b] rfl (src_new wr 5 [.int .u8 b] 1 rfl Tryd.underlying22 (by simp [Value.oneCell'])) (hown.out.below ((Below.refl _ _).alloc (Nat.le_refl _) _)) (hbel.out.alloc hbel.out.size _) (by have := hbel.out.size; simp; omega) (by rw [u8s_len', HRL.out]; omega) ?_; intro v5 w5 ap5; obtain ⟨A5, c5, rfl, O5, B5⟩ := ap5.byte HRL.out; clear ap5))
      go_roundw
      case rel => exact ⟨i + 1, c5, A5, by omega, rfl, by go_num, Lib.hid (by rw [HTK.out]; exact O5.out), B5⟩
      case measure => simp [intOf]; omega
    · obtain rfl : i = 16 := by omega
      have htk : x.take 16 = x := List.take_of_length_le (by rw [HL.out]; exact Nat.le_refl _)
      rw [htk] at hown
      have hbs : Bs wr (.slice A1 16 c1) x := Bs.of_own hown.out HX.out
      have HBS := Lib.hid hbs
      clear htk hown hbs
      go_wp2_with (refine wpList_conv_str rfl (.tmp 16) rfl (.slice A1 16 c1) x rfl HBS.out ?_)
      go_ret
      exact ⟨rfl, hbel.out⟩
end Go.Proofs.YtdedphhohiioiaaDoor
