/- The chapter's example: the sum of "abc". -/
import Derived.Test.YtdedphhohiioiaaDoorBytes
import Derived.Lib.SlBytesConst
namespace Go.Proofs.YtdedphhohiioiaaDoor
open Go.RowKit

theorem sha_abc : (sha [97, 98, 99]).take 4 = [186, 120, 22, 191] := by kernel_rfl
theorem abc_ok : u8s_ok [97, 98, 99] := by unfold u8s_ok; decide

set_option maxHeartbeats 1000000 in
set_option maxRecDepth 100000 in
theorem alive_hash (w : World) (hk : w.rangeAt 18 0 (u32s kk)) (h18 : 18 < w.heap.size) :
    Calls Tryd.prog 25 #[] w fun e w' => e = .returned (.bool true) ∧ Below w.heap.size w w' := by
  have HK := Lib.hid hk
  clear hk
  have kc := fun (w : World) (C : Array Value) (n c : Nat) => Lib.run_convert_bytes_const (P := Tryd.prog) w 22 5 C n c Tryd.underlying22 Tryd.underlying5
  go_enter Tryd.func25, Tryd.ntmps25
  go_wp2_with fail
  refine (sumF_bs [97, 98, 99] _ _ (Bs.new w _ abc_ok (by decide) (3, 4)) (by decide) (range_below HK.out ((Below.refl _ _).alloc (Nat.le_refl _) _)) (by simp; omega)).mono ?_
  rintro e w1 ⟨rfl, hb1⟩
  obtain ⟨OUT, hOUT⟩ : ∃ o, o = sha [97, 98, 99] := ⟨_, rfl⟩
  have hol : OUT.length = 32 := by rw [hOUT, sha_len]
  have h4 : OUT.take 4 = [186, 120, 22, 191] := by rw [hOUT, sha_abc]
  have hi25 : (Tryd.prog.info? 25).map (·.size) = some (u8s OUT).length := by rw [u8s_len', hol]; exact Tryd.size25
  have hb2 : Below w.heap.size w w1 := ((Below.refl _ _).alloc (Nat.le_refl _) _).trans (hb1.mono (by simp))
  have hz : w.heap.size < w1.heap.size := by have := hb1.size; simp at this; omega
  rw [← hOUT]
  have H4 := Lib.hid h4
  have HI := Lib.hid hi25
  have HB := Lib.hid hb2
  have hol2 := Lib.hid hol
  clear hOUT hol h4 hi25 hb2 hb1
  have hat : ∀ (i : Nat) (x : Int), i < 4 → [186, 120, 22, 191][i]? = some x → (u8s OUT)[i]? = some (.int .u8 x) := fun i x hi hx => by
    rw [← H4.out, List.getElem?_take, if_pos hi] at hx
    simp [u8s, hx]
  have a0 := hat 0 _ (by decide) rfl
  have a1 := hat 1 _ (by decide) rfl
  have a2 := hat 2 _ (by decide) rfl
  have a3 := hat 3 _ (by decide) rfl
  have hh : ∀ Z : Array Value, Z.size = 32 → Has (w1.alloc (.cells Z 25)) w1.heap.size 25 (u8s OUT).length := fun Z hZ => has_new w1 _ _ _ (by rw [hZ, u8s_len', hol2.out])
  have HH := Lib.hid hh
  have A0 := Lib.hid a0
  have A1 := Lib.hid a1
  have A2 := Lib.hid a2
  have A3 := Lib.hid a3
  clear hat a0 a1 a2 a3 hh
  go_wp2_with (refine wpList_store_row rfl 25 (.tmp 1) (.tmp 4) rfl w1.heap.size rfl (u8s OUT) rfl 25 (HH.out _ rfl) HI.out (one_u8s _) ?_; intro w9 hp9; have c0 := blk_cell hp9.blk 0 _ A0.out; have c1 := blk_cell hp9.blk 1 _ A1.out; have c2 := blk_cell hp9.blk 2 _ A2.out; have c3 := blk_cell hp9.blk 3 _ A3.out; have bel := hp9.below (HB.out.alloc HB.out.size _) HB.out.size; have BEL := Lib.hid bel; clear bel hp9)
  go_ret
  exact ⟨rfl, BEL.out⟩
end Go.Proofs.YtdedphhohiioiaaDoor
