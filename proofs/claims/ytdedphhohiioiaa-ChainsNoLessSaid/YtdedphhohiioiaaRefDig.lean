/- What quorateref03.Digits does. -/
import Derived.Test.YtdedphhohiioiaaDig
namespace Go.Proofs.Ytdedphhohiioiaa
open Go.RowKit

theorem unit_at (wo : World) (j : Nat) (hj : j < 4) : (wo.alloc (.cells #[.int .i64 64, .int .i64 16, .int .i64 4, .int .i64 1] 3)).cell? ⟨wo.heap.size, j, none⟩ = some (.int .i64 ([64, 16, 4, 1].getD j 0)) := by
  rw [cell_of_row _ _ _ _ _ _ (heap_alloc_new wo _)]
  have h : j = 0 ∨ j = 1 ∨ j = 2 ∨ j = 3 := by omega
  rcases h with rfl | rfl | rfl | rfl <;> rfl

set_option maxHeartbeats 1000000 in
theorem refDigits_any (bs : List Int) (hl : bs.length = 16) (hb : ∀ b ∈ bs, 0 ≤ b ∧ b ≤ 255) (w : World) :
    Calls Try.prog 8 #[.agg (u8s bs).toArray] w fun e w' => ∃ v, e = .returned v ∧ w'.ownsRow w.heap.size 3 1 v 68 (i64s (digits bs)) ∧ Below w.heap.size w w' := by
  obtain ⟨i0, hi, hz0, hz1, hz2⟩ := info_parts Try.info3
  have hs : (Try.prog.info? 23).map (·.size) = some (u8s bs).toArray.size := by rw [Try.size23]; simp [u8s, hl]
  have HL := Lib.hid hl
  have HS := Lib.hid hs
  clear hl hs
  go_enter Try.func8, Try.ntmps8
  go_wp2_with (refine wpList_load_row rfl 23 (.tmp 1) rfl w.heap.size rfl 23 (u8s bs).toArray (0,0) _ (by first | exact heap_alloc_new w _ | exact heap_alloc2_old w _ _) Try.underlying23 rfl HS.out ?_)
  go_loopw [3, 4, 6, 7, 9, 10, 13, 18] (fun v s _ _ _ _ i _ wr => ∃ (k : Nat) (m : Int), k ≤ 16 ∧ i = .int .i64 k ∧ wr.ownsRow w.heap.size 3 1 v (4 * k) (i64s (top (bs.take k))) ∧ s = .int .i64 m ∧ m = lack (top (bs.take k)) ∧ Below w.heap.size w wr)
    (fun _ _ _ _ _ _ i _ _ => 16 - (intOf i).toNat)
  case atStart => exact ⟨0, 0, by omega, rfl, by have := own_empty (base := w.heap.size) (e := 3) (w.alloc (.cells (u8s bs).toArray 23)) #[] rfl (by simp); simpa [top, i64s] using this, rfl, rfl, ((Below.refl _ _).alloc (Nat.le_refl _) _).alloc (by simp) _⟩
  case round =>
    obtain ⟨k, m, hk, rfl, hown, rfl, hm, hbl⟩ := hrel
    by_cases hlt : k < 16
    · have HM0 := Lib.hid hm
      clear hm
      obtain ⟨b, hbd⟩ : ∃ b, b = bs.getD k 0 := ⟨_, rfl⟩
      have hbk : (u8s bs).toArray[(k : Int).toNat]? = some (.int .u8 b) := by
        have := HL.out
        simp [u8s, hbd, List.getElem?_eq_getElem (show k < bs.length by omega)]
      have hb0 : 0 ≤ b ∧ b ≤ 255 := by
        have := HL.out
        rw [hbd, List.getD_eq_getElem?_getD, List.getElem?_eq_getElem (show k < bs.length by omega)]
        exact hb _ (List.getElem_mem _)
      have HB := Lib.hid hbd
      have HBK := Lib.hid hbk
      clear hbd hbk
      go_wp2_with (refine wpList_index_arr rfl 23 5 16 (.tmp 12) (.tmp 13) rfl (u8s bs).toArray .i64 k (.int .u8 b) rfl rfl Try.underlying23 _ Try.underlying5 rfl Try.size5 (by omega) (by omega) HBK.out ?_)
      obtain ⟨wo, rfl⟩ : ∃ wo : World, wo = wr := ⟨_, rfl⟩
      go_loopw [3, 4, 9, 10, 20] (fun v s _ _ i wr => ∃ (j : Nat) (m : Int), j ≤ 4 ∧ i = .int .i64 j ∧ wr.ownsRow w.heap.size 3 1 v (4 * k + j) (i64s (top (bs.take k) ++ (four b).take j)) ∧ s = .int .i64 m ∧ m = lack (top (bs.take k) ++ (four b).take j) ∧ Below w.heap.size w wr ∧
          wr.heap[wo.heap.size]? = some (.cells #[.int .i64 64, .int .i64 16, .int .i64 4, .int .i64 1] 3 (0, 0)) ∧ v.ownBlock ≠ some wo.heap.size)
        (fun _ _ _ _ i _ => 4 - (intOf i).toNat)
      case atStart => exact ⟨0, _, by omega, rfl, by simpa using hown.alloc _, rfl, by simpa using HM0.out, hbl.alloc hbl.size _, heap_alloc_new _ _, fun e => by have := hown.lt _ e; omega⟩
      case round =>
        obtain ⟨j, m, hj, rfl, hown, rfl, hm, hbl, hU, hne⟩ := hrel
        have hlen := dig_bd bs k j b (by omega) hj
        rw [← hm] at hlen
        have HM := Lib.hid hm
        clear hm
        have hj4 : j = 0 ∨ j = 1 ∨ j = 2 ∨ j = 3 ∨ j = 4 := by omega
        have hc0 := cell_of_row wr _ 0 _ _ _ hU
        have hc1 := cell_of_row wr _ 1 _ _ _ hU
        have hc2 := cell_of_row wr _ 2 _ _ _ hU
        have hc3 := cell_of_row wr _ 3 _ _ _ hU
        simp at hc0 hc1 hc2 hc3
        rcases hj4 with rfl | rfl | rfl | rfl | rfl
        · have ha : b / 64 % 4 = b / 64 % 4 := by omega
          go_wp2_with (first | (at_builtin; refine app1 w.heap.size rfl (.tmp 28) (.tmp 30) 26 3 (.int .i64 0) 1 8 rfl Try.underlying26 Try.info3 rfl (by omega) (by omega) _ _ _ rfl 1 [.int .i64 _] rfl rfl (by simp [Value.oneCell']) hown hbl (by omega) hbl.size ?_; intro v' w1 hap))
          go_roundw
          case rel => exact ⟨1, _, by omega, rfl, by simpa [i64s, four] using hap.own, rfl, by have := HM.out; simp only [lack_append, four, lack, List.take] at this ⊢; omega, hap.below, hap.blk hU hne, hap.ne (Array.getElem?_eq_some_iff.1 hU).1 hne⟩
          case measure => simp [intOf]
        · have ha : b / 16 % 4 = b / 16 % 4 := by omega
          go_wp2_with (first | (at_builtin; refine app1 w.heap.size rfl (.tmp 28) (.tmp 30) 26 3 (.int .i64 0) 1 8 rfl Try.underlying26 Try.info3 rfl (by omega) (by omega) _ _ _ rfl 1 [.int .i64 _] rfl rfl (by simp [Value.oneCell']) hown hbl (by omega) hbl.size ?_; intro v' w1 hap))
          go_roundw
          case rel => exact ⟨2, _, by omega, rfl, by simpa [i64s, four] using hap.own, rfl, by have := HM.out; simp only [lack_append, four, lack, List.take] at this ⊢; omega, hap.below, hap.blk hU hne, hap.ne (Array.getElem?_eq_some_iff.1 hU).1 hne⟩
          case measure => simp [intOf]
        · have ha : b / 4 % 4 = b / 4 % 4 := by omega
          go_wp2_with (first | (at_builtin; refine app1 w.heap.size rfl (.tmp 28) (.tmp 30) 26 3 (.int .i64 0) 1 8 rfl Try.underlying26 Try.info3 rfl (by omega) (by omega) _ _ _ rfl 1 [.int .i64 _] rfl rfl (by simp [Value.oneCell']) hown hbl (by omega) hbl.size ?_; intro v' w1 hap))
          go_roundw
          case rel => exact ⟨3, _, by omega, rfl, by simpa [i64s, four] using hap.own, rfl, by have := HM.out; simp only [lack_append, four, lack, List.take] at this ⊢; omega, hap.below, hap.blk hU hne, hap.ne (Array.getElem?_eq_some_iff.1 hU).1 hne⟩
          case measure => simp [intOf]
        · have ha : b / 1 % 4 = b % 4 := by omega
          go_wp2_with (first | (at_builtin; refine app1 w.heap.size rfl (.tmp 28) (.tmp 30) 26 3 (.int .i64 0) 1 8 rfl Try.underlying26 Try.info3 rfl (by omega) (by omega) _ _ _ rfl 1 [.int .i64 _] rfl rfl (by simp [Value.oneCell']) hown hbl (by omega) hbl.size ?_; intro v' w1 hap))
          go_roundw
          case rel => exact ⟨4, _, by omega, rfl, by simpa [i64s, four] using hap.own, rfl, by have := HM.out; simp only [lack_append, four, lack, List.take] at this ⊢; omega, hap.below, hap.blk hU hne, hap.ne (Array.getElem?_eq_some_iff.1 hU).1 hne⟩
          case measure => simp [intOf]
        · clear hj
          go_wp2
          go_roundw
          case rel =>
            have hlen := HL.out
            have e : top (bs.take (k + 1)) = top (bs.take k) ++ (four b).take 4 := by
              have hbd := HB.out
              rw [List.getD_eq_getElem?_getD, List.getElem?_eq_getElem (show k < bs.length by omega)] at hbd
              simp only [Option.getD_some] at hbd
              rw [top_take_succ bs k (by omega), ← hbd]; rfl
            exact ⟨k + 1, _, by omega, by go_num, by rw [e]; exact hown, rfl, by rw [e]; exact HM.out, hbl⟩
          case measure => simp [intOf]; omega
    · have hlen := HL.out
      have hk16 : 4 * k = 64 := by omega
      rw [List.take_of_length_le (by omega)] at hown hm
      rw [hk16] at hown
      clear hk16
      have hbd := lack_range (top bs) (top_range bs)
      rw [← hm, top_len] at hbd
      have HM := Lib.hid hm
      clear hm
      have hbd2 : 0 ≤ m ∧ m ≤ 192 := by omega
      clear hbd hlen
      have hq : m / 64 = m / 64 % 4 := by omega
      have HQ := Lib.hid hq
      clear hq
      go_wp2_with (first | (at_builtin; refine app1 w.heap.size rfl (.tmp 38) (.tmp 49) 26 3 (.int .i64 0) 1 8 rfl Try.underlying26 Try.info3 rfl (by omega) (by omega) _ _ _ rfl 4 [.int .i64 (m / 64), .int .i64 (m / 16 % 4), .int .i64 (m / 4 % 4), .int .i64 (m % 4)] rfl rfl (by simp [Value.oneCell']) hown hbl (by omega) hbl.size ?_; intro v' w1 hap))
      go_ret
      exact ⟨_, rfl, by have := HM.out; rw [digits, ← this]; have h2 := hap.own; rw [HQ.out] at h2; simpa [i64s, last4] using h2, hap.below⟩
end Go.Proofs.Ytdedphhohiioiaa
