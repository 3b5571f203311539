/- What chains.Digits does. -/
import Derived.Test.YtdedphhohiioiaaDoorOf
import Derived.Test.YtdedphhohiioiaaDoorPlain
import Derived.Test.YtdedphhohiioiaaDoorOps
namespace Go.Proofs.YtdedphhohiioiaaDoor
open Go.RowKit

theorem Tryd.info3 : (Tryd.prog.info? 3).map (fun i => (i.zero, i.size, i.bytes)) = some (some (.int .i64 0), 1, 8) := by kernel_rfl
theorem Tryd.size5 : (Tryd.prog.info? 5).map (·.size) = some 1 := by kernel_rfl


set_option maxHeartbeats 4000000 in
set_option maxRecDepth 100000 in
theorem digits_any (bs : List Int) (hl : bs.length = 16) (hb : ∀ b ∈ bs, 0 ≤ b ∧ b ≤ 255) (w : World) :
    Calls Tryd.prog 49 #[.agg (u8s bs).toArray] w fun e w' => ∃ v, e = .returned v ∧ w'.ownsRow w.heap.size 3 1 v 68 (i64s (digits bs)) ∧ Below w.heap.size w w' := by
  obtain ⟨i0, hi, hz0, hz1, hz2⟩ := info_parts Tryd.info3
  have hs : (Tryd.prog.info? 43).map (·.size) = some (u8s bs).toArray.size := by rw [Tryd.size43]; simp [u8s, hl]
  have HL := Lib.hid hl
  have HS := Lib.hid hs
  clear hl hs
  go_enter Tryd.func49, Tryd.ntmps49
  go_wp2_with (refine wpList_load_row rfl 43 (.tmp 1) rfl w.heap.size rfl 43 (u8s bs).toArray (0,0) _ (heap_alloc_new w _) Tryd.underlying43 rfl HS.out ?_)
  go_loopw [3, 4, 6, 7, 8, 11, 13] (fun v s _ _ _ i _ wr => ∃ (k : Nat) (m : Int), k ≤ 16 ∧ i = .int .i64 k ∧ wr.ownsRow w.heap.size 3 1 v (4 * k) (i64s (top (bs.take k))) ∧ s = .int .i64 m ∧ m = lack (top (bs.take k)) ∧ Below w.heap.size w wr)
    (fun _ _ _ _ _ i _ _ => 16 - (intOf i).toNat)
  case atStart => exact ⟨0, 0, by omega, rfl, World.ownsRow_nil _ _ _ _, rfl, rfl, (Below.refl _ _).alloc (Nat.le_refl _) _⟩
  case round =>
    obtain ⟨k, m, hk, rfl, hown, rfl, hm, hbl⟩ := hrel
    by_cases hlt : k < 16
    · have HM0 := Lib.hid hm
      clear hm
      obtain ⟨b, hbd⟩ : ∃ b, b = bs.getD k 0 := ⟨_, rfl⟩
      have hbk : (u8s bs).toArray[(k : Int).toNat]? = some (.int .u8 b) := by
        have := HL.out
        simp [u8s, hbd, List.getElem?_eq_getElem (show k < bs.length by omega)]
      have hb0 : 0 ≤ b ∧ b ≤ 255 := by
        have := HL.out
        rw [hbd, List.getD_eq_getElem?_getD, List.getElem?_eq_getElem (show k < bs.length by omega)]
        exact hb _ (List.getElem_mem _)
      have HB := Lib.hid hbd
      have HBK := Lib.hid hbk
      clear hbd hbk
      go_wp2_with (refine wpList_index_arr rfl 43 5 16 (.tmp 10) (.tmp 11) rfl (u8s bs).toArray .i64 k (.int .u8 b) rfl rfl Tryd.underlying43 _ Tryd.underlying5 rfl Tryd.size5 (by omega) (by omega) HBK.out ?_)
      obtain ⟨wo, rfl⟩ : ∃ wo : World, wo = wr := ⟨_, rfl⟩
      go_loopw [3, 4, 7, 8] (fun v s sh _ wr => ∃ (j : Nat) (n m : Int), n + 2 * j = 6 ∧ j ≤ 4 ∧ sh = .int .i64 n ∧ wr.ownsRow w.heap.size 3 1 v (4 * k + j) (i64s (top (bs.take k) ++ (four b).take j)) ∧ s = .int .i64 m ∧ m = lack (top (bs.take k) ++ (four b).take j) ∧ Below w.heap.size w wr)
        (fun _ _ sh _ _ => ((intOf sh) + 2).toNat)
      case atStart => exact ⟨0, 6, _, by omega, by omega, rfl, by simpa using hown, rfl, by simpa using HM0.out, hbl⟩
      case round =>
        obtain ⟨j, n, m, hn, hj, rfl, hown, rfl, hm, hbl⟩ := hrel
        have hlen := dig_bd bs k j b (by omega) hj
        rw [← hm] at hlen
        have HM := Lib.hid hm
        clear hm
        by_cases hlt : j < 4
        · have hj4 : j = 0 ∨ j = 1 ∨ j = 2 ∨ j = 3 := by omega
          rcases hj4 with rfl | rfl | rfl | rfl
          · obtain rfl : n = 6 := by omega
            clear hn
            have ha := i64_and3 (b / 64) (by omega) (by omega)
            go_wp2_with (first | (at_builtin; refine wpList_append_own _ rfl _ _ 69 rfl w.heap.size 3 i0 (.int .i64 0) 1 8 Tryd.underlying69 hi hz0 hz1 hz2 rfl (by decide) _ _ _ rfl (hown.alloc _) ⟨wr.heap.size, 0, none⟩ 1 1 [.int .i64 (b / 64 % 4)] rfl rfl (cell_one_new _ _ _) (by simp [Value.oneCell']) (by unfold maxLen; omega) (by omega) (by have := hbl.size; simp; omega) ?_; intro v' w1 hown' hgrow' _))
            go_roundw
            case rel => exact ⟨1, _, _, by omega, by omega, rfl, by simpa [i64s, four] using hown', rfl, by have := HM.out; simp only [lack_append, four, lack, List.take] at this ⊢; omega, below_app hbl hbl.size hown hgrow'⟩
            case measure => simp [intOf]
          · obtain rfl : n = 4 := by omega
            clear hn
            have ha := i64_and3 (b / 16) (by omega) (by omega)
            go_wp2_with (first | (at_builtin; refine wpList_append_own _ rfl _ _ 69 rfl w.heap.size 3 i0 (.int .i64 0) 1 8 Tryd.underlying69 hi hz0 hz1 hz2 rfl (by decide) _ _ _ rfl (hown.alloc _) ⟨wr.heap.size, 0, none⟩ 1 1 [.int .i64 (b / 16 % 4)] rfl rfl (cell_one_new _ _ _) (by simp [Value.oneCell']) (by unfold maxLen; omega) (by omega) (by have := hbl.size; simp; omega) ?_; intro v' w1 hown' hgrow' _))
            go_roundw
            case rel => exact ⟨2, _, _, by omega, by omega, rfl, by simpa [i64s, four] using hown', rfl, by have := HM.out; simp only [lack_append, four, lack, List.take] at this ⊢; omega, below_app hbl hbl.size hown hgrow'⟩
            case measure => simp [intOf]
          · obtain rfl : n = 2 := by omega
            clear hn
            have ha := i64_and3 (b / 4) (by omega) (by omega)
            go_wp2_with (first | (at_builtin; refine wpList_append_own _ rfl _ _ 69 rfl w.heap.size 3 i0 (.int .i64 0) 1 8 Tryd.underlying69 hi hz0 hz1 hz2 rfl (by decide) _ _ _ rfl (hown.alloc _) ⟨wr.heap.size, 0, none⟩ 1 1 [.int .i64 (b / 4 % 4)] rfl rfl (cell_one_new _ _ _) (by simp [Value.oneCell']) (by unfold maxLen; omega) (by omega) (by have := hbl.size; simp; omega) ?_; intro v' w1 hown' hgrow' _))
            go_roundw
            case rel => exact ⟨3, _, _, by omega, by omega, rfl, by simpa [i64s, four] using hown', rfl, by have := HM.out; simp only [lack_append, four, lack, List.take] at this ⊢; omega, below_app hbl hbl.size hown hgrow'⟩
            case measure => simp [intOf]
          · obtain rfl : n = 0 := by omega
            clear hn
            have ha := i64_and3 (b) (by omega) (by omega)
            go_wp2_with (first | (at_builtin; refine wpList_append_own _ rfl _ _ 69 rfl w.heap.size 3 i0 (.int .i64 0) 1 8 Tryd.underlying69 hi hz0 hz1 hz2 rfl (by decide) _ _ _ rfl (hown.alloc _) ⟨wr.heap.size, 0, none⟩ 1 1 [.int .i64 (b % 4)] rfl rfl (cell_one_new _ _ _) (by simp [Value.oneCell']) (by unfold maxLen; omega) (by omega) (by have := hbl.size; simp; omega) ?_; intro v' w1 hown' hgrow' _))
            go_roundw
            case rel => exact ⟨4, _, _, by omega, by omega, rfl, by simpa [i64s, four] using hown', rfl, by have := HM.out; simp only [lack_append, four, lack, List.take] at this ⊢; omega, below_app hbl hbl.size hown hgrow'⟩
            case measure => simp [intOf]
        · obtain rfl : j = 4 := by omega
          obtain rfl : n = -2 := by omega
          clear hn hlt
          go_wp2
          go_roundw
          case rel =>
            have hlen := HL.out
            have e : top (bs.take (k + 1)) = top (bs.take k) ++ (four b).take 4 := by
              have hbd := HB.out
              rw [List.getD_eq_getElem?_getD, List.getElem?_eq_getElem (show k < bs.length by omega)] at hbd
              simp only [Option.getD_some] at hbd
              rw [top_take_succ bs k (by omega), ← hbd]; rfl
            exact ⟨k + 1, _, by omega, by go_num, by rw [e]; exact hown, rfl, by rw [e]; exact HM.out, hbl⟩
          case measure => simp [intOf]; omega
    · have hlen := HL.out
      have hk16 : 4 * k = 64 := by omega
      rw [List.take_of_length_le (by omega)] at hown hm
      rw [hk16] at hown
      clear hk16
      have hbd := lack_range (top bs) (top_range bs)
      rw [← hm, top_len] at hbd
      have HM := Lib.hid hm
      clear hm
      have hbd2 : 0 ≤ m ∧ m ≤ 192 := by omega
      clear hbd hlen
      go_wp2
      clear hlt hk
      obtain ⟨wo, rfl⟩ : ∃ wo : World, wo = wr := ⟨_, rfl⟩
      go_loopw [3, 9] (fun v sh wr => ∃ (j : Nat) (n : Int), n + 2 * j = 6 ∧ j ≤ 4 ∧ sh = .int .i64 n ∧ wr.ownsRow w.heap.size 3 1 v (64 + j) (i64s (top bs ++ (last4 m).take j)) ∧ Below w.heap.size w wr)
        (fun _ sh _ => ((intOf sh) + 2).toNat)
      case atStart => exact ⟨0, 6, by omega, by omega, rfl, by simpa using hown, hbl⟩
      case round =>
        obtain ⟨j, n, hn, hj, rfl, hown, hbl⟩ := hrel
        have hj4 : j = 0 ∨ j = 1 ∨ j = 2 ∨ j = 3 ∨ j = 4 := by omega
        rcases hj4 with rfl | rfl | rfl | rfl | rfl
        · obtain rfl : n = 6 := by omega
          clear hn
          have ha := i64_and3 (m / 64) (by omega) (by omega)
          go_wp2_with (first | (at_builtin; refine wpList_append_own _ rfl _ _ 69 rfl w.heap.size 3 i0 (.int .i64 0) 1 8 Tryd.underlying69 hi hz0 hz1 hz2 rfl (by decide) _ _ _ rfl (hown.alloc _) ⟨wr.heap.size, 0, none⟩ 1 1 [.int .i64 (m / 64 % 4)] rfl rfl (cell_one_new _ _ _) (by simp [Value.oneCell']) (by unfold maxLen; omega) (by omega) (by have := hbl.size; simp; omega) ?_; intro v' w1 hown' hgrow' _))
          go_roundw
          case rel => exact ⟨1, _, by omega, by omega, rfl, by simpa [i64s, last4] using hown', below_app hbl hbl.size hown hgrow'⟩
          case measure => simp [intOf]
        · obtain rfl : n = 4 := by omega
          clear hn
          have ha := i64_and3 (m / 16) (by omega) (by omega)
          go_wp2_with (first | (at_builtin; refine wpList_append_own _ rfl _ _ 69 rfl w.heap.size 3 i0 (.int .i64 0) 1 8 Tryd.underlying69 hi hz0 hz1 hz2 rfl (by decide) _ _ _ rfl (hown.alloc _) ⟨wr.heap.size, 0, none⟩ 1 1 [.int .i64 (m / 16 % 4)] rfl rfl (cell_one_new _ _ _) (by simp [Value.oneCell']) (by unfold maxLen; omega) (by omega) (by have := hbl.size; simp; omega) ?_; intro v' w1 hown' hgrow' _))
          go_roundw
          case rel => exact ⟨2, _, by omega, by omega, rfl, by simpa [i64s, last4] using hown', below_app hbl hbl.size hown hgrow'⟩
          case measure => simp [intOf]
        · obtain rfl : n = 2 := by omega
          clear hn
          have ha := i64_and3 (m / 4) (by omega) (by omega)
          go_wp2_with (first | (at_builtin; refine wpList_append_own _ rfl _ _ 69 rfl w.heap.size 3 i0 (.int .i64 0) 1 8 Tryd.underlying69 hi hz0 hz1 hz2 rfl (by decide) _ _ _ rfl (hown.alloc _) ⟨wr.heap.size, 0, none⟩ 1 1 [.int .i64 (m / 4 % 4)] rfl rfl (cell_one_new _ _ _) (by simp [Value.oneCell']) (by unfold maxLen; omega) (by omega) (by have := hbl.size; simp; omega) ?_; intro v' w1 hown' hgrow' _))
          go_roundw
          case rel => exact ⟨3, _, by omega, by omega, rfl, by simpa [i64s, last4] using hown', below_app hbl hbl.size hown hgrow'⟩
          case measure => simp [intOf]
        · obtain rfl : n = 0 := by omega
          clear hn
          have ha := i64_and3 (m) (by omega) (by omega)
          go_wp2_with (first | (at_builtin; refine wpList_append_own _ rfl _ _ 69 rfl w.heap.size 3 i0 (.int .i64 0) 1 8 Tryd.underlying69 hi hz0 hz1 hz2 rfl (by decide) _ _ _ rfl (hown.alloc _) ⟨wr.heap.size, 0, none⟩ 1 1 [.int .i64 (m % 4)] rfl rfl (cell_one_new _ _ _) (by simp [Value.oneCell']) (by unfold maxLen; omega) (by omega) (by have := hbl.size; simp; omega) ?_; intro v' w1 hown' hgrow' _))
          go_roundw
          case rel => exact ⟨4, _, by omega, by omega, rfl, by simpa [i64s, last4] using hown', below_app hbl hbl.size hown hgrow'⟩
          case measure => simp [intOf]
        · obtain rfl : n = -2 := by omega
          clear hn
          go_wp2
          go_ret
          exact ⟨_, rfl, by have := HM.out; rw [digits, ← this]; exact hown, hbl⟩
end Go.Proofs.YtdedphhohiioiaaDoor
