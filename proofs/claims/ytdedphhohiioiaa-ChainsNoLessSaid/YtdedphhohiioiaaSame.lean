/- What quoratenum.SameInts does. -/
import Derived.Test.YtdedphhohiioiaaRows
import Derived.Test.YtdedphhohiioiaaOps
import Derived.Deep.QuietTactic
import Derived.BigQuiet
namespace Go.Proofs.Ytdedphhohiioiaa
open Go.RowKit

set_option maxHeartbeats 400000 in
theorem sameInts_any (xs ys : List Int) (v u : Value) (w : World) (hx : Row w v (i64s xs)) (hy : Row w u (i64s ys)) :
    Calls Try.prog 6 #[v, u] w fun e w' => e = .returned (.bool (decide (xs = ys))) ∧ ∃ n, w' = w.drewN n := by
  obtain ⟨b, off, c, rfl, h1, h2, hcx⟩ := hx
  obtain ⟨b', off', c', rfl, h1', h2', hcy⟩ := hy
  simp only [i64s, List.length_map] at h1 h1' ⊢
  unfold maxLen at h2 h2'
  by_cases hl : xs.length = ys.length
  · have hn : ((xs.length : Int) != ys.length) = false := by simp [hl]
    have HL := Lib.hid hl
    clear hl
    go_enter Try.func6, Try.ntmps6
    go_wp2
    go_loopw [5, 13] (fun _ i wr => ∃ (k n : Nat), k ≤ xs.length ∧ i = .int .i64 k ∧ wr = w.drewN n ∧ xs.take k = ys.take k)
      (fun _ i _ => xs.length - (intOf i).toNat)
    case atStart => exact ⟨0, 0, by omega, rfl, rfl, rfl⟩
    case round =>
      obtain ⟨k, n, hk, rfl, rfl, hp⟩ := hrel
      have HP := Lib.hid hp
      clear hp
      by_cases hlt : k < xs.length
      · have hlt' : k < ys.length := by have := HL.out; omega
        have c1 : w.cell? ⟨b, off + k, none⟩ = some (.int .i64 xs[k]) := hcx k _ (by simp [i64s, hlt])
        have c2 : w.cell? ⟨b', off' + k, none⟩ = some (.int .i64 ys[k]) := hcy k _ (by simp [i64s, hlt'])
        by_cases he : xs[k] = ys[k]
        · have hb : (xs[k] != ys[k]) = false := by simp [he]
          go_wp2
          go_quiet (fail)
          go_wp2
          go_roundw
          case rel => exact ⟨k + 1, _, by omega, by go_num, rfl, by rw [List.take_succ_eq_append_getElem hlt, List.take_succ_eq_append_getElem hlt', HP.out, he]⟩
          case measure => simp [intOf]; omega
        · have hb : (xs[k] != ys[k]) = true := by simp [he]
          have HNE := Lib.hid (show ¬ xs = ys from fun e => he (by simp [e]))
          go_wp2
          go_quiet (fail)
          go_wp2
          go_ret
          exact ⟨by rw [decide_eq_false HNE.out]; rfl, _, World.drewN_drewN _ _ _⟩
      · have : xs = ys := by
          have h1 := HP.out
          have h2 := HL.out
          rwa [List.take_of_length_le (by omega), List.take_of_length_le (by omega)] at h1
        have HE := Lib.hid this
        clear this
        go_wp2
        go_ret
        exact ⟨by simp [HE.out], _, rfl⟩
  · have hn : ((xs.length : Int) != ys.length) = true := by simp; omega
    have HL := Lib.hid hl
    clear hl
    go_enter Try.func6, Try.ntmps6
    go_wp2
    go_ret
    exact ⟨by rw [decide_eq_false (fun e => HL.out (by rw [e]))]; rfl, 0, rfl⟩
end Go.Proofs.Ytdedphhohiioiaa
