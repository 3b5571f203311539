/- Where a key is: slices.IndexFunc at validators, Find. -/
import Derived.Test.YtideopnblhbngaaDoorVal
namespace Go.Proofs.YtideopnblhbngaaDoor
open Go.RowKit

/-- The place of a key, or -1. -/
def findK (vs : List Va) (key : List Int) : Int :=
  match vs.findIdx? (fun x => decide (x.1 = key)) with
  | some i => i
  | none => -1
theorem findK_at (vs : List Va) (key : List Int) (i : Nat) (hi : i < vs.length) (he : (vs.getD i ([], 0)).1 = key) (hb : ∀ j, j < i → (vs.getD j ([], 0)).1 ≠ key) : findK vs key = i := by
  have : vs.findIdx? (fun x => decide (x.1 = key)) = some i := by
    rw [List.findIdx?_eq_some_iff_getElem]
    refine ⟨hi, ?_, fun j hj => ?_⟩
    · rw [List.getD_eq_getElem?_getD, List.getElem?_eq_getElem hi] at he
      simpa using he
    · have h2 := hb j hj
      rw [List.getD_eq_getElem?_getD, List.getElem?_eq_getElem (Nat.lt_trans hj hi)] at h2
      simpa using h2
  unfold findK
  rw [this]
theorem findK_none (vs : List Va) (key : List Int) (hb : ∀ j, j < vs.length → (vs.getD j ([], 0)).1 ≠ key) : findK vs key = -1 := by
  have : vs.findIdx? (fun x => decide (x.1 = key)) = none := by
    rw [List.findIdx?_eq_none_iff]
    intro x hx
    obtain ⟨j, hj, rfl⟩ := List.getElem_of_mem hx
    have h2 := hb j hj
    rw [List.getD_eq_getElem?_getD, List.getElem?_eq_getElem hj] at h2
    simpa using h2
  unfold findK
  rw [this]

set_option maxHeartbeats 4000000 in
set_option maxRecDepth 100000 in
theorem index_any (vs : List Va) (key : List Int) (A : Option Addr) (n c : Nat) (hk : key.length = 16) (bx : Nat) (w : World) (hv : Vals w (.slice A n c) vs) (hx : w.rangeAt bx 0 (u8s key)) (hz : n ≤ 1000000) :
    Calls Tryd.prog 73 #[.slice A n c, .func (.func 74) #[] #[.pointer (some ⟨bx, 0, none⟩)]] w fun e w' => e = .returned (.int .i64 (findK vs key)) ∧ Below w.heap.size w w' := by
  have hn := hv.len
  have HV := Lib.hid hv
  have HX := Lib.hid hx
  have HN := Lib.hid hn
  clear hv hx hn
  go_enter Tryd.func73, Tryd.ntmps73
  go_wp2
  go_loopw [5, 8] (fun _ k wr => ∃ (i : Nat), i ≤ n ∧ k = .int .i64 i ∧ Hid (∀ j, j < i → (vs.getD j ([], 0)).1 ≠ key) ∧ Hid (Below w.heap.size w wr))
    (fun _ k _ => n - (intOf k).toNat)
  case atStart => exact ⟨0, by omega, rfl, Lib.hid (fun j h => absurd h (by omega)), Lib.hid (Below.refl _ _)⟩
  case round =>
    obtain ⟨i, hi, rfl, hne, hbel⟩ := hrel
    by_cases hlt : i < n
    · obtain ⟨b, off, rfl, hb, hr⟩ := (HV.out.below hbel.out).el i hlt
      have hl := HV.out.at i (by rw [← HN.out]; exact hlt)
      obtain ⟨X, hX⟩ : ∃ X, X = vs.getD i ([], 0) := ⟨_, rfl⟩
      rw [← hX] at hr hl
      have hi39 : (Tryd.prog.info? 39).map (·.size) = some (vcells X).length := by rw [vcells_len X hl]; exact Tryd.size39
      have HR := Lib.hid hr
      have HL := Lib.hid hl
      have HI := Lib.hid hi39
      have HXE := Lib.hid hX
      have hkx := range_below HX.out hbel.out
      have HKX := Lib.hid hkx
      clear hr hl hi39 hX hkx hb
      have hil : (i : Int) < n := by omega
      go_wp2_with (first | (refine wpList_load_g rfl 39 (.tmp 14) rfl b (off + i * 17) rfl (vcells X) _ HR.out Tryd.underlying39 rfl HI.out ?_) | (go_at_call 74; refine (find1_any X key HL.out hk bx wr HKX.out).mono ?_; rintro _ w1 ⟨rfl, bel1⟩; have B1 := Lib.hid (hbel.out.trans (bel1.mono hbel.out.size)); clear bel1))
      · rename_i hc
        have he : X.1 = key := by simpa using hc
        go_ret
        refine ⟨?_, B1.out⟩
        rw [findK_at vs key i (by rw [← HN.out]; exact hlt) (by rw [← HXE.out]; exact he) hne.out]
        rfl
      · rename_i hc
        have he : X.1 ≠ key := by simpa using hc
        go_roundw
        case rel => exact ⟨i + 1, by omega, by go_num, Lib.hid (fun j hj => by
          by_cases hji : j = i
          · subst hji; rw [← HXE.out]; exact he
          · exact hne.out j (by omega)), B1⟩
        case measure => simp [intOf]; omega
    · obtain rfl : i = n := by omega
      go_wp2
      go_ret
      refine ⟨?_, hbel.out⟩
      rw [findK_none vs key (by rw [← HN.out]; exact hne.out)]
      rfl

set_option maxHeartbeats 4000000 in
set_option maxRecDepth 100000 in
theorem find_any (vs : List Va) (key : List Int) (A : Option Addr) (n c : Nat) (hk : key.length = 16) (w : World) (hv : Vals w (.slice A n c) vs) (hz : n ≤ 1000000) :
    Calls Tryd.prog 33 #[.slice A n c, .agg (u8s key).toArray] w fun e w' => e = .returned (.int .i64 (findK vs key)) ∧ Below w.heap.size w w' := by
  have hv1 : Vals (w.alloc (.cells (u8s key).toArray 37)) (.slice A n c) vs := hv.below ((Below.refl _ _).alloc (Nat.le_refl _) _)
  have hx1 : (w.alloc (.cells (u8s key).toArray 37)).rangeAt w.heap.size 0 (u8s key) := range_new w (u8s key) 37
  have HV := Lib.hid hv1
  have HX := Lib.hid hx1
  clear hv hv1 hx1
  go_enter Tryd.func33, Tryd.ntmps33
  go_wp2_with (go_at_call 73; refine (index_any vs key A n c hk w.heap.size _ HV.out HX.out hz).mono ?_; rintro _ w1 ⟨rfl, bel1⟩; have B1 := Lib.hid (((Below.refl w.heap.size w).alloc (Nat.le_refl _) (.cells (u8s key).toArray 37)).trans (bel1.mono (by simp))); clear bel1)
  go_ret
  exact ⟨rfl, B1.out⟩
end Go.Proofs.YtideopnblhbngaaDoor
