/- Lemmas that laws of this seat rest on, part 12; each says its own conditions: ONum, OOut, ODig, OSig, OQc. -/
import Derived.Laws.MakeOwn
import Derived.Test.YtniknhhejlgdfaaGreatDoorBase11
/- The document's number as bytes. -/
namespace Go.Proofs.YtniknhhejlgdfaaGreatDoor
open Go.RowKit

/-- What Number has filled from behind. -/
def padN (n : Int) (k j : Nat) : List Int := List.replicate (k - j) 0 ++ (beN n k).drop (k - j)
theorem padN_len (n : Int) (k j : Nat) (hj : j ≤ k) : (padN n k j).length = k := by simp [padN, beN_len]
theorem padN_full (n : Int) (k : Nat) : padN n k k = beN n k := by simp [padN]
theorem padN_set (n : Int) (k j : Nat) (hj : j < k) : (padN n k j).set (k - 1 - j) (n / (256 : Int) ^ j % 256) = padN n k (j + 1) := by
  have hl : k - 1 - j < (beN n k).length := by rw [beN_len]; omega
  have hv : (beN n k)[k - 1 - j] = n / (256 : Int) ^ j % 256 := by simp only [beN, List.getElem_map, List.getElem_range]; congr 3; omega
  have h1 : k - j = (k - 1 - j) + 1 := by omega
  unfold padN
  rw [show k - (j + 1) = k - 1 - j by omega, List.drop_eq_getElem_cons hl, hv, h1, List.replicate_succ', List.append_assoc, List.set_append_right _ _ (by simp)]
  simp
theorem run_mk71 (k : Nat) (hk : k = 1 ∨ k = 2 ∨ k = 4 ∨ k = 6) (w : World) : (Instr.makeSlice 137 (.int .i64 k) (.int .i64 k)).run Tryz.prog w = .ok (.slice (some ⟨w.heap.size, 0, none⟩) k k) (w.alloc (.cells (u8s (List.replicate k 0)).toArray 5)) := by
  obtain ⟨i0, hi, hzz⟩ := Option.map_eq_some_iff.1 Tryz.info5
  simp only [Prod.mk.injEq] at hzz
  obtain ⟨hz0, hz1, hz2⟩ := hzz
  have hr := run_makeSlice (P := Tryz.prog) w 137 5 i0 (.int .u8 0) Tryz.underlying137 hi hz0 .i64 .i64 k k (by omega) (Int.le_refl _) (by rw [hz1]; omega) (by rw [hz2]; omega) (by omega)
  have e : madeCells (Value.int .u8 0).cells (k * 1) = (u8s (List.replicate k 0)).toArray := by rcases hk with rfl | rfl | rfl | rfl <;> kernel_rfl
  rw [hr, hz1]
  simp only [Int.toNat_natCast, e]
theorem wpList_mk71 {ops : Array Oper} {rest : List Oper} {o : Oper} {a : Act} {w : World} {Q : Exit → Act → World → Prop} (hw : Region.wanted o (yielded ops a.tmps) = true) (x y : Operand) (ho : o.op = .makeSlice 137 x y) (k : Nat) (hx : a.eval x = .int .i64 k) (hy : a.eval y = .int .i64 k) (hk : k = 1 ∨ k = 2 ∨ k = 4 ∨ k = 6)
    (h : wpList Tryz.prog ops Q rest (a.put o.dst (.slice (some ⟨w.heap.size, 0, none⟩) k k)) (w.alloc (.cells (u8s (List.replicate k 0)).toArray 5))) : wpList Tryz.prog ops Q (o :: rest) a w := by
  refine wpList_step fun K hK => ?_
  rw [if_pos hw]
  unfold Oper.wp execOp
  simp only [ho, Sem.run_bind, hx, hy, run_mk71 k hk, Result.andThen_ok, Sem.run_pure]
  exact hK _ _ h
theorem u8s_set (xs : List Int) (i : Nat) (v : Int) : (u8s xs).set i (.int .u8 v) = u8s (xs.set i v) := by simp [u8s, List.map_set]

set_option maxHeartbeats 4000000 in
set_option maxRecDepth 100000 in
theorem onumber1 (n : Int) (h0 : 0 ≤ n) (h1 : n ≤ 9223372036854775807) (w : World) :
    Calls Tryz.prog 145 #[.int .i64 n, .int .i64 1] w fun e w' => ∃ b, e = .returned (.slice (some ⟨b, 0, none⟩) 1 1) ∧ w.heap.size ≤ b ∧ w'.heap[b]? = some (.cells (u8s (beN n 1)).toArray 5 (0, 0)) ∧ Below w.heap.size w w' := by
  go_enter Tryz.func145, Tryz.ntmps145
  go_wp2_with (refine wpList_mk71 rfl _ _ rfl 1 rfl rfl (by omega) ?_)
  go_loopw [0, 6] (fun x i wr => ∃ (j : Nat) (X y : Int), j ≤ 1 ∧ x = .int .i64 X ∧ i = .int .i64 y ∧ y = 0 - (j : Int) ∧ Hid (X = n / (256 : Int) ^ j) ∧ 0 ≤ X ∧ Hid (X ≤ n) ∧ Hid (wr.heap[w.heap.size]? = some (.cells (u8s (padN n 1 j)).toArray 5 (0, 0))) ∧ Hid (Below w.heap.size w wr))
    (fun _ i _ => (intOf i + 1).toNat)
  case atStart => exact ⟨0, n, 0, by omega, rfl, rfl, by omega, Lib.hid (by simp), h0, Lib.hid (Int.le_refl _), Lib.hid (heap_alloc_new w _), Lib.hid ((Below.refl _ _).alloc (Nat.le_refl _) _)⟩
  case round =>
    obtain ⟨j, X, y, hj, rfl, rfl, hy, hX, hX0, hXn, hrow, hbel⟩ := hrel
    by_cases hlt : j < 1
    · have hjc : j = 0 := by omega
      have htm : X.tmod 256 = X % 256 := Int.tmod_eq_emod_of_nonneg hX0
      have htd : X.tdiv 256 = X / 256 := Int.tdiv_eq_ediv_of_nonneg hX0
      have hwr : IntKind.i64.wrap (X / 256) = X / 256 := by have := hXn.out; rw [IntKind.wrap_i64]; omega
      have HXN := Lib.hid (show X / 256 ≤ n by have := hXn.out; omega)
      have HX2 := Lib.hid (show X / 256 = n / (256 : Int) ^ (j + 1) by rw [hX.out, quo256])
      have HV := Lib.hid (show (u8s (padN n 1 j)).set (1 - 1 - j) (.int .u8 (X % 256)) = u8s (padN n 1 (j + 1)) by rw [u8s_set, hX.out, padN_set n 1 j hlt])
      have hlen := padN_len n 1 j hj
      have hfr : ∀ i, wr.frozen? ⟨w.heap.size, i, none⟩ = false := fun i => blk_free hrow.out i
      have hcl : ∀ i, i < 1 → wr.cell? ⟨w.heap.size, i, none⟩ = some (.int .u8 ((padN n 1 j).getD i 0)) := fun i hi => blk_cell hrow.out i _ (by rw [u8s, List.getElem?_map, List.getElem?_eq_getElem (by omega), List.getD_eq_getElem?_getD, List.getElem?_eq_getElem (by omega)]; rfl)
      obtain ⟨Y, hY⟩ : ∃ Y, X / 256 = Y := ⟨_, rfl⟩
      obtain ⟨V, hV⟩ : ∃ V, X % 256 = V := ⟨_, rfl⟩
      have hY0 : 0 ≤ Y := by omega
      have hV0 : 0 ≤ V := by omega
      have hV1 : V < 256 := by omega
      rw [hY] at htd hwr HXN HX2
      rw [hV] at htm HV
      subst hy
      rcases hjc with rfl
      · have f0 := hfr 0
        have c0 := hcl 0 (by omega)
        have HR := Lib.hid (blk_set (xs := u8s (padN n 1 0)) hrow.out 0 (.int .u8 V))
        have HB := Lib.hid (hbel.out.setCell (p := ⟨w.heap.size, 0, none⟩) (Nat.le_refl _) (.int .u8 V))
        clear hfr hcl
        go_wp2
        go_roundw
        case rel => exact ⟨1, Y, _, by omega, by go_num, rfl, by omega, HX2, hY0, HXN, Lib.hid (by have := HR.out; rw [show ((u8s (padN n 1 0)).set 0 (Value.int .u8 V)) = u8s (padN n 1 (0 + 1)) from HV.out] at this; exact this), HB⟩
        case measure => simp [intOf]
    · obtain rfl : j = 1 := by omega
      have hyn : y < 0 := by omega
      have HR := Lib.hid hrow.out
      rw [padN_full] at HR
      go_wp2
      go_ret
      exact ⟨_, rfl, Nat.le_refl _, HR.out, hbel.out⟩

set_option maxHeartbeats 4000000 in
set_option maxRecDepth 100000 in
theorem onumber2 (n : Int) (h0 : 0 ≤ n) (h1 : n ≤ 9223372036854775807) (w : World) :
    Calls Tryz.prog 145 #[.int .i64 n, .int .i64 2] w fun e w' => ∃ b, e = .returned (.slice (some ⟨b, 0, none⟩) 2 2) ∧ w.heap.size ≤ b ∧ w'.heap[b]? = some (.cells (u8s (beN n 2)).toArray 5 (0, 0)) ∧ Below w.heap.size w w' := by
  go_enter Tryz.func145, Tryz.ntmps145
  go_wp2_with (refine wpList_mk71 rfl _ _ rfl 2 rfl rfl (by omega) ?_)
  go_loopw [0, 6] (fun x i wr => ∃ (j : Nat) (X y : Int), j ≤ 2 ∧ x = .int .i64 X ∧ i = .int .i64 y ∧ y = 1 - (j : Int) ∧ Hid (X = n / (256 : Int) ^ j) ∧ 0 ≤ X ∧ Hid (X ≤ n) ∧ Hid (wr.heap[w.heap.size]? = some (.cells (u8s (padN n 2 j)).toArray 5 (0, 0))) ∧ Hid (Below w.heap.size w wr))
    (fun _ i _ => (intOf i + 1).toNat)
  case atStart => exact ⟨0, n, 1, by omega, rfl, rfl, by omega, Lib.hid (by simp), h0, Lib.hid (Int.le_refl _), Lib.hid (heap_alloc_new w _), Lib.hid ((Below.refl _ _).alloc (Nat.le_refl _) _)⟩
  case round =>
    obtain ⟨j, X, y, hj, rfl, rfl, hy, hX, hX0, hXn, hrow, hbel⟩ := hrel
    by_cases hlt : j < 2
    · have hjc : j = 0 ∨ j = 1 := by omega
      have htm : X.tmod 256 = X % 256 := Int.tmod_eq_emod_of_nonneg hX0
      have htd : X.tdiv 256 = X / 256 := Int.tdiv_eq_ediv_of_nonneg hX0
      have hwr : IntKind.i64.wrap (X / 256) = X / 256 := by have := hXn.out; rw [IntKind.wrap_i64]; omega
      have HXN := Lib.hid (show X / 256 ≤ n by have := hXn.out; omega)
      have HX2 := Lib.hid (show X / 256 = n / (256 : Int) ^ (j + 1) by rw [hX.out, quo256])
      have HV := Lib.hid (show (u8s (padN n 2 j)).set (2 - 1 - j) (.int .u8 (X % 256)) = u8s (padN n 2 (j + 1)) by rw [u8s_set, hX.out, padN_set n 2 j hlt])
      have hlen := padN_len n 2 j hj
      have hfr : ∀ i, wr.frozen? ⟨w.heap.size, i, none⟩ = false := fun i => blk_free hrow.out i
      have hcl : ∀ i, i < 2 → wr.cell? ⟨w.heap.size, i, none⟩ = some (.int .u8 ((padN n 2 j).getD i 0)) := fun i hi => blk_cell hrow.out i _ (by rw [u8s, List.getElem?_map, List.getElem?_eq_getElem (by omega), List.getD_eq_getElem?_getD, List.getElem?_eq_getElem (by omega)]; rfl)
      obtain ⟨Y, hY⟩ : ∃ Y, X / 256 = Y := ⟨_, rfl⟩
      obtain ⟨V, hV⟩ : ∃ V, X % 256 = V := ⟨_, rfl⟩
      have hY0 : 0 ≤ Y := by omega
      have hV0 : 0 ≤ V := by omega
      have hV1 : V < 256 := by omega
      rw [hY] at htd hwr HXN HX2
      rw [hV] at htm HV
      subst hy
      rcases hjc with rfl | rfl
      · have f0 := hfr 1
        have c0 := hcl 1 (by omega)
        have HR := Lib.hid (blk_set (xs := u8s (padN n 2 0)) hrow.out 1 (.int .u8 V))
        have HB := Lib.hid (hbel.out.setCell (p := ⟨w.heap.size, 1, none⟩) (Nat.le_refl _) (.int .u8 V))
        clear hfr hcl
        go_wp2
        go_roundw
        case rel => exact ⟨1, Y, _, by omega, by go_num, rfl, by omega, HX2, hY0, HXN, Lib.hid (by have := HR.out; rw [show ((u8s (padN n 2 0)).set 1 (Value.int .u8 V)) = u8s (padN n 2 (0 + 1)) from HV.out] at this; exact this), HB⟩
        case measure => simp [intOf]
      · have f0 := hfr 0
        have c0 := hcl 0 (by omega)
        have HR := Lib.hid (blk_set (xs := u8s (padN n 2 1)) hrow.out 0 (.int .u8 V))
        have HB := Lib.hid (hbel.out.setCell (p := ⟨w.heap.size, 0, none⟩) (Nat.le_refl _) (.int .u8 V))
        clear hfr hcl
        go_wp2
        go_roundw
        case rel => exact ⟨2, Y, _, by omega, by go_num, rfl, by omega, HX2, hY0, HXN, Lib.hid (by have := HR.out; rw [show ((u8s (padN n 2 1)).set 0 (Value.int .u8 V)) = u8s (padN n 2 (1 + 1)) from HV.out] at this; exact this), HB⟩
        case measure => simp [intOf]
    · obtain rfl : j = 2 := by omega
      have hyn : y < 0 := by omega
      have HR := Lib.hid hrow.out
      rw [padN_full] at HR
      go_wp2
      go_ret
      exact ⟨_, rfl, Nat.le_refl _, HR.out, hbel.out⟩

set_option maxHeartbeats 4000000 in
set_option maxRecDepth 100000 in
theorem onumber4 (n : Int) (h0 : 0 ≤ n) (h1 : n ≤ 9223372036854775807) (w : World) :
    Calls Tryz.prog 145 #[.int .i64 n, .int .i64 4] w fun e w' => ∃ b, e = .returned (.slice (some ⟨b, 0, none⟩) 4 4) ∧ w.heap.size ≤ b ∧ w'.heap[b]? = some (.cells (u8s (beN n 4)).toArray 5 (0, 0)) ∧ Below w.heap.size w w' := by
  go_enter Tryz.func145, Tryz.ntmps145
  go_wp2_with (refine wpList_mk71 rfl _ _ rfl 4 rfl rfl (by omega) ?_)
  go_loopw [0, 6] (fun x i wr => ∃ (j : Nat) (X y : Int), j ≤ 4 ∧ x = .int .i64 X ∧ i = .int .i64 y ∧ y = 3 - (j : Int) ∧ Hid (X = n / (256 : Int) ^ j) ∧ 0 ≤ X ∧ Hid (X ≤ n) ∧ Hid (wr.heap[w.heap.size]? = some (.cells (u8s (padN n 4 j)).toArray 5 (0, 0))) ∧ Hid (Below w.heap.size w wr))
    (fun _ i _ => (intOf i + 1).toNat)
  case atStart => exact ⟨0, n, 3, by omega, rfl, rfl, by omega, Lib.hid (by simp), h0, Lib.hid (Int.le_refl _), Lib.hid (heap_alloc_new w _), Lib.hid ((Below.refl _ _).alloc (Nat.le_refl _) _)⟩
  case round =>
    obtain ⟨j, X, y, hj, rfl, rfl, hy, hX, hX0, hXn, hrow, hbel⟩ := hrel
    by_cases hlt : j < 4
    · have hjc : j = 0 ∨ j = 1 ∨ j = 2 ∨ j = 3 := by omega
      have htm : X.tmod 256 = X % 256 := Int.tmod_eq_emod_of_nonneg hX0
      have htd : X.tdiv 256 = X / 256 := Int.tdiv_eq_ediv_of_nonneg hX0
      have hwr : IntKind.i64.wrap (X / 256) = X / 256 := by have := hXn.out; rw [IntKind.wrap_i64]; omega
      have HXN := Lib.hid (show X / 256 ≤ n by have := hXn.out; omega)
      have HX2 := Lib.hid (show X / 256 = n / (256 : Int) ^ (j + 1) by rw [hX.out, quo256])
      have HV := Lib.hid (show (u8s (padN n 4 j)).set (4 - 1 - j) (.int .u8 (X % 256)) = u8s (padN n 4 (j + 1)) by rw [u8s_set, hX.out, padN_set n 4 j hlt])
      have hlen := padN_len n 4 j hj
      have hfr : ∀ i, wr.frozen? ⟨w.heap.size, i, none⟩ = false := fun i => blk_free hrow.out i
      have hcl : ∀ i, i < 4 → wr.cell? ⟨w.heap.size, i, none⟩ = some (.int .u8 ((padN n 4 j).getD i 0)) := fun i hi => blk_cell hrow.out i _ (by rw [u8s, List.getElem?_map, List.getElem?_eq_getElem (by omega), List.getD_eq_getElem?_getD, List.getElem?_eq_getElem (by omega)]; rfl)
      obtain ⟨Y, hY⟩ : ∃ Y, X / 256 = Y := ⟨_, rfl⟩
      obtain ⟨V, hV⟩ : ∃ V, X % 256 = V := ⟨_, rfl⟩
      have hY0 : 0 ≤ Y := by omega
      have hV0 : 0 ≤ V := by omega
      have hV1 : V < 256 := by omega
      rw [hY] at htd hwr HXN HX2
      rw [hV] at htm HV
      subst hy
      rcases hjc with rfl | rfl | rfl | rfl
      · have f0 := hfr 3
        have c0 := hcl 3 (by omega)
        have HR := Lib.hid (blk_set (xs := u8s (padN n 4 0)) hrow.out 3 (.int .u8 V))
        have HB := Lib.hid (hbel.out.setCell (p := ⟨w.heap.size, 3, none⟩) (Nat.le_refl _) (.int .u8 V))
        clear hfr hcl
        go_wp2
        go_roundw
        case rel => exact ⟨1, Y, _, by omega, by go_num, rfl, by omega, HX2, hY0, HXN, Lib.hid (by have := HR.out; rw [show ((u8s (padN n 4 0)).set 3 (Value.int .u8 V)) = u8s (padN n 4 (0 + 1)) from HV.out] at this; exact this), HB⟩
        case measure => simp [intOf]
      · have f0 := hfr 2
        have c0 := hcl 2 (by omega)
        have HR := Lib.hid (blk_set (xs := u8s (padN n 4 1)) hrow.out 2 (.int .u8 V))
        have HB := Lib.hid (hbel.out.setCell (p := ⟨w.heap.size, 2, none⟩) (Nat.le_refl _) (.int .u8 V))
        clear hfr hcl
        go_wp2
        go_roundw
        case rel => exact ⟨2, Y, _, by omega, by go_num, rfl, by omega, HX2, hY0, HXN, Lib.hid (by have := HR.out; rw [show ((u8s (padN n 4 1)).set 2 (Value.int .u8 V)) = u8s (padN n 4 (1 + 1)) from HV.out] at this; exact this), HB⟩
        case measure => simp [intOf]
      · have f0 := hfr 1
        have c0 := hcl 1 (by omega)
        have HR := Lib.hid (blk_set (xs := u8s (padN n 4 2)) hrow.out 1 (.int .u8 V))
        have HB := Lib.hid (hbel.out.setCell (p := ⟨w.heap.size, 1, none⟩) (Nat.le_refl _) (.int .u8 V))
        clear hfr hcl
        go_wp2
        go_roundw
        case rel => exact ⟨3, Y, _, by omega, by go_num, rfl, by omega, HX2, hY0, HXN, Lib.hid (by have := HR.out; rw [show ((u8s (padN n 4 2)).set 1 (Value.int .u8 V)) = u8s (padN n 4 (2 + 1)) from HV.out] at this; exact this), HB⟩
        case measure => simp [intOf]
      · have f0 := hfr 0
        have c0 := hcl 0 (by omega)
        have HR := Lib.hid (blk_set (xs := u8s (padN n 4 3)) hrow.out 0 (.int .u8 V))
        have HB := Lib.hid (hbel.out.setCell (p := ⟨w.heap.size, 0, none⟩) (Nat.le_refl _) (.int .u8 V))
        clear hfr hcl
        go_wp2
        go_roundw
        case rel => exact ⟨4, Y, _, by omega, by go_num, rfl, by omega, HX2, hY0, HXN, Lib.hid (by have := HR.out; rw [show ((u8s (padN n 4 3)).set 0 (Value.int .u8 V)) = u8s (padN n 4 (3 + 1)) from HV.out] at this; exact this), HB⟩
        case measure => simp [intOf]
    · obtain rfl : j = 4 := by omega
      have hyn : y < 0 := by omega
      have HR := Lib.hid hrow.out
      rw [padN_full] at HR
      go_wp2
      go_ret
      exact ⟨_, rfl, Nat.le_refl _, HR.out, hbel.out⟩

set_option maxHeartbeats 4000000 in
set_option maxRecDepth 100000 in
theorem onumber6 (n : Int) (h0 : 0 ≤ n) (h1 : n ≤ 9223372036854775807) (w : World) :
    Calls Tryz.prog 145 #[.int .i64 n, .int .i64 6] w fun e w' => ∃ b, e = .returned (.slice (some ⟨b, 0, none⟩) 6 6) ∧ w.heap.size ≤ b ∧ w'.heap[b]? = some (.cells (u8s (beN n 6)).toArray 5 (0, 0)) ∧ Below w.heap.size w w' := by
  go_enter Tryz.func145, Tryz.ntmps145
  go_wp2_with (refine wpList_mk71 rfl _ _ rfl 6 rfl rfl (by omega) ?_)
  go_loopw [0, 6] (fun x i wr => ∃ (j : Nat) (X y : Int), j ≤ 6 ∧ x = .int .i64 X ∧ i = .int .i64 y ∧ y = 5 - (j : Int) ∧ Hid (X = n / (256 : Int) ^ j) ∧ 0 ≤ X ∧ Hid (X ≤ n) ∧ Hid (wr.heap[w.heap.size]? = some (.cells (u8s (padN n 6 j)).toArray 5 (0, 0))) ∧ Hid (Below w.heap.size w wr))
    (fun _ i _ => (intOf i + 1).toNat)
  case atStart => exact ⟨0, n, 5, by omega, rfl, rfl, by omega, Lib.hid (by simp), h0, Lib.hid (Int.le_refl _), Lib.hid (heap_alloc_new w _), Lib.hid ((Below.refl _ _).alloc (Nat.le_refl _) _)⟩
  case round =>
    obtain ⟨j, X, y, hj, rfl, rfl, hy, hX, hX0, hXn, hrow, hbel⟩ := hrel
    by_cases hlt : j < 6
    · have hjc : j = 0 ∨ j = 1 ∨ j = 2 ∨ j = 3 ∨ j = 4 ∨ j = 5 := by omega
      have htm : X.tmod 256 = X % 256 := Int.tmod_eq_emod_of_nonneg hX0
      have htd : X.tdiv 256 = X / 256 := Int.tdiv_eq_ediv_of_nonneg hX0
      have hwr : IntKind.i64.wrap (X / 256) = X / 256 := by have := hXn.out; rw [IntKind.wrap_i64]; omega
      have HXN := Lib.hid (show X / 256 ≤ n by have := hXn.out; omega)
      have HX2 := Lib.hid (show X / 256 = n / (256 : Int) ^ (j + 1) by rw [hX.out, quo256])
      have HV := Lib.hid (show (u8s (padN n 6 j)).set (6 - 1 - j) (.int .u8 (X % 256)) = u8s (padN n 6 (j + 1)) by rw [u8s_set, hX.out, padN_set n 6 j hlt])
      have hlen := padN_len n 6 j hj
      have hfr : ∀ i, wr.frozen? ⟨w.heap.size, i, none⟩ = false := fun i => blk_free hrow.out i
      have hcl : ∀ i, i < 6 → wr.cell? ⟨w.heap.size, i, none⟩ = some (.int .u8 ((padN n 6 j).getD i 0)) := fun i hi => blk_cell hrow.out i _ (by rw [u8s, List.getElem?_map, List.getElem?_eq_getElem (by omega), List.getD_eq_getElem?_getD, List.getElem?_eq_getElem (by omega)]; rfl)
      obtain ⟨Y, hY⟩ : ∃ Y, X / 256 = Y := ⟨_, rfl⟩
      obtain ⟨V, hV⟩ : ∃ V, X % 256 = V := ⟨_, rfl⟩
      have hY0 : 0 ≤ Y := by omega
      have hV0 : 0 ≤ V := by omega
      have hV1 : V < 256 := by omega
      rw [hY] at htd hwr HXN HX2
      rw [hV] at htm HV
      subst hy
      rcases hjc with rfl | rfl | rfl | rfl | rfl | rfl
      · have f0 := hfr 5
        have c0 := hcl 5 (by omega)
        have HR := Lib.hid (blk_set (xs := u8s (padN n 6 0)) hrow.out 5 (.int .u8 V))
        have HB := Lib.hid (hbel.out.setCell (p := ⟨w.heap.size, 5, none⟩) (Nat.le_refl _) (.int .u8 V))
        clear hfr hcl
        go_wp2
        go_roundw
        case rel => exact ⟨1, Y, _, by omega, by go_num, rfl, by omega, HX2, hY0, HXN, Lib.hid (by have := HR.out; rw [show ((u8s (padN n 6 0)).set 5 (Value.int .u8 V)) = u8s (padN n 6 (0 + 1)) from HV.out] at this; exact this), HB⟩
        case measure => simp [intOf]
      · have f0 := hfr 4
        have c0 := hcl 4 (by omega)
        have HR := Lib.hid (blk_set (xs := u8s (padN n 6 1)) hrow.out 4 (.int .u8 V))
        have HB := Lib.hid (hbel.out.setCell (p := ⟨w.heap.size, 4, none⟩) (Nat.le_refl _) (.int .u8 V))
        clear hfr hcl
        go_wp2
        go_roundw
        case rel => exact ⟨2, Y, _, by omega, by go_num, rfl, by omega, HX2, hY0, HXN, Lib.hid (by have := HR.out; rw [show ((u8s (padN n 6 1)).set 4 (Value.int .u8 V)) = u8s (padN n 6 (1 + 1)) from HV.out] at this; exact this), HB⟩
        case measure => simp [intOf]
      · have f0 := hfr 3
        have c0 := hcl 3 (by omega)
        have HR := Lib.hid (blk_set (xs := u8s (padN n 6 2)) hrow.out 3 (.int .u8 V))
        have HB := Lib.hid (hbel.out.setCell (p := ⟨w.heap.size, 3, none⟩) (Nat.le_refl _) (.int .u8 V))
        clear hfr hcl
        go_wp2
        go_roundw
        case rel => exact ⟨3, Y, _, by omega, by go_num, rfl, by omega, HX2, hY0, HXN, Lib.hid (by have := HR.out; rw [show ((u8s (padN n 6 2)).set 3 (Value.int .u8 V)) = u8s (padN n 6 (2 + 1)) from HV.out] at this; exact this), HB⟩
        case measure => simp [intOf]
      · have f0 := hfr 2
        have c0 := hcl 2 (by omega)
        have HR := Lib.hid (blk_set (xs := u8s (padN n 6 3)) hrow.out 2 (.int .u8 V))
        have HB := Lib.hid (hbel.out.setCell (p := ⟨w.heap.size, 2, none⟩) (Nat.le_refl _) (.int .u8 V))
        clear hfr hcl
        go_wp2
        go_roundw
        case rel => exact ⟨4, Y, _, by omega, by go_num, rfl, by omega, HX2, hY0, HXN, Lib.hid (by have := HR.out; rw [show ((u8s (padN n 6 3)).set 2 (Value.int .u8 V)) = u8s (padN n 6 (3 + 1)) from HV.out] at this; exact this), HB⟩
        case measure => simp [intOf]
      · have f0 := hfr 1
        have c0 := hcl 1 (by omega)
        have HR := Lib.hid (blk_set (xs := u8s (padN n 6 4)) hrow.out 1 (.int .u8 V))
        have HB := Lib.hid (hbel.out.setCell (p := ⟨w.heap.size, 1, none⟩) (Nat.le_refl _) (.int .u8 V))
        clear hfr hcl
        go_wp2
        go_roundw
        case rel => exact ⟨5, Y, _, by omega, by go_num, rfl, by omega, HX2, hY0, HXN, Lib.hid (by have := HR.out; rw [show ((u8s (padN n 6 4)).set 1 (Value.int .u8 V)) = u8s (padN n 6 (4 + 1)) from HV.out] at this; exact this), HB⟩
        case measure => simp [intOf]
      · have f0 := hfr 0
        have c0 := hcl 0 (by omega)
        have HR := Lib.hid (blk_set (xs := u8s (padN n 6 5)) hrow.out 0 (.int .u8 V))
        have HB := Lib.hid (hbel.out.setCell (p := ⟨w.heap.size, 0, none⟩) (Nat.le_refl _) (.int .u8 V))
        clear hfr hcl
        go_wp2
        go_roundw
        case rel => exact ⟨6, Y, _, by omega, by go_num, rfl, by omega, HX2, hY0, HXN, Lib.hid (by have := HR.out; rw [show ((u8s (padN n 6 5)).set 0 (Value.int .u8 V)) = u8s (padN n 6 (5 + 1)) from HV.out] at this; exact this), HB⟩
        case measure => simp [intOf]
    · obtain rfl : j = 6 := by omega
      have hyn : y < 0 := by omega
      have HR := Lib.hid hrow.out
      rw [padN_full] at HR
      go_wp2
      go_ret
      exact ⟨_, rfl, Nat.le_refl _, HR.out, hbel.out⟩

/-- A number in the document's way, where it has the width. -/
theorem onumber_any (n : Int) (k : Nat) (hk : k = 1 ∨ k = 2 ∨ k = 4 ∨ k = 6) (h0 : 0 ≤ n) (h1 : n ≤ 9223372036854775807) (w : World) :
    Calls Tryz.prog 145 #[.int .i64 n, .int .i64 k] w fun e w' => ∃ b, e = .returned (.slice (some ⟨b, 0, none⟩) k k) ∧ w.heap.size ≤ b ∧ w'.heap[b]? = some (.cells (u8s (beN n k)).toArray 5 (0, 0)) ∧ Below w.heap.size w w' := by
  rcases hk with rfl | rfl | rfl | rfl
  · exact onumber1 n h0 h1 w
  · exact onumber2 n h0 h1 w
  · exact onumber4 n h0 h1 w
  · exact onumber6 n h0 h1 w
end Go.Proofs.YtniknhhejlgdfaaGreatDoor
/- The document's writer: a number, a digest, how many. -/
namespace Go.Proofs.YtniknhhejlgdfaaGreatDoor
open Go.RowKit

theorem oapp_end {base q : Nat} {bs xs : List Int} {r : Option Nat} {w wz : World} {sv ev v8 : Value} {s : WS} (hb : w.heap[q]? = some (.cells #[sv, ev] 167 (0, 0))) (H : OtAt base w q s r) (hB : But (fun k => some k = r) w wz) (ho : OwnO wz base 5 v8 (u8s (bs ++ xs))) (hp : v8.ownBlock = r ∨ ∃ b, v8.ownBlock = some b ∧ w.heap.size ≤ b) (hok : u8s_ok (bs ++ xs)) (hl : (bs ++ xs).length ≤ maxW) (hev : ev = .int .i64 0 := by rfl) :
    OStep base q (some (bs ++ xs)) r w (wz.setCell ⟨q, 0, none⟩ v8) := by
  have hnq : ¬ some q = r := fun e => H.ne e.symm
  have hbz := hB.blk hb hnq
  have hv8 : v8.ownBlock ≠ some q := by
    rcases hp with h | ⟨b, h, hb⟩
    · rw [h]; exact H.ne
    · rw [h]; intro e; have := Option.some.inj e; have := H.lt; omega
  refine ⟨⟨v8.ownBlock, ⟨H.low, ⟨ev, v8, bs ++ xs, ?_, ?_, rfl, hok, hl, .inl ⟨rfl, hev⟩⟩, hv8⟩, hp⟩, ?_⟩
  · exact blk_set (xs := [sv, ev]) hbz 0 _
  · exact ho.kept (row := some q) ⟨rfl, rfl, rfl, by simp, fun k _ hne => heap_setCell_other wz ⟨q, 0, none⟩ k _ (fun e => hne (by rw [e]))⟩ (fun k hk e => hv8 (by rw [hk, e]))
  · exact Only.trans ⟨hB.os, hB.tape, hB.output, hB.size, fun k hk _ hr => hB.same k hk hr⟩ (Only.of_set _) (.inl rfl)
theorem OtAt.fail {base q : Nat} {s : WS} {r : Option Nat} {w : World} (H : OtAt base w q s r) : OStep base q none r w (w.setCell ⟨q, 1, none⟩ (.int .i64 1)) := by
  obtain ⟨ev, sv, bs, hb, ho, hr, h1, h2, h3⟩ := H.at_
  refine ⟨⟨r, ⟨H.low, ⟨.int .i64 1, sv, bs, ?_, ?_, hr, h1, h2, .inr ⟨rfl, rfl⟩⟩, H.ne⟩, .inl rfl⟩, Only.of_set _⟩
  · exact blk_set (xs := [sv, ev]) hb 1 _
  · exact ho.kept (row := some q) ⟨rfl, rfl, rfl, by simp, fun k _ hne => heap_setCell_other w ⟨q, 1, none⟩ k _ (fun e => hne (by rw [e]))⟩ (fun k hk e => H.ne (by rw [← hr, hk, e]))

set_option maxHeartbeats 16000000 in
set_option maxRecDepth 100000 in
theorem onum_any (base q : Nat) (s : WS) (r : Option Nat) (n : Int) (k : Nat) (hk : k = 1 ∨ k = 2 ∨ k = 4 ∨ k = 6) (hn : -9223372036854775808 ≤ n ∧ n ≤ 9223372036854775807) (w : World) (H : OtAt base w q s r) (hlim : Lim s (maxW - k)) :
    Calls Tryz.prog 109 #[.pointer (some ⟨q, 0, none⟩), .int .i64 n, .int .i64 k] w fun e w' => e = .returned (.tuple #[]) ∧ OStep base q (numS n k s) r w w' := by
  have H0 := Lib.hid H
  obtain ⟨ev, sv, bs, hb, ho, hr, h1, h2, h3⟩ := H.at_
  have hc1 := blk_cell (xs := [sv, ev]) hb 1 _ rfl
  have hf1 := blk_free hb 1
  have C0 := Lib.hid (blk_cell (xs := [sv, ev]) hb 0 _ rfl)
  have HB := Lib.hid hb
  have HO := Lib.hid ho
  have HR := Lib.hid hr
  have HBS := Lib.hid (show base ≤ w.heap.size by have := H.low; have := H.lt; omega)
  have HF := Lib.hid H.fail
  rcases h3 with ⟨rfl, rfl⟩ | ⟨rfl, rfl⟩
  case inr =>
    clear H hb ho hr h1 h2
    go_enter Tryz.func109, Tryz.ntmps109
    go_wp2
    go_end0
    exact ⟨rfl, by rw [numS_none]; exact OStep.refl H0.out⟩
  have HL := Lib.hid (hlim bs rfl)
  have HU := Lib.hid h1
  clear H hb ho hr h1 h2 hlim
  cases hfit : fitB n k with
  | false =>
    have PB : Hid (numS n k (some bs) = none) := Lib.hid (by unfold numS; rw [if_neg (by simpa [fitB] using hfit)])
    have HFIT := Lib.hid hfit
    clear hfit
    go_enter Tryz.func109, Tryz.ntmps109
    go_wp2_with fail
    refine (fits_any n k hk hn w).mono ?_
    rintro _ w1 ⟨rfl, hww⟩
    have hww := hww.symm
    subst hww
    rw [HFIT.out]
    go_wp2_with fail
    go_end0
    exact ⟨rfl, by rw [PB.out]; exact HF.out⟩
  | true =>
    have hfr : 0 ≤ n ∧ n < (256 : Int) ^ k := by simpa [fitB] using hfit
    have h0n : 0 ≤ n := hfr.1
    have h1n : n ≤ 9223372036854775807 := hn.2
    have PB : Hid (numS n k (some bs) = some (bs ++ beN n k)) := Lib.hid (by unfold numS; rw [if_pos hfr]; rfl)
    have HFIT := Lib.hid hfit
    have HZ := Lib.hid (show bs.length + (beN n k).length ≤ maxW by rw [beN_len]; have := HL.out; unfold maxW at *; omega)
    have HZ2 := Lib.hid (show (bs ++ beN n k).length ≤ maxW by rw [List.length_append]; exact HZ.out)
    have HOK := Lib.hid (HU.out.append (beN_ok n k))
    obtain ⟨S, hS⟩ : ∃ S : Nat → Prop, S = fun t => some t = r := ⟨_, rfl⟩
    have NSQ := Lib.hid (show ¬ S q by rw [hS]; exact fun e => H0.out.ne e.symm)
    subst hS
    clear hfit hfr
    go_enter Tryz.func109, Tryz.ntmps109
    go_wp2_with fail
    refine (fits_any n k hk hn w).mono ?_
    rintro _ w1 ⟨rfl, hww⟩
    have hww := hww.symm
    subst hww
    rw [HFIT.out]
    go_wp2_with fail
    refine wp_region_rely4 (by kernel_rfl) 9 (by kernel_rfl) (by kernel_rfl) (But (fun t => some t = r)) Ext 8 (But.refl _) Ext.refl Ext.trans But.trans (fun ix => match ix with
      | 0 => fun _ v => v = .pointer (some ⟨q, 0, none⟩)
      | 1 => fun _ v => v = .pointer (some ⟨q, 0, none⟩)
      | 2 => fun _ v => v = .pointer (some ⟨q, 0, none⟩)
      | 3 => fun _ v => v = .pointer (some ⟨q, 0, none⟩)
      | 4 => fun _ v => v = sv
      | 5 => fun _ v => v = .int .i64 n
      | 6 => fun _ v => v = .int .i64 k
      | 7 => fun W y => ∃ A m c, y = .slice A m c ∧ Bs W y (beN n k) ∧ ∀ t, y.ownBlock = some t → w.heap.size ≤ t
      | 8 => fun W y => OwnO W base 5 y (u8s (bs ++ (beN n k))) ∧ (y.ownBlock = r ∨ ∃ b, y.ownBlock = some b ∧ w.heap.size ≤ b)
      | _ => fun _ _ => False) ?_
    simp (maxSteps := 10000000) only [Rely4, List.take_succ_cons, List.take_zero, List.drop_succ_cons, List.drop_zero, Nat.reduceAdd, Nat.zero_add, Act.put, List.setIfInBounds_toArray, List.set_cons_succ, List.set_cons_zero]
    refine ⟨?_, ?_, ?_, ?_, ?_, ?_, ?_, ?_, ?_, ?_⟩
    · refine step4o rfl (by decide) fun rv wq hE hd => ?_
      exact gives_move _ (.pointer (some ⟨q, 0, none⟩)) (.inl rfl) rfl ⟨⟨But.refl _ _, Ext.refl _⟩, fun _ _ => rfl⟩
    · refine step4o rfl (by decide) fun rv wq hE hd => ?_
      exact gives_move _ (.pointer (some ⟨q, 0, none⟩)) (.inl rfl) rfl ⟨⟨But.refl _ _, Ext.refl _⟩, fun _ _ => rfl⟩
    · refine step4o rfl (by decide) fun rv wq hE hd => ?_
      exact gives_nilCheck _ rfl ⟨q, 0, none⟩ (show rv 1 = _ from hd.1) ⟨⟨But.refl _ _, Ext.refl _⟩, fun _ _ => rfl⟩
    · refine step4o rfl (by decide) fun rv wq hE hd => ?_
      exact gives_fieldAddr' 167 _ 0 rfl (.pointer (some ⟨q, 0, none⟩)) _ (show rv 2 = _ from hd.1) (by go_simp) ⟨⟨But.refl _ _, Ext.refl _⟩, fun _ _ => rfl⟩
    · refine step4o rfl (by decide) fun rv wq hE hd => ?_
      have hc := (but_drewT hE).cellT C0.out NSQ.out
      exact gives_loadAt 137 _ rfl (.pointer (some ⟨q, 0, none⟩)) (sv) (show rv 3 = _ from hd.1) (by go_simp) ⟨⟨But.refl _ _, Ext.refl _⟩, fun _ _ => rfl⟩
    · refine step4o rfl (by decide) fun rv wq hE hd => ?_
      exact gives_move _ (.int .i64 n) (.inl rfl) rfl ⟨⟨But.refl _ _, Ext.refl _⟩, fun _ _ => rfl⟩
    · refine step4o rfl (by decide) fun rv wq hE hd => ?_
      exact gives_move _ (.int .i64 k) (.inl rfl) rfl ⟨⟨But.refl _ _, Ext.refl _⟩, fun _ _ => rfl⟩
    · refine step4o rfl (by decide) fun rv wq hE hd => ?_
      refine gives_call 145 (enters_of Tryz.func145 (by kernel_rfl) rfl) _ _ rfl rfl [.int .i64 n, .int .i64 k] (congr (congrArg (fun a b => a :: b) (show rv 5 = _ from hd.1)) (congrArg (fun a => [a]) (show rv 6 = _ from hd.2.1))) ?_
      refine (onumber_any n k hk h0n h1n wq).mono ?_
      rintro _ w'' ⟨b, rfl, hbl, hblk, hbel⟩
      have hsz := (but_drewT hE).size
      refine ⟨_, rfl, ⟨But.of_below hbel, hbel⟩, fun W2 h2 => ⟨_, _, _, rfl, ?_, fun t ht => ?_⟩⟩
      · have hbs := Bs.of_blk (c := (beN n k).length) hblk (beN_ok n k) (Nat.le_refl _) (by rw [beN_len]; unfold maxLen; omega)
        rw [beN_len] at hbs
        exact hbs.same fun t ht hlt => h2.same t hlt (fun hs => by
          have : b = t := by simpa [Value.ownBlock] using ht
          have := (H0.out.row t hs.symm).2
          omega)
      · have : b = t := by simpa [Value.ownBlock] using ht
        omega
    · refine step4m rfl fun rv wq hE hZ hd => ?_
      have hbz := ext_of_drew hZ
      obtain ⟨A7, n7, c7, e7, b7, _⟩ := hd.2.1
      refine gives_appendO _ _ rfl base sv (u8s bs) (show rv 4 = _ from hd.1) (HO.out.below hbz) (rv 7) (beN n k).length (u8s (beN n k)) rfl (by rw [e7] at b7 ⊢; have := b7.len; subst this; exact b7.src) (by rw [u8s_len', Nat.mul_one]; have := HZ.out; unfold maxW at this; omega) (Nat.le_trans HBS.out hbz.size) ?_
      intro v' w' ho hg hp
      rw [show u8s bs ++ u8s (beN n k) = u8s (bs ++ (beN n k)) by simp [u8s]] at ho
      refine ⟨⟨hg.os, hg.tape, hg.output, hg.size, fun t ht hs => hg.block t ht (fun e => hs (by rw [← HR.out]; exact e))⟩, fun W2 h2 => ⟨ho.below h2, ?_⟩⟩
      rcases hp with h | h
      · exact .inl (h.trans HR.out)
      · exact .inr ⟨_, h, hbz.size⟩
    · intro rv wq hE hR
      obtain ⟨ho8, hp8⟩ := hR 8 (by omega)
      have h0 : rv 0 = .pointer (some ⟨q, 0, none⟩) := hR 0 (by omega)
      obtain ⟨A8, c8, e8, _⟩ := ho8.len
      have hB := but_drewT hE
      have hfin := oapp_end (ev := .int .i64 0) HB.out H0.out hB ho8 hp8 HOK.out HZ2.out
      have hblk := hB.blk HB.out NSQ.out
      have c0 := blk_cell (xs := [sv, .int .i64 0]) hblk 0 _ rfl
      have f0 := blk_free hblk 0
      rw [e8] at hfin
      rw [h0, e8]
      have HF := Lib.hid hfin
      clear hE hR ho8 hp8 h0 e8 hB hfin hblk
      go_wp2_with fail
      go_end0
      exact ⟨rfl, by rw [PB.out]; exact HF.out⟩
end Go.Proofs.YtniknhhejlgdfaaGreatDoor
/- The document's writer: a digest, how many, the end. -/
namespace Go.Proofs.YtniknhhejlgdfaaGreatDoor
open Go.RowKit

theorem range_of_but {S : Nat → Prop} {w w' : World} (h : But S w w') {b o : Nat} {cs : List Value} (hc : w.rangeAt b o cs) (hs : ¬ S b) : w'.rangeAt b o cs := fun j u hu => h.cellT (hc j u hu) hs
set_option maxHeartbeats 16000000 in
set_option maxRecDepth 100000 in
theorem odigest_any (base q : Nat) (s : WS) (r : Option Nat) (d : List Int) (hd16 : d.length = 16) (hok : u8s_ok d) (w00 : World) (H : OtAt base w00 q s r) (hlim : Lim s (maxW - 16)) :
    Calls Tryz.prog 110 #[.pointer (some ⟨q, 0, none⟩), .agg (u8s d).toArray] w00 fun e w' => e = .returned (.tuple #[]) ∧ OStep base q (fixS d s) r w00 w' := by
  have b0 : Below w00.heap.size w00 (w00.alloc (.cells (u8s d).toArray 24)) := (Below.refl _ _).alloc (Nat.le_refl _) _
  have B00 := Lib.hid b0
  have d0 : (w00.alloc (.cells (u8s d).toArray 24)).rangeAt w00.heap.size 0 (u8s d) := range_new w00 (u8s d) 24
  have hrow := H.row
  have hH0 := H.below b0
  obtain ⟨w, hw⟩ : ∃ w, w = w00.alloc (.cells (u8s d).toArray 24) := ⟨_, rfl⟩
  rw [← hw] at d0 hH0
  have HW := Lib.hid hw
  have D0 := Lib.hid d0
  have H0 := Lib.hid hH0
  obtain ⟨ev, sv, bs, hb, ho, hr, h1, h2, h3⟩ := hH0.at_
  have HB := Lib.hid hb
  have HO := Lib.hid ho
  have HR := Lib.hid hr
  have HBS := Lib.hid (show base ≤ w.heap.size by have := hH0.low; have := hH0.lt; omega)
  have NSX := Lib.hid (show ¬ (fun t => some t = r) w00.heap.size from fun e => by have := (hrow _ (Eq.symm e)).2; omega)
  have fin : ∀ s' w', OStep base q s' r w w' → OStep base q s' r w00 w' := fun s' w' h => OStep.then_ (by rw [HW.out]; exact Only.of_below B00.out) (.inl rfl) h
  have FIN := Lib.hid fin
  have hc1 := blk_cell (xs := [sv, ev]) hb 1 _ rfl
  have hc0 := blk_cell (xs := [sv, ev]) hb 0 _ rfl
  rw [hw] at hc1
  rcases h3 with ⟨rfl, rfl⟩ | ⟨rfl, rfl⟩
  case inr =>
    clear H hb ho hr h1 h2 b0 d0 hH0 fin hc0 hw
    go_enter Tryz.func110, Tryz.ntmps110
    go_wp2
    go_end0
    rw [← HW.out]
    exact ⟨rfl, by rw [fixS_none]; exact FIN.out _ _ (OStep.refl H0.out)⟩
  have C0 := Lib.hid hc0
  have HL := Lib.hid (hlim bs rfl)
  have HU := Lib.hid h1
  have HZ := Lib.hid (show bs.length + d.length ≤ maxW by rw [hd16]; have := HL.out; unfold maxW at *; omega)
  have HZ2 := Lib.hid (show (bs ++ d).length ≤ maxW by rw [List.length_append]; exact HZ.out)
  have HOK := Lib.hid (HU.out.append hok)
  have PB : Hid (fixS d (some bs) = some (bs ++ d)) := Lib.hid rfl
  have NSQ := Lib.hid (show ¬ (fun t => some t = r) q from fun e => H0.out.ne (Eq.symm e))
  clear H hb ho hr h1 h2 hlim b0 d0 hH0 fin hc0
  clear hw
  go_enter Tryz.func110, Tryz.ntmps110
  go_wp2_with fail
  rw [← HW.out]
  clear hc1
  refine wp_region_rely4 (by kernel_rfl) 9 (by kernel_rfl) (by kernel_rfl) (But (fun t => some t = r)) Ext 8 (But.refl _) Ext.refl Ext.trans But.trans (fun ix => match ix with
    | 0 => fun _ v => v = .pointer (some ⟨q, 0, none⟩)
    | 1 => fun _ v => v = .pointer (some ⟨q, 0, none⟩)
    | 2 => fun _ v => v = .pointer (some ⟨q, 0, none⟩)
    | 3 => fun _ v => v = .pointer (some ⟨q, 0, none⟩)
    | 4 => fun _ v => v = sv
    | 5 => fun _ v => v = .agg (u8s d).toArray
    | 6 => fun _ v => v = .string (strOfNums d)
    | 7 => fun W y => ∃ A m c, y = .slice A m c ∧ Bs W y d ∧ ∀ t, y.ownBlock = some t → w.heap.size ≤ t
    | 8 => fun W y => OwnO W base 5 y (u8s (bs ++ d)) ∧ (y.ownBlock = r ∨ ∃ b, y.ownBlock = some b ∧ w.heap.size ≤ b)
    | _ => fun _ _ => False) ?_
  simp (maxSteps := 10000000) only [Rely4, List.take_succ_cons, List.take_zero, List.drop_succ_cons, List.drop_zero, Nat.reduceAdd, Nat.zero_add, Act.put, List.setIfInBounds_toArray, List.set_cons_succ, List.set_cons_zero]
  refine ⟨?_, ?_, ?_, ?_, ?_, ?_, ?_, ?_, ?_, ?_⟩
  · refine step4o rfl (by decide) fun rv wq hE hd => ?_
    exact gives_move _ (.pointer (some ⟨q, 0, none⟩)) (.inl rfl) rfl ⟨⟨But.refl _ _, Ext.refl _⟩, fun _ _ => rfl⟩
  · refine step4o rfl (by decide) fun rv wq hE hd => ?_
    exact gives_move _ (.pointer (some ⟨q, 0, none⟩)) (.inl rfl) rfl ⟨⟨But.refl _ _, Ext.refl _⟩, fun _ _ => rfl⟩
  · refine step4o rfl (by decide) fun rv wq hE hd => ?_
    exact gives_nilCheck _ rfl ⟨q, 0, none⟩ (show rv 1 = _ from hd.1) ⟨⟨But.refl _ _, Ext.refl _⟩, fun _ _ => rfl⟩
  · refine step4o rfl (by decide) fun rv wq hE hd => ?_
    exact gives_fieldAddr' 167 _ 0 rfl (.pointer (some ⟨q, 0, none⟩)) _ (show rv 2 = _ from hd.1) (by go_simp) ⟨⟨But.refl _ _, Ext.refl _⟩, fun _ _ => rfl⟩
  · refine step4o rfl (by decide) fun rv wq hE hd => ?_
    have hc := (but_drewT hE).cellT C0.out NSQ.out
    exact gives_loadAt 137 _ rfl (.pointer (some ⟨q, 0, none⟩)) (sv) (show rv 3 = _ from hd.1) (by go_simp) ⟨⟨But.refl _ _, Ext.refl _⟩, fun _ _ => rfl⟩
  · refine step4o rfl (by decide) fun rv wq hE hd => ?_
    have hr := range_of_but (but_drewT hE) D0.out NSX.out
    exact gives_load_row 24 _ rfl w00.heap.size 0 rfl (u8s d) _ hr Tryz.underlying24 rfl (by rw [u8s_len', hd16]; exact Tryz.size24) ⟨⟨But.refl _ _, Ext.refl _⟩, fun _ _ => rfl⟩
  · refine step4o rfl (by decide) fun rv wq hE hd => ?_
    refine gives_call 78 (enters_of Tryz.func78 (by kernel_rfl) rfl) _ _ rfl rfl [.agg (u8s d).toArray] (congrArg (fun a => [a]) (show rv 5 = _ from hd.1)) ?_
    refine (text_any d hd16 hok wq).mono ?_
    rintro _ w'' ⟨rfl, hbel⟩
    exact ⟨_, rfl, ⟨But.of_below hbel, hbel⟩, fun _ _ => rfl⟩
  · refine step4o rfl (by decide) fun rv wq hE hd => ?_
    have hsz := (but_drewT hE).size
    have hs16 : (strOfNums d).size = d.length := by rw [← sb_len, sb_str d hok]
    have hbl := below_conv wq 5 (strOfNums d)
    refine gives_convert 9 137 _ rfl (.string (strOfNums d)) _ (show rv 6 = _ from hd.1) (Lib.run_convert_string_bytes wq 9 137 5 _ Tryz.underlying9 Tryz.underlying137 Tryz.underlying5) ⟨⟨But.of_below hbl, hbl⟩, fun W2 h2 => ⟨_, _, _, rfl, ?_, fun t ht => ?_⟩⟩
    · have ho := own_conv (base := 0) (e := 5) wq (strOfNums d) (by rw [hs16, hd16]; omega) (by omega)
      rw [sb_str d hok] at ho
      exact (Bs.of_own ho hok).same fun t ht hlt => h2.same t hlt (fun hs => by
        have : wq.heap.size = t := by simpa [Value.ownBlock] using ht
        have := (H0.out.row t hs.symm).2
        omega)
    · have : wq.heap.size = t := by simpa [Value.ownBlock] using ht
      omega
  · refine step4m rfl fun rv wq hE hZ hd => ?_
    have hbz := ext_of_drew hZ
    obtain ⟨A7, n7, c7, e7, b7, _⟩ := hd.2.1
    refine gives_appendO _ _ rfl base sv (u8s bs) (show rv 4 = _ from hd.1) (HO.out.below hbz) (rv 7) d.length (u8s d) rfl (by rw [e7] at b7 ⊢; have := b7.len; subst this; exact b7.src) (by rw [u8s_len', Nat.mul_one]; have := HZ.out; unfold maxW at this; omega) (Nat.le_trans HBS.out hbz.size) ?_
    intro v' w' ho hg hp
    rw [show u8s bs ++ u8s d = u8s (bs ++ d) by simp [u8s]] at ho
    refine ⟨⟨hg.os, hg.tape, hg.output, hg.size, fun t ht hs => hg.block t ht (fun e => hs (by rw [← HR.out]; exact e))⟩, fun W2 h2 => ⟨ho.below h2, ?_⟩⟩
    rcases hp with h | h
    · exact .inl (h.trans HR.out)
    · exact .inr ⟨_, h, hbz.size⟩
  · intro rv wq hE hR
    obtain ⟨ho8, hp8⟩ := hR 8 (by omega)
    have h0 : rv 0 = .pointer (some ⟨q, 0, none⟩) := hR 0 (by omega)
    obtain ⟨A8, c8, e8, _⟩ := ho8.len
    have hB := but_drewT hE
    have hfin := oapp_end (ev := .int .i64 0) HB.out H0.out hB ho8 hp8 HOK.out HZ2.out
    have hblk := hB.blk HB.out NSQ.out
    have c0 := blk_cell (xs := [sv, .int .i64 0]) hblk 0 _ rfl
    have f0 := blk_free hblk 0
    rw [e8] at hfin
    rw [h0, e8]
    have HF := Lib.hid hfin
    clear hE hR ho8 hp8 h0 e8 hB hfin hblk
    go_wp2_with fail
    go_end0
    exact ⟨rfl, by rw [PB.out]; exact FIN.out _ _ HF.out⟩

/-- How many: too many is an error. -/
def manyS (most n : Nat) (s : WS) : WS := if most < n then none else numS n 1 s
set_option maxHeartbeats 8000000 in
set_option maxRecDepth 100000 in
theorem omany_any (base q : Nat) (s : WS) (r : Option Nat) (n most : Nat) (hn : n ≤ 9223372036854775807) (w : World) (H : OtAt base w q s r) (hlim : Lim s (maxW - 1)) :
    Calls Tryz.prog 112 #[.pointer (some ⟨q, 0, none⟩), .int .i64 n, .int .i64 most] w fun e w' => e = .returned (.tuple #[]) ∧ OStep base q (manyS most n s) r w w' := by
  have H0 := Lib.hid H
  obtain ⟨ev, sv, bs, hb, ho, hr, h1, h2, h3⟩ := H.at_
  have hc1 := blk_cell (xs := [sv, ev]) hb 1 _ rfl
  have hf1 := blk_free hb 1
  have HF := Lib.hid H.fail
  have HL := Lib.hid hlim
  clear H hb ho hr h1 h2 hlim
  rcases h3 with ⟨rfl, rfl⟩ | ⟨rfl, rfl⟩
  · by_cases hmn : most < n
    · have hmi : (most : Int) < n := by omega
      have PB : Hid (manyS most n (some bs) = none) := Lib.hid (if_pos hmn)
      obtain ⟨r1, a1, j1⟩ := HF.out.next
      have A1 := Lib.hid a1
      have J1 := Lib.hid j1
      clear a1 j1 hmn
      go_enter Tryz.func112, Tryz.ntmps112
      go_wp2_with fail
      refine (onum_any base q none r1 n 1 (by omega) (by omega) _ A1.out (fun b hb => by cases hb)).mono ?_
      rintro _ w2 ⟨rfl, hst⟩
      rw [numS_none] at hst
      go_wp2_with fail
      go_end0
      exact ⟨rfl, by rw [PB.out]; exact J1.out _ _ hst⟩
    · have hmi : ¬ (most : Int) < n := by omega
      have PB : Hid (manyS most n (some bs) = numS n 1 (some bs)) := Lib.hid (if_neg hmn)
      clear hmn
      go_enter Tryz.func112, Tryz.ntmps112
      go_wp2_with fail
      refine (onum_any base q (some bs) r n 1 (by omega) (by omega) w H0.out HL.out).mono ?_
      rintro _ w2 ⟨rfl, hst⟩
      go_wp2_with fail
      go_end0
      exact ⟨rfl, by rw [PB.out]; exact hst⟩
  · have PB : Hid (manyS most n none = none) := Lib.hid (by unfold manyS; rw [numS_none]; split <;> rfl)
    go_enter Tryz.func112, Tryz.ntmps112
    go_wp2_with fail
    refine (onum_any base q none r n 1 (by omega) (by omega) w H0.out HL.out).mono ?_
    rintro _ w2 ⟨rfl, hst⟩
    rw [numS_none] at hst
    go_wp2_with fail
    go_end0
    exact ⟨rfl, by rw [PB.out]; exact hst⟩

set_option maxHeartbeats 8000000 in
set_option maxRecDepth 100000 in
theorem odone_any (base q : Nat) (s : WS) (r : Option Nat) (w : World) (H : OtAt base w q s r) :
    Calls Tryz.prog 89 #[.pointer (some ⟨q, 0, none⟩)] w fun e w' => Below w.heap.size w w' ∧ ((s = none ∧ e = .returned (.tuple #[.slice none 0 0, .int .i64 1])) ∨ ∃ b v, s = some b ∧ e = .returned (.tuple #[v, .int .i64 0]) ∧ Bs w' v b) := by
  obtain ⟨ev, sv, bs, hb, ho, hr, h1, h2, h3⟩ := H.at_
  have hc0 := blk_cell (xs := [sv, ev]) hb 0 _ rfl
  have hc1 := blk_cell (xs := [sv, ev]) hb 1 _ rfl
  clear H
  rcases h3 with ⟨rfl, rfl⟩ | ⟨rfl, rfl⟩
  · have HB := Lib.hid (Bs.of_own ho h1)
    clear hb ho hr h1 h2
    obtain ⟨A, c, rfl⟩ := HB.out.form
    go_enter Tryz.func89, Tryz.ntmps89
    go_wp2_with fail
    go_ret2
    exact ⟨Below.refl _ _, .inr ⟨bs, _, rfl, rfl, HB.out⟩⟩
  · have C1 := Lib.hid hc1
    clear hb ho hr h1 h2 hc0
    go_enter Tryz.func89, Tryz.ntmps89
    go_wp2_with fail
    refine wp_region_rely3 (by kernel_rfl) 6 (by kernel_rfl) (by kernel_rfl) Ext Ext.refl Ext.trans (fun ix => match ix with
      | 0 => fun _ v => v = .pointer (some ⟨q, 0, none⟩)
      | 1 => fun _ v => v = .pointer (some ⟨q, 0, none⟩)
      | 2 => fun _ v => v = .pointer (some ⟨q, 1, none⟩)
      | 3 => fun _ v => v = .int .i64 1
      | 4 => fun _ v => v = .slice none 0 0
      | 5 => fun _ v => v = .int .i64 1
      | _ => fun _ _ => False) ?_
    simp (maxSteps := 10000000) only [Rely, List.take_succ_cons, List.take_zero, List.drop_succ_cons, List.drop_zero, Nat.reduceAdd, Nat.zero_add, Act.put, List.setIfInBounds_toArray, List.set_cons_succ, List.set_cons_zero]
    refine ⟨?_, ?_, ?_, ?_, ?_, ?_, ?_⟩
    · refine step_plain rfl fun rv wq hE hd => ?_
      exact gives_move _ (.pointer (some ⟨q, 0, none⟩)) (.inl rfl) rfl ⟨Ext.refl _, fun _ _ => rfl⟩
    · refine step_plain rfl fun rv wq hE hd => ?_
      exact gives_nilCheck _ rfl ⟨q, 0, none⟩ (show rv 0 = _ from hd.1) ⟨Ext.refl _, fun _ _ => rfl⟩
    · refine step_plain rfl fun rv wq hE hd => ?_
      exact gives_fieldAddr' 167 _ 1 rfl (.pointer (some ⟨q, 0, none⟩)) _ (show rv 1 = _ from hd.1) (by go_simp) ⟨Ext.refl _, fun _ _ => rfl⟩
    · refine step_plain rfl fun rv wq hE hd => ?_
      have hc := cell_on (ext_of_drew hE) C1.out
      exact gives_loadAt 3 _ rfl (.pointer (some ⟨q, 1, none⟩)) (.int .i64 1) (show rv 2 = _ from hd.1) (by go_simp) ⟨Ext.refl _, fun _ _ => rfl⟩
    · refine step_plain rfl fun rv wq hE hd => ?_
      exact gives_move _ (.slice none 0 0) (.inr rfl) rfl ⟨Ext.refl _, fun _ _ => rfl⟩
    · refine step_plain rfl fun rv wq hE hd => ?_
      exact gives_move _ (.int .i64 1) (.inr rfl) (show rv 3 = _ from hd.1) ⟨Ext.refl _, fun _ _ => rfl⟩
    · intro rv wq hE hR
      have h4 : rv 4 = .slice none 0 0 := hR 4 (by omega)
      have h5 : rv 5 = .int .i64 1 := hR 5 (by omega)
      rw [h4, h5]
      have BE := Lib.hid (ext_of_drew hE)
      clear hR hE h4 h5
      go_wp2_with fail
      go_ret2
      exact ⟨BE.out, .inl ⟨by first | rfl | trivial, by first | rfl | trivial⟩⟩
end Go.Proofs.YtniknhhejlgdfaaGreatDoor
/- The document's writer: signatures. -/
namespace Go.Proofs.YtniknhhejlgdfaaGreatDoor
open Go.RowKit

theorem Lim.many {s : WS} {m most n : Nat} (h : Lim s m) : Lim (manyS most n s) (m + 1) := by
  unfold manyS
  split
  · intro b hb; cases hb
  · exact h.num _ 1
theorem oput_eq {α : Type} {one : α → WS → WS} (h0 : ∀ x, one x none = none) (most : Nat) (xs : List α) (n : Nat) (s : WS) (hn : n = xs.length) : xs.foldl (fun s x => one x s) (manyS most n s) = putS most one xs s := by
  subst hn
  unfold manyS putS
  split
  · exact foldS_none h0 xs
  · rfl

set_option maxHeartbeats 16000000 in
set_option maxRecDepth 100000 in
theorem osig_any (w0 : World) (q : Nat) (s : WS) (r : Option Nat) (l : Int) (hl64 : -9223372036854775808 ≤ l ∧ l ≤ 9223372036854775807) (ch pa : List (List Int)) (A B : Option Addr) (n c k d : Nat) (hx : Dgs w0 (.slice A n c) ch) (hp : Dgs w0 (.slice B k d) pa) (hn : n = ch.length) (hk : k = pa.length) (hn9 : n ≤ 1000000) (hk9 : k ≤ 1000000) (w : World) (H : OtAt w0.heap.size w q s r) (hb : Below w0.heap.size w0 w) (m : Nat) (hlim : Lim s m) (hm : m + 40000000 ≤ maxW) :
    Calls Tryz.prog 160 #[.pointer (some ⟨q, 0, none⟩), sigV l (.slice A n c) (.slice B k d)] w fun ret w' => ret = .returned (.tuple #[]) ∧ OStep w0.heap.size q (sigS l ch pa s) r w w' := by
  have b0 : Below w.heap.size w (w.alloc (.cells #[.int .i64 l, .slice A n c, .slice B k d] 56)) := (Below.refl _ _).alloc (Nat.le_refl _) _
  have k0 : (w.alloc (.cells #[.int .i64 l, .slice A n c, .slice B k d] 56)).heap[w.heap.size]? = some (.cells #[.int .i64 l, .slice A n c, .slice B k d] 56 (0, 0)) := heap_alloc_new w _
  have HH := Lib.hid H
  have B0 := Lib.hid b0
  have BB0 := Lib.hid (hb.trans (b0.mono hb.size))
  have K_0 := Lib.hid k0
  have ST0 : Hid (OStep w0.heap.size q s r (w.alloc (.cells #[.int .i64 l, .slice A n c, .slice B k d] 56)) (w.alloc (.cells #[.int .i64 l, .slice A n c, .slice B k d] 56))) := Lib.hid (OStep.refl (H.below b0))
  have H0 := Lib.hid (H.below b0)
  have HN := Lib.hid hn
  have HK := Lib.hid hk
  have HX := Lib.hid hx
  have HP := Lib.hid hp
  have HL := Lib.hid hlim
  have HC := Lib.hid (fun d hd => (hx.good d hd).1)
  have HM := Lib.hid hm
  clear H b0 hb k0 hn hk hx hp hlim hm
  go_enter Tryz.func160, Tryz.ntmps160
  obtain ⟨r0, a0, j0⟩ := ST0.out.next
  have A0 := Lib.hid a0
  have J0 := Lib.hid j0
  have BB0 := Lib.hid (BB0.out.trans (ST0.out.below H0.out))
  have c0_0 := blk_cell (xs := [.int .i64 l, .slice A n c, .slice B k d]) K_0.out 0 _ rfl
  clear a0 j0
  go_wp2_with fail
  refine (onum_any w0.heap.size q s r0 l 1 (by omega) hl64 _ A0.out (HL.out.mono (by have := HM.out; unfold maxW at *; omega))).mono ?_
  rintro _ w1 ⟨rfl, hst1⟩
  have ST1 := Lib.hid (J0.out _ _ hst1)
  clear hst1 c0_0
  obtain ⟨r1, a1, j1⟩ := ST1.out.next
  have A1 := Lib.hid a1
  have J1 := Lib.hid j1
  have BB1 := Lib.hid (BB0.out.trans (ST1.out.below H0.out))
  have K_1 := Lib.hid (ST1.out.keep HH.out K_0.out (Nat.le_refl _))
  have c1_1 := blk_cell (xs := [.int .i64 l, .slice A n c, .slice B k d]) K_1.out 1 _ rfl
  clear a1 j1
  go_wp2_with fail
  refine (omany_any w0.heap.size q (numS l 1 s) r1 n 68 (by omega) _ A1.out ((HL.out.num l 1).mono (by have := HM.out; unfold maxW at *; omega))).mono ?_
  rintro _ w2 ⟨rfl, hst2⟩
  have ST2 := Lib.hid (J1.out _ _ hst2)
  clear hst2 c1_1
  have K_2 := Lib.hid (ST2.out.keep HH.out K_0.out (Nat.le_refl _))
  have c1_2 := blk_cell (xs := [.int .i64 l, .slice A n c, .slice B k d]) K_2.out 1 _ rfl
  go_wp2_with fail
  clear c1_2 K_2
  obtain ⟨st2, hst2⟩ : ∃ st : Nat → WS, st = fun i => (ch.take i).foldl (fun s x => fixS x s) (manyS 68 n (numS l 1 s)) := ⟨_, rfl⟩
  have hs02 : manyS 68 n (numS l 1 s) = st2 0 := by rw [hst2]; rfl
  have hsn2 : putS 68 fixS ch (numS l 1 s) = st2 n := by
    rw [hst2]
    dsimp only
    rw [show ch.take n = ch by rw [HN.out, List.take_length]]
    exact (oput_eq fixS_none 68 ch n (numS l 1 s) HN.out).symm
  have hlm2 : ∀ i, i ≤ n → Lim (st2 i) ((m + 1 + 1) + i * 16) := fun i hi => by
    rw [hst2]
    dsimp only
    refine (Lim.foldD (ch.take i) (fun d hd => HC.out d (List.mem_of_mem_take hd)) _ _ (Lim.many (HL.out.num l 1))).mono ?_
    rw [List.length_take, ← HN.out, Nat.min_eq_left hi]
    exact Nat.le_refl _
  have hss2 : ∀ i (hi : i < ch.length), st2 (i + 1) = fixS (ch.getD i []) (st2 i) := fun i hi => by
    rw [hst2]
    dsimp only
    rw [List.take_succ_eq_append_getElem hi, List.foldl_append, List.getD_eq_getElem?_getD, List.getElem?_eq_getElem hi]
    rfl
  have ST2' := Lib.hid (by have := ST2.out; rwa [hs02] at this)
  have HSN2 := Lib.hid hsn2
  have HLM2 := Lib.hid hlm2
  have HSS2 := Lib.hid hss2
  clear hs02 hsn2 hlm2 hss2 hst2
  go_loopw [5, 20] (fun _ ix wr => ∃ (i : Nat), i ≤ n ∧ ix = .int .i64 i ∧ Hid (OStep w0.heap.size q (st2 i) r (w.alloc (.cells #[.int .i64 l, .slice A n c, .slice B k d] 56)) wr))
    (fun _ ix _ => n - (intOf ix).toNat)
  case atStart => exact ⟨0, by omega, rfl, ST2'⟩
  case round =>
    clear ST2'
    obtain ⟨i, hi, rfl, hstp⟩ := hrel
    have BR := Lib.hid (BB0.out.trans (hstp.out.below H0.out))
    by_cases hlt : i < n
    · have hil : (i : Int) < n := by omega
      have hix : i < ch.length := by rw [← HN.out]; exact hlt
      obtain ⟨r1, hw1, hk1⟩ := hstp.out.next
      have HW1 := Lib.hid hw1
      have HK1 := Lib.hid hk1
      have HSI := Lib.hid (HSS2.out i hix)
      have HLI := Lib.hid (HLM2.out i hi)
      clear hw1 hk1
      obtain ⟨bb, oo, rfl, _, hrg⟩ := (HX.out.below BR.out).el HN.out i hlt
      obtain ⟨hl16, hok⟩ := HX.out.at i hix
      obtain ⟨X, hX⟩ : ∃ X, X = ch.getD i [] := ⟨_, rfl⟩
      rw [← hX] at hrg hl16 hok HSI
      have RG := Lib.hid hrg
      have HCL := Lib.hid (show (u8s X).length = 16 by rw [u8s_len', hl16])
      have HOK := Lib.hid hok
      have HL16 := Lib.hid hl16
      clear hrg hX hok hl16
      have hh : ∀ Z : Array Value, Z.size = 16 → Has (wr.alloc (.cells Z 24)) wr.heap.size 24 (u8s X).length := fun Z hZ => has_new wr _ _ _ (by rw [hZ]; exact HCL.out.symm)
      have HV := Lib.hid hh
      clear hh
      go_wp2_with (first | (refine wpList_load_g rfl 24 (.tmp 22) rfl bb (oo + i * 16) rfl (u8s X) _ RG.out Tryz.underlying24 rfl (by rw [HCL.out]; exact Tryz.size24) ?_) | (refine wpList_store_row rfl 24 (.tmp 5) (.tmp 23) rfl wr.heap.size rfl (u8s X) rfl 24 (HV.out _ rfl) (by rw [HCL.out]; exact Tryz.size24) (one_u8s X) ?_; intro w2 hp2; have BL := Lib.hid (show Below wr.heap.size wr w2 from hp2.below ((Below.refl _ _).alloc (Nat.le_refl _) _) (Nat.le_refl _)); have RG2 := Lib.hid (blk_range hp2.blk); clear hp2) | (refine wpList_load_g rfl 24 (.tmp 5) rfl wr.heap.size 0 rfl (u8s X) _ RG2.out Tryz.underlying24 rfl (by rw [HCL.out]; exact Tryz.size24) ?_))
      refine (odigest_any w0.heap.size q (st2 i) r1 X HL16.out HOK.out w2 (HW1.out.below BL.out) (HLI.out.mono (by have := HM.out; unfold maxW at *; omega))).mono ?_
      rintro _ w3 ⟨rfl, hst3⟩
      have HST := Lib.hid hst3
      clear hst3
      go_wp2_with fail
      go_roundw
      case rel => exact ⟨i + 1, by omega, by go_num, Lib.hid (by rw [HSI.out]; exact HK1.out _ _ (OStep.then_ (Only.of_below BL.out) (.inl rfl) HST.out))⟩
      case measure => simp [intOf]; omega
    · have hii : i = n := by omega
      rw [hii] at hstp ⊢
      clear hii hi hlt
      have ST3 : Hid (OStep w0.heap.size q (putS 68 fixS ch (numS l 1 s)) r (w.alloc (.cells #[.int .i64 l, .slice A n c, .slice B k d] 56)) wr) := Lib.hid (by rw [HSN2.out]; exact hstp.out)
      obtain ⟨w3, hww⟩ : ∃ w', w' = wr := ⟨_, rfl⟩
      have hww := hww.symm
      subst hww
      clear hstp BR HSN2 HLM2 HSS2
      obtain ⟨r3, a3, j3⟩ := ST3.out.next
      have A3 := Lib.hid a3
      have J3 := Lib.hid j3
      have BB3 := Lib.hid (BB0.out.trans (ST3.out.below H0.out))
      have K_3 := Lib.hid (ST3.out.keep HH.out K_0.out (Nat.le_refl _))
      have c2_3 := blk_cell (xs := [.int .i64 l, .slice A n c, .slice B k d]) K_3.out 2 _ rfl
      clear a3 j3
      go_wp2_with fail
      refine (omany_any w0.heap.size q (putS 68 fixS ch (numS l 1 s)) r3 k 5 (by omega) _ A3.out ((Lim.putD HC.out (HL.out.num l 1)).mono (by have := HM.out; unfold maxW at *; omega))).mono ?_
      rintro _ w4 ⟨rfl, hst4⟩
      have ST4 := Lib.hid (J3.out _ _ hst4)
      clear hst4 c2_3
      have K_4 := Lib.hid (ST4.out.keep HH.out K_0.out (Nat.le_refl _))
      have c2_4 := blk_cell (xs := [.int .i64 l, .slice A n c, .slice B k d]) K_4.out 2 _ rfl
      go_wp2_with fail
      clear c2_4 K_4
      obtain ⟨st4, hst4⟩ : ∃ st : Nat → WS, st = fun i => (pa.take i).foldl (fun s x => fixS x s) (manyS 5 k (putS 68 fixS ch (numS l 1 s))) := ⟨_, rfl⟩
      have hs04 : manyS 5 k (putS 68 fixS ch (numS l 1 s)) = st4 0 := by rw [hst4]; rfl
      have hsn4 : sigS l ch pa s = st4 k := by
        rw [hst4]
        dsimp only
        rw [show pa.take k = pa by rw [HK.out, List.take_length]]
        exact (oput_eq fixS_none 5 pa k (putS 68 fixS ch (numS l 1 s)) HK.out).symm
      have hlm4 : ∀ i, i ≤ k → Lim (st4 i) ((m + 1 + 1 + 68 * 16 + 1) + i * 16) := fun i hi => by
        rw [hst4]
        dsimp only
        refine (Lim.foldD (pa.take i) (fun d hd => (HP.out.good d (List.mem_of_mem_take hd)).1) _ _ (Lim.many (Lim.putD HC.out (HL.out.num l 1)))).mono ?_
        rw [List.length_take, ← HK.out, Nat.min_eq_left hi]
        exact Nat.le_refl _
      have hss4 : ∀ i (hi : i < pa.length), st4 (i + 1) = fixS (pa.getD i []) (st4 i) := fun i hi => by
        rw [hst4]
        dsimp only
        rw [List.take_succ_eq_append_getElem hi, List.foldl_append, List.getD_eq_getElem?_getD, List.getElem?_eq_getElem hi]
        rfl
      have ST4' := Lib.hid (by have := ST4.out; rwa [hs04] at this)
      have HSN4 := Lib.hid hsn4
      have HLM4 := Lib.hid hlm4
      have HSS4 := Lib.hid hss4
      clear hs04 hsn4 hlm4 hss4 hst4
      go_loopw [7, 36] (fun _ ix wr => ∃ (i : Nat), i ≤ k ∧ ix = .int .i64 i ∧ Hid (OStep w0.heap.size q (st4 i) r (w.alloc (.cells #[.int .i64 l, .slice A n c, .slice B k d] 56)) wr))
        (fun _ ix _ => k - (intOf ix).toNat)
      case atStart => exact ⟨0, by omega, rfl, ST4'⟩
      case round =>
        clear ST4'
        obtain ⟨i, hi, rfl, hstp⟩ := hrel
        have BR := Lib.hid (BB0.out.trans (hstp.out.below H0.out))
        by_cases hlt : i < k
        · have hil : (i : Int) < k := by omega
          have hix : i < pa.length := by rw [← HK.out]; exact hlt
          obtain ⟨r1, hw1, hk1⟩ := hstp.out.next
          have HW1 := Lib.hid hw1
          have HK1 := Lib.hid hk1
          have HSI := Lib.hid (HSS4.out i hix)
          have HLI := Lib.hid (HLM4.out i hi)
          clear hw1 hk1
          obtain ⟨bb, oo, rfl, _, hrg⟩ := (HP.out.below BR.out).el HK.out i hlt
          obtain ⟨hl16, hok⟩ := HP.out.at i hix
          obtain ⟨X, hX⟩ : ∃ X, X = pa.getD i [] := ⟨_, rfl⟩
          rw [← hX] at hrg hl16 hok HSI
          have RG := Lib.hid hrg
          have HCL := Lib.hid (show (u8s X).length = 16 by rw [u8s_len', hl16])
          have HOK := Lib.hid hok
          have HL16 := Lib.hid hl16
          clear hrg hX hok hl16
          have hh : ∀ Z : Array Value, Z.size = 16 → Has (wr.alloc (.cells Z 24)) wr.heap.size 24 (u8s X).length := fun Z hZ => has_new wr _ _ _ (by rw [hZ]; exact HCL.out.symm)
          have HV := Lib.hid hh
          clear hh
          go_wp2_with (first | (refine wpList_load_g rfl 24 (.tmp 38) rfl bb (oo + i * 16) rfl (u8s X) _ RG.out Tryz.underlying24 rfl (by rw [HCL.out]; exact Tryz.size24) ?_) | (refine wpList_store_row rfl 24 (.tmp 7) (.tmp 39) rfl wr.heap.size rfl (u8s X) rfl 24 (HV.out _ rfl) (by rw [HCL.out]; exact Tryz.size24) (one_u8s X) ?_; intro w2 hp2; have BL := Lib.hid (show Below wr.heap.size wr w2 from hp2.below ((Below.refl _ _).alloc (Nat.le_refl _) _) (Nat.le_refl _)); have RG2 := Lib.hid (blk_range hp2.blk); clear hp2) | (refine wpList_load_g rfl 24 (.tmp 7) rfl wr.heap.size 0 rfl (u8s X) _ RG2.out Tryz.underlying24 rfl (by rw [HCL.out]; exact Tryz.size24) ?_))
          refine (odigest_any w0.heap.size q (st4 i) r1 X HL16.out HOK.out w2 (HW1.out.below BL.out) (HLI.out.mono (by have := HM.out; unfold maxW at *; omega))).mono ?_
          rintro _ w3 ⟨rfl, hst3⟩
          have HST := Lib.hid hst3
          clear hst3
          go_wp2_with fail
          go_roundw
          case rel => exact ⟨i + 1, by omega, by go_num, Lib.hid (by rw [HSI.out]; exact HK1.out _ _ (OStep.then_ (Only.of_below BL.out) (.inl rfl) HST.out))⟩
          case measure => simp [intOf]; omega
        · have hii : i = k := by omega
          rw [hii] at hstp ⊢
          clear hii hi hlt
          have ST5 : Hid (OStep w0.heap.size q (sigS l ch pa s) r (w.alloc (.cells #[.int .i64 l, .slice A n c, .slice B k d] 56)) wr) := Lib.hid (by rw [HSN4.out]; exact hstp.out)
          obtain ⟨w5, hww⟩ : ∃ w', w' = wr := ⟨_, rfl⟩
          have hww := hww.symm
          subst hww
          clear hstp BR HSN4 HLM4 HSS4
          go_wp2_with fail
          go_end0
          exact ⟨rfl, OStep.then_ (Only.of_below B0.out) (.inl rfl) ST5.out⟩
end Go.Proofs.YtniknhhejlgdfaaGreatDoor
/- The document's writer: signed words and QCs. -/
namespace Go.Proofs.YtniknhhejlgdfaaGreatDoor
open Go.RowKit

abbrev I64 (z : Int) : Prop := -9223372036854775808 ≤ z ∧ z ≤ 9223372036854775807
structure SdI (x : Sd) : Prop where
  who : I64 x.who
  leaf : I64 x.leaf
  ch : x.ch.length ≤ 1000000
  pa : x.pa.length ≤ 1000000
theorem sigS_none (l : Int) (ch pa : List (List Int)) : sigS l ch pa none = none := by unfold sigS; rw [numS_none, putS_none fixS_none, putS_none fixS_none]
theorem sdS_none (x : Sd) : sdS x none = none := by unfold sdS; rw [numS_none, sigS_none]

set_option maxHeartbeats 16000000 in
set_option maxRecDepth 100000 in
theorem osigned_any (w0 : World) (q : Nat) (s : WS) (r : Option Nat) (z l : Int) (ch pa : List (List Int)) (A B : Option Addr) (n c k d : Nat) (hx : Dgs w0 (.slice A n c) ch) (hp : Dgs w0 (.slice B k d) pa) (hn : n = ch.length) (hk : k = pa.length) (hI : SdI ⟨z, l, ch, pa⟩) (w : World) (H : OtAt w0.heap.size w q s r) (hb : Below w0.heap.size w0 w) (m : Nat) (hlim : Lim s m) (hm : m + 50000000 ≤ maxW) :
    Calls Tryz.prog 146 #[.pointer (some ⟨q, 0, none⟩), .agg #[.int .i64 z, .int .i64 l, .slice A n c, .slice B k d]] w fun ret w' => ret = .returned (.tuple #[]) ∧ OStep w0.heap.size q (sdS ⟨z, l, ch, pa⟩ s) r w w' := by
  have b0 : Below w.heap.size w (w.alloc (.cells #[.int .i64 z, .int .i64 l, .slice A n c, .slice B k d] 58)) := (Below.refl _ _).alloc (Nat.le_refl _) _
  have k0 : (w.alloc (.cells #[.int .i64 z, .int .i64 l, .slice A n c, .slice B k d] 58)).heap[w.heap.size]? = some (.cells #[.int .i64 z, .int .i64 l, .slice A n c, .slice B k d] 58 (0, 0)) := heap_alloc_new w _
  have HH := Lib.hid H
  have B0 := Lib.hid b0
  have BB0 := Lib.hid (hb.trans (b0.mono hb.size))
  have K_0 := Lib.hid k0
  have ST0 : Hid (OStep w0.heap.size q s r (w.alloc (.cells #[.int .i64 z, .int .i64 l, .slice A n c, .slice B k d] 58)) (w.alloc (.cells #[.int .i64 z, .int .i64 l, .slice A n c, .slice B k d] 58))) := Lib.hid (OStep.refl (H.below b0))
  have H0 := Lib.hid (H.below b0)
  have HN := Lib.hid hn
  have HK := Lib.hid hk
  have HX := Lib.hid hx
  have HP := Lib.hid hp
  have HL := Lib.hid hlim
  have HM := Lib.hid hm
  have HI := Lib.hid hI
  clear H b0 hb k0 hn hk hx hp hlim hm hI
  go_enter Tryz.func146, Tryz.ntmps146
  obtain ⟨r0, a0, j0⟩ := ST0.out.next
  have A0 := Lib.hid a0
  have J0 := Lib.hid j0
  have BB0 := Lib.hid (BB0.out.trans (ST0.out.below H0.out))
  have c0_0 := blk_cell (xs := [.int .i64 z, .int .i64 l, .slice A n c, .slice B k d]) K_0.out 0 _ rfl
  clear a0 j0
  go_wp2_with fail
  refine (onum_any w0.heap.size q s r0 z 1 (by omega) HI.out.who _ A0.out (HL.out.mono (by have := HM.out; unfold maxW at *; omega))).mono ?_
  rintro _ w1 ⟨rfl, hst1⟩
  have ST1 := Lib.hid (J0.out _ _ hst1)
  clear hst1 c0_0
  obtain ⟨r1, a1, j1⟩ := ST1.out.next
  have A1 := Lib.hid a1
  have J1 := Lib.hid j1
  have BB1 := Lib.hid (BB0.out.trans (ST1.out.below H0.out))
  have K_1 := Lib.hid (ST1.out.keep HH.out K_0.out (Nat.le_refl _))
  have RS1 := Lib.hid (blk_mid (pre := [.int .i64 z]) (ys := [.int .i64 l, .slice A n c, .slice B k d]) (post := []) K_1.out rfl)
  clear a1 j1
  go_wp2_with (refine wpList_load_g rfl 56 (.tmp 9) rfl w.heap.size 1 rfl [.int .i64 l, .slice A n c, .slice B k d] _ RS1.out Tryz.underlying56 rfl Tryz.size56 ?_)
  refine (osig_any w0 q (numS z 1 s) r1 l HI.out.leaf ch pa A B n c k d HX.out HP.out HN.out HK.out (by rw [HN.out]; exact HI.out.ch) (by rw [HK.out]; exact HI.out.pa) _ A1.out BB1.out (m + 1) (HL.out.num z 1) (by have := HM.out; unfold maxW at *; omega)).mono ?_
  rintro _ w2 ⟨rfl, hst2⟩
  have ST2 := Lib.hid (J1.out _ _ hst2)
  clear hst2 
  go_wp2_with fail
  go_end0
  exact ⟨rfl, OStep.then_ (Only.of_below B0.out) (.inl rfl) ST2.out⟩

set_option maxHeartbeats 16000000 in
set_option maxRecDepth 100000 in
theorem oqc_any (w0 : World) (q : Nat) (s : WS) (r : Option Nat) (e n2 : Int) (bl : List Int) (hbl : bl.length = 16) (hbo : u8s_ok bl) (xs : List Sd) (A : Option Addr) (k c : Nat) (hx : Sgs w0 (.slice A k c) xs) (hk : k = xs.length) (he : I64 e) (hn2 : I64 n2) (hk9 : k ≤ 1000) (hI : ∀ x ∈ xs, SdI x) (w : World) (H : OtAt w0.heap.size w q s r) (hb : Below w0.heap.size w0 w) (m : Nat) (hlim : Lim s m) (hm : m + 70000000 ≤ maxW) :
    Calls Tryz.prog 111 #[.pointer (some ⟨q, 0, none⟩), .agg (qcC e n2 bl (.slice A k c)).toArray] w fun ret w' => ret = .returned (.tuple #[]) ∧ OStep w0.heap.size q (qcS ⟨e, n2, bl, xs⟩ s) r w w' := by
  have b0 : Below w.heap.size w (w.alloc (.cells (qcC e n2 bl (.slice A k c)).toArray 29)) := (Below.refl _ _).alloc (Nat.le_refl _) _
  have k0 : (w.alloc (.cells (qcC e n2 bl (.slice A k c)).toArray 29)).heap[w.heap.size]? = some (.cells (qcC e n2 bl (.slice A k c)).toArray 29 (0, 0)) := heap_alloc_new w _
  have HH := Lib.hid H
  have B0 := Lib.hid b0
  have BB0 := Lib.hid (hb.trans (b0.mono hb.size))
  have K_0 := Lib.hid k0
  have ST0 : Hid (OStep w0.heap.size q s r (w.alloc (.cells (qcC e n2 bl (.slice A k c)).toArray 29)) (w.alloc (.cells (qcC e n2 bl (.slice A k c)).toArray 29))) := Lib.hid (OStep.refl (H.below b0))
  have H0 := Lib.hid (H.below b0)
  have HK := Lib.hid hk
  have HX := Lib.hid hx
  have HL := Lib.hid hlim
  have HM := Lib.hid hm
  have HBL := Lib.hid hbl
  have HBO := Lib.hid hbo
  have HE := Lib.hid he
  have HN2 := Lib.hid hn2
  have HI := Lib.hid hI
  have HOK := Lib.hid hx.ok
  clear H b0 hb k0 hk hx hlim hm hbl hbo he hn2 hI
  go_enter Tryz.func111, Tryz.ntmps111
  obtain ⟨r0, a0, j0⟩ := ST0.out.next
  have A0 := Lib.hid a0
  have J0 := Lib.hid j0
  have BB0 := Lib.hid (BB0.out.trans (ST0.out.below H0.out))
  have c0_0 := blk_cell (xs := (qcC e n2 bl (.slice A k c))) K_0.out 0 _ rfl
  clear a0 j0
  go_wp2_with fail
  refine (onum_any w0.heap.size q s r0 e 4 (by omega) HE.out _ A0.out (HL.out.mono (by have := HM.out; unfold maxW at *; omega))).mono ?_
  rintro _ w1 ⟨rfl, hst1⟩
  have ST1 := Lib.hid (J0.out _ _ hst1)
  clear hst1 c0_0
  obtain ⟨r1, a1, j1⟩ := ST1.out.next
  have A1 := Lib.hid a1
  have J1 := Lib.hid j1
  have BB1 := Lib.hid (BB0.out.trans (ST1.out.below H0.out))
  have K_1 := Lib.hid (ST1.out.keep HH.out K_0.out (Nat.le_refl _))
  have c1_1 := blk_cell (xs := (qcC e n2 bl (.slice A k c))) K_1.out 1 _ rfl
  clear a1 j1
  go_wp2_with fail
  refine (onum_any w0.heap.size q (numS e 4 s) r1 n2 6 (by omega) HN2.out _ A1.out ((HL.out.num e 4).mono (by have := HM.out; unfold maxW at *; omega))).mono ?_
  rintro _ w2 ⟨rfl, hst2⟩
  have ST2 := Lib.hid (J1.out _ _ hst2)
  clear hst2 c1_1
  obtain ⟨r2, a2, j2⟩ := ST2.out.next
  have A2 := Lib.hid a2
  have J2 := Lib.hid j2
  have BB2 := Lib.hid (BB0.out.trans (ST2.out.below H0.out))
  have K_2 := Lib.hid (ST2.out.keep HH.out K_0.out (Nat.le_refl _))
  have RQ2 := Lib.hid (qc_2 K_2.out)
  clear a2 j2
  go_wp2_with (refine wpList_load_g rfl 24 (.tmp 15) rfl w.heap.size 2 rfl (u8s bl) _ RQ2.out Tryz.underlying24 rfl (by rw [u8s_len', HBL.out]; exact Tryz.size24) ?_)
  refine (odigest_any w0.heap.size q (numS n2 6 (numS e 4 s)) r2 bl HBL.out HBO.out _ A2.out (((HL.out.num e 4).num n2 6).mono (by have := HM.out; unfold maxW at *; omega))).mono ?_
  rintro _ w3 ⟨rfl, hst3⟩
  have ST3 := Lib.hid (J2.out _ _ hst3)
  clear hst3 
  obtain ⟨r3, a3, j3⟩ := ST3.out.next
  have A3 := Lib.hid a3
  have J3 := Lib.hid j3
  have BB3 := Lib.hid (BB0.out.trans (ST3.out.below H0.out))
  have K_3 := Lib.hid (ST3.out.keep HH.out K_0.out (Nat.le_refl _))
  have c18_3 := qc_3 HBL.out K_3.out
  clear a3 j3
  go_wp2_with fail
  refine (omany_any w0.heap.size q (fixS bl (numS n2 6 (numS e 4 s))) r3 k 7 (by omega) _ A3.out ((Lim.dg _ HBL.out _ _ ((HL.out.num e 4).num n2 6)).mono (by have := HM.out; unfold maxW at *; omega))).mono ?_
  rintro _ w4 ⟨rfl, hst4⟩
  have ST4 := Lib.hid (J3.out _ _ hst4)
  clear hst4 c18_3
  have K_4 := Lib.hid (ST4.out.keep HH.out K_0.out (Nat.le_refl _))
  have c18_4 := qc_3 HBL.out K_4.out
  go_wp2_with fail
  clear c18_4 K_4
  obtain ⟨st4, hst4⟩ : ∃ st : Nat → WS, st = fun i => (xs.take i).foldl (fun s x => sdS x s) (manyS 7 k (fixS bl (numS n2 6 (numS e 4 s)))) := ⟨_, rfl⟩
  have hs04 : manyS 7 k (fixS bl (numS n2 6 (numS e 4 s))) = st4 0 := by rw [hst4]; rfl
  have hsn4 : qcS ⟨e, n2, bl, xs⟩ s = st4 k := by
    rw [hst4]
    dsimp only
    rw [show xs.take k = xs by rw [HK.out, List.take_length]]
    exact (oput_eq sdS_none 7 xs k (fixS bl (numS n2 6 (numS e 4 s))) HK.out).symm
  have hlm4 : ∀ i, i ≤ k → Lim (st4 i) ((m + 4 + 6 + 16 + 1) + i * 1172) := fun i hi => by
    rw [hst4]
    dsimp only
    refine (Lim.foldP (c := 1172) Lim.sd (xs.take i) (fun x hx => HOK.out x (List.mem_of_mem_take hx)) _ _ (Lim.many (Lim.dg _ HBL.out _ _ ((HL.out.num e 4).num n2 6)))).mono ?_
    rw [List.length_take, ← HK.out, Nat.min_eq_left hi]
    exact Nat.le_refl _
  have hss4 : ∀ i (hi : i < xs.length), st4 (i + 1) = sdS (xs.getD i Sd.none) (st4 i) := fun i hi => by
    rw [hst4]
    dsimp only
    rw [List.take_succ_eq_append_getElem hi, List.foldl_append, List.getD_eq_getElem?_getD, List.getElem?_eq_getElem hi]
    rfl
  have ST4' := Lib.hid (by have := ST4.out; rwa [hs04] at this)
  have HSN4 := Lib.hid hsn4
  have HLM4 := Lib.hid hlm4
  have HSS4 := Lib.hid hss4
  clear hs04 hsn4 hlm4 hss4 hst4
  go_loopw [5, 26] (fun _ ix wr => ∃ (i : Nat), i ≤ k ∧ ix = .int .i64 i ∧ Hid (OStep w0.heap.size q (st4 i) r (w.alloc (.cells (qcC e n2 bl (.slice A k c)).toArray 29)) wr))
    (fun _ ix _ => k - (intOf ix).toNat)
  case atStart => exact ⟨0, by omega, rfl, ST4'⟩
  case round =>
    clear ST4'
    obtain ⟨i, hi, rfl, hstp⟩ := hrel
    have BR := Lib.hid (BB0.out.trans (hstp.out.below H0.out))
    by_cases hlt : i < k
    · have hil : (i : Int) < k := by omega
      have hix : i < xs.length := by rw [← HK.out]; exact hlt
      obtain ⟨r1, hw1, hk1⟩ := hstp.out.next
      have HW1 := Lib.hid hw1
      have HK1 := Lib.hid hk1
      have HSI := Lib.hid (HSS4.out i hix)
      have HLI := Lib.hid (HLM4.out i hi)
      clear hw1 hk1
      obtain ⟨bb, oo, cs, rfl, _, hrg, hsd⟩ := HX.out.el i hlt
      have hxi := HI.out (xs.getD i Sd.none) (by rw [List.getD_eq_getElem?_getD, List.getElem?_eq_getElem hix]; exact List.getElem_mem _)
      obtain ⟨X, hX⟩ : ∃ X, X = xs.getD i Sd.none := ⟨_, rfl⟩
      rw [← hX] at hsd HSI hxi
      obtain ⟨z, l, ch, pa⟩ := X
      obtain ⟨A1, c1, B1, d1, rfl, hch, hpa⟩ := hsd.ex
      dsimp only at hch hpa hrg
      have RG := Lib.hid (range_below hrg BR.out)
      have HCL : Hid ([Value.int .i64 z, .int .i64 l, .slice A1 ch.length c1, .slice B1 pa.length d1].length = 4) := Lib.hid rfl
      have HCH := Lib.hid hch
      have HPA := Lib.hid hpa
      have HXI := Lib.hid hxi
      clear hrg hX hsd hch hpa hxi
      have hh : ∀ Z : Array Value, Z.size = 4 → Has (wr.alloc (.cells Z 58)) wr.heap.size 58 ([Value.int .i64 z, .int .i64 l, .slice A1 ch.length c1, .slice B1 pa.length d1]).length := fun Z hZ => has_new wr _ _ _ (by rw [hZ]; exact HCL.out.symm)
      have HV := Lib.hid hh
      clear hh
      go_wp2_with (first | (refine wpList_load_g rfl 58 (.tmp 28) rfl bb (oo + i * 4) rfl ([Value.int .i64 z, .int .i64 l, .slice A1 ch.length c1, .slice B1 pa.length d1]) _ RG.out Tryz.underlying58 rfl (by rw [HCL.out]; exact Tryz.size58) ?_) | (refine wpList_store_row rfl 58 (.tmp 5) (.tmp 29) rfl wr.heap.size rfl ([Value.int .i64 z, .int .i64 l, .slice A1 ch.length c1, .slice B1 pa.length d1]) rfl 58 (HV.out _ rfl) (by rw [HCL.out]; exact Tryz.size58) (one_sd _ _ _ _ _ _ _ _) ?_; intro w2 hp2; have BL := Lib.hid (show Below wr.heap.size wr w2 from hp2.below ((Below.refl _ _).alloc (Nat.le_refl _) _) (Nat.le_refl _)); have RG2 := Lib.hid (blk_range hp2.blk); clear hp2) | (refine wpList_load_g rfl 58 (.tmp 5) rfl wr.heap.size 0 rfl ([Value.int .i64 z, .int .i64 l, .slice A1 ch.length c1, .slice B1 pa.length d1]) _ RG2.out Tryz.underlying58 rfl (by rw [HCL.out]; exact Tryz.size58) ?_))
      refine (osigned_any w0 q (st4 i) r1 z l ch pa A1 B1 ch.length c1 pa.length d1 HCH.out HPA.out rfl rfl HXI.out w2 (HW1.out.below BL.out) (BR.out.trans (BL.out.mono BR.out.size)) _ HLI.out (by have := HM.out; unfold maxW at *; omega)).mono ?_
      rintro _ w3 ⟨rfl, hst3⟩
      have HST := Lib.hid hst3
      clear hst3
      go_wp2_with fail
      go_roundw
      case rel => exact ⟨i + 1, by omega, by go_num, Lib.hid (by rw [HSI.out]; exact HK1.out _ _ (OStep.then_ (Only.of_below BL.out) (.inl rfl) HST.out))⟩
      case measure => simp [intOf]; omega
    · have hii : i = k := by omega
      rw [hii] at hstp ⊢
      clear hii hi hlt
      have ST5 : Hid (OStep w0.heap.size q (qcS ⟨e, n2, bl, xs⟩ s) r (w.alloc (.cells (qcC e n2 bl (.slice A k c)).toArray 29)) wr) := Lib.hid (by rw [HSN4.out]; exact hstp.out)
      obtain ⟨w5, hww⟩ : ∃ w', w' = wr := ⟨_, rfl⟩
      have hww := hww.symm
      subst hww
      clear hstp BR HSN4 HLM4 HSS4
      go_wp2_with fail
      go_end0
      exact ⟨rfl, OStep.then_ (Only.of_below B0.out) (.inl rfl) ST5.out⟩
end Go.Proofs.YtniknhhejlgdfaaGreatDoor
