/- The chapter's example of a tally. -/
import Derived.Test.YtideopnblhbngaaDoorTalS3
namespace Go.Proofs.YtideopnblhbngaaDoor
open Go.RowKit Go.Shelf

def kA : ByteArray := ⟨#[97]⟩
def whoA : List Int := [0, 1, 3, 2]
def wsA (j : Nat) : List (Wd ByteArray) := (whoA.take j).foldl (fun ws who => putW ws kA who 7) (List.replicate 4 (false, ByteArray.empty, 0))
theorem wsA_succ (j : Nat) (h : j < 4) : wsA (j + 1) = putW (wsA j) kA (whoA.getD j 0) 7 := by
  unfold wsA
  rw [List.take_succ_eq_append_getElem (by exact h), List.foldl_append]
  rw [List.getD_eq_getElem?_getD, List.getElem?_eq_getElem (by exact h)]
  rfl
theorem wsA_put (j : Nat) (h : j < 4) (aR aT : Addr) : putB four (wsA j) kA (whoA.getD j 0) 7 = decide (j = 2) ∧ putE (wsA j) (whoA.getD j 0) aR aT = .nilIface := by
  match j, h with
  | 0, _ => exact ⟨by kernel_rfl, by rfl⟩
  | 1, _ => exact ⟨by kernel_rfl, by rfl⟩
  | 2, _ => exact ⟨by kernel_rfl, by rfl⟩
  | 3, _ => exact ⟨by kernel_rfl, by rfl⟩
theorem wsA_pow : powOf four (wsA 4) kA = 4 := by kernel_rfl
theorem four_valid : validB four = true := by kernel_rfl

set_option maxHeartbeats 4000000 in
set_option maxRecDepth 100000 in
theorem four_any (w : World) : Calls Tryd.prog 79 #[] w fun e w' => e = .returned (.slice (some ⟨w.heap.size, 0, none⟩) 4 4) ∧ w' = w.alloc (.cells (rcells four).toArray 39) := by
  go_enter Tryd.func79, Tryd.ntmps79
  go_wp2_with fail
  go_ret
  exact ⟨rfl, rfl⟩

set_option maxHeartbeats 4000000 in
set_option maxRecDepth 100000 in
theorem tAlive_any (aS aR aT : Addr) (w : World) (hs : Sen w aS aR aT) :
    Calls Tryd.prog 50 #[] w fun e w' => e = .returned (.bool true) ∧ Below w.heap.size w w' := by
  have h3 : 3 ≤ w.heap.size := by
    obtain ⟨cs, t, fr, e⟩ := cell_obj hs.t
    exact blk_lt e
  have bel0 : Below w.heap.size w (w.alloc (.cells (rcells four).toArray 39)) := (Below.refl _ _).alloc (Nat.le_refl _) _
  have HS := Lib.hid (hs.below bel0)
  have HV : Hid (Vals (w.alloc (.cells (rcells four).toArray 39)) (.slice (some ⟨w.heap.size, 0, none⟩) 4 4) four) := Lib.hid (Vals.new w four 39 four_good (by decide))
  have HB := Lib.hid bel0
  clear hs bel0
  go_enter Tryd.func50, Tryd.ntmps50
  go_wp2_with fail
  refine (four_any w).mono ?_
  rintro _ _ ⟨rfl, rfl⟩
  obtain ⟨w0, hw0⟩ : ∃ x, x = w.alloc (.cells (rcells four).toArray 39) := ⟨_, rfl⟩
  rw [← hw0] at HS HV HB ⊢
  clear hw0
  go_wp2_with fail
  refine (snew_ok four _ 4 4 aS aR aT w0 HV.out HS.out four_valid).mono ?_
  rintro _ w1 ⟨⟨p, g, A, c, rfl, ht⟩, bel1⟩
  have HT := Lib.hid ht
  have HS1 := Lib.hid (HS.out.below bel1)
  have B1 := Lib.hid (HB.out.trans (bel1.mono HB.out.size))
  have h30 : 3 ≤ w0.heap.size := Nat.le_trans h3 HB.out.size
  obtain ⟨base, hbase⟩ : ∃ b, b = w0.heap.size := ⟨_, rfl⟩
  rw [← hbase] at HT h30
  have hb1 : base ≤ w1.heap.size := by rw [hbase]; exact bel1.size
  have hb0 : w.heap.size ≤ base := by rw [hbase]; exact HB.out.size
  clear ht bel1 HS HV HB hbase
  have hbl : Below w1.heap.size w1 (w1.alloc (.cells (i64s whoA).toArray 3)) := (Below.refl _ _).alloc (Nat.le_refl _) _
  have T2 := Lib.hid (HT.out.below hbl)
  have S2 := Lib.hid (HS1.out.below hbl)
  have L2 : Hid ((w1.alloc (.cells (i64s whoA).toArray 3)).heap[w1.heap.size]? = some (.cells (i64s whoA).toArray 3 (0, 0))) := Lib.hid (heap_alloc_new w1 _)
  have B2 := Lib.hid (B1.out.trans (hbl.mono B1.out.size))
  clear hbl HT HS1 B1
  go_wp2_with fail
  go_loopw [20] (fun x wr => ∃ j : Nat, j ≤ 4 ∧ x = .int .i64 j ∧ Hid (TalAt 141 143 Value.string base p g A 4 c 4 four (wsA j) wr) ∧ Hid (Sen wr aS aR aT) ∧ Hid (wr.heap[w1.heap.size]? = some (.cells (i64s whoA).toArray 3 (0, 0))) ∧ Hid (Below w.heap.size w wr))
    (fun x _ => 4 - (intOf x).toNat)
  case atStart => exact ⟨0, by omega, rfl, T2, S2, L2, B2⟩
  case round =>
    clear T2 S2 L2 B2
    obtain ⟨j, hj, rfl, T3, S3, L3, B3⟩ := hrel
    by_cases hlt : j < 4
    · have hil : (j : Int) < 4 := by omega
      have hc : wr.cell? ⟨w1.heap.size, j, none⟩ = some (.int .i64 (whoA.getD j 0)) := by
        rw [cell_of_row _ _ _ _ _ _ L3.out]
        match j, hlt with
        | 0, _ => rfl
        | 1, _ => rfl
        | 2, _ => rfl
        | 3, _ => rfl
      obtain ⟨hpb, hpe⟩ := wsA_put j hlt aR aT
      have hsu := wsA_succ j hlt
      obtain ⟨who, hwho⟩ : ∃ x, x = whoA.getD j 0 := ⟨_, rfl⟩
      rw [← hwho] at hc hpb hpe hsu
      have HPB := Lib.hid hpb
      have HPE := Lib.hid hpe
      have HSU := Lib.hid hsu
      clear hpb hpe hsu hwho
      go_wp2_with fail
      refine (sput_any base p g A 4 c 4 four (wsA j) kA who 7 aS aR aT wr T3.out S3.out h30 (by omega)).mono ?_
      rintro _ w4 ⟨rfl, t4, b4⟩
      rw [HPB.out, HPE.out]
      rw [← HSU.out] at t4
      have hg3 : 3 ≤ g := Nat.le_trans h30 T3.out.hg
      have T4 := Lib.hid t4
      have S4 : Hid (Sen w4 aS aR aT) := Lib.hid ⟨b4.cellT S3.out.s (by show ¬ 0 = g; omega), b4.cellT S3.out.r (by show ¬ 1 = g; omega), b4.cellT S3.out.t (by show ¬ 2 = g; omega)⟩
      have L4 := Lib.hid (b4.blk L3.out (fun e => by
        obtain ⟨cur, h1, _⟩ := T3.out.wds
        have h2 := L3.out
        rw [show w1.heap.size = g from e, h1] at h2
        cases h2))
      have B4 := Lib.hid (B3.out.trans (b4.low B3.out.size (fun k hk => by rw [show k = g from hk]; exact Nat.le_trans hb0 T3.out.hg)))
      clear t4 b4 T3 S3 L3 B3 HPB HPE HSU hc
      by_cases h2 : j = 2
      · subst h2
        go_wp2_with fail
        go_roundw
        case rel => exact ⟨2 + 1, by omega, by go_num, T4, S4, L4, B4⟩
        case measure => simp [intOf]
      · have hb2 : ((j : Int) == 2) = false := by
          rw [beq_eq_false_iff_ne]
          omega
        rw [decide_eq_false h2]
        go_wp2_with fail
        go_roundw
        case rel => exact ⟨j + 1, by omega, by go_num, T4, S4, L4, B4⟩
        case measure => simp [intOf]; omega
    · obtain rfl : j = 4 := by omega
      go_wp2_with fail
      refine (spower_any base p g A 4 c 4 four (wsA 4) kA aS aR aT wr T3.out S3.out four_valid (by omega)).mono ?_
      rintro _ w5 ⟨rfl, bel5⟩
      rw [wsA_pow]
      have B5 := Lib.hid (B3.out.trans (bel5.mono B3.out.size))
      clear bel5 T3 S3 L3 B3
      go_wp2_with fail
      go_ret
      exact ⟨rfl, B5.out⟩
end Go.Proofs.YtideopnblhbngaaDoor
