/- The reference's Sum, Enough, Few for layer 8. -/
import Derived.Test.YtideopnblhbngaaDoorRef08
namespace Go.Proofs.YtideopnblhbngaaDoor
open Go.RowKit Go.Shelf

def refSumV (vs : List Va) (who : List Int) : Int × Int :=
  if validB vs = false then (0, 11) else if inR vs.length who = false then (0, 1) else if ¬ who.Nodup then (0, 17) else ((powAt vs who).sum, 0)

set_option maxHeartbeats 8000000 in
set_option maxRecDepth 100000 in
theorem refSum_any (vs : List Va) (who : List Int) (A A' : Option Addr) (n c m c' : Nat) (w : World) (hv : Vals w (.slice A n c) vs) (hw : Ins w (.slice A' m c') who) (hz : n ≤ 1000000) (hz2 : m ≤ 1000000) :
    Calls Tryd.prog 36 #[.slice A n c, .slice A' m c'] w fun e w' => e = .returned (.tuple #[.int .i64 (refSumV vs who).1, .int .i64 (refSumV vs who).2]) ∧ Below w.heap.size w w' := by
  have HV := Lib.hid hv
  have HW := Lib.hid hw
  have HN := Lib.hid hv.len
  have HM := Lib.hid hw.len
  clear hv hw
  go_enter Tryd.func36, Tryd.ntmps36
  go_wp2_with fail
  refine (right_any vs A n c w HV.out).mono ?_
  rintro _ w1 ⟨rfl, bel1⟩
  have V1 := Lib.hid (HV.out.below bel1)
  have W1 := Lib.hid (HW.out.below bel1)
  have B1 := Lib.hid bel1
  clear bel1 HV HW
  cases hval : validB vs with
  | false =>
    have HE : Hid (refSumV vs who = (0, 11)) := Lib.hid (by unfold refSumV; rw [if_pos hval])
    clear hval
    go_wp2_with fail
    go_ret2
    exact ⟨by rw [HE.out]; rfl, B1.out⟩
  | true =>
    have HVAL := Lib.hid hval
    clear hval
    go_wp2_with fail
    go_loopw [7, 16] (fun _ k wr => ∃ (i : Nat), i ≤ m ∧ k = .int .i64 i ∧ Hid (∀ j, j < i → 0 ≤ who.getD j 0 ∧ who.getD j 0 < n) ∧ w1 = wr)
      (fun _ k _ => m - (intOf k).toNat)
    case atStart => exact ⟨0, by omega, rfl, Lib.hid (fun j h => absurd h (by omega)), by first | trivial | rfl⟩
    case round =>
      obtain ⟨i, hi, rfl, hin, rfl⟩ := hrel
      by_cases hlt : i < m
      · obtain ⟨b, off, rfl, hb, hr⟩ := W1.out.el i hlt
        have hi1 : i < who.length := by have := HM.out; omega
        obtain ⟨X, hX⟩ : ∃ X, X = who.getD i 0 := ⟨_, rfl⟩
        rw [← hX] at hr
        have HX := Lib.hid hX
        have hil : (i : Int) < m := by omega
        clear hX hb
        by_cases hbad : X < 0 ∨ (n : Int) ≤ X
        · have HE : Hid (refSumV vs who = (0, 1)) := Lib.hid (by
            unfold refSumV
            rw [if_neg (by rw [HVAL.out]; simp), if_pos]
            cases h : inR vs.length who with
            | false => rfl
            | true =>
              have := (inR_iff _ _).1 h X (by rw [HX.out, List.getD_eq_getElem?_getD, List.getElem?_eq_getElem hi1]; exact List.getElem_mem _)
              have := HN.out
              omega)
          by_cases h1 : X < 0
          · go_wp2_with fail
            go_ret2
            exact ⟨by rw [HE.out]; rfl, B1.out⟩
          · have h2 : (n : Int) ≤ X := by omega
            go_wp2_with fail
            go_ret2
            exact ⟨by rw [HE.out]; rfl, B1.out⟩
        · have h1 : ¬ X < 0 := by omega
          have h2 : ¬ (n : Int) ≤ X := by omega
          clear hbad
          go_wp2_with fail
          go_roundw
          case rel => exact ⟨i + 1, by omega, by go_num, Lib.hid (fun j hj => by
            by_cases hji : j = i
            · subst hji; rw [← HX.out]; omega
            · exact hin.out j (by omega)), by first | trivial | rfl⟩
          case measure => simp [intOf]; omega
      · obtain rfl : i = m := by omega
        have hR : inR vs.length who = true := by
          rw [inR_iff]
          intro x hx
          obtain ⟨j, hj, rfl⟩ := List.getElem_of_mem hx
          have := hin.out j (by rw [HM.out]; exact hj)
          rw [List.getD_eq_getElem?_getD, List.getElem?_eq_getElem hj] at this
          rw [← HN.out]
          exact this
        have HR := Lib.hid hR
        have HB := hin
        clear hR hlt hi
        go_wp2_with fail
        go_loopw [8, 9, 10, 31] (fun s _ _ k wr => ∃ (j : Nat) (S : Int), j ≤ i ∧ s = .int .i64 S ∧ k = .int .i64 j ∧ Hid (S = sumW (powAt vs (who.take j))) ∧ Hid ((who.take j).Nodup) ∧ w1 = wr)
          (fun _ _ _ k _ => i - (intOf k).toNat)
        case atStart => exact ⟨0, 0, by omega, rfl, rfl, Lib.hid rfl, Lib.hid (by simp), by first | trivial | rfl⟩
        case round =>
          obtain ⟨j, S, hj, rfl, rfl, hS, hnd, rfl⟩ := hrel
          by_cases hlt : j < i
          · obtain ⟨b, off, rfl, hb, hr⟩ := W1.out.el j hlt
            have hj1 : j < who.length := by have := HM.out; omega
            have hbd := HB.out j hlt
            have hpt := powAt_take vs who j hj1
            obtain ⟨X, hX⟩ : ∃ X, X = who.getD j 0 := ⟨_, rfl⟩
            rw [← hX] at hr hbd hpt
            obtain ⟨x, rfl⟩ : ∃ x : Nat, X = (x : Int) := ⟨X.toNat, by omega⟩
            have hxn : x < n := by omega
            have HX := Lib.hid hX
            have HPT := Lib.hid hpt
            have hil : (j : Int) < i := by omega
            have hxi : (x : Int) < n := by omega
            have hjc : ¬ c' < j := by
              obtain ⟨b', off', c2, e, h1, _⟩ := W1.out.cells (by intro e; rw [e] at hj1; simp at hj1)
              simp only [Value.slice.injEq] at e
              have := HM.out
              omega
            clear hX hb hbd hpt
            go_wp2_with fail
            refine (in_any (who.take j) x (some ⟨b, off, none⟩) j c' w1 (W1.out.take j (by omega)) (by omega)).mono ?_
            rintro _ w1 ⟨rfl, rfl⟩
            cases hd : decide ((x : Int) ∈ who.take j) with
            | true =>
              have HE : Hid (refSumV vs who = (0, 17)) := Lib.hid (by
                unfold refSumV
                rw [if_neg (by rw [HVAL.out]; simp), if_neg (by rw [HR.out]; simp), if_pos]
                exact not_nodup_take hj1 (by rw [← HX.out]; exact of_decide_eq_true hd))
              clear hd
              go_wp2_with fail
              go_ret2
              exact ⟨by rw [HE.out]; rfl, B1.out⟩
            | false =>
              have HND : Hid ((who.take (j + 1)).Nodup) := Lib.hid (nodup_take hj1 hnd.out (by rw [← HX.out]; exact of_decide_eq_false hd))
              clear hd
              obtain ⟨b2, off2, rfl, hb2, hr2⟩ := V1.out.el x hxn
              have hl2 := V1.out.at x (by have := HN.out; omega)
              obtain ⟨Y, hY⟩ : ∃ Y, Y = vs.getD x ([], 0) := ⟨_, rfl⟩
              rw [← hY] at hr2 hl2
              have hpw := vcells_pow hl2 hr2
              have HY := Lib.hid hY
              clear hr2 hl2 hY hb2
              go_wp2_with fail
              go_roundw
              case rel => exact ⟨j + 1, _, by omega, rfl, by go_num, Lib.hid (by rw [HPT.out, sumW_snoc, ← hS.out, show ((x : Int)).toNat = x from rfl, ← HY.out]), HND, by first | trivial | rfl⟩
              case measure => simp [intOf]; omega
          · obtain rfl : j = i := by omega
            have hND : who.Nodup := by
              have := hnd.out
              rwa [List.take_of_length_le (by rw [← HM.out]; exact Nat.le_refl _)] at this
            have hSS : S = (powAt vs who).sum := by
              have := hS.out
              rw [List.take_of_length_le (by rw [← HM.out]; exact Nat.le_refl _)] at this
              rw [this]
              exact (powAt_sum HVAL.out HR.out hND).1
            have HE : Hid (refSumV vs who = (S, 0)) := Lib.hid (by
              unfold refSumV
              rw [if_neg (by rw [HVAL.out]; simp), if_neg (by rw [HR.out]; simp), if_neg (fun h => h hND), ← hSS])
            clear hND hSS
            go_wp2_with fail
            go_ret2
            exact ⟨by rw [HE.out]; rfl, B1.out⟩
end Go.Proofs.YtideopnblhbngaaDoor
