/- What some validators have, whether they are a quorum, or few: powers.Sum, powers.Enough, powers.Few. -/
import Derived.Test.YtideopnblhbngaaDoorTot
import Derived.Deep.QuietTactic
import Derived.BigQuiet
namespace Go.Proofs.YtideopnblhbngaaDoor
open Go.RowKit Go.Shelf

theorem bel_drewN {B : Nat} {a w : World} (h : Below B a w) (n : Nat) : Below B a (w.drewN n) := h.trans ⟨rfl, rfl, rfl, Nat.le_refl _, fun _ _ => rfl⟩

def inR (n : Nat) (who : List Int) : Bool := who.all fun i => decide (0 ≤ i ∧ i < n)
theorem inR_iff (n : Nat) (who : List Int) : inR n who = true ↔ ∀ i ∈ who, 0 ≤ i ∧ i < n := by
  unfold inR
  simp only [List.all_eq_true, decide_eq_true_iff]
/-- What powers.Sum answers. -/
def sumV (vs : List Va) (who : List Int) (aS aR aT : Addr) : Value :=
  if validB vs = false then .tuple #[.int .i64 0, errV aS]
  else if inR vs.length who = false then .tuple #[.int .i64 0, errV aR]
  else if ¬ who.Nodup then .tuple #[.int .i64 0, errV aT]
  else .tuple #[.int .i64 (powAt vs who).sum, .nilIface]
def goodW (vs : List Va) (who : List Int) : Bool := validB vs && inR vs.length who && decide who.Nodup

theorem powAt_range {vs : List Va} {who : List Int} (hv : validB vs = true) (hr : inR vs.length who = true) : ∀ p ∈ powAt vs who, 1 ≤ p ∧ p ≤ 1099511627776 := by
  intro p hp
  unfold powAt at hp
  rw [List.mem_map] at hp
  obtain ⟨x, hx, rfl⟩ := hp
  have := (inR_iff _ _).1 hr x hx
  have := ((validB_iff vs).1 hv).2 x.toNat (by omega)
  exact ⟨this.1, this.2.1⟩
theorem nodup_le : ∀ (n : Nat) (l : List Int), (∀ i ∈ l, 0 ≤ i ∧ i < (n : Int)) → l.Nodup → l.length ≤ n
  | 0, [], _, _ => Nat.le_refl _
  | 0, x :: l, h, _ => by have := h x (by simp); omega
  | n + 1, l, h, hd => by
    have ih := nodup_le n (l.erase (n : Int)) (fun i hi => by
      have hm := List.mem_of_mem_erase hi
      have hne : i ≠ n := (hd.mem_erase_iff.1 hi).1
      have := h i hm
      omega) (hd.erase _)
    have : l.length ≤ (l.erase (n : Int)).length + 1 := by rw [List.length_erase]; split <;> omega
    omega
theorem nodup_len {n : Nat} {who : List Int} (hr : inR n who = true) (hd : who.Nodup) : who.length ≤ n := nodup_le n who ((inR_iff _ _).1 hr) hd
theorem powAt_sum {vs : List Va} {who : List Int} (hv : validB vs = true) (hr : inR vs.length who = true) (hd : who.Nodup) : sumW (powAt vs who) = (powAt vs who).sum ∧ 0 ≤ (powAt vs who).sum ∧ (powAt vs who).sum ≤ 1099511627776000 := by
  refine sumW_eq _ (fun p hp => by have := powAt_range hv hr p hp; omega) ?_
  have := nodup_len hr hd
  have := valid_len hv
  unfold powAt
  rw [List.length_map]
  omega

theorem nodup_take {who : List Int} {k : Nat} (hk : k < who.length) (h : (who.take k).Nodup) (hn : who.getD k 0 ∉ who.take k) : (who.take (k + 1)).Nodup := by
  rw [List.take_succ_eq_append_getElem hk, List.nodup_append]
  rw [List.getD_eq_getElem?_getD, List.getElem?_eq_getElem hk] at hn
  refine ⟨h, by simp, ?_⟩
  intro a ha b hb e
  simp at hb
  subst hb
  subst e
  exact hn ha
theorem not_nodup_take {who : List Int} {k : Nat} (hk : k < who.length) (hn : who.getD k 0 ∈ who.take k) : ¬ who.Nodup := by
  intro h
  have h2 : (who.take (k + 1)).Nodup := h.sublist (List.take_sublist _ _)
  rw [List.take_succ_eq_append_getElem hk, List.nodup_append] at h2
  rw [List.getD_eq_getElem?_getD, List.getElem?_eq_getElem hk] at hn
  exact h2.2.2 _ hn _ (by simp) rfl

set_option maxHeartbeats 4000000 in
set_option maxRecDepth 100000 in
theorem psum_any (vs : List Va) (who : List Int) (A A' : Option Addr) (n c m c' : Nat) (aS aR aT : Addr) (w : World) (hv : Vals w (.slice A n c) vs) (hw : Ins w (.slice A' m c') who) (hs : Sen w aS aR aT) (hz : n ≤ 1000000) (hz2 : m ≤ 1000000) :
    Calls Tryd.prog 22 #[.slice A n c, .slice A' m c'] w fun e w' => e = .returned (sumV vs who aS aR aT) ∧ Below w.heap.size w w' := by
  have bel0 : Below w.heap.size w ((w.alloc (.cells #[.slice A n c] 22)).alloc (.cells #[.slice A' m c'] 28)) := ((Below.refl _ _).alloc (Nat.le_refl _) _).alloc (by simp) _
  have hbox := ((Boxed.new w 22 (.slice A n c)).alloc (.cells #[.slice A' m c'] 28)).cell
  have hbox2 := (Boxed.new (w.alloc (.cells #[.slice A n c] 22)) 28 (.slice A' m c')).cell
  rw [World.size_alloc] at hbox2
  have HV := Lib.hid (hv.below bel0)
  have HW := Lib.hid (hw.below bel0)
  have HS := Lib.hid (hs.below bel0)
  have HB := Lib.hid bel0
  have HN := Lib.hid hv.len
  have HN2 := Lib.hid hw.len
  clear hv hs hw bel0
  go_enter Tryd.func22, Tryd.ntmps22
  go_wp2_with fail
  refine (check_any vs A n c aS aR aT _ HV.out HS.out).mono ?_
  rintro _ w1 ⟨rfl, bel1⟩
  have HV1 := Lib.hid (HV.out.below bel1)
  have HW1 := Lib.hid (HW.out.below bel1)
  have HS1 := Lib.hid (HS.out.below bel1)
  have hb1 := cell_on bel1 hbox
  have hb2 := cell_on bel1 hbox2
  have B1 := Lib.hid (HB.out.trans (bel1.mono HB.out.size))
  clear bel1 hbox hbox2 HV HW HS HB
  by_cases hval : validB vs = true
  · have hck : checkV vs aS = .nilIface := by unfold checkV; rw [if_pos hval]
    rw [hck]
    clear hck
    go_wp2_with fail
    go_loopw [18] (fun k wr => ∃ (i : Nat), i ≤ m ∧ k = .int .i64 i ∧ Hid (inR n (who.take i) = true) ∧ w1 = wr)
      (fun k _ => m - (intOf k).toNat)
    case atStart => exact ⟨0, by omega, rfl, Lib.hid rfl, rfl⟩
    case round =>
      obtain ⟨i, hi, rfl, hok, rfl⟩ := hrel
      by_cases hlt : i < m
      · have hil : (i : Int) < m := by omega
        obtain ⟨b, off, rfl, hb, hr⟩ := HW1.out.el i hlt
        have hlen : i < who.length := by rw [← HN2.out]; exact hlt
        have htk : who.take (i + 1) = who.take i ++ [who.getD i 0] := by rw [List.take_succ_eq_append_getElem hlen]; simp [List.getD_eq_getElem?_getD, hlen]
        have hmem : who.getD i 0 ∈ who := by rw [List.getD_eq_getElem?_getD, List.getElem?_eq_getElem hlen]; exact List.getElem_mem _
        obtain ⟨z, hzz⟩ : ∃ z, z = who.getD i 0 := ⟨_, rfl⟩
        rw [← hzz] at hr htk hmem
        have hno : ¬ (0 ≤ z ∧ z < (n : Int)) → sumV vs who aS aR aT = .tuple #[.int .i64 0, errV aR] := fun h => by
          unfold sumV
          rw [if_neg (by rw [hval]; simp), if_pos]
          rw [Bool.eq_false_iff]
          intro hh
          have := (inR_iff _ _).1 hh z hmem
          rw [← HN.out] at this
          exact h this
        have HNO := Lib.hid hno
        have HTK := Lib.hid htk
        clear hno htk hmem hzz hb hlen
        have her : w1.cell? ⟨1, 0, none⟩ = some (.iface 157 (.pointer (some aR))) := HS1.out.r
        by_cases p1 : z < 0
        · go_wp2
          go_quiet (fail)
          go_wp2
          go_ret2
          refine ⟨?_, bel_drewN B1.out _⟩
          rw [HNO.out (by omega)]
          rfl
        by_cases p2 : (n : Int) ≤ z
        · go_wp2
          go_quiet (fail)
          go_wp2
          go_ret2
          refine ⟨?_, bel_drewN B1.out _⟩
          rw [HNO.out (by omega)]
          rfl
        go_wp2
        go_roundw
        case rel =>
          refine ⟨i + 1, by omega, by go_num, Lib.hid ?_, trivial⟩
          rw [HTK.out]
          have := hok.out
          unfold inR at this ⊢
          rw [List.all_append, this]
          simp
          omega
        case measure => simp [intOf]; omega
      · obtain rfl : i = m := by omega
        have hin : inR n who = true := by have := hok.out; rwa [HN2.out, List.take_length] at this
        have HIN := Lib.hid hin
        clear hin hok
        go_wp2_with fail
        go_loopw [34] (fun k wr => ∃ (j : Nat), j ≤ i ∧ k = .int .i64 j ∧ Hid ((who.take j).Nodup) ∧ w1 = wr)
          (fun k _ => i - (intOf k).toNat)
        case atStart => exact ⟨0, by omega, rfl, Lib.hid (by simp), rfl⟩
        case round =>
          obtain ⟨j, hj, rfl, hnd, rfl⟩ := hrel
          by_cases hlt2 : j < i
          · have hil : (j : Int) < i := by omega
            obtain ⟨b, off, rfl, hb, hr⟩ := HW1.out.el j hlt2
            have hlen : j < who.length := by rw [← HN2.out]; exact hlt2
            have hcap : (j : Int) ≤ c' := by
              obtain ⟨_, _, c2, e, h1, _⟩ := HW1.out.cells (by intro e; rw [e] at hlen; simp at hlen)
              simp only [Value.slice.injEq] at e
              omega
            have hI := Lib.hid (HW1.out.take j hj)
            have hyes : who.getD j 0 ∉ who.take j → (who.take (j + 1)).Nodup := nodup_take hlen hnd.out
            have hnot : who.getD j 0 ∈ who.take j → ¬ who.Nodup := not_nodup_take hlen
            obtain ⟨z, hzz⟩ : ∃ z, z = who.getD j 0 := ⟨_, rfl⟩
            rw [← hzz] at hr hyes hnot
            have HY := Lib.hid hyes
            have HNT := Lib.hid hnot
            clear hyes hnot hzz hb hlen
            have het : w1.cell? ⟨2, 0, none⟩ = some (.iface 157 (.pointer (some aT))) := HS1.out.t
            go_wp2_with fail
            refine (containsI_any (who.take j) z _ j c' w1 hI.out (by omega)).mono ?_
            rintro _ w2 ⟨rfl, rfl⟩
            by_cases hm : z ∈ who.take j
            · rw [decide_eq_true hm]
              go_wp2
              go_quiet (fail)
              go_wp2
              go_ret2
              refine ⟨?_, bel_drewN B1.out _⟩
              unfold sumV
              rw [if_neg (by rw [hval]; simp), if_neg (by rw [← HN.out, HIN.out]; simp), if_pos (HNT.out hm)]
              rfl
            · rw [decide_eq_false hm]
              go_wp2
              go_roundw
              case rel => exact ⟨j + 1, by omega, by go_num, Lib.hid (HY.out hm), trivial⟩
              case measure => simp [intOf]; omega
          · obtain rfl : j = i := by omega
            have hdd : who.Nodup := by have := hnd.out; rwa [HN2.out, List.take_length] at this
            have hsum := (powAt_sum hval (by rw [← HN.out]; exact HIN.out) hdd).1
            have HD := Lib.hid hdd
            have HSM := Lib.hid hsum
            have hin2 := (inR_iff n who).1 HIN.out
            clear hdd hsum hnd
            go_wp2_with fail
            refine (sum_any 65 _ (powAt vs who) j w1 (enters_of Tryd.func65 (by kernel_rfl) rfl) (some1_stops 3 (by omega) (w.heap.size + 1) w.heap.size A A' n c j c' vs who w1 hb2 hb1 HV1.out HW1.out hin2 hz2)).mono ?_
            rintro _ w2 ⟨rfl, bel2⟩
            have B2 := Lib.hid (B1.out.trans (bel2.mono B1.out.size))
            rw [HSM.out]
            clear bel2 hin2
            go_wp2
            go_ret2
            refine ⟨?_, B2.out⟩
            unfold sumV
            rw [if_neg (by rw [hval]; simp), if_neg (by rw [← HN.out, HIN.out]; simp), if_neg (fun h => h HD.out)]
            rfl
  · have hck : checkV vs aS = errV aS := by unfold checkV; rw [if_neg hval]
    rw [hck]
    clear hck
    go_wp2
    go_ret2
    refine ⟨?_, B1.out⟩
    unfold sumV
    rw [if_pos (by simpa using hval)]
    rfl
end Go.Proofs.YtideopnblhbngaaDoor
