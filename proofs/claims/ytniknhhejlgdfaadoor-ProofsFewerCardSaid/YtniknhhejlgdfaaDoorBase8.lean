/- Lemmas that laws of this seat rest on, part 8; each says its own conditions: VPsum, At, Qc0, VEnough, VPAlive, Al11, VEqVa, VSameVa, VRef08, VRef08b, VRefEn. -/
import Derived.Deep.QuietTactic
import Derived.BigQuiet
import Derived.Laws.Bits64b
import Derived.Laws.Bits64
import Derived.Test.YtniknhhejlgdfaaDoorBase7
/- What some validators have, whether they are a quorum, or few: powers.Sum, powers.Enough, powers.Few. -/
namespace Go.Proofs.YtniknhhejlgdfaaDoor
open Go.RowKit Go.Shelf

theorem bel_drewN {B : Nat} {a w : World} (h : Below B a w) (n : Nat) : Below B a (w.drewN n) := h.trans ⟨rfl, rfl, rfl, Nat.le_refl _, fun _ _ => rfl⟩

def inR (n : Nat) (who : List Int) : Bool := who.all fun i => decide (0 ≤ i ∧ i < n)
theorem inR_iff (n : Nat) (who : List Int) : inR n who = true ↔ ∀ i ∈ who, 0 ≤ i ∧ i < n := by
  unfold inR
  simp only [List.all_eq_true, decide_eq_true_iff]
/-- What powers.Sum answers. -/
def sumV (vs : List Va) (who : List Int) (aS aR aT : Addr) : Value :=
  if validB vs = false then .tuple #[.int .i64 0, errV aS]
  else if inR vs.length who = false then .tuple #[.int .i64 0, errV aR]
  else if ¬ who.Nodup then .tuple #[.int .i64 0, errV aT]
  else .tuple #[.int .i64 (powAt vs who).sum, .nilIface]
def goodW (vs : List Va) (who : List Int) : Bool := validB vs && inR vs.length who && decide who.Nodup

theorem powAt_range {vs : List Va} {who : List Int} (hv : validB vs = true) (hr : inR vs.length who = true) : ∀ p ∈ powAt vs who, 1 ≤ p ∧ p ≤ 1099511627776 := by
  intro p hp
  unfold powAt at hp
  rw [List.mem_map] at hp
  obtain ⟨x, hx, rfl⟩ := hp
  have := (inR_iff _ _).1 hr x hx
  have := ((validB_iff vs).1 hv).2 x.toNat (by omega)
  exact ⟨this.1, this.2.1⟩
theorem nodup_le : ∀ (n : Nat) (l : List Int), (∀ i ∈ l, 0 ≤ i ∧ i < (n : Int)) → l.Nodup → l.length ≤ n
  | 0, [], _, _ => Nat.le_refl _
  | 0, x :: l, h, _ => by have := h x (by simp); omega
  | n + 1, l, h, hd => by
    have ih := nodup_le n (l.erase (n : Int)) (fun i hi => by
      have hm := List.mem_of_mem_erase hi
      have hne : i ≠ n := (hd.mem_erase_iff.1 hi).1
      have := h i hm
      omega) (hd.erase _)
    have : l.length ≤ (l.erase (n : Int)).length + 1 := by rw [List.length_erase]; split <;> omega
    omega
theorem nodup_len {n : Nat} {who : List Int} (hr : inR n who = true) (hd : who.Nodup) : who.length ≤ n := nodup_le n who ((inR_iff _ _).1 hr) hd
theorem powAt_sum {vs : List Va} {who : List Int} (hv : validB vs = true) (hr : inR vs.length who = true) (hd : who.Nodup) : sumW (powAt vs who) = (powAt vs who).sum ∧ 0 ≤ (powAt vs who).sum ∧ (powAt vs who).sum ≤ 1099511627776000 := by
  refine sumW_eq _ (fun p hp => by have := powAt_range hv hr p hp; omega) ?_
  have := nodup_len hr hd
  have := valid_len hv
  unfold powAt
  rw [List.length_map]
  omega

theorem nodup_take {who : List Int} {k : Nat} (hk : k < who.length) (h : (who.take k).Nodup) (hn : who.getD k 0 ∉ who.take k) : (who.take (k + 1)).Nodup := by
  rw [List.take_succ_eq_append_getElem hk, List.nodup_append]
  rw [List.getD_eq_getElem?_getD, List.getElem?_eq_getElem hk] at hn
  refine ⟨h, by simp, ?_⟩
  intro a ha b hb e
  simp at hb
  subst hb
  subst e
  exact hn ha
theorem not_nodup_take {who : List Int} {k : Nat} (hk : k < who.length) (hn : who.getD k 0 ∈ who.take k) : ¬ who.Nodup := by
  intro h
  have h2 : (who.take (k + 1)).Nodup := h.sublist (List.take_sublist _ _)
  rw [List.take_succ_eq_append_getElem hk, List.nodup_append] at h2
  rw [List.getD_eq_getElem?_getD, List.getElem?_eq_getElem hk] at hn
  exact h2.2.2 _ hn _ (by simp) rfl

set_option maxHeartbeats 4000000 in
set_option maxRecDepth 100000 in
theorem psum_any (vs : List Va) (who : List Int) (A A' : Option Addr) (n c m c' : Nat) (aS aR aT : Addr) (w : World) (hv : Vals w (.slice A n c) vs) (hw : Ins w (.slice A' m c') who) (hs : Sen w aS aR aT) (hz : n ≤ 1000000) (hz2 : m ≤ 1000000) :
    Calls Tryd.prog 80 #[.slice A n c, .slice A' m c'] w fun e w' => e = .returned (sumV vs who aS aR aT) ∧ Below w.heap.size w w' := by
  have bel0 : Below w.heap.size w ((w.alloc (.cells #[.slice A n c] 22)).alloc (.cells #[.slice A' m c'] 64)) := ((Below.refl _ _).alloc (Nat.le_refl _) _).alloc (by simp) _
  have hbox := ((Boxed.new w 22 (.slice A n c)).alloc (.cells #[.slice A' m c'] 64)).cell
  have hbox2 := (Boxed.new (w.alloc (.cells #[.slice A n c] 22)) 64 (.slice A' m c')).cell
  rw [World.size_alloc] at hbox2
  have HV := Lib.hid (hv.below bel0)
  have HW := Lib.hid (hw.below bel0)
  have HS := Lib.hid (hs.below bel0)
  have HB := Lib.hid bel0
  have HN := Lib.hid hv.len
  have HN2 := Lib.hid hw.len
  clear hv hs hw bel0
  go_enter Tryd.func80, Tryd.ntmps80
  go_wp2_with fail
  refine (check_any vs A n c aS aR aT _ HV.out HS.out).mono ?_
  rintro _ w1 ⟨rfl, bel1⟩
  have HV1 := Lib.hid (HV.out.below bel1)
  have HW1 := Lib.hid (HW.out.below bel1)
  have HS1 := Lib.hid (HS.out.below bel1)
  have hb1 := cell_on bel1 hbox
  have hb2 := cell_on bel1 hbox2
  have B1 := Lib.hid (HB.out.trans (bel1.mono HB.out.size))
  clear bel1 hbox hbox2 HV HW HS HB
  by_cases hval : validB vs = true
  · have hck : checkV vs aS = .nilIface := by unfold checkV; rw [if_pos hval]
    rw [hck]
    clear hck
    go_wp2_with fail
    go_loopw [18] (fun k wr => ∃ (i : Nat), i ≤ m ∧ k = .int .i64 i ∧ Hid (inR n (who.take i) = true) ∧ w1 = wr)
      (fun k _ => m - (intOf k).toNat)
    case atStart => exact ⟨0, by omega, rfl, Lib.hid rfl, rfl⟩
    case round =>
      obtain ⟨i, hi, rfl, hok, rfl⟩ := hrel
      by_cases hlt : i < m
      · have hil : (i : Int) < m := by omega
        obtain ⟨b, off, rfl, hb, hr⟩ := HW1.out.el i hlt
        have hlen : i < who.length := by rw [← HN2.out]; exact hlt
        have htk : who.take (i + 1) = who.take i ++ [who.getD i 0] := by rw [List.take_succ_eq_append_getElem hlen]; simp [List.getD_eq_getElem?_getD, hlen]
        have hmem : who.getD i 0 ∈ who := by rw [List.getD_eq_getElem?_getD, List.getElem?_eq_getElem hlen]; exact List.getElem_mem _
        obtain ⟨z, hzz⟩ : ∃ z, z = who.getD i 0 := ⟨_, rfl⟩
        rw [← hzz] at hr htk hmem
        have hno : ¬ (0 ≤ z ∧ z < (n : Int)) → sumV vs who aS aR aT = .tuple #[.int .i64 0, errV aR] := fun h => by
          unfold sumV
          rw [if_neg (by rw [hval]; simp), if_pos]
          rw [Bool.eq_false_iff]
          intro hh
          have := (inR_iff _ _).1 hh z hmem
          rw [← HN.out] at this
          exact h this
        have HNO := Lib.hid hno
        have HTK := Lib.hid htk
        clear hno htk hmem hzz hb hlen
        have her : w1.cell? ⟨1, 0, none⟩ = some (.iface 216 (.pointer (some aR))) := HS1.out.r
        by_cases p1 : z < 0
        · go_wp2
          go_quiet (fail)
          go_wp2
          go_ret2
          refine ⟨?_, bel_drewN B1.out _⟩
          rw [HNO.out (by omega)]
          rfl
        by_cases p2 : (n : Int) ≤ z
        · go_wp2
          go_quiet (fail)
          go_wp2
          go_ret2
          refine ⟨?_, bel_drewN B1.out _⟩
          rw [HNO.out (by omega)]
          rfl
        go_wp2
        go_roundw
        case rel =>
          refine ⟨i + 1, by omega, by go_num, Lib.hid ?_, trivial⟩
          rw [HTK.out]
          have := hok.out
          unfold inR at this ⊢
          rw [List.all_append, this]
          simp
          omega
        case measure => simp [intOf]; omega
      · obtain rfl : i = m := by omega
        have hin : inR n who = true := by have := hok.out; rwa [HN2.out, List.take_length] at this
        have HIN := Lib.hid hin
        clear hin hok
        go_wp2_with fail
        go_loopw [34] (fun k wr => ∃ (j : Nat), j ≤ i ∧ k = .int .i64 j ∧ Hid ((who.take j).Nodup) ∧ w1 = wr)
          (fun k _ => i - (intOf k).toNat)
        case atStart => exact ⟨0, by omega, rfl, Lib.hid (by simp), rfl⟩
        case round =>
          obtain ⟨j, hj, rfl, hnd, rfl⟩ := hrel
          by_cases hlt2 : j < i
          · have hil : (j : Int) < i := by omega
            obtain ⟨b, off, rfl, hb, hr⟩ := HW1.out.el j hlt2
            have hlen : j < who.length := by rw [← HN2.out]; exact hlt2
            have hcap : (j : Int) ≤ c' := by
              obtain ⟨_, _, c2, e, h1, _⟩ := HW1.out.cells (by intro e; rw [e] at hlen; simp at hlen)
              simp only [Value.slice.injEq] at e
              omega
            have hI := Lib.hid (HW1.out.take j hj)
            have hyes : who.getD j 0 ∉ who.take j → (who.take (j + 1)).Nodup := nodup_take hlen hnd.out
            have hnot : who.getD j 0 ∈ who.take j → ¬ who.Nodup := not_nodup_take hlen
            obtain ⟨z, hzz⟩ : ∃ z, z = who.getD j 0 := ⟨_, rfl⟩
            rw [← hzz] at hr hyes hnot
            have HY := Lib.hid hyes
            have HNT := Lib.hid hnot
            clear hyes hnot hzz hb hlen
            have het : w1.cell? ⟨17, 0, none⟩ = some (.iface 216 (.pointer (some aT))) := HS1.out.t
            go_wp2_with fail
            refine (containsI_any (who.take j) z _ j c' w1 hI.out (by omega)).mono ?_
            rintro _ w2 ⟨rfl, rfl⟩
            by_cases hm : z ∈ who.take j
            · rw [decide_eq_true hm]
              go_wp2
              go_quiet (fail)
              go_wp2
              go_ret2
              refine ⟨?_, bel_drewN B1.out _⟩
              unfold sumV
              rw [if_neg (by rw [hval]; simp), if_neg (by rw [← HN.out, HIN.out]; simp), if_pos (HNT.out hm)]
              rfl
            · rw [decide_eq_false hm]
              go_wp2
              go_roundw
              case rel => exact ⟨j + 1, by omega, by go_num, Lib.hid (HY.out hm), trivial⟩
              case measure => simp [intOf]; omega
          · obtain rfl : j = i := by omega
            have hdd : who.Nodup := by have := hnd.out; rwa [HN2.out, List.take_length] at this
            have hsum := (powAt_sum hval (by rw [← HN.out]; exact HIN.out) hdd).1
            have HD := Lib.hid hdd
            have HSM := Lib.hid hsum
            have hin2 := (inR_iff n who).1 HIN.out
            clear hdd hsum hnd
            go_wp2_with fail
            refine (sum_any 97 _ (powAt vs who) j w1 (enters_of Tryd.func97 (by kernel_rfl) rfl) (some1_stops 3 (by omega) (w.heap.size + 1) w.heap.size A A' n c j c' vs who w1 hb2 hb1 HV1.out HW1.out hin2 hz2)).mono ?_
            rintro _ w2 ⟨rfl, bel2⟩
            have B2 := Lib.hid (B1.out.trans (bel2.mono B1.out.size))
            rw [HSM.out]
            clear bel2 hin2
            go_wp2
            go_ret2
            refine ⟨?_, B2.out⟩
            unfold sumV
            rw [if_neg (by rw [hval]; simp), if_neg (by rw [← HN.out, HIN.out]; simp), if_neg (fun h => h HD.out)]
            rfl
  · have hck : checkV vs aS = errV aS := by unfold checkV; rw [if_neg hval]
    rw [hck]
    clear hck
    go_wp2
    go_ret2
    refine ⟨?_, B1.out⟩
    unfold sumV
    rw [if_pos (by simpa using hval)]
    rfl
end Go.Proofs.YtniknhhejlgdfaaDoor
/- What a ground asks of an epoch and a round; errors by their numbers. -/
namespace Go.Proofs.YtniknhhejlgdfaaDoor
open Go.RowKit

/-- An error by its number; 0: none. -/
def errN (al : List Addr) : Nat → Value
  | 0 => .nilIface
  | k + 1 => match al[k]? with
    | some a => errV a
    | none => .nilIface
theorem errN_at {al : List Addr} {k : Nat} {a : Addr} (h : al[k]? = some a) : errN al (k + 1) = errV a := by simp only [errN, h]
theorem SenN.at {w : World} {al : List Addr} (h : SenN w al) (k : Nat) (hk : k < 18) : ∃ a, al[k]? = some a := ⟨_, List.getElem?_eq_getElem (by rw [h.len]; exact hk)⟩

set_option maxHeartbeats 4000000 in
theorem num_any (al : List Addr) (n : Nat) (hn : n ≤ 18) (w : World) (h : SenN w al) :
    Calls Tryd.prog 16 #[errN al n] w fun e w' => e = .returned (.int .i64 n) ∧ Below w.heap.size w w' := by
  cases n with
  | zero => exact (num_nil w).mono fun e w' h => ⟨h.1, by rw [h.2]; exact Below.refl _ _⟩
  | succ k =>
    obtain ⟨a, ha⟩ := h.at k (by omega)
    rw [errN_at ha]
    exact (num_err al k a w h ha).mono fun e w' h => ⟨by rw [h.1]; simp, h.2⟩

/-- A ground as it lies. -/
def gndC (e : Int) (v : Value) (gen : List Int) : List Value := [.int .i64 e, v] ++ u8s gen
def gndV (e : Int) (v : Value) (gen : List Int) : Value := .agg (gndC e v gen).toArray
/-- What is asked of a ground, an epoch and a round. -/
def beginN (vs : List Va) (e ep r least : Int) : Nat :=
  if validB vs = false then 11 else if ep ≠ e then 18 else if r < least ∨ 1099511627776 < r then 14 else 0
theorem beginN_le (vs : List Va) (e ep r least : Int) : beginN vs e ep r least ≤ 18 := by unfold beginN; split <;> (try split) <;> (try split) <;> omega

theorem gnd_len (e : Int) (v : Value) (gen : List Int) (hg : gen.length = 16) : (gndC e v gen).length = 18 := by simp [gndC, u8s_len', hg]
theorem gnd_0 {w : World} {b t : Nat} {e : Int} {v : Value} {gen : List Int} (h : w.heap[b]? = some (.cells (gndC e v gen).toArray t (0, 0))) : w.cell? ⟨b, 0, none⟩ = some (.int .i64 e) := blk_cell h 0 _ rfl
theorem gnd_1 {w : World} {b t : Nat} {e : Int} {v : Value} {gen : List Int} (h : w.heap[b]? = some (.cells (gndC e v gen).toArray t (0, 0))) : w.cell? ⟨b, 1, none⟩ = some v := blk_cell h 1 _ rfl
theorem gnd_2 {w : World} {b t : Nat} {e : Int} {v : Value} {gen : List Int} (h : w.heap[b]? = some (.cells (gndC e v gen).toArray t (0, 0))) : w.rangeAt b 2 (u8s gen) := fun j u hu => blk_cell h (2 + j) u (by
  unfold gndC
  rw [List.getElem?_append_right (by simp)]
  simpa using hu)

set_option maxHeartbeats 4000000 in
set_option maxRecDepth 100000 in
theorem at_any (e : Int) (vs : List Va) (A : Option Addr) (n c : Nat) (gen : List Int) (ep r least : Int) (al : List Addr) (w : World) (hv : Vals w (.slice A n c) vs) (hs : SenN w al) :
    Calls Tryd.prog 37 #[gndV e (.slice A n c) gen, .int .i64 ep, .int .i64 r, .int .i64 least] w fun x w' => x = .returned (errN al (beginN vs e ep r least)) ∧ Below w.heap.size w w' := by
  have b0 : Below w.heap.size w (w.alloc (.cells (gndC e (.slice A n c) gen).toArray 27)) := (Below.refl _ _).alloc (Nat.le_refl _) _
  have h0 := heap_alloc_new w (.cells (gndC e (.slice A n c) gen).toArray 27)
  have HV := Lib.hid (hv.below b0)
  have HS := Lib.hid (hs.below b0)
  have B0 := Lib.hid b0
  have c0 := gnd_0 h0
  have c1 := gnd_1 h0
  obtain ⟨aS, iS⟩ := hs.at 10 (by omega)
  obtain ⟨aE, iE⟩ := hs.at 17 (by omega)
  obtain ⟨aO, iO⟩ := hs.at 13 (by omega)
  have IS := Lib.hid iS
  have IE := Lib.hid iE
  have IO := Lib.hid iO
  have CS := Lib.hid (HS.out.cell 10 11 aS rfl iS)
  have CE := Lib.hid (HS.out.cell 17 0 aE rfl iE)
  have CO := Lib.hid (HS.out.cell 13 14 aO rfl iO)
  clear b0 hv hs iS iE iO h0
  unfold gndV
  go_enter Tryd.func37, Tryd.ntmps37
  go_wp2_with fail
  refine (check1_any vs A n c aS _ HV.out CS.out).mono ?_
  rintro _ w1 ⟨rfl, hb1⟩
  have B1 := Lib.hid (B0.out.trans (hb1.mono B0.out.size))
  have d0 := cell_on hb1 c0
  have d1 := cell_on hb1 c1
  have cs := cell_on hb1 CS.out
  have ce := cell_on hb1 CE.out
  have co := cell_on hb1 CO.out
  clear hb1 c0 c1 CS CE CO
  by_cases hval : validB vs = true
  case neg =>
    have hck : checkV vs aS = errV aS := by unfold checkV; rw [if_neg hval]
    have HB : Hid (errN al (beginN vs e ep r least) = errV aS) := Lib.hid (by unfold beginN; rw [if_pos (by simpa using hval)]; exact errN_at IS.out)
    rw [hck]
    clear hck
    go_wp2
    go_ret
    exact ⟨by rw [HB.out]; rfl, B1.out⟩
  have hck : checkV vs aS = .nilIface := by unfold checkV; rw [if_pos hval]
  rw [hck]
  clear hck
  by_cases hep : ep = e
  case neg =>
    have HB : Hid (errN al (beginN vs e ep r least) = errV aE) := Lib.hid (by unfold beginN; rw [if_neg (by simp [hval]), if_pos hep]; exact errN_at IE.out)
    have hep' : (ep != e) = true := by simpa using hep
    go_wp2
    go_ret
    exact ⟨by rw [HB.out]; rfl, B1.out⟩
  have hep' : (ep != e) = false := by simpa using hep
  by_cases hlo : r < least
  · have HB : Hid (errN al (beginN vs e ep r least) = errV aO) := Lib.hid (by unfold beginN; rw [if_neg (by simp [hval]), if_neg (by simp [hep]), if_pos (.inl hlo)]; exact errN_at IO.out)
    clear hep
    go_wp2
    go_ret
    exact ⟨by rw [HB.out]; rfl, B1.out⟩
  by_cases hhi : 1099511627776 < r
  · have HB : Hid (errN al (beginN vs e ep r least) = errV aO) := Lib.hid (by unfold beginN; rw [if_neg (by simp [hval]), if_neg (by simp [hep]), if_pos (.inr hhi)]; exact errN_at IO.out)
    clear hep
    go_wp2
    go_ret
    exact ⟨by rw [HB.out]; rfl, B1.out⟩
  have HB : Hid (errN al (beginN vs e ep r least) = .nilIface) := Lib.hid (by unfold beginN; rw [if_neg (by simp [hval]), if_neg (by simp [hep]), if_neg (by omega)]; rfl)
  clear hep
  go_wp2
  go_ret
  exact ⟨by rw [HB.out]; rfl, B1.out⟩
end Go.Proofs.YtniknhhejlgdfaaDoor
/- A QC of round 0. -/
namespace Go.Proofs.YtniknhhejlgdfaaDoor
open Go.RowKit

/-- A QC as it lies. -/
def qcC (e r : Int) (blk : List Int) (v : Value) : List Value := [.int .i64 e, .int .i64 r] ++ u8s blk ++ [v]
def qcV (e r : Int) (blk : List Int) (v : Value) : Value := .agg (qcC e r blk v).toArray
theorem qc_2 {w : World} {b t : Nat} {e r : Int} {blk : List Int} {v : Value} (h : w.heap[b]? = some (.cells (qcC e r blk v).toArray t (0, 0))) : w.rangeAt b 2 (u8s blk) := fun j u hu => blk_cell h (2 + j) u (by
  unfold qcC
  rw [List.append_assoc, List.getElem?_append_right (by simp), List.getElem?_append_left (by have := (List.getElem?_eq_some_iff.1 hu).1; simpa using this)]
  simpa using hu)
theorem qc_3 {w : World} {b t : Nat} {e r : Int} {blk : List Int} {v : Value} (hb : blk.length = 16) (h : w.heap[b]? = some (.cells (qcC e r blk v).toArray t (0, 0))) : w.cell? ⟨b, 18, none⟩ = some v := blk_cell h 18 _ (by
  unfold qcC
  rw [List.getElem?_append_right (by simp [u8s_len', hb])]
  simp [u8s_len', hb])
theorem run_neq24 (a b : List Int) (ha : a.length = 16) (hb : b.length = 16) (W : World) : (binOp .neq 24 (.agg (u8s a).toArray) (.agg (u8s b).toArray)).run Tryd.prog W = .ok (.bool (!decide (a = b))) W :=
  run_neq_bytes 24 5 16 a b Tryd.underlying24 Tryd.underlying5 (by kernel_rfl) ha hb

/-- The error's number of a QC of round 0. -/
def qc0N (vs : List Va) (e : Int) (gen : List Int) (ep : Int) (blk : List Int) (k : Nat) : Nat :=
  if beginN vs e ep 0 0 = 0 then (if blk = gen ∧ k = 0 then 0 else 12) else beginN vs e ep 0 0
theorem qc0N_le (vs : List Va) (e : Int) (gen : List Int) (ep : Int) (blk : List Int) (k : Nat) : qc0N vs e gen ep blk k ≤ 18 := by
  unfold qc0N
  split
  · split <;> omega
  · exact beginN_le _ _ _ _ _

set_option maxHeartbeats 4000000 in
set_option maxRecDepth 100000 in
theorem qc0_any (e : Int) (vs : List Va) (A : Option Addr) (n c : Nat) (gen : List Int) (hg : gen.length = 16) (ep : Int) (blk : List Int) (hl : blk.length = 16) (B : Option Addr) (k d : Nat) (al : List Addr) (w : World) (hv : Vals w (.slice A n c) vs) (hs : SenN w al) :
    Calls Tryd.prog 23 #[gndV e (.slice A n c) gen, qcV ep 0 blk (.slice B k d)] w fun x w' => x = .returned (errN al (qc0N vs e gen ep blk k)) ∧ Below w.heap.size w w' := by
  have b0 : Below w.heap.size w ((w.alloc (.cells (gndC e (.slice A n c) gen).toArray 27)).alloc (.cells (qcC ep 0 blk (.slice B k d)).toArray 37)) := ((Below.refl _ _).alloc (Nat.le_refl _) _).alloc (by simp) _
  have h0 : ((w.alloc (.cells (gndC e (.slice A n c) gen).toArray 27)).alloc (.cells (qcC ep 0 blk (.slice B k d)).toArray 37)).heap[w.heap.size]? = some (.cells (gndC e (.slice A n c) gen).toArray 27 (0, 0)) := heap_alloc2_old w _ _
  have h1 : ((w.alloc (.cells (gndC e (.slice A n c) gen).toArray 27)).alloc (.cells (qcC ep 0 blk (.slice B k d)).toArray 37)).heap[w.heap.size + 1]? = some (.cells (qcC ep 0 blk (.slice B k d)).toArray 37 (0, 0)) := by
    have := heap_alloc_new (w.alloc (.cells (gndC e (.slice A n c) gen).toArray 27)) (.cells (qcC ep 0 blk (.slice B k d)).toArray 37)
    rwa [World.size_alloc] at this
  have HV := Lib.hid (hv.below b0)
  have HS := Lib.hid (hs.below b0)
  have B0 := Lib.hid b0
  have G0 := Lib.hid (blk_range h0)
  have H0 := Lib.hid h0
  have H1 := Lib.hid h1
  have c0 : ((w.alloc (.cells (gndC e (.slice A n c) gen).toArray 27)).alloc (.cells (qcC ep 0 blk (.slice B k d)).toArray 37)).cell? ⟨w.heap.size + 1, 0, none⟩ = some (.int .i64 ep) := blk_cell h1 0 _ rfl
  have c1 : ((w.alloc (.cells (gndC e (.slice A n c) gen).toArray 27)).alloc (.cells (qcC ep 0 blk (.slice B k d)).toArray 37)).cell? ⟨w.heap.size + 1, 1, none⟩ = some (.int .i64 0) := blk_cell h1 1 _ rfl
  obtain ⟨aP, iP⟩ := hs.at 11 (by omega)
  have IP := Lib.hid iP
  have CP := Lib.hid (HS.out.cell 11 12 aP rfl iP)
  have HG := Lib.hid hg
  have HL := Lib.hid hl
  clear b0 hv hs iP h0 h1 hg hl
  have h27 : (Tryd.prog.info? 27).map (·.size) = some (gndC e (.slice A n c) gen).length := by rw [gnd_len _ _ _ HG.out]; kernel_rfl
  unfold gndV qcV
  go_enter Tryd.func23, Tryd.ntmps23
  go_wp2_with (refine wpList_load_g rfl 27 (.tmp 2) rfl w.heap.size 0 rfl (gndC e (.slice A n c) gen) _ G0.out Tryd.underlying27 rfl h27 ?_)
  refine (at_any e vs A n c gen ep 0 0 al _ HV.out HS.out).mono ?_
  rintro _ w1 ⟨rfl, hb1⟩
  have B1 := Lib.hid (B0.out.trans (hb1.mono B0.out.size))
  have d0 := cell_on hb1 c0
  have d1 := cell_on hb1 c1
  have cp := cell_on hb1 CP.out
  have R0 := Lib.hid (gnd_2 (blk_below H0.out hb1))
  have R1 := Lib.hid (qc_2 (blk_below H1.out hb1))
  have d3 := qc_3 HL.out (blk_below H1.out hb1)
  clear hb1 c0 c1 CP H0 H1
  by_cases hbg : beginN vs e ep 0 0 = 0
  case neg =>
    have HB : Hid (errN al (qc0N vs e gen ep blk k) = errN al (beginN vs e ep 0 0)) := Lib.hid (by unfold qc0N; rw [if_neg hbg])
    obtain ⟨N, hN⟩ : ∃ N, N = beginN vs e ep 0 0 := ⟨_, rfl⟩
    rw [← hN] at hbg ⊢
    rw [← hN] at HB
    have hle := beginN_le vs e ep 0 0
    rw [← hN] at hle
    obtain ⟨j, rfl⟩ : ∃ j, N = j + 1 := ⟨N - 1, by omega⟩
    obtain ⟨a, ha⟩ := HS.out.at j (by omega)
    have hea := errN_at ha
    rw [hea] at HB ⊢
    clear hea ha hbg hN hle
    go_wp2
    go_ret
    exact ⟨by rw [HB.out]; rfl, B1.out⟩
  rw [hbg, show errN al 0 = Value.nilIface from rfl]
  by_cases he : blk = gen
  · subst he
    have hrun := run_neq24 blk blk HL.out HL.out
    rw [decide_eq_true rfl] at hrun
    by_cases hk : k = 0
    · subst hk
      have HB : Hid (errN al (qc0N vs e blk ep blk 0) = .nilIface) := Lib.hid (by unfold qc0N; rw [if_pos hbg, if_pos ⟨rfl, rfl⟩]; rfl)
      clear hbg
      go_wp2_with (first | (refine wpList_load_g rfl 24 (.tmp 19) rfl (w.heap.size + 1) 2 rfl (u8s blk) _ R1.out Tryd.underlying24 rfl (by rw [u8s_len', HL.out]; exact Tryd.size24) ?_) | (refine wpList_load_g rfl 24 (.tmp 21) rfl w.heap.size 2 rfl (u8s blk) _ R0.out Tryd.underlying24 rfl (by rw [u8s_len', HG.out]; exact Tryd.size24) ?_))
      go_ret
      exact ⟨by rw [HB.out]; rfl, B1.out⟩
    · have hk' : (0 : Int) < k := by omega
      have HB : Hid (errN al (qc0N vs e blk ep blk k) = errV aP) := Lib.hid (by unfold qc0N; rw [if_pos hbg, if_neg (fun h => hk h.2)]; exact errN_at IP.out)
      clear hbg
      go_wp2_with (first | (refine wpList_load_g rfl 24 (.tmp 19) rfl (w.heap.size + 1) 2 rfl (u8s blk) _ R1.out Tryd.underlying24 rfl (by rw [u8s_len', HL.out]; exact Tryd.size24) ?_) | (refine wpList_load_g rfl 24 (.tmp 21) rfl w.heap.size 2 rfl (u8s blk) _ R0.out Tryd.underlying24 rfl (by rw [u8s_len', HG.out]; exact Tryd.size24) ?_))
      go_ret
      exact ⟨by rw [HB.out]; rfl, B1.out⟩
  · have hrun := run_neq24 blk gen HL.out HG.out
    rw [decide_eq_false he] at hrun
    have HB : Hid (errN al (qc0N vs e gen ep blk k) = errV aP) := Lib.hid (by unfold qc0N; rw [if_pos hbg, if_neg (fun h => he h.1)]; exact errN_at IP.out)
    clear hbg he
    go_wp2_with (first | (refine wpList_load_g rfl 24 (.tmp 19) rfl (w.heap.size + 1) 2 rfl (u8s blk) _ R1.out Tryd.underlying24 rfl (by rw [u8s_len', HL.out]; exact Tryd.size24) ?_) | (refine wpList_load_g rfl 24 (.tmp 21) rfl w.heap.size 2 rfl (u8s gen) _ R0.out Tryd.underlying24 rfl (by rw [u8s_len', HG.out]; exact Tryd.size24) ?_))
    go_ret
    exact ⟨by rw [HB.out]; rfl, B1.out⟩
end Go.Proofs.YtniknhhejlgdfaaDoor
/- Whether some validators are a quorum, or few: powers.Enough, powers.Few. -/
namespace Go.Proofs.YtniknhhejlgdfaaDoor
open Go.RowKit Go.Shelf

theorem goodW_iff (vs : List Va) (who : List Int) : goodW vs who = true ↔ validB vs = true ∧ inR vs.length who = true ∧ who.Nodup := by
  unfold goodW
  rw [Bool.and_eq_true, Bool.and_eq_true, decide_eq_true_iff, and_assoc]
theorem sumV_good {vs : List Va} {who : List Int} (aS aR aT : Addr) (h : goodW vs who = true) : sumV vs who aS aR aT = .tuple #[.int .i64 (powAt vs who).sum, .nilIface] := by
  obtain ⟨h1, h2, h3⟩ := (goodW_iff _ _).1 h
  unfold sumV
  rw [if_neg (by rw [h1]; simp), if_neg (by rw [h2]; simp), if_neg (fun h => h h3)]
theorem sumV_bad {vs : List Va} {who : List Int} (aS aR aT : Addr) (h : goodW vs who = false) : ∃ a, sumV vs who aS aR aT = .tuple #[.int .i64 0, errV a] := by
  unfold sumV
  split
  · exact ⟨_, rfl⟩
  · rename_i h1
    split
    · exact ⟨_, rfl⟩
    · rename_i h2
      split
      · exact ⟨_, rfl⟩
      · rename_i h3
        have : goodW vs who = true := (goodW_iff _ _).2 ⟨by simpa using h1, by simpa using h2, by simpa using h3⟩
        rw [h] at this
        cases this
theorem goodW_sum {vs : List Va} {who : List Int} (h : goodW vs who = true) : 0 ≤ (powAt vs who).sum ∧ (powAt vs who).sum ≤ 1099511627776000 := by
  obtain ⟨h1, h2, h3⟩ := (goodW_iff _ _).1 h
  exact (powAt_sum h1 h2 h3).2

def enoughB (vs : List Va) (who : List Int) : Bool := goodW vs who && decide (quorum vs ≤ (powAt vs who).sum)
set_option maxHeartbeats 4000000 in
set_option maxRecDepth 100000 in
theorem enough_any (vs : List Va) (who : List Int) (A A' : Option Addr) (n c m c' : Nat) (aS aR aT : Addr) (w : World) (hv : Vals w (.slice A n c) vs) (hw : Ins w (.slice A' m c') who) (hs : Sen w aS aR aT) (hz : n ≤ 1000000) (hz2 : m ≤ 1000000) :
    Calls Tryd.prog 61 #[.slice A n c, .slice A' m c'] w fun e w' => e = .returned (.bool (enoughB vs who)) ∧ Below w.heap.size w w' := by
  have HV := Lib.hid hv
  have HW := Lib.hid hw
  have HS := Lib.hid hs
  clear hv hw hs
  go_enter Tryd.func61, Tryd.ntmps61
  go_wp2_with fail
  refine (psum_any vs who A A' n c m c' aS aR aT w HV.out HW.out HS.out hz hz2).mono ?_
  rintro _ w1 ⟨rfl, bel1⟩
  have HV1 := Lib.hid (HV.out.below bel1)
  have HS1 := Lib.hid (HS.out.below bel1)
  have B1 := Lib.hid bel1
  clear bel1
  cases hg : goodW vs who with
  | true =>
    rw [sumV_good aS aR aT hg]
    have hE : enoughB vs who = decide (quorum vs ≤ (powAt vs who).sum) := by unfold enoughB; rw [hg, Bool.true_and]
    obtain ⟨S, hS⟩ : ∃ S, S = (powAt vs who).sum := ⟨_, rfl⟩
    rw [← hS] at hE ⊢
    have HE := Lib.hid hE
    clear hE hg hS
    go_wp2_with fail
    refine (quorum_any vs A n c aS aR aT w1 HV1.out HS1.out hz).mono ?_
    rintro _ w2 ⟨rfl, bel2⟩
    have B2 := Lib.hid (B1.out.trans (bel2.mono B1.out.size))
    obtain ⟨K, hK⟩ : ∃ K, K = quorum vs := ⟨_, rfl⟩
    rw [← hK] at HE ⊢
    clear bel2 hK
    go_wp2
    go_ret
    exact ⟨by rw [HE.out]; rfl, B2.out⟩
  | false =>
    obtain ⟨a, ha⟩ := sumV_bad aS aR aT hg
    rw [ha]
    have hE : enoughB vs who = false := by unfold enoughB; rw [hg, Bool.false_and]
    have HE := Lib.hid hE
    clear hE hg ha
    go_wp2
    go_ret
    exact ⟨by rw [HE.out]; rfl, B1.out⟩

end Go.Proofs.YtniknhhejlgdfaaDoor
/- New rows of validators and integers; the chapter's example (powers). -/
namespace Go.Proofs.YtniknhhejlgdfaaDoor
open Go.RowKit Go.Shelf

def rcells (vs : List Va) : List Value := vs.flatMap vcells
theorem rcells_at (vs : List Va) (h : ∀ x ∈ vs, x.1.length = 16) (i j : Nat) (hi : i < vs.length) (hj : j < 17) : (rcells vs)[i * 17 + j]? = (vcells (vs.getD i ([], 0)))[j]? := by
  induction vs generalizing i with
  | nil => simp at hi
  | cons d ds ih =>
    have hd : (vcells d).length = 17 := vcells_len d (h d (by simp))
    rw [show rcells (d :: ds) = vcells d ++ rcells ds by simp [rcells]]
    cases i with
    | zero => rw [Nat.zero_mul, Nat.zero_add, List.getElem?_append_left (by omega)]; rfl
    | succ i =>
      rw [List.getElem?_append_right (by omega), hd, show (i + 1) * 17 + j - 17 = i * 17 + j by omega, ih (fun d hd => h d (by simp [hd])) i (by simpa using hi)]
      rfl
theorem Vals.new (w : World) (vs : List Va) (e : Nat) (hg : ∀ x ∈ vs, x.1.length = 16) (hl : vs.length ≤ 1000) : Vals (w.alloc (.cells (rcells vs).toArray e)) (.slice (some ⟨w.heap.size, 0, none⟩) vs.length vs.length) vs := by
  refine ⟨⟨_, _, rfl⟩, fun _ => ⟨_, 0, _, rfl, Nat.le_refl _, by simp only [maxLen]; omega, by simp, fun i hi j u hu => ?_⟩, hg⟩
  have hj : j < 17 := by
    have := (List.getElem?_eq_some_iff.1 hu).1
    rw [List.getD_eq_getElem?_getD, List.getElem?_eq_getElem hi] at this
    rwa [Option.getD_some, vcells_len _ (hg _ (List.getElem_mem hi))] at this
  have h2 : (rcells vs)[i * 17 + j]? = some u := by rw [rcells_at vs hg i j hi hj]; exact hu
  have := range_new w (rcells vs) e (i * 17 + j) u h2
  rw [Nat.zero_add] at this ⊢
  exact this
theorem Ins.new (w : World) (xs : List Int) (e : Nat) (hl : xs.length ≤ 1000) : Ins (w.alloc (.cells (i64s xs).toArray e)) (.slice (some ⟨w.heap.size, 0, none⟩) xs.length xs.length) xs := by
  refine ⟨⟨_, _, rfl⟩, fun _ => ⟨_, 0, _, rfl, Nat.le_refl _, by simp only [maxLen]; omega, by simp, fun i hi => ?_⟩⟩
  exact range_new w (i64s xs) e i _ (by simp [i64s, List.getD_eq_getElem?_getD, hi])

end Go.Proofs.YtniknhhejlgdfaaDoor
/- The fixed fact that ahead of each law of the proofs is asked. -/
namespace Go.Proofs.YtniknhhejlgdfaaDoor
open Go.RowKit

def oneV : List Va := [([1,0,0,0,0,0,0,0,0,0,0,0,0,0,0,0], 1)]
theorem oneV_good : ∀ x ∈ oneV, x.1.length = 16 := by
  intro x hx
  simp only [oneV, List.mem_cons, List.not_mem_nil, or_false] at hx
  rcases hx with rfl
  rfl
def nine16 : List Int := [9,0,0,0,0,0,0,0,0,0,0,0,0,0,0,0]
theorem one_gnd (e : Int) (v : Value) (gen : List Int) (hv : v.oneCell' = true) : ∀ u ∈ gndC e v gen, u.oneCell' = true := by
  intro u hu
  simp only [gndC, List.mem_append, List.mem_cons, List.not_mem_nil, or_false] at hu
  rcases hu with (rfl | rfl) | h
  · rfl
  · exact hv
  · exact one_u8s _ u h
theorem one_qc (e r : Int) (blk : List Int) (v : Value) (hv : v.oneCell' = true) : ∀ u ∈ qcC e r blk v, u.oneCell' = true := by
  intro u hu
  simp only [qcC, List.mem_append, List.mem_cons, List.not_mem_nil, or_false] at hu
  rcases hu with ((rfl | rfl) | h) | rfl
  · rfl
  · rfl
  · exact one_u8s _ u h
  · exact hv
theorem qc_len (e r : Int) (blk : List Int) (v : Value) (h : blk.length = 16) : (qcC e r blk v).length = 19 := by simp [qcC, u8s_len', h]
theorem one_qc0 : qc0N oneV 1 nine16 1 nine16 0 = 0 := by kernel_rfl
theorem one_qc1 : qc0N oneV 1 nine16 1 nine16 1 = 12 := by kernel_rfl
theorem Tryd.size27 : (Tryd.prog.info? 27).map (·.size) = some 18 := by kernel_rfl
theorem Tryd.size37 : (Tryd.prog.info? 37).map (·.size) = some 19 := by kernel_rfl

set_option maxHeartbeats 4000000 in
set_option maxRecDepth 100000 in
theorem alive11_any (al : List Addr) (w : World) (hs : SenN w al) :
    Calls Tryd.prog 21 #[] w fun e w' => e = .returned (.bool true) ∧ Below w.heap.size w w' := by
  have b0 : Below w.heap.size w (w.alloc (.cells (rcells oneV).toArray 45)) := (Below.refl _ _).alloc (Nat.le_refl _) _
  have HS := Lib.hid (hs.below b0)
  have HV : Hid (Vals (w.alloc (.cells (rcells oneV).toArray 45)) (.slice (some ⟨w.heap.size, 0, none⟩) 1 1) oneV) := Lib.hid (Vals.new w oneV 45 oneV_good (by decide))
  have B0 := Lib.hid b0
  clear hs b0
  go_enter Tryd.func21, Tryd.ntmps21
  go_wp2_with (first | (refine wpList_store_row rfl 27 (.tmp 1) (.tmp 7) rfl (w.heap.size + 1) rfl (gndC 1 (.slice (some ⟨w.heap.size, 0, none⟩) 1 1) nine16) rfl 27 (has_new2 w _ _ _ _ rfl) Tryd.size27 (one_gnd _ _ _ rfl) ?_; intro w1 hp1; have L1 : Below (w.heap.size + 1) (w.alloc (.cells (rcells oneV).toArray 45)) w1 := hp1.below ((Below.refl _ _).alloc (by simp) _) (Nat.le_refl _); have G1 := Lib.hid hp1.blk; have S1 := Lib.hid (show w1.heap.size = w.heap.size + 2 by rw [hp1.size]; simp); clear hp1) | (refine wpList_store_row rfl 37 (.tmp 2) (.tmp 9) rfl w1.heap.size rfl (qcC 1 0 nine16 (.slice none 0 0)) rfl 37 (has_new _ _ _ _ rfl) Tryd.size37 (one_qc _ _ _ _ rfl) ?_; intro w2 hp2; have L2 : Below w1.heap.size w1 w2 := (hp2.below ((Below.refl _ _).alloc (Nat.le_refl _) _) (Nat.le_refl _)); have Q2 := Lib.hid hp2.blk; have G2 := Lib.hid (blk_below G1.out L2); have R2 := Lib.hid (blk_range G2.out); have T2 := Lib.hid (blk_range Q2.out); clear hp2) | (refine wpList_load_g rfl 27 (.tmp 1) rfl (w.heap.size + 1) 0 rfl _ _ R2.out Tryd.underlying27 rfl Tryd.size27 ?_) | (refine wpList_load_g rfl 37 (.tmp 2) rfl w1.heap.size 0 rfl _ _ T2.out Tryd.underlying37 rfl Tryd.size37 ?_))
  have hsz : (w.alloc (.cells (rcells oneV).toArray 45)).heap.size = w.heap.size + 1 := World.size_alloc _ _
  rw [← hsz] at L1
  have L12 : Below (w.alloc (.cells (rcells oneV).toArray 45)).heap.size (w.alloc (.cells (rcells oneV).toArray 45)) w2 := L1.trans (L2.mono L1.size)
  have V2 := Lib.hid (HV.out.below L12)
  have S2 := Lib.hid (HS.out.below L12)
  have B2 := Lib.hid (B0.out.trans (L12.mono B0.out.size))
  have LA := Lib.hid L12
  clear L1 L2 L12
  refine (qc0_any 1 oneV _ 1 1 nine16 rfl 1 nine16 rfl none 0 0 al w2 V2.out S2.out).mono ?_
  rintro _ w3 ⟨rfl, hb3⟩
  rw [one_qc0]
  have LA3 := Lib.hid (LA.out.trans (hb3.mono LA.out.size))
  have B3 := Lib.hid (B2.out.trans (hb3.mono B2.out.size))
  have G3 := Lib.hid (blk_below G2.out hb3)
  have Q3 := Lib.hid (blk_below Q2.out hb3)
  clear hb3 V2 S2 B2 G2 Q2 R2 T2
  rw [show errN al 0 = Value.nilIface from rfl]
  have L4 : Below w3.heap.size w3 (w3.alloc (.cells #[.int .i64 0, .int .i64 0, .slice none 0 0, .slice none 0 0] 68)) := (Below.refl _ _).alloc (Nat.le_refl _) _
  have q4 := blk_below Q3.out L4
  have q18 := blk_cell q4 18 _ rfl
  have f18 := blk_free q4 18
  have hw1 : w1.heap.size < w3.heap.size := blk_lt Q3.out
  have L5 : Below w1.heap.size w3 ((w3.alloc (.cells #[.int .i64 0, .int .i64 0, .slice none 0 0, .slice none 0 0] 68)).setCell ⟨w1.heap.size, 18, none⟩ (.slice (some ⟨w3.heap.size, 0, none⟩) 1 1)) := ((Below.refl _ w3).alloc (Nat.le_of_lt hw1) _).setCell (p := ⟨w1.heap.size, 18, none⟩) (Nat.le_refl _) _
  have LA5 : Below (w.alloc (.cells (rcells oneV).toArray 45)).heap.size (w.alloc (.cells (rcells oneV).toArray 45)) ((w3.alloc (.cells #[.int .i64 0, .int .i64 0, .slice none 0 0, .slice none 0 0] 68)).setCell ⟨w1.heap.size, 18, none⟩ (.slice (some ⟨w3.heap.size, 0, none⟩) 1 1)) := LA3.out.trans (L5.mono (by rw [S1.out, hsz]; omega))
  have V5 := Lib.hid (HV.out.below LA5)
  have N5 := Lib.hid (HS.out.below LA5)
  have B5 := Lib.hid (B0.out.trans (LA5.mono B0.out.size))
  have G5 := Lib.hid (blk_range ((heap_setCell_other (w3.alloc (.cells #[.int .i64 0, .int .i64 0, .slice none 0 0, .slice none 0 0] 68)) ⟨w1.heap.size, 18, none⟩ (w.heap.size + 1) (.slice (some ⟨w3.heap.size, 0, none⟩) 1 1) (by rw [S1.out]; simp)).trans (blk_below G3.out L4)))
  have R5 := Lib.hid (blk_range (xs := qcC 1 0 nine16 (.slice (some ⟨w3.heap.size, 0, none⟩) 1 1)) (blk_set (blk_below Q3.out L4) 18 (.slice (some ⟨w3.heap.size, 0, none⟩) 1 1)))
  clear L4 L5 LA5 q4 HV HS B0 LA LA3 hsz hw1
  go_wp2_with (first | (refine wpList_load_g rfl 27 (.tmp 1) rfl (w.heap.size + 1) 0 rfl (gndC 1 (.slice (some ⟨w.heap.size, 0, none⟩) 1 1) nine16) _ G5.out Tryd.underlying27 rfl Tryd.size27 ?_) | (refine wpList_load_g rfl 37 (.tmp 2) rfl w1.heap.size 0 rfl (qcC 1 0 nine16 (.slice (some ⟨w3.heap.size, 0, none⟩) 1 1)) _ R5.out Tryd.underlying37 rfl Tryd.size37 ?_))
  refine (qc0_any 1 oneV _ 1 1 nine16 rfl 1 nine16 rfl (some ⟨w3.heap.size, 0, none⟩) 1 1 al _ V5.out N5.out).mono ?_
  rintro _ w6 ⟨rfl, hb6⟩
  rw [one_qc1]
  have N6 := Lib.hid (N5.out.below hb6)
  have B6 := Lib.hid (B5.out.trans (hb6.mono B5.out.size))
  clear hb6 V5 N5 B5 G5 R5 q18 f18
  go_wp2_with fail
  refine (num_any al 12 (by omega) w6 N6.out).mono ?_
  rintro _ w7 ⟨rfl, hb7⟩
  have B7 := Lib.hid (B6.out.trans (hb7.mono B6.out.size))
  clear hb7 B6
  go_wp2_with fail
  go_ret
  exact ⟨rfl, B7.out⟩
end Go.Proofs.YtniknhhejlgdfaaDoor
/- Whether two validators are equal, by the model's own test. -/
namespace Go.Proofs.YtniknhhejlgdfaaDoor
open Go.RowKit

theorem run_neq37 (a b : List Int) (ha : a.length = 16) (hb : b.length = 16) (W : World) : (binOp .neq 24 (.agg (u8s a).toArray) (.agg (u8s b).toArray)).run Tryd.prog W = .ok (.bool (!decide (a = b))) W :=
  run_neq_bytes 24 5 16 a b Tryd.underlying24 Tryd.underlying5 (by kernel_rfl) ha hb
end Go.Proofs.YtniknhhejlgdfaaDoor
/- Whether two rows of validators are the same. -/
namespace Go.Proofs.YtniknhhejlgdfaaDoor
open Go.RowKit

theorem hi39 (x : Va) (h : x.1.length = 16) : (Tryd.prog.info? 45).map (·.size) = some (vcells x).length := by rw [vcells_len x h]; exact Tryd.size45
theorem hi37 (k : List Int) (h : k.length = 16) : (Tryd.prog.info? 24).map (·.size) = some (u8s k).length := by rw [u8s_len', h]; exact Tryd.size24
theorem gives_fieldAddr {P : Program} {o : Oper} {ρ : Operand → Value} {w w' : World} {S : Value → World → Prop} (t : TypeId) (x : Operand) (k : Nat) (ho : o.op = .fieldAddr t x k) (a v : Value) (hx : ρ x = a) (hr : (Instr.fieldAt t a k).run P w = .ok v w') (h : S v w') : Gives P o ρ w S := by
  refine gives_val v (w' := w') ?_ h
  unfold execOp
  simp only [ho, hx, Sem.run_bind, hr, Result.andThen_ok, Sem.run_pure]

set_option maxHeartbeats 4000000 in
set_option maxRecDepth 100000 in
theorem refSame_any (xs ys : List Va) (A A' : Option Addr) (n n' c c' : Nat) (w : World) (hx : Vals w (.slice A n c) xs) (hy : Vals w (.slice A' n' c') ys) (hz : n ≤ 1000000) :
    Calls Tryd.prog 32 #[.slice A n c, .slice A' n' c'] w fun e w' => e = .returned (.bool (decide (xs = ys))) ∧ Below w.heap.size w w' := by
  have HXS := Lib.hid hx
  have HYS := Lib.hid hy
  have HN := Lib.hid hx.len
  have HN' := Lib.hid hy.len
  clear hx hy
  by_cases hne : n = n'
  · subst hne
    go_enter Tryd.func32, Tryd.ntmps32
    go_wp2
    go_loopw [5, 13] (fun _ k wr => ∃ (i : Nat), i ≤ n ∧ k = .int .i64 i ∧ Hid (xs.take i = ys.take i) ∧ Hid (Below w.heap.size w wr))
      (fun _ k _ => n - (intOf k).toNat)
    case atStart => exact ⟨0, by omega, rfl, Lib.hid rfl, Lib.hid (Below.refl _ _)⟩
    case round =>
      obtain ⟨i, hi, rfl, htk, hbel⟩ := hrel
      by_cases hlt : i < n
      · have hi1 : i < xs.length := by have := HN.out; omega
        have hi2 : i < ys.length := by have := HN'.out; omega
        obtain ⟨b, off, rfl, hb1, ra⟩ := (HXS.out.below hbel.out).el i hlt
        obtain ⟨b', off', rfl, hb2, rb⟩ := (HYS.out.below hbel.out).el i hlt
        have dl := HXS.out.at i hi1
        have dl' := HYS.out.at i hi2
        have ht1 : xs.take (i + 1) = xs.take i ++ [xs.getD i ([], 0)] := by rw [List.take_succ_eq_append_getElem hi1]; simp [List.getD_eq_getElem?_getD, hi1]
        have ht2 : ys.take (i + 1) = ys.take i ++ [ys.getD i ([], 0)] := by rw [List.take_succ_eq_append_getElem hi2]; simp [List.getD_eq_getElem?_getD, hi2]
        have hne2 : xs.getD i ([], 0) ≠ ys.getD i ([], 0) → xs ≠ ys := fun h e => h (by rw [e])
        obtain ⟨DA, hDA⟩ : ∃ d, d = xs.getD i ([], 0) := ⟨_, rfl⟩
        obtain ⟨DB, hDB⟩ : ∃ d, d = ys.getD i ([], 0) := ⟨_, rfl⟩
        rw [← hDA] at ra dl ht1 hne2
        rw [← hDB] at rb dl' ht2 hne2
        have RA := Lib.hid ra
        have RB := Lib.hid rb
        have HT1 := Lib.hid ht1
        have HT2 := Lib.hid ht2
        have HNE := Lib.hid hne2
        have HLDA := Lib.hid dl
        have HLDB := Lib.hid dl'
        clear ra rb ht1 ht2 hne2 dl dl' hDA hDB hb1 hb2 hi1 hi2
        have hil : (i : Int) < n := by omega
        go_wp2_with fail
        by_cases hk : DA.1 = DB.1
        rotate_left
        · have heq : DA ≠ DB := fun e => hk (by rw [e])
          refine wp_region_rely (by kernel_rfl) 24 (by kernel_rfl) (by kernel_rfl) Ext Ext.refl Ext.trans (fun ix => match ix with
            | 0 => fun _ v => v = .slice (some ⟨b, off, none⟩) n c
            | 1 => fun _ v => v = .int .i64 i
            | 2 => fun _ v => v = .pointer (some ⟨b, off + i * 17, none⟩)
            | 3 => fun _ v => v = .pointer (some ⟨b, off + i * 17, none⟩)
            | 4 => fun _ v => v = .agg (u8s DA.1).toArray
            | 5 => fun _ v => v = .slice (some ⟨b', off', none⟩) n c'
            | 6 => fun _ v => v = .int .i64 i
            | 7 => fun _ v => v = .pointer (some ⟨b', off' + i * 17, none⟩)
            | 8 => fun _ v => v = .pointer (some ⟨b', off' + i * 17, none⟩)
            | 9 => fun _ v => v = .agg (u8s DB.1).toArray
            | 10 => fun _ v => v = .bool true
            | 11 => fun _ v => v = .bool true
            | 12 => fun _ v => v = undef
            | 13 => fun _ v => v = undef
            | 14 => fun _ v => v = undef
            | 15 => fun _ v => v = undef
            | 16 => fun _ v => v = undef
            | 17 => fun _ v => v = undef
            | 18 => fun _ v => v = undef
            | 19 => fun _ v => v = undef
            | 20 => fun _ v => v = undef
            | 21 => fun _ v => v = undef
            | 22 => fun _ v => v = undef
            | 23 => fun _ v => v = (Value.bool true)
            | _ => fun _ _ => False) ?_
          simp (maxSteps := 10000000) only [Rely, List.take_succ_cons, List.take_zero, List.drop_succ_cons, List.drop_zero, Nat.reduceAdd, Nat.zero_add, Act.put, List.setIfInBounds_toArray, List.set_cons_succ, List.set_cons_zero]
          refine ⟨?_, ?_, ?_, ?_, ?_, ?_, ?_, ?_, ?_, ?_, ?_, ?_, ?_, ?_, ?_, ?_, ?_, ?_, ?_, ?_, ?_, ?_, ?_, ?_, ?_⟩
          · refine step_plain rfl fun vs w1 hE hd => ?_
            exact gives_move _ (.slice (some ⟨b, off, none⟩) n c) (.inl rfl) rfl ⟨Ext.refl _, fun _ _ => rfl⟩
          · refine step_plain rfl fun vs w1 hE hd => ?_
            exact gives_move _ (.int .i64 i) (.inl rfl) rfl ⟨Ext.refl _, fun _ _ => rfl⟩
          · refine step_plain rfl fun vs w1 hE hd => ?_
            exact gives_indexAt 22 _ _ rfl (.slice (some ⟨b, off, none⟩) n c) (.int .i64 i) (.pointer (some ⟨b, off + i * 17, none⟩)) (show vs 0 = _ from hd.1) (show vs 1 = _ from hd.2.1) (by go_simp) ⟨Ext.refl _, fun _ _ => rfl⟩
          · refine step_plain rfl fun vs w1 hE hd => ?_
            exact gives_fieldAddr 45 _ 0 rfl (.pointer (some ⟨b, off + i * 17, none⟩)) _ (show vs 2 = _ from (hd.1)) (by go_simp) ⟨Ext.refl _, fun _ _ => rfl⟩
          · refine step_plain rfl fun vs w1 hE hd => ?_
            exact gives_load_row 24 _ rfl b (off + i * 17) (show vs 3 = _ from (hd.1)) (u8s DA.1) _ (range_below (vcells_key RA.out) (ext_of_drew hE)) Tryd.underlying24 rfl (hi37 DA.1 HLDA.out) ⟨Ext.refl _, fun _ _ => rfl⟩
          · refine step_plain rfl fun vs w1 hE hd => ?_
            exact gives_move _ (.slice (some ⟨b', off', none⟩) n c') (.inl rfl) rfl ⟨Ext.refl _, fun _ _ => rfl⟩
          · refine step_plain rfl fun vs w1 hE hd => ?_
            exact gives_move _ (.int .i64 i) (.inl rfl) rfl ⟨Ext.refl _, fun _ _ => rfl⟩
          · refine step_plain rfl fun vs w1 hE hd => ?_
            exact gives_indexAt 22 _ _ rfl (.slice (some ⟨b', off', none⟩) n c') (.int .i64 i) (.pointer (some ⟨b', off' + i * 17, none⟩)) (show vs 5 = _ from hd.1) (show vs 6 = _ from hd.2.1) (by go_simp) ⟨Ext.refl _, fun _ _ => rfl⟩
          · refine step_plain rfl fun vs w1 hE hd => ?_
            exact gives_fieldAddr 45 _ 0 rfl (.pointer (some ⟨b', off' + i * 17, none⟩)) _ (show vs 7 = _ from (hd.1)) (by go_simp) ⟨Ext.refl _, fun _ _ => rfl⟩
          · refine step_plain rfl fun vs w1 hE hd => ?_
            exact gives_load_row 24 _ rfl b' (off' + i * 17) (show vs 8 = _ from (hd.1)) (u8s DB.1) _ (range_below (vcells_key RB.out) (ext_of_drew hE)) Tryd.underlying24 rfl (hi37 DB.1 HLDB.out) ⟨Ext.refl _, fun _ _ => rfl⟩
          · refine step_plain rfl fun vs w1 hE hd => ?_
            have hkk : (!decide (DA.1 = DB.1)) = true := by simp [hk]
            skip
            exact gives_binOp .neq 24 _ _ _ rfl (.agg (u8s DA.1).toArray) (.agg (u8s DB.1).toArray) (.bool true) (show vs 4 = _ from (hd.1)) (show vs 9 = _ from (hd.2.1)) (by go_simp) (by rw [run_neq37 DA.1 DB.1 HLDA.out HLDB.out, hkk]) ⟨Ext.refl _, fun _ _ => rfl⟩
          · refine step_plain rfl fun vs w1 hE hd => ?_
            exact gives_move _ (.bool true) (.inl rfl) (show vs 10 = _ from hd.1) ⟨Ext.refl _, fun _ _ => rfl⟩
          · exact step_skip 11 false 27 rfl rfl (fun _ => rfl) fun vs w1 hE hd => ⟨.inl hd.1, fun _ => rfl⟩
          · exact step_skip 11 false 27 rfl rfl (fun _ => rfl) fun vs w1 hE hd => ⟨.inl hd.1, fun _ => rfl⟩
          · exact step_skip 11 false 27 rfl rfl (fun _ => rfl) fun vs w1 hE hd => ⟨.inl hd.2.2.1, fun _ => rfl⟩
          · exact step_skip 11 false 27 rfl rfl (fun _ => rfl) fun vs w1 hE hd => ⟨.inl hd.2.1, fun _ => rfl⟩
          · exact step_skip 11 false 27 rfl rfl (fun _ => rfl) fun vs w1 hE hd => ⟨.inl hd.2.1, fun _ => rfl⟩
          · exact step_skip 11 false 27 rfl rfl (fun _ => rfl) fun vs w1 hE hd => ⟨.inl hd.1, fun _ => rfl⟩
          · exact step_skip 11 false 27 rfl rfl (fun _ => rfl) fun vs w1 hE hd => ⟨.inl hd.1, fun _ => rfl⟩
          · exact step_skip 11 false 27 rfl rfl (fun _ => rfl) fun vs w1 hE hd => ⟨.inl hd.2.2.1, fun _ => rfl⟩
          · exact step_skip 11 false 27 rfl rfl (fun _ => rfl) fun vs w1 hE hd => ⟨.inl hd.2.1, fun _ => rfl⟩
          · exact step_skip 11 false 27 rfl rfl (fun _ => rfl) fun vs w1 hE hd => ⟨.inl hd.2.1, fun _ => rfl⟩
          · exact step_skip 11 false 27 rfl rfl (fun _ => rfl) fun vs w1 hE hd => ⟨.inl hd.2.2.1, fun _ => rfl⟩
          · refine step_plain rfl fun vs w1 hE hd => ?_
            exact gives_pick _ _ _ (Value.bool true) true rfl (show vs 11 = _ from hd.1) rfl ⟨Ext.refl _, fun _ _ => rfl⟩
          · intro vs w2 hE hR
            have hl := hR 23 (by omega)
            have hl' : vs 23 = _ := hl
            rw [hl']
            have hb2 : Below w.heap.size w w2 := hbel.out.trans (Below.mono (ext_of_drew hE) hbel.out.size)
            have HB2 := Lib.hid hb2
            clear hR hE hl hl' hb2
            clear hk
            go_wp2_with fail
            go_ret
            exact ⟨by rw [decide_eq_false (HNE.out heq)]; rfl, HB2.out⟩
        · skip
          refine wp_region_rely (by kernel_rfl) 24 (by kernel_rfl) (by kernel_rfl) Ext Ext.refl Ext.trans (fun ix => match ix with
            | 0 => fun _ v => v = .slice (some ⟨b, off, none⟩) n c
            | 1 => fun _ v => v = .int .i64 i
            | 2 => fun _ v => v = .pointer (some ⟨b, off + i * 17, none⟩)
            | 3 => fun _ v => v = .pointer (some ⟨b, off + i * 17, none⟩)
            | 4 => fun _ v => v = .agg (u8s DA.1).toArray
            | 5 => fun _ v => v = .slice (some ⟨b', off', none⟩) n c'
            | 6 => fun _ v => v = .int .i64 i
            | 7 => fun _ v => v = .pointer (some ⟨b', off' + i * 17, none⟩)
            | 8 => fun _ v => v = .pointer (some ⟨b', off' + i * 17, none⟩)
            | 9 => fun _ v => v = .agg (u8s DB.1).toArray
            | 10 => fun _ v => v = .bool false
            | 11 => fun _ v => v = .bool false
            | 12 => fun _ v => v = .slice (some ⟨b, off, none⟩) n c
            | 13 => fun _ v => v = .int .i64 i
            | 14 => fun _ v => v = .pointer (some ⟨b, off + i * 17, none⟩)
            | 15 => fun _ v => v = .pointer (some ⟨b, off + i * 17 + 16, none⟩)
            | 16 => fun _ v => v = .int .i64 DA.2
            | 17 => fun _ v => v = .slice (some ⟨b', off', none⟩) n c'
            | 18 => fun _ v => v = .int .i64 i
            | 19 => fun _ v => v = .pointer (some ⟨b', off' + i * 17, none⟩)
            | 20 => fun _ v => v = .pointer (some ⟨b', off' + i * 17 + 16, none⟩)
            | 21 => fun _ v => v = .int .i64 DB.2
            | 22 => fun _ v => v = .bool (DA.2 != DB.2)
            | 23 => fun _ v => v = .bool (DA.2 != DB.2)
            | _ => fun _ _ => False) ?_
          simp (maxSteps := 10000000) only [Rely, List.take_succ_cons, List.take_zero, List.drop_succ_cons, List.drop_zero, Nat.reduceAdd, Nat.zero_add, Act.put, List.setIfInBounds_toArray, List.set_cons_succ, List.set_cons_zero]
          refine ⟨?_, ?_, ?_, ?_, ?_, ?_, ?_, ?_, ?_, ?_, ?_, ?_, ?_, ?_, ?_, ?_, ?_, ?_, ?_, ?_, ?_, ?_, ?_, ?_, ?_⟩
          · refine step_plain rfl fun vs w1 hE hd => ?_
            exact gives_move _ (.slice (some ⟨b, off, none⟩) n c) (.inl rfl) rfl ⟨Ext.refl _, fun _ _ => rfl⟩
          · refine step_plain rfl fun vs w1 hE hd => ?_
            exact gives_move _ (.int .i64 i) (.inl rfl) rfl ⟨Ext.refl _, fun _ _ => rfl⟩
          · refine step_plain rfl fun vs w1 hE hd => ?_
            exact gives_indexAt 22 _ _ rfl (.slice (some ⟨b, off, none⟩) n c) (.int .i64 i) (.pointer (some ⟨b, off + i * 17, none⟩)) (show vs 0 = _ from hd.1) (show vs 1 = _ from hd.2.1) (by go_simp) ⟨Ext.refl _, fun _ _ => rfl⟩
          · refine step_plain rfl fun vs w1 hE hd => ?_
            exact gives_fieldAddr 45 _ 0 rfl (.pointer (some ⟨b, off + i * 17, none⟩)) _ (show vs 2 = _ from (hd.1)) (by go_simp) ⟨Ext.refl _, fun _ _ => rfl⟩
          · refine step_plain rfl fun vs w1 hE hd => ?_
            exact gives_load_row 24 _ rfl b (off + i * 17) (show vs 3 = _ from (hd.1)) (u8s DA.1) _ (range_below (vcells_key RA.out) (ext_of_drew hE)) Tryd.underlying24 rfl (hi37 DA.1 HLDA.out) ⟨Ext.refl _, fun _ _ => rfl⟩
          · refine step_plain rfl fun vs w1 hE hd => ?_
            exact gives_move _ (.slice (some ⟨b', off', none⟩) n c') (.inl rfl) rfl ⟨Ext.refl _, fun _ _ => rfl⟩
          · refine step_plain rfl fun vs w1 hE hd => ?_
            exact gives_move _ (.int .i64 i) (.inl rfl) rfl ⟨Ext.refl _, fun _ _ => rfl⟩
          · refine step_plain rfl fun vs w1 hE hd => ?_
            exact gives_indexAt 22 _ _ rfl (.slice (some ⟨b', off', none⟩) n c') (.int .i64 i) (.pointer (some ⟨b', off' + i * 17, none⟩)) (show vs 5 = _ from hd.1) (show vs 6 = _ from hd.2.1) (by go_simp) ⟨Ext.refl _, fun _ _ => rfl⟩
          · refine step_plain rfl fun vs w1 hE hd => ?_
            exact gives_fieldAddr 45 _ 0 rfl (.pointer (some ⟨b', off' + i * 17, none⟩)) _ (show vs 7 = _ from (hd.1)) (by go_simp) ⟨Ext.refl _, fun _ _ => rfl⟩
          · refine step_plain rfl fun vs w1 hE hd => ?_
            exact gives_load_row 24 _ rfl b' (off' + i * 17) (show vs 8 = _ from (hd.1)) (u8s DB.1) _ (range_below (vcells_key RB.out) (ext_of_drew hE)) Tryd.underlying24 rfl (hi37 DB.1 HLDB.out) ⟨Ext.refl _, fun _ _ => rfl⟩
          · refine step_plain rfl fun vs w1 hE hd => ?_
            have hkk : (!decide (DA.1 = DB.1)) = false := by simp [hk]
            skip
            exact gives_binOp .neq 24 _ _ _ rfl (.agg (u8s DA.1).toArray) (.agg (u8s DB.1).toArray) (.bool false) (show vs 4 = _ from (hd.1)) (show vs 9 = _ from (hd.2.1)) (by go_simp) (by rw [run_neq37 DA.1 DB.1 HLDA.out HLDB.out, hkk]) ⟨Ext.refl _, fun _ _ => rfl⟩
          · refine step_plain rfl fun vs w1 hE hd => ?_
            exact gives_move _ (.bool false) (.inl rfl) (show vs 10 = _ from hd.1) ⟨Ext.refl _, fun _ _ => rfl⟩
          · refine step_guard 11 false 27 rfl rfl (fun _ => rfl) fun vs w1 hE hd => ⟨hd.1, ?_⟩
            exact gives_move _ (.slice (some ⟨b, off, none⟩) n c) (.inl rfl) rfl ⟨Ext.refl _, fun _ _ => rfl⟩
          · refine step_guard 11 false 27 rfl rfl (fun _ => rfl) fun vs w1 hE hd => ⟨hd.1, ?_⟩
            exact gives_move _ (.int .i64 i) (.inl rfl) rfl ⟨Ext.refl _, fun _ _ => rfl⟩
          · refine step_guard 11 false 27 rfl rfl (fun _ => rfl) fun vs w1 hE hd => ⟨hd.2.2.1, ?_⟩
            exact gives_indexAt 22 _ _ rfl (.slice (some ⟨b, off, none⟩) n c) (.int .i64 i) (.pointer (some ⟨b, off + i * 17, none⟩)) (show vs 12 = _ from hd.1) (show vs 13 = _ from hd.2.1) (by go_simp) ⟨Ext.refl _, fun _ _ => rfl⟩
          · refine step_guard 11 false 27 rfl rfl (fun _ => rfl) fun vs w1 hE hd => ⟨hd.2.1, ?_⟩
            exact gives_fieldAddr 45 _ 1 rfl (.pointer (some ⟨b, off + i * 17, none⟩)) _ (show vs 14 = _ from (hd.1)) (by go_simp) ⟨Ext.refl _, fun _ _ => rfl⟩
          · refine step_guard 11 false 27 rfl rfl (fun _ => rfl) fun vs w1 hE hd => ⟨hd.2.1, ?_⟩
            have hc := cell_on (ext_of_drew hE) (vcells_pow HLDA.out RA.out)
            exact gives_loadAt 3 _ rfl (.pointer (some ⟨b, off + i * 17 + 16, none⟩)) (.int .i64 DA.2) (show vs 15 = _ from hd.1) (by go_simp) ⟨Ext.refl _, fun _ _ => rfl⟩
          · refine step_guard 11 false 27 rfl rfl (fun _ => rfl) fun vs w1 hE hd => ⟨hd.1, ?_⟩
            exact gives_move _ (.slice (some ⟨b', off', none⟩) n c') (.inl rfl) rfl ⟨Ext.refl _, fun _ _ => rfl⟩
          · refine step_guard 11 false 27 rfl rfl (fun _ => rfl) fun vs w1 hE hd => ⟨hd.1, ?_⟩
            exact gives_move _ (.int .i64 i) (.inl rfl) rfl ⟨Ext.refl _, fun _ _ => rfl⟩
          · refine step_guard 11 false 27 rfl rfl (fun _ => rfl) fun vs w1 hE hd => ⟨hd.2.2.1, ?_⟩
            exact gives_indexAt 22 _ _ rfl (.slice (some ⟨b', off', none⟩) n c') (.int .i64 i) (.pointer (some ⟨b', off' + i * 17, none⟩)) (show vs 17 = _ from hd.1) (show vs 18 = _ from hd.2.1) (by go_simp) ⟨Ext.refl _, fun _ _ => rfl⟩
          · refine step_guard 11 false 27 rfl rfl (fun _ => rfl) fun vs w1 hE hd => ⟨hd.2.1, ?_⟩
            exact gives_fieldAddr 45 _ 1 rfl (.pointer (some ⟨b', off' + i * 17, none⟩)) _ (show vs 19 = _ from (hd.1)) (by go_simp) ⟨Ext.refl _, fun _ _ => rfl⟩
          · refine step_guard 11 false 27 rfl rfl (fun _ => rfl) fun vs w1 hE hd => ⟨hd.2.1, ?_⟩
            have hc := cell_on (ext_of_drew hE) (vcells_pow HLDB.out RB.out)
            exact gives_loadAt 3 _ rfl (.pointer (some ⟨b', off' + i * 17 + 16, none⟩)) (.int .i64 DB.2) (show vs 20 = _ from hd.1) (by go_simp) ⟨Ext.refl _, fun _ _ => rfl⟩
          · refine step_guard 11 false 27 rfl rfl (fun _ => rfl) fun vs w1 hE hd => ⟨hd.2.2.1, ?_⟩
            exact gives_binOp .neq 3 _ _ _ rfl (.int .i64 DA.2) (.int .i64 DB.2) (.bool (DA.2 != DB.2)) (show vs 16 = _ from hd.1) (show vs 21 = _ from hd.2.1) (by go_simp) (by go_simp) ⟨Ext.refl _, fun _ _ => rfl⟩
          · refine step_plain rfl fun vs w1 hE hd => ?_
            exact gives_pick _ _ _ (.bool (DA.2 != DB.2)) false rfl (show vs 11 = _ from hd.1) (show vs 22 = _ from hd.2.1) ⟨Ext.refl _, fun _ _ => rfl⟩
          · intro vs w2 hE hR
            have hl := hR 23 (by omega)
            have hl' : vs 23 = _ := hl
            rw [hl']
            have hb2 : Below w.heap.size w w2 := hbel.out.trans (Below.mono (ext_of_drew hE) hbel.out.size)
            have HB2 := Lib.hid hb2
            clear hR hE hl hl' hb2
            by_cases hp : DA.2 = DB.2
            · have heq : DA = DB := Prod.ext hk hp
              rw [show (DA.2 != DB.2) = false by simp [hp]]
              clear hk hp
              go_wp2_with fail
              go_roundw
              case rel => exact ⟨i + 1, by omega, by go_num, Lib.hid (by rw [HT1.out, HT2.out, htk.out, heq]), HB2⟩
              case measure => simp [intOf]; omega
            · have heq : DA ≠ DB := fun e => hp (by rw [e])
              rw [show (DA.2 != DB.2) = true by simp [hp]]
              clear hk hp
              go_wp2_with fail
              go_ret
              exact ⟨by rw [decide_eq_false (HNE.out heq)]; rfl, HB2.out⟩
      · obtain rfl : i = n := by omega
        have he : xs = ys := by
          have := htk.out
          rwa [List.take_of_length_le (by rw [← HN.out]; exact Nat.le_refl _), List.take_of_length_le (by rw [← HN'.out]; exact Nat.le_refl _)] at this
        have HE := Lib.hid he
        clear he
        go_wp2
        go_ret
        exact ⟨by rw [decide_eq_true HE.out]; rfl, hbel.out⟩
  · have hni : ((n : Int) != n') = true := by simp; omega
    go_enter Tryd.func32, Tryd.ntmps32
    go_wp2
    go_ret
    exact ⟨by rw [decide_eq_false (fun e => hne (by rw [HN.out, HN'.out, e]))]; rfl, Below.refl _ _⟩
end Go.Proofs.YtniknhhejlgdfaaDoor
/- The reference's answers for layer 8: In, Right, Total, Sum, Enough, Few. -/
namespace Go.Proofs.YtniknhhejlgdfaaDoor
open Go.RowKit Go.Shelf

set_option maxHeartbeats 4000000 in
set_option maxRecDepth 100000 in
theorem in_any (xs : List Int) (z : Int) (A : Option Addr) (n c : Nat) (w : World) (hv : Ins w (.slice A n c) xs) (hz : n ≤ 1000000) :
    Calls Tryd.prog 62 #[.slice A n c, .int .i64 z] w fun e w' => e = .returned (.bool (decide (z ∈ xs))) ∧ w' = w := by
  have HV := Lib.hid hv
  have HN := Lib.hid hv.len
  clear hv
  go_enter Tryd.func62, Tryd.ntmps62
  go_wp2
  go_loopw [6, 9] (fun _ k wr => ∃ (i : Nat), i ≤ n ∧ k = .int .i64 i ∧ Hid (z ∉ xs.take i) ∧ w = wr)
    (fun _ k _ => n - (intOf k).toNat)
  case atStart => exact ⟨0, by omega, rfl, Lib.hid (by simp), by first | trivial | rfl⟩
  case round =>
    obtain ⟨i, hi, rfl, hne, rfl⟩ := hrel
    by_cases hlt : i < n
    · obtain ⟨b, off, rfl, hb, hr⟩ := HV.out.el i hlt
      have hi1 : i < xs.length := by have := HN.out; omega
      obtain ⟨X, hX⟩ : ∃ X, X = xs.getD i 0 := ⟨_, rfl⟩
      have hxm : X ∈ xs := by rw [hX, List.getD_eq_getElem?_getD, List.getElem?_eq_getElem hi1]; exact List.getElem_mem _
      have htk : xs.take (i + 1) = xs.take i ++ [X] := by rw [List.take_succ_eq_append_getElem hi1, hX]; simp [List.getD_eq_getElem?_getD, hi1]
      rw [← hX] at hr
      have HXM := Lib.hid hxm
      have HTK := Lib.hid htk
      have hil : (i : Int) < n := by omega
      clear hX hxm htk
      by_cases he : X = z
      · have hb1 : (X == z) = true := by simp [he]
        have hd : decide (z ∈ xs) = true := decide_eq_true (by rw [← he]; exact HXM.out)
        have HD := Lib.hid hd
        clear hd
        go_wp2_with fail
        go_ret
        exact ⟨by rw [HD.out]; rfl, rfl⟩
      · have hb1 : (X == z) = false := by simp [he]
        go_wp2_with fail
        go_roundw
        case rel => exact ⟨i + 1, by omega, by go_num, Lib.hid (by
          rw [HTK.out]
          intro hm
          rcases List.mem_append.1 hm with hm | hm
          · exact hne.out hm
          · simp at hm; exact he hm.symm), by first | trivial | rfl⟩
        case measure => simp [intOf]; omega
    · obtain rfl : i = n := by omega
      have hd : decide (z ∈ xs) = false := decide_eq_false (by
        have := hne.out
        rwa [List.take_of_length_le (by rw [← HN.out]; exact Nat.le_refl _)] at this)
      have HD := Lib.hid hd
      clear hd
      go_wp2_with fail
      go_ret
      exact ⟨by rw [HD.out]; rfl, rfl⟩

set_option maxHeartbeats 4000000 in
set_option maxRecDepth 100000 in
theorem refTotal_any (vs : List Va) (A : Option Addr) (n c : Nat) (w : World) (hv : Vals w (.slice A n c) vs) (hz : n ≤ 1000000) :
    Calls Tryd.prog 42 #[.slice A n c] w fun e w' => e = .returned (.int .i64 (sumW (vs.map (·.2)))) ∧ Below w.heap.size w w' := by
  have HV := Lib.hid hv
  have HN := Lib.hid hv.len
  clear hv
  go_enter Tryd.func42, Tryd.ntmps42
  go_wp2
  go_loopw [3, 8] (fun s k wr => ∃ (i : Nat) (S : Int), i ≤ n ∧ s = .int .i64 S ∧ k = .int .i64 i ∧ Hid (S = sumW ((vs.take i).map (·.2))) ∧ Hid (Below w.heap.size w wr))
    (fun _ k _ => n - (intOf k).toNat)
  case atStart => exact ⟨0, 0, by omega, rfl, rfl, Lib.hid rfl, Lib.hid (Below.refl _ _)⟩
  case round =>
    obtain ⟨i, S, hi, rfl, rfl, hS, hbel⟩ := hrel
    by_cases hlt : i < n
    · obtain ⟨b, off, rfl, hb, hr⟩ := (HV.out.below hbel.out).el i hlt
      have hi1 : i < vs.length := by have := HN.out; omega
      have hl := HV.out.at i hi1
      have htk := powers_take vs i hi1
      obtain ⟨X, hX⟩ : ∃ X, X = vs.getD i ([], 0) := ⟨_, rfl⟩
      rw [← hX] at hr hl htk
      have hi39 : (Tryd.prog.info? 45).map (·.size) = some (vcells X).length := by rw [vcells_len X hl]; exact Tryd.size45
      have hh : ∀ Z : Array Value, Z.size = 17 → Has (wr.alloc (.cells Z 45)) wr.heap.size 45 (vcells X).length := fun Z hZ => has_new wr _ _ _ (by rw [hZ, vcells_len X hl])
      have HR := Lib.hid hr
      have HL := Lib.hid hl
      have HI := Lib.hid hi39
      have HH := Lib.hid hh
      have HTK := Lib.hid htk
      have hil : (i : Int) < n := by omega
      clear hr hl hi39 hh hX hb htk hi1
      go_wp2_with (first | (refine wpList_load_g rfl 45 (.tmp 10) rfl b (off + i * 17) rfl (vcells X) _ HR.out Tryd.underlying45 rfl HI.out ?_) | (refine wpList_store_row rfl 45 (.tmp 5) (.tmp 11) rfl wr.heap.size rfl (vcells X) rfl 45 (HH.out _ rfl) HI.out (one_vcells X) ?_; intro w1 hp1; have L1 : Below wr.heap.size wr w1 := hp1.below ((Below.refl _ _).alloc (Nat.le_refl _) _) (Nat.le_refl _); have B1 := Lib.hid (hbel.out.trans (L1.mono hbel.out.size)); have hpw := vcells_pow HL.out (blk_range hp1.blk); rw [Nat.zero_add] at hpw; clear hp1 L1))
      go_roundw
      case rel => exact ⟨i + 1, _, by omega, rfl, by go_num, Lib.hid (by rw [HTK.out, sumW_snoc, ← hS.out]), B1⟩
      case measure => simp [intOf]; omega
    · obtain rfl : i = n := by omega
      go_wp2_with fail
      go_ret
      exact ⟨by rw [hS.out, List.take_of_length_le (by rw [← HN.out]; exact Nat.le_refl _)]; rfl, hbel.out⟩

theorem findK_least (vs : List Va) (i : Nat) (hi : i < vs.length) : findK vs (vs.getD i ([], 0)).1 = i ↔ ∀ j, j < i → (vs.getD j ([], 0)).1 ≠ (vs.getD i ([], 0)).1 := by
  constructor
  · intro h j hj he
    have hex : ∃ j, j < i ∧ (vs.getD j ([], 0)).1 = (vs.getD i ([], 0)).1 := ⟨j, hj, he⟩
    obtain ⟨m, hm, hmin⟩ : ∃ m, (m < i ∧ (vs.getD m ([], 0)).1 = (vs.getD i ([], 0)).1) ∧ ∀ k, k < m → ¬ (k < i ∧ (vs.getD k ([], 0)).1 = (vs.getD i ([], 0)).1) := by
      clear h he hj j
      obtain ⟨j, hj⟩ := hex
      induction j using Nat.strongRecOn with
      | ind j ih =>
        by_cases hk : ∃ k, k < j ∧ (k < i ∧ (vs.getD k ([], 0)).1 = (vs.getD i ([], 0)).1)
        · obtain ⟨k, hkj, hk⟩ := hk
          exact ih k hkj hk
        · exact ⟨j, hj, fun k hkj hkk => hk ⟨k, hkj, hkk⟩⟩
    have h2 := findK_at vs (vs.getD i ([], 0)).1 m (by omega) hm.2 (fun k hk e => hmin k hk ⟨by omega, e⟩)
    rw [h] at h2
    omega
  · intro h
    exact findK_at vs _ i hi rfl h
theorem okAt_eq (vs : List Va) (i : Nat) (hi : i < vs.length) : okAt vs i = decide (1 ≤ (vs.getD i ([], 0)).2 ∧ (vs.getD i ([], 0)).2 ≤ 1099511627776 ∧ ∀ j, j < i → (vs.getD j ([], 0)).1 ≠ (vs.getD i ([], 0)).1) := by
  unfold okAt
  rw [decide_eq_decide, findK_least vs i hi]
theorem Vals.take {w : World} {A : Option Addr} {n c : Nat} {vs : List Va} (h : Vals w (.slice A n c) vs) (k : Nat) (hk : k ≤ n) : Vals w (.slice A k c) (vs.take k) := by
  have hl := h.len
  have hkl : (vs.take k).length = k := by rw [List.length_take]; omega
  refine ⟨⟨A, c, by rw [hkl]⟩, fun hne => ?_, fun x hx => h.good x (List.mem_of_mem_take hx)⟩
  have hk0 : 0 < k := by
    cases k with
    | zero => exact absurd rfl hne
    | succ => omega
  obtain ⟨b, off, c', e, h1, h2, h3, h4⟩ := h.cells (by intro e; subst e; simp at hl; omega)
  simp only [Value.slice.injEq] at e
  obtain ⟨rfl, _, rfl⟩ := e
  refine ⟨b, off, c, by rw [hkl], by omega, h2, h3, fun i hi => ?_⟩
  have := h4 i (by omega)
  simp only [List.getD_eq_getElem?_getD, List.getElem?_take] at this ⊢
  rw [if_pos (by omega)]
  exact this
set_option maxHeartbeats 8000000 in
set_option maxRecDepth 100000 in
theorem vright_any (vs : List Va) (A : Option Addr) (n c : Nat) (w : World) (hv : Vals w (.slice A n c) vs) :
    Calls Tryd.prog 19 #[.slice A n c] w fun e w' => e = .returned (.bool (validB vs)) ∧ Below w.heap.size w w' := by
  have HV := Lib.hid hv
  have HN := Lib.hid hv.len
  clear hv
  by_cases h0 : n = 0
  · have hE : Hid (validB vs = false) := Lib.hid (validB_len vs (by rw [← HN.out]; omega))
    have h0' : (n : Int) = 0 := by omega
    go_enter Tryd.func19, Tryd.ntmps19
    go_wp2
    go_ret
    exact ⟨by rw [hE.out]; rfl, Below.refl _ _⟩
  have h0' : ¬ (n : Int) = 0 := by omega
  by_cases h7 : 7 < n
  · have hE : Hid (validB vs = false) := Lib.hid (validB_len vs (by rw [← HN.out]; omega))
    have h7' : (7 : Int) < n := by omega
    go_enter Tryd.func19, Tryd.ntmps19
    go_wp2
    go_ret
    exact ⟨by rw [hE.out]; rfl, Below.refl _ _⟩
  have h7' : ¬ (7 : Int) < n := by omega
  go_enter Tryd.func19, Tryd.ntmps19
  go_wp2
  go_loopw [3, 4, 17] (fun _ _ k wr => ∃ (i : Nat), i ≤ n ∧ k = .int .i64 i ∧ Hid (∀ j, j < i → okAt vs j = true) ∧ Hid (Below w.heap.size w wr))
    (fun _ _ k _ => n - (intOf k).toNat)
  case atStart => exact ⟨0, by omega, rfl, Lib.hid (fun j h => absurd h (by omega)), Lib.hid (Below.refl _ _)⟩
  case round =>
    obtain ⟨i, hi, rfl, hok, hbel⟩ := hrel
    obtain ⟨wo, hwo⟩ : ∃ x, x = wr := ⟨_, rfl⟩
    subst hwo
    by_cases hlt : i < n
    · have hvr := HV.out.below hbel.out
      obtain ⟨b, off, rfl, hb, hr⟩ := hvr.el i hlt
      have hi1 : i < vs.length := by rw [← HN.out]; exact hlt
      have hl := HV.out.at i hi1
      obtain ⟨X, hX⟩ : ∃ X, X = vs.getD i ([], 0) := ⟨_, rfl⟩
      have hokx : okAt vs i = decide (1 ≤ X.2 ∧ X.2 ≤ 1099511627776 ∧ ∀ j, j < i → (vs.getD j ([], 0)).1 ≠ X.1) := by rw [hX]; exact okAt_eq vs i hi1
      rw [← hX] at hr hl
      have hi39 : (Tryd.prog.info? 45).map (·.size) = some (vcells X).length := by rw [vcells_len X hl]; exact Tryd.size45
      have hi37 : (Tryd.prog.info? 24).map (·.size) = some (u8s X.1).length := by rw [u8s_len', hl]; exact Tryd.size24
      have hh : ∀ Z : Array Value, Z.size = 17 → Has (wo.alloc (.cells Z 45)) wo.heap.size 45 (vcells X).length := fun Z hZ => has_new wo _ _ _ (by rw [hZ, vcells_len X hl])
      have hno : okAt vs i = false → validB vs = false := fun h => validB_no vs i hi1 h
      have HR := Lib.hid hr
      have HL := Lib.hid hl
      have HI := Lib.hid hi39
      have HI7 := Lib.hid hi37
      have HH := Lib.hid hh
      have HNO := Lib.hid hno
      have HOX := Lib.hid hokx
      clear hr hl hi39 hi37 hh hX hb hvr hno hokx hi1
      have hil : (i : Int) < n := by omega
      have hin : ¬ (n : Nat) < i := by omega
      by_cases p1 : X.2 < 1
      · go_wp2_with (first | (refine wpList_load_g rfl 45 (.tmp 20) rfl b (off + i * 17) rfl (vcells X) _ HR.out Tryd.underlying45 rfl HI.out ?_) | (refine wpList_store_row rfl 45 (.tmp 4) (.tmp 21) rfl wo.heap.size rfl (vcells X) rfl 45 (HH.out _ rfl) HI.out (one_vcells X) ?_; intro w1 hp1; have L1 : Below wo.heap.size wo w1 := hp1.below ((Below.refl _ _).alloc (Nat.le_refl _) _) (Nat.le_refl _); have B1 := Lib.hid (hbel.out.trans (L1.mono hbel.out.size)); have hpw := vcells_pow HL.out (blk_range hp1.blk); rw [Nat.zero_add] at hpw; clear hp1 L1))
        go_ret
        refine ⟨?_, B1.out⟩
        rw [HNO.out (by rw [HOX.out]; exact decide_eq_false (fun h => by omega))]
        rfl
      by_cases p2 : 1099511627776 < X.2
      · go_wp2_with (first | (refine wpList_load_g rfl 45 (.tmp 20) rfl b (off + i * 17) rfl (vcells X) _ HR.out Tryd.underlying45 rfl HI.out ?_) | (refine wpList_store_row rfl 45 (.tmp 4) (.tmp 21) rfl wo.heap.size rfl (vcells X) rfl 45 (HH.out _ rfl) HI.out (one_vcells X) ?_; intro w1 hp1; have L1 : Below wo.heap.size wo w1 := hp1.below ((Below.refl _ _).alloc (Nat.le_refl _) _) (Nat.le_refl _); have B1 := Lib.hid (hbel.out.trans (L1.mono hbel.out.size)); have hpw := vcells_pow HL.out (blk_range hp1.blk); rw [Nat.zero_add] at hpw; clear hp1 L1))
        go_ret
        refine ⟨?_, B1.out⟩
        rw [HNO.out (by rw [HOX.out]; exact decide_eq_false (fun h => by omega))]
        rfl
      have hic : ¬ c < i := by
        obtain ⟨b', off', c', e, h1, _⟩ := HV.out.cells (by intro e; have := HN.out; rw [e] at this; simp at this; omega)
        simp only [Value.slice.injEq] at e
        have := HN.out
        omega
      go_wp2_with (first | (refine wpList_load_g rfl 45 (.tmp 20) rfl b (off + i * 17) rfl (vcells X) _ HR.out Tryd.underlying45 rfl HI.out ?_) | (refine wpList_store_row rfl 45 (.tmp 4) (.tmp 21) rfl wo.heap.size rfl (vcells X) rfl 45 (HH.out _ rfl) HI.out (one_vcells X) ?_; intro w1 hp1; have L1 : Below wo.heap.size wo w1 := hp1.below ((Below.refl _ _).alloc (Nat.le_refl _) _) (Nat.le_refl _); have B1 := Lib.hid (hbel.out.trans (L1.mono hbel.out.size)); have hpw := vcells_pow HL.out (blk_range hp1.blk); rw [Nat.zero_add] at hpw; have RK := Lib.hid (vcells_key (blk_range hp1.blk)); clear hp1 L1))
      clear hpw
      go_loopw [6, 34] (fun _ kk wr => ∃ (k : Nat), k ≤ i ∧ kk = .int .i64 k ∧ Hid (∀ j, j < k → (vs.getD j ([], 0)).1 ≠ X.1) ∧ Hid (Below w1.heap.size w1 wr))
        (fun _ kk _ => i - (intOf kk).toNat)
      case atStart => exact ⟨0, by omega, rfl, Lib.hid (fun j h => absurd h (by omega)), Lib.hid (Below.refl _ _)⟩
      case round =>
        obtain ⟨k, hk, rfl, hks, hbel2⟩ := hrel
        have bel3 : Below w.heap.size w wr := B1.out.trans (hbel2.out.mono B1.out.size)
        by_cases hlt2 : k < i
        · obtain ⟨b', off', e', _, hr2⟩ := (HV.out.below bel3).el k (by omega)
          simp only [Option.some.injEq, Addr.mk.injEq, and_true] at e'
          obtain ⟨rfl, rfl⟩ := e'
          have hk1 : k < vs.length := by have := HN.out; omega
          have hl2 := HV.out.at k hk1
          obtain ⟨Y, hY⟩ : ∃ Y, Y = vs.getD k ([], 0) := ⟨_, rfl⟩
          rw [← hY] at hr2 hl2
          have hj39 : (Tryd.prog.info? 45).map (·.size) = some (vcells Y).length := by rw [vcells_len Y hl2]; exact Tryd.size45
          have hj37 : (Tryd.prog.info? 24).map (·.size) = some (u8s Y.1).length := by rw [u8s_len', hl2]; exact Tryd.size24
          have hh2 : ∀ Z : Array Value, Z.size = 17 → Has (wr.alloc (.cells Z 45)) wr.heap.size 45 (vcells Y).length := fun Z hZ => has_new wr _ _ _ (by rw [hZ, vcells_len Y hl2])
          have hrun := run_eql37 Y.1 X.1 hl2 HL.out
          have HR2 := Lib.hid hr2
          have HJ := Lib.hid hj39
          have HJ7 := Lib.hid hj37
          have HH2 := Lib.hid hh2
          have HY := Lib.hid hY
          have RX2 := Lib.hid (range_below RK.out hbel2.out)
          have B3 := Lib.hid bel3
          clear hr2 hl2 hj39 hj37 hh2 hY bel3 hk1
          have hkl : (k : Int) < i := by omega
          cases hd : decide (Y.1 = X.1) with
          | true =>
            rw [hd] at hrun
            have heq := of_decide_eq_true hd
            have HEQ := Lib.hid heq
            clear hd heq
            go_wp2_with (first | (refine wpList_load_g rfl 45 (.tmp 36) rfl b (off + k * 17) rfl (vcells Y) _ HR2.out Tryd.underlying45 rfl HJ.out ?_) | (refine wpList_store_row rfl 45 (.tmp 6) (.tmp 37) rfl wr.heap.size rfl (vcells Y) rfl 45 (HH2.out _ rfl) HJ.out (one_vcells Y) ?_; intro w2 hp2; have L2 : Below wr.heap.size wr w2 := hp2.below ((Below.refl _ _).alloc (Nat.le_refl _) _) (Nat.le_refl _); have B4 := Lib.hid (B3.out.trans (L2.mono B3.out.size)); have RY := Lib.hid (vcells_key (blk_range hp2.blk)); have RX := Lib.hid (range_below RX2.out L2); clear hp2 L2) | (refine wpList_load_g rfl 24 (.tmp 38) rfl wr.heap.size 0 rfl (u8s Y.1) _ RY.out Tryd.underlying24 rfl HJ7.out ?_) | (refine wpList_load_g rfl 24 (.tmp 40) rfl wo.heap.size 0 rfl (u8s X.1) _ RX.out Tryd.underlying24 rfl HI7.out ?_))
            go_ret
            refine ⟨?_, B4.out⟩
            rw [HNO.out (by rw [HOX.out]; exact decide_eq_false (fun h => h.2.2 k hlt2 (by rw [← HY.out]; exact HEQ.out)))]
            rfl
          | false =>
            rw [hd] at hrun
            have heq := of_decide_eq_false hd
            have HEQ := Lib.hid heq
            clear hd heq
            go_wp2_with (first | (refine wpList_load_g rfl 45 (.tmp 36) rfl b (off + k * 17) rfl (vcells Y) _ HR2.out Tryd.underlying45 rfl HJ.out ?_) | (refine wpList_store_row rfl 45 (.tmp 6) (.tmp 37) rfl wr.heap.size rfl (vcells Y) rfl 45 (HH2.out _ rfl) HJ.out (one_vcells Y) ?_; intro w2 hp2; have L2 : Below wr.heap.size wr w2 := hp2.below ((Below.refl _ _).alloc (Nat.le_refl _) _) (Nat.le_refl _); have C4 := Lib.hid (hbel2.out.trans (L2.mono hbel2.out.size)); have RY := Lib.hid (vcells_key (blk_range hp2.blk)); have RX := Lib.hid (range_below RX2.out L2); clear hp2 L2) | (refine wpList_load_g rfl 24 (.tmp 38) rfl wr.heap.size 0 rfl (u8s Y.1) _ RY.out Tryd.underlying24 rfl HJ7.out ?_) | (refine wpList_load_g rfl 24 (.tmp 40) rfl wo.heap.size 0 rfl (u8s X.1) _ RX.out Tryd.underlying24 rfl HI7.out ?_))
            go_roundw
            case rel => exact ⟨k + 1, by omega, by go_num, Lib.hid (fun j hj => by
              by_cases hjk : j = k
              · subst hjk; rw [← HY.out]; exact HEQ.out
              · exact hks.out j (by omega)), C4⟩
            case measure => simp [intOf]; omega
        · obtain rfl : k = i := by omega
          have B3 := Lib.hid bel3
          clear bel3
          go_wp2_with fail
          go_roundw
          case rel => exact ⟨k + 1, by omega, by go_num, Lib.hid (fun j hj => by
            by_cases hjk : j = k
            · subst hjk; rw [HOX.out]; exact decide_eq_true ⟨by omega, by omega, hks.out⟩
            · exact hok.out j (by omega)), B3⟩
          case measure => simp [intOf]; omega
    · obtain rfl : i = n := by omega
      go_wp2_with fail
      go_ret
      exact ⟨by rw [validB_yes vs (by rw [← HN.out]; omega) (by rw [← HN.out]; exact hok.out)]; rfl, hbel.out⟩
end Go.Proofs.YtniknhhejlgdfaaDoor
/- The reference's Sum, Enough, Few for layer 8. -/
namespace Go.Proofs.YtniknhhejlgdfaaDoor
open Go.RowKit Go.Shelf

def refSumV (vs : List Va) (who : List Int) : Int × Int :=
  if validB vs = false then (0, 11) else if inR vs.length who = false then (0, 1) else if ¬ who.Nodup then (0, 17) else ((powAt vs who).sum, 0)

set_option maxHeartbeats 8000000 in
set_option maxRecDepth 100000 in
theorem refSum_any (vs : List Va) (who : List Int) (A A' : Option Addr) (n c m c' : Nat) (w : World) (hv : Vals w (.slice A n c) vs) (hw : Ins w (.slice A' m c') who) (hz : n ≤ 1000000) (hz2 : m ≤ 1000000) :
    Calls Tryd.prog 41 #[.slice A n c, .slice A' m c'] w fun e w' => e = .returned (.tuple #[.int .i64 (refSumV vs who).1, .int .i64 (refSumV vs who).2]) ∧ Below w.heap.size w w' := by
  have HV := Lib.hid hv
  have HW := Lib.hid hw
  have HN := Lib.hid hv.len
  have HM := Lib.hid hw.len
  clear hv hw
  go_enter Tryd.func41, Tryd.ntmps41
  go_wp2_with fail
  refine (vright_any vs A n c w HV.out).mono ?_
  rintro _ w1 ⟨rfl, bel1⟩
  have V1 := Lib.hid (HV.out.below bel1)
  have W1 := Lib.hid (HW.out.below bel1)
  have B1 := Lib.hid bel1
  clear bel1 HV HW
  cases hval : validB vs with
  | false =>
    have HE : Hid (refSumV vs who = (0, 11)) := Lib.hid (by unfold refSumV; rw [if_pos hval])
    clear hval
    go_wp2_with fail
    go_ret2
    exact ⟨by rw [HE.out]; rfl, B1.out⟩
  | true =>
    have HVAL := Lib.hid hval
    clear hval
    go_wp2_with fail
    go_loopw [7, 16] (fun _ k wr => ∃ (i : Nat), i ≤ m ∧ k = .int .i64 i ∧ Hid (∀ j, j < i → 0 ≤ who.getD j 0 ∧ who.getD j 0 < n) ∧ w1 = wr)
      (fun _ k _ => m - (intOf k).toNat)
    case atStart => exact ⟨0, by omega, rfl, Lib.hid (fun j h => absurd h (by omega)), by first | trivial | rfl⟩
    case round =>
      obtain ⟨i, hi, rfl, hin, rfl⟩ := hrel
      by_cases hlt : i < m
      · obtain ⟨b, off, rfl, hb, hr⟩ := W1.out.el i hlt
        have hi1 : i < who.length := by have := HM.out; omega
        obtain ⟨X, hX⟩ : ∃ X, X = who.getD i 0 := ⟨_, rfl⟩
        rw [← hX] at hr
        have HX := Lib.hid hX
        have hil : (i : Int) < m := by omega
        clear hX hb
        by_cases hbad : X < 0 ∨ (n : Int) ≤ X
        · have HE : Hid (refSumV vs who = (0, 1)) := Lib.hid (by
            unfold refSumV
            rw [if_neg (by rw [HVAL.out]; simp), if_pos]
            cases h : inR vs.length who with
            | false => rfl
            | true =>
              have := (inR_iff _ _).1 h X (by rw [HX.out, List.getD_eq_getElem?_getD, List.getElem?_eq_getElem hi1]; exact List.getElem_mem _)
              have := HN.out
              omega)
          by_cases h1 : X < 0
          · go_wp2_with fail
            go_ret2
            exact ⟨by rw [HE.out]; rfl, B1.out⟩
          · have h2 : (n : Int) ≤ X := by omega
            go_wp2_with fail
            go_ret2
            exact ⟨by rw [HE.out]; rfl, B1.out⟩
        · have h1 : ¬ X < 0 := by omega
          have h2 : ¬ (n : Int) ≤ X := by omega
          clear hbad
          go_wp2_with fail
          go_roundw
          case rel => exact ⟨i + 1, by omega, by go_num, Lib.hid (fun j hj => by
            by_cases hji : j = i
            · subst hji; rw [← HX.out]; omega
            · exact hin.out j (by omega)), by first | trivial | rfl⟩
          case measure => simp [intOf]; omega
      · obtain rfl : i = m := by omega
        have hR : inR vs.length who = true := by
          rw [inR_iff]
          intro x hx
          obtain ⟨j, hj, rfl⟩ := List.getElem_of_mem hx
          have := hin.out j (by rw [HM.out]; exact hj)
          rw [List.getD_eq_getElem?_getD, List.getElem?_eq_getElem hj] at this
          rw [← HN.out]
          exact this
        have HR := Lib.hid hR
        have HB := hin
        clear hR hlt hi
        go_wp2_with fail
        go_loopw [8, 9, 10, 31] (fun s _ _ k wr => ∃ (j : Nat) (S : Int), j ≤ i ∧ s = .int .i64 S ∧ k = .int .i64 j ∧ Hid (S = sumW (powAt vs (who.take j))) ∧ Hid ((who.take j).Nodup) ∧ w1 = wr)
          (fun _ _ _ k _ => i - (intOf k).toNat)
        case atStart => exact ⟨0, 0, by omega, rfl, rfl, Lib.hid rfl, Lib.hid (by simp), by first | trivial | rfl⟩
        case round =>
          obtain ⟨j, S, hj, rfl, rfl, hS, hnd, rfl⟩ := hrel
          by_cases hlt : j < i
          · obtain ⟨b, off, rfl, hb, hr⟩ := W1.out.el j hlt
            have hj1 : j < who.length := by have := HM.out; omega
            have hbd := HB.out j hlt
            have hpt := powAt_take vs who j hj1
            obtain ⟨X, hX⟩ : ∃ X, X = who.getD j 0 := ⟨_, rfl⟩
            rw [← hX] at hr hbd hpt
            obtain ⟨x, rfl⟩ : ∃ x : Nat, X = (x : Int) := ⟨X.toNat, by omega⟩
            have hxn : x < n := by omega
            have HX := Lib.hid hX
            have HPT := Lib.hid hpt
            have hil : (j : Int) < i := by omega
            have hxi : (x : Int) < n := by omega
            have hjc : ¬ c' < j := by
              obtain ⟨b', off', c2, e, h1, _⟩ := W1.out.cells (by intro e; rw [e] at hj1; simp at hj1)
              simp only [Value.slice.injEq] at e
              have := HM.out
              omega
            clear hX hb hbd hpt
            go_wp2_with fail
            refine (in_any (who.take j) x (some ⟨b, off, none⟩) j c' w1 (W1.out.take j (by omega)) (by omega)).mono ?_
            rintro _ w1 ⟨rfl, rfl⟩
            cases hd : decide ((x : Int) ∈ who.take j) with
            | true =>
              have HE : Hid (refSumV vs who = (0, 17)) := Lib.hid (by
                unfold refSumV
                rw [if_neg (by rw [HVAL.out]; simp), if_neg (by rw [HR.out]; simp), if_pos]
                exact not_nodup_take hj1 (by rw [← HX.out]; exact of_decide_eq_true hd))
              clear hd
              go_wp2_with fail
              go_ret2
              exact ⟨by rw [HE.out]; rfl, B1.out⟩
            | false =>
              have HND : Hid ((who.take (j + 1)).Nodup) := Lib.hid (nodup_take hj1 hnd.out (by rw [← HX.out]; exact of_decide_eq_false hd))
              clear hd
              obtain ⟨b2, off2, rfl, hb2, hr2⟩ := V1.out.el x hxn
              have hl2 := V1.out.at x (by have := HN.out; omega)
              obtain ⟨Y, hY⟩ : ∃ Y, Y = vs.getD x ([], 0) := ⟨_, rfl⟩
              rw [← hY] at hr2 hl2
              have hpw := vcells_pow hl2 hr2
              have HY := Lib.hid hY
              clear hr2 hl2 hY hb2
              go_wp2_with fail
              go_roundw
              case rel => exact ⟨j + 1, _, by omega, rfl, by go_num, Lib.hid (by rw [HPT.out, sumW_snoc, ← hS.out, show ((x : Int)).toNat = x from rfl, ← HY.out]), HND, by first | trivial | rfl⟩
              case measure => simp [intOf]; omega
          · obtain rfl : j = i := by omega
            have hND : who.Nodup := by
              have := hnd.out
              rwa [List.take_of_length_le (by rw [← HM.out]; exact Nat.le_refl _)] at this
            have hSS : S = (powAt vs who).sum := by
              have := hS.out
              rw [List.take_of_length_le (by rw [← HM.out]; exact Nat.le_refl _)] at this
              rw [this]
              exact (powAt_sum HVAL.out HR.out hND).1
            have HE : Hid (refSumV vs who = (S, 0)) := Lib.hid (by
              unfold refSumV
              rw [if_neg (by rw [HVAL.out]; simp), if_neg (by rw [HR.out]; simp), if_neg (fun h => h hND), ← hSS])
            clear hND hSS
            go_wp2_with fail
            go_ret2
            exact ⟨by rw [HE.out]; rfl, B1.out⟩
end Go.Proofs.YtniknhhejlgdfaaDoor
/- The reference's Enough and Few. -/
namespace Go.Proofs.YtniknhhejlgdfaaDoor
open Go.RowKit Go.Shelf

theorem refSumV_good {vs : List Va} {who : List Int} (h : goodW vs who = true) : refSumV vs who = ((powAt vs who).sum, 0) := by
  obtain ⟨h1, h2, h3⟩ := (goodW_iff _ _).1 h
  unfold refSumV
  rw [if_neg (by rw [h1]; simp), if_neg (by rw [h2]; simp), if_neg (fun hh => hh h3)]
theorem refSumV_bad {vs : List Va} {who : List Int} (h : goodW vs who = false) : ∃ e : Int, refSumV vs who = (0, e) ∧ (e == 0) = false := by
  unfold refSumV
  by_cases h1 : validB vs = false
  · exact ⟨11, by rw [if_pos h1], rfl⟩
  · by_cases h2 : inR vs.length who = false
    · exact ⟨1, by rw [if_neg h1, if_pos h2], rfl⟩
    · by_cases h3 : who.Nodup
      · have := (goodW_iff vs who).2 ⟨by simpa using h1, by simpa using h2, h3⟩
        rw [h] at this; cases this
      · exact ⟨17, by rw [if_neg h1, if_neg h2, if_pos h3], rfl⟩
theorem good_total {vs : List Va} {who : List Int} (h : goodW vs who = true) : sumW (vs.map (·.2)) = total vs := (total_valid ((goodW_iff _ _).1 h).1).2.1
theorem enoughB_eq {vs : List Va} {who : List Int} (h : goodW vs who = true) : enoughB vs who = decide (2 * total vs < 3 * (powAt vs who).sum) := by
  have ht := total_valid ((goodW_iff _ _).1 h).1
  have h1 := ht.2.2.1
  unfold enoughB quorum
  rw [h, Bool.true_and, if_neg (by omega), decide_eq_decide]
  omega
set_option maxHeartbeats 8000000 in
set_option maxRecDepth 100000 in
theorem refEnough_any (vs : List Va) (who : List Int) (A A' : Option Addr) (n c m c' : Nat) (w : World) (hv : Vals w (.slice A n c) vs) (hw : Ins w (.slice A' m c') who) (hz : n ≤ 1000000) (hz2 : m ≤ 1000000) :
    Calls Tryd.prog 24 #[.slice A n c, .slice A' m c'] w fun e w' => e = .returned (.bool (enoughB vs who)) ∧ Below w.heap.size w w' := by
  have HV := Lib.hid hv
  have HW := Lib.hid hw
  clear hv hw
  go_enter Tryd.func24, Tryd.ntmps24
  go_wp2_with fail
  refine (refSum_any vs who A A' n c m c' w HV.out HW.out hz hz2).mono ?_
  rintro _ w1 ⟨rfl, bel1⟩
  have V1 := Lib.hid (HV.out.below bel1)
  have B1 := Lib.hid bel1
  clear bel1
  cases hg : goodW vs who with
  | true =>
    rw [refSumV_good hg]
    have HE := Lib.hid (enoughB_eq hg)
    have HT := Lib.hid (good_total hg)
    obtain ⟨hs1, hs2⟩ := goodW_sum hg
    have ht1 := total_range vs
    obtain ⟨S, hS⟩ : ∃ S, S = (powAt vs who).sum := ⟨_, rfl⟩
    obtain ⟨T, hT⟩ : ∃ T, T = total vs := ⟨_, rfl⟩
    rw [← hS] at HE hs1 hs2 ⊢
    rw [← hT] at HE HT ht1
    obtain ⟨ht2, ht3⟩ := ht1
    have hw1 : IntKind.i64.wrap (3 * S) = 3 * S := by rw [IntKind.wrap_i64]; omega
    have hw2 : IntKind.i64.wrap (2 * T) = 2 * T := by rw [IntKind.wrap_i64]; omega
    clear hg hS hT
    go_wp2_with fail
    refine (refTotal_any vs A n c w1 V1.out hz).mono ?_
    rintro _ w2 ⟨rfl, bel2⟩
    rw [HT.out]
    have B2 := Lib.hid (B1.out.trans (bel2.mono B1.out.size))
    clear bel2
    go_wp2_with fail
    go_ret
    exact ⟨by rw [HE.out]; rfl, B2.out⟩
  | false =>
    obtain ⟨e, he, hne⟩ := refSumV_bad hg
    rw [he]
    have HE : Hid (enoughB vs who = false) := Lib.hid (by unfold enoughB; rw [hg, Bool.false_and])
    clear he hg
    go_wp2_with fail
    go_ret
    exact ⟨by rw [HE.out]; rfl, B1.out⟩

end Go.Proofs.YtniknhhejlgdfaaDoor
