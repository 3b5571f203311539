/- Lemmas that laws of this seat rest on, part 9; each says its own conditions: VCheck, VTot, VPsum, At, VEnough, VRef08, VRef08b, VRefEn, VKit, VPAlive, WStrs, Wr. -/
import Derived.Deep.QuietTactic
import Derived.BigQuiet
import Derived.ProofKit
import Derived.OpenShut
import Derived.Test.YtniknhhejlgdfaaGreatDoorTie
import Derived.Test.YtniknhhejlgdfaaGreatDoorCards
import Derived.LaidMore
import Derived.Stop.Joined
import Derived.Stop.LaidErr
import Derived.SevenTiedAt
import Derived.Laws.Bits64b
import Derived.Laws.Bits64
import Derived.WalkKit
import Derived.WalkSpells
import Derived.Maps.AppendAt
import Derived.Deep.MidRow
import Derived.Deep.AppendSrc
import Derived.Lib.Hide
import Derived.Orders
import Derived.Test.YtniknhhejlgdfaaGreatDoorProg
import Derived.Laws.BytesArg
import Derived.Lib.ConvBytes
import Derived.Lib.SlBytesRow
import Derived.Laws.Cover3
import Derived.Test.YtniknhhejlgdfaaGreatDoorBase2
import Derived.Test.YtniknhhejlgdfaaGreatDoorBase7
import Derived.Test.YtniknhhejlgdfaaGreatDoorBase8
/- Which validators are right: powers.Check. -/
namespace Go.Proofs.YtniknhhejlgdfaaGreatDoor
open Go.RowKit

/-- The sentinels that layer 8 hands out, as they lie. -/
structure Sen (w : World) (aS aR aT : Addr) : Prop where
  s : w.cell? ⟨10, 0, none⟩ = some (.iface 258 (.pointer (some aS)))
  r : w.cell? ⟨0, 0, none⟩ = some (.iface 258 (.pointer (some aR)))
  t : w.cell? ⟨16, 0, none⟩ = some (.iface 258 (.pointer (some aT)))
theorem Sen.below {w w' : World} {aS aR aT : Addr} (h : Sen w aS aR aT) (hb : Below w.heap.size w w') : Sen w' aS aR aT :=
  ⟨cell_on hb h.s, cell_on hb h.r, cell_on hb h.t⟩
def okAt (vs : List Va) (i : Nat) : Bool := decide (1 ≤ (vs.getD i ([], 0)).2 ∧ (vs.getD i ([], 0)).2 ≤ 1099511627776 ∧ findK vs (vs.getD i ([], 0)).1 = i)
/-- Validators are right. -/
def validB (vs : List Va) : Bool := decide (1 ≤ vs.length ∧ vs.length ≤ 7) && (List.range vs.length).all (okAt vs)
theorem validB_no (vs : List Va) (i : Nat) (hi : i < vs.length) (h : okAt vs i = false) : validB vs = false := by
  unfold validB
  rw [show (List.range vs.length).all (okAt vs) = false from ?_, Bool.and_false]
  rw [List.all_eq_false]
  exact ⟨i, by simpa using hi, by simp [h]⟩
theorem validB_len (vs : List Va) (h : ¬ (1 ≤ vs.length ∧ vs.length ≤ 7)) : validB vs = false := by
  unfold validB
  rw [decide_eq_false h, Bool.false_and]
theorem validB_yes (vs : List Va) (h : 1 ≤ vs.length ∧ vs.length ≤ 7) (ha : ∀ i, i < vs.length → okAt vs i = true) : validB vs = true := by
  unfold validB
  rw [decide_eq_true h, Bool.true_and, List.all_eq_true]
  exact fun i hi => ha i (by simpa using hi)
def checkV (vs : List Va) (aS : Addr) : Value := if validB vs then .nilIface else errV aS

set_option maxHeartbeats 4000000 in
set_option maxRecDepth 100000 in
theorem check1_any (vs : List Va) (A : Option Addr) (n c : Nat) (aS : Addr) (w : World) (hv : Vals w (.slice A n c) vs) (hs : w.cell? ⟨10, 0, none⟩ = some (errV aS)) :
    Calls Tryz.prog 32 #[.slice A n c] w fun e w' => e = .returned (checkV vs aS) ∧ Below w.heap.size w w' := by
  have hn := hv.len
  have HV := Lib.hid hv
  have HS := Lib.hid hs
  have HN := Lib.hid hn
  have hc0 := hs
  clear hv hs hn
  go_enter Tryz.func32, Tryz.ntmps32
  by_cases h1 : n < 1
  · have e1 : checkV vs aS = errV aS := by unfold checkV; rw [validB_len vs (by rw [← HN.out]; omega)]; rfl
    have E1 := Lib.hid e1
    clear e1
    have h1' : (n : Int) < 1 := by omega
    go_wp2
    go_ret
    exact ⟨by rw [E1.out]; rfl, Below.refl _ _⟩
  by_cases h2 : 7 < n
  · have e1 : checkV vs aS = errV aS := by unfold checkV; rw [validB_len vs (by rw [← HN.out]; omega)]; rfl
    have E1 := Lib.hid e1
    clear e1
    have h1' : ¬ (n : Int) < 1 := by omega
    have h2' : (7 : Int) < n := by omega
    go_wp2
    go_ret
    exact ⟨by rw [E1.out]; rfl, Below.refl _ _⟩
  have h1' : ¬ (n : Int) < 1 := by omega
  have h2' : ¬ (7 : Int) < n := by omega
  go_wp2
  clear h1' h2'
  go_loopw [16] (fun k wr => ∃ (i : Nat), i ≤ n ∧ k = .int .i64 i ∧ Hid (∀ j, j < i → okAt vs j = true) ∧ Hid (Below w.heap.size w wr))
    (fun k _ => n - (intOf k).toNat)
  case atStart => exact ⟨0, by omega, rfl, Lib.hid (fun j h => absurd h (by omega)), Lib.hid (Below.refl _ _)⟩
  case round =>
    obtain ⟨i, hi, rfl, hok, hbel⟩ := hrel
    have hcw : wr.cell? ⟨10, 0, none⟩ = some (.iface 258 (.pointer (some aS))) := cell_on hbel.out hc0
    by_cases hlt : i < n
    · have hvr := HV.out.below hbel.out
      obtain ⟨b, off, rfl, hb, hr⟩ := hvr.el i hlt
      have hl := HV.out.at i (by rw [← HN.out]; exact hlt)
      obtain ⟨X, hX⟩ : ∃ X, X = vs.getD i ([], 0) := ⟨_, rfl⟩
      have hokx : okAt vs i = decide (1 ≤ X.2 ∧ X.2 ≤ 1099511627776 ∧ findK vs X.1 = i) := by rw [hX]; rfl
      rw [← hX] at hr hl
      have hi39 : (Tryz.prog.info? 90).map (·.size) = some (vcells X).length := by rw [vcells_len X hl]; exact Tryz.size90
      have hi37 : (Tryz.prog.info? 24).map (·.size) = some (u8s X.1).length := by rw [u8s_len', hl]; exact Tryz.size24
      have hh : ∀ Z : Array Value, Z.size = 17 → Has (wr.alloc (.cells Z 90)) wr.heap.size 90 (vcells X).length := fun Z hZ => has_new wr _ _ _ (by rw [hZ, vcells_len X hl])
      have hno : okAt vs i = false → checkV vs aS = errV aS := fun h => by unfold checkV; rw [validB_no vs i (by rw [← HN.out]; exact hlt) h]; rfl
      have HR := Lib.hid hr
      have HL := Lib.hid hl
      have HI := Lib.hid hi39
      have HI7 := Lib.hid hi37
      have HH := Lib.hid hh
      have HVR := Lib.hid hvr
      have HNO := Lib.hid hno
      have HOX := Lib.hid hokx
      clear hr hl hi39 hi37 hh hX hb hvr hno hokx hc0
      have hil : (i : Int) < n := by omega
      by_cases p1 : X.2 < 1
      · go_wp2_with (first | (refine wpList_load_g rfl 90 (.tmp 19) rfl b (off + i * 17) rfl (vcells X) _ HR.out Tryz.underlying90 rfl HI.out ?_) | (refine wpList_store_row rfl 90 (.tmp 4) (.tmp 20) rfl wr.heap.size rfl (vcells X) rfl 90 (HH.out _ rfl) HI.out (one_vcells X) ?_; intro w1 hp1; have L1 : Below wr.heap.size wr w1 := hp1.below ((Below.refl _ _).alloc (Nat.le_refl _) _) (Nat.le_refl _); have B1 := Lib.hid (hbel.out.trans (L1.mono hbel.out.size)); have hpw := vcells_pow HL.out (blk_range hp1.blk); rw [Nat.zero_add] at hpw; have hcw1 := cell_on L1 hcw; clear hp1 L1 hcw))
        go_ret
        refine ⟨?_, B1.out⟩
        rw [HNO.out (by rw [HOX.out]; exact decide_eq_false (fun h => by omega))]
        rfl
      by_cases p2 : 1099511627776 < X.2
      · go_wp2_with (first | (refine wpList_load_g rfl 90 (.tmp 19) rfl b (off + i * 17) rfl (vcells X) _ HR.out Tryz.underlying90 rfl HI.out ?_) | (refine wpList_store_row rfl 90 (.tmp 4) (.tmp 20) rfl wr.heap.size rfl (vcells X) rfl 90 (HH.out _ rfl) HI.out (one_vcells X) ?_; intro w1 hp1; have L1 : Below wr.heap.size wr w1 := hp1.below ((Below.refl _ _).alloc (Nat.le_refl _) _) (Nat.le_refl _); have B1 := Lib.hid (hbel.out.trans (L1.mono hbel.out.size)); have hpw := vcells_pow HL.out (blk_range hp1.blk); rw [Nat.zero_add] at hpw; have hcw1 := cell_on L1 hcw; clear hp1 L1 hcw))
        go_ret
        refine ⟨?_, B1.out⟩
        rw [HNO.out (by rw [HOX.out]; exact decide_eq_false (fun h => by omega))]
        rfl
      go_wp2_with (first | (refine wpList_load_g rfl 90 (.tmp 19) rfl b (off + i * 17) rfl (vcells X) _ HR.out Tryz.underlying90 rfl HI.out ?_) | (refine wpList_store_row rfl 90 (.tmp 4) (.tmp 20) rfl wr.heap.size rfl (vcells X) rfl 90 (HH.out _ rfl) HI.out (one_vcells X) ?_; intro w1 hp1; have L1 : Below wr.heap.size wr w1 := hp1.below ((Below.refl _ _).alloc (Nat.le_refl _) _) (Nat.le_refl _); have B1 := Lib.hid (hbel.out.trans (L1.mono hbel.out.size)); have hpw := vcells_pow HL.out (blk_range hp1.blk); rw [Nat.zero_add] at hpw; have hcw1 := cell_on L1 hcw; have RK := Lib.hid (vcells_key (blk_range hp1.blk)); have V1 := Lib.hid (HVR.out.below L1); clear hp1 L1 hcw) | (refine wpList_load_g rfl 24 (.tmp 31) rfl wr.heap.size 0 rfl (u8s X.1) _ RK.out Tryz.underlying24 rfl HI7.out ?_))
      refine (find_any vs X.1 _ n c HL.out w1 V1.out (by omega)).mono ?_
      rintro _ w2 ⟨rfl, bel2⟩
      have B2 := Lib.hid (B1.out.trans (bel2.mono B1.out.size))
      have hcw2 := cell_on bel2 hcw1
      clear bel2 hcw1 hpw RK V1 B1
      obtain ⟨K, hK⟩ : ∃ K, K = findK vs X.1 := ⟨_, rfl⟩
      rw [← hK] at HOX ⊢
      by_cases hKi : K = i
      · have hne : (K != (i : Int)) = false := by simp [hKi]
        clear hK
        go_wp2
        go_roundw
        case rel => exact ⟨i + 1, by omega, by go_num, Lib.hid (fun j hj => by
          by_cases hji : j = i
          · subst hji; rw [HOX.out]; exact decide_eq_true ⟨by omega, by omega, hKi⟩
          · exact hok.out j (by omega)), B2⟩
        case measure => simp [intOf]; omega
      · have hne : (K != (i : Int)) = true := by simp [hKi]
        clear hK
        go_wp2
        go_ret
        refine ⟨?_, B2.out⟩
        rw [HNO.out (by rw [HOX.out]; exact decide_eq_false (fun h => hKi h.2.2))]
        rfl
    · obtain rfl : i = n := by omega
      go_wp2
      go_ret
      refine ⟨?_, hbel.out⟩
      unfold checkV
      rw [validB_yes vs (by rw [← HN.out]; omega) (by rw [← HN.out]; exact hok.out)]
      rfl
theorem check_any (vs : List Va) (A : Option Addr) (n c : Nat) (aS aR aT : Addr) (w : World) (hv : Vals w (.slice A n c) vs) (hs : Sen w aS aR aT) :
    Calls Tryz.prog 32 #[.slice A n c] w fun e w' => e = .returned (checkV vs aS) ∧ Below w.heap.size w w' := check1_any vs A n c aS w hv hs.s
end Go.Proofs.YtniknhhejlgdfaaGreatDoor
/- What all validators have, and how much is a quorum: powers.Total, powers.Quorum. -/
namespace Go.Proofs.YtniknhhejlgdfaaGreatDoor
open Go.RowKit Go.Shelf

theorem sumW_fold : ∀ (ps : List Int) (s : Int), 0 ≤ s → (∀ p ∈ ps, 0 ≤ p ∧ p ≤ 1099511627776) → s + ps.length * 1099511627776 ≤ 9223372036854775807 →
    ps.foldl (fun s v => wrap64 (s + v)) s = s + ps.sum ∧ s ≤ s + ps.sum ∧ s + ps.sum ≤ s + ps.length * 1099511627776
  | [], s, _, _, _ => by simp
  | p :: ps, s, hs, hp, hb => by
    obtain ⟨h0, h1⟩ := hp p (by simp)
    simp only [List.length_cons, Int.natCast_add, Int.natCast_one, Int.add_mul] at hb
    have hw : wrap64 (s + p) = s + p := by unfold wrap64; omega
    obtain ⟨ih1, ih2, ih3⟩ := sumW_fold ps (s + p) (by omega) (fun q hq => hp q (List.mem_cons_of_mem _ hq)) (by omega)
    simp only [List.foldl_cons, hw, List.sum_cons, List.length_cons, Int.natCast_add, Int.natCast_one, Int.add_mul]
    refine ⟨by rw [ih1]; omega, by omega, by omega⟩
theorem sumW_eq (ps : List Int) (hp : ∀ p ∈ ps, 0 ≤ p ∧ p ≤ 1099511627776) (hl : ps.length ≤ 1000) : sumW ps = ps.sum ∧ 0 ≤ ps.sum ∧ ps.sum ≤ 1099511627776000 := by
  obtain ⟨h1, h2, h3⟩ := sumW_fold ps 0 (Int.le_refl _) hp (by omega)
  refine ⟨by unfold sumW; rw [h1]; omega, by omega, by omega⟩

theorem validB_iff (vs : List Va) : validB vs = true ↔ (1 ≤ vs.length ∧ vs.length ≤ 7) ∧ ∀ i, i < vs.length → (1 ≤ (vs.getD i ([], 0)).2 ∧ (vs.getD i ([], 0)).2 ≤ 1099511627776 ∧ findK vs (vs.getD i ([], 0)).1 = i) := by
  unfold validB okAt
  rw [Bool.and_eq_true, decide_eq_true_iff, List.all_eq_true]
  simp only [List.mem_range, decide_eq_true_iff]
theorem valid_pow {vs : List Va} (h : validB vs = true) : ∀ p ∈ vs.map (·.2), 1 ≤ p ∧ p ≤ 1099511627776 := by
  intro p hp
  rw [List.mem_map] at hp
  obtain ⟨x, hx, rfl⟩ := hp
  obtain ⟨i, hi, rfl⟩ := List.getElem_of_mem hx
  have := ((validB_iff vs).1 h).2 i hi
  rw [List.getD_eq_getElem?_getD, List.getElem?_eq_getElem hi] at this
  exact ⟨this.1, this.2.1⟩
theorem valid_len {vs : List Va} (h : validB vs = true) : 1 ≤ vs.length ∧ vs.length ≤ 7 := ((validB_iff vs).1 h).1

/-- All their power. -/
def total (vs : List Va) : Int := if validB vs then (vs.map (·.2)).sum else 0
theorem total_valid {vs : List Va} (h : validB vs = true) : total vs = (vs.map (·.2)).sum ∧ sumW (vs.map (·.2)) = total vs ∧ 1 ≤ total vs ∧ total vs ≤ 1099511627776000 := by
  have hp := valid_pow h
  obtain ⟨h1, h2, h3⟩ := sumW_eq (vs.map (·.2)) (fun p hp' => by have := hp p hp'; omega) (by have := valid_len h; simp; omega)
  have ht : total vs = (vs.map (·.2)).sum := by unfold total; rw [if_pos h]
  refine ⟨ht, by rw [h1, ht], ?_, by omega⟩
  rw [ht]
  cases hv : vs with
  | nil => have := valid_len h; rw [hv] at this; simp at this
  | cons x xs =>
    rw [hv] at hp
    have h0 : 0 ≤ (xs.map (·.2)).sum := (sumW_eq (xs.map (·.2)) (fun p hp' => by have := hp p (by simp only [List.map_cons, List.mem_cons]; exact .inr hp'); omega) (by have := valid_len h; rw [hv] at this; simp at this ⊢; omega)).2.1
    have := hp x.2 (by simp)
    simp only [List.map_cons, List.sum_cons]
    omega
theorem total_range (vs : List Va) : 0 ≤ total vs ∧ total vs ≤ 1099511627776000 := by
  by_cases h : validB vs = true
  · have := (total_valid h).2.2
    omega
  · unfold total
    rw [if_neg h]
    omega
def quorum (vs : List Va) : Int := if total vs = 0 then 0 else 2 * total vs / 3 + 1

set_option maxHeartbeats 4000000 in
set_option maxRecDepth 100000 in
theorem total_any (vs : List Va) (A : Option Addr) (n c : Nat) (aS aR aT : Addr) (w : World) (hv : Vals w (.slice A n c) vs) (hs : Sen w aS aR aT) (hz : n ≤ 1000000) :
    Calls Tryz.prog 143 #[.slice A n c] w fun e w' => e = .returned (.int .i64 (total vs)) ∧ Below w.heap.size w w' := by
  have bel0 : Below w.heap.size w (w.alloc (.cells #[.slice A n c] 22)) := (Below.refl _ _).alloc (Nat.le_refl _) _
  have hbox := (Boxed.new w 22 (.slice A n c)).cell
  have HV := Lib.hid (hv.below bel0)
  have HS := Lib.hid (hs.below bel0)
  have HB := Lib.hid bel0
  have HBX := Lib.hid hbox
  clear hv hs bel0 hbox
  go_enter Tryz.func143, Tryz.ntmps143
  go_wp2_with fail
  refine (check_any vs A n c aS aR aT _ HV.out HS.out).mono ?_
  rintro _ w1 ⟨rfl, bel1⟩
  have HV1 := Lib.hid (HV.out.below bel1)
  have HBX1 := Lib.hid (cell_on bel1 HBX.out)
  have B1 := Lib.hid (HB.out.trans (bel1.mono HB.out.size))
  clear bel1
  by_cases hval : validB vs = true
  · have hck : checkV vs aS = .nilIface := by unfold checkV; rw [if_pos hval]
    have HT := Lib.hid (total_valid hval).2.1
    rw [hck]
    clear hck
    go_wp2_with fail
    refine (sum_any 159 _ (vs.map (·.2)) n w1 (enters_of Tryz.func159 (by kernel_rfl) rfl) (total1_stops 3 (by omega) w.heap.size A n c vs w1 HBX1.out HV1.out hz)).mono ?_
    rintro _ w2 ⟨rfl, bel2⟩
    have B2 := Lib.hid (B1.out.trans (bel2.mono B1.out.size))
    rw [HT.out]
    clear bel2
    go_wp2
    go_ret
    exact ⟨rfl, B2.out⟩
  · have hck : checkV vs aS = errV aS := by unfold checkV; rw [if_neg hval]
    have HT : Hid (total vs = 0) := Lib.hid (by unfold total; rw [if_neg hval])
    rw [hck]
    clear hck
    go_wp2
    go_ret
    exact ⟨by rw [HT.out]; rfl, B1.out⟩

set_option maxHeartbeats 4000000 in
set_option maxRecDepth 100000 in
theorem quorum_any (vs : List Va) (A : Option Addr) (n c : Nat) (aS aR aT : Addr) (w : World) (hv : Vals w (.slice A n c) vs) (hs : Sen w aS aR aT) (hz : n ≤ 1000000) :
    Calls Tryz.prog 108 #[.slice A n c] w fun e w' => e = .returned (.int .i64 (quorum vs)) ∧ Below w.heap.size w w' := by
  have HV := Lib.hid hv
  have HS := Lib.hid hs
  clear hv hs
  go_enter Tryz.func108, Tryz.ntmps108
  go_wp2_with fail
  refine (total_any vs A n c aS aR aT w HV.out HS.out hz).mono ?_
  rintro _ w1 ⟨rfl, bel1⟩
  obtain ⟨h0, h1⟩ := total_range vs
  have hq : quorum vs = if total vs = 0 then 0 else 2 * total vs / 3 + 1 := rfl
  obtain ⟨T, hT⟩ : ∃ T, T = total vs := ⟨_, rfl⟩
  rw [← hT] at h0 h1 hq ⊢
  have HQ := Lib.hid hq
  have B1 := Lib.hid bel1
  clear hT hq bel1
  by_cases hz0 : T = 0
  · subst hz0
    go_wp2
    go_ret
    exact ⟨by rw [HQ.out]; rfl, B1.out⟩
  · have hb : (T == 0) = false := by simp [hz0]
    have hm : IntKind.i64.wrap (2 * T) = 2 * T := by rw [IntKind.wrap_i64]; omega
    go_wp2
    go_ret
    refine ⟨?_, B1.out⟩
    rw [HQ.out, if_neg hz0]
    rfl
end Go.Proofs.YtniknhhejlgdfaaGreatDoor
/- What some validators have, whether they are a quorum, or few: powers.Sum, powers.Enough, powers.Few. -/
namespace Go.Proofs.YtniknhhejlgdfaaGreatDoor
open Go.RowKit Go.Shelf

theorem bel_drewN {B : Nat} {a w : World} (h : Below B a w) (n : Nat) : Below B a (w.drewN n) := h.trans ⟨rfl, rfl, rfl, Nat.le_refl _, fun _ _ => rfl⟩

def inR (n : Nat) (who : List Int) : Bool := who.all fun i => decide (0 ≤ i ∧ i < n)
theorem inR_iff (n : Nat) (who : List Int) : inR n who = true ↔ ∀ i ∈ who, 0 ≤ i ∧ i < n := by
  unfold inR
  simp only [List.all_eq_true, decide_eq_true_iff]
/-- What powers.Sum answers. -/
def sumV (vs : List Va) (who : List Int) (aS aR aT : Addr) : Value :=
  if validB vs = false then .tuple #[.int .i64 0, errV aS]
  else if inR vs.length who = false then .tuple #[.int .i64 0, errV aR]
  else if ¬ who.Nodup then .tuple #[.int .i64 0, errV aT]
  else .tuple #[.int .i64 (powAt vs who).sum, .nilIface]
def goodW (vs : List Va) (who : List Int) : Bool := validB vs && inR vs.length who && decide who.Nodup

theorem powAt_range {vs : List Va} {who : List Int} (hv : validB vs = true) (hr : inR vs.length who = true) : ∀ p ∈ powAt vs who, 1 ≤ p ∧ p ≤ 1099511627776 := by
  intro p hp
  unfold powAt at hp
  rw [List.mem_map] at hp
  obtain ⟨x, hx, rfl⟩ := hp
  have := (inR_iff _ _).1 hr x hx
  have := ((validB_iff vs).1 hv).2 x.toNat (by omega)
  exact ⟨this.1, this.2.1⟩
theorem nodup_le : ∀ (n : Nat) (l : List Int), (∀ i ∈ l, 0 ≤ i ∧ i < (n : Int)) → l.Nodup → l.length ≤ n
  | 0, [], _, _ => Nat.le_refl _
  | 0, x :: l, h, _ => by have := h x (by simp); omega
  | n + 1, l, h, hd => by
    have ih := nodup_le n (l.erase (n : Int)) (fun i hi => by
      have hm := List.mem_of_mem_erase hi
      have hne : i ≠ n := (hd.mem_erase_iff.1 hi).1
      have := h i hm
      omega) (hd.erase _)
    have : l.length ≤ (l.erase (n : Int)).length + 1 := by rw [List.length_erase]; split <;> omega
    omega
theorem nodup_len {n : Nat} {who : List Int} (hr : inR n who = true) (hd : who.Nodup) : who.length ≤ n := nodup_le n who ((inR_iff _ _).1 hr) hd
theorem powAt_sum {vs : List Va} {who : List Int} (hv : validB vs = true) (hr : inR vs.length who = true) (hd : who.Nodup) : sumW (powAt vs who) = (powAt vs who).sum ∧ 0 ≤ (powAt vs who).sum ∧ (powAt vs who).sum ≤ 1099511627776000 := by
  refine sumW_eq _ (fun p hp => by have := powAt_range hv hr p hp; omega) ?_
  have := nodup_len hr hd
  have := valid_len hv
  unfold powAt
  rw [List.length_map]
  omega

theorem nodup_take {who : List Int} {k : Nat} (hk : k < who.length) (h : (who.take k).Nodup) (hn : who.getD k 0 ∉ who.take k) : (who.take (k + 1)).Nodup := by
  rw [List.take_succ_eq_append_getElem hk, List.nodup_append]
  rw [List.getD_eq_getElem?_getD, List.getElem?_eq_getElem hk] at hn
  refine ⟨h, by simp, ?_⟩
  intro a ha b hb e
  simp at hb
  subst hb
  subst e
  exact hn ha
theorem not_nodup_take {who : List Int} {k : Nat} (hk : k < who.length) (hn : who.getD k 0 ∈ who.take k) : ¬ who.Nodup := by
  intro h
  have h2 : (who.take (k + 1)).Nodup := h.sublist (List.take_sublist _ _)
  rw [List.take_succ_eq_append_getElem hk, List.nodup_append] at h2
  rw [List.getD_eq_getElem?_getD, List.getElem?_eq_getElem hk] at hn
  exact h2.2.2 _ hn _ (by simp) rfl

set_option maxHeartbeats 4000000 in
set_option maxRecDepth 100000 in
theorem psum_any (vs : List Va) (who : List Int) (A A' : Option Addr) (n c m c' : Nat) (aS aR aT : Addr) (w : World) (hv : Vals w (.slice A n c) vs) (hw : Ins w (.slice A' m c') who) (hs : Sen w aS aR aT) (hz : n ≤ 1000000) (hz2 : m ≤ 1000000) :
    Calls Tryz.prog 107 #[.slice A n c, .slice A' m c'] w fun e w' => e = .returned (sumV vs who aS aR aT) ∧ Below w.heap.size w w' := by
  have bel0 : Below w.heap.size w ((w.alloc (.cells #[.slice A n c] 22)).alloc (.cells #[.slice A' m c'] 149)) := ((Below.refl _ _).alloc (Nat.le_refl _) _).alloc (by simp) _
  have hbox := ((Boxed.new w 22 (.slice A n c)).alloc (.cells #[.slice A' m c'] 149)).cell
  have hbox2 := (Boxed.new (w.alloc (.cells #[.slice A n c] 22)) 149 (.slice A' m c')).cell
  rw [World.size_alloc] at hbox2
  have HV := Lib.hid (hv.below bel0)
  have HW := Lib.hid (hw.below bel0)
  have HS := Lib.hid (hs.below bel0)
  have HB := Lib.hid bel0
  have HN := Lib.hid hv.len
  have HN2 := Lib.hid hw.len
  clear hv hs hw bel0
  go_enter Tryz.func107, Tryz.ntmps107
  go_wp2_with fail
  refine (check_any vs A n c aS aR aT _ HV.out HS.out).mono ?_
  rintro _ w1 ⟨rfl, bel1⟩
  have HV1 := Lib.hid (HV.out.below bel1)
  have HW1 := Lib.hid (HW.out.below bel1)
  have HS1 := Lib.hid (HS.out.below bel1)
  have hb1 := cell_on bel1 hbox
  have hb2 := cell_on bel1 hbox2
  have B1 := Lib.hid (HB.out.trans (bel1.mono HB.out.size))
  clear bel1 hbox hbox2 HV HW HS HB
  by_cases hval : validB vs = true
  · have hck : checkV vs aS = .nilIface := by unfold checkV; rw [if_pos hval]
    rw [hck]
    clear hck
    go_wp2_with fail
    go_loopw [18] (fun k wr => ∃ (i : Nat), i ≤ m ∧ k = .int .i64 i ∧ Hid (inR n (who.take i) = true) ∧ w1 = wr)
      (fun k _ => m - (intOf k).toNat)
    case atStart => exact ⟨0, by omega, rfl, Lib.hid rfl, rfl⟩
    case round =>
      obtain ⟨i, hi, rfl, hok, rfl⟩ := hrel
      by_cases hlt : i < m
      · have hil : (i : Int) < m := by omega
        obtain ⟨b, off, rfl, hb, hr⟩ := HW1.out.el i hlt
        have hlen : i < who.length := by rw [← HN2.out]; exact hlt
        have htk : who.take (i + 1) = who.take i ++ [who.getD i 0] := by rw [List.take_succ_eq_append_getElem hlen]; simp [List.getD_eq_getElem?_getD, hlen]
        have hmem : who.getD i 0 ∈ who := by rw [List.getD_eq_getElem?_getD, List.getElem?_eq_getElem hlen]; exact List.getElem_mem _
        obtain ⟨z, hzz⟩ : ∃ z, z = who.getD i 0 := ⟨_, rfl⟩
        rw [← hzz] at hr htk hmem
        have hno : ¬ (0 ≤ z ∧ z < (n : Int)) → sumV vs who aS aR aT = .tuple #[.int .i64 0, errV aR] := fun h => by
          unfold sumV
          rw [if_neg (by rw [hval]; simp), if_pos]
          rw [Bool.eq_false_iff]
          intro hh
          have := (inR_iff _ _).1 hh z hmem
          rw [← HN.out] at this
          exact h this
        have HNO := Lib.hid hno
        have HTK := Lib.hid htk
        clear hno htk hmem hzz hb hlen
        have her : w1.cell? ⟨0, 0, none⟩ = some (.iface 258 (.pointer (some aR))) := HS1.out.r
        by_cases p1 : z < 0
        · go_wp2
          go_quiet (fail)
          go_wp2
          go_ret2
          refine ⟨?_, bel_drewN B1.out _⟩
          rw [HNO.out (by omega)]
          rfl
        by_cases p2 : (n : Int) ≤ z
        · go_wp2
          go_quiet (fail)
          go_wp2
          go_ret2
          refine ⟨?_, bel_drewN B1.out _⟩
          rw [HNO.out (by omega)]
          rfl
        go_wp2
        go_roundw
        case rel =>
          refine ⟨i + 1, by omega, by go_num, Lib.hid ?_, trivial⟩
          rw [HTK.out]
          have := hok.out
          unfold inR at this ⊢
          rw [List.all_append, this]
          simp
          omega
        case measure => simp [intOf]; omega
      · obtain rfl : i = m := by omega
        have hin : inR n who = true := by have := hok.out; rwa [HN2.out, List.take_length] at this
        have HIN := Lib.hid hin
        clear hin hok
        go_wp2_with fail
        go_loopw [34] (fun k wr => ∃ (j : Nat), j ≤ i ∧ k = .int .i64 j ∧ Hid ((who.take j).Nodup) ∧ w1 = wr)
          (fun k _ => i - (intOf k).toNat)
        case atStart => exact ⟨0, by omega, rfl, Lib.hid (by simp), rfl⟩
        case round =>
          obtain ⟨j, hj, rfl, hnd, rfl⟩ := hrel
          by_cases hlt2 : j < i
          · have hil : (j : Int) < i := by omega
            obtain ⟨b, off, rfl, hb, hr⟩ := HW1.out.el j hlt2
            have hlen : j < who.length := by rw [← HN2.out]; exact hlt2
            have hcap : (j : Int) ≤ c' := by
              obtain ⟨_, _, c2, e, h1, _⟩ := HW1.out.cells (by intro e; rw [e] at hlen; simp at hlen)
              simp only [Value.slice.injEq] at e
              omega
            have hI := Lib.hid (HW1.out.take j hj)
            have hyes : who.getD j 0 ∉ who.take j → (who.take (j + 1)).Nodup := nodup_take hlen hnd.out
            have hnot : who.getD j 0 ∈ who.take j → ¬ who.Nodup := not_nodup_take hlen
            obtain ⟨z, hzz⟩ : ∃ z, z = who.getD j 0 := ⟨_, rfl⟩
            rw [← hzz] at hr hyes hnot
            have HY := Lib.hid hyes
            have HNT := Lib.hid hnot
            clear hyes hnot hzz hb hlen
            have het : w1.cell? ⟨16, 0, none⟩ = some (.iface 258 (.pointer (some aT))) := HS1.out.t
            go_wp2_with fail
            refine (containsI_any (who.take j) z _ j c' w1 hI.out (by omega)).mono ?_
            rintro _ w2 ⟨rfl, rfl⟩
            by_cases hm : z ∈ who.take j
            · rw [decide_eq_true hm]
              go_wp2
              go_quiet (fail)
              go_wp2
              go_ret2
              refine ⟨?_, bel_drewN B1.out _⟩
              unfold sumV
              rw [if_neg (by rw [hval]; simp), if_neg (by rw [← HN.out, HIN.out]; simp), if_pos (HNT.out hm)]
              rfl
            · rw [decide_eq_false hm]
              go_wp2
              go_roundw
              case rel => exact ⟨j + 1, by omega, by go_num, Lib.hid (HY.out hm), trivial⟩
              case measure => simp [intOf]; omega
          · obtain rfl : j = i := by omega
            have hdd : who.Nodup := by have := hnd.out; rwa [HN2.out, List.take_length] at this
            have hsum := (powAt_sum hval (by rw [← HN.out]; exact HIN.out) hdd).1
            have HD := Lib.hid hdd
            have HSM := Lib.hid hsum
            have hin2 := (inR_iff n who).1 HIN.out
            clear hdd hsum hnd
            go_wp2_with fail
            refine (sum_any 142 _ (powAt vs who) j w1 (enters_of Tryz.func142 (by kernel_rfl) rfl) (some1_stops 3 (by omega) (w.heap.size + 1) w.heap.size A A' n c j c' vs who w1 hb2 hb1 HV1.out HW1.out hin2 hz2)).mono ?_
            rintro _ w2 ⟨rfl, bel2⟩
            have B2 := Lib.hid (B1.out.trans (bel2.mono B1.out.size))
            rw [HSM.out]
            clear bel2 hin2
            go_wp2
            go_ret2
            refine ⟨?_, B2.out⟩
            unfold sumV
            rw [if_neg (by rw [hval]; simp), if_neg (by rw [← HN.out, HIN.out]; simp), if_neg (fun h => h HD.out)]
            rfl
  · have hck : checkV vs aS = errV aS := by unfold checkV; rw [if_neg hval]
    rw [hck]
    clear hck
    go_wp2
    go_ret2
    refine ⟨?_, B1.out⟩
    unfold sumV
    rw [if_pos (by simpa using hval)]
    rfl
end Go.Proofs.YtniknhhejlgdfaaGreatDoor
/- What a ground asks of an epoch and a round; errors by their numbers. -/
namespace Go.Proofs.YtniknhhejlgdfaaGreatDoor
open Go.RowKit

/-- An error by its number; 0: none. -/
def errN (al : List Addr) : Nat → Value
  | 0 => .nilIface
  | k + 1 => match al[k]? with
    | some a => errV a
    | none => .nilIface
theorem errN_at {al : List Addr} {k : Nat} {a : Addr} (h : al[k]? = some a) : errN al (k + 1) = errV a := by simp only [errN, h]
theorem SenN.at {w : World} {al : List Addr} (h : SenN w al) (k : Nat) (hk : k < 18) : ∃ a, al[k]? = some a := ⟨_, List.getElem?_eq_getElem (by rw [h.len]; exact hk)⟩

set_option maxHeartbeats 4000000 in
theorem num_any (al : List Addr) (n : Nat) (hn : n ≤ 18) (w : World) (h : SenN w al) :
    Calls Tryz.prog 10 #[errN al n] w fun e w' => e = .returned (.int .i64 n) ∧ Below w.heap.size w w' := by
  cases n with
  | zero => exact (num_nil w).mono fun e w' h => ⟨h.1, by rw [h.2]; exact Below.refl _ _⟩
  | succ k =>
    obtain ⟨a, ha⟩ := h.at k (by omega)
    rw [errN_at ha]
    exact (num_err al k a w h ha).mono fun e w' h => ⟨by rw [h.1]; simp, h.2⟩

/-- A ground as it lies. -/
def gndC (e : Int) (v : Value) (gen : List Int) : List Value := [.int .i64 e, v] ++ u8s gen
def gndV (e : Int) (v : Value) (gen : List Int) : Value := .agg (gndC e v gen).toArray
/-- What is asked of a ground, an epoch and a round. -/
def beginN (vs : List Va) (e ep r least : Int) : Nat :=
  if validB vs = false then 11 else if ep ≠ e then 18 else if r < least ∨ 1099511627776 < r then 14 else 0
theorem beginN_le (vs : List Va) (e ep r least : Int) : beginN vs e ep r least ≤ 18 := by unfold beginN; split <;> (try split) <;> (try split) <;> omega

theorem gnd_len (e : Int) (v : Value) (gen : List Int) (hg : gen.length = 16) : (gndC e v gen).length = 18 := by simp [gndC, u8s_len', hg]
theorem gnd_0 {w : World} {b t : Nat} {e : Int} {v : Value} {gen : List Int} (h : w.heap[b]? = some (.cells (gndC e v gen).toArray t (0, 0))) : w.cell? ⟨b, 0, none⟩ = some (.int .i64 e) := blk_cell h 0 _ rfl
theorem gnd_1 {w : World} {b t : Nat} {e : Int} {v : Value} {gen : List Int} (h : w.heap[b]? = some (.cells (gndC e v gen).toArray t (0, 0))) : w.cell? ⟨b, 1, none⟩ = some v := blk_cell h 1 _ rfl
theorem gnd_2 {w : World} {b t : Nat} {e : Int} {v : Value} {gen : List Int} (h : w.heap[b]? = some (.cells (gndC e v gen).toArray t (0, 0))) : w.rangeAt b 2 (u8s gen) := fun j u hu => blk_cell h (2 + j) u (by
  unfold gndC
  rw [List.getElem?_append_right (by simp)]
  simpa using hu)

set_option maxHeartbeats 4000000 in
set_option maxRecDepth 100000 in
theorem at_any (e : Int) (vs : List Va) (A : Option Addr) (n c : Nat) (gen : List Int) (ep r least : Int) (al : List Addr) (w : World) (hv : Vals w (.slice A n c) vs) (hs : SenN w al) :
    Calls Tryz.prog 46 #[gndV e (.slice A n c) gen, .int .i64 ep, .int .i64 r, .int .i64 least] w fun x w' => x = .returned (errN al (beginN vs e ep r least)) ∧ Below w.heap.size w w' := by
  have b0 : Below w.heap.size w (w.alloc (.cells (gndC e (.slice A n c) gen).toArray 26)) := (Below.refl _ _).alloc (Nat.le_refl _) _
  have h0 := heap_alloc_new w (.cells (gndC e (.slice A n c) gen).toArray 26)
  have HV := Lib.hid (hv.below b0)
  have HS := Lib.hid (hs.below b0)
  have B0 := Lib.hid b0
  have c0 := gnd_0 h0
  have c1 := gnd_1 h0
  obtain ⟨aS, iS⟩ := hs.at 10 (by omega)
  obtain ⟨aE, iE⟩ := hs.at 17 (by omega)
  obtain ⟨aO, iO⟩ := hs.at 13 (by omega)
  have IS := Lib.hid iS
  have IE := Lib.hid iE
  have IO := Lib.hid iO
  have CS := Lib.hid (HS.out.cell 10 10 aS rfl iS)
  have CE := Lib.hid (HS.out.cell 17 17 aE rfl iE)
  have CO := Lib.hid (HS.out.cell 13 13 aO rfl iO)
  clear b0 hv hs iS iE iO h0
  unfold gndV
  go_enter Tryz.func46, Tryz.ntmps46
  go_wp2_with fail
  refine (check1_any vs A n c aS _ HV.out CS.out).mono ?_
  rintro _ w1 ⟨rfl, hb1⟩
  have B1 := Lib.hid (B0.out.trans (hb1.mono B0.out.size))
  have d0 := cell_on hb1 c0
  have d1 := cell_on hb1 c1
  have cs := cell_on hb1 CS.out
  have ce := cell_on hb1 CE.out
  have co := cell_on hb1 CO.out
  clear hb1 c0 c1 CS CE CO
  by_cases hval : validB vs = true
  case neg =>
    have hck : checkV vs aS = errV aS := by unfold checkV; rw [if_neg hval]
    have HB : Hid (errN al (beginN vs e ep r least) = errV aS) := Lib.hid (by unfold beginN; rw [if_pos (by simpa using hval)]; exact errN_at IS.out)
    rw [hck]
    clear hck
    go_wp2
    go_ret
    exact ⟨by rw [HB.out]; rfl, B1.out⟩
  have hck : checkV vs aS = .nilIface := by unfold checkV; rw [if_pos hval]
  rw [hck]
  clear hck
  by_cases hep : ep = e
  case neg =>
    have HB : Hid (errN al (beginN vs e ep r least) = errV aE) := Lib.hid (by unfold beginN; rw [if_neg (by simp [hval]), if_pos hep]; exact errN_at IE.out)
    have hep' : (ep != e) = true := by simpa using hep
    go_wp2
    go_ret
    exact ⟨by rw [HB.out]; rfl, B1.out⟩
  have hep' : (ep != e) = false := by simpa using hep
  by_cases hlo : r < least
  · have HB : Hid (errN al (beginN vs e ep r least) = errV aO) := Lib.hid (by unfold beginN; rw [if_neg (by simp [hval]), if_neg (by simp [hep]), if_pos (.inl hlo)]; exact errN_at IO.out)
    clear hep
    go_wp2
    go_ret
    exact ⟨by rw [HB.out]; rfl, B1.out⟩
  by_cases hhi : 1099511627776 < r
  · have HB : Hid (errN al (beginN vs e ep r least) = errV aO) := Lib.hid (by unfold beginN; rw [if_neg (by simp [hval]), if_neg (by simp [hep]), if_pos (.inr hhi)]; exact errN_at IO.out)
    clear hep
    go_wp2
    go_ret
    exact ⟨by rw [HB.out]; rfl, B1.out⟩
  have HB : Hid (errN al (beginN vs e ep r least) = .nilIface) := Lib.hid (by unfold beginN; rw [if_neg (by simp [hval]), if_neg (by simp [hep]), if_neg (by omega)]; rfl)
  clear hep
  go_wp2
  go_ret
  exact ⟨by rw [HB.out]; rfl, B1.out⟩
end Go.Proofs.YtniknhhejlgdfaaGreatDoor
/- Whether some validators are a quorum, or few: powers.Enough, powers.Few. -/
namespace Go.Proofs.YtniknhhejlgdfaaGreatDoor
open Go.RowKit Go.Shelf

theorem goodW_iff (vs : List Va) (who : List Int) : goodW vs who = true ↔ validB vs = true ∧ inR vs.length who = true ∧ who.Nodup := by
  unfold goodW
  rw [Bool.and_eq_true, Bool.and_eq_true, decide_eq_true_iff, and_assoc]
theorem sumV_good {vs : List Va} {who : List Int} (aS aR aT : Addr) (h : goodW vs who = true) : sumV vs who aS aR aT = .tuple #[.int .i64 (powAt vs who).sum, .nilIface] := by
  obtain ⟨h1, h2, h3⟩ := (goodW_iff _ _).1 h
  unfold sumV
  rw [if_neg (by rw [h1]; simp), if_neg (by rw [h2]; simp), if_neg (fun h => h h3)]
theorem sumV_bad {vs : List Va} {who : List Int} (aS aR aT : Addr) (h : goodW vs who = false) : ∃ a, sumV vs who aS aR aT = .tuple #[.int .i64 0, errV a] := by
  unfold sumV
  split
  · exact ⟨_, rfl⟩
  · rename_i h1
    split
    · exact ⟨_, rfl⟩
    · rename_i h2
      split
      · exact ⟨_, rfl⟩
      · rename_i h3
        have : goodW vs who = true := (goodW_iff _ _).2 ⟨by simpa using h1, by simpa using h2, by simpa using h3⟩
        rw [h] at this
        cases this
theorem goodW_sum {vs : List Va} {who : List Int} (h : goodW vs who = true) : 0 ≤ (powAt vs who).sum ∧ (powAt vs who).sum ≤ 1099511627776000 := by
  obtain ⟨h1, h2, h3⟩ := (goodW_iff _ _).1 h
  exact (powAt_sum h1 h2 h3).2

def enoughB (vs : List Va) (who : List Int) : Bool := goodW vs who && decide (quorum vs ≤ (powAt vs who).sum)
set_option maxHeartbeats 4000000 in
set_option maxRecDepth 100000 in
theorem enough_any (vs : List Va) (who : List Int) (A A' : Option Addr) (n c m c' : Nat) (aS aR aT : Addr) (w : World) (hv : Vals w (.slice A n c) vs) (hw : Ins w (.slice A' m c') who) (hs : Sen w aS aR aT) (hz : n ≤ 1000000) (hz2 : m ≤ 1000000) :
    Calls Tryz.prog 85 #[.slice A n c, .slice A' m c'] w fun e w' => e = .returned (.bool (enoughB vs who)) ∧ Below w.heap.size w w' := by
  have HV := Lib.hid hv
  have HW := Lib.hid hw
  have HS := Lib.hid hs
  clear hv hw hs
  go_enter Tryz.func85, Tryz.ntmps85
  go_wp2_with fail
  refine (psum_any vs who A A' n c m c' aS aR aT w HV.out HW.out HS.out hz hz2).mono ?_
  rintro _ w1 ⟨rfl, bel1⟩
  have HV1 := Lib.hid (HV.out.below bel1)
  have HS1 := Lib.hid (HS.out.below bel1)
  have B1 := Lib.hid bel1
  clear bel1
  cases hg : goodW vs who with
  | true =>
    rw [sumV_good aS aR aT hg]
    have hE : enoughB vs who = decide (quorum vs ≤ (powAt vs who).sum) := by unfold enoughB; rw [hg, Bool.true_and]
    obtain ⟨S, hS⟩ : ∃ S, S = (powAt vs who).sum := ⟨_, rfl⟩
    rw [← hS] at hE ⊢
    have HE := Lib.hid hE
    clear hE hg hS
    go_wp2_with fail
    refine (quorum_any vs A n c aS aR aT w1 HV1.out HS1.out hz).mono ?_
    rintro _ w2 ⟨rfl, bel2⟩
    have B2 := Lib.hid (B1.out.trans (bel2.mono B1.out.size))
    obtain ⟨K, hK⟩ : ∃ K, K = quorum vs := ⟨_, rfl⟩
    rw [← hK] at HE ⊢
    clear bel2 hK
    go_wp2
    go_ret
    exact ⟨by rw [HE.out]; rfl, B2.out⟩
  | false =>
    obtain ⟨a, ha⟩ := sumV_bad aS aR aT hg
    rw [ha]
    have hE : enoughB vs who = false := by unfold enoughB; rw [hg, Bool.false_and]
    have HE := Lib.hid hE
    clear hE hg ha
    go_wp2
    go_ret
    exact ⟨by rw [HE.out]; rfl, B1.out⟩

end Go.Proofs.YtniknhhejlgdfaaGreatDoor
/- The reference's answers for layer 8: In, Right, Total, Sum, Enough, Few. -/
namespace Go.Proofs.YtniknhhejlgdfaaGreatDoor
open Go.RowKit Go.Shelf

set_option maxHeartbeats 4000000 in
set_option maxRecDepth 100000 in
theorem in_any (xs : List Int) (z : Int) (A : Option Addr) (n c : Nat) (w : World) (hv : Ins w (.slice A n c) xs) (hz : n ≤ 1000000) :
    Calls Tryz.prog 115 #[.slice A n c, .int .i64 z] w fun e w' => e = .returned (.bool (decide (z ∈ xs))) ∧ w' = w := by
  have HV := Lib.hid hv
  have HN := Lib.hid hv.len
  clear hv
  go_enter Tryz.func115, Tryz.ntmps115
  go_wp2
  go_loopw [6, 9] (fun _ k wr => ∃ (i : Nat), i ≤ n ∧ k = .int .i64 i ∧ Hid (z ∉ xs.take i) ∧ w = wr)
    (fun _ k _ => n - (intOf k).toNat)
  case atStart => exact ⟨0, by omega, rfl, Lib.hid (by simp), by first | trivial | rfl⟩
  case round =>
    obtain ⟨i, hi, rfl, hne, rfl⟩ := hrel
    by_cases hlt : i < n
    · obtain ⟨b, off, rfl, hb, hr⟩ := HV.out.el i hlt
      have hi1 : i < xs.length := by have := HN.out; omega
      obtain ⟨X, hX⟩ : ∃ X, X = xs.getD i 0 := ⟨_, rfl⟩
      have hxm : X ∈ xs := by rw [hX, List.getD_eq_getElem?_getD, List.getElem?_eq_getElem hi1]; exact List.getElem_mem _
      have htk : xs.take (i + 1) = xs.take i ++ [X] := by rw [List.take_succ_eq_append_getElem hi1, hX]; simp [List.getD_eq_getElem?_getD, hi1]
      rw [← hX] at hr
      have HXM := Lib.hid hxm
      have HTK := Lib.hid htk
      have hil : (i : Int) < n := by omega
      clear hX hxm htk
      by_cases he : X = z
      · have hb1 : (X == z) = true := by simp [he]
        have hd : decide (z ∈ xs) = true := decide_eq_true (by rw [← he]; exact HXM.out)
        have HD := Lib.hid hd
        clear hd
        go_wp2_with fail
        go_ret
        exact ⟨by rw [HD.out]; rfl, rfl⟩
      · have hb1 : (X == z) = false := by simp [he]
        go_wp2_with fail
        go_roundw
        case rel => exact ⟨i + 1, by omega, by go_num, Lib.hid (by
          rw [HTK.out]
          intro hm
          rcases List.mem_append.1 hm with hm | hm
          · exact hne.out hm
          · simp at hm; exact he hm.symm), by first | trivial | rfl⟩
        case measure => simp [intOf]; omega
    · obtain rfl : i = n := by omega
      have hd : decide (z ∈ xs) = false := decide_eq_false (by
        have := hne.out
        rwa [List.take_of_length_le (by rw [← HN.out]; exact Nat.le_refl _)] at this)
      have HD := Lib.hid hd
      clear hd
      go_wp2_with fail
      go_ret
      exact ⟨by rw [HD.out]; rfl, rfl⟩

set_option maxHeartbeats 4000000 in
set_option maxRecDepth 100000 in
theorem refTotal_any (vs : List Va) (A : Option Addr) (n c : Nat) (w : World) (hv : Vals w (.slice A n c) vs) (hz : n ≤ 1000000) :
    Calls Tryz.prog 95 #[.slice A n c] w fun e w' => e = .returned (.int .i64 (sumW (vs.map (·.2)))) ∧ Below w.heap.size w w' := by
  have HV := Lib.hid hv
  have HN := Lib.hid hv.len
  clear hv
  go_enter Tryz.func95, Tryz.ntmps95
  go_wp2
  go_loopw [3, 8] (fun s k wr => ∃ (i : Nat) (S : Int), i ≤ n ∧ s = .int .i64 S ∧ k = .int .i64 i ∧ Hid (S = sumW ((vs.take i).map (·.2))) ∧ Hid (Below w.heap.size w wr))
    (fun _ k _ => n - (intOf k).toNat)
  case atStart => exact ⟨0, 0, by omega, rfl, rfl, Lib.hid rfl, Lib.hid (Below.refl _ _)⟩
  case round =>
    obtain ⟨i, S, hi, rfl, rfl, hS, hbel⟩ := hrel
    by_cases hlt : i < n
    · obtain ⟨b, off, rfl, hb, hr⟩ := (HV.out.below hbel.out).el i hlt
      have hi1 : i < vs.length := by have := HN.out; omega
      have hl := HV.out.at i hi1
      have htk := powers_take vs i hi1
      obtain ⟨X, hX⟩ : ∃ X, X = vs.getD i ([], 0) := ⟨_, rfl⟩
      rw [← hX] at hr hl htk
      have hi39 : (Tryz.prog.info? 90).map (·.size) = some (vcells X).length := by rw [vcells_len X hl]; exact Tryz.size90
      have hh : ∀ Z : Array Value, Z.size = 17 → Has (wr.alloc (.cells Z 90)) wr.heap.size 90 (vcells X).length := fun Z hZ => has_new wr _ _ _ (by rw [hZ, vcells_len X hl])
      have HR := Lib.hid hr
      have HL := Lib.hid hl
      have HI := Lib.hid hi39
      have HH := Lib.hid hh
      have HTK := Lib.hid htk
      have hil : (i : Int) < n := by omega
      clear hr hl hi39 hh hX hb htk hi1
      go_wp2_with (first | (refine wpList_load_g rfl 90 (.tmp 10) rfl b (off + i * 17) rfl (vcells X) _ HR.out Tryz.underlying90 rfl HI.out ?_) | (refine wpList_store_row rfl 90 (.tmp 5) (.tmp 11) rfl wr.heap.size rfl (vcells X) rfl 90 (HH.out _ rfl) HI.out (one_vcells X) ?_; intro w1 hp1; have L1 : Below wr.heap.size wr w1 := hp1.below ((Below.refl _ _).alloc (Nat.le_refl _) _) (Nat.le_refl _); have B1 := Lib.hid (hbel.out.trans (L1.mono hbel.out.size)); have hpw := vcells_pow HL.out (blk_range hp1.blk); rw [Nat.zero_add] at hpw; clear hp1 L1))
      go_roundw
      case rel => exact ⟨i + 1, _, by omega, rfl, by go_num, Lib.hid (by rw [HTK.out, sumW_snoc, ← hS.out]), B1⟩
      case measure => simp [intOf]; omega
    · obtain rfl : i = n := by omega
      go_wp2_with fail
      go_ret
      exact ⟨by rw [hS.out, List.take_of_length_le (by rw [← HN.out]; exact Nat.le_refl _)]; rfl, hbel.out⟩

theorem findK_least (vs : List Va) (i : Nat) (hi : i < vs.length) : findK vs (vs.getD i ([], 0)).1 = i ↔ ∀ j, j < i → (vs.getD j ([], 0)).1 ≠ (vs.getD i ([], 0)).1 := by
  constructor
  · intro h j hj he
    have hex : ∃ j, j < i ∧ (vs.getD j ([], 0)).1 = (vs.getD i ([], 0)).1 := ⟨j, hj, he⟩
    obtain ⟨m, hm, hmin⟩ : ∃ m, (m < i ∧ (vs.getD m ([], 0)).1 = (vs.getD i ([], 0)).1) ∧ ∀ k, k < m → ¬ (k < i ∧ (vs.getD k ([], 0)).1 = (vs.getD i ([], 0)).1) := by
      clear h he hj j
      obtain ⟨j, hj⟩ := hex
      induction j using Nat.strongRecOn with
      | ind j ih =>
        by_cases hk : ∃ k, k < j ∧ (k < i ∧ (vs.getD k ([], 0)).1 = (vs.getD i ([], 0)).1)
        · obtain ⟨k, hkj, hk⟩ := hk
          exact ih k hkj hk
        · exact ⟨j, hj, fun k hkj hkk => hk ⟨k, hkj, hkk⟩⟩
    have h2 := findK_at vs (vs.getD i ([], 0)).1 m (by omega) hm.2 (fun k hk e => hmin k hk ⟨by omega, e⟩)
    rw [h] at h2
    omega
  · intro h
    exact findK_at vs _ i hi rfl h
theorem okAt_eq (vs : List Va) (i : Nat) (hi : i < vs.length) : okAt vs i = decide (1 ≤ (vs.getD i ([], 0)).2 ∧ (vs.getD i ([], 0)).2 ≤ 1099511627776 ∧ ∀ j, j < i → (vs.getD j ([], 0)).1 ≠ (vs.getD i ([], 0)).1) := by
  unfold okAt
  rw [decide_eq_decide, findK_least vs i hi]
theorem Vals.take {w : World} {A : Option Addr} {n c : Nat} {vs : List Va} (h : Vals w (.slice A n c) vs) (k : Nat) (hk : k ≤ n) : Vals w (.slice A k c) (vs.take k) := by
  have hl := h.len
  have hkl : (vs.take k).length = k := by rw [List.length_take]; omega
  refine ⟨⟨A, c, by rw [hkl]⟩, fun hne => ?_, fun x hx => h.good x (List.mem_of_mem_take hx)⟩
  have hk0 : 0 < k := by
    cases k with
    | zero => exact absurd rfl hne
    | succ => omega
  obtain ⟨b, off, c', e, h1, h2, h3, h4⟩ := h.cells (by intro e; subst e; simp at hl; omega)
  simp only [Value.slice.injEq] at e
  obtain ⟨rfl, _, rfl⟩ := e
  refine ⟨b, off, c, by rw [hkl], by omega, h2, h3, fun i hi => ?_⟩
  have := h4 i (by omega)
  simp only [List.getD_eq_getElem?_getD, List.getElem?_take] at this ⊢
  rw [if_pos (by omega)]
  exact this
set_option maxHeartbeats 8000000 in
set_option maxRecDepth 100000 in
theorem vright_any (vs : List Va) (A : Option Addr) (n c : Nat) (w : World) (hv : Vals w (.slice A n c) vs) :
    Calls Tryz.prog 37 #[.slice A n c] w fun e w' => e = .returned (.bool (validB vs)) ∧ Below w.heap.size w w' := by
  have HV := Lib.hid hv
  have HN := Lib.hid hv.len
  clear hv
  by_cases h0 : n = 0
  · have hE : Hid (validB vs = false) := Lib.hid (validB_len vs (by rw [← HN.out]; omega))
    have h0' : (n : Int) = 0 := by omega
    go_enter Tryz.func37, Tryz.ntmps37
    go_wp2
    go_ret
    exact ⟨by rw [hE.out]; rfl, Below.refl _ _⟩
  have h0' : ¬ (n : Int) = 0 := by omega
  by_cases h7 : 7 < n
  · have hE : Hid (validB vs = false) := Lib.hid (validB_len vs (by rw [← HN.out]; omega))
    have h7' : (7 : Int) < n := by omega
    go_enter Tryz.func37, Tryz.ntmps37
    go_wp2
    go_ret
    exact ⟨by rw [hE.out]; rfl, Below.refl _ _⟩
  have h7' : ¬ (7 : Int) < n := by omega
  go_enter Tryz.func37, Tryz.ntmps37
  go_wp2
  go_loopw [3, 4, 17] (fun _ _ k wr => ∃ (i : Nat), i ≤ n ∧ k = .int .i64 i ∧ Hid (∀ j, j < i → okAt vs j = true) ∧ Hid (Below w.heap.size w wr))
    (fun _ _ k _ => n - (intOf k).toNat)
  case atStart => exact ⟨0, by omega, rfl, Lib.hid (fun j h => absurd h (by omega)), Lib.hid (Below.refl _ _)⟩
  case round =>
    obtain ⟨i, hi, rfl, hok, hbel⟩ := hrel
    obtain ⟨wo, hwo⟩ : ∃ x, x = wr := ⟨_, rfl⟩
    subst hwo
    by_cases hlt : i < n
    · have hvr := HV.out.below hbel.out
      obtain ⟨b, off, rfl, hb, hr⟩ := hvr.el i hlt
      have hi1 : i < vs.length := by rw [← HN.out]; exact hlt
      have hl := HV.out.at i hi1
      obtain ⟨X, hX⟩ : ∃ X, X = vs.getD i ([], 0) := ⟨_, rfl⟩
      have hokx : okAt vs i = decide (1 ≤ X.2 ∧ X.2 ≤ 1099511627776 ∧ ∀ j, j < i → (vs.getD j ([], 0)).1 ≠ X.1) := by rw [hX]; exact okAt_eq vs i hi1
      rw [← hX] at hr hl
      have hi39 : (Tryz.prog.info? 90).map (·.size) = some (vcells X).length := by rw [vcells_len X hl]; exact Tryz.size90
      have hi37 : (Tryz.prog.info? 24).map (·.size) = some (u8s X.1).length := by rw [u8s_len', hl]; exact Tryz.size24
      have hh : ∀ Z : Array Value, Z.size = 17 → Has (wo.alloc (.cells Z 90)) wo.heap.size 90 (vcells X).length := fun Z hZ => has_new wo _ _ _ (by rw [hZ, vcells_len X hl])
      have hno : okAt vs i = false → validB vs = false := fun h => validB_no vs i hi1 h
      have HR := Lib.hid hr
      have HL := Lib.hid hl
      have HI := Lib.hid hi39
      have HI7 := Lib.hid hi37
      have HH := Lib.hid hh
      have HNO := Lib.hid hno
      have HOX := Lib.hid hokx
      clear hr hl hi39 hi37 hh hX hb hvr hno hokx hi1
      have hil : (i : Int) < n := by omega
      have hin : ¬ (n : Nat) < i := by omega
      by_cases p1 : X.2 < 1
      · go_wp2_with (first | (refine wpList_load_g rfl 90 (.tmp 20) rfl b (off + i * 17) rfl (vcells X) _ HR.out Tryz.underlying90 rfl HI.out ?_) | (refine wpList_store_row rfl 90 (.tmp 4) (.tmp 21) rfl wo.heap.size rfl (vcells X) rfl 90 (HH.out _ rfl) HI.out (one_vcells X) ?_; intro w1 hp1; have L1 : Below wo.heap.size wo w1 := hp1.below ((Below.refl _ _).alloc (Nat.le_refl _) _) (Nat.le_refl _); have B1 := Lib.hid (hbel.out.trans (L1.mono hbel.out.size)); have hpw := vcells_pow HL.out (blk_range hp1.blk); rw [Nat.zero_add] at hpw; clear hp1 L1))
        go_ret
        refine ⟨?_, B1.out⟩
        rw [HNO.out (by rw [HOX.out]; exact decide_eq_false (fun h => by omega))]
        rfl
      by_cases p2 : 1099511627776 < X.2
      · go_wp2_with (first | (refine wpList_load_g rfl 90 (.tmp 20) rfl b (off + i * 17) rfl (vcells X) _ HR.out Tryz.underlying90 rfl HI.out ?_) | (refine wpList_store_row rfl 90 (.tmp 4) (.tmp 21) rfl wo.heap.size rfl (vcells X) rfl 90 (HH.out _ rfl) HI.out (one_vcells X) ?_; intro w1 hp1; have L1 : Below wo.heap.size wo w1 := hp1.below ((Below.refl _ _).alloc (Nat.le_refl _) _) (Nat.le_refl _); have B1 := Lib.hid (hbel.out.trans (L1.mono hbel.out.size)); have hpw := vcells_pow HL.out (blk_range hp1.blk); rw [Nat.zero_add] at hpw; clear hp1 L1))
        go_ret
        refine ⟨?_, B1.out⟩
        rw [HNO.out (by rw [HOX.out]; exact decide_eq_false (fun h => by omega))]
        rfl
      have hic : ¬ c < i := by
        obtain ⟨b', off', c', e, h1, _⟩ := HV.out.cells (by intro e; have := HN.out; rw [e] at this; simp at this; omega)
        simp only [Value.slice.injEq] at e
        have := HN.out
        omega
      go_wp2_with (first | (refine wpList_load_g rfl 90 (.tmp 20) rfl b (off + i * 17) rfl (vcells X) _ HR.out Tryz.underlying90 rfl HI.out ?_) | (refine wpList_store_row rfl 90 (.tmp 4) (.tmp 21) rfl wo.heap.size rfl (vcells X) rfl 90 (HH.out _ rfl) HI.out (one_vcells X) ?_; intro w1 hp1; have L1 : Below wo.heap.size wo w1 := hp1.below ((Below.refl _ _).alloc (Nat.le_refl _) _) (Nat.le_refl _); have B1 := Lib.hid (hbel.out.trans (L1.mono hbel.out.size)); have hpw := vcells_pow HL.out (blk_range hp1.blk); rw [Nat.zero_add] at hpw; have RK := Lib.hid (vcells_key (blk_range hp1.blk)); clear hp1 L1))
      clear hpw
      go_loopw [6, 34] (fun _ kk wr => ∃ (k : Nat), k ≤ i ∧ kk = .int .i64 k ∧ Hid (∀ j, j < k → (vs.getD j ([], 0)).1 ≠ X.1) ∧ Hid (Below w1.heap.size w1 wr))
        (fun _ kk _ => i - (intOf kk).toNat)
      case atStart => exact ⟨0, by omega, rfl, Lib.hid (fun j h => absurd h (by omega)), Lib.hid (Below.refl _ _)⟩
      case round =>
        obtain ⟨k, hk, rfl, hks, hbel2⟩ := hrel
        have bel3 : Below w.heap.size w wr := B1.out.trans (hbel2.out.mono B1.out.size)
        by_cases hlt2 : k < i
        · obtain ⟨b', off', e', _, hr2⟩ := (HV.out.below bel3).el k (by omega)
          simp only [Option.some.injEq, Addr.mk.injEq, and_true] at e'
          obtain ⟨rfl, rfl⟩ := e'
          have hk1 : k < vs.length := by have := HN.out; omega
          have hl2 := HV.out.at k hk1
          obtain ⟨Y, hY⟩ : ∃ Y, Y = vs.getD k ([], 0) := ⟨_, rfl⟩
          rw [← hY] at hr2 hl2
          have hj39 : (Tryz.prog.info? 90).map (·.size) = some (vcells Y).length := by rw [vcells_len Y hl2]; exact Tryz.size90
          have hj37 : (Tryz.prog.info? 24).map (·.size) = some (u8s Y.1).length := by rw [u8s_len', hl2]; exact Tryz.size24
          have hh2 : ∀ Z : Array Value, Z.size = 17 → Has (wr.alloc (.cells Z 90)) wr.heap.size 90 (vcells Y).length := fun Z hZ => has_new wr _ _ _ (by rw [hZ, vcells_len Y hl2])
          have hrun := run_eql37 Y.1 X.1 hl2 HL.out
          have HR2 := Lib.hid hr2
          have HJ := Lib.hid hj39
          have HJ7 := Lib.hid hj37
          have HH2 := Lib.hid hh2
          have HY := Lib.hid hY
          have RX2 := Lib.hid (range_below RK.out hbel2.out)
          have B3 := Lib.hid bel3
          clear hr2 hl2 hj39 hj37 hh2 hY bel3 hk1
          have hkl : (k : Int) < i := by omega
          cases hd : decide (Y.1 = X.1) with
          | true =>
            rw [hd] at hrun
            have heq := of_decide_eq_true hd
            have HEQ := Lib.hid heq
            clear hd heq
            go_wp2_with (first | (refine wpList_load_g rfl 90 (.tmp 36) rfl b (off + k * 17) rfl (vcells Y) _ HR2.out Tryz.underlying90 rfl HJ.out ?_) | (refine wpList_store_row rfl 90 (.tmp 6) (.tmp 37) rfl wr.heap.size rfl (vcells Y) rfl 90 (HH2.out _ rfl) HJ.out (one_vcells Y) ?_; intro w2 hp2; have L2 : Below wr.heap.size wr w2 := hp2.below ((Below.refl _ _).alloc (Nat.le_refl _) _) (Nat.le_refl _); have B4 := Lib.hid (B3.out.trans (L2.mono B3.out.size)); have RY := Lib.hid (vcells_key (blk_range hp2.blk)); have RX := Lib.hid (range_below RX2.out L2); clear hp2 L2) | (refine wpList_load_g rfl 24 (.tmp 38) rfl wr.heap.size 0 rfl (u8s Y.1) _ RY.out Tryz.underlying24 rfl HJ7.out ?_) | (refine wpList_load_g rfl 24 (.tmp 40) rfl wo.heap.size 0 rfl (u8s X.1) _ RX.out Tryz.underlying24 rfl HI7.out ?_))
            go_ret
            refine ⟨?_, B4.out⟩
            rw [HNO.out (by rw [HOX.out]; exact decide_eq_false (fun h => h.2.2 k hlt2 (by rw [← HY.out]; exact HEQ.out)))]
            rfl
          | false =>
            rw [hd] at hrun
            have heq := of_decide_eq_false hd
            have HEQ := Lib.hid heq
            clear hd heq
            go_wp2_with (first | (refine wpList_load_g rfl 90 (.tmp 36) rfl b (off + k * 17) rfl (vcells Y) _ HR2.out Tryz.underlying90 rfl HJ.out ?_) | (refine wpList_store_row rfl 90 (.tmp 6) (.tmp 37) rfl wr.heap.size rfl (vcells Y) rfl 90 (HH2.out _ rfl) HJ.out (one_vcells Y) ?_; intro w2 hp2; have L2 : Below wr.heap.size wr w2 := hp2.below ((Below.refl _ _).alloc (Nat.le_refl _) _) (Nat.le_refl _); have C4 := Lib.hid (hbel2.out.trans (L2.mono hbel2.out.size)); have RY := Lib.hid (vcells_key (blk_range hp2.blk)); have RX := Lib.hid (range_below RX2.out L2); clear hp2 L2) | (refine wpList_load_g rfl 24 (.tmp 38) rfl wr.heap.size 0 rfl (u8s Y.1) _ RY.out Tryz.underlying24 rfl HJ7.out ?_) | (refine wpList_load_g rfl 24 (.tmp 40) rfl wo.heap.size 0 rfl (u8s X.1) _ RX.out Tryz.underlying24 rfl HI7.out ?_))
            go_roundw
            case rel => exact ⟨k + 1, by omega, by go_num, Lib.hid (fun j hj => by
              by_cases hjk : j = k
              · subst hjk; rw [← HY.out]; exact HEQ.out
              · exact hks.out j (by omega)), C4⟩
            case measure => simp [intOf]; omega
        · obtain rfl : k = i := by omega
          have B3 := Lib.hid bel3
          clear bel3
          go_wp2_with fail
          go_roundw
          case rel => exact ⟨k + 1, by omega, by go_num, Lib.hid (fun j hj => by
            by_cases hjk : j = k
            · subst hjk; rw [HOX.out]; exact decide_eq_true ⟨by omega, by omega, hks.out⟩
            · exact hok.out j (by omega)), B3⟩
          case measure => simp [intOf]; omega
    · obtain rfl : i = n := by omega
      go_wp2_with fail
      go_ret
      exact ⟨by rw [validB_yes vs (by rw [← HN.out]; omega) (by rw [← HN.out]; exact hok.out)]; rfl, hbel.out⟩
end Go.Proofs.YtniknhhejlgdfaaGreatDoor
/- The reference's Sum, Enough, Few for layer 8. -/
namespace Go.Proofs.YtniknhhejlgdfaaGreatDoor
open Go.RowKit Go.Shelf

def refSumV (vs : List Va) (who : List Int) : Int × Int :=
  if validB vs = false then (0, 11) else if inR vs.length who = false then (0, 1) else if ¬ who.Nodup then (0, 17) else ((powAt vs who).sum, 0)

set_option maxHeartbeats 8000000 in
set_option maxRecDepth 100000 in
theorem refSum_any (vs : List Va) (who : List Int) (A A' : Option Addr) (n c m c' : Nat) (w : World) (hv : Vals w (.slice A n c) vs) (hw : Ins w (.slice A' m c') who) (hz : n ≤ 1000000) (hz2 : m ≤ 1000000) :
    Calls Tryz.prog 94 #[.slice A n c, .slice A' m c'] w fun e w' => e = .returned (.tuple #[.int .i64 (refSumV vs who).1, .int .i64 (refSumV vs who).2]) ∧ Below w.heap.size w w' := by
  have HV := Lib.hid hv
  have HW := Lib.hid hw
  have HN := Lib.hid hv.len
  have HM := Lib.hid hw.len
  clear hv hw
  go_enter Tryz.func94, Tryz.ntmps94
  go_wp2_with fail
  refine (vright_any vs A n c w HV.out).mono ?_
  rintro _ w1 ⟨rfl, bel1⟩
  have V1 := Lib.hid (HV.out.below bel1)
  have W1 := Lib.hid (HW.out.below bel1)
  have B1 := Lib.hid bel1
  clear bel1 HV HW
  cases hval : validB vs with
  | false =>
    have HE : Hid (refSumV vs who = (0, 11)) := Lib.hid (by unfold refSumV; rw [if_pos hval])
    clear hval
    go_wp2_with fail
    go_ret2
    exact ⟨by rw [HE.out]; rfl, B1.out⟩
  | true =>
    have HVAL := Lib.hid hval
    clear hval
    go_wp2_with fail
    go_loopw [7, 16] (fun _ k wr => ∃ (i : Nat), i ≤ m ∧ k = .int .i64 i ∧ Hid (∀ j, j < i → 0 ≤ who.getD j 0 ∧ who.getD j 0 < n) ∧ w1 = wr)
      (fun _ k _ => m - (intOf k).toNat)
    case atStart => exact ⟨0, by omega, rfl, Lib.hid (fun j h => absurd h (by omega)), by first | trivial | rfl⟩
    case round =>
      obtain ⟨i, hi, rfl, hin, rfl⟩ := hrel
      by_cases hlt : i < m
      · obtain ⟨b, off, rfl, hb, hr⟩ := W1.out.el i hlt
        have hi1 : i < who.length := by have := HM.out; omega
        obtain ⟨X, hX⟩ : ∃ X, X = who.getD i 0 := ⟨_, rfl⟩
        rw [← hX] at hr
        have HX := Lib.hid hX
        have hil : (i : Int) < m := by omega
        clear hX hb
        by_cases hbad : X < 0 ∨ (n : Int) ≤ X
        · have HE : Hid (refSumV vs who = (0, 1)) := Lib.hid (by
            unfold refSumV
            rw [if_neg (by rw [HVAL.out]; simp), if_pos]
            cases h : inR vs.length who with
            | false => rfl
            | true =>
              have := (inR_iff _ _).1 h X (by rw [HX.out, List.getD_eq_getElem?_getD, List.getElem?_eq_getElem hi1]; exact List.getElem_mem _)
              have := HN.out
              omega)
          by_cases h1 : X < 0
          · go_wp2_with fail
            go_ret2
            exact ⟨by rw [HE.out]; rfl, B1.out⟩
          · have h2 : (n : Int) ≤ X := by omega
            go_wp2_with fail
            go_ret2
            exact ⟨by rw [HE.out]; rfl, B1.out⟩
        · have h1 : ¬ X < 0 := by omega
          have h2 : ¬ (n : Int) ≤ X := by omega
          clear hbad
          go_wp2_with fail
          go_roundw
          case rel => exact ⟨i + 1, by omega, by go_num, Lib.hid (fun j hj => by
            by_cases hji : j = i
            · subst hji; rw [← HX.out]; omega
            · exact hin.out j (by omega)), by first | trivial | rfl⟩
          case measure => simp [intOf]; omega
      · obtain rfl : i = m := by omega
        have hR : inR vs.length who = true := by
          rw [inR_iff]
          intro x hx
          obtain ⟨j, hj, rfl⟩ := List.getElem_of_mem hx
          have := hin.out j (by rw [HM.out]; exact hj)
          rw [List.getD_eq_getElem?_getD, List.getElem?_eq_getElem hj] at this
          rw [← HN.out]
          exact this
        have HR := Lib.hid hR
        have HB := hin
        clear hR hlt hi
        go_wp2_with fail
        go_loopw [8, 9, 10, 31] (fun s _ _ k wr => ∃ (j : Nat) (S : Int), j ≤ i ∧ s = .int .i64 S ∧ k = .int .i64 j ∧ Hid (S = sumW (powAt vs (who.take j))) ∧ Hid ((who.take j).Nodup) ∧ w1 = wr)
          (fun _ _ _ k _ => i - (intOf k).toNat)
        case atStart => exact ⟨0, 0, by omega, rfl, rfl, Lib.hid rfl, Lib.hid (by simp), by first | trivial | rfl⟩
        case round =>
          obtain ⟨j, S, hj, rfl, rfl, hS, hnd, rfl⟩ := hrel
          by_cases hlt : j < i
          · obtain ⟨b, off, rfl, hb, hr⟩ := W1.out.el j hlt
            have hj1 : j < who.length := by have := HM.out; omega
            have hbd := HB.out j hlt
            have hpt := powAt_take vs who j hj1
            obtain ⟨X, hX⟩ : ∃ X, X = who.getD j 0 := ⟨_, rfl⟩
            rw [← hX] at hr hbd hpt
            obtain ⟨x, rfl⟩ : ∃ x : Nat, X = (x : Int) := ⟨X.toNat, by omega⟩
            have hxn : x < n := by omega
            have HX := Lib.hid hX
            have HPT := Lib.hid hpt
            have hil : (j : Int) < i := by omega
            have hxi : (x : Int) < n := by omega
            have hjc : ¬ c' < j := by
              obtain ⟨b', off', c2, e, h1, _⟩ := W1.out.cells (by intro e; rw [e] at hj1; simp at hj1)
              simp only [Value.slice.injEq] at e
              have := HM.out
              omega
            clear hX hb hbd hpt
            go_wp2_with fail
            refine (in_any (who.take j) x (some ⟨b, off, none⟩) j c' w1 (W1.out.take j (by omega)) (by omega)).mono ?_
            rintro _ w1 ⟨rfl, rfl⟩
            cases hd : decide ((x : Int) ∈ who.take j) with
            | true =>
              have HE : Hid (refSumV vs who = (0, 17)) := Lib.hid (by
                unfold refSumV
                rw [if_neg (by rw [HVAL.out]; simp), if_neg (by rw [HR.out]; simp), if_pos]
                exact not_nodup_take hj1 (by rw [← HX.out]; exact of_decide_eq_true hd))
              clear hd
              go_wp2_with fail
              go_ret2
              exact ⟨by rw [HE.out]; rfl, B1.out⟩
            | false =>
              have HND : Hid ((who.take (j + 1)).Nodup) := Lib.hid (nodup_take hj1 hnd.out (by rw [← HX.out]; exact of_decide_eq_false hd))
              clear hd
              obtain ⟨b2, off2, rfl, hb2, hr2⟩ := V1.out.el x hxn
              have hl2 := V1.out.at x (by have := HN.out; omega)
              obtain ⟨Y, hY⟩ : ∃ Y, Y = vs.getD x ([], 0) := ⟨_, rfl⟩
              rw [← hY] at hr2 hl2
              have hpw := vcells_pow hl2 hr2
              have HY := Lib.hid hY
              clear hr2 hl2 hY hb2
              go_wp2_with fail
              go_roundw
              case rel => exact ⟨j + 1, _, by omega, rfl, by go_num, Lib.hid (by rw [HPT.out, sumW_snoc, ← hS.out, show ((x : Int)).toNat = x from rfl, ← HY.out]), HND, by first | trivial | rfl⟩
              case measure => simp [intOf]; omega
          · obtain rfl : j = i := by omega
            have hND : who.Nodup := by
              have := hnd.out
              rwa [List.take_of_length_le (by rw [← HM.out]; exact Nat.le_refl _)] at this
            have hSS : S = (powAt vs who).sum := by
              have := hS.out
              rw [List.take_of_length_le (by rw [← HM.out]; exact Nat.le_refl _)] at this
              rw [this]
              exact (powAt_sum HVAL.out HR.out hND).1
            have HE : Hid (refSumV vs who = (S, 0)) := Lib.hid (by
              unfold refSumV
              rw [if_neg (by rw [HVAL.out]; simp), if_neg (by rw [HR.out]; simp), if_neg (fun h => h hND), ← hSS])
            clear hND hSS
            go_wp2_with fail
            go_ret2
            exact ⟨by rw [HE.out]; rfl, B1.out⟩
end Go.Proofs.YtniknhhejlgdfaaGreatDoor
/- The reference's Enough and Few. -/
namespace Go.Proofs.YtniknhhejlgdfaaGreatDoor
open Go.RowKit Go.Shelf

theorem refSumV_good {vs : List Va} {who : List Int} (h : goodW vs who = true) : refSumV vs who = ((powAt vs who).sum, 0) := by
  obtain ⟨h1, h2, h3⟩ := (goodW_iff _ _).1 h
  unfold refSumV
  rw [if_neg (by rw [h1]; simp), if_neg (by rw [h2]; simp), if_neg (fun hh => hh h3)]
theorem refSumV_bad {vs : List Va} {who : List Int} (h : goodW vs who = false) : ∃ e : Int, refSumV vs who = (0, e) ∧ (e == 0) = false := by
  unfold refSumV
  by_cases h1 : validB vs = false
  · exact ⟨11, by rw [if_pos h1], rfl⟩
  · by_cases h2 : inR vs.length who = false
    · exact ⟨1, by rw [if_neg h1, if_pos h2], rfl⟩
    · by_cases h3 : who.Nodup
      · have := (goodW_iff vs who).2 ⟨by simpa using h1, by simpa using h2, h3⟩
        rw [h] at this; cases this
      · exact ⟨17, by rw [if_neg h1, if_neg h2, if_pos h3], rfl⟩
theorem good_total {vs : List Va} {who : List Int} (h : goodW vs who = true) : sumW (vs.map (·.2)) = total vs := (total_valid ((goodW_iff _ _).1 h).1).2.1
theorem enoughB_eq {vs : List Va} {who : List Int} (h : goodW vs who = true) : enoughB vs who = decide (2 * total vs < 3 * (powAt vs who).sum) := by
  have ht := total_valid ((goodW_iff _ _).1 h).1
  have h1 := ht.2.2.1
  unfold enoughB quorum
  rw [h, Bool.true_and, if_neg (by omega), decide_eq_decide]
  omega
set_option maxHeartbeats 8000000 in
set_option maxRecDepth 100000 in
theorem refEnough_any (vs : List Va) (who : List Int) (A A' : Option Addr) (n c m c' : Nat) (w : World) (hv : Vals w (.slice A n c) vs) (hw : Ins w (.slice A' m c') who) (hz : n ≤ 1000000) (hz2 : m ≤ 1000000) :
    Calls Tryz.prog 71 #[.slice A n c, .slice A' m c'] w fun e w' => e = .returned (.bool (enoughB vs who)) ∧ Below w.heap.size w w' := by
  have HV := Lib.hid hv
  have HW := Lib.hid hw
  clear hv hw
  go_enter Tryz.func71, Tryz.ntmps71
  go_wp2_with fail
  refine (refSum_any vs who A A' n c m c' w HV.out HW.out hz hz2).mono ?_
  rintro _ w1 ⟨rfl, bel1⟩
  have V1 := Lib.hid (HV.out.below bel1)
  have B1 := Lib.hid bel1
  clear bel1
  cases hg : goodW vs who with
  | true =>
    rw [refSumV_good hg]
    have HE := Lib.hid (enoughB_eq hg)
    have HT := Lib.hid (good_total hg)
    obtain ⟨hs1, hs2⟩ := goodW_sum hg
    have ht1 := total_range vs
    obtain ⟨S, hS⟩ : ∃ S, S = (powAt vs who).sum := ⟨_, rfl⟩
    obtain ⟨T, hT⟩ : ∃ T, T = total vs := ⟨_, rfl⟩
    rw [← hS] at HE hs1 hs2 ⊢
    rw [← hT] at HE HT ht1
    obtain ⟨ht2, ht3⟩ := ht1
    have hw1 : IntKind.i64.wrap (3 * S) = 3 * S := by rw [IntKind.wrap_i64]; omega
    have hw2 : IntKind.i64.wrap (2 * T) = 2 * T := by rw [IntKind.wrap_i64]; omega
    clear hg hS hT
    go_wp2_with fail
    refine (refTotal_any vs A n c w1 V1.out hz).mono ?_
    rintro _ w2 ⟨rfl, bel2⟩
    rw [HT.out]
    have B2 := Lib.hid (B1.out.trans (bel2.mono B1.out.size))
    clear bel2
    go_wp2_with fail
    go_ret
    exact ⟨by rw [HE.out]; rfl, B2.out⟩
  | false =>
    obtain ⟨e, he, hne⟩ := refSumV_bad hg
    rw [he]
    have HE : Hid (enoughB vs who = false) := Lib.hid (by unfold enoughB; rw [hg, Bool.false_and])
    clear he hg
    go_wp2_with fail
    go_ret
    exact ⟨by rw [HE.out]; rfl, B1.out⟩

end Go.Proofs.YtniknhhejlgdfaaGreatDoor
/- What all cards of this seat share: the sentinels as they are laid, slices of validators that came in. -/
namespace Go.Proofs.YtniknhhejlgdfaaGreatDoor
open Go.ChangeShapes Go.WideShapes Go.ChangeAt Go.RowKit

set_option maxRecDepth 100000 in
/-- The cells of a validator that came in. -/
theorem open_va {H : Type} {enc : TypeId × Value → H} {W : World} {base : Nat} {spare : Nat → Bool} {held : Bool} {fuel : Nat} {cs : List Value} {x : DataW H × List MemPlace}
    (h : DataW.trod enc Tryz.prog W base spare held fuel 90 cs = some x) : ∃ X : Va, cs = vcells X ∧ X.1.length = 16 := by
  obtain ⟨y0, y1, n, _, hl, h0, h1⟩ := trod_struct2 Tryz.underlying90 h
  have c39 : Tryz.prog.cellsOf 90 = 17 := by kernel_rfl
  have c37 : Tryz.prog.cellsOf 24 = 16 := by kernel_rfl
  have c3 : Tryz.prog.cellsOf 3 = 1 := by kernel_rfl
  have c5 : Tryz.prog.cellsOf 5 = 1 := by kernel_rfl
  rw [c39] at hl
  have e0 : (Tryz.prog.cellsOf 24) = 16 := c37
  simp only [c37, List.drop_zero] at h0
  simp only [c3] at h1
  obtain ⟨xs, m, _, _, hl16, hxl, hel⟩ := DataW.trod_array Tryz.underlying24 h0
  obtain ⟨p, hp, _, _⟩ := DataW.trod_int Tryz.underlying3 h1
  have hcell : ∀ i, i < 16 → ∃ z, cs[i]? = some (.int .u8 z) := by
    intro i hi
    have hE := hel i hi
    rw [c5, Nat.mul_one, List.getElem?_eq_getElem (by omega)] at hE
    obtain ⟨z, e1, _, _⟩ := DataW.trod_int Tryz.underlying5 hE
    refine ⟨z, ?_⟩
    have h0 : ((((cs.take 16).drop i).take 1))[0]? = some (.int .u8 z) := by rw [e1]; rfl
    rw [List.getElem?_take, if_pos (by omega), List.getElem?_drop, List.getElem?_take, if_pos (by omega)] at h0
    simpa using h0
  refine ⟨((cs.take 16).map numOf, p), ?_, by simp; omega⟩
  apply List.ext_getElem?
  intro i
  unfold vcells
  have hul : (u8s (((cs.take 16).map numOf, p) : Va).1).length = 16 := by rw [u8s_len', List.length_map, List.length_take]; omega
  by_cases hi : i < 16
  · obtain ⟨z, hz⟩ := hcell i hi
    rw [List.getElem?_append_left (by omega), hz]
    simp [u8s, hi, hz, numOf]
  · rw [List.getElem?_append_right (by omega), hul]
    by_cases h16 : i = 16
    · subst h16
      have h2 : ((cs.drop 16).take 1)[0]? = some (.int .i64 p) := by rw [hp]; rfl
      rw [List.getElem?_take, if_pos (by omega), List.getElem?_drop] at h2
      simpa using h2
    · rw [List.getElem?_eq_none (by omega), List.getElem?_eq_none (by simp; omega)]

set_option maxRecDepth 100000 in
/-- A slice of validators that came in. -/
theorem open_vals {H : Type} {enc : TypeId × Value → H} {W : World} {base b0 : Nat} {r : Reach} {spare : Nat → Bool} {held : Bool} {v : Value} {d : DataW H} {ps : List MemPlace} (hval : Value.okWide Tryz.prog W r b0 22 v)
    (h : DataW.Trod enc Tryz.prog W base spare held 22 v d ps) : ∃ vs A n c, v = .slice A n c ∧ Vals W (.slice A n c) vs := by
  obtain ⟨fuel, hf⟩ := h
  obtain ⟨A, n, c, rfl⟩ := okWide_slice Tryz.underlying22 hval
  have c39 : Tryz.prog.cellsOf 90 = 17 := by kernel_rfl
  rcases DataW.trod_slice Tryz.underlying22 hf with ⟨hc, _⟩ | ⟨a, len, cap, elems, rest, k, _, hc, _, _, hl, hm, hlen, hel, _, _⟩
  · simp only [Value.cells, List.cons.injEq, Value.slice.injEq, and_true] at hc
    obtain ⟨rfl, rfl, rfl⟩ := hc
    exact ⟨[], none, 0, 0, rfl, ⟨_, _, rfl⟩, fun h => absurd rfl h, fun x hx => by simp at hx⟩
  · simp only [Value.cells, List.cons.injEq, Value.slice.injEq, and_true] at hc
    obtain ⟨rfl, rfl, rfl⟩ := hc
    have each : ∀ i, ∃ X : Va, i < n → X.1.length = 16 ∧ ∀ j u, (vcells X)[j]? = some u → W.cell? ((a.add (i * 17)).add j) = some u := by
      intro i
      by_cases hi : i < n
      · have he := hel i hi
        rw [c39, List.getElem?_eq_getElem (by omega), Option.bind_eq_some_iff] at he
        obtain ⟨cs', hcs, hy'⟩ := he
        obtain ⟨X, rfl, hX⟩ := open_va hy'
        refine ⟨X, fun _ => ⟨hX, fun j u hu => ?_⟩⟩
        have := (World.cells?_some hcs).2 
        have hj : j < 17 := by have := (List.getElem?_eq_some_iff.1 hu).1; rwa [vcells_len X hX] at this
        first
          | exact (this j hj).trans hu
          | exact (this.2 j hj).trans hu
      · exact ⟨([], 0), fun h => absurd h hi⟩
    obtain ⟨f, hff⟩ := Classical.axiomOfChoice each
    refine ⟨(List.range n).map f, some a, n, c, rfl, ⟨some a, c, by simp⟩, fun hne => ?_, fun x hx => ?_⟩
    · have hn : 0 < n := by
        cases n with
        | zero => exact absurd rfl hne
        | succ => omega
      obtain ⟨b, off, sp⟩ := a
      obtain ⟨hl0, h0⟩ := hff 0 hn
      have h00 : ∃ u, (vcells (f 0))[0]? = some u := ⟨_, List.getElem?_eq_getElem (by rw [vcells_len _ hl0]; omega)⟩
      obtain ⟨u, hu⟩ := h00
      have hc0 := h0 0 u hu
      have hadd0 : (⟨b, off, sp⟩ : Addr).add (0 * 17) = ⟨b, off, sp⟩ := by simp [Addr.add]
      rw [hadd0] at hc0
      obtain rfl := spot_none hc0
      refine ⟨b, off, c, by simp, by simpa using hl, hm, World.block_lt_of_cell? W _ hc0, fun i hi j u hu => ?_⟩
      have hi : i < n := by simpa using hi
      rw [List.getD_eq_getElem?_getD, List.getElem?_map, List.getElem?_range hi] at hu
      have := (hff i hi).2 j u hu
      rw [add_none, add_none] at this
      exact this
    · rw [List.mem_map] at hx
      obtain ⟨i, hi, rfl⟩ := hx
      exact (hff i (by simpa using hi)).1

end Go.Proofs.YtniknhhejlgdfaaGreatDoor
/- New rows of validators and integers; the chapter's example (powers). -/
namespace Go.Proofs.YtniknhhejlgdfaaGreatDoor
open Go.RowKit Go.Shelf

def rcells (vs : List Va) : List Value := vs.flatMap vcells
theorem rcells_at (vs : List Va) (h : ∀ x ∈ vs, x.1.length = 16) (i j : Nat) (hi : i < vs.length) (hj : j < 17) : (rcells vs)[i * 17 + j]? = (vcells (vs.getD i ([], 0)))[j]? := by
  induction vs generalizing i with
  | nil => simp at hi
  | cons d ds ih =>
    have hd : (vcells d).length = 17 := vcells_len d (h d (by simp))
    rw [show rcells (d :: ds) = vcells d ++ rcells ds by simp [rcells]]
    cases i with
    | zero => rw [Nat.zero_mul, Nat.zero_add, List.getElem?_append_left (by omega)]; rfl
    | succ i =>
      rw [List.getElem?_append_right (by omega), hd, show (i + 1) * 17 + j - 17 = i * 17 + j by omega, ih (fun d hd => h d (by simp [hd])) i (by simpa using hi)]
      rfl
theorem Vals.new (w : World) (vs : List Va) (e : Nat) (hg : ∀ x ∈ vs, x.1.length = 16) (hl : vs.length ≤ 1000) : Vals (w.alloc (.cells (rcells vs).toArray e)) (.slice (some ⟨w.heap.size, 0, none⟩) vs.length vs.length) vs := by
  refine ⟨⟨_, _, rfl⟩, fun _ => ⟨_, 0, _, rfl, Nat.le_refl _, by simp only [maxLen]; omega, by simp, fun i hi j u hu => ?_⟩, hg⟩
  have hj : j < 17 := by
    have := (List.getElem?_eq_some_iff.1 hu).1
    rw [List.getD_eq_getElem?_getD, List.getElem?_eq_getElem hi] at this
    rwa [Option.getD_some, vcells_len _ (hg _ (List.getElem_mem hi))] at this
  have h2 : (rcells vs)[i * 17 + j]? = some u := by rw [rcells_at vs hg i j hi hj]; exact hu
  have := range_new w (rcells vs) e (i * 17 + j) u h2
  rw [Nat.zero_add] at this ⊢
  exact this
theorem Ins.new (w : World) (xs : List Int) (e : Nat) (hl : xs.length ≤ 1000) : Ins (w.alloc (.cells (i64s xs).toArray e)) (.slice (some ⟨w.heap.size, 0, none⟩) xs.length xs.length) xs := by
  refine ⟨⟨_, _, rfl⟩, fun _ => ⟨_, 0, _, rfl, Nat.le_refl _, by simp only [maxLen]; omega, by simp, fun i hi => ?_⟩⟩
  exact range_new w (i64s xs) e i _ (by simp [i64s, List.getD_eq_getElem?_getD, hi])

end Go.Proofs.YtniknhhejlgdfaaGreatDoor
/- Slices of bytes, of such slices, of texts. -/
namespace Go.Proofs.YtniknhhejlgdfaaGreatDoor
open Go.RowKit

theorem Bs.len {w : World} {A : Option Addr} {n c : Nat} {bs : List Int} (h : Bs w (.slice A n c) bs) : n = bs.length := by
  obtain ⟨A', c', e⟩ := h.form
  simp only [Value.slice.injEq] at e
  exact e.2.1
theorem str_inj {a b : List Int} (ha : u8s_ok a) (hb : u8s_ok b) (h : strOfNums a = strOfNums b) : a = b := by
  rw [← sb_str a ha, ← sb_str b hb, h]

theorem Bss.len {w : World} {A : Option Addr} {n c : Nat} {ps : List (List Int)} (h : Bss w (.slice A n c) ps) : n = ps.length := by
  obtain ⟨A', c', e⟩ := h.form
  simp only [Value.slice.injEq] at e
  exact e.2.1
theorem Bss.el {w : World} {A : Option Addr} {n c : Nat} {ps : List (List Int)} (h : Bss w (.slice A n c) ps) (i : Nat) (hi : i < n) :
    ∃ b off B m d, A = some ⟨b, off, none⟩ ∧ w.cell? ⟨b, off + i, none⟩ = some (.slice B m d) ∧ Bs w (.slice B m d) (ps.getD i []) := by
  have hl := h.len
  obtain ⟨b, off, c', e, _, _, h3, h4⟩ := h.cells (by intro e; subst e; simp at hl; omega)
  simp only [Value.slice.injEq] at e
  obtain ⟨u, hu, hb⟩ := h4 i (by omega)
  obtain ⟨B, d, rfl⟩ := hb.form
  exact ⟨b, off, B, _, d, e.1, hu, hb⟩
theorem Txs.len {w : World} {A : Option Addr} {n c : Nat} {ss : List ByteArray} (h : Txs w (.slice A n c) ss) : n = ss.length := by
  obtain ⟨A', c', e⟩ := h.form
  simp only [Value.slice.injEq] at e
  exact e.2.1
theorem Txs.el {w : World} {A : Option Addr} {n c : Nat} {ss : List ByteArray} (h : Txs w (.slice A n c) ss) (i : Nat) (hi : i < n) :
    ∃ b off, A = some ⟨b, off, none⟩ ∧ b < w.heap.size ∧ w.cell? ⟨b, off + i, none⟩ = some (.string (ss.getD i ByteArray.empty)) := by
  have hl := h.len
  obtain ⟨b, off, c', e, _, _, h3, h4⟩ := h.cells (by intro e; subst e; simp at hl; omega)
  simp only [Value.slice.injEq] at e
  exact ⟨b, off, e.1, h3, h4 i (by omega)⟩
end Go.Proofs.YtniknhhejlgdfaaGreatDoor
/- A writer of layer 1 in memory; its steps Fail and Fixed; what layer 9 writes, as lists. -/
namespace Go.Proofs.YtniknhhejlgdfaaGreatDoor
open Go.RowKit

/-! What is written: some bytes, or nothing any more behind an error. -/
abbrev WS := Option (List Int)
def Lim (s : WS) (m : Nat) : Prop := ∀ b, s = some b → b.length ≤ m
theorem Lim.mono {s : WS} {m m' : Nat} (h : Lim s m) (hm : m ≤ m') : Lim s m' := fun b hb => Nat.le_trans (h b hb) hm
def fixS (xs : List Int) (s : WS) : WS := s.map (· ++ xs)
theorem Lim.fix {s : WS} {m : Nat} (h : Lim s m) (xs : List Int) : Lim (fixS xs s) (m + xs.length) := by
  intro b hb
  unfold fixS at hb
  rw [Option.map_eq_some_iff] at hb
  obtain ⟨c, hc, rfl⟩ := hb
  have := h c hc
  rw [List.length_append]
  omega
/-- A number in so many bytes, the greatest first. -/
def beN (n : Int) (k : Nat) : List Int := (List.range k).map fun j => n / (256 : Int) ^ (k - 1 - j) % 256
theorem beN_len (n : Int) (k : Nat) : (beN n k).length = k := by simp [beN]
theorem beN_ok (n : Int) (k : Nat) : u8s_ok (beN n k) := by
  intro b hb
  simp only [beN, List.mem_map, List.mem_range] at hb
  obtain ⟨j, _, rfl⟩ := hb
  unfold B8
  omega
def numS (n : Int) (k : Nat) (s : WS) : WS := if 0 ≤ n ∧ n < (256 : Int) ^ k then fixS (beN n k) s else none
theorem Lim.num {s : WS} {m : Nat} (h : Lim s m) (n : Int) (k : Nat) : Lim (numS n k s) (m + k) := by
  unfold numS
  split
  · have := h.fix (beN n k)
    rwa [beN_len] at this
  · intro b hb; cases hb
theorem fixS_none (xs : List Int) : fixS xs none = none := rfl
theorem numS_none (n : Int) (k : Nat) : numS n k none = none := by unfold numS; split <;> rfl
/-- A list: how many, and each. -/
def putS {α : Type} (most : Nat) (one : α → WS → WS) (xs : List α) (s : WS) : WS := if most < xs.length then none else xs.foldl (fun s x => one x s) (numS xs.length 1 s)
theorem Lim.fold {α : Type} {one : α → WS → WS} {c : Nat} (h1 : ∀ x s m, Lim s m → Lim (one x s) (m + c)) : ∀ (xs : List α) (s : WS) (m : Nat), Lim s m → Lim (xs.foldl (fun s x => one x s) s) (m + xs.length * c)
  | [], s, m, h => by simpa using h
  | x :: xs, s, m, h => by
    have := Lim.fold h1 xs (one x s) (m + c) (h1 x s m h)
    refine this.mono ?_
    simp only [List.length_cons, Nat.add_mul, Nat.one_mul]
    omega
theorem Lim.put {α : Type} {one : α → WS → WS} {c most : Nat} (h1 : ∀ x s m, Lim s m → Lim (one x s) (m + c)) (xs : List α) {s : WS} {m : Nat} (h : Lim s m) : Lim (putS most one xs s) (m + 1 + most * c) := by
  unfold putS
  split
  · intro b hb; cases hb
  · rename_i hl
    refine (Lim.fold h1 xs _ _ (h.num _ 1)).mono ?_
    have : xs.length * c ≤ most * c := Nat.mul_le_mul_right _ (by omega)
    omega
theorem foldS_none {α : Type} {one : α → WS → WS} (h : ∀ x, one x none = none) : ∀ xs : List α, xs.foldl (fun s x => one x s) none = none
  | [] => rfl
  | x :: xs => by rw [List.foldl_cons, h, foldS_none h xs]
theorem putS_none {α : Type} {one : α → WS → WS} (h : ∀ x, one x none = none) (most : Nat) (xs : List α) : putS most one xs none = none := by
  unfold putS
  split
  · rfl
  · rw [numS_none, foldS_none h]

/-! The writer. -/
def maxW : Nat := 1099511627776
/-- A writer of what was written so far in block q; r: the block of its bytes. -/
structure WrAt (base : Nat) (w : World) (q : Nat) (aR : Addr) (s : WS) (r : Option Nat) : Prop where
  low : base ≤ q
  at_ : ∃ ev sv bs, w.heap[q]? = some (.cells #[ev, sv] 243 (0, 0)) ∧ OwnO w base 5 sv (u8s bs) ∧ sv.ownBlock = r ∧ u8s_ok bs ∧ bs.length ≤ maxW ∧ ((s = some bs ∧ ev = .nilIface) ∨ (s = none ∧ ev = errV aR))
  ne : r ≠ some q
theorem WrAt.lt {base : Nat} {w : World} {q : Nat} {aR : Addr} {s : WS} {r : Option Nat} (h : WrAt base w q aR s r) : q < w.heap.size := by
  obtain ⟨_, _, _, hb, _⟩ := h.at_
  exact blk_lt hb
theorem WrAt.row {base : Nat} {w : World} {q : Nat} {aR : Addr} {s : WS} {r : Option Nat} (h : WrAt base w q aR s r) : ∀ k, r = some k → base ≤ k ∧ k < w.heap.size := by
  obtain ⟨_, _, _, _, ho, hr, _⟩ := h.at_
  exact fun k hk => ho.lt k (hr.trans hk)
theorem WrAt.same {base : Nat} {w w' : World} {q : Nat} {aR : Addr} {s : WS} {r : Option Nat} (h : WrAt base w q aR s r) (hg : w.grownBy w' none) : WrAt base w' q aR s r := by
  obtain ⟨ev, sv, bs, hb, ho, hr, h1, h2, h3⟩ := h.at_
  exact ⟨h.low, ⟨ev, sv, bs, (hg.block q (blk_lt hb) (by simp)).trans hb, ho.kept hg (by simp), hr, h1, h2, h3⟩, h.ne⟩
theorem WrAt.below {base : Nat} {w w' : World} {q : Nat} {aR : Addr} {s : WS} {r : Option Nat} (h : WrAt base w q aR s r) (hb : Below w.heap.size w w') : WrAt base w' q aR s r :=
  h.same ⟨hb.os, hb.tape, hb.output, hb.size, fun k hk _ => hb.block k hk⟩

/-- What a step of a writer leaves. -/
structure WStep (base q : Nat) (aR : Addr) (s' : WS) (r : Option Nat) (w w' : World) : Prop where
  at_ : ∃ r', WrAt base w' q aR s' r' ∧ (r' = r ∨ ∃ b, r' = some b ∧ w.heap.size ≤ b)
  only : Only q r w w'
theorem Only.refl (q : Nat) (r : Option Nat) (w : World) : Only q r w w := ⟨rfl, rfl, rfl, Nat.le_refl _, fun _ _ _ _ => rfl⟩
theorem Only.of_below {q : Nat} {r : Option Nat} {w w' : World} (h : Below w.heap.size w w') : Only q r w w' := ⟨h.os, h.tape, h.output, h.size, fun k hk _ _ => h.block k hk⟩
theorem Only.trans {q : Nat} {r r' : Option Nat} {w w1 w2 : World} (h : Only q r w w1) (h2 : Only q r' w1 w2) (hr : r' = r ∨ ∃ b, r' = some b ∧ w.heap.size ≤ b) : Only q r w w2 :=
  ⟨h2.os.trans h.os, h2.tape.trans h.tape, h2.output.trans h.output, Nat.le_trans h.size h2.size, fun k hk h1 h3 => (h2.block k (Nat.lt_of_lt_of_le hk h.size) h1 (by
    rcases hr with rfl | ⟨b, rfl, hb⟩
    · exact h3
    · intro e; have := Option.some.inj e; omega)).trans (h.block k hk h1 h3)⟩
theorem Only.blk {q b : Nat} {r : Option Nat} {w w' : World} {o : Obj} (h : Only q r w w') (hb : w.heap[b]? = some o) (h1 : b ≠ q) (h2 : some b ≠ r) : w'.heap[b]? = some o := (h.block b (blk_lt hb) h1 h2).trans hb
theorem WStep.refl {base q : Nat} {aR : Addr} {s : WS} {r : Option Nat} {w : World} (h : WrAt base w q aR s r) : WStep base q aR s r w w := ⟨⟨r, h, .inl rfl⟩, Only.refl _ _ _⟩
theorem WStep.of_below {base q : Nat} {aR : Addr} {s : WS} {r : Option Nat} {w w' : World} (h : WrAt base w q aR s r) (hb : Below w.heap.size w w') : WStep base q aR s r w w' := ⟨⟨r, h.below hb, .inl rfl⟩, Only.of_below hb⟩
theorem WStep.then_ {base q : Nat} {aR : Addr} {s2 : WS} {r r1 : Option Nat} {w w1 w2 : World} (h : Only q r w w1) (hr : r1 = r ∨ ∃ b, r1 = some b ∧ w.heap.size ≤ b) (h2 : WStep base q aR s2 r1 w1 w2) : WStep base q aR s2 r w w2 := by
  obtain ⟨⟨r2, a2, p2⟩, o2⟩ := h2
  refine ⟨⟨r2, a2, ?_⟩, h.trans o2 hr⟩
  rcases p2 with rfl | ⟨b, rfl, hb⟩
  · exact hr
  · exact .inr ⟨b, rfl, Nat.le_trans h.size hb⟩
/-- What lay before the writer stays. -/
theorem WStep.below {base q : Nat} {aR : Addr} {s s' : WS} {r : Option Nat} {w w' : World} (h : WStep base q aR s' r w w') (h0 : WrAt base w q aR s r) : Below base w w' :=
  h.only.below h0.low (fun k hk => (h0.row k hk).1) (by have := h0.low; have := h0.lt; omega)
/-- Blocks that the writer does not own stay. -/
theorem WStep.blk {base q b : Nat} {aR : Addr} {s' : WS} {r : Option Nat} {w w' : World} {o : Obj} (h : WStep base q aR s' r w w') (hb : w.heap[b]? = some o) (h1 : b ≠ q) (h2 : some b ≠ r) : w'.heap[b]? = some o := h.only.blk hb h1 h2

theorem Only.of_grown {q : Nat} {w w1 : World} {r : Option Nat} (h : w.grownBy w1 r) : Only q r w w1 := ⟨h.os, h.tape, h.output, h.size, fun k hk _ hr => h.block k hk (fun e => hr e)⟩
theorem Only.of_set {q i : Nat} {r : Option Nat} {w : World} (v : Value) : Only q r w (w.setCell ⟨q, i, none⟩ v) := ⟨rfl, rfl, rfl, by simp, fun k _ h _ => heap_setCell_other w ⟨q, i, none⟩ k v h⟩

set_option maxHeartbeats 4000000 in
set_option maxRecDepth 100000 in
theorem fail_any (base q : Nat) (aR : Addr) (s : WS) (r : Option Nat) (w : World) (H : WrAt base w q aR s r) :
    Calls Tryz.prog 152 #[.pointer (some ⟨q, 0, none⟩), errV aR] w fun e w' => e = .returned (.tuple #[]) ∧ WStep base q aR none r w w' := by
  have H0 := Lib.hid H
  obtain ⟨ev, sv, bs, hb, ho, hr, h1, h2, h3⟩ := H.at_
  have hc := blk_cell (xs := [ev, sv]) hb 0 _ rfl
  have hf := blk_free hb 0
  have HB := Lib.hid hb
  have HO := Lib.hid ho
  have HR := Lib.hid hr
  have HBS := Lib.hid h1
  have HLN := Lib.hid h2
  clear H hb ho hr h1 h2
  rcases h3 with ⟨rfl, rfl⟩ | ⟨rfl, rfl⟩
  · go_enter Tryz.func152, Tryz.ntmps152
    go_wp2
    go_end0
    refine ⟨rfl, ⟨r, ⟨H0.out.low, ⟨errV aR, sv, bs, ?_, ?_, HR.out, HBS.out, HLN.out, .inr ⟨rfl, rfl⟩⟩, H0.out.ne⟩, .inl rfl⟩, Only.of_set _⟩
    · exact blk_set (xs := [.nilIface, sv]) HB.out 0 _
    · refine HO.out.kept (row := some q) ⟨rfl, rfl, rfl, by simp, fun k _ hne => heap_setCell_other w ⟨q, 0, none⟩ k _ (fun e => hne (by rw [e]))⟩ (fun k hk e => H0.out.ne (by rw [← HR.out, hk, e]))
  · go_enter Tryz.func152, Tryz.ntmps152
    go_wp2
    go_end0
    exact ⟨rfl, WStep.refl H0.out⟩

set_option maxHeartbeats 4000000 in
set_option maxRecDepth 100000 in
theorem fixed_any (base q : Nat) (aR : Addr) (s : WS) (r : Option Nat) (v : Value) (xs : List Int) (w : World) (H : WrAt base w q aR s r) (hx : Bs w v xs) (hlim : Lim s (maxW - xs.length)) (hxs : xs.length ≤ maxW) :
    Calls Tryz.prog 148 #[.pointer (some ⟨q, 0, none⟩), v] w fun e w' => e = .returned (.tuple #[]) ∧ WStep base q aR (fixS xs s) r w w' := by
  have H0 := Lib.hid H
  obtain ⟨ev, sv, bs, hb, ho, hr, h1, h2, h3⟩ := H.at_
  have hq : q < w.heap.size := blk_lt hb
  have hbase : base ≤ w.heap.size := by have := H.low; omega
  have hc := blk_cell (xs := [ev, sv]) hb 0 _ rfl
  have hc1 := blk_cell (xs := [ev, sv]) hb 1 _ rfl
  have HB := Lib.hid hb
  have HO := Lib.hid ho
  have HR := Lib.hid hr
  have HBS := Lib.hid h1
  have HLN := Lib.hid h2
  obtain ⟨A, c, rfl⟩ := hx.form
  have HX := Lib.hid hx
  have hsz : bs.length + xs.length ≤ maxW ∨ s = none := by
    rcases h3 with ⟨rfl, _⟩ | ⟨h, _⟩
    · have := hlim bs rfl; left; omega
    · exact .inr h
  have HSZ := Lib.hid hsz
  clear H hb ho hr h1 h2 hx hsz hlim
  rcases h3 with ⟨rfl, rfl⟩ | ⟨rfl, rfl⟩
  · have hz : bs.length + xs.length ≤ maxW := by rcases HSZ.out with h | h; exact h; cases h
    have hz2 : ((u8s bs).length + xs.length) * 1 ≤ 140737488355328 := by rw [u8s_len', Nat.mul_one]; unfold maxW at hz; omega
    have HZ := Lib.hid hz
    have HZ2 := Lib.hid hz2
    clear hz hz2
    go_enter Tryz.func148, Tryz.ntmps148
    go_wp2_with (at_builtin; go_loud (refine appO (w0 := w) base rfl (.tmp 14) (.tmp 15) 137 137 5 (.int .u8 0) 1 rfl Tryz.underlying137 Tryz.info5 rfl (by omega) sv (u8s bs) rfl _ xs.length (u8s xs) rfl HX.out.src HO.out (Below.refl _ _) hbase HZ2.out ?_; intro v1 w1 ap; obtain ⟨A2, c2, rfl, hc2⟩ := ap.own.len; have d0 := (ap.grown.block q hq (fun e => H0.out.ne (HR.out.symm.trans e.symm))).trans HB.out; have d1 := blk_cell (xs := [.nilIface, sv]) d0 1 _ rfl; have f1 := blk_free d0 1; have D0 := Lib.hid d0; have AP := Lib.hid ap; clear ap d0))
    go_end0
    refine ⟨rfl, ?_⟩
    have AP2 := AP.out
    rw [List.length_append] at AP2
    have AP3 := Lib.hid AP2
    clear AP AP2
    generalize Value.slice A2 ((u8s bs).length + (u8s xs).length) c2 = v1 at *
    have AP := AP3
    have hv1 : v1.ownBlock ≠ some q := by
      rcases AP.out.place with h | h
      · rw [h, HR.out]; exact H0.out.ne
      · rw [h]; intro e; have := Option.some.inj e; omega
    refine ⟨⟨v1.ownBlock, ⟨H0.out.low, ⟨.nilIface, v1, bs ++ xs, ?_, ?_, rfl, HBS.out.append HX.out.ok, by rw [List.length_append]; exact HZ.out, .inl ⟨rfl, rfl⟩⟩, hv1⟩, ?_⟩, ?_⟩
    · exact blk_set (xs := [.nilIface, sv]) D0.out 1 _
    · have := AP.out.own
      rw [show u8s bs ++ u8s xs = u8s (bs ++ xs) by simp [u8s]] at this
      exact this.kept (row := some q) ⟨rfl, rfl, rfl, by simp, fun k _ hne => heap_setCell_other w1 ⟨q, 1, none⟩ k _ (fun e => hne (by rw [e]))⟩ (fun k hk e => hv1 (by rw [hk, e]))
    · rcases AP.out.place with h | h
      · exact .inl (h.trans HR.out)
      · exact .inr ⟨_, h, Nat.le_refl _⟩
    · have := AP.out.grown
      rw [HR.out] at this
      exact (Only.of_grown this).trans (Only.of_set _) (.inl rfl)
  · go_enter Tryz.func148, Tryz.ntmps148
    go_wp2
    go_end0
    exact ⟨rfl, WStep.refl H0.out⟩
end Go.Proofs.YtniknhhejlgdfaaGreatDoor
