/- Which validators are right: powers.Check. -/
import Derived.Test.YtideopnblhbngaaDoorFind
namespace Go.Proofs.YtideopnblhbngaaDoor
open Go.RowKit

/-- The sentinels that layer 8 hands out, as they lie. -/
structure Sen (w : World) (aS aR aT : Addr) : Prop where
  s : w.cell? ⟨0, 0, none⟩ = some (.iface 157 (.pointer (some aS)))
  r : w.cell? ⟨1, 0, none⟩ = some (.iface 157 (.pointer (some aR)))
  t : w.cell? ⟨2, 0, none⟩ = some (.iface 157 (.pointer (some aT)))
theorem Sen.below {w w' : World} {aS aR aT : Addr} (h : Sen w aS aR aT) (hb : Below w.heap.size w w') : Sen w' aS aR aT :=
  ⟨cell_on hb h.s, cell_on hb h.r, cell_on hb h.t⟩
abbrev errV (a : Addr) : Value := .iface 157 (.pointer (some a))

def okAt (vs : List Va) (i : Nat) : Bool := decide (1 ≤ (vs.getD i ([], 0)).2 ∧ (vs.getD i ([], 0)).2 ≤ 1099511627776 ∧ findK vs (vs.getD i ([], 0)).1 = i)
/-- Validators are right. -/
def validB (vs : List Va) : Bool := decide (1 ≤ vs.length ∧ vs.length ≤ 7) && (List.range vs.length).all (okAt vs)
theorem validB_no (vs : List Va) (i : Nat) (hi : i < vs.length) (h : okAt vs i = false) : validB vs = false := by
  unfold validB
  rw [show (List.range vs.length).all (okAt vs) = false from ?_, Bool.and_false]
  rw [List.all_eq_false]
  exact ⟨i, by simpa using hi, by simp [h]⟩
theorem validB_len (vs : List Va) (h : ¬ (1 ≤ vs.length ∧ vs.length ≤ 7)) : validB vs = false := by
  unfold validB
  rw [decide_eq_false h, Bool.false_and]
theorem validB_yes (vs : List Va) (h : 1 ≤ vs.length ∧ vs.length ≤ 7) (ha : ∀ i, i < vs.length → okAt vs i = true) : validB vs = true := by
  unfold validB
  rw [decide_eq_true h, Bool.true_and, List.all_eq_true]
  exact fun i hi => ha i (by simpa using hi)
def checkV (vs : List Va) (aS : Addr) : Value := if validB vs then .nilIface else errV aS

set_option maxHeartbeats 4000000 in
set_option maxRecDepth 100000 in
theorem check_any (vs : List Va) (A : Option Addr) (n c : Nat) (aS aR aT : Addr) (w : World) (hv : Vals w (.slice A n c) vs) (hs : Sen w aS aR aT) :
    Calls Tryd.prog 18 #[.slice A n c] w fun e w' => e = .returned (checkV vs aS) ∧ Below w.heap.size w w' := by
  have hn := hv.len
  have HV := Lib.hid hv
  have HS := Lib.hid hs
  have HN := Lib.hid hn
  have hc0 := hs.s
  clear hv hs hn
  go_enter Tryd.func18, Tryd.ntmps18
  by_cases h1 : n < 1
  · have e1 : checkV vs aS = errV aS := by unfold checkV; rw [validB_len vs (by rw [← HN.out]; omega)]; rfl
    have E1 := Lib.hid e1
    clear e1
    have h1' : (n : Int) < 1 := by omega
    go_wp2
    go_ret
    exact ⟨by rw [E1.out]; rfl, Below.refl _ _⟩
  by_cases h2 : 7 < n
  · have e1 : checkV vs aS = errV aS := by unfold checkV; rw [validB_len vs (by rw [← HN.out]; omega)]; rfl
    have E1 := Lib.hid e1
    clear e1
    have h1' : ¬ (n : Int) < 1 := by omega
    have h2' : (7 : Int) < n := by omega
    go_wp2
    go_ret
    exact ⟨by rw [E1.out]; rfl, Below.refl _ _⟩
  have h1' : ¬ (n : Int) < 1 := by omega
  have h2' : ¬ (7 : Int) < n := by omega
  go_wp2
  clear h1' h2'
  go_loopw [16] (fun k wr => ∃ (i : Nat), i ≤ n ∧ k = .int .i64 i ∧ Hid (∀ j, j < i → okAt vs j = true) ∧ Hid (Below w.heap.size w wr))
    (fun k _ => n - (intOf k).toNat)
  case atStart => exact ⟨0, by omega, rfl, Lib.hid (fun j h => absurd h (by omega)), Lib.hid (Below.refl _ _)⟩
  case round =>
    obtain ⟨i, hi, rfl, hok, hbel⟩ := hrel
    have hcw : wr.cell? ⟨0, 0, none⟩ = some (.iface 157 (.pointer (some aS))) := cell_on hbel.out hc0
    by_cases hlt : i < n
    · have hvr := HV.out.below hbel.out
      obtain ⟨b, off, rfl, hb, hr⟩ := hvr.el i hlt
      have hl := HV.out.at i (by rw [← HN.out]; exact hlt)
      obtain ⟨X, hX⟩ : ∃ X, X = vs.getD i ([], 0) := ⟨_, rfl⟩
      have hokx : okAt vs i = decide (1 ≤ X.2 ∧ X.2 ≤ 1099511627776 ∧ findK vs X.1 = i) := by rw [hX]; rfl
      rw [← hX] at hr hl
      have hi39 : (Tryd.prog.info? 39).map (·.size) = some (vcells X).length := by rw [vcells_len X hl]; exact Tryd.size39
      have hi37 : (Tryd.prog.info? 37).map (·.size) = some (u8s X.1).length := by rw [u8s_len', hl]; exact Tryd.size37
      have hh : ∀ Z : Array Value, Z.size = 17 → Has (wr.alloc (.cells Z 39)) wr.heap.size 39 (vcells X).length := fun Z hZ => has_new wr _ _ _ (by rw [hZ, vcells_len X hl])
      have hno : okAt vs i = false → checkV vs aS = errV aS := fun h => by unfold checkV; rw [validB_no vs i (by rw [← HN.out]; exact hlt) h]; rfl
      have HR := Lib.hid hr
      have HL := Lib.hid hl
      have HI := Lib.hid hi39
      have HI7 := Lib.hid hi37
      have HH := Lib.hid hh
      have HVR := Lib.hid hvr
      have HNO := Lib.hid hno
      have HOX := Lib.hid hokx
      clear hr hl hi39 hi37 hh hX hb hvr hno hokx hc0
      have hil : (i : Int) < n := by omega
      by_cases p1 : X.2 < 1
      · go_wp2_with (first | (refine wpList_load_g rfl 39 (.tmp 19) rfl b (off + i * 17) rfl (vcells X) _ HR.out Tryd.underlying39 rfl HI.out ?_) | (refine wpList_store_row rfl 39 (.tmp 4) (.tmp 20) rfl wr.heap.size rfl (vcells X) rfl 39 (HH.out _ rfl) HI.out (one_vcells X) ?_; intro w1 hp1; have L1 : Below wr.heap.size wr w1 := hp1.below ((Below.refl _ _).alloc (Nat.le_refl _) _) (Nat.le_refl _); have B1 := Lib.hid (hbel.out.trans (L1.mono hbel.out.size)); have hpw := vcells_pow HL.out (blk_range hp1.blk); rw [Nat.zero_add] at hpw; have hcw1 := cell_on L1 hcw; clear hp1 L1 hcw))
        go_ret
        refine ⟨?_, B1.out⟩
        rw [HNO.out (by rw [HOX.out]; exact decide_eq_false (fun h => by omega))]
        rfl
      by_cases p2 : 1099511627776 < X.2
      · go_wp2_with (first | (refine wpList_load_g rfl 39 (.tmp 19) rfl b (off + i * 17) rfl (vcells X) _ HR.out Tryd.underlying39 rfl HI.out ?_) | (refine wpList_store_row rfl 39 (.tmp 4) (.tmp 20) rfl wr.heap.size rfl (vcells X) rfl 39 (HH.out _ rfl) HI.out (one_vcells X) ?_; intro w1 hp1; have L1 : Below wr.heap.size wr w1 := hp1.below ((Below.refl _ _).alloc (Nat.le_refl _) _) (Nat.le_refl _); have B1 := Lib.hid (hbel.out.trans (L1.mono hbel.out.size)); have hpw := vcells_pow HL.out (blk_range hp1.blk); rw [Nat.zero_add] at hpw; have hcw1 := cell_on L1 hcw; clear hp1 L1 hcw))
        go_ret
        refine ⟨?_, B1.out⟩
        rw [HNO.out (by rw [HOX.out]; exact decide_eq_false (fun h => by omega))]
        rfl
      go_wp2_with (first | (refine wpList_load_g rfl 39 (.tmp 19) rfl b (off + i * 17) rfl (vcells X) _ HR.out Tryd.underlying39 rfl HI.out ?_) | (refine wpList_store_row rfl 39 (.tmp 4) (.tmp 20) rfl wr.heap.size rfl (vcells X) rfl 39 (HH.out _ rfl) HI.out (one_vcells X) ?_; intro w1 hp1; have L1 : Below wr.heap.size wr w1 := hp1.below ((Below.refl _ _).alloc (Nat.le_refl _) _) (Nat.le_refl _); have B1 := Lib.hid (hbel.out.trans (L1.mono hbel.out.size)); have hpw := vcells_pow HL.out (blk_range hp1.blk); rw [Nat.zero_add] at hpw; have hcw1 := cell_on L1 hcw; have RK := Lib.hid (vcells_key (blk_range hp1.blk)); have V1 := Lib.hid (HVR.out.below L1); clear hp1 L1 hcw) | (refine wpList_load_g rfl 37 (.tmp 31) rfl wr.heap.size 0 rfl (u8s X.1) _ RK.out Tryd.underlying37 rfl HI7.out ?_))
      refine (find_any vs X.1 _ n c HL.out w1 V1.out (by omega)).mono ?_
      rintro _ w2 ⟨rfl, bel2⟩
      have B2 := Lib.hid (B1.out.trans (bel2.mono B1.out.size))
      have hcw2 := cell_on bel2 hcw1
      clear bel2 hcw1 hpw RK V1 B1
      obtain ⟨K, hK⟩ : ∃ K, K = findK vs X.1 := ⟨_, rfl⟩
      rw [← hK] at HOX ⊢
      by_cases hKi : K = i
      · have hne : (K != (i : Int)) = false := by simp [hKi]
        clear hK
        go_wp2
        go_roundw
        case rel => exact ⟨i + 1, by omega, by go_num, Lib.hid (fun j hj => by
          by_cases hji : j = i
          · subst hji; rw [HOX.out]; exact decide_eq_true ⟨by omega, by omega, hKi⟩
          · exact hok.out j (by omega)), B2⟩
        case measure => simp [intOf]; omega
      · have hne : (K != (i : Int)) = true := by simp [hKi]
        clear hK
        go_wp2
        go_ret
        refine ⟨?_, B2.out⟩
        rw [HNO.out (by rw [HOX.out]; exact decide_eq_false (fun h => hKi h.2.2))]
        rfl
    · obtain rfl : i = n := by omega
      go_wp2
      go_ret
      refine ⟨?_, hbel.out⟩
      unfold checkV
      rw [validB_yes vs (by rw [← HN.out]; omega) (by rw [← HN.out]; exact hok.out)]
      rfl
end Go.Proofs.YtideopnblhbngaaDoor
