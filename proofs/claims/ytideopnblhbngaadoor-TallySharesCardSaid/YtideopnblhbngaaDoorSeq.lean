/- The iterators of layer 8: all powers; some validators' powers. -/
import Derived.Test.YtideopnblhbngaaDoorWide
import Derived.Test.YtideopnblhbngaaDoorVal
namespace Go.Proofs.YtideopnblhbngaaDoor
open Go.RowKit Go.Shelf
attribute [local go_sem] Oper.semAt_some

theorem abide_ext {β : Type} {B : Nat} {J : β → World → Prop} (hJ : AbidesFrom B J) {s : β} {w w' : World} (h : J s w) (hb : Below w.heap.size w w') : J s w' :=
  hJ s w w' none h ⟨hb.os, hb.tape, hb.output, hb.size, fun k hk _ => hb.block k hk⟩ (fun r e => by cases e)

/-- What a round of a loop over an iterator does, as the iterator sees it. -/
abbrev Rounds (n : Nat) (l : Nat) (n₀ N : Nat) (J Jx : List Int → World → Prop) : Prop :=
  ∀ pre x W1, J pre W1 → pre.length < N → YieldAt Fence.wide (n - 1) Tryd.prog l #[.int .i64 x] W1 fun e W' =>
    (e = .returned (.bool true) ∧ J (pre ++ [x]) W' ∧ Below n₀ W1 W') ∨ (e = .returned (.bool false) ∧ Jx (pre ++ [x]) W')

theorem powers_take (vs : List Va) (k : Nat) (hk : k < vs.length) : (vs.take (k + 1)).map (·.2) = (vs.take k).map (·.2) ++ [(vs.getD k ([], 0)).2] := by
  rw [List.take_succ_eq_append_getElem hk, List.map_append, List.getD_eq_getElem?_getD, List.getElem?_eq_getElem hk]
  rfl

set_option maxHeartbeats 4000000 in
set_option maxRecDepth 100000 in
theorem total1_in (n : Nat) (hn : 1 ≤ n) (l Bs : Nat) (A : Option Addr) (len cap : Nat) (vs : List Va) (w0 W : World) (J Jx : List Int → World → Prop)
    (hW : Below w0.heap.size w0 W) (hJ : AbidesFrom W.heap.size J) (hY : Rounds n l w0.heap.size len J Jx) (hBs : w0.cell? ⟨Bs, 0, none⟩ = some (.slice A len cap)) (hv : Vals w0 (.slice A len cap) vs) (hz : len ≤ 1000000) (h0 : J [] W) :
    CallsIn Fence.wide n Tryd.prog 66 #[.func (.yield l) #[] #[], .pointer (some ⟨Bs, 0, none⟩)] W fun e W' => (∃ v, e = .returned v) ∧
      ((∃ ys, ys = vs.map (·.2) ∧ J ys W') ∨ (∃ pre, True ∧ Jx pre W')) := by
  have hn1 := hv.len
  have hcell : W.cell? ⟨Bs, 0, none⟩ = some (.slice A len cap) := cell_on hW hBs
  have HV := Lib.hid hv
  have HN := Lib.hid hn1
  have HJ := Lib.hid hJ
  have HY := Lib.hid hY
  have J0 := Lib.hid h0
  clear hv hn1 hBs hY hJ h0
  refine callsIn_of_wp Tryd.func66 rfl trivial ?_ rfl
  simp only [Tryd.ntmps66, List.size_toArray, List.length_cons, List.length_nil, Nat.reduceAdd, Nat.reduceSub, Array.replicate_succ, Array.replicate_zero, List.push_toArray, List.append_toArray, List.nil_append, List.cons_append]
  gi_wp2
  clear hcell
  gi_loopw [7] (fun i wr => ∃ k : Nat, k ≤ len ∧ i = .int .i64 k ∧ Hid (J ((vs.take k).map (·.2)) wr) ∧ Hid (Below w0.heap.size w0 wr) ∧ Hid (W.heap.size ≤ wr.heap.size))
    (fun i _ => len - (intOf i).toNat)
  case atStart => exact ⟨0, Nat.zero_le _, rfl, J0, Lib.hid hW, Lib.hid (Nat.le_refl _)⟩
  case round =>
    obtain ⟨k, hk, rfl, hJs, hbel, hsz⟩ := hrel
    by_cases hlt : k < len
    · obtain ⟨b, off, rfl, hb, hr⟩ := (HV.out.below hbel.out).el k hlt
      have hlen : k < vs.length := by rw [← HN.out]; exact hlt
      have hl := HV.out.at k hlen
      have htk := powers_take vs k hlen
      obtain ⟨X, hX⟩ : ∃ X, X = vs.getD k ([], 0) := ⟨_, rfl⟩
      rw [← hX] at hr hl htk
      have hi39 : (Tryd.prog.info? 39).map (·.size) = some (vcells X).length := by rw [vcells_len X hl]; exact Tryd.size39
      have hh : ∀ Z : Array Value, Z.size = 17 → Has (wr.alloc (.cells Z 39)) wr.heap.size 39 (vcells X).length := fun Z hZ => has_new wr _ _ _ (by rw [hZ, vcells_len X hl])
      have hpl : ((vs.take k).map (·.2)).length < len := by rw [List.length_map, List.length_take]; omega
      have HR := Lib.hid hr
      have HL := Lib.hid hl
      have HI := Lib.hid hi39
      have HH := Lib.hid hh
      have HTK := Lib.hid htk
      have HPL := Lib.hid hpl
      clear hr hl hi39 hh hX hb htk hpl hlen
      have hil : (k : Int) < len := by omega
      gi_wp2_with (first | (refine wpListIn_load_g wideF rfl 39 (.tmp 9) rfl b (off + k * 17) rfl (vcells X) _ HR.out Tryd.underlying39 rfl HI.out ?_) | (refine wpListIn_store_row wideF rfl 39 (.tmp 4) (.tmp 10) rfl wr.heap.size rfl (vcells X) rfl 39 (HH.out _ rfl) HI.out (one_vcells X) ?_; intro w1 hp1; have L1 : Below wr.heap.size wr w1 := hp1.below ((Below.refl _ _).alloc (Nat.le_refl _) _) (Nat.le_refl _); have B1 := Lib.hid (hbel.out.trans (L1.mono hbel.out.size)); have S1 := Lib.hid (Nat.le_trans hsz.out L1.size); have hpw := vcells_pow HL.out (blk_range hp1.blk); rw [Nat.zero_add] at hpw; have J1 := abide_ext HJ.out hJs.out L1; obtain ⟨fn, tmps, assign, body, hy, hR⟩ := HY.out _ X.2 w1 J1 HPL.out; have HRR := Lib.hid hR; clear hp1 L1 J1 hR))
      refine HRR.out.mono ?_
      rintro e W3 (⟨rfl, hJ3, hk3⟩ | ⟨rfl, hJx3⟩)
      · have B3 := Lib.hid (B1.out.trans hk3)
        have S3 := Lib.hid (Nat.le_trans S1.out hk3.size)
        have J3 := Lib.hid hJ3
        clear hJ3 hk3 HRR hy hpw
        gi_wp2
        go_roundw
        case rel => exact ⟨k + 1, by omega, by go_num, Lib.hid (by rw [HTK.out]; exact J3.out), B3, S3⟩
        case measure => simp [intOf]; omega
      · clear HRR hy hpw
        gi_wp2
        refine bodyPost_ret (results_none rfl _ _ _) rfl ?_
        exact ⟨⟨_, rfl⟩, .inr ⟨_, trivial, hJx3⟩⟩
    · obtain rfl : k = len := by omega
      gi_wp2
      go_end0
      exact ⟨⟨_, rfl⟩, .inl ⟨_, rfl, by have := hJs.out; rwa [HN.out, List.take_length] at this⟩⟩

theorem total1_stops (n : Nat) (hn : 1 ≤ n) (Bs : Nat) (A : Option Addr) (len cap : Nat) (vs : List Va) (w0 : World) (hBs : w0.cell? ⟨Bs, 0, none⟩ = some (.slice A len cap)) (hv : Vals w0 (.slice A len cap) vs) (hz : len ≤ 1000000) :
    SeqStopsK Fence.wide n Tryd.prog 66 #[.pointer (some ⟨Bs, 0, none⟩)] (fun x : Int => #[Value.int .i64 x]) (Below w0.heap.size) (fun ys => ys = vs.map (·.2)) (fun _ => True) len w0 :=
  fun l J Jx W hW hJ _ hY h0 => total1_in n hn l Bs A len cap vs w0 W J Jx hW hJ hY hBs hv hz h0

def sumW : List Int → Int := List.foldl (fun s v => wrap64 (s + v)) 0
theorem sumW_snoc (pre : List Int) (x : Int) : sumW (pre ++ [x]) = wrap64 (sumW pre + x) := by simp [sumW]

set_option maxHeartbeats 4000000 in
set_option maxRecDepth 100000 in
theorem sum_any (gf : Nat) (lb : Array Value) (ps : List Int) (N : Nat) (w : World) (eg : ∀ args w, (callFunc gf args).run Tryd.prog w = .ok (.enter gf args) w)
    (hseq : SeqStopsK Fence.wide 3 Tryd.prog gf lb (fun x : Int => #[Value.int .i64 x]) (Below w.heap.size) (fun ys => ys = ps) (fun _ => True) N w) :
    Calls Tryd.prog 64 #[.func (.func gf) #[] lb] w fun e w' => e = .returned (.int .i64 (sumW ps)) ∧ Below w.heap.size w w' := by
  refine (callsIn_wide (n := 4)).1 ?_
  refine callsIn_of_wp_marks Tryd.func64 rfl trivial ?_ rfl
  simp only [Tryd.ntmps64, List.size_toArray, List.length_cons, List.length_nil, Nat.reduceAdd, Nat.reduceSub, Array.replicate_succ, Array.replicate_zero, List.push_toArray, List.append_toArray, List.nil_append, List.cons_append]
  gi_wp2
  have bS := Boxed.new w 3 (.int .i64 0)
  have hB0 : Below w.heap.size w (w.alloc (.cells #[.int .i64 0] 3)) := (Below.refl _ w).alloc (Nat.le_refl _) _
  refine wpIn_rangeFunc_ownG rfl (by omega) (gf := gf) (lb := lb) rfl trivial eg hseq belowK_t (belowK_b (by simp)) hB0 (fun _ => rfl)
    (fun pre W => (W.cell? ⟨w.heap.size, 0, none⟩ = some (.int .i64 (sumW pre)) ∧ W.frozen? ⟨w.heap.size, 0, none⟩ = false) ∧ Below w.heap.size w W)
    (fun _ _ _ => False)
    (OwnFrom.and (Own.from (fun s A B row hs hg hr => ⟨cell_kept hs.1 hg hr, (frozen_kept hs.1 hg hr).trans hs.2⟩) _) (ownFrom_below (Nat.le_refl _) (by simp)))
    (fun _ _ _ _ _ hs _ _ => hs)
    ⟨⟨bS.cell, bS.frozen⟩, hB0⟩
    (fun x => { tmps := #[.func (.func gf) #[] lb, undef, .int .i64 0, .pointer (some ⟨w.heap.size, 0, none⟩), .int .i64 x, .func (.func gf) #[] lb, .int .i64 x, undef, undef, undef, undef], defers := [] }) ?assign ?body ?done ?stop
  case assign =>
    intro l x W K hK
    gi_wp2
    exact hK
  case body =>
    rintro l pre x W ⟨⟨hc, hf⟩, hB⟩ _
    gi_wp2
    exact ⟨(KeepsOthers.setCell _ _ _).from _, (Below.refl w.heap.size W).setCell (p := ⟨w.heap.size, 0, none⟩) (Nat.le_refl _) _, ⟨by rw [sumW_snoc]; exact World.cell?_setCell_same' _ _ _ (by rw [hc]; rfl), by rw [World.frozen?_setCell]; exact hf⟩, hB.setCell (p := ⟨w.heap.size, 0, none⟩) (Nat.le_refl _) _⟩
  case done =>
    rintro D ys W hD rfl ⟨⟨hc, _⟩, hB⟩ hK
    gi_wp2
    refine ⟨by simp, .inl ⟨_, _, rfl, run_takeDeferred hK, ?_⟩⟩
    exact ⟨_, results_tmp rfl _ _ _, rfl, hB.trans (belowK_b (w := w) (Nat.le_refl _) W D _ _ (by simp at hD; omega) hK rfl rfl)⟩
  case stop =>
    rintro D c pre W _ _ h _
    exact h.elim
end Go.Proofs.YtideopnblhbngaaDoor
