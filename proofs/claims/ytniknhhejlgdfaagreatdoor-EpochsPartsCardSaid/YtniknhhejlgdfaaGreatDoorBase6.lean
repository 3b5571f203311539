/- Lemmas that laws of this seat rest on, part 6; each says its own conditions: PubIt, RecIt, Join, Public, KpR, Climb, Num, PubW, Root, TreesWaysW, KeySign, ClimbE. -/
import Derived.RangeFuncBox
import Derived.Maps.OwnIn
import Derived.Test.YtniknhhejlgdfaaGreatDoorProg
import Derived.WalkKit
import Derived.LaidEql
import Derived.Stop.Asserts
import Derived.RowKitTokens
import Derived.Deep.QuietTactic
import Derived.BigQuiet
import Derived.RowKit
import Derived.StillTactics
import Derived.OwnWalk
import Derived.Laws.Pointers
import Derived.Test.YtniknhhejlgdfaaGreatDoorBase1
import Derived.Test.YtniknhhejlgdfaaGreatDoorBase3
import Derived.Test.YtniknhhejlgdfaaGreatDoorBase4
import Derived.Test.YtniknhhejlgdfaaGreatDoorBase5
/- The iterators over the ends of chains: a leaf's, and those that a signature runs to. -/
namespace Go.Proofs.YtniknhhejlgdfaaGreatDoor
open Go.RowKit Go.Shelf
attribute [local go_sem] Oper.semAt_some

theorem abide_ext {β : Type} {B : Nat} {J : β → World → Prop} (hJ : AbidesFrom B J) {s : β} {w w' : World} (h : J s w) (hb : Below w.heap.size w w') : J s w' :=
  hJ s w w' none h ⟨hb.os, hb.tape, hb.output, hb.size, fun k hk _ => hb.block k hk⟩ (fun r e => by cases e)
theorem bel_drew1 {w w' : World} (h : Ext w.drew w') : Below w.heap.size w w' := ext_of_drew h
theorem wpList_done {P : Program} {ops : Array Oper} {T : Act → World → Prop} {a : Act} {w : World} (h : T a w) : wpList P ops (fun _ => T) [] a w := h
/-- What a round keeps: what lay there ahead, and every block of ints. -/
def Kp3 (n₀ : Nat) (W W' : World) : Prop := Below n₀ W W' ∧ ∀ (k : Nat) (cs : Array Value), W.heap[k]? = some (Obj.cells cs 3 (0, 0)) → W'.heap[k]? = some (Obj.cells cs 3 (0, 0))
theorem kp3_t {n₀ : Nat} {A B C : World} (h : Kp3 n₀ A B) (k : Kp3 n₀ B C) : Kp3 n₀ A C := ⟨h.1.trans k.1, fun i cs hi => k.2 i cs (h.2 i cs hi)⟩
theorem kp3_b {n₀ : Nat} {w : World} (hn : n₀ ≤ w.heap.size) (W : World) (l : Nat) (o o' : Obj) (hl : w.heap.size ≤ l) (h : W.heap[l]? = some o) (hc : o.isCells = false) (hw : o.isWalk = false) : Kp3 n₀ W (W.putObj l o') :=
  ⟨belowK_b hn W l o o' hl h hc hw, fun k cs hk => by
    have hne : k ≠ l := fun e => by subst e; rw [hk] at h; cases h; cases hc
    exact (World.putObj_heap_other hne).trans hk⟩
theorem kp3_below {n₀ : Nat} {W W' : World} (hn : n₀ ≤ W.heap.size) (h : Below W.heap.size W W') : Kp3 n₀ W W' := ⟨h.mono hn, fun _ _ hk => blk_below hk h⟩
/-- What a round of a loop over an iterator of digests does, as the iterator sees it. -/
abbrev RoundsD (n : Nat) (l : Nat) (n₀ N : Nat) (J Jx : List Dg → World → Prop) : Prop :=
  ∀ pre x W1, J pre W1 → pre.length < N → YieldAt Fence.wide (n - 1) Tryz.prog l #[dgv x] W1 fun e W' =>
    (e = .returned (.bool true) ∧ J (pre ++ [x]) W' ∧ Kp3 n₀ W1 W') ∨ (e = .returned (.bool false) ∧ Jx (pre ++ [x]) W')
end Go.Proofs.YtniknhhejlgdfaaGreatDoor
/- The iterator over the ends that a signature runs to. -/
namespace Go.Proofs.YtniknhhejlgdfaaGreatDoor
open Go.RowKit Go.Shelf
attribute [local go_sem] Oper.semAt_some

open Classical in
/-- A digest, as one. -/
noncomputable def mkD (x : List Int) : Dg := if h : x.length = 16 ∧ u8s_ok x then ⟨x, h⟩ else ⟨short 0 [], short_len _ _, short_ok _ _⟩
theorem mkD_val {x : List Int} (h : x.length = 16 ∧ u8s_ok x) : (mkD x).1 = x := by unfold mkD; rw [dif_pos h]
noncomputable def recD (l : Int) (ds : List (List Int)) (m : List Int) (i : Nat) : List Dg := (List.range i).map fun j => mkD (recAt l ds m j)
theorem recD_succ (l : Int) (ds : List (List Int)) (m : List Int) (i : Nat) : recD l ds m (i + 1) = recD l ds m i ++ [mkD (recAt l ds m i)] := by simp [recD, List.range_succ]
theorem recD_len (l : Int) (ds : List (List Int)) (m : List Int) (i : Nat) : (recD l ds m i).length = i := by simp [recD]
theorem recD_val (l : Int) (ds : List (List Int)) (m : List Int) (i : Nat) (h : ∀ j, j < i → (ds.getD j []).length = 16 ∧ u8s_ok (ds.getD j [])) : (recD l ds m i).map (·.1) = recE l ds m i := by
  unfold recD recE
  rw [List.map_map]
  refine List.map_congr_left fun j hj => ?_
  exact mkD_val (recAt_good l ds m j (h j (List.mem_range.1 hj)))

theorem ints_block {w2 : World} {B n : Nat} {dv : Value} {xs : List Value} (hn : 0 < n) (h : w2.ownsRow B 3 1 dv n xs) : ∃ db dc cur, dv = .slice (some ⟨db, 0, none⟩) n dc ∧ B ≤ db ∧ w2.heap[db]? = some (.cells cur 3 (0, 0)) ∧ cur.toList.take n = xs := by
  rcases h.2 with ⟨e, h0⟩ | ⟨g, cap, cur, e, hb, hg, hnc, hm', hs, ht⟩
  · exact absurd h0 (by omega)
  · exact ⟨g, cap, cur, e, hb, hg, by simpa using ht⟩

set_option maxHeartbeats 4000000 in
set_option maxRecDepth 100000 in
theorem rec_in (n : Nat) (hn : 1 ≤ n) (l bD bC bL : Nat) (m : List Int) (ds : List (List Int)) (A : Option Addr) (c : Nat) (lf : Int) (w0 W : World) (J Jx : List Dg → World → Prop)
    (hW : Below w0.heap.size w0 W) (hJ : AbidesFrom W.heap.size J) (hY : RoundsD n l w0.heap.size 68 J Jx) (hS : w0.rangeAt bD 0 (u8s m)) (hC : w0.cell? ⟨bC, 0, none⟩ = some (.slice A 68 c)) (hd : Dgs w0 (.slice A 68 c) ds) (hds : ds.length = 68) (hLf : w0.cell? ⟨bL, 0, none⟩ = some (.int .i64 lf))
    (hlm : m.length = 16) (hm : u8s_ok m) (hk : w0.rangeAt 18 0 (u32s kk)) (h18 : 18 < w0.heap.size) (h0 : J [] W) :
    CallsIn Fence.wide n Tryz.prog 132 #[.func (.yield l) #[] #[], .pointer (some ⟨bD, 0, none⟩), .pointer (some ⟨bC, 0, none⟩), .pointer (some ⟨bL, 0, none⟩)] W fun e W' => (∃ v, e = .returned v) ∧
      ((∃ ys, ys = recD lf ds m 68 ∧ J ys W') ∨ (∃ pre, True ∧ Jx pre W')) := by
  have hi43 : ∀ V : List Int, V.length = 16 → (Tryz.prog.info? 24).map (·.size) = some (u8s V).length := fun V h => by rw [u8s_len', h]; exact Tryz.size24
  obtain ⟨b, off, c', he, hc1, hc2, hc3, hrow⟩ := hd.cells (by intro e; rw [e] at hds; simp at hds)
  simp only [Value.slice.injEq] at he
  obtain ⟨rfl, -, rfl⟩ := he
  rw [hds] at hc1 hrow
  have hdig := hd.at
  rw [hds] at hdig
  have HJ := Lib.hid hJ
  have HY := Lib.hid hY
  have J0 := Lib.hid h0
  have HS := Lib.hid (range_below hS hW)
  have HC := Lib.hid hC
  have HDG := Lib.hid hdig
  have HROW := Lib.hid hrow
  have HLF := Lib.hid hLf
  have HLM := Lib.hid hlm
  have HM := Lib.hid hm
  have HKW := Lib.hid hk
  have HC1 := Lib.hid hc1
  clear hY hJ h0 hS hLf hlm hm hk hd hdig hrow hC hc2 hc3 hc1 hds
  refine callsIn_of_wp Tryz.func132 rfl trivial ?_ rfl
  simp only [Tryz.ntmps132, List.size_toArray, List.length_cons, List.length_nil, Nat.reduceAdd, Nat.reduceSub, Array.replicate_succ, Array.replicate_zero, List.push_toArray, List.append_toArray, List.nil_append, List.cons_append]
  gi_wp2_with (first | (refine wpListIn_load_g wideF rfl 24 (.tmp 1) rfl bD 0 rfl (u8s m) _ HS.out Tryz.underlying24 rfl (hi43 m HLM.out) ?_) | (refine ⟨trivial, ?_⟩; gi_at_call 133; refine (callsIn_wide.2 (digits_any m HLM.out HM.out W)).mono ?_; rintro _ w2 ⟨dv, rfl, hdown, hb2⟩; obtain ⟨db, dc, cur, he, hdb, hcur, htk⟩ := ints_block (by decide) hdown; subst he))
  have hdl : (digits m).length = 68 := by
    have := hdown.1
    simpa [i64s] using this
  have HCUR := Lib.hid hcur
  have HDL := Lib.hid hdl
  have HTK := Lib.hid htk
  have B2 := Lib.hid (hW.trans (hb2.mono hW.size))
  have J2 := Lib.hid (abide_ext HJ.out J0.out hb2)
  have S2 := Lib.hid hb2.size
  clear hdown hb2 hdl hcur htk HS J0
  gi_loopw [10] (fun i wr => ∃ k : Nat, k ≤ 68 ∧ i = .int .i64 k ∧ Hid (J (recD lf ds m k) wr) ∧ Hid (Below w0.heap.size w0 wr) ∧ Hid (W.heap.size ≤ wr.heap.size) ∧ Hid (wr.heap[db]? = some (.cells cur 3 (0, 0))))
    (fun i _ => 68 - (intOf i).toNat)
  case atStart => exact ⟨0, Nat.zero_le _, rfl, J2, B2, S2, HCUR⟩
  case round =>
    clear J2 B2 S2 HCUR
    obtain ⟨k, hk, rfl, hJs, hbel, hsz, hcur⟩ := hrel
    by_cases hlt : k < 68
    · have h18 : 18 < wr.heap.size := Nat.lt_of_lt_of_le h18 hbel.out.size
      have RA := Lib.hid (range_below (HROW.out k hlt) hbel.out)
      have CL := Lib.hid (cell_on hbel.out HLF.out)
      have CC := Lib.hid (cell_on hbel.out HC.out)
      have HK := Lib.hid (range_below HKW.out hbel.out)
      have hc0 : wr.cell? ⟨db, k, none⟩ = some (.int .i64 ((digits m).getD k 0)) := by
        rw [cell_of_row _ _ _ _ _ _ hcur.out]
        have h1 : (cur.toList.take 68)[k]? = some (.int .i64 ((digits m).getD k 0)) := by
          rw [HTK.out]
          simp [i64s, List.getD_eq_getElem?_getD, List.getElem?_eq_getElem (show k < (digits m).length by rw [HDL.out]; exact hlt)]
        rw [List.getElem?_take, if_pos hlt] at h1
        simpa using h1
      obtain ⟨dj, hdj⟩ : ∃ d, d = (digits m).getD k 0 := ⟨_, rfl⟩
      obtain ⟨SE, hSE⟩ : ∃ s, s = ds.getD k [] := ⟨_, rfl⟩
      obtain ⟨R, hR⟩ : ∃ r, r = recAt lf ds m k := ⟨_, rfl⟩
      have hsg := HDG.out k hlt
      have hrg := recAt_good lf ds m k hsg
      have hre : R = runC lf k SE dj 3 := by rw [hR, hSE, hdj]; rfl
      rw [← hSE] at hsg RA
      rw [← hR] at hrg
      rw [← hdj] at hc0
      have HSL := Lib.hid hsg.1
      have HSO := Lib.hid hsg.2
      have HRE := Lib.hid hre
      have HRA := Lib.hid hR
      have HRG := Lib.hid (mkD_val hrg)
      clear hsg hSE hrg hre hR hdj
      have hil : (k : Int) < 68 := by omega
      gi_wp2_with fail
      refine wpIn_region_rely5 wideF ?hq (by kernel_rfl) (by kernel_rfl) 9 (by kernel_rfl) (by kernel_rfl) Ext Ext.refl Ext.trans (fun ix => match ix with
        | 0 => fun _ v => v = .func (.yield l) #[] #[]
        | 1 => fun _ v => v = .slice (some ⟨b, off, none⟩) 68 c
        | 2 => fun _ v => v = .int .i64 k
        | 3 => fun _ v => v = .pointer (some ⟨b, off + k * 16, none⟩)
        | 4 => fun _ v => v = .agg (u8s SE).toArray
        | 5 => fun _ v => v = .int .i64 lf
        | 6 => fun _ v => v = .int .i64 k
        | 7 => fun _ v => v = .int .i64 dj
        | 8 => fun _ v => v = .agg (u8s R).toArray
        | _ => fun _ _ => False) ?_
      case hq => (rintro ⟨_, _, h⟩; exact nomatch h.1)
      simp (maxSteps := 10000000) only [Rely, List.take_succ_cons, List.take_zero, List.drop_succ_cons, List.drop_zero, Nat.reduceAdd, Nat.zero_add, Act.put, List.setIfInBounds_toArray, List.set_cons_succ, List.set_cons_zero]
      refine ⟨?_, ?_, ?_, ?_, ?_, ?_, ?_, ?_, ?_, ?_⟩
      · refine step_plain rfl fun vs wq hE hd => ?_
        exact gives_move _ (.func (.yield l) #[] #[]) (.inl rfl) rfl ⟨Ext.refl _, fun _ _ => rfl⟩
      · refine step_plain rfl fun vs wq hE hd => ?_
        have hc := cell_on (bel_drew1 hE) CC.out
        exact gives_loadAt 54 _ rfl (.pointer (some ⟨bC, 0, none⟩)) (.slice (some ⟨b, off, none⟩) 68 c) rfl (by go_simp) ⟨Ext.refl _, fun _ _ => rfl⟩
      · refine step_plain rfl fun vs wq hE hd => ?_
        exact gives_move _ (.int .i64 k) (.inl rfl) rfl ⟨Ext.refl _, fun _ _ => rfl⟩
      · refine step_plain rfl fun vs wq hE hd => ?_
        exact gives_indexAt 54 _ _ rfl (.slice (some ⟨b, off, none⟩) 68 c) (.int .i64 k) (.pointer (some ⟨b, off + k * 16, none⟩)) (show vs 1 = _ from hd.1) (show vs 2 = _ from hd.2.1) (by go_simp) ⟨Ext.refl _, fun _ _ => rfl⟩
      · refine step_plain rfl fun vs wq hE hd => ?_
        exact gives_load_row 24 _ rfl b (off + k * 16) (show vs 3 = _ from (hd.1)) (u8s SE) _ (range_below RA.out (bel_drew1 hE)) Tryz.underlying24 rfl (hi43 SE HSL.out) ⟨Ext.refl _, fun _ _ => rfl⟩
      · refine step_plain rfl fun vs wq hE hd => ?_
        have hc := cell_on (bel_drew1 hE) CL.out
        exact gives_loadAt 3 _ rfl (.pointer (some ⟨bL, 0, none⟩)) (.int .i64 lf) rfl (by go_simp) ⟨Ext.refl _, fun _ _ => rfl⟩
      · refine step_plain rfl fun vs wq hE hd => ?_
        exact gives_move _ (.int .i64 k) (.inl rfl) rfl ⟨Ext.refl _, fun _ _ => rfl⟩
      · refine step_plain rfl fun vs wq hE hd => ?_
        exact gives_move _ (.int .i64 dj) (.inl rfl) rfl ⟨Ext.refl _, fun _ _ => rfl⟩
      · refine step_plain rfl fun vs wq hE hd => ?_
        refine gives_call 134 (enters_of Tryz.func134 (by kernel_rfl) rfl) _ _ rfl rfl [.agg (u8s SE).toArray, .int .i64 lf, .int .i64 k, .int .i64 dj, .int .i64 3] ?_ ?_
        · show [vs 4, vs 5, vs 6, vs 7, Value.int .i64 3] = _
          rw [show vs 4 = _ from (hd.1), show vs 5 = _ from (hd.2.1), show vs 6 = _ from (hd.2.2.1), show vs 7 = _ from (hd.2.2.2.1)]
        · refine (run_any SE HSL.out HSO.out lf k dj 3 wq (range_below HK.out (bel_drew1 hE)) (Nat.lt_of_lt_of_le h18 (bel_drew1 hE).size)).mono ?_
          rintro _ w'' ⟨rfl, hb⟩
          exact ⟨_, rfl, hb, fun _ _ => by rw [HRE.out]; rfl⟩
      · intro vs w2 hE hR

        have h0 : vs 0 = _ := hR 0 (by omega)
        have h8 : vs 8 = _ := hR 8 (by omega)
        rw [h0, h8]
        have L1 : Below wr.heap.size wr w2 := ext_of_drew hE
        have B1 := Lib.hid (hbel.out.trans (L1.mono hbel.out.size))
        have S1 := Lib.hid (Nat.le_trans hsz.out L1.size)
        have G1 := Lib.hid (blk_below hcur.out L1)
        obtain ⟨fn, tmps, assign, body, hy, hRR⟩ := HY.out _ (mkD R) w2 (abide_ext HJ.out hJs.out L1) (by rw [recD_len]; omega)
        have HRR := Lib.hid hRR
        rw [dgv, HRG.out] at hy
        clear hR hE h0 h8 L1 hRR hJs hbel hsz hcur
        refine wpList_done ?_
        gi_wp2_with fail
        refine HRR.out.mono ?_
        rintro e W3 (⟨rfl, hJ3, hk3⟩ | ⟨rfl, hJx3⟩)
        · have B3 := Lib.hid (B1.out.trans hk3.1)
          have S3 := Lib.hid (Nat.le_trans S1.out hk3.1.size)
          have J3 := Lib.hid hJ3
          have G3 := Lib.hid (hk3.2 _ _ G1.out)
          clear hJ3 hk3 HRR hy
          gi_wp2
          go_roundw
          case rel => exact ⟨k + 1, by omega, by go_num, Lib.hid (by rw [recD_succ, ← HRA.out]; exact J3.out), B3, S3, G3⟩
          case measure => simp [intOf]; omega
        · clear HRR hy
          gi_wp2
          refine bodyPost_ret (results_none rfl _ _ _) rfl ?_
          exact ⟨⟨_, rfl⟩, .inr ⟨_, trivial, hJx3⟩⟩
    · obtain rfl : k = 68 := by omega
      gi_wp2
      go_end0
      exact ⟨⟨_, rfl⟩, .inl ⟨_, rfl, hJs.out⟩⟩
theorem rec_stops (n : Nat) (hn : 1 ≤ n) (bD bC bL : Nat) (m : List Int) (ds : List (List Int)) (A : Option Addr) (c : Nat) (lf : Int) (w0 : World) (hS : w0.rangeAt bD 0 (u8s m)) (hC : w0.cell? ⟨bC, 0, none⟩ = some (.slice A 68 c)) (hd : Dgs w0 (.slice A 68 c) ds) (hds : ds.length = 68) (hLf : w0.cell? ⟨bL, 0, none⟩ = some (.int .i64 lf))
    (hlm : m.length = 16) (hm : u8s_ok m) (hk : w0.rangeAt 18 0 (u32s kk)) (h18 : 18 < w0.heap.size) :
    SeqStopsK Fence.wide n Tryz.prog 132 #[.pointer (some ⟨bD, 0, none⟩), .pointer (some ⟨bC, 0, none⟩), .pointer (some ⟨bL, 0, none⟩)] (fun x : Dg => #[dgv x]) (Kp3 w0.heap.size) (fun ys => ys = recD lf ds m 68) (fun _ => True) 68 w0 :=
  fun l J Jx W hW hJ _ hY h0 => rec_in n hn l bD bC bL m ds A c lf w0 W J Jx hW hJ hY hS hC hd hds hLf hlm hm hk h18 h0
end Go.Proofs.YtniknhhejlgdfaaGreatDoor
/- What Join of the trees does. -/
namespace Go.Proofs.YtniknhhejlgdfaaGreatDoor
open Go.RowKit

def joinC (a b : List Int) : List Int := short 4 [a, b]
theorem join_good (a b : List Int) : (joinC a b).length = 16 ∧ u8s_ok (joinC a b) := ⟨short_len _ _, short_ok _ _⟩
theorem join_small (a b : List Int) (ha : a.length = 16) (hb : b.length = 16) : (framed 4 [a, b]).length ≤ 1099511627776 := by simp [framed, be4, ha, hb]
theorem build30_2 (a b : Option Addr) (n1 n2 c1 c2 : Nat) (w : World) : (Instr.buildSlice 30 2 #[(0, .slice a n1 c1), (1, .slice b n2 c2)]).run Tryz.prog w = .ok (.slice (some ⟨w.heap.size, 0, none⟩) 2 2) (w.alloc (.cells #[.slice a n1 c1, .slice b n2 c2] 137)) := by
  go_simp

set_option maxHeartbeats 4000000 in
set_option maxRecDepth 100000 in
theorem join_any (x y : List Int) (hl : x.length = 16) (hx : u8s_ok x) (hly : y.length = 16) (hy : u8s_ok y) (w : World) (hk : w.rangeAt 18 0 (u32s kk)) (h18 : 18 < w.heap.size) :
    Calls Tryz.prog 135 #[.agg (u8s x).toArray, .agg (u8s y).toArray] w fun e w' => e = .returned (.agg (u8s (joinC x y)).toArray) ∧ Below w.heap.size w w' := by
  have HK := Lib.hid hk
  clear hk
  obtain ⟨W0, hW0⟩ : ∃ W0, W0 = ((w.alloc (.cells (u8s x).toArray 24)).alloc (.cells (u8s y).toArray 24)).alloc (Obj.cells (Array.replicate 16 (Value.int .u8 0)) 24) := ⟨_, rfl⟩
  have hx0 : W0.heap[w.heap.size]? = some (.cells (u8s x).toArray 24 (0, 0)) := by
    rw [hW0, Below.heap_alloc _ _ _ (by simp; omega), Below.heap_alloc _ _ _ (by simp)]
    exact heap_alloc_new w _
  have hy0 : W0.heap[w.heap.size + 1]? = some (.cells (u8s y).toArray 24 (0, 0)) := by
    rw [hW0, Below.heap_alloc _ _ _ (by simp)]
    have := heap_alloc_new (w.alloc (.cells (u8s x).toArray 24)) (.cells (u8s y).toArray 24)
    simpa using this
  have hr0 : Has W0 (w.heap.size + 1 + 1) 24 16 := by
    rw [hW0]
    have := has_new2 (w.alloc (.cells (u8s x).toArray 24)) (.cells (u8s y).toArray 24) (Array.replicate 16 (Value.int .u8 0)) 24 16 rfl
    simpa using this
  have hb0 : Below w.heap.size w W0 := by rw [hW0]; exact (((Below.refl _ _).alloc (Nat.le_refl _) _).alloc (by simp) _).alloc (by simp; omega) _
  have hbx : Bs W0 (.slice (some ⟨w.heap.size, 0, none⟩) x.length 16) x := Bs.of_blk hx0 hx (by omega) (by unfold maxLen; omega)
  have hby : Bs W0 (.slice (some ⟨w.heap.size + 1, 0, none⟩) y.length 16) y := Bs.of_blk hy0 hy (by omega) (by unfold maxLen; omega)
  rw [hl] at hbx
  rw [hly] at hby
  obtain ⟨ST, hST⟩ : ∃ s, s = joinC x y := ⟨_, rfl⟩
  have hSl : ST.length = 16 := by rw [hST]; exact short_len _ _
  have hfl := join_small x y hl hly
  have hi43 : (Tryz.prog.info? 24).map (·.size) = some (u8s ST).length := by rw [u8s_len', hSl]; exact Tryz.size24
  have hhas : ∀ w3, Ext W0 w3 → Has w3 (w.heap.size + 1 + 1) 24 (u8s ST).length := fun w3 h => by
    rw [u8s_len', hSl]
    exact hr0.below h
  have HBX := Lib.hid hbx
  have HBY := Lib.hid hby
  have HFL := Lib.hid hfl
  have HST := Lib.hid hST
  have HI := Lib.hid hi43
  have HH := Lib.hid hhas
  have HB0 := Lib.hid hb0
  clear hbx hby hfl hST hi43 hhas hSl hx0 hy0 hr0 hb0 hl hx hly hy
  go_enter Tryz.func135, Tryz.ntmps135
  go_wp2_with fail
  change Code.wp _ _ _ _ (((w.alloc (.cells (u8s x).toArray 24)).alloc (.cells (u8s y).toArray 24)).alloc (Obj.cells (Array.replicate 16 (Value.int .u8 0)) 24))
  rw [← hW0]
  clear hW0
  refine wp_region_rely (by kernel_rfl) 4 (by kernel_rfl) (by kernel_rfl) Ext Ext.refl Ext.trans (fun ix => match ix with
    | 0 => fun _ v => v = .slice (some ⟨w.heap.size, 0, none⟩) 16 16
    | 1 => fun _ v => v = .slice (some ⟨w.heap.size + 1, 0, none⟩) 16 16
    | 2 => fun w v => ∃ A, v = .slice A 2 2 ∧ Bss w (.slice A 2 2) [x, y]
    | 3 => fun _ v => v = .agg (u8s ST).toArray
    | _ => fun _ _ => False) ?_
  simp (maxSteps := 10000000) only [Rely, List.take_succ_cons, List.take_zero, List.drop_succ_cons, List.drop_zero, Nat.reduceAdd, Nat.zero_add, Act.put, List.setIfInBounds_toArray, List.set_cons_succ, List.set_cons_zero]
  refine ⟨?_, ?_, ?_, ?_, ?_⟩
  · refine step_plain rfl fun vs w1 hE hd => ?_
    exact gives_slice 24 _ none none none rfl (.pointer (some ⟨w.heap.size, 0, none⟩)) (.slice (some ⟨w.heap.size, 0, none⟩) 16 16) none none none rfl rfl rfl rfl (slice43 _ _) ⟨Ext.refl _, fun _ _ => rfl⟩
  · refine step_plain rfl fun vs w1 hE hd => ?_
    exact gives_slice 24 _ none none none rfl (.pointer (some ⟨w.heap.size + 1, 0, none⟩)) (.slice (some ⟨w.heap.size + 1, 0, none⟩) 16 16) none none none rfl rfl rfl rfl (slice43 _ _) ⟨Ext.refl _, fun _ _ => rfl⟩
  · refine step_plain rfl fun vs w1 hE hd => ?_
    have e0 : vs 0 = _ := hd.1
    have e1 : vs 1 = _ := hd.2.1
    have bx : Bs w1 _ x := HBX.out.below (ext_of_drew hE)
    have bY : Bs w1 _ y := HBY.out.below (ext_of_drew hE)
    refine gives_build 30 2 _ rfl #[(0, .slice (some ⟨w.heap.size, 0, none⟩) 16 16), (1, .slice (some ⟨w.heap.size + 1, 0, none⟩) 16 16)] ?_ _ (build30_2 _ _ _ _ _ _ _) ⟨(Below.refl _ _).alloc (Nat.le_refl _) _, fun w5 h5 => ⟨_, rfl, Bss.below (Bss.new w1 [.slice (some ⟨w.heap.size, 0, none⟩) 16 16, .slice (some ⟨w.heap.size + 1, 0, none⟩) 16 16] [x, y] rfl (fun j hj => ?_) (by simp)) h5⟩⟩
    · simp only [List.map_toArray, List.map_cons, List.map_nil]
      show #[(0, vs 0), (1, vs 1)] = _
      rw [e0, e1]
    · have hj4 : j = 0 ∨ j = 1 := by simp at hj; omega
      rcases hj4 with rfl | rfl
      · exact bx
      · exact bY
  · refine step_plain rfl fun vs w1 hE hd => ?_
    obtain ⟨A7, e7, b7⟩ : ∃ A, vs 2 = .slice A 2 2 ∧ Bss w1 (.slice A 2 2) [x, y] := hd.1
    have hw1 : Below w.heap.size w w1 := HB0.out.trans (Below.mono (ext_of_drew hE) HB0.out.size)
    refine gives_call 73 Tryz.call73 _ _ rfl rfl [.int .i64 4, .slice A7 2 2] (congrArg (fun x => [Value.int .i64 4, x]) e7) ?_
    refine (of_any 4 [x, y] A7 2 2 w1 b7 rfl HFL.out (range_below HK.out hw1) (by have := hw1.size; omega)).mono ?_
    rintro e w2 ⟨rfl, hb⟩
    exact ⟨_, rfl, hb, fun _ _ => by rw [HST.out]; rfl⟩
  · intro vs w3 hE hR
    have h8 : vs 3 = .agg (u8s ST).toArray := hR 3 (by omega)
    rw [h8]
    have he : Ext W0 w3 := ext_of_drew hE
    have HH3 := Lib.hid (HH.out w3 he)
    have HB3 := Lib.hid (HB0.out.trans (Below.mono he HB0.out.size))
    clear hR hE h8 HH he
    go_wp2_with (refine wpList_store_row rfl 24 (.tmp 4) (.tmp 8) rfl (w.heap.size + 1 + 1) rfl (u8s ST) rfl 24 HH3.out HI.out (one_u8s _) ?_; intro w10 hp10)
    refine bodyPost_ret (v := .agg (u8s ST).toArray) (results_cell_row rfl _ _ (w.heap.size + 1 + 1) 24 _ (0, 0) _ rfl hp10.blk Tryz.underlying24 rfl (by simpa using HI.out)) rfl ⟨by rw [HST.out], hp10.below HB3.out (by omega)⟩

end Go.Proofs.YtniknhhejlgdfaaGreatDoor
/- What chains.public does with an iterator over ends. -/
namespace Go.Proofs.YtniknhhejlgdfaaGreatDoor
open Go.RowKit Go.Shelf
attribute [local go_sem] Oper.semAt_some

theorem own_kept' {w w' : World} {base e s n : Nat} {v : Value} {xs : List Value} {row : Option Nat} (h : w.ownsRow base e s v n xs) (hg : w.grownBy w' row) (hr : ∀ k, row = some k → ∃ o : Obj, w.heap[k]? = some o ∧ o.isCells = false) : w'.ownsRow base e s v n xs := by
  refine h.kept hg ?_
  rcases h.2 with ⟨rfl, _⟩ | ⟨g, cap, cur, rfl, _, hgb, _⟩
  · exact .inl rfl
  · refine .inr fun e' => ?_
    obtain ⟨o, ho, hc⟩ := hr g (by simpa [Value.ownBlock] using e'.symm)
    rw [hgb] at ho; cases ho; cases hc
theorem boxed_kept' {w w' : World} {B t : Nat} {v : Value} {row : Option Nat} (h : Boxed w B t v) (hg : w.grownBy w' row) (hr : ∀ k, row = some k → ∃ o : Obj, w.heap[k]? = some o ∧ o.isCells = false) : Boxed w' B t v :=
  h.kept hg (fun e => by
    obtain ⟨o, ho, hc⟩ := hr B e.symm
    rw [show w.heap[B]? = _ from h] at ho; cases ho; cases hc)
theorem has_kept' {w w' : World} {b t n : Nat} {row : Option Nat} (h : Has w b t n) (hg : w.grownBy w' row) (hr : ∀ k, row = some k → ∃ o : Obj, w.heap[k]? = some o ∧ o.isCells = false) : Has w' b t n := by
  obtain ⟨Z, hz, hb⟩ := h
  refine ⟨Z, hz, (hg.block b (blk_lt hb) fun e => ?_).trans hb⟩
  obtain ⟨o, ho, hc⟩ := hr b e.symm
  rw [hb] at ho; cases ho; cases hc
theorem own_not {w : World} {base e s n : Nat} {v : Value} {xs : List Value} (h : w.ownsRow base e s v n xs) {k : Nat} {cs : Array Value} {t : TypeId} {fr : Nat × Nat} (hk : w.heap[k]? = some (.cells cs t fr)) (ht : t ≠ e) : v.ownBlock ≠ some k := by
  rcases h.2 with ⟨rfl, _⟩ | ⟨g, cap, cur, rfl, _, hgb, _⟩
  · simp [Value.ownBlock]
  · intro e'
    simp only [Value.ownBlock, Option.some.injEq] at e'
    subst e'
    rw [hgb] at hk
    cases hk
    exact ht rfl
theorem own_bel {w w' : World} {base e s n : Nat} {v : Value} {xs : List Value} (h : w.ownsRow base e s v n xs) (hb : Below w.heap.size w w') : w'.ownsRow base e s v n xs :=
  h.kept (row := none) ⟨hb.os, hb.tape, hb.output, hb.size, fun k hk _ => hb.block k hk⟩ (by cases h' : v.ownBlock <;> simp)
theorem others_bel {w w' : World} (hb : Below w.heap.size w w') : KeepsOthers w w' := ⟨hb.size, fun _ _ ho _ => blk_below ho hb⟩
/-- A box whose row has grown. -/
theorem boxed_app {W w1 : World} {n₀ B : Nat} {t e : TypeId} {size : Nat} {v v' : Value} {k m : Nat} {xs ys : List Value}
    (hv : Boxed W B t v) (hte : t ≠ e) (hrow : W.ownsRow n₀ e size v k xs) (hn₀ : n₀ ≤ W.heap.size) (hB : n₀ ≤ B)
    (hown' : w1.ownsRow n₀ e size v' m ys) (hgrow : W.grownBy w1 v.ownBlock) :
    Boxed w1 B t v ∧ Boxed (w1.setCell ⟨B, 0, none⟩ v') B t v' ∧ (w1.setCell ⟨B, 0, none⟩ v').ownsRow n₀ e size v' m ys ∧ KeepsOthers W (w1.setCell ⟨B, 0, none⟩ v') ∧ Below n₀ W (w1.setCell ⟨B, 0, none⟩ v') ∧
      ∀ (j : Nat) (cs : Array Value) (t' : TypeId) (fr : Nat × Nat), t' ≠ t → t' ≠ e → W.heap[j]? = some (Obj.cells cs t' fr) → (w1.setCell ⟨B, 0, none⟩ v').heap[j]? = some (Obj.cells cs t' fr) := by
  have hv1 : Boxed w1 B t v := hv.kept hgrow (hv.not_row hte hrow)
  refine ⟨hv1, hv1.set v', hown'.kept (grownBy_setCell' w1 B v') (.inr (hv1.not_row hte hown').symm), ?_, ?_, ?_⟩
  · refine (KeepsOthers.of_grownBy hgrow fun j o ej hj => ?_).trans (KeepsOthers.setCell _ _ _)
    rcases hrow.2 with ⟨rfl, _⟩ | ⟨g, cap, cur, rfl, _, hgb, _⟩
    · simp [Value.ownBlock] at ej
    · obtain rfl : g = j := by simpa [Value.ownBlock] using ej
      rw [hgb] at hj; cases hj; rfl
  · refine ((Below.refl n₀ W).grown hgrow hn₀ fun j ej => ?_).setCell (p := ⟨B, 0, none⟩) hB v'
    rcases hrow.2 with ⟨rfl, _⟩ | ⟨g, cap, cur, rfl, hb, _, _⟩
    · simp [Value.ownBlock] at ej
    · obtain rfl : g = j := by simpa [Value.ownBlock] using ej
      exact hb
  · intro j cs t' fr h1 h2 hj
    have hne : j ≠ B := fun e0 => by
      subst e0
      rw [show W.heap[j]? = _ from hv] at hj
      cases hj
      exact h1 rfl
    exact (heap_setCell_other w1 ⟨B, 0, none⟩ j v' hne).trans ((hgrow.block j (blk_lt hj) (own_not hrow hj h2).symm).trans hj)

/-- What the loop over ends holds. -/
structure PubI (w : World) (es : List Dg) (W : World) : Prop where
  all : ∃ v, Boxed W (w.heap.size + 1) 137 v ∧ W.ownsRow w.heap.size 5 1 v (16 * es.length) (u8s (es.map (·.1)).flatten)
  res : Has W w.heap.size 24 16
  bel : Below w.heap.size w W
theorem PubI.go {w W W' : World} {es : List Dg} (h : PubI w es W) (hb : Below W.heap.size W W') : PubI w es W' := by
  obtain ⟨v, h1, h2⟩ := h.all
  exact ⟨⟨v, blk_below h1 hb, own_bel h2 hb⟩, h.res.below hb, h.bel.trans (hb.mono h.bel.size)⟩
theorem PubI.own {w : World} {B : Nat} (hB : w.heap.size ≤ B) : OwnFrom B (fun pre W => PubI w pre W) := by
  intro s X Y row hs hg hr
  have hr' := fun k e => (hr k e).2
  obtain ⟨v, h1, h2⟩ := hs.all
  exact ⟨⟨v, boxed_kept' h1 hg hr', own_kept' h2 hg hr'⟩, has_kept' hs.res hg hr', hs.bel.grown hg hs.bel.size fun k e => by have := (hr k e).1; omega⟩
theorem own_form {w : World} {base e s n : Nat} {v : Value} {xs : List Value} (h : w.ownsRow base e s v n xs) : ∃ A c, v = .slice A n c := by
  rcases h.2 with ⟨rfl, rfl⟩ | ⟨g, cap, cur, rfl, _⟩
  · exact ⟨none, 0, rfl⟩
  · exact ⟨_, _, rfl⟩
theorem Tryz.info5' : ∃ i, Tryz.prog.info? 5 = some i ∧ i.zero = some (.int .u8 0) ∧ i.size = 1 ∧ i.bytes = 1 := by
  obtain ⟨i, h1, h2⟩ := Option.map_eq_some_iff.1 Tryz.info5
  simp only [Prod.mk.injEq] at h2
  exact ⟨i, h1, h2.1, h2.2.1, h2.2.2⟩
theorem add_cell {w : World} {b : Nat} {cs : List Value} (h : w.rangeAt b 0 cs) : ∀ j u, cs[j]? = some u → w.cell? ((⟨b, 0, none⟩ : Addr).add j) = some u := fun j u hu => by
  rw [show (⟨b, 0, none⟩ : Addr).add j = ⟨b, 0 + j, none⟩ by unfold Addr.add; split <;> simp_all]
  exact h j u hu

set_option maxHeartbeats 8000000 in
set_option maxRecDepth 100000 in
theorem public_any (gf : Nat) (lb : Array Value) (es : List Dg) (lf : Int) (w : World) (hes : es.length = 68) (eg : ∀ args w, (callFunc gf args).run Tryz.prog w = .ok (.enter gf args) w)
    (hseq : SeqStopsK Fence.wide 3 Tryz.prog gf lb (fun x : Dg => #[dgv x]) (Kp3 w.heap.size) (fun ys => ys = es) (fun _ => True) 68 w) (hk : w.rangeAt 18 0 (u32s kk)) (h18 : 18 < w.heap.size) :
    Calls Tryz.prog 131 #[.int .i64 lf, .func (.func gf) #[] lb] w fun e w' => e = .returned (.agg (u8s (publicC lf (es.map (·.1)))).toArray) ∧ Below w.heap.size w w' := by
  have hi43 : ∀ V : List Int, V.length = 16 → (Tryz.prog.info? 24).map (·.size) = some (u8s V).length := fun V h => by rw [u8s_len', h]; exact Tryz.size24
  obtain ⟨i5, hi5, hz50, hz51, hz52⟩ := Tryz.info5'
  have HES := Lib.hid hes
  have HK := Lib.hid hk
  clear hes hk
  refine (callsIn_wide (n := 4)).1 ?_
  refine callsIn_of_wp_marks Tryz.func131 rfl trivial ?_ rfl
  simp only [Tryz.ntmps131, List.size_toArray, List.length_cons, List.length_nil, Nat.reduceAdd, Nat.reduceSub, Array.replicate_succ, Array.replicate_zero, List.push_toArray, List.append_toArray, List.nil_append, List.cons_append]
  gi_wp2
  obtain ⟨w1, hw1⟩ : ∃ x, x = (w.alloc (Obj.cells (Array.replicate 16 (Value.int .u8 0)) 24)).alloc (.cells #[.slice none 0 0] 137) := ⟨_, rfl⟩
  have z1 : w1.heap.size = w.heap.size + 2 := by rw [hw1]; simp
  have hB : Below w.heap.size w w1 := by rw [hw1]; exact ((Below.refl _ _).alloc (Nat.le_refl _) _).alloc (by simp) _
  have x1 : Boxed w1 (w.heap.size + 1) 137 (.slice none 0 0) := by
    rw [hw1]
    have := Boxed.new (w.alloc (Obj.cells (Array.replicate 16 (Value.int .u8 0)) 24)) 137 (.slice none 0 0)
    rwa [World.size_alloc] at this
  have r1 : Has w1 w.heap.size 24 16 := by rw [hw1]; exact has_old w _ _ _ _ rfl
  have I0 : PubI w [] w1 := ⟨⟨_, x1, World.ownsRow_nil _ _ _ _⟩, r1, hB⟩
  have HI0 := Lib.hid I0
  try change Code.wpIn _ _ _ _ _ _ ((w.alloc (Obj.cells (Array.replicate 16 (Value.int .u8 0)) 24)).alloc (.cells #[.slice none 0 0] 137))
  rw [← hw1]
  clear hw1 x1 r1 I0
  refine wpIn_rangeFunc_ownH rfl (by omega) (gf := gf) (lb := lb) rfl trivial eg hseq kp3_t (kp3_b (by omega)) hB (fun _ => rfl)
    (fun pre W => PubI w pre W) (fun _ _ _ => False) (PubI.own (by omega)) (fun _ _ _ _ _ h _ _ => h) HI0.out
    (fun x a' W => ∃ eb, w.heap.size + 2 ≤ eb ∧ W.heap[eb]? = some (.cells (u8s x.1).toArray 24 (0, 0)) ∧ a' = { tmps := #[.int .i64 lf, .func (.func gf) #[] lb, undef, undef, .pointer (some ⟨w.heap.size, 0, none⟩), .pointer (some ⟨w.heap.size + 1, 0, none⟩), .pointer (some ⟨eb, 0, none⟩), .func (.func gf) #[] lb, .agg (u8s x.1).toArray, undef, undef, undef, undef, undef, undef, undef, undef], defers := [] })
    ?hAx ?assign ?body ?done ?stop
  case hAx =>
    rintro x a' s X Y row ⟨eb, h1, h2, h3⟩ hg hr
    refine ⟨eb, h1, (hg.block eb (blk_lt h2) fun e => ?_).trans h2, h3⟩
    obtain ⟨o, ho, hc⟩ := (hr eb e.symm).2
    rw [h2] at ho; cases ho; cases hc
  case stop =>
    rintro D c pre W _ _ h _
    exact h.elim
  case assign =>
    intro l pre x W K hI hK
    have hsz : w.heap.size + 2 ≤ W.heap.size := by
      obtain ⟨v, h1, _⟩ := hI.all
      have := blk_lt h1
      omega
    have hxl : x.1.length = 16 := x.2.1
    have HXI := Lib.hid (hi43 x.1 hxl)
    have HHX := Lib.hid (has_new W (Array.replicate 16 (Value.int .u8 0)) 24 (u8s x.1).length (by rw [u8s_len', hxl]; rfl))
    have HIW := Lib.hid hI
    clear hI hxl
    gi_wp2_with (refine wpListIn_store_row (roundF l) rfl 24 (.tmp 6) (.tmp 8) rfl W.heap.size rfl (u8s x.1) rfl 24 HHX.out HXI.out (one_u8s _) ?_; intro w9 hp9)
    have L9 : Below W.heap.size W w9 := hp9.below ((Below.refl _ _).alloc (Nat.le_refl _) _) (Nat.le_refl _)
    exact hK _ w9 ((others_bel L9).from _) (kp3_below (by omega) L9) (HIW.out.go L9) ⟨W.heap.size, hsz, hp9.blk, rfl⟩
  case body =>
    rintro l pre x a' W _ _ hI ⟨eb, heb, hex, rfl⟩ hlt
    obtain ⟨v, hbx, hrow⟩ := hI.all
    have hxl : x.1.length = 16 := x.2.1
    obtain ⟨ln, hln⟩ : ∃ m, m = 16 * pre.length := ⟨_, rfl⟩
    have hln2 : ln ≤ 1088 := by omega
    rw [← hln] at hrow
    obtain ⟨Ao, co, rfl⟩ := own_form hrow
    have CA := Lib.hid hbx.cell
    have HIW := Lib.hid hI
    have HEX := Lib.hid hex
    have HROW := Lib.hid hrow
    have HBX := Lib.hid hbx
    have HXL := Lib.hid hxl
    have HLN := Lib.hid hln
    clear hI hex hrow hbx hxl hln hlt
    gi_wp2_with fail
    refine wpIn_region_rely5 (roundF l) ?hq (by kernel_rfl) (by kernel_rfl) 2 (by kernel_rfl) (by kernel_rfl) Ext Ext.refl Ext.trans (fun ix => match ix with
      | 0 => fun _ v => v = .slice Ao ln co
      | 1 => fun _ v => v = .slice (some ⟨eb, 0, none⟩) 16 16
      | _ => fun _ _ => False) ?_
    case hq => (rintro ⟨_, _, h⟩; exact h.elim)
    simp (maxSteps := 10000000) only [Rely, List.take_succ_cons, List.take_zero, List.drop_succ_cons, List.drop_zero, Nat.reduceAdd, Nat.zero_add, Act.put, List.setIfInBounds_toArray, List.set_cons_succ, List.set_cons_zero]
    refine ⟨?_, ?_, ?_⟩
    · refine step_plain rfl fun vs wq hE hd => ?_
      have hc := cell_on (bel_drew1 hE) CA.out
      exact gives_loadAt 137 _ rfl (.pointer (some ⟨w.heap.size + 1, 0, none⟩)) (.slice Ao ln co) rfl (by go_simp) ⟨Ext.refl _, fun _ _ => rfl⟩
    · refine step_plain rfl fun vs wq hE hd => ?_
      exact gives_slice 24 _ none none none rfl (.pointer (some ⟨eb, 0, none⟩)) (.slice (some ⟨eb, 0, none⟩) 16 16) none none none rfl rfl rfl rfl (slice43 _ _) ⟨Ext.refl _, fun _ _ => rfl⟩
    · intro vs w2 hE hR
      have h0 : vs 0 = _ := hR 0 (by omega)
      have h1 : vs 1 = _ := hR 1 (by omega)
      rw [h0, h1]
      have L2 : Below W.heap.size W w2 := bel_drew1 hE
      have R2 := Lib.hid (own_bel HROW.out L2)
      have X2 := Lib.hid (show Boxed w2 (w.heap.size + 1) 137 (.slice Ao ln co) from blk_below HBX.out L2)
      have E2 := Lib.hid (blk_range (blk_below HEX.out L2))
      have I2 := Lib.hid (HIW.out.go L2)
      have K2 := Lib.hid (others_bel L2)
      have S2 := Lib.hid (kp3_below HIW.out.bel.size L2)
      have hsz2 : w.heap.size ≤ w2.heap.size := I2.out.bel.size
      clear hR hE h0 h1 L2 HROW HBX HEX CA
      refine wpList_done ?_
      gi_wp2_with (gi_at_builtin; refine wpListIn_append_own_at _ rfl _ _ 137 rfl w.heap.size 5 i5 (.int .u8 0) 1 1 Tryz.underlying137 hi5 hz50 hz51 hz52 rfl (by decide) _ ln _ rfl R2.out ⟨eb, 0, none⟩ 16 16 (u8s x.1) rfl (by rw [u8s_len', HXL.out]) (add_cell E2.out) (one_u8s _) (by simp only [maxLen]; omega) (by omega) hsz2 ?_; intro v9 w9 hown9 hgrow9 _ _; obtain ⟨A9, c9, rfl⟩ := own_form hown9; obtain ⟨q1, q2, q3, q4, q5, q6⟩ := boxed_app X2.out (by decide) R2.out hsz2 (by omega) hown9 hgrow9; have hc1 := q1.cell; have hf1 := q1.frozen; clear hown9)
      refine ⟨(K2.out.trans q4).from _, kp3_t S2.out ⟨q5, fun k cs hk => q6 k cs 3 _ (by decide) (by decide) hk⟩, ⟨⟨_, q2, ?_⟩, ?_, I2.out.bel.trans q5⟩⟩
      · have : ln + 16 = 16 * (pre ++ [x]).length := by rw [HLN.out]; simp; omega
        rw [← this]
        simpa [u8s] using q3
      · obtain ⟨Z, hz, hZ⟩ := I2.out.res
        exact ⟨Z, hz, q6 _ _ _ _ (by decide) (by decide) hZ⟩
  case done =>
    rintro D ys W hD rfl hI hK
    obtain ⟨v, hbx, hrow⟩ := hI.all
    rw [HES.out] at hrow
    obtain ⟨FL, hFL⟩ : ∃ f, f = (ys.map (·.1)).flatten := ⟨_, rfl⟩
    have hok : u8s_ok FL := by
      rw [hFL]
      exact flat_ok _ (fun e he => by obtain ⟨d, _, rfl⟩ := List.mem_map.1 he; exact d.2.2)
    have hfl : FL.length = 1088 := by
      rw [hFL, flat_len _ (fun e he => by obtain ⟨d, _, rfl⟩ := List.mem_map.1 he; exact d.2.1), List.length_map, HES.out]
    have hsm : (framed 3 [[lf % 256], FL]).length ≤ 1099511627776 := by rw [hFL]; exact public_small lf _ (fun e he => by obtain ⟨d, _, rfl⟩ := List.mem_map.1 he; exact d.2.1) (by rw [List.length_map, HES.out]; omega)
    rw [← hFL] at hrow
    obtain ⟨Ao, co, rfl⟩ := own_form hrow
    obtain ⟨ln, hln⟩ : ∃ m, m = 16 * 68 := ⟨_, rfl⟩
    have hbs : Bs W (.slice Ao (16 * 68) co) FL := Bs.of_own (OwnO.of_own hrow) hok
    rw [← hln] at hbx hbs
    obtain ⟨ST, hST⟩ : ∃ s, s = publicC lf (ys.map (·.1)) := ⟨_, rfl⟩
    have hSl : ST.length = 16 := by rw [hST]; exact (publicC_good _ _).1
    have hST2 : ST = short 3 [[lf % 256], FL] := by rw [hST, hFL]; rfl
    have CA := Lib.hid hbx.cell
    have HBS := Lib.hid hbs
    have HSM := Lib.hid hsm
    have HST := Lib.hid hST2
    have HSP := Lib.hid hST
    have HSI := Lib.hid (hi43 ST hSl)
    have BF := Lib.hid hI.bel
    have HRS : Hid (Has W w.heap.size 24 (u8s ST).length) := Lib.hid (by rw [u8s_len', hSl]; exact hI.res)
    have HKD := Lib.hid hK
    have hlz : w.heap.size < w1.heap.size := by omega
    clear hI hbx hrow hFL hok hfl hsm hbs hST hST2 hSl hK hln
    gi_wp2_with fail
    refine wpIn_region_rely3 wideF ?hq (by kernel_rfl) (by kernel_rfl) 5 (by kernel_rfl) (by kernel_rfl) Ext Ext.refl Ext.trans (fun ix => match ix with
      | 0 => fun _ v => v = .int .i64 lf
      | 1 => fun W v => Bs W v [lf % 256]
      | 2 => fun _ v => v = .slice Ao ln co
      | 3 => fun W v => ∃ A, v = .slice A 2 2 ∧ Bss W (.slice A 2 2) [[lf % 256], FL]
      | 4 => fun _ v => v = .agg (u8s ST).toArray
      | _ => fun _ _ => False) ?_
    case hq => (rintro ⟨_, _, h⟩; exact nomatch h.1)
    simp (maxSteps := 10000000) only [Rely, List.take_succ_cons, List.take_zero, List.drop_succ_cons, List.drop_zero, Nat.reduceAdd, Nat.zero_add, Act.put, List.setIfInBounds_toArray, List.set_cons_succ, List.set_cons_zero]
    refine ⟨?_, ?_, ?_, ?_, ?_, ?_⟩
    · refine step_plain rfl fun vs wq hE hd => ?_
      exact gives_move _ (.int .i64 lf) (.inl rfl) rfl ⟨Ext.refl _, fun _ _ => rfl⟩
    · refine step_plain rfl fun vs wq hE hd => ?_
      refine gives_call 155 Tryz.call155 _ _ rfl rfl [.int .i64 lf] (congrArg (fun x => [x]) (hd.1)) ?_
      refine (small_any lf wq).mono ?_
      rintro e w2 ⟨rfl, rfl⟩
      exact ⟨_, rfl, (Below.refl _ _).alloc (Nat.le_refl _) _, fun _ h => (Bs.new1 wq lf).below h⟩
    · refine step_plain rfl fun vs wq hE hd => ?_
      have hc := cell_on (bel_drew1 hE) CA.out
      exact gives_loadAt 137 _ rfl (.pointer (some ⟨w.heap.size + 1, 0, none⟩)) (.slice Ao ln co) rfl (by go_simp) ⟨Ext.refl _, fun _ _ => rfl⟩
    · refine step_plain rfl fun vs wq hE hd => ?_
      have b1 : Bs wq (vs 1) [lf % 256] := (hd.1)
      have e2 : vs 2 = _ := (hd.2.1)
      have bx : Bs wq _ FL := HBS.out.below (bel_drew1 hE)
      obtain ⟨A1, c1, e1⟩ := b1.form
      rw [e1] at b1
      refine gives_build 30 2 _ rfl #[(0, .slice A1 1 c1), (1, .slice Ao ln co)] ?_ _ (build30_2 _ _ _ _ _ _ _) ⟨(Below.refl _ _).alloc (Nat.le_refl _) _, fun w5 h5 => ⟨_, rfl, Bss.below (Bss.new wq [.slice A1 1 c1, .slice Ao ln co] [[lf % 256], FL] rfl (fun j hj => ?_) (by simp)) h5⟩⟩
      · simp only [List.map_toArray, List.map_cons, List.map_nil]
        show #[(0, vs 1), (1, vs 2)] = _
        rw [e1, e2]
        rfl
      · have hj4 : j = 0 ∨ j = 1 := by simp at hj; omega
        rcases hj4 with rfl | rfl
        · exact b1
        · exact bx
    · refine step_plain rfl fun vs wq hE hd => ?_
      obtain ⟨A7, e7, b7⟩ : ∃ A, vs 3 = .slice A 2 2 ∧ Bss wq (.slice A 2 2) [[lf % 256], FL] := (hd.1)
      refine gives_call 73 Tryz.call73 _ _ rfl rfl [.int .i64 3, .slice A7 2 2] (congrArg (fun x => [Value.int .i64 3, x]) e7) ?_
      have hwq := BF.out.trans ((bel_drew1 hE).mono BF.out.size)
      refine (of_any 3 [[lf % 256], FL] A7 2 2 wq b7 rfl HSM.out (range_below HK.out hwq) (Nat.lt_of_lt_of_le h18 hwq.size)).mono ?_
      rintro e w2 ⟨rfl, hb⟩
      exact ⟨_, rfl, hb, fun _ _ => by rw [HST.out]; rfl⟩
    · intro vs w2 hE hR
      have h4 : vs 4 = .agg (u8s ST).toArray := hR 4 (by omega)
      rw [h4]
      have L2 : Below W.heap.size W w2 := bel_drew1 hE
      have HH2 := Lib.hid (HRS.out.below L2)
      have BF2 := Lib.hid (BF.out.trans (L2.mono BF.out.size))
      have KD2 := Lib.hid (blk_below HKD.out L2)
      clear hR hE h4 L2
      go_wp2_with (refine wpList_store_row rfl 24 (.tmp 4) (.tmp 16) rfl w.heap.size rfl (u8s ST) rfl 24 HH2.out HSI.out (one_u8s _) ?_; intro w10 hp10)
      gi_wp2_with fail
      have hDne : D ≠ w.heap.size := by omega
      have kd : w10.heap[D]? = some (.deferred (some [])) := (hp10.other D hDne).trans KD2.out
      refine ⟨by simp, .inl ⟨_, _, rfl, run_takeDeferred kd, ?_⟩⟩
      have hbz : Below w.heap.size w w10 := hp10.below BF2.out (Nat.le_refl _)
      refine ⟨_, results_cell_row rfl _ _ w.heap.size 24 _ (0, 0) _ rfl ((World.putObj_heap_other hDne.symm).trans hp10.blk) Tryz.underlying24 rfl (by simpa using HSI.out), by rw [HSP.out], hbz.trans (belowK_b (w := w) (Nat.le_refl _) w10 D _ _ (by omega) kd rfl rfl)⟩
end Go.Proofs.YtniknhhejlgdfaaGreatDoor
/- What rounds keep that gather in a box; slices of digests and the blocks that they lie in. -/
namespace Go.Proofs.YtniknhhejlgdfaaGreatDoor
open Go.RowKit Go.Shelf

theorem Dgs.same {w w' : World} {v : Value} {ds : List (List Int)} (h : Dgs w v ds) (hs : ∀ k, v.ownBlock = some k → w'.heap[k]? = w.heap[k]?) : Dgs w' v ds := by
  refine ⟨h.form, fun hne => ?_, h.good⟩
  obtain ⟨b, off, c, rfl, h1, h2, h3, h4⟩ := h.cells hne
  have hb := hs b rfl
  refine ⟨b, off, c, rfl, h1, h2, ?_, fun i hi j u hu => ?_⟩
  · obtain ⟨o, ho⟩ : ∃ o, w.heap[b]? = some o := ⟨_, Array.getElem?_eq_getElem h3⟩
    exact blk_lt (hb.trans ho)
  · rw [World.cell?_of_block (a := ⟨b, off + i * 16 + j, none⟩) hb]
    exact h4 i hi j u hu
theorem Dgs.blk {w : World} {v : Value} {ds : List (List Int)} (h : Dgs w v ds) (hne : ds ≠ []) : ∃ k o, v.ownBlock = some k ∧ w.heap[k]? = some o ∧ o.isCells = true := by
  obtain ⟨b, off, c, rfl, h1, h2, h3, h4⟩ := h.cells hne
  refine ⟨b, w.heap[b], rfl, Array.getElem?_eq_getElem h3, ?_⟩
  have hl : 0 < ds.length := List.length_pos_iff.2 hne
  obtain ⟨dl, _⟩ := h.at 0 hl
  have hc := h4 0 hl 0 (.int .u8 ((ds.getD 0 []).getD 0 0)) (by simp [u8s, List.getD_eq_getElem?_getD, List.getElem?_eq_getElem (show 0 < (ds.getD 0 []).length by omega)] at *; rw [List.getElem?_eq_getElem (by omega)]; simp)
  unfold World.cell? at hc
  rw [Array.getElem?_eq_getElem h3] at hc
  cases hx : w.heap[b] with
  | cells cs t fr => rfl
  | _ => rw [hx] at hc; simp at hc
end Go.Proofs.YtniknhhejlgdfaaGreatDoor
/- What the reference's Climb does. -/
namespace Go.Proofs.YtniknhhejlgdfaaGreatDoor
open Go.RowKit

def climbAt (x : List Int) (n : Nat) (ds : List (List Int)) : Nat → List Int
  | 0 => x
  | i + 1 => if (n / 2 ^ i) % 2 = 1 then joinC (ds.getD i []) (climbAt x n ds i) else joinC (climbAt x n ds i) (ds.getD i [])
theorem climb_good (x : List Int) (n : Nat) (ds : List (List Int)) (hl : x.length = 16) (hx : u8s_ok x) : ∀ i, (climbAt x n ds i).length = 16 ∧ u8s_ok (climbAt x n ds i)
  | 0 => ⟨hl, hx⟩
  | i + 1 => by unfold climbAt; split <;> exact join_good _ _

theorem results_cell_row_tmp {P : Program} {fn : Func} {p u : Tmp} {ty : TypeId} (h : fn.results = #[.cell p ty, .tmp u]) (tmps : Array Value) (w : World) (g : Nat) (t : TypeId) (cs : Array Value) (fr : Nat × Nat) (d : TypeDesc)
    (hp : tmps.getD p undef = .pointer (some ⟨g, 0, none⟩)) (hg : w.heap[g]? = some (.cells cs t fr))
    (hu : P.underlying ty = some d) (hd : (match d with | .struct _ | .array _ _ => true | _ => false) = true) (hi : (P.info? ty).map (·.size) = some cs.size) {x : Value} (hx : tmps.getD u undef = x) :
    (results fn tmps).run P w = .ok (.tuple #[.agg cs, x]) w := by
  have hp' : tmps[p]?.getD undef = .pointer (some ⟨g, 0, none⟩) := by simpa using hp
  have hx' : tmps[u]?.getD undef = x := by simpa using hx
  simp [results, h, hp', hx', asAddr, run_loadVar_row w g t ty cs fr d hg hu hd hi]

set_option maxHeartbeats 4000000 in
set_option maxRecDepth 100000 in
theorem climb_in (x : List Int) (hl : x.length = 16) (hx : u8s_ok x) (n : Nat) (hn31 : n < 32) (ds : List (List Int)) (A : Option Addr) (k c : Nat) (w : World) (hd : Dgs w (.slice A k c) ds) (hk : k = ds.length) (hk5 : k = 5) (hkk : w.rangeAt 18 0 (u32s kk)) (h18 : 18 < w.heap.size) :
    Calls Tryz.prog 103 #[.agg (u8s x).toArray, .int .i64 n, .slice A k c] w fun e w' => e = .returned (.tuple #[.agg (u8s (climbAt x n ds k)).toArray, .nilIface]) ∧ Below w.heap.size w w' := by
  have hi43 : ∀ V : List Int, V.length = 16 → (Tryz.prog.info? 24).map (·.size) = some (u8s V).length := fun V h => by rw [u8s_len', h]; exact Tryz.size24
  have HD := Lib.hid hd
  have HKL := Lib.hid hk
  have HL := Lib.hid hl
  have HX := Lib.hid hx
  clear hd hk hl hx
  have HK := Lib.hid hkk
  clear hkk
  have hni : (n : Int) < 32 := by omega
  go_enter Tryz.func103, Tryz.ntmps103
  go_wp2
  have hx0 : ((w.alloc (.cells (u8s x).toArray 24)).alloc (Obj.cells (Array.replicate 16 (Value.int .u8 0)) 24)).heap[w.heap.size]? = some (.cells (u8s (climbAt x n ds 0)).toArray 24 (0, 0)) := heap_alloc2_old w _ _
  have hr0 : Has ((w.alloc (.cells (u8s x).toArray 24)).alloc (Obj.cells (Array.replicate 16 (Value.int .u8 0)) 24)) (w.heap.size + 1) 24 16 := has_new2 w _ _ _ _ rfl
  have hb0 : Below w.heap.size w ((w.alloc (.cells (u8s x).toArray 24)).alloc (Obj.cells (Array.replicate 16 (Value.int .u8 0)) 24)) := ((Below.refl _ _).alloc (Nat.le_refl _) _).alloc (by simp) _
  have X0 := Lib.hid hx0
  have R0 := Lib.hid hr0
  have B0 := Lib.hid hb0
  change Code.wp _ _ _ _ ((w.alloc (.cells (u8s x).toArray 24)).alloc (Obj.cells (Array.replicate 16 (Value.int .u8 0)) 24))
  generalize (w.alloc (.cells (u8s x).toArray 24)).alloc (Obj.cells (Array.replicate 16 (Value.int .u8 0)) 24) = wo at *
  clear hx0 hr0 hb0
  go_loopw [1, 27] (fun s q wr => ∃ (i : Nat), i ≤ k ∧ s = .int .i64 ((n / 2 ^ i : Nat) : Int) ∧ q = .int .i64 i ∧ Hid (wr.heap[w.heap.size]? = some (.cells (u8s (climbAt x n ds i)).toArray 24 (0, 0))) ∧ Hid (Has wr (w.heap.size + 1) 24 16) ∧ Hid (Below w.heap.size w wr))
    (fun _ q _ => k - (intOf q).toNat)
  case atStart => exact ⟨0, by omega, by simp, rfl, X0, R0, B0⟩
  case round =>
    clear X0 R0 B0
    obtain ⟨i, hik, rfl, rfl, hXB, hR', hbel⟩ := hrel
    by_cases hlt : i < k
    · have hi2 : i < ds.length := by have := HKL.out; omega
      obtain ⟨b, off, c1, e1, _, _, hbz, h4⟩ := (HD.out).cells (by intro e; rw [e] at hi2; simp at hi2)
      simp only [Value.slice.injEq] at e1
      obtain ⟨rfl, -, rfl⟩ := e1
      have ra := range_below (h4 i hi2) (hbel.out.mono (Nat.le_refl _))
      obtain ⟨dl, do1⟩ := HD.out.at i hi2
      have hcs : climbAt x n ds (i + 1) = if (n / 2 ^ i) % 2 = 1 then joinC (ds.getD i []) (climbAt x n ds i) else joinC (climbAt x n ds i) (ds.getD i []) := rfl
      obtain ⟨DA, hDA⟩ : ∃ d, d = ds.getD i [] := ⟨_, rfl⟩
      obtain ⟨Y, hY⟩ : ∃ d, d = climbAt x n ds i := ⟨_, rfl⟩
      obtain ⟨yl, yo⟩ := climb_good x n ds HL.out HX.out i
      obtain ⟨N, hN⟩ : ∃ N, N = n / 2 ^ i := ⟨_, rfl⟩
      have hN2 : n / 2 ^ (i + 1) = N / 2 := by rw [hN, Nat.pow_succ, Nat.div_div_eq_div_mul]
      have hNle : N ≤ 1000000 := by rw [hN]; exact Nat.le_trans (Nat.div_le_self _ _) (by omega)
      rw [← hDA, ← hY, ← hN] at hcs
      rw [← hDA] at ra dl do1
      rw [← hY] at yl yo hXB
      rw [← hN]
      have RA := Lib.hid ra
      have HCS := Lib.hid hcs
      have HN2 := Lib.hid hN2
      have DL := Lib.hid dl
      have DO := Lib.hid do1
      have YL := Lib.hid yl
      have YO := Lib.hid yo
      clear ra hcs hN2 dl do1 yl yo hDA hY hN h4 hi2
      have hil : (i : Int) < k := by omega
      by_cases hodd : N % 2 = 1
      · have hodi : (N : Int) % 2 = 1 := by omega
        go_wp2_with (first | (refine wpList_load_g rfl 24 (.tmp 29) rfl b (off + i * 16) rfl (u8s DA) _ RA.out Tryz.underlying24 rfl (hi43 DA DL.out) ?_) | (refine wpList_store_row rfl 24 (.tmp 9) (.tmp 30) rfl wr.heap.size rfl (u8s DA) rfl 24 (has_new wr _ _ _ (by rw [u8s_len', DL.out]; rfl)) (hi43 DA DL.out) (one_u8s _) ?_; intro w3 hp3; have L3 : Below wr.heap.size wr w3 := (hp3.below ((Below.refl _ _).alloc (Nat.le_refl _) _) (Nat.le_refl _)); have V3 := Lib.hid (blk_range hp3.blk); have Y3 := Lib.hid (blk_below hXB.out L3); have R3 := Lib.hid (hR'.out.below L3); have B3 := Lib.hid (hbel.out.trans (L3.mono hbel.out.size)); clear hp3 L3) | (refine wpList_load_g rfl 24 (.tmp 9) rfl wr.heap.size 0 rfl (u8s DA) _ V3.out Tryz.underlying24 rfl (hi43 DA DL.out) ?_) | (refine wpList_load_g rfl 24 (.tmp 3) rfl w.heap.size 0 rfl (u8s Y) _ (blk_range Y3.out) Tryz.underlying24 rfl (hi43 Y YL.out) ?_))
        refine (join_any DA Y DL.out DO.out YL.out YO.out w3 (range_below HK.out B3.out) (Nat.lt_of_lt_of_le h18 B3.out.size)).mono ?_
        rintro e w4 ⟨rfl, hb4⟩
        have Y4 := blk_below Y3.out hb4
        have R4 := Lib.hid (R3.out.below hb4)
        have B4 := Lib.hid (B3.out.trans (hb4.mono B3.out.size))
        have hjl : (joinC DA Y).length = 16 := (join_good _ _).1
        have hh4 : Has w4 w.heap.size 24 (u8s (joinC DA Y)).length := by rw [u8s_len', hjl]; exact ⟨_, by simp only [List.size_toArray]; rw [u8s_len', YL.out], Y4⟩
        have HH4 := Lib.hid hh4
        clear hb4 Y4 hh4 V3 Y3 R3 B3
        go_wp2_with (refine wpList_store_row rfl 24 (.tmp 3) (.tmp 39) rfl w.heap.size rfl (u8s (joinC DA Y)) rfl 24 HH4.out (hi43 _ hjl) (one_u8s _) ?_; intro w9 hp9)
        go_roundw
        case rel => exact ⟨i + 1, by omega, by rw [HN2.out]; go_num, by go_num, Lib.hid (by rw [HCS.out, if_pos hodd]; exact hp9.blk), Lib.hid (R4.out.same (hp9.other _ (by omega))), Lib.hid (hp9.below B4.out (Nat.le_refl _))⟩
        case measure => simp [intOf]; omega
      · have hodi : ¬ (N : Int) % 2 = 1 := by omega
        have hode : (N : Int) % 2 = 0 := by omega
        go_wp2_with (first | (refine wpList_load_g rfl 24 (.tmp 29) rfl b (off + i * 16) rfl (u8s DA) _ RA.out Tryz.underlying24 rfl (hi43 DA DL.out) ?_) | (refine wpList_store_row rfl 24 (.tmp 9) (.tmp 30) rfl wr.heap.size rfl (u8s DA) rfl 24 (has_new wr _ _ _ (by rw [u8s_len', DL.out]; rfl)) (hi43 DA DL.out) (one_u8s _) ?_; intro w3 hp3; have L3 : Below wr.heap.size wr w3 := (hp3.below ((Below.refl _ _).alloc (Nat.le_refl _) _) (Nat.le_refl _)); have V3 := Lib.hid (blk_range hp3.blk); have Y3 := Lib.hid (blk_below hXB.out L3); have R3 := Lib.hid (hR'.out.below L3); have B3 := Lib.hid (hbel.out.trans (L3.mono hbel.out.size)); clear hp3 L3) | (refine wpList_load_g rfl 24 (.tmp 9) rfl wr.heap.size 0 rfl (u8s DA) _ V3.out Tryz.underlying24 rfl (hi43 DA DL.out) ?_) | (refine wpList_load_g rfl 24 (.tmp 3) rfl w.heap.size 0 rfl (u8s Y) _ (blk_range Y3.out) Tryz.underlying24 rfl (hi43 Y YL.out) ?_))
        refine (join_any Y DA YL.out YO.out DL.out DO.out w3 (range_below HK.out B3.out) (Nat.lt_of_lt_of_le h18 B3.out.size)).mono ?_
        rintro e w4 ⟨rfl, hb4⟩
        have Y4 := blk_below Y3.out hb4
        have R4 := Lib.hid (R3.out.below hb4)
        have B4 := Lib.hid (B3.out.trans (hb4.mono B3.out.size))
        have hjl : (joinC Y DA).length = 16 := (join_good _ _).1
        have hh4 : Has w4 w.heap.size 24 (u8s (joinC Y DA)).length := by rw [u8s_len', hjl]; exact ⟨_, by simp only [List.size_toArray]; rw [u8s_len', YL.out], Y4⟩
        have HH4 := Lib.hid hh4
        clear hb4 Y4 hh4 V3 Y3 R3 B3
        go_wp2_with (refine wpList_store_row rfl 24 (.tmp 3) (.tmp 36) rfl w.heap.size rfl (u8s (joinC Y DA)) rfl 24 HH4.out (hi43 _ hjl) (one_u8s _) ?_; intro w9 hp9)
        go_roundw
        case rel => exact ⟨i + 1, by omega, by rw [HN2.out]; go_num, by go_num, Lib.hid (by rw [HCS.out, if_neg hodd]; exact hp9.blk), Lib.hid (R4.out.same (hp9.other _ (by omega))), Lib.hid (hp9.below B4.out (Nat.le_refl _))⟩
        case measure => simp [intOf]; omega
    · obtain rfl : i = k := by omega
      obtain ⟨SH, hSH⟩ : ∃ s, s = climbAt x n ds i := ⟨_, rfl⟩
      have hsl : SH.length = 16 := by rw [hSH]; exact (climb_good x n ds HL.out HX.out i).1
      rw [← hSH] at hXB
      have hh : Has wr (w.heap.size + 1) 24 (u8s SH).length := by rw [u8s_len', hsl]; exact hR'.out
      have HHH := Lib.hid hh
      have HSH := Lib.hid hSH
      clear hh hSH hR'
      go_wp2_with (first | (refine wpList_load_g rfl 24 (.tmp 3) rfl w.heap.size 0 rfl (u8s SH) _ (blk_range hXB.out) Tryz.underlying24 rfl (hi43 SH hsl) ?_) | (refine wpList_store_row rfl 24 (.tmp 6) (.tmp 43) rfl (w.heap.size + 1) rfl (u8s SH) rfl 24 HHH.out (hi43 SH hsl) (one_u8s _) ?_; intro w10 hp10))
      refine bodyPost_ret (v := .tuple #[.agg (u8s SH).toArray, .nilIface]) (results_cell_row_tmp rfl _ _ (w.heap.size + 1) 24 _ (0, 0) _ rfl hp10.blk Tryz.underlying24 rfl (by simpa using hi43 SH hsl) rfl) rfl ⟨by rw [HSH.out], hp10.below hbel.out (by omega)⟩
end Go.Proofs.YtniknhhejlgdfaaGreatDoor
/- errors.Is on sentinels; the errors' numbers. -/
namespace Go.Proofs.YtniknhhejlgdfaaGreatDoor
open Go.RowKit Go.Extern.Stop Go.Stop Go.Extern Go.Extern.Rtype

theorem Tryz.isTypeOf (v : Value) (w : World) : (Extern.ReflectliteType.typeOf #[.iface 258 v]).run Tryz.prog w = .ok (.iface 175 (.agg #[.pointer (some ⟨19, 258, none⟩)])) w := by kernel_rfl
theorem Tryz.isComparable (w : World) : ((Extern.ReflectliteType.method fun t => do noPackHeld "Comparable" t; (fun a => Value.bool a.comparable) <$> typeInfo t) #[.agg #[.pointer (some ⟨19, 258, none⟩)]]).run Tryz.prog w = .ok (.bool true) w := by kernel_rfl
theorem Tryz.isMethodComparable (v : Value) (w : World) : (Go.method 396 175 v "Comparable").run Tryz.prog w = .ok (181, v) w := by kernel_rfl
theorem Tryz.isComp : (Tryz.prog.info? 258).map (·.comparable) = some true := by kernel_rfl
theorem Tryz.isSize : (Tryz.prog.info? 284).map (·.size) = some 1 := by kernel_rfl
theorem Tryz.noIsE (v : Value) (xT : TypeId) (w : World) : (Instr.typeAssert (.iface 258 v) xT 177 true).run Tryz.prog w = .ok (.tuple #[.nilIface, .bool false]) w := run_typeAssert_lacksB Tryz.underlying177 (by kernel_rfl) (by kernel_rfl) v xT w
theorem Tryz.noUnwrapE (v : Value) (xT : TypeId) (w : World) : (Instr.typeAssert (.iface 258 v) xT 180 true).run Tryz.prog w = .ok (.tuple #[.nilIface, .bool false]) w := run_typeAssert_lacksB Tryz.underlying180 (by kernel_rfl) (by kernel_rfl) v xT w
theorem Tryz.noUnwrapsE (v : Value) (xT : TypeId) (w : World) : (Instr.typeAssert (.iface 258 v) xT 182 true).run Tryz.prog w = .ok (.tuple #[.nilIface, .bool false]) w := run_typeAssert_lacksB Tryz.underlying182 (by kernel_rfl) (by kernel_rfl) v xT w

set_option maxRecDepth 100000 in
/-- errors.Is of a sentinel and itself. -/
theorem is_same (a : Addr) (w : World) :
    Calls Tryz.prog 31 #[.iface 258 (.pointer (some a)), .iface 258 (.pointer (some a))] w fun e w' => e = .returned (.bool true) ∧ w' = w := by
  obtain ⟨i, hi, hcmp⟩ := Option.map_eq_some_iff.1 Tryz.isComp
  obtain ⟨j, hj, hjs⟩ := Option.map_eq_some_iff.1 Tryz.isSize
  have h8 := @run_callFunc_extern Tryz.prog 66 _ Extern.ReflectliteType.typeOf Tryz.func66 (by kernel_rfl) (by kernel_rfl) (by kernel_rfl) (by kernel_rfl)
  have h32 := @run_callFunc_extern Tryz.prog 181 _ (Extern.ReflectliteType.method fun t => do noPackHeld "Comparable" t; pure (.bool (← typeInfo t).comparable)) Tryz.func181 (by kernel_rfl) (by kernel_rfl) (by kernel_rfl) (by kernel_rfl)
  have tT := Tryz.isTypeOf
  have cT := Tryz.isComparable
  have mR := Tryz.isMethodComparable
  have heq := run_eql_iface_ptr_same (P := Tryz.prog) w a Tryz.underlying40 Tryz.underlying258 hi hcmp hj
  go_enter Tryz.func31, Tryz.ntmps31
  go_wp2
  refine wp_loop_rounds 1 ?_
  rw [rounds_succ]
  go_wp2
  go_ret
  exact ⟨rfl, rfl⟩
set_option maxRecDepth 100000 in
/-- errors.Is of two sentinels. -/
theorem is_other (a b : Addr) (ca cb : Array Value) (ta tb : TypeId) (w : World) (hne : a ≠ b) (ha : w.heap[a.block]? = some (.cells ca ta (0, 0))) (hb : w.heap[b.block]? = some (.cells cb tb (0, 0))) :
    Calls Tryz.prog 31 #[.iface 258 (.pointer (some a)), .iface 258 (.pointer (some b))] w fun e w' => e = .returned (.bool false) ∧ w' = w := by
  obtain ⟨i, hi, hcmp⟩ := Option.map_eq_some_iff.1 Tryz.isComp
  obtain ⟨j, hj, hjs⟩ := Option.map_eq_some_iff.1 Tryz.isSize
  have h8 := @run_callFunc_extern Tryz.prog 66 _ Extern.ReflectliteType.typeOf Tryz.func66 (by kernel_rfl) (by kernel_rfl) (by kernel_rfl) (by kernel_rfl)
  have h32 := @run_callFunc_extern Tryz.prog 181 _ (Extern.ReflectliteType.method fun t => do noPackHeld "Comparable" t; pure (.bool (← typeInfo t).comparable)) Tryz.func181 (by kernel_rfl) (by kernel_rfl) (by kernel_rfl) (by kernel_rfl)
  have tT := Tryz.isTypeOf
  have cT := Tryz.isComparable
  have mR := Tryz.isMethodComparable
  have nE := Tryz.noIsE
  have uE := Tryz.noUnwrapE
  have vE := Tryz.noUnwrapsE
  have heq := run_eql_iface_ptr_other (P := Tryz.prog) w Tryz.underlying40 Tryz.underlying258 hi hcmp hj (by rw [hjs]; decide) hne ha hb
  go_enter Tryz.func31, Tryz.ntmps31
  go_wp2
  refine wp_loop_rounds 1 ?_
  rw [rounds_succ]
  go_wp2
  go_ret
  exact ⟨rfl, rfl⟩

/-- A sentinel. -/
abbrev errV (a : Addr) : Value := .iface 258 (.pointer (some a))
/-- The sentinels in the order of their numbers. -/
def senG : List Nat := [0, 1, 2, 3, 4, 5, 6, 7, 8, 9, 10, 11, 12, 13, 14, 15, 16, 17]
structure SenN (w : World) (al : List Addr) : Prop where
  len : al.length = 18
  cell : ∀ (i g : Nat) (a : Addr), senG[i]? = some g → al[i]? = some a → w.cell? ⟨g, 0, none⟩ = some (.iface 258 (.pointer (some a)))
  nd : al.Nodup
  row : ∀ a ∈ al, ∃ c t, w.heap[a.block]? = some (.cells c t (0, 0))
theorem SenN.below {w w' : World} {al : List Addr} (h : SenN w al) (hb : Below w.heap.size w w') : SenN w' al :=
  ⟨h.len, fun i g a h1 h2 => cell_on hb (h.cell i g a h1 h2), h.nd, fun a ha => by obtain ⟨c, t, hc⟩ := h.row a ha; exact ⟨c, t, blk_below hc hb⟩⟩
theorem SenN.ne {w : World} {al : List Addr} (h : SenN w al) {i j : Nat} {a b : Addr} (hi : al[i]? = some a) (hj : al[j]? = some b) (hij : i ≠ j) : a ≠ b := by
  rintro rfl
  exact hij ((List.getElem?_inj (List.getElem?_eq_some_iff.1 hi).1 h.nd).1 (hi.trans hj.symm))

theorem num_nil (w : World) : Calls Tryz.prog 10 #[.nilIface] w fun e w' => e = .returned (.int .i64 0) ∧ w' = w := by
  go_enter Tryz.func10, Tryz.ntmps10
  go_wp2
  go_ret
  exact ⟨rfl, rfl⟩

set_option maxHeartbeats 4000000 in
set_option maxRecDepth 100000 in
theorem num_err (al : List Addr) (k : Nat) (a : Addr) (w : World) (h : SenN w al) (hk : al[k]? = some a) :
    Calls Tryz.prog 10 #[.iface 258 (.pointer (some a))] w fun e w' => e = .returned (.int .i64 ((k : Int) + 1)) ∧ Below w.heap.size w w' := by
  have H := Lib.hid h
  have HK := Lib.hid hk
  have hk18 : k < 18 := by have := (List.getElem?_eq_some_iff.1 hk).1; have := h.len; omega
  obtain ⟨a0, a1, a2, a3, a4, a5, a6, a7, a8, a9, a10, a11, a12, a13, a14, a15, a16, a17, rfl⟩ : ∃ a0 a1 a2 a3 a4 a5 a6 a7 a8 a9 a10 a11 a12 a13 a14 a15 a16 a17, al = [a0, a1, a2, a3, a4, a5, a6, a7, a8, a9, a10, a11, a12, a13, a14, a15, a16, a17] := by
    have hl := h.len
    match al, hl with
    | [a0, a1, a2, a3, a4, a5, a6, a7, a8, a9, a10, a11, a12, a13, a14, a15, a16, a17], _ => exact ⟨_, _, _, _, _, _, _, _, _, _, _, _, _, _, _, _, _, _, rfl⟩
  have c0 := h.cell 0 0 a0 rfl rfl
  have c1 := h.cell 1 1 a1 rfl rfl
  have c2 := h.cell 2 2 a2 rfl rfl
  have c3 := h.cell 3 3 a3 rfl rfl
  have c4 := h.cell 4 4 a4 rfl rfl
  have c5 := h.cell 5 5 a5 rfl rfl
  have c6 := h.cell 6 6 a6 rfl rfl
  have c7 := h.cell 7 7 a7 rfl rfl
  have c8 := h.cell 8 8 a8 rfl rfl
  have c9 := h.cell 9 9 a9 rfl rfl
  have c10 := h.cell 10 10 a10 rfl rfl
  have c11 := h.cell 11 11 a11 rfl rfl
  have c12 := h.cell 12 12 a12 rfl rfl
  have c13 := h.cell 13 13 a13 rfl rfl
  have c14 := h.cell 14 14 a14 rfl rfl
  have c15 := h.cell 15 15 a15 rfl rfl
  have c16 := h.cell 16 16 a16 rfl rfl
  have c17 := h.cell 17 17 a17 rfl rfl
  have hrow : ∀ (i : Nat) (b : Addr), ([a0, a1, a2, a3, a4, a5, a6, a7, a8, a9, a10, a11, a12, a13, a14, a15, a16, a17] : List Addr)[i]? = some b → (#[Value.iface 258 (.pointer (some a0)), Value.iface 258 (.pointer (some a1)), Value.iface 258 (.pointer (some a2)), Value.iface 258 (.pointer (some a3)), Value.iface 258 (.pointer (some a4)), Value.iface 258 (.pointer (some a5)), Value.iface 258 (.pointer (some a6)), Value.iface 258 (.pointer (some a7)), Value.iface 258 (.pointer (some a8)), Value.iface 258 (.pointer (some a9)), Value.iface 258 (.pointer (some a10)), Value.iface 258 (.pointer (some a11)), Value.iface 258 (.pointer (some a12)), Value.iface 258 (.pointer (some a13)), Value.iface 258 (.pointer (some a14)), Value.iface 258 (.pointer (some a15)), Value.iface 258 (.pointer (some a16)), Value.iface 258 (.pointer (some a17))] : Array Value)[i]? = some (.iface 258 (.pointer (some b))) := by
    intro i b hb
    have : (([a0, a1, a2, a3, a4, a5, a6, a7, a8, a9, a10, a11, a12, a13, a14, a15, a16, a17] : List Addr).map fun x => Value.iface 258 (.pointer (some x)))[i]? = some (.iface 258 (.pointer (some b))) := by rw [List.getElem?_map, hb]; rfl
    simpa using this
  have HR := Lib.hid hrow
  clear h hk hrow
  go_enter Tryz.func10, Tryz.ntmps10
  go_wp2_with fail
  obtain ⟨w1, hw1⟩ : ∃ x, x = w.alloc (.cells #[Value.iface 258 (Value.pointer (some a0)), Value.iface 258 (Value.pointer (some a1)), Value.iface 258 (Value.pointer (some a2)), Value.iface 258 (Value.pointer (some a3)), Value.iface 258 (Value.pointer (some a4)), Value.iface 258 (Value.pointer (some a5)), Value.iface 258 (Value.pointer (some a6)), Value.iface 258 (Value.pointer (some a7)), Value.iface 258 (Value.pointer (some a8)), Value.iface 258 (Value.pointer (some a9)), Value.iface 258 (Value.pointer (some a10)), Value.iface 258 (Value.pointer (some a11)), Value.iface 258 (Value.pointer (some a12)), Value.iface 258 (Value.pointer (some a13)), Value.iface 258 (Value.pointer (some a14)), Value.iface 258 (Value.pointer (some a15)), Value.iface 258 (Value.pointer (some a16)), Value.iface 258 (Value.pointer (some a17))] 40) := ⟨_, rfl⟩
  rw [← hw1]
  have hbel : Below w.heap.size w w1 := by rw [hw1]; exact (Below.refl _ _).alloc (Nat.le_refl _) _
  have H1 := Lib.hid (H.out.below hbel)
  have RC : Hid (∀ (i : Nat) (b : Addr), ([a0, a1, a2, a3, a4, a5, a6, a7, a8, a9, a10, a11, a12, a13, a14, a15, a16, a17] : List Addr)[i]? = some b → w1.cell? ⟨w.heap.size, i, none⟩ = some (.iface 258 (.pointer (some b)))) := Lib.hid (fun i b hb => by
    rw [hw1, cell_of_row _ _ _ _ _ _ (heap_alloc_new w _)]
    exact HR.out i b hb)
  have BL := Lib.hid hbel
  obtain ⟨al, hal⟩ : ∃ x, x = ([a0, a1, a2, a3, a4, a5, a6, a7, a8, a9, a10, a11, a12, a13, a14, a15, a16, a17] : List Addr) := ⟨_, rfl⟩
  rw [← hal] at H1 RC HK
  clear hw1 hbel HR H hal
  clear c0 c1 c2 c3 c4 c5 c6 c7 c8 c9 c10 c11 c12 c13 c14 c15 c16 c17
  go_loopw [4, 5, 29] (fun _ _ x wr => ∃ (i : Nat), i ≤ k ∧ x = .int .i64 i ∧ w1 = wr)
    (fun _ _ x _ => 18 - (intOf x).toNat)
  case atStart => exact ⟨0, Nat.zero_le _, rfl, by first | trivial | rfl⟩
  case round =>
    obtain ⟨i, hi, rfl, rfl⟩ := hrel
    have hil : (i : Int) < 18 := by omega
    have hi18 : i < 18 := by omega
    obtain ⟨b, hb⟩ : ∃ b, al[i]? = some b := ⟨_, List.getElem?_eq_getElem (by rw [H1.out.len]; exact hi18)⟩
    have hc := RC.out i b hb
    by_cases hik : i = k
    · subst hik
      obtain rfl : b = a := Option.some.inj (hb.symm.trans HK.out)
      clear hb
      go_wp2_with fail
      refine (is_same b w1).mono ?_
      rintro _ w2 ⟨rfl, rfl⟩
      go_wp2_with fail
      go_ret
      exact ⟨rfl, BL.out⟩
    · have hne : a ≠ b := H1.out.ne HK.out hb (fun e => hik e.symm)
      obtain ⟨ca, ta, ha⟩ := H1.out.row a (List.mem_of_getElem? HK.out)
      obtain ⟨cb, tb, hbb⟩ := H1.out.row b (List.mem_of_getElem? hb)
      have IO := Lib.hid (is_other a b ca cb ta tb w1 hne ha hbb)
      clear hb hne ha hbb
      go_wp2_with fail
      refine IO.out.mono ?_
      rintro _ w2 ⟨rfl, rfl⟩
      go_wp2_with fail
      go_roundw
      case rel => exact ⟨i + 1, by omega, by go_num, by first | trivial | rfl⟩
      case measure => simp [intOf]; omega
end Go.Proofs.YtniknhhejlgdfaaGreatDoor
/- What chains.Public and chains.Recover do. -/
namespace Go.Proofs.YtniknhhejlgdfaaGreatDoor
open Go.RowKit Go.Shelf

def zero16 : List Int := List.replicate 16 0
theorem zero16_len : zero16.length = 16 := by simp [zero16]
theorem zero_cells : (u8s zero16).toArray = Array.replicate 16 (Value.int .u8 0) := rfl
/-- The block r stays noughts. -/
def EZ (n₀ r : Nat) (a b : World) : Prop := Below n₀ a b ∧ (a.heap[r]? = some (Obj.cells (u8s zero16).toArray 24 (0, 0)) → b.heap[r]? = some (Obj.cells (u8s zero16).toArray 24 (0, 0)))
theorem EZ.refl (n₀ r : Nat) (a : World) : EZ n₀ r a a := ⟨Below.refl _ _, id⟩
theorem EZ.trans {n₀ r : Nat} {a b c : World} (h : EZ n₀ r a b) (k : EZ n₀ r b c) : EZ n₀ r a c := ⟨h.1.trans k.1, fun x => k.2 (h.2 x)⟩
theorem ez_cell {w W0 wq : World} {r : Nat} {p : Addr} {v : Value} (hb : Below w.heap.size w W0) (hE : EZ w.heap.size r W0.drew wq) (hc : w.cell? p = some v) : wq.cell? p = some v :=
  ((hb.drew.trans hE.1).cell (World.block_lt_of_cell? w p hc)).trans hc
theorem gives_store_row {P : Program} {o : Oper} {ρ : Operand → Value} {w : World} {S : Value → World → Prop} (ty : TypeId) (x y : Operand) (ho : o.op = .store ty x y)
    (b : Nat) (hx : ρ x = .pointer (some ⟨b, 0, none⟩)) (cs : List Value) (hy : ρ y = .agg cs.toArray) (t : Nat) (hb : Has w b t cs.length)
    (hi : (P.info? ty).map (·.size) = some cs.length) (h1 : ∀ v ∈ cs, v.oneCell' = true)
    (h : ∀ w1, Put w b t cs w1 → S undef w1) : Gives P o ρ w S := by
  obtain ⟨Z, hz, hZ⟩ := hb
  have hr := run_storeVar_row (P := P) w b t ty Z cs.toArray hZ (by simpa using hi) (by simpa using hz) (Array.all_eq_true_iff_forall_mem.2 (fun v hv => h1 v (by simpa using hv)))
  unfold Gives execOp
  simp only [ho, hx, hy, Instr.storeAt, Instr.sureAddr, Sem.run_bind, Sem.run_pure, Result.andThen_ok, hr]
  exact h _ ⟨setRow_heap w b Z _ t _ hZ, fun k hk => setRow_other w b k _ hk, by simp, rfl, rfl, rfl⟩
theorem right_any (l : Int) (w : World) : Calls Tryz.prog 130 #[.int .i64 l] w fun e w' => e = .returned (.bool (decide (0 ≤ l ∧ l < 32))) ∧ w' = w := by
  by_cases h0 : 0 ≤ l
  · by_cases h1 : l < 32
    · rw [decide_eq_true ⟨h0, h1⟩]
      exact right_in l h0 h1 w
    · rw [decide_eq_false (fun h => h1 h.2)]
      go_enter Tryz.func130, Tryz.ntmps130
      go_wp2
      go_ret
      exact ⟨rfl, rfl⟩
  · rw [decide_eq_false (fun h => h0 h.1)]
    go_enter Tryz.func130, Tryz.ntmps130
    go_wp2
    go_ret
    exact ⟨rfl, rfl⟩

set_option maxHeartbeats 8000000 in
set_option maxRecDepth 100000 in
theorem recover_ok (l : Int) (A : Option Addr) (k c : Nat) (ds : List (List Int)) (m : List Int) (w : World) (h0 : 0 ≤ l) (h1 : l < 32) (hd : ∀ W, Below w.heap.size w W → Dgs W (.slice A k c) ds) (hkl : k = ds.length) (hk68 : k = 68) (hlm : m.length = 16) (hm : u8s_ok m) (hk : w.rangeAt 18 0 (u32s kk)) (h18 : 18 < w.heap.size) :
    Calls Tryz.prog 102 #[.int .i64 l, .slice A k c, .agg (u8s m).toArray] w fun e w' => e = .returned (.tuple #[.agg (u8s (publicC l (recE l ds m 68))).toArray, .nilIface]) ∧ Below w.heap.size w w' := by
  subst hk68
  have hi43 : ∀ V : List Int, V.length = 16 → (Tryz.prog.info? 24).map (·.size) = some (u8s V).length := fun V h => by rw [u8s_len', h]; exact Tryz.size24
  obtain ⟨W0, hW0⟩ : ∃ W0, W0 = (((w.alloc (.cells #[.int .i64 l] 3)).alloc (.cells #[.slice A 68 c] 54)).alloc (.cells (u8s m).toArray 24)).alloc (Obj.cells (Array.replicate 16 (Value.int .u8 0)) 24) := ⟨_, rfl⟩
  have b0 : Below w.heap.size w W0 := by rw [hW0]; exact ((((Below.refl _ _).alloc (Nat.le_refl _) _).alloc (by simp) _).alloc (by simp; omega) _).alloc (by simp; omega) _
  have q1 : Boxed W0 w.heap.size 3 (.int .i64 l) := by
    rw [hW0]
    exact (((Boxed.new w 3 (.int .i64 l)).alloc _).alloc _).alloc _
  have q2 : Boxed W0 (w.heap.size + 1) 54 (.slice A 68 c) := by
    rw [hW0]
    have := ((Boxed.new (w.alloc (.cells #[.int .i64 l] 3)) 54 (.slice A 68 c)).alloc (.cells (u8s m).toArray 24)).alloc (Obj.cells (Array.replicate 16 (Value.int .u8 0)) 24)
    rwa [World.size_alloc] at this
  have q3 : W0.rangeAt (w.heap.size + 2) 0 (u8s m) := by
    rw [hW0]
    have := World.rangeAt_alloc (range_new ((w.alloc (.cells #[.int .i64 l] 3)).alloc (.cells #[.slice A 68 c] 54)) (u8s m) 24) (Obj.cells (Array.replicate 16 (Value.int .u8 0)) 24)
    simpa using this
  have q4 : ∀ n, n = 16 → Has W0 (w.heap.size + 3) 24 n := fun n hn => by
    rw [hW0, hn]
    have := has_new (((w.alloc (.cells #[.int .i64 l] 3)).alloc (.cells #[.slice A 68 c] 54)).alloc (.cells (u8s m).toArray 24)) (Array.replicate 16 (Value.int .u8 0)) 24 16 rfl
    simpa using this
  have q5 : W0.heap[w.heap.size + 3]? = some (Obj.cells (u8s zero16).toArray 24 (0, 0)) := by
    rw [hW0, zero_cells]
    have := heap_alloc_new (((w.alloc (.cells #[.int .i64 l] 3)).alloc (.cells #[.slice A 68 c] 54)).alloc (.cells (u8s m).toArray 24)) (Obj.cells (Array.replicate 16 (Value.int .u8 0)) 24)
    simpa using this
  have z0 : 18 < W0.heap.size := Nat.lt_of_lt_of_le h18 b0.size
  have HCL := Lib.hid (public_any 132 #[.pointer (some ⟨w.heap.size + 2, 0, none⟩), .pointer (some ⟨w.heap.size + 1, 0, none⟩), .pointer (some ⟨w.heap.size, 0, none⟩)] (recD l ds m 68) l W0 (recD_len l ds m 68) (enters_of Tryz.func132 (by kernel_rfl) rfl)
    (rec_stops 3 (by omega) (w.heap.size + 2) (w.heap.size + 1) w.heap.size m ds A c l W0 q3 q2.cell (hd W0 b0) hkl.symm q1.cell hlm hm (range_below hk b0) z0) (range_below hk b0) z0)
  have hrv := recD_val l ds m 68 (fun j hj => (hd W0 b0).at j (by omega))
  have HRV := Lib.hid hrv
  have Q1 := q1.cell
  have Q2 := q2.cell
  have B0 := Lib.hid b0
  have H0 := Lib.hid (q4 16 rfl)
  clear q1 q2 q3 q4 q5 b0 hk hlm hm hd hkl hrv
  go_enter Tryz.func102, Tryz.ntmps102
  go_wp2_with fail
  change Calls _ _ _ ((((w.alloc (.cells #[.int .i64 l] 3)).alloc (.cells #[.slice A 68 c] 54)).alloc (.cells (u8s m).toArray 24)).alloc (Obj.cells (Array.replicate 16 (Value.int .u8 0)) 24)) _
  rw [← hW0]
  clear hW0
  refine (right_in l h0 h1 W0).mono ?_
  rintro e w1 ⟨rfl, rfl⟩
  go_wp2_with fail
  refine HCL.out.mono ?_
  rintro e w2 ⟨rfl, hb2⟩
  obtain ⟨ST, hST⟩ : ∃ s, s = publicC l (recE l ds m 68) := ⟨_, rfl⟩
  have hSl : ST.length = 16 := by rw [hST]; exact (publicC_good _ _).1
  rw [HRV.out, ← hST]
  have HI := Lib.hid (hi43 ST hSl)
  have HH2 : Hid (Has w2 (w.heap.size + 3) 24 (u8s ST).length) := Lib.hid (by rw [u8s_len', hSl]; exact H0.out.below hb2)
  have B2 := Lib.hid (B0.out.trans (hb2.mono B0.out.size))
  have HST := Lib.hid hST
  clear hb2 hST hSl HCL HRV
  go_wp2_with (refine wpList_store_row rfl 24 (.tmp 6) (.tmp 22) rfl (w.heap.size + 3) rfl (u8s ST) rfl 24 HH2.out HI.out (one_u8s _) ?_; intro w10 hp10)
  refine bodyPost_ret (v := .tuple #[.agg (u8s ST).toArray, .nilIface]) (results_cell_row_tmp rfl _ _ (w.heap.size + 3) 24 _ (0, 0) _ rfl hp10.blk Tryz.underlying24 rfl (by simpa using HI.out) rfl) rfl ⟨by rw [HST.out], hp10.below B2.out (by omega)⟩

set_option maxHeartbeats 8000000 in
set_option maxRecDepth 100000 in
theorem recover_range (l : Int) (A : Option Addr) (k c : Nat) (m : List Int) (aR : Addr) (w : World) (hbad : ¬ (0 ≤ l ∧ l < 32)) (hr : w.cell? ⟨0, 0, none⟩ = some (errV aR)) :
    Calls Tryz.prog 102 #[.int .i64 l, .slice A k c, .agg (u8s m).toArray] w fun e w' => e = .returned (.tuple #[.agg (u8s zero16).toArray, errV aR]) ∧ Below w.heap.size w w' := by
  have hi43 : ∀ V : List Int, V.length = 16 → (Tryz.prog.info? 24).map (·.size) = some (u8s V).length := fun V h => by rw [u8s_len', h]; exact Tryz.size24
  obtain ⟨W0, hW0⟩ : ∃ W0, W0 = (((w.alloc (.cells #[.int .i64 l] 3)).alloc (.cells #[.slice A k c] 54)).alloc (.cells (u8s m).toArray 24)).alloc (Obj.cells (Array.replicate 16 (Value.int .u8 0)) 24) := ⟨_, rfl⟩
  have b0 : Below w.heap.size w W0 := by rw [hW0]; exact ((((Below.refl _ _).alloc (Nat.le_refl _) _).alloc (by simp) _).alloc (by simp; omega) _).alloc (by simp; omega) _
  have q1 : Boxed W0 w.heap.size 3 (.int .i64 l) := by
    rw [hW0]
    exact (((Boxed.new w 3 (.int .i64 l)).alloc _).alloc _).alloc _
  have q2 : Boxed W0 (w.heap.size + 1) 54 (.slice A k c) := by
    rw [hW0]
    have := ((Boxed.new (w.alloc (.cells #[.int .i64 l] 3)) 54 (.slice A k c)).alloc (.cells (u8s m).toArray 24)).alloc (Obj.cells (Array.replicate 16 (Value.int .u8 0)) 24)
    rwa [World.size_alloc] at this
  have q3 : W0.rangeAt (w.heap.size + 2) 0 (u8s m) := by
    rw [hW0]
    have := World.rangeAt_alloc (range_new ((w.alloc (.cells #[.int .i64 l] 3)).alloc (.cells #[.slice A k c] 54)) (u8s m) 24) (Obj.cells (Array.replicate 16 (Value.int .u8 0)) 24)
    simpa using this
  have q4 : ∀ n, n = 16 → Has W0 (w.heap.size + 3) 24 n := fun n hn => by
    rw [hW0, hn]
    have := has_new (((w.alloc (.cells #[.int .i64 l] 3)).alloc (.cells #[.slice A k c] 54)).alloc (.cells (u8s m).toArray 24)) (Array.replicate 16 (Value.int .u8 0)) 24 16 rfl
    simpa using this
  have q5 : W0.heap[w.heap.size + 3]? = some (Obj.cells (u8s zero16).toArray 24 (0, 0)) := by
    rw [hW0, zero_cells]
    have := heap_alloc_new (((w.alloc (.cells #[.int .i64 l] 3)).alloc (.cells #[.slice A k c] 54)).alloc (.cells (u8s m).toArray 24)) (Obj.cells (Array.replicate 16 (Value.int .u8 0)) 24)
    simpa using this
  have Q1 := q1.cell
  have CR := Lib.hid hr
  have B0 := Lib.hid b0
  have HZ := Lib.hid q5
  clear q1 q2 q3 q4 q5 b0 hr
  go_enter Tryz.func102, Tryz.ntmps102
  go_wp2_with fail
  change Calls _ _ _ ((((w.alloc (.cells #[.int .i64 l] 3)).alloc (.cells #[.slice A k c] 54)).alloc (.cells (u8s m).toArray 24)).alloc (Obj.cells (Array.replicate 16 (Value.int .u8 0)) 24)) _
  rw [← hW0]
  clear hW0
  refine (right_any l W0).mono ?_
  rintro e w1 ⟨rfl, rfl⟩
  rw [decide_eq_false hbad]
  go_wp2_with fail
  refine wp_region_rely3 (by kernel_rfl) 3 (by kernel_rfl) (by kernel_rfl) (EZ w.heap.size (w.heap.size + 3)) (EZ.refl _ _) EZ.trans (fun ix => match ix with
    | 0 => fun _ v => v = .agg (u8s zero16).toArray
    | 1 => fun _ v => v = errV aR
    | 2 => fun _ v => v = undef
    | _ => fun _ _ => False) ?_
  simp (maxSteps := 10000000) only [Rely, List.take_succ_cons, List.take_zero, List.drop_succ_cons, List.drop_zero, Nat.reduceAdd, Nat.zero_add, Act.put, List.setIfInBounds_toArray, List.set_cons_succ, List.set_cons_zero]
  refine ⟨?_, ?_, ?_, ?_⟩
  · refine step_plain rfl fun vs wq hE hd => ?_
    exact gives_val (.agg (u8s zero16).toArray) (w' := wq) (by rw [zero_cells]; go_simp; rfl) ⟨EZ.refl _ _ _, fun _ _ => rfl⟩
  · refine step_plain rfl fun vs wq hE hd => ?_
    have hc := ez_cell B0.out hE CR.out
    exact gives_loadAt 40 _ rfl (.pointer (some ⟨0, 0, none⟩)) (errV aR) rfl (by go_simp) ⟨EZ.refl _ _ _, fun _ _ => rfl⟩
  · refine step_plain rfl fun vs wq hE hd => ?_
    refine gives_store_row 24 _ _ rfl (w.heap.size + 3) rfl (u8s zero16) (hd.1) 24 ⟨_, by rw [List.size_toArray], hE.2 HZ.out⟩ (hi43 _ zero16_len) (one_u8s _) fun w3 hp3 => ⟨⟨hp3.below (Below.refl _ _) (by omega), fun _ => hp3.blk⟩, fun _ _ => rfl⟩
  · intro vs w2 hE hR
    have h1 : vs 1 = errV aR := hR 1 (by omega)
    rw [h1]
    have HB2 := Lib.hid (B0.out.drew.trans hE.1)
    have HZ2 := Lib.hid (hE.2 HZ.out)
    clear hR hE h1
    go_wp2_with fail
    refine bodyPost_ret (v := .tuple #[.agg (u8s zero16).toArray, errV aR]) (results_cell_row_tmp rfl _ _ (w.heap.size + 3) 24 _ (0, 0) _ rfl HZ2.out Tryz.underlying24 rfl (by simpa using hi43 _ zero16_len) rfl) rfl ⟨rfl, HB2.out⟩

set_option maxHeartbeats 8000000 in
set_option maxRecDepth 100000 in
theorem recover_form (l : Int) (A : Option Addr) (k c : Nat) (m : List Int) (aF : Addr) (w : World) (h0 : 0 ≤ l) (h1 : l < 32) (hne : k ≠ 68) (hf : w.cell? ⟨3, 0, none⟩ = some (errV aF)) :
    Calls Tryz.prog 102 #[.int .i64 l, .slice A k c, .agg (u8s m).toArray] w fun e w' => e = .returned (.tuple #[.agg (u8s zero16).toArray, errV aF]) ∧ Below w.heap.size w w' := by
  have hi43 : ∀ V : List Int, V.length = 16 → (Tryz.prog.info? 24).map (·.size) = some (u8s V).length := fun V h => by rw [u8s_len', h]; exact Tryz.size24
  obtain ⟨W0, hW0⟩ : ∃ W0, W0 = (((w.alloc (.cells #[.int .i64 l] 3)).alloc (.cells #[.slice A k c] 54)).alloc (.cells (u8s m).toArray 24)).alloc (Obj.cells (Array.replicate 16 (Value.int .u8 0)) 24) := ⟨_, rfl⟩
  have b0 : Below w.heap.size w W0 := by rw [hW0]; exact ((((Below.refl _ _).alloc (Nat.le_refl _) _).alloc (by simp) _).alloc (by simp; omega) _).alloc (by simp; omega) _
  have q1 : Boxed W0 w.heap.size 3 (.int .i64 l) := by
    rw [hW0]
    exact (((Boxed.new w 3 (.int .i64 l)).alloc _).alloc _).alloc _
  have q2 : Boxed W0 (w.heap.size + 1) 54 (.slice A k c) := by
    rw [hW0]
    have := ((Boxed.new (w.alloc (.cells #[.int .i64 l] 3)) 54 (.slice A k c)).alloc (.cells (u8s m).toArray 24)).alloc (Obj.cells (Array.replicate 16 (Value.int .u8 0)) 24)
    rwa [World.size_alloc] at this
  have q3 : W0.rangeAt (w.heap.size + 2) 0 (u8s m) := by
    rw [hW0]
    have := World.rangeAt_alloc (range_new ((w.alloc (.cells #[.int .i64 l] 3)).alloc (.cells #[.slice A k c] 54)) (u8s m) 24) (Obj.cells (Array.replicate 16 (Value.int .u8 0)) 24)
    simpa using this
  have q4 : ∀ n, n = 16 → Has W0 (w.heap.size + 3) 24 n := fun n hn => by
    rw [hW0, hn]
    have := has_new (((w.alloc (.cells #[.int .i64 l] 3)).alloc (.cells #[.slice A k c] 54)).alloc (.cells (u8s m).toArray 24)) (Array.replicate 16 (Value.int .u8 0)) 24 16 rfl
    simpa using this
  have q5 : W0.heap[w.heap.size + 3]? = some (Obj.cells (u8s zero16).toArray 24 (0, 0)) := by
    rw [hW0, zero_cells]
    have := heap_alloc_new (((w.alloc (.cells #[.int .i64 l] 3)).alloc (.cells #[.slice A k c] 54)).alloc (.cells (u8s m).toArray 24)) (Obj.cells (Array.replicate 16 (Value.int .u8 0)) 24)
    simpa using this
  have hkb : ((k : Int) != 68) = true := by simp; omega
  have Q1 := q1.cell
  have Q2 := q2.cell
  have CR := Lib.hid hf
  have B0 := Lib.hid b0
  have HZ := Lib.hid q5
  clear q1 q2 q3 q4 q5 b0 hf
  go_enter Tryz.func102, Tryz.ntmps102
  go_wp2_with fail
  change Calls _ _ _ ((((w.alloc (.cells #[.int .i64 l] 3)).alloc (.cells #[.slice A k c] 54)).alloc (.cells (u8s m).toArray 24)).alloc (Obj.cells (Array.replicate 16 (Value.int .u8 0)) 24)) _
  rw [← hW0]
  clear hW0
  refine (right_in l h0 h1 W0).mono ?_
  rintro e w1 ⟨rfl, rfl⟩
  go_wp2_with fail
  refine wp_region_rely3 (by kernel_rfl) 3 (by kernel_rfl) (by kernel_rfl) (EZ w.heap.size (w.heap.size + 3)) (EZ.refl _ _) EZ.trans (fun ix => match ix with
    | 0 => fun _ v => v = .agg (u8s zero16).toArray
    | 1 => fun _ v => v = errV aF
    | 2 => fun _ v => v = undef
    | _ => fun _ _ => False) ?_
  simp (maxSteps := 10000000) only [Rely, List.take_succ_cons, List.take_zero, List.drop_succ_cons, List.drop_zero, Nat.reduceAdd, Nat.zero_add, Act.put, List.setIfInBounds_toArray, List.set_cons_succ, List.set_cons_zero]
  refine ⟨?_, ?_, ?_, ?_⟩
  · refine step_plain rfl fun vs wq hE hd => ?_
    exact gives_val (.agg (u8s zero16).toArray) (w' := wq) (by rw [zero_cells]; go_simp; rfl) ⟨EZ.refl _ _ _, fun _ _ => rfl⟩
  · refine step_plain rfl fun vs wq hE hd => ?_
    have hc := ez_cell B0.out hE CR.out
    exact gives_loadAt 40 _ rfl (.pointer (some ⟨3, 0, none⟩)) (errV aF) rfl (by go_simp) ⟨EZ.refl _ _ _, fun _ _ => rfl⟩
  · refine step_plain rfl fun vs wq hE hd => ?_
    refine gives_store_row 24 _ _ rfl (w.heap.size + 3) rfl (u8s zero16) (hd.1) 24 ⟨_, by rw [List.size_toArray], hE.2 HZ.out⟩ (hi43 _ zero16_len) (one_u8s _) fun w3 hp3 => ⟨⟨hp3.below (Below.refl _ _) (by omega), fun _ => hp3.blk⟩, fun _ _ => rfl⟩
  · intro vs w2 hE hR
    have h1 : vs 1 = errV aF := hR 1 (by omega)
    rw [h1]
    have HB2 := Lib.hid (B0.out.drew.trans hE.1)
    have HZ2 := Lib.hid (hE.2 HZ.out)
    clear hR hE h1
    go_wp2_with fail
    refine bodyPost_ret (v := .tuple #[.agg (u8s zero16).toArray, errV aF]) (results_cell_row_tmp rfl _ _ (w.heap.size + 3) 24 _ (0, 0) _ rfl HZ2.out Tryz.underlying24 rfl (by simpa using hi43 _ zero16_len) rfl) rfl ⟨rfl, HB2.out⟩
end Go.Proofs.YtniknhhejlgdfaaGreatDoor
/- What trees.Root does. -/
namespace Go.Proofs.YtniknhhejlgdfaaGreatDoor
open Go.RowKit Go.Shelf
attribute [local go_sem] Oper.semAt_some

theorem Dgs.put {X : World} {v : Value} {ds : List (List Int)} {l : Nat} {o o' : Obj} (h : Dgs X v ds) (hl : X.heap[l]? = some o) (ho : o.isCells = false) : Dgs (X.putObj l o') v ds := by
  by_cases hne : ds = []
  · exact ⟨h.form, fun hn => absurd hne hn, h.good⟩
  · obtain ⟨k, oc, hk, hok, hoc⟩ := h.blk hne
    refine h.same fun q hq => ?_
    obtain rfl : k = q := Option.some.inj (hk.symm.trans hq)
    have hn : k ≠ l := fun e => by subst e; rw [hok] at hl; cases hl; rw [hoc] at ho; cases ho
    exact World.putObj_heap_other hn
end Go.Proofs.YtniknhhejlgdfaaGreatDoor
/- TreesWays: what the law does. -/
namespace Go.Proofs.YtniknhhejlgdfaaGreatDoor
open Go.RowKit Go.Shelf

theorem Dgs.tail {w : World} {b o n c : Nat} {ds : List (List Int)} (h : Dgs w (.slice (some ⟨b, o, none⟩) n c) ds) (hn : n = ds.length) (h2 : 2 ≤ n) : Dgs w (.slice (some ⟨b, o + 1 * 16, none⟩) (n - 1) (c - 1)) (ds.drop 1) := by
  have hne : ds ≠ [] := by intro e; rw [e] at hn; simp at hn; omega
  obtain ⟨b', o', c', e, h1, hm, hb, hr⟩ := h.cells hne
  simp only [Value.slice.injEq, Option.some.injEq, Addr.mk.injEq] at e
  obtain ⟨⟨rfl, rfl, -⟩, -, rfl⟩ := e
  refine ⟨⟨_, _, by rw [List.length_drop, hn]⟩, fun _ => ⟨b, o + 1 * 16, c - 1, by rw [List.length_drop, hn], by rw [List.length_drop]; omega, by omega, hb, fun i hi => ?_⟩, fun d hd => h.good d (List.mem_of_mem_drop hd)⟩
  rw [List.length_drop] at hi
  have := hr (i + 1) (by omega)
  rw [show o + (i + 1) * 16 = o + 1 * 16 + i * 16 by omega] at this
  rw [List.getD_eq_getElem?_getD, List.getElem?_drop, Nat.add_comm 1 i, ← List.getD_eq_getElem?_getD]
  exact this

end Go.Proofs.YtniknhhejlgdfaaGreatDoor
/- What Key.Sign does. -/
namespace Go.Proofs.YtniknhhejlgdfaaGreatDoor
open Go.RowKit

/-- A signature as a value. -/
abbrev sigV (l : Int) (v u : Value) : Value := .agg #[.int .i64 l, v, u]
end Go.Proofs.YtniknhhejlgdfaaGreatDoor
/- What trees.Climb does with an error. -/
namespace Go.Proofs.YtniknhhejlgdfaaGreatDoor
open Go.RowKit Go.Shelf

set_option maxHeartbeats 8000000 in
set_option maxRecDepth 100000 in
theorem climb_form (x : List Int) (i : Int) (A : Option Addr) (k c : Nat) (aF : Addr) (w : World) (h0 : 0 ≤ i) (h1 : i < 32) (hne : k ≠ 5) (hf : w.cell? ⟨3, 0, none⟩ = some (errV aF)) :
    Calls Tryz.prog 103 #[.agg (u8s x).toArray, .int .i64 i, .slice A k c] w fun e w' => e = .returned (.tuple #[.agg (u8s zero16).toArray, errV aF]) ∧ Below w.heap.size w w' := by
  have hi43 : ∀ V : List Int, V.length = 16 → (Tryz.prog.info? 24).map (·.size) = some (u8s V).length := fun V h => by rw [u8s_len', h]; exact Tryz.size24
  obtain ⟨W0, hW0⟩ : ∃ W0, W0 = (w.alloc (.cells (u8s x).toArray 24)).alloc (Obj.cells (Array.replicate 16 (Value.int .u8 0)) 24) := ⟨_, rfl⟩
  have b0 : Below w.heap.size w W0 := by rw [hW0]; exact ((Below.refl _ _).alloc (Nat.le_refl _) _).alloc (by simp) _
  have q2 : W0.heap[w.heap.size + 1]? = some (Obj.cells (u8s zero16).toArray 24 (0, 0)) := by
    rw [hW0, zero_cells]
    have := heap_alloc_new (w.alloc (.cells (u8s x).toArray 24)) (Obj.cells (Array.replicate 16 (Value.int .u8 0)) 24)
    rwa [World.size_alloc] at this
  have CR := Lib.hid hf
  have B0 := Lib.hid b0
  have HZ := Lib.hid q2
  clear b0 q2 hf
  have hkb : ((k : Int) != 5) = true := by simp; omega
  have hn0 : ¬ i < 0 := by omega
  have hn1 : ¬ (32 : Int) ≤ i := by omega
  go_enter Tryz.func103, Tryz.ntmps103
  go_wp2_with fail
  try change Code.wp _ _ _ _ ((w.alloc (.cells (u8s x).toArray 24)).alloc (Obj.cells (Array.replicate 16 (Value.int .u8 0)) 24))
  rw [← hW0]
  clear hW0
  refine wp_region_rely3 (by kernel_rfl) 3 (by kernel_rfl) (by kernel_rfl) (EZ w.heap.size (w.heap.size + 1)) (EZ.refl _ _) EZ.trans (fun ix => match ix with
    | 0 => fun _ v => v = .agg (u8s zero16).toArray
    | 1 => fun _ v => v = errV aF
    | 2 => fun _ v => v = undef
    | _ => fun _ _ => False) ?_
  simp (maxSteps := 10000000) only [Rely, List.take_succ_cons, List.take_zero, List.drop_succ_cons, List.drop_zero, Nat.reduceAdd, Nat.zero_add, Act.put, List.setIfInBounds_toArray, List.set_cons_succ, List.set_cons_zero]
  refine ⟨?_, ?_, ?_, ?_⟩
  · refine step_plain rfl fun vs wq hE hd => ?_
    exact gives_val (.agg (u8s zero16).toArray) (w' := wq) (by rw [zero_cells]; go_simp; rfl) ⟨EZ.refl _ _ _, fun _ _ => rfl⟩
  · refine step_plain rfl fun vs wq hE hd => ?_
    have hc := ez_cell B0.out hE CR.out
    exact gives_loadAt 40 _ rfl (.pointer (some ⟨3, 0, none⟩)) (errV aF) rfl (by go_simp) ⟨EZ.refl _ _ _, fun _ _ => rfl⟩
  · refine step_plain rfl fun vs wq hE hd => ?_
    refine gives_store_row 24 _ _ rfl (w.heap.size + 1) rfl (u8s zero16) (hd.1) 24 ⟨_, by rw [List.size_toArray], hE.2 HZ.out⟩ (hi43 _ zero16_len) (one_u8s _) fun w3 hp3 => ⟨⟨hp3.below (Below.refl _ _) (by omega), fun _ => hp3.blk⟩, fun _ _ => rfl⟩
  · intro vs w2 hE hR
    have h1 : vs 1 = errV aF := hR 1 (by omega)
    rw [h1]
    have HB2 := Lib.hid (B0.out.drew.trans hE.1)
    have HZ2 := Lib.hid (hE.2 HZ.out)
    clear hR hE h1
    go_wp2_with fail
    refine bodyPost_ret (v := .tuple #[.agg (u8s zero16).toArray, errV aF]) (results_cell_row_tmp rfl _ _ (w.heap.size + 1) 24 _ (0, 0) _ rfl HZ2.out Tryz.underlying24 rfl (by simpa using hi43 _ zero16_len) rfl) rfl ⟨rfl, HB2.out⟩
end Go.Proofs.YtniknhhejlgdfaaGreatDoor
