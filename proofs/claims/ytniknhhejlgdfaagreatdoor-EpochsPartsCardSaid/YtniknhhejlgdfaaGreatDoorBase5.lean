/- Lemmas that laws of this seat rest on, part 5; each says its own conditions: Run, Dgs, RefChain, Plain, Dig, Sign, Rely2, Ends, Wide, Rely2In, Rely3, Rely5. -/
import Derived.Deep.QuietTactic
import Derived.BigQuiet
import Derived.RangeFuncNested
import Derived.RangeFuncBound
import Derived.RangeFuncCalls
import Derived.RangeFuncLeaves
import Derived.Shelf.Abstract
import Derived.Shelf.RegionOpen
import Derived.WalkKit
import Derived.OwnWalkIn
import Derived.TacticsInMore
import Derived.LoopNIn
import Derived.LoopIn
import Derived.OrdersIn
import Derived.Test.YtniknhhejlgdfaaGreatDoorBase1
import Derived.Test.YtniknhhejlgdfaaGreatDoorBase2
import Derived.Test.YtniknhhejlgdfaaGreatDoorBase3
import Derived.Test.YtniknhhejlgdfaaGreatDoorBase4
/- What small and Run of the chains do. -/
namespace Go.Proofs.YtniknhhejlgdfaaGreatDoor
open Go.RowKit

theorem small_any (z : Int) (w : World) : Calls Tryz.prog 155 #[.int .i64 z] w fun e w' => e = .returned (.slice (some ⟨w.heap.size, 0, none⟩) 1 1) ∧ w' = w.alloc (.cells #[.int .u8 (z % 256)] 5) := by
  go_enter Tryz.func155, Tryz.ntmps155
  go_wp2
  go_ret
  exact ⟨rfl, rfl⟩

def stepC (l c : Int) (x : List Int) (k : Nat) : List Int := short 2 [x, [l % 256], [c % 256], [(k : Int) % 256]]
def walkC (l c : Int) (x : List Int) (a b : Nat) : List Int := (List.range' a (b - a)).foldl (stepC l c) x
def runC (l c : Int) (x : List Int) (fr to : Int) : List Int := walkC l c x (max fr 0).toNat (min to 3).toNat
theorem walk_none (l c : Int) (x : List Int) (a b : Nat) (h : b ≤ a) : walkC l c x a b = x := by
  unfold walkC
  rw [Nat.sub_eq_zero_of_le h]
  rfl
theorem walk_succ (l c : Int) (x : List Int) (a i : Nat) (h : a ≤ i) : walkC l c x a (i + 1) = stepC l c (walkC l c x a i) i := by
  unfold walkC
  rw [show i + 1 - a = (i - a) + 1 by omega, List.range'_1_concat, List.foldl_append, show a + (i - a) = i by omega]
  rfl
theorem step_len (l c : Int) (x : List Int) (k : Nat) : (stepC l c x k).length = 16 := short_len _ _
theorem step_ok (l c : Int) (x : List Int) (k : Nat) : u8s_ok (stepC l c x k) := short_ok _ _
theorem walk_good (l c : Int) (x : List Int) (a b : Nat) (hl : x.length = 16) (hx : u8s_ok x) : (walkC l c x a b).length = 16 ∧ u8s_ok (walkC l c x a b) := by
  unfold walkC
  generalize List.range' a (b - a) = ks
  induction ks generalizing x with
  | nil => exact ⟨hl, hx⟩
  | cons k ks ih => exact ih _ (step_len l c x k) (step_ok l c x k)

theorem Bss.new (w : World) (vs : List Value) (ps : List (List Int)) (hlen : vs.length = ps.length) (h : ∀ i, i < ps.length → Bs w (vs.getD i undef) (ps.getD i [])) (hz : ps.length ≤ 1000) :
    Bss (w.alloc (.cells vs.toArray 137)) (.slice (some ⟨w.heap.size, 0, none⟩) ps.length ps.length) ps := by
  refine ⟨⟨_, _, rfl⟩, fun _ => ⟨w.heap.size, 0, ps.length, rfl, Nat.le_refl _, by unfold maxLen; omega, by simp, fun i hi => ⟨vs.getD i undef, ?_, (h i hi).below ((Below.refl _ _).alloc (Nat.le_refl _) _)⟩⟩⟩
  rw [Nat.zero_add, cell_of_row _ _ _ _ _ _ (heap_alloc_new w _)]
  simp [List.getD_eq_getElem?_getD, show i < vs.length by omega]
theorem gives_build {P : Program} {o : Oper} {ρ : Operand → Value} {w w' : World} {S : Value → World → Prop} (t : TypeId) (n : Nat) (parts : Array (Nat × Operand)) (ho : o.op = .buildSlice t n parts) (pv : Array (Nat × Value)) (hp : (parts.map fun (i, x) => (i, ρ x)) = pv) (v : Value)
    (hr : (Instr.buildSlice t n pv).run P w = .ok v w') (h : S v w') : Gives P o ρ w S := by
  refine gives_val v (w' := w') ?_ h
  unfold execOp
  simp only [ho, hp, Sem.run_bind, hr, Result.andThen_ok, Sem.run_pure]
theorem build30 (a b c d : Option Addr) (n1 n2 n3 n4 c1 c2 c3 c4 : Nat) (w : World) : (Instr.buildSlice 30 4 #[(0, .slice a n1 c1), (1, .slice b n2 c2), (2, .slice c n3 c3), (3, .slice d n4 c4)]).run Tryz.prog w = .ok (.slice (some ⟨w.heap.size, 0, none⟩) 4 4) (w.alloc (.cells #[.slice a n1 c1, .slice b n2 c2, .slice c n3 c3, .slice d n4 c4] 137)) := by
  go_simp
theorem slice43 (b : Nat) (w : World) : (Instr.sliceAt 24 (.pointer (some ⟨b, 0, none⟩)) none none none).run Tryz.prog w = .ok (.slice (some ⟨b, 0, none⟩) 16 16) w := by
  go_simp
theorem Bs.new1 (w : World) (z : Int) : Bs (w.alloc (.cells #[.int .u8 (z % 256)] 5)) (.slice (some ⟨w.heap.size, 0, none⟩) 1 1) [z % 256] :=
  Bs.new w [z % 256] (fun b hb => by simp at hb; rw [hb]; unfold B8; omega) (by simp) (0, 0)

set_option maxHeartbeats 4000000 in
set_option maxRecDepth 100000 in
theorem run_any (x : List Int) (hl : x.length = 16) (hx : u8s_ok x) (l c fr to : Int) (w : World) (hk : w.rangeAt 18 0 (u32s kk)) (h18 : 18 < w.heap.size) :
    Calls Tryz.prog 134 #[.agg (u8s x).toArray, .int .i64 l, .int .i64 c, .int .i64 fr, .int .i64 to] w fun e w' => e = .returned (.agg (u8s (runC l c x fr to)).toArray) ∧ Below w.heap.size w w' := by
  have HK := Lib.hid hk
  have HL := Lib.hid hl
  have HX := Lib.hid hx
  clear hk hl hx
  go_enter Tryz.func134, Tryz.ntmps134
  go_wp2
  have hz2 : ((w.alloc (.cells (u8s x).toArray 24)).alloc (Obj.cells (Array.replicate 16 (Value.int .u8 0)) 24)).heap.size = w.heap.size + 2 := by simp
  have hx0 : ((w.alloc (.cells (u8s x).toArray 24)).alloc (Obj.cells (Array.replicate 16 (Value.int .u8 0)) 24)).heap[w.heap.size]? = some (.cells (u8s (walkC l c x (max fr 0).toNat (max fr 0).toNat)).toArray 24 (0, 0)) := by
    rw [walk_none _ _ _ _ _ (Nat.le_refl _)]
    exact heap_alloc2_old w _ _
  have hr0 : Has ((w.alloc (.cells (u8s x).toArray 24)).alloc (Obj.cells (Array.replicate 16 (Value.int .u8 0)) 24)) (w.heap.size + 1) 24 16 := has_new2 w _ _ _ _ rfl
  have hb0 : Below w.heap.size w ((w.alloc (.cells (u8s x).toArray 24)).alloc (Obj.cells (Array.replicate 16 (Value.int .u8 0)) 24)) := ((Below.refl _ _).alloc (Nat.le_refl _) _).alloc (by simp) _
  have X0 := Lib.hid hx0
  have R0 := Lib.hid hr0
  have B0 := Lib.hid hb0
  change Code.wp _ _ _ _ ((w.alloc (.cells (u8s x).toArray 24)).alloc (Obj.cells (Array.replicate 16 (Value.int .u8 0)) 24))
  generalize (w.alloc (.cells (u8s x).toArray 24)).alloc (Obj.cells (Array.replicate 16 (Value.int .u8 0)) 24) = wo at *
  clear hx0 hr0 hb0 hz2
  obtain ⟨a, ha⟩ : ∃ a : Nat, a = (max fr 0).toNat := ⟨_, rfl⟩
  have ha2 : max fr 0 = (a : Int) := by omega
  rw [ha2]
  rw [← ha] at X0
  have HA := Lib.hid ha
  clear ha
  go_loopw [11] (fun s wr => ∃ (i : Nat), s = .int .i64 i ∧ a ≤ i ∧ (i = a ∨ i ≤ (min to 3).toNat) ∧ Hid (wr.heap[w.heap.size]? = some (.cells (u8s (walkC l c x a i)).toArray 24 (0, 0))) ∧ Hid (Has wr (w.heap.size + 1) 24 16) ∧ Hid (Below w.heap.size w wr))
    (fun s _ => 3 - (intOf s).toNat)
  case atStart => exact ⟨a, rfl, Nat.le_refl _, .inl rfl, X0, R0, B0⟩
  case round =>
    clear X0 R0 B0
    obtain ⟨i, rfl, hai, hib, hXB, hR', hbel⟩ := hrel
    by_cases hlt : (i : Int) < min to 3
    · obtain ⟨X, hX⟩ : ∃ X, X = walkC l c x a i := ⟨_, rfl⟩
      have hgood := walk_good l c x a i HL.out HX.out
      rw [← hX] at hgood hXB
      obtain ⟨hXl, hXo⟩ := hgood
      have hws : walkC l c x a (i + 1) = stepC l c X i := by rw [walk_succ _ _ _ _ _ hai, hX]
      have hbx : Bs wr (.slice (some ⟨w.heap.size, 0, none⟩) X.length 16) X := Bs.of_blk hXB.out hXo (by omega) (by unfold maxLen; omega)
      rw [hXl] at hbx
      obtain ⟨ST, hST⟩ : ∃ s, s = stepC l c X i := ⟨_, rfl⟩
      have hSl : ST.length = 16 := by rw [hST]; exact step_len _ _ _ _
      have hfl : (framed 2 [X, [l % 256], [c % 256], [(i : Int) % 256]]).length ≤ 1099511627776 := by simp [framed, be4, hXl]
      have hi43 : (Tryz.prog.info? 24).map (·.size) = some (u8s ST).length := by rw [u8s_len', hSl]; exact Tryz.size24
      have hhas : ∀ w3, Ext wr w3 → Has w3 w.heap.size 24 (u8s ST).length := fun w3 h => by
        rw [u8s_len', hSl]
        exact Has.below ⟨_, by simp only [List.size_toArray]; rw [u8s_len', hXl], hXB.out⟩ h
      rw [← hST] at hws
      have HBX := Lib.hid hbx
      have HFL := Lib.hid hfl
      have HWS := Lib.hid hws
      have HST := Lib.hid hST
      have HI := Lib.hid hi43
      have HH := Lib.hid hhas
      have HXL := Lib.hid hXl
      clear hbx hfl hws hST hi43 hhas hXl hXo hSl hX hXB
      go_wp2_with fail
      refine wp_region_rely (by kernel_rfl) 9 (by kernel_rfl) (by kernel_rfl) Ext Ext.refl Ext.trans (fun i' => match i' with
        | 0 => fun _ v => v = .slice (some ⟨w.heap.size, 0, none⟩) 16 16
        | 1 => fun _ v => v = .int .i64 l
        | 2 => fun w v => Bs w v [l % 256]
        | 3 => fun _ v => v = .int .i64 c
        | 4 => fun w v => Bs w v [c % 256]
        | 5 => fun _ v => v = .int .i64 i
        | 6 => fun w v => Bs w v [(i : Int) % 256]
        | 7 => fun w v => ∃ A, v = .slice A 4 4 ∧ Bss w (.slice A 4 4) [X, [l % 256], [c % 256], [(i : Int) % 256]]
        | 8 => fun _ v => v = .agg (u8s ST).toArray
        | _ => fun _ _ => False) ?_
      simp (maxSteps := 10000000) only [Rely, List.take_succ_cons, List.take_zero, List.drop_succ_cons, List.drop_zero, Nat.reduceAdd, Nat.zero_add, Act.put, List.setIfInBounds_toArray, List.set_cons_succ, List.set_cons_zero]
      refine ⟨?_, ?_, ?_, ?_, ?_, ?_, ?_, ?_, ?_, ?_⟩
      · refine step_plain rfl fun vs w1 hE hd => ?_
        exact gives_slice 24 _ none none none rfl (.pointer (some ⟨w.heap.size, 0, none⟩)) (.slice (some ⟨w.heap.size, 0, none⟩) 16 16) none none none rfl rfl rfl rfl (slice43 _ _) ⟨Ext.refl _, fun _ _ => rfl⟩
      · refine step_plain rfl fun vs w1 hE hd => ?_
        exact gives_move _ (.int .i64 l) (.inl rfl) rfl ⟨Ext.refl _, fun _ _ => rfl⟩
      · refine step_plain rfl fun vs w1 hE hd => ?_
        refine gives_call 155 Tryz.call155 _ _ rfl rfl [.int .i64 l] (congrArg (fun x => [x]) (hd.1)) ?_
        refine (small_any l w1).mono ?_
        rintro e w2 ⟨rfl, rfl⟩
        exact ⟨_, rfl, (Below.refl _ _).alloc (Nat.le_refl _) _, fun _ h => (Bs.new1 w1 l).below h⟩
      · refine step_plain rfl fun vs w1 hE hd => ?_
        exact gives_move _ (.int .i64 c) (.inl rfl) rfl ⟨Ext.refl _, fun _ _ => rfl⟩
      · refine step_plain rfl fun vs w1 hE hd => ?_
        refine gives_call 155 Tryz.call155 _ _ rfl rfl [.int .i64 c] (congrArg (fun x => [x]) (hd.1)) ?_
        refine (small_any c w1).mono ?_
        rintro e w2 ⟨rfl, rfl⟩
        exact ⟨_, rfl, (Below.refl _ _).alloc (Nat.le_refl _) _, fun _ h => (Bs.new1 w1 c).below h⟩
      · refine step_plain rfl fun vs w1 hE hd => ?_
        exact gives_move _ (.int .i64 i) (.inl rfl) rfl ⟨Ext.refl _, fun _ _ => rfl⟩
      · refine step_plain rfl fun vs w1 hE hd => ?_
        refine gives_call 155 Tryz.call155 _ _ rfl rfl [.int .i64 i] (congrArg (fun x => [x]) (hd.1)) ?_
        refine (small_any i w1).mono ?_
        rintro e w2 ⟨rfl, rfl⟩
        exact ⟨_, rfl, (Below.refl _ _).alloc (Nat.le_refl _) _, fun _ h => (Bs.new1 w1 i).below h⟩
      · refine step_plain rfl fun vs w1 hE hd => ?_
        have e0 : vs 0 = _ := hd.1
        have b2 : Bs w1 (vs 2) [l % 256] := hd.2.1
        have b4 : Bs w1 (vs 4) [c % 256] := hd.2.2.1
        have b6 : Bs w1 (vs 6) [(i : Int) % 256] := hd.2.2.2.1
        have bx : Bs w1 _ X := HBX.out.below (ext_of_drew hE)
        obtain ⟨A2, c2, e2⟩ := b2.form
        obtain ⟨A4, c4, e4⟩ := b4.form
        obtain ⟨A6, c6, e6⟩ := b6.form
        rw [e2] at b2
        rw [e4] at b4
        rw [e6] at b6
        refine gives_build 30 4 _ rfl #[(0, .slice (some ⟨w.heap.size, 0, none⟩) 16 16), (1, .slice A2 1 c2), (2, .slice A4 1 c4), (3, .slice A6 1 c6)] ?_ _ (build30 _ _ _ _ _ _ _ _ _ _ _ _ _) ⟨(Below.refl _ _).alloc (Nat.le_refl _) _, fun w5 h5 => ⟨_, rfl, Bss.below (Bss.new w1 [.slice (some ⟨w.heap.size, 0, none⟩) 16 16, .slice A2 1 c2, .slice A4 1 c4, .slice A6 1 c6] [X, [l % 256], [c % 256], [(i : Int) % 256]] rfl (fun j hj => ?_) (by simp)) h5⟩⟩
        · simp only [List.map_toArray, List.map_cons, List.map_nil]
          show #[(0, vs 0), (1, vs 2), (2, vs 4), (3, vs 6)] = _
          rw [e0, e2, e4, e6]
          rfl
        · have hj4 : j = 0 ∨ j = 1 ∨ j = 2 ∨ j = 3 := by simp at hj; omega
          rcases hj4 with rfl | rfl | rfl | rfl
          · exact bx
          · exact b2
          · exact b4
          · exact b6
      · refine step_plain rfl fun vs w1 hE hd => ?_
        obtain ⟨A7, e7, b7⟩ : ∃ A, vs 7 = .slice A 4 4 ∧ Bss w1 (.slice A 4 4) [X, [l % 256], [c % 256], [(i : Int) % 256]] := hd.1
        have hw1 : Below w.heap.size w w1 := hbel.out.trans (Below.mono (ext_of_drew hE) hbel.out.size)
        refine gives_call 73 Tryz.call73 _ _ rfl rfl [.int .i64 2, .slice A7 4 4] (congrArg (fun x => [Value.int .i64 2, x]) e7) ?_
        refine (of_any 2 [X, [l % 256], [c % 256], [(i : Int) % 256]] A7 4 4 w1 b7 rfl HFL.out (range_below HK.out hw1) (by have := hw1.size; omega)).mono ?_
        rintro e w2 ⟨rfl, hb⟩
        exact ⟨_, rfl, hb, fun _ _ => by rw [HST.out]; rfl⟩
      · intro vs w3 hE hR
        have h8 : vs 8 = .agg (u8s ST).toArray := hR 8 (by omega)
        rw [h8]
        have he : Ext wr w3 := ext_of_drew hE
        have HH3 := Lib.hid (HH.out w3 he)
        have HR3 := Lib.hid (hR'.out.below he)
        have HB3 := Lib.hid (hbel.out.trans (Below.mono he hbel.out.size))
        clear hR hE h8 HH he
        go_wp2_with (refine wpList_store_row rfl 24 (.tmp 5) (.tmp 28) rfl w.heap.size rfl (u8s ST) rfl 24 HH3.out HI.out (one_u8s _) ?_; intro w9 hp9)
        go_roundw
        case rel => exact ⟨i + 1, by go_num, by omega, .inr (by omega), Lib.hid (by rw [HWS.out]; exact hp9.blk), Lib.hid (HR3.out.same (hp9.other _ (by omega))), Lib.hid (hp9.below HB3.out (Nat.le_refl _))⟩
        case measure => simp [intOf]; omega
    · have hwk : walkC l c x a i = runC l c x fr to := by
        unfold runC
        rw [← HA.out]
        rcases hib with rfl | hib
        · rw [walk_none _ _ _ _ _ (Nat.le_refl _), walk_none _ _ _ _ _ (by omega)]
        · by_cases h : i = (min to 3).toNat
          · rw [h]
          · rw [walk_none _ _ _ _ _ (by omega), walk_none _ _ _ _ _ (by omega)]
      rw [hwk] at hXB
      obtain ⟨SH, hSH⟩ : ∃ s, s = runC l c x fr to := ⟨_, rfl⟩
      have hsl : SH.length = 16 := by rw [hSH]; exact (walk_good l c x _ _ HL.out HX.out).1
      have hi43 : (Tryz.prog.info? 24).map (·.size) = some (u8s SH).length := by rw [u8s_len', hsl]; exact Tryz.size24
      rw [← hSH] at hXB
      have hra : wr.rangeAt w.heap.size 0 (u8s SH) := blk_range hXB.out
      have hh : Has wr (w.heap.size + 1) 24 (u8s SH).length := by rw [u8s_len', hsl]; exact hR'.out
      have HRA := Lib.hid hra
      have HHH := Lib.hid hh
      have HI43 := Lib.hid hi43
      have HSH := Lib.hid hSH
      clear hra hh hi43 hSH hXB hR' hwk
      go_wp2_with (first | (refine wpList_load_g rfl 24 (.tmp 5) rfl w.heap.size 0 rfl (u8s SH) _ HRA.out Tryz.underlying24 rfl HI43.out ?_) | (refine wpList_store_row rfl 24 (.tmp 10) (.tmp 29) rfl (w.heap.size + 1) rfl (u8s SH) rfl 24 HHH.out HI43.out (one_u8s _) ?_; intro w10 hp10))
      refine bodyPost_ret (v := .agg (u8s SH).toArray) (results_cell_row rfl _ _ (w.heap.size + 1) 24 _ (0, 0) _ rfl hp10.blk Tryz.underlying24 rfl (by simpa using HI43.out)) rfl ⟨by rw [HSH.out], hp10.below hbel.out (by omega)⟩
end Go.Proofs.YtniknhhejlgdfaaGreatDoor
/- Slices of digests; what the reference's Same does. -/
namespace Go.Proofs.YtniknhhejlgdfaaGreatDoor
open Go.RowKit

/-- A slice of digests. -/
structure Dgs (w : World) (v : Value) (ds : List (List Int)) : Prop where
  form : ∃ A c, v = .slice A ds.length c
  cells : ds ≠ [] → ∃ b off c, v = .slice (some ⟨b, off, none⟩) ds.length c ∧ ds.length ≤ c ∧ c ≤ maxLen ∧ b < w.heap.size ∧ ∀ i, i < ds.length → w.rangeAt b (off + i * 16) (u8s (ds.getD i []))
  good : ∀ d ∈ ds, d.length = 16 ∧ u8s_ok d
theorem Dgs.below {w w' : World} {v : Value} {ds : List (List Int)} (h : Dgs w v ds) (hb : Below w.heap.size w w') : Dgs w' v ds := by
  refine ⟨h.form, fun hne => ?_, h.good⟩
  obtain ⟨b, off, c, e, h1, h2, h3, h4⟩ := h.cells hne
  exact ⟨b, off, c, e, h1, h2, Nat.lt_of_lt_of_le h3 hb.size, fun i hi => range_below (h4 i hi) hb⟩
theorem Dgs.at {w : World} {v : Value} {ds : List (List Int)} (h : Dgs w v ds) (i : Nat) (hi : i < ds.length) : (ds.getD i []).length = 16 ∧ u8s_ok (ds.getD i []) := by
  rw [List.getD_eq_getElem?_getD, List.getElem?_eq_getElem hi]
  exact h.good _ (List.getElem_mem _)

end Go.Proofs.YtniknhhejlgdfaaGreatDoor
/- What the reference's Step, Secret and Run do. -/
namespace Go.Proofs.YtniknhhejlgdfaaGreatDoor
open Go.RowKit

theorem Txs.new (w : World) (ss : List ByteArray) (hz : ss.length ≤ 1000) : Txs (w.alloc (.cells (strs ss).toArray 9)) (.slice (some ⟨w.heap.size, 0, none⟩) ss.length ss.length) ss := by
  refine ⟨⟨_, _, rfl⟩, fun _ => ⟨w.heap.size, 0, ss.length, rfl, Nat.le_refl _, by unfold maxLen; omega, by simp, fun i hi => ?_⟩⟩
  rw [Nat.zero_add, cell_of_row _ _ _ _ _ _ (heap_alloc_new w _)]
  simp [strs, List.getD_eq_getElem?_getD, hi]

end Go.Proofs.YtniknhhejlgdfaaGreatDoor
namespace Go.Proofs.YtniknhhejlgdfaaGreatDoor

def four (b : Int) : List Int := [b / 64 % 4, b / 16 % 4, b / 4 % 4, b % 4]
def top (bs : List Int) : List Int := bs.flatMap four
def lack : List Int → Int
  | [] => 0
  | x :: xs => (3 - x) + lack xs
def last4 (s : Int) : List Int := [s / 64 % 4, s / 16 % 4, s / 4 % 4, s % 4]
def digits (bs : List Int) : List Int := top bs ++ last4 (lack (top bs))

theorem lack_append (xs ys : List Int) : lack (xs ++ ys) = lack xs + lack ys := by
  induction xs with
  | nil => simp [lack]
  | cons x xs ih => simp only [List.cons_append, lack, ih]; omega
theorem four_len (b : Int) : (four b).length = 4 := rfl
theorem top_len (bs : List Int) : (top bs).length = 4 * bs.length := by
  induction bs with
  | nil => rfl
  | cons b bs ih => simp only [top, List.flatMap_cons, List.length_append, List.length_cons] at ih ⊢; simp only [four_len, ih]; omega
theorem four_range (b : Int) : ∀ x ∈ four b, 0 ≤ x ∧ x ≤ 3 := by
  intro x hx
  simp only [four, List.mem_cons, List.not_mem_nil, or_false] at hx
  omega
theorem top_range (bs : List Int) : ∀ x ∈ top bs, 0 ≤ x ∧ x ≤ 3 := by
  intro x hx
  obtain ⟨b, _, hb⟩ := List.mem_flatMap.1 hx
  exact four_range b x hb
theorem lack_range (xs : List Int) (h : ∀ x ∈ xs, 0 ≤ x ∧ x ≤ 3) : 0 ≤ lack xs ∧ lack xs ≤ 3 * xs.length := by
  induction xs with
  | nil => simp [lack]
  | cons x xs ih =>
    have h1 := h x (by simp)
    have h2 := ih (fun y hy => h y (by simp [hy]))
    simp only [lack, List.length_cons]
    omega
theorem top_take_succ (bs : List Int) (k : Nat) (h : k < bs.length) : top (bs.take (k + 1)) = top (bs.take k) ++ four bs[k] := by
  rw [List.take_succ_eq_append_getElem h]
  unfold top
  rw [List.flatMap_append]
  simp
theorem dig_bd (bs : List Int) (k j : Nat) (b : Int) (hk : k ≤ 16) (hj : j ≤ 4) : 0 ≤ lack (top (bs.take k) ++ (four b).take j) ∧ lack (top (bs.take k) ++ (four b).take j) ≤ 3 * 68 := by
  have h := lack_range (top (bs.take k) ++ (four b).take j) (by
    intro x hx
    rcases List.mem_append.1 hx with h | h
    · exact top_range _ x h
    · exact four_range b x (List.mem_of_mem_take h))
  have h1 : (bs.take k).length ≤ k := List.length_take_le _ _
  simp only [List.length_append, top_len, List.length_take, four_len] at h
  omega
end Go.Proofs.YtniknhhejlgdfaaGreatDoor
/- What chains.Digits does. -/
namespace Go.Proofs.YtniknhhejlgdfaaGreatDoor
open Go.RowKit

theorem Tryz.info3 : (Tryz.prog.info? 3).map (fun i => (i.zero, i.size, i.bytes)) = some (some (.int .i64 0), 1, 8) := by kernel_rfl
theorem Tryz.size5 : (Tryz.prog.info? 5).map (·.size) = some 1 := by kernel_rfl

set_option maxHeartbeats 4000000 in
set_option maxRecDepth 100000 in
theorem digits_any (bs : List Int) (hl : bs.length = 16) (hb : ∀ b ∈ bs, 0 ≤ b ∧ b ≤ 255) (w : World) :
    Calls Tryz.prog 133 #[.agg (u8s bs).toArray] w fun e w' => ∃ v, e = .returned v ∧ w'.ownsRow w.heap.size 3 1 v 68 (i64s (digits bs)) ∧ Below w.heap.size w w' := by
  obtain ⟨i0, hi, hz0, hz1, hz2⟩ := info_parts Tryz.info3
  have hs : (Tryz.prog.info? 24).map (·.size) = some (u8s bs).toArray.size := by rw [Tryz.size24]; simp [u8s, hl]
  have HL := Lib.hid hl
  have HS := Lib.hid hs
  clear hl hs
  go_enter Tryz.func133, Tryz.ntmps133
  go_wp2_with (refine wpList_load_row rfl 24 (.tmp 1) rfl w.heap.size rfl 24 (u8s bs).toArray (0,0) _ (heap_alloc_new w _) Tryz.underlying24 rfl HS.out ?_)
  go_loopw [3, 4, 6, 7, 8, 11, 13] (fun v s _ _ _ i _ wr => ∃ (k : Nat) (m : Int), k ≤ 16 ∧ i = .int .i64 k ∧ wr.ownsRow w.heap.size 3 1 v (4 * k) (i64s (top (bs.take k))) ∧ s = .int .i64 m ∧ m = lack (top (bs.take k)) ∧ Below w.heap.size w wr)
    (fun _ _ _ _ _ i _ _ => 16 - (intOf i).toNat)
  case atStart => exact ⟨0, 0, by omega, rfl, World.ownsRow_nil _ _ _ _, rfl, rfl, (Below.refl _ _).alloc (Nat.le_refl _) _⟩
  case round =>
    obtain ⟨k, m, hk, rfl, hown, rfl, hm, hbl⟩ := hrel
    by_cases hlt : k < 16
    · have HM0 := Lib.hid hm
      clear hm
      obtain ⟨b, hbd⟩ : ∃ b, b = bs.getD k 0 := ⟨_, rfl⟩
      have hbk : (u8s bs).toArray[(k : Int).toNat]? = some (.int .u8 b) := by
        have := HL.out
        simp [u8s, hbd, List.getElem?_eq_getElem (show k < bs.length by omega)]
      have hb0 : 0 ≤ b ∧ b ≤ 255 := by
        have := HL.out
        rw [hbd, List.getD_eq_getElem?_getD, List.getElem?_eq_getElem (show k < bs.length by omega)]
        exact hb _ (List.getElem_mem _)
      have HB := Lib.hid hbd
      have HBK := Lib.hid hbk
      clear hbd hbk
      go_wp2_with (refine wpList_index_arr rfl 24 5 16 (.tmp 10) (.tmp 11) rfl (u8s bs).toArray .i64 k (.int .u8 b) rfl rfl Tryz.underlying24 _ Tryz.underlying5 rfl Tryz.size5 (by omega) (by omega) HBK.out ?_)
      obtain ⟨wo, rfl⟩ : ∃ wo : World, wo = wr := ⟨_, rfl⟩
      go_loopw [3, 4, 7, 8] (fun v s sh _ wr => ∃ (j : Nat) (n m : Int), n + 2 * j = 6 ∧ j ≤ 4 ∧ sh = .int .i64 n ∧ wr.ownsRow w.heap.size 3 1 v (4 * k + j) (i64s (top (bs.take k) ++ (four b).take j)) ∧ s = .int .i64 m ∧ m = lack (top (bs.take k) ++ (four b).take j) ∧ Below w.heap.size w wr)
        (fun _ _ sh _ _ => ((intOf sh) + 2).toNat)
      case atStart => exact ⟨0, 6, _, by omega, by omega, rfl, by simpa using hown, rfl, by simpa using HM0.out, hbl⟩
      case round =>
        obtain ⟨j, n, m, hn, hj, rfl, hown, rfl, hm, hbl⟩ := hrel
        have hlen := dig_bd bs k j b (by omega) hj
        rw [← hm] at hlen
        have HM := Lib.hid hm
        clear hm
        by_cases hlt : j < 4
        · have hj4 : j = 0 ∨ j = 1 ∨ j = 2 ∨ j = 3 := by omega
          rcases hj4 with rfl | rfl | rfl | rfl
          · obtain rfl : n = 6 := by omega
            clear hn
            have ha := i64_and3 (b / 64) (by omega) (by omega)
            go_wp2_with (first | (at_builtin; refine wpList_append_own _ rfl _ _ 149 rfl w.heap.size 3 i0 (.int .i64 0) 1 8 Tryz.underlying149 hi hz0 hz1 hz2 rfl (by decide) _ _ _ rfl (hown.alloc _) ⟨wr.heap.size, 0, none⟩ 1 1 [.int .i64 (b / 64 % 4)] rfl rfl (cell_one_new _ _ _) (by simp [Value.oneCell']) (by unfold maxLen; omega) (by omega) (by have := hbl.size; simp; omega) ?_; intro v' w1 hown' hgrow' _))
            go_roundw
            case rel => exact ⟨1, _, _, by omega, by omega, rfl, by simpa [i64s, four] using hown', rfl, by have := HM.out; simp only [lack_append, four, lack, List.take] at this ⊢; omega, below_app hbl hbl.size hown hgrow'⟩
            case measure => simp [intOf]
          · obtain rfl : n = 4 := by omega
            clear hn
            have ha := i64_and3 (b / 16) (by omega) (by omega)
            go_wp2_with (first | (at_builtin; refine wpList_append_own _ rfl _ _ 149 rfl w.heap.size 3 i0 (.int .i64 0) 1 8 Tryz.underlying149 hi hz0 hz1 hz2 rfl (by decide) _ _ _ rfl (hown.alloc _) ⟨wr.heap.size, 0, none⟩ 1 1 [.int .i64 (b / 16 % 4)] rfl rfl (cell_one_new _ _ _) (by simp [Value.oneCell']) (by unfold maxLen; omega) (by omega) (by have := hbl.size; simp; omega) ?_; intro v' w1 hown' hgrow' _))
            go_roundw
            case rel => exact ⟨2, _, _, by omega, by omega, rfl, by simpa [i64s, four] using hown', rfl, by have := HM.out; simp only [lack_append, four, lack, List.take] at this ⊢; omega, below_app hbl hbl.size hown hgrow'⟩
            case measure => simp [intOf]
          · obtain rfl : n = 2 := by omega
            clear hn
            have ha := i64_and3 (b / 4) (by omega) (by omega)
            go_wp2_with (first | (at_builtin; refine wpList_append_own _ rfl _ _ 149 rfl w.heap.size 3 i0 (.int .i64 0) 1 8 Tryz.underlying149 hi hz0 hz1 hz2 rfl (by decide) _ _ _ rfl (hown.alloc _) ⟨wr.heap.size, 0, none⟩ 1 1 [.int .i64 (b / 4 % 4)] rfl rfl (cell_one_new _ _ _) (by simp [Value.oneCell']) (by unfold maxLen; omega) (by omega) (by have := hbl.size; simp; omega) ?_; intro v' w1 hown' hgrow' _))
            go_roundw
            case rel => exact ⟨3, _, _, by omega, by omega, rfl, by simpa [i64s, four] using hown', rfl, by have := HM.out; simp only [lack_append, four, lack, List.take] at this ⊢; omega, below_app hbl hbl.size hown hgrow'⟩
            case measure => simp [intOf]
          · obtain rfl : n = 0 := by omega
            clear hn
            have ha := i64_and3 (b) (by omega) (by omega)
            go_wp2_with (first | (at_builtin; refine wpList_append_own _ rfl _ _ 149 rfl w.heap.size 3 i0 (.int .i64 0) 1 8 Tryz.underlying149 hi hz0 hz1 hz2 rfl (by decide) _ _ _ rfl (hown.alloc _) ⟨wr.heap.size, 0, none⟩ 1 1 [.int .i64 (b % 4)] rfl rfl (cell_one_new _ _ _) (by simp [Value.oneCell']) (by unfold maxLen; omega) (by omega) (by have := hbl.size; simp; omega) ?_; intro v' w1 hown' hgrow' _))
            go_roundw
            case rel => exact ⟨4, _, _, by omega, by omega, rfl, by simpa [i64s, four] using hown', rfl, by have := HM.out; simp only [lack_append, four, lack, List.take] at this ⊢; omega, below_app hbl hbl.size hown hgrow'⟩
            case measure => simp [intOf]
        · obtain rfl : j = 4 := by omega
          obtain rfl : n = -2 := by omega
          clear hn hlt
          go_wp2
          go_roundw
          case rel =>
            have hlen := HL.out
            have e : top (bs.take (k + 1)) = top (bs.take k) ++ (four b).take 4 := by
              have hbd := HB.out
              rw [List.getD_eq_getElem?_getD, List.getElem?_eq_getElem (show k < bs.length by omega)] at hbd
              simp only [Option.getD_some] at hbd
              rw [top_take_succ bs k (by omega), ← hbd]; rfl
            exact ⟨k + 1, _, by omega, by go_num, by rw [e]; exact hown, rfl, by rw [e]; exact HM.out, hbl⟩
          case measure => simp [intOf]; omega
    · have hlen := HL.out
      have hk16 : 4 * k = 64 := by omega
      rw [List.take_of_length_le (by omega)] at hown hm
      rw [hk16] at hown
      clear hk16
      have hbd := lack_range (top bs) (top_range bs)
      rw [← hm, top_len] at hbd
      have HM := Lib.hid hm
      clear hm
      have hbd2 : 0 ≤ m ∧ m ≤ 192 := by omega
      clear hbd hlen
      go_wp2
      clear hlt hk
      obtain ⟨wo, rfl⟩ : ∃ wo : World, wo = wr := ⟨_, rfl⟩
      go_loopw [3, 9] (fun v sh wr => ∃ (j : Nat) (n : Int), n + 2 * j = 6 ∧ j ≤ 4 ∧ sh = .int .i64 n ∧ wr.ownsRow w.heap.size 3 1 v (64 + j) (i64s (top bs ++ (last4 m).take j)) ∧ Below w.heap.size w wr)
        (fun _ sh _ => ((intOf sh) + 2).toNat)
      case atStart => exact ⟨0, 6, by omega, by omega, rfl, by simpa using hown, hbl⟩
      case round =>
        obtain ⟨j, n, hn, hj, rfl, hown, hbl⟩ := hrel
        have hj4 : j = 0 ∨ j = 1 ∨ j = 2 ∨ j = 3 ∨ j = 4 := by omega
        rcases hj4 with rfl | rfl | rfl | rfl | rfl
        · obtain rfl : n = 6 := by omega
          clear hn
          have ha := i64_and3 (m / 64) (by omega) (by omega)
          go_wp2_with (first | (at_builtin; refine wpList_append_own _ rfl _ _ 149 rfl w.heap.size 3 i0 (.int .i64 0) 1 8 Tryz.underlying149 hi hz0 hz1 hz2 rfl (by decide) _ _ _ rfl (hown.alloc _) ⟨wr.heap.size, 0, none⟩ 1 1 [.int .i64 (m / 64 % 4)] rfl rfl (cell_one_new _ _ _) (by simp [Value.oneCell']) (by unfold maxLen; omega) (by omega) (by have := hbl.size; simp; omega) ?_; intro v' w1 hown' hgrow' _))
          go_roundw
          case rel => exact ⟨1, _, by omega, by omega, rfl, by simpa [i64s, last4] using hown', below_app hbl hbl.size hown hgrow'⟩
          case measure => simp [intOf]
        · obtain rfl : n = 4 := by omega
          clear hn
          have ha := i64_and3 (m / 16) (by omega) (by omega)
          go_wp2_with (first | (at_builtin; refine wpList_append_own _ rfl _ _ 149 rfl w.heap.size 3 i0 (.int .i64 0) 1 8 Tryz.underlying149 hi hz0 hz1 hz2 rfl (by decide) _ _ _ rfl (hown.alloc _) ⟨wr.heap.size, 0, none⟩ 1 1 [.int .i64 (m / 16 % 4)] rfl rfl (cell_one_new _ _ _) (by simp [Value.oneCell']) (by unfold maxLen; omega) (by omega) (by have := hbl.size; simp; omega) ?_; intro v' w1 hown' hgrow' _))
          go_roundw
          case rel => exact ⟨2, _, by omega, by omega, rfl, by simpa [i64s, last4] using hown', below_app hbl hbl.size hown hgrow'⟩
          case measure => simp [intOf]
        · obtain rfl : n = 2 := by omega
          clear hn
          have ha := i64_and3 (m / 4) (by omega) (by omega)
          go_wp2_with (first | (at_builtin; refine wpList_append_own _ rfl _ _ 149 rfl w.heap.size 3 i0 (.int .i64 0) 1 8 Tryz.underlying149 hi hz0 hz1 hz2 rfl (by decide) _ _ _ rfl (hown.alloc _) ⟨wr.heap.size, 0, none⟩ 1 1 [.int .i64 (m / 4 % 4)] rfl rfl (cell_one_new _ _ _) (by simp [Value.oneCell']) (by unfold maxLen; omega) (by omega) (by have := hbl.size; simp; omega) ?_; intro v' w1 hown' hgrow' _))
          go_roundw
          case rel => exact ⟨3, _, by omega, by omega, rfl, by simpa [i64s, last4] using hown', below_app hbl hbl.size hown hgrow'⟩
          case measure => simp [intOf]
        · obtain rfl : n = 0 := by omega
          clear hn
          have ha := i64_and3 (m) (by omega) (by omega)
          go_wp2_with (first | (at_builtin; refine wpList_append_own _ rfl _ _ 149 rfl w.heap.size 3 i0 (.int .i64 0) 1 8 Tryz.underlying149 hi hz0 hz1 hz2 rfl (by decide) _ _ _ rfl (hown.alloc _) ⟨wr.heap.size, 0, none⟩ 1 1 [.int .i64 (m % 4)] rfl rfl (cell_one_new _ _ _) (by simp [Value.oneCell']) (by unfold maxLen; omega) (by omega) (by have := hbl.size; simp; omega) ?_; intro v' w1 hown' hgrow' _))
          go_roundw
          case rel => exact ⟨4, _, by omega, by omega, rfl, by simpa [i64s, last4] using hown', below_app hbl hbl.size hown hgrow'⟩
          case measure => simp [intOf]
        · obtain rfl : n = -2 := by omega
          clear hn
          go_wp2
          go_ret
          exact ⟨_, rfl, by have := HM.out; rw [digits, ← this]; exact hown, hbl⟩
end Go.Proofs.YtniknhhejlgdfaaGreatDoor
/- What Sign of the chains does, for a leaf that there is. -/
namespace Go.Proofs.YtniknhhejlgdfaaGreatDoor
open Go.RowKit

def dcells (ds : List (List Int)) : List Value := ds.flatMap u8s
theorem dcells_at (ds : List (List Int)) (h : ∀ d ∈ ds, d.length = 16) (i j : Nat) (hi : i < ds.length) (hj : j < 16) : (dcells ds)[i * 16 + j]? = (u8s (ds.getD i []))[j]? := by
  induction ds generalizing i with
  | nil => simp at hi
  | cons d ds ih =>
    have hd : (u8s d).length = 16 := by rw [u8s_len', h d (by simp)]
    rw [show dcells (d :: ds) = u8s d ++ dcells ds by simp [dcells]]
    cases i with
    | zero => rw [Nat.zero_mul, Nat.zero_add, List.getElem?_append_left (by omega)]; rfl
    | succ i =>
      rw [List.getElem?_append_right (by omega), hd, show (i + 1) * 16 + j - 16 = i * 16 + j by omega, ih (fun d hd => h d (by simp [hd])) i (by simpa using hi)]
      rfl
theorem Dgs.of_own {w : World} {base : Nat} {v : Value} {n : Nat} {ds : List (List Int)} (h : w.ownsRow base 24 16 v n (dcells ds)) (hn : n = ds.length) (hg : ∀ d ∈ ds, d.length = 16 ∧ u8s_ok d) : Dgs w v ds := by
  have hcells := @World.ownsRow.cells w base 24 16 v n (dcells ds) h
  have hlt := h.lt
  obtain ⟨_, h2⟩ := h
  rcases h2 with ⟨rfl, rfl⟩ | ⟨g, cap, cur, rfl, e1, e2, e3, e4, _, _⟩
  · cases ds with
    | nil => exact ⟨⟨_, _, rfl⟩, fun h => absurd rfl h, hg⟩
    | cons => simp at hn
  · subst hn
    refine ⟨⟨_, _, rfl⟩, fun _ => ⟨g, 0, cap, rfl, e3, e4, blk_lt e2, fun i hi j u hu => ?_⟩, hg⟩
    have hj : j < 16 := by
      have := (List.getElem?_eq_some_iff.1 hu).1
      rw [u8s_len', List.getD_eq_getElem?_getD, List.getElem?_eq_getElem hi] at this
      simpa [(hg _ (List.getElem_mem hi)).1] using this
    have := hcells rfl (i * 16 + j) u (by rw [dcells_at ds (fun d hd => (hg d hd).1) i j hi hj]; exact hu)
    rw [show (⟨g, 0, none⟩ : Addr).add (i * 16 + j) = ⟨g, 0 + i * 16 + j, none⟩ by unfold Addr.add; split <;> simp_all] at this
    exact this
theorem right_in (l : Int) (h0 : 0 ≤ l) (h1 : l < 32) (w : World) : Calls Tryz.prog 130 #[.int .i64 l] w fun e w' => e = .returned (.bool true) ∧ w' = w := by
  go_enter Tryz.func130, Tryz.ntmps130
  go_wp2
  go_ret
  exact ⟨rfl, rfl⟩

theorem runC_good (l c : Int) (x : List Int) (f t : Int) (hl : x.length = 16) (hx : u8s_ok x) : (runC l c x f t).length = 16 ∧ u8s_ok (runC l c x f t) := walk_good l c x _ _ hl hx

end Go.Proofs.YtniknhhejlgdfaaGreatDoor
/- The law on regions that draw their order, where the last operations come one behind the other. -/
namespace Go.Proofs.YtniknhhejlgdfaaGreatDoor
open Go.RowKit
section
variable {P : Program} {ops : Array Oper} {E : World → World → Prop} {R : Nat → World → Value → Prop} {w0 : World} {Q : Exit → Act → World → Prop} {a0 : Act}
def edgeTo (ops : Array Oper) (i j : Nat) : Bool := ((ops.toList[i]?).map fun o => o.after.toList.any fun e => Region.binds .any e && e.on == j).getD false
theorem edgeTo_spec {ops : Array Oper} {i j : Nat} {o : Oper} (h : edgeTo ops i j = true) (ho : ops[i]? = some o) : ∃ e ∈ o.after.toList, Region.binds .any e = true ∧ e.on = j := by
  have ho' : ops.toList[i]? = some o := by simpa using ho
  unfold edgeTo at h
  rw [ho'] at h
  simp only [Option.map_some, Option.getD_some, List.any_eq_true, Bool.and_eq_true, beq_iff_eq] at h
  exact h
end
end Go.Proofs.YtniknhhejlgdfaaGreatDoor
/- The ends of chains, plain: a signature's are those of the secrets. -/
namespace Go.Proofs.YtniknhhejlgdfaaGreatDoor
open Go.RowKit

/-- A digest. -/
abbrev Dg := { x : List Int // x.length = 16 ∧ u8s_ok x }
def dgv (x : Dg) : Value := .agg (u8s x.1).toArray
/-- The end that what is handed in comes to. -/
def recAt (l : Int) (ds : List (List Int)) (m : List Int) (j : Nat) : List Int := runC l j (ds.getD j []) ((digits m).getD j 0) 3
def recE (l : Int) (ds : List (List Int)) (m : List Int) (i : Nat) : List (List Int) := (List.range i).map (recAt l ds m)
/-- The public digest of ends. -/
def publicC (l : Int) (es : List (List Int)) : List Int := short 3 [[l % 256], es.flatten]

theorem publicC_good (l : Int) (es : List (List Int)) : (publicC l es).length = 16 ∧ u8s_ok (publicC l es) := ⟨short_len _ _, short_ok _ _⟩
theorem flat_len (es : List (List Int)) (h : ∀ e ∈ es, e.length = 16) : es.flatten.length = 16 * es.length := by
  induction es with
  | nil => rfl
  | cons e es ih =>
    rw [List.flatten_cons, List.length_append, ih (fun e he => h e (by simp [he])), h e (by simp), List.length_cons]
    omega
theorem flat_ok (es : List (List Int)) (h : ∀ e ∈ es, u8s_ok e) : u8s_ok es.flatten := by
  intro b hb
  obtain ⟨e, he, hbe⟩ := List.mem_flatten.1 hb
  exact h e he b hbe
theorem public_small (l : Int) (es : List (List Int)) (h : ∀ e ∈ es, e.length = 16) (hn : es.length ≤ 1000) : (framed 3 [[l % 256], es.flatten]).length ≤ 1099511627776 := by
  have := flat_len es h
  simp only [framed, be4, List.length_append, List.length_cons, List.length_nil, List.flatMap_cons, List.flatMap_nil]
  omega
theorem recAt_good (l : Int) (ds : List (List Int)) (m : List Int) (j : Nat) (h : (ds.getD j []).length = 16 ∧ u8s_ok (ds.getD j [])) : (recAt l ds m j).length = 16 ∧ u8s_ok (recAt l ds m j) := runC_good _ _ _ _ _ h.1 h.2
end Go.Proofs.YtniknhhejlgdfaaGreatDoor
/- Plain steps within a fence that shuts nothing out, and within a round. -/
namespace Go.Proofs.YtniknhhejlgdfaaGreatDoor
open Go.RowKit

/-- A fence that shuts nothing out, in a round or in none. -/
def AtRound (ro : Option Nat) : Fence := { Fence.wide with round := ro }
theorem wideF : ∃ ro, Fence.wide = AtRound ro := ⟨none, rfl⟩
theorem roundF (l : Nat) : ∃ ro, Fence.wide.inRound l = AtRound ro := ⟨some l, rfl⟩

section
variable {n : Nat} {P : Program} {ops : Array Oper} {Q : Exit → Act → World → Prop} {a : Act} {w : World} {rest : List Oper} {o : Oper}

theorem operIn_of (ro : Option Nat) {next : Act → World → Prop} (hnd : ∀ c, o.op ≠ .defer c) (h : o.wp P a w next Q) : o.wpIn (AtRound ro) n P a w next Q := by
  have hsem : o.semAt ro a.eval = execOp a.eval o := Oper.semAt_eq ro a.eval o hnd
  refine ⟨fun _ _ => trivial, ?_⟩
  show o.uponIn (AtRound ro) n P a next Q ((o.semAt ro a.eval).run P w)
  rw [hsem]
  unfold Oper.wp at h
  generalize (execOp a.eval o).run P w = r at h ⊢
  unfold Oper.upon at h
  split at h
  · exact h
  · exact h
  · exact h
  · exact ⟨fun hd => (by cases hd), callsIn_wide.2 h⟩
  · exact ⟨fun hd => (by cases hd), fun c cs _ => let ⟨v, w', r, s⟩ := h c cs; ⟨v, w', r, stepsIn_wide.2 s⟩⟩
  · exact h
  · exact h.elim

/-- One operation that is wanted, by a plain step. -/
theorem wpListIn_op (ro : Option Nat) (hw : Region.wanted o (yielded ops a.tmps) = true) (hnd : ∀ c, o.op ≠ .defer c)
    (h : ∀ K : Act → World → Prop, (∀ a w, wpListIn (AtRound ro) n P ops Q rest a w → K a w) → o.wp P a w K Q) : wpListIn (AtRound ro) n P ops Q (o :: rest) a w := by
  simp only [wpListIn, hw, if_true]
  exact operIn_of ro hnd (h _ (fun _ _ h => h))

theorem wpListIn_load_g {F : Fence} (hF : ∃ ro, F = AtRound ro) (hw : Region.wanted o (yielded ops a.tmps) = true) (ty : TypeId) (x : Operand) (ho : o.op = .load ty x)
    (b f : Nat) (hx : a.eval x = .pointer (some ⟨b, f, none⟩)) (cs : List Value) (d : TypeDesc) (hc : w.rangeAt b f cs)
    (hu : P.underlying ty = some d) (hd : d.isRow = true) (hi : (P.info? ty).map (·.size) = some cs.length)
    (h : wpListIn F n P ops Q rest (a.put o.dst (.agg cs.toArray)) w) : wpListIn F n P ops Q (o :: rest) a w := by
  obtain ⟨ro, rfl⟩ := hF
  exact wpListIn_op ro hw (fun c e => by rw [ho] at e; cases e) fun _ hK => wp_load_mid ty x ho b f hx cs d hc hu hd hi (hK _ _ h)

theorem wpListIn_store_row {F : Fence} (hF : ∃ ro, F = AtRound ro) (hw : Region.wanted o (yielded ops a.tmps) = true) (ty : TypeId) (x y : Operand) (ho : o.op = .store ty x y)
    (b : Nat) (hx : a.eval x = .pointer (some ⟨b, 0, none⟩)) (cs : List Value) (hy : a.eval y = .agg cs.toArray) (t : Nat) (hb : Has w b t cs.length)
    (hi : (P.info? ty).map (·.size) = some cs.length) (h1 : ∀ v ∈ cs, v.oneCell' = true)
    (h : ∀ w1, Put w b t cs w1 → wpListIn F n P ops Q rest (a.put o.dst undef) w1) : wpListIn F n P ops Q (o :: rest) a w := by
  obtain ⟨Z, hz, hZ⟩ := hb
  obtain ⟨ro, rfl⟩ := hF
  refine wpListIn_op ro hw (fun c e => by rw [ho] at e; cases e) fun K hK => ?_
  have hr := run_storeVar_row (P := P) w b t ty Z cs.toArray hZ (by simpa using hi) (by simpa using hz) (Array.all_eq_true_iff_forall_mem.2 (fun v hv => h1 v (by simpa using hv)))
  unfold Oper.wp execOp
  simp only [ho, hx, hy, Instr.storeAt, Instr.sureAddr, Sem.run_bind, Sem.run_pure, Result.andThen_ok, hr]
  refine hK _ _ (h _ ⟨setRow_heap w b Z _ t _ hZ, fun k hk => setRow_other w b k _ hk, by simp, rfl, rfl, rfl⟩)
end
end Go.Proofs.YtniknhhejlgdfaaGreatDoor
/- Regions that draw their order, within a fence that shuts nothing out or within a round. -/
namespace Go.Proofs.YtniknhhejlgdfaaGreatDoor
open Go.RowKit

section
variable {P : Program} {ops : Array Oper} {E : World → World → Prop} {R : Nat → World → Value → Prop} {w0 : World} {Q : Exit → Act → World → Prop} {a0 : Act}
theorem wpOp_in {n : Nat} (ro : Option Nat) (hQ : ¬ LetsOut Q) (hnd : ∀ (i : Nat) (o : Oper), ops[i]? = some o → ∀ c, o.op ≠ .defer c) {i : Nat} {K : Act → World → Prop} {a : Act} {w : World} (h : wpOp P ops Q i K a w) : wpOpIn (AtRound ro) n P ops Q i K a w := by
  unfold wpOp at h
  unfold wpOpIn
  split at h
  · rename_i ho; rw [ho]; exact h
  · rename_i o ho
    rw [ho]
    dsimp only
    split at h
    · rename_i hw
      rw [if_pos hw]
      rcases h with h | h
      · exact operIn_of ro (hnd i o ho) h
      · exact absurd h.2 hQ
    · rename_i hw
      rw [if_neg hw]
      exact ⟨fun _ _ => trivial, h⟩
theorem wpAny_in {n : Nat} (ro : Option Nat) (hQ : ¬ LetsOut Q) (hnd : ∀ (i : Nat) (o : Oper), ops[i]? = some o → ∀ c, o.op ≠ .defer c) : ∀ (fuel : Nat) (listed : Array Bool) (a : Act) (w : World), wpAny P .any ops Q fuel listed a w → wpAnyIn (AtRound ro) n P .any ops Q fuel listed a w
  | 0, _, _, _, h => h
  | fuel + 1, _, _, _, h => ⟨h.1, fun i hi => wpOpIn_mono (fun a w hh => wpAny_in ro hQ hnd fuel _ a w hh) (wpOp_in ro hQ hnd (h.2 i hi))⟩
end
end Go.Proofs.YtniknhhejlgdfaaGreatDoor
/- The law on regions that draw their order, where the first of the last operations comes behind all others by some edges. -/
namespace Go.Proofs.YtniknhhejlgdfaaGreatDoor
open Go.RowKit
section
variable {P : Program} {ops : Array Oper} {E : World → World → Prop} {R : Nat → World → Value → Prop} {w0 : World} {Q : Exit → Act → World → Prop} {a0 : Act}

/-- An operation that comes behind another, by one edge or by some. -/
inductive OpReach (ops : Array Oper) : Nat → Nat → Prop
  | one {i : Nat} {o : Oper} {e : Edge} : ops[i]? = some o → e ∈ o.after.toList → Region.binds .any e = true → OpReach ops i e.on
  | step {i j : Nat} {k : Nat} {o : Oper} {e : Edge} : OpReach ops i k → ops[k]? = some o → e ∈ o.after.toList → Region.binds .any e = true → e.on = j → OpReach ops i j
theorem OpReach.listed {ops : Array Oper} {i j : Nat} {o : Oper} (h : OpReach ops i j) (listed : Array Bool) (hcl : ∀ j o, ops[j]? = some o → listed.getD j false = true → ∀ e ∈ o.after.toList, Region.binds .any e = true → listed.getD e.on false = true)
    (ho : ops[i]? = some o) (hd : ∀ e ∈ o.after.toList, Region.binds .any e = true → listed.getD e.on false = true) : listed.getD j false = true := by
  induction h with
  | one h1 h2 h3 =>
    rw [h1] at ho
    cases ho
    exact hd _ h2 h3
  | step _ h2 h3 h4 h5 ih => rw [← h5]; exact hcl _ _ h2 ih _ h3 h4
def targets (ops : Array Oper) (i : Nat) : List Nat := ((ops.toList[i]?).map fun o => (o.after.toList.filter fun e => Region.binds .any e).map (·.on)).getD []
theorem targets_spec {ops : Array Oper} {i j : Nat} (h : j ∈ targets ops i) : ∃ o, ops[i]? = some o ∧ ∃ e ∈ o.after.toList, Region.binds .any e = true ∧ e.on = j := by
  unfold targets at h
  cases ho : ops.toList[i]? with
  | none => rw [ho] at h; simp at h
  | some o =>
    rw [ho] at h
    simp only [Option.map_some, Option.getD_some, List.mem_map, List.mem_filter] at h
    obtain ⟨e, ⟨h1, h2⟩, h3⟩ := h
    exact ⟨o, by simpa using ho, e, h1, h2, h3⟩
def closeB (ops : Array Oper) : Nat → List Nat → List Nat
  | 0, S => S
  | i + 1, S => closeB ops i (if S.contains i then targets ops i ++ S else S)
theorem closeB_spec {ops : Array Oper} {m : Nat} : ∀ (i : Nat) (S : List Nat), (∀ j ∈ S, OpReach ops m j) → ∀ j ∈ closeB ops i S, OpReach ops m j
  | 0, _, h, j, hj => h j hj
  | i + 1, S, h, j, hj => by
    unfold closeB at hj
    refine closeB_spec i _ ?_ j hj
    split
    · rename_i hc
      intro k hk
      rcases List.mem_append.1 hk with hk | hk
      · obtain ⟨o, ho, e, he, hb, hon⟩ := targets_spec hk
        exact .step (h i (by simpa using hc)) ho he hb hon
      · exact h k hk
    · exact h
/-- From m on the operations come one behind the other; the first of them comes behind all before, by one edge or by some. -/
def tailOk3 (ops : Array Oper) (m : Nat) : Bool :=
  decide (m ≤ ops.size) && (let S := closeB ops m (targets ops m); decide (m = ops.size) || (List.range m).all fun j => S.contains j) && (List.range ops.size).all fun i => decide (i ≤ m) || edgeTo ops i (i - 1)
theorem tailOk3_spec {m : Nat} (h : tailOk3 ops m = true) : m ≤ ops.size ∧ ∀ i o, m ≤ i → ops[i]? = some o → (i = m → ∀ j, j < m → OpReach ops i j) ∧ (m < i → ∃ e ∈ o.after.toList, Region.binds .any e = true ∧ e.on = i - 1) := by
  simp only [tailOk3, Bool.and_eq_true, decide_eq_true_eq, List.all_eq_true, List.mem_range, Bool.or_eq_true] at h
  obtain ⟨⟨h1, h2⟩, h3⟩ := h
  refine ⟨h1, fun i o hm ho => ?_⟩
  have hi : i < ops.size := (Array.getElem?_eq_some_iff.1 ho).1
  constructor
  · rintro rfl j hj
    rcases h2 with h2 | h2
    · omega
    · refine closeB_spec i _ (fun k hk => ?_) j (by simpa using h2 j hj)
      obtain ⟨o', ho', e, he, hb, hon⟩ := targets_spec hk
      rw [← hon]
      exact .one ho' he hb
  · intro hlt
    rcases h3 i hi with h4 | h4
    · omega
    · exact edgeTo_spec h4 ho

theorem seq_sound3 {m : Nat} (hs : sane ops = true) (ht : tailOk3 ops m = true) : ∀ (fuel i : Nat) (listed : Array Bool) (a : Act) (w : World), m ≤ i → listed.size = ops.size →
    (∀ j, j < ops.size → listed.getD j false = decide (j < i)) → ops.size ≤ fuel + i → i ≤ ops.size → wpList P ops Q (ops.toList.drop i) a w → wpAny P .any ops Q fuel listed a w := by
  obtain ⟨_, ht⟩ := tailOk3_spec ht
  have hready : ∀ (i : Nat) (listed : Array Bool), m ≤ i → listed.size = ops.size → (∀ j, j < ops.size → listed.getD j false = decide (j < i)) → ∀ k, k ∈ Region.ready .any ops listed → k = i ∧ i < ops.size := by
    intro i listed hmi hsz hL k hk
    simp only [Region.ready, List.mem_filter, List.mem_range] at hk
    obtain ⟨hkn, hrd⟩ := hk
    have ho : ops[k]? = some ops[k] := by simp [hkn]
    generalize ops[k] = o at ho
    rw [ho] at hrd
    simp only [Bool.and_eq_true, Bool.not_eq_true', Option.map_some, Option.getD_some, Array.all_eq_true', Bool.or_eq_true] at hrd
    obtain ⟨h1, h2⟩ := hrd
    rw [getD_tf (by omega), hL k hkn] at h1
    have hik : i ≤ k := by simpa using h1
    rcases Nat.lt_or_ge i k with hlt | hge
    · obtain ⟨e, he, hb, hon⟩ := (ht k o (by omega) ho).2 (by omega)
      rcases h2 e (by simpa using he) with h | h
      · rw [hb] at h; cases h
      · rw [hon, hL (k - 1) (by omega)] at h
        simp at h
        omega
    · exact ⟨by omega, by omega⟩
  intro fuel
  induction fuel with
  | zero =>
    intro i listed a w hmi hsz hL hf hin hw
    have hi : i = ops.size := by omega
    subst hi
    have hnil : Region.ready .any ops listed = [] := by
      cases hr : Region.ready .any ops listed with
      | nil => rfl
      | cons x xs => have := hready _ listed hmi hsz hL x (by rw [hr]; simp); omega
    refine ⟨hnil, ?_⟩
    rw [List.drop_of_length_le (by simp)] at hw
    exact hw
  | succ fuel ih =>
    intro i listed a w hmi hsz hL hf hin hw
    refine ⟨fun hnil => ?_, fun k hk => ?_⟩
    · rcases Nat.lt_or_ge i ops.size with hlt | hge
      · exfalso
        have ho : ops[i]? = some ops[i] := by simp [hlt]
        have hmem : i ∈ Region.ready .any ops listed := by
          simp only [Region.ready, List.mem_filter, List.mem_range]
          refine ⟨hlt, ?_⟩
          rw [getD_tf (by omega), hL i hlt, ho]
          simp only [Nat.lt_irrefl, decide_false, Bool.not_false, Bool.true_and, Option.map_some, Option.getD_some, Array.all_eq_true', Bool.or_eq_true]
          intro e he
          cases hb : Region.binds .any e with
          | false => exact .inl rfl
          | true =>
            have := (sane_spec hs ho).1 e (by simpa using he) hb
            exact .inr (by rw [hL _ (by omega)]; simpa using this)
        rw [hnil] at hmem
        cases hmem
      · have hi : i = ops.size := by omega
        subst hi
        rw [List.drop_of_length_le (by simp)] at hw
        exact hw
    · obtain ⟨rfl, hlt⟩ := hready i listed hmi hsz hL k hk
      have ho : ops[k]? = some ops[k] := by simp [hlt]
      rw [List.drop_eq_getElem_cons (by simpa using hlt)] at hw
      simp only [Array.getElem_toList] at hw
      generalize ops[k] = o at ho hw
      simp only [wpOp, ho]
      refine (?_ : (if Region.wanted o (yielded ops a.tmps) then o.wp P a w _ Q ∨ (o.asks P a w ∧ LetsOut Q) else _))
      have hnext : ∀ a' w', wpList P ops Q (ops.toList.drop (k + 1)) a' w' → wpAny P .any ops Q fuel (listed.setIfInBounds k true) a' w' := fun a' w' h =>
        ih (k + 1) _ a' w' (by omega) (by simp [hsz]) (fun j hj => by
          simp only [Array.getD_eq_getD_getElem?, Array.getElem?_setIfInBounds]
          by_cases e : k = j
          · subst e; simp [hsz, hlt]
          · rw [if_neg e]
            have := hL j hj
            simp only [Array.getD_eq_getD_getElem?] at this
            rw [this]
            rw [Bool.eq_iff_iff]
            simp
            omega) (by omega) (by omega) h
      unfold wpList at hw
      split
      · rename_i hwt
        rw [if_pos hwt] at hw
        exact hw.imp (Oper.wp_mono hnext) id
      · rename_i hwt
        rw [if_neg hwt] at hw
        exact hnext _ _ hw

theorem rely_sound3 {m : Nat} (hE0 : ∀ w, E w w) (hE : ∀ {a b c}, E a b → E b c → E a c) (hs : sane ops = true) (ht : tailOk3 ops m = true)
    (hstep : ∀ j o, j < m → ops[j]? = some o → StepOk P ops E R w0 (fun vs => mix (fun k => decide (k < j)) vs 0 ops.toList a0) j o)
    (hend : ∀ vs w, E w0 w → (∀ j, j < m → R j w (vs j)) → wpList P ops Q (ops.toList.drop m) (mix (fun k => decide (k < m)) vs 0 ops.toList a0) w) :
    ∀ (fuel : Nat) (listed : Array Bool) (vs : Nat → Value) (w : World), listed.size = ops.size → unl (fun j => listed.getD j false) m + (ops.size - m) ≤ fuel → E w0 w →
      (∀ j, listed.getD j false = true → j < m) →
      (∀ j, listed.getD j false = true → ∀ w', E w w' → R j w' (vs j)) →
      (∀ j o, ops[j]? = some o → listed.getD j false = true → ∀ e ∈ o.after.toList, Region.binds .any e = true → listed.getD e.on false = true) →
      wpAny P .any ops Q fuel listed (mix (fun j => listed.getD j false) vs 0 ops.toList a0) w := by
  obtain ⟨hmn, htl⟩ := tailOk3_spec ht
  have hall : ∀ (fuel : Nat) (listed : Array Bool) (vs : Nat → Value) (w : World), listed.size = ops.size → unl (fun j => listed.getD j false) m = 0 → ops.size ≤ fuel + m → E w0 w →
      (∀ j, listed.getD j false = true → j < m) →
      (∀ j, listed.getD j false = true → ∀ w', E w w' → R j w' (vs j)) → wpAny P .any ops Q fuel listed (mix (fun j => listed.getD j false) vs 0 ops.toList a0) w := by
    intro fuel listed vs w hsz hz hf he hlm hR
    have hmk := unl_zero m hz
    have hL : ∀ j, listed.getD j false = decide (j < m) := by
      intro j
      by_cases h : j < m
      · rw [hmk j h]; simp [h]
      · cases hb : listed.getD j false with
        | true => exact absurd (hlm j hb) h
        | false => simp [h]
    refine seq_sound3 hs ht fuel m listed _ w (Nat.le_refl _) hsz (fun j _ => hL j) hf hmn ?_
    have hm : mix (fun j => listed.getD j false) vs 0 ops.toList a0 = mix (fun k => decide (k < m)) vs 0 ops.toList a0 := by
      refine act_ext (by simp [mix_size]) (by simp [mix_defers]) (fun t => ?_)
      rw [mix_get, mix_get, lastW_congr _ (fun k => decide (k < m)) vs vs t ops.toList 0 (fun j o hj _ => ⟨by
        simp only [Nat.zero_add]
        exact hL j, fun _ => rfl⟩)]
    rw [hm]
    exact hend vs w he (fun j hj => hR j (hmk j hj) w (hE0 w))
  intro fuel
  induction fuel with
  | zero =>
    intro listed vs w hsz hu he hlm hR hcl
    exact hall 0 listed vs w hsz (by omega) (by omega) he hlm hR
  | succ fuel ih =>
    intro listed vs w hsz hu he hlm hR hcl
    by_cases hz : unl (fun j => listed.getD j false) m = 0
    · exact hall (fuel + 1) listed vs w hsz hz (by omega) he hlm hR
    have hnot : ¬ ∀ j, j < m → listed.getD j false = true := fun h => hz (by
      have : ∀ k, k ≤ m → unl (fun j => listed.getD j false) k = 0 := by
        intro k
        induction k with
        | zero => intro _; rfl
        | succ k ihk => intro hk; have e1 := ihk (by omega); have e2 := h k (by omega); simp only [unl, e1, e2, if_true]
      exact this m (Nat.le_refl _))
    have hrm : ∀ i ∈ Region.ready .any ops listed, i < m := by
      intro i hi
      simp only [Region.ready, List.mem_filter, List.mem_range] at hi
      obtain ⟨hin, hrd⟩ := hi
      have ho : ops[i]? = some ops[i] := by simp [hin]
      generalize ops[i] = o at ho
      rw [ho] at hrd
      simp only [Bool.and_eq_true, Bool.not_eq_true', Option.map_some, Option.getD_some, Array.all_eq_true', Bool.or_eq_true] at hrd
      rcases Nat.lt_or_ge i m with h | h
      · exact h
      · exfalso
        by_cases him : i = m
        · refine hnot fun j hj => ?_
          refine ((htl i o h ho).1 him j hj).listed listed hcl ho fun e hem hb => ?_
          rcases hrd.2 e (by simpa using hem) with h2 | h2
          · rw [hb] at h2; cases h2
          · exact h2
        · obtain ⟨e, hem, hb, hon⟩ := (htl i o h ho).2 (by omega)
          rcases hrd.2 e (by simpa using hem) with h2 | h2
          · rw [hb] at h2; cases h2
          · rw [hon] at h2
            have := hlm (i - 1) h2
            omega
    refine ⟨fun hr => ?_, fun i hi => ?_⟩
    · exfalso
      refine hnot fun j => ?_
      induction j using Nat.strongRecOn with
      | ind j ihj =>
        intro hj
        cases hL : listed.getD j false with
        | true => rfl
        | false =>
          exfalso
          have ho : ops[j]? = some ops[j] := by simp [show j < ops.size by omega]
          have hmem : j ∈ Region.ready .any ops listed := by
            simp only [Region.ready, List.mem_filter, List.mem_range]
            refine ⟨by omega, ?_⟩
            rw [getD_tf (by omega), hL, ho]
            simp only [Bool.not_false, Bool.true_and, Option.map_some, Option.getD_some, Array.all_eq_true', Bool.or_eq_true]
            intro e hm
            obtain ⟨h1, _⟩ := sane_spec hs ho
            cases hb : Region.binds .any e with
            | false => exact .inl rfl
            | true =>
              have h2 := h1 e (by simpa using hm) hb
              exact .inr (ihj e.on h2 (by omega))
          rw [hr] at hmem
          cases hmem
    have him := hrm i hi
    simp only [Region.ready, List.mem_filter, List.mem_range] at hi
    obtain ⟨hin, hrd⟩ := hi
    have ho : ops[i]? = some ops[i] := by simp [hin]
    generalize ops[i] = o at ho
    rw [ho] at hrd
    simp only [Bool.and_eq_true, Bool.not_eq_true', Option.map_some, Option.getD_some, Array.all_eq_true', Bool.or_eq_true] at hrd
    obtain ⟨hLi, hdeps⟩ := hrd
    have hLi' : listed.getD i false = false := by
      simp only [Array.getD_eq_getD_getElem?] at hLi ⊢
      rw [Array.getElem?_eq_getElem (by omega)] at hLi ⊢
      simpa using hLi
    obtain ⟨s1, s2, s3, s4⟩ := sane_spec hs ho
    have hdone : ∀ e ∈ o.after.toList, Region.binds .any e = true → listed.getD e.on false = true := by
      intro e hm hb
      rcases hdeps e (by simpa using hm) with h | h
      · rw [hb] at h; cases h
      · exact h
    have hget : ∀ t, t ∈ o.looksAt ops → (mix (fun j => listed.getD j false) vs 0 ops.toList a0).tmps[t]? = (mix (fun k => decide (k < i)) vs 0 ops.toList a0).tmps[t]? := by
      intro t ht
      rw [mix_get, mix_get, lastW_congr _ (fun k => decide (k < i)) vs vs t ops.toList 0 (fun j p hj hd => ⟨?_, fun _ => rfl⟩)]
      simp only [Nat.zero_add]
      have hp : ops[j]? = some p := by simpa using hj
      obtain ⟨h1, h2⟩ := s3 j p t hp hd ht
      rcases Nat.lt_trichotomy j i with hlt | heq | hgt
      · obtain ⟨e, hm, hb, rfl⟩ := h1 hlt
        rw [hdone e hm hb]
        simp [hlt]
      · subst heq
        rw [hLi']
        simp
      · obtain ⟨e, hm, hb, hon⟩ := h2 hgt
        cases hL : listed.getD j false with
        | false => simp; omega
        | true =>
          have := hcl j p hp hL e hm hb
          rw [hon, hLi'] at this
          cases this
    have hev : ∀ x ∈ o.op.operands, (mix (fun j => listed.getD j false) vs 0 ops.toList a0).eval x = (mix (fun k => decide (k < i)) vs 0 ops.toList a0).eval x := by
      intro x hx
      cases x with
      | tmp t =>
        have ht : t ∈ o.looksAt ops := by
          simp only [Oper.looksAt, List.mem_append, List.mem_filterMap]
          exact .inl ⟨.tmp t, by simpa using hx, rfl⟩
        exact eval_of_get (hget t ht)
      | _ => rfl
    have hexec := execOp_congr o s2 hev
    have hw : Region.wanted o (yielded ops (mix (fun j => listed.getD j false) vs 0 ops.toList a0).tmps) = Region.wanted o (yielded ops (mix (fun k => decide (k < i)) vs 0 ops.toList a0).tmps) := by
      unfold Region.wanted
      cases hg : o.guard with
      | none => rfl
      | some g =>
        obtain ⟨j, want⟩ := g
        have : yielded ops (mix (fun j => listed.getD j false) vs 0 ops.toList a0).tmps j = yielded ops (mix (fun k => decide (k < i)) vs 0 ops.toList a0).tmps j := by
          unfold yielded
          cases hj : (ops[j]?).bind (·.dst) with
          | none => rfl
          | some t =>
            have ht : t ∈ o.looksAt ops := by
              simp only [Oper.looksAt, List.mem_append]
              exact .inr (by simp [hg, hj])
            simp only [Option.bind_some, hget t ht]
        simp only [this]
    have hD : Deps R vs w o.after.toList := Deps.of fun e hm hb => hR e.on (hdone e hm hb) w (hE0 w)
    have hst := hstep i o him ho vs w he hD
    -- what is left when op i has given v in w'
    have hnext : ∀ v w', E w w' → (∀ w'', E w' w'' → R i w'' v) →
        wpAny P .any ops Q fuel (listed.setIfInBounds i true) ((mix (fun j => listed.getD j false) vs 0 ops.toList a0).put o.dst v) w' := by
      intro v w' hew hr
      have hup : ∀ j, (listed.setIfInBounds i true).getD j false = if j = i then true else listed.getD j false := by
        intro j
        simp only [Array.getD_eq_getD_getElem?, Array.getElem?_setIfInBounds]
        by_cases e : i = j
        · subst e; simp [hsz, hin]
        · rw [if_neg e, if_neg (fun h => e h.symm)]
      have hmix : (mix (fun j => listed.getD j false) vs 0 ops.toList a0).put o.dst v =
          mix (fun j => (listed.setIfInBounds i true).getD j false) (fun j => if j = i then v else vs j) 0 ops.toList a0 := by
        refine act_ext (by simp [put_size, mix_size]) (by simp [put_defers, mix_defers]) (fun t => ?_)
        rw [put_get, mix_size]
        by_cases hd : o.dst = some t
        · rw [if_pos hd, mix_get, lastW_at _ _ t ops.toList 0 i o (by simpa using ho) hd (by rw [hup]; simp) (fun j p hj hd' => (s4 j p t (by simpa using hj) hd' hd).symm)]
          simp
        · rw [if_neg hd, mix_get, mix_get]
          rw [lastW_congr (fun j => listed.getD j false) (fun j => (listed.setIfInBounds i true).getD j false) vs (fun j => if j = i then v else vs j) t ops.toList 0 (fun j p hj hd' => ?_)]
          simp only [Nat.zero_add]
          have hne : j ≠ i := by
            intro e
            subst e
            have : p = o := by
              have h1 : ops[j]? = some p := by simpa using hj
              rw [ho] at h1
              exact (Option.some.inj h1).symm
            exact hd (this ▸ hd')
          simp [hup, hne]
      rw [hmix]
      refine ih _ _ _ (by simp [hsz]) ?_ (hE he hew) ?_ ?_ ?_
      · have := unl_mark (L := fun j => listed.getD j false) (L' := fun j => (listed.setIfInBounds i true).getD j false) hLi' (by simp [hup]) (fun j hj => by simp [hup, hj]) m him
        omega
      · intro j hj
        rw [hup] at hj
        by_cases e : j = i
        · omega
        · rw [if_neg e] at hj
          exact hlm j hj
      · intro j hj w2 hw2
        by_cases e : j = i
        · subst e
          simpa using hr w2 hw2
        · simp only [if_neg e]
          refine hR j ?_ w2 (hE hew hw2)
          rw [hup, if_neg e] at hj
          exact hj
      · intro j p hp hj e hm hb
        rw [hup] at hj ⊢
        by_cases ej : j = i
        · subst ej
          have : p = o := by rw [ho] at hp; exact (Option.some.inj hp).symm
          subst this
          split
          · rfl
          · exact hdone e hm hb
        · rw [if_neg ej] at hj
          split
          · rfl
          · exact hcl j p hp hj e hm hb
    simp only [wpOp, ho, hw]
    split
    · rename_i hwt
      rw [if_pos hwt] at hst
      refine .inl ?_
      unfold Oper.wp
      unfold Gives at hst
      rw [hexec]
      generalize (execOp (mix (fun k => decide (k < i)) vs 0 ops.toList a0).eval o).run P w = r at hst
      cases r with
      | halt x w' => simp at hst
      | ok x w' =>
        cases x with
        | value v => exact hnext v w' hst.1 hst.2
        | skip => exact hnext undef w' hst.1 hst.2
        | enter g args =>
          simp only [Oper.upon]
          refine Calls.mono hst ?_
          rintro e w'' ⟨v, rfl, h1, h2⟩
          exact hnext v w'' h1 h2
        | _ => simp at hst
    · rename_i hwt
      rw [if_neg hwt] at hst
      exact hnext undef w (hE0 w) hst

/-- The law, at the orders. -/
theorem wpAny_rely3 {l : List Oper} {a : Act} {w : World} (m : Nat) (hs : sane l.toArray = true) (ht : tailOk3 l.toArray m = true)
    (E : World → World → Prop) (hE0 : ∀ w, E w w) (hE : ∀ {a b c}, E a b → E b c → E a c)
    (R : Nat → World → Value → Prop) (h : Rely P l.toArray E R w.drew Q (l.drop m) 0 (fun _ => a) (l.take m)) : wpAny P .any l.toArray Q l.toArray.size (Array.replicate l.toArray.size false) a w.drew := by
  obtain ⟨h1, h2⟩ := rely_get (l.take m) 0 _ h
  obtain ⟨hmn, _⟩ := tailOk3_spec ht
  have hmn' : m ≤ l.length := by simpa using hmn
  have h0 : ∀ j, (Array.replicate l.toArray.size false).getD j false = false := by
    intro j
    simp only [Array.getD_eq_getD_getElem?, Array.getElem?_replicate]
    split <;> rfl
  have hmix : ∀ vs : Nat → Value, mix (fun j => (Array.replicate l.toArray.size false).getD j false) vs 0 l.toArray.toList a = a := by
    intro vs
    refine act_ext (by simp [mix_size]) (by simp [mix_defers]) (fun t => ?_)
    rw [mix_get, lastW_none _ _ _ _ _ (fun j o _ _ => h0 _)]
  have hdrop : ∀ (L : Nat → Bool) (vs : Nat → Value) (t : Nat), (∀ j, L j = true → j < m) → lastW L vs t 0 l = lastW L vs t 0 (l.take m) := by
    intro L vs t hL
    have gen : ∀ (l1 l2 : List Oper) (i : Nat), (∀ j, L j = true → j < i + l1.length) → lastW L vs t i (l1 ++ l2) = lastW L vs t i l1 := by
      intro l1
      induction l1 with
      | nil =>
        intro l2 i hj
        rw [List.nil_append, lastW_none L vs t l2 i (fun j o _ _ => by
          cases hb : L (i + j) with
          | false => rfl
          | true => have h9 := hj _ hb; simp only [List.length_nil] at h9; omega)]
        rfl
      | cons o l1 ih =>
        intro l2 i hj
        simp only [List.cons_append, lastW]
        rw [ih l2 (i + 1) (fun j h => by have := hj j h; simp only [List.length_cons] at this; omega)]
    have := gen (l.take m) (l.drop m) 0 (fun j h => by have := hL j h; simp only [List.length_take]; omega)
    rwa [List.take_append_drop] at this
  have hmixd : ∀ (k : Nat) (vs : Nat → Value), k ≤ m → mix (fun j => decide (j < k)) vs 0 l a = mix (fun j => decide (j < k)) vs 0 (l.take m) a := by
    intro k vs hk
    refine act_ext (by simp [mix_size]) (by simp [mix_defers]) (fun t => ?_)
    rw [mix_get, mix_get, hdrop _ vs t (fun j hj => by simp at hj; omega)]
  have hmixt : ∀ (vs : Nat → Value), mix (fun _ => true) vs 0 (l.take m) a = mix (fun k => decide (k < m)) vs 0 (l.take m) a := by
    intro vs
    refine act_ext (by simp [mix_size]) (by simp [mix_defers]) (fun t => ?_)
    rw [mix_get, mix_get, lastW_congr (fun _ => true) (fun k => decide (k < m)) vs vs t (l.take m) 0 (fun j o hj _ => ⟨by
      have := (List.getElem?_eq_some_iff.1 hj).1
      simp only [List.length_take] at this
      simp
      omega, fun _ => rfl⟩)]
  have := rely_sound3 (Q := Q) (a0 := a) hE0 hE hs ht (fun j o hj ho => by
      have h3 := h1 j o (by rw [List.getElem?_take, if_pos hj]; simpa using ho)
      simp only [Nat.zero_add] at h3
      have he : (fun vs => mix (fun k => decide (k < j)) vs 0 l.toArray.toList a) = (fun vs => mix (fun k => decide (k < j)) vs 0 (l.take m) a) := funext fun vs => hmixd j vs (by omega)
      rw [he]
      exact h3)
    (fun vs w' he hr => by
      have h3 := h2 vs w' he (fun j hj => hr j (by simp only [List.length_take] at hj; omega))
      rw [hmixt vs, ← hmixd m vs (Nat.le_refl _)] at h3
      simpa using h3)
    l.toArray.size (Array.replicate l.toArray.size false) (fun _ => undef) w.drew (by simp) (by
      have : ∀ n, unl (fun j => (Array.replicate l.toArray.size false).getD j false) n ≤ n := by
        intro n
        induction n with
        | zero => exact Nat.le_refl _
        | succ n ih => simp only [unl, h0, Bool.false_eq_true, if_false] at ih ⊢; omega
      have := this m
      omega) (hE0 _) (fun j hj => by rw [h0] at hj; cases hj) (fun j hj => by rw [h0] at hj; cases hj) (fun j o _ hj => by rw [h0] at hj; cases hj)
  rw [hmix] at this
  exact this

/-- The law. -/
theorem wp_region_rely3 {id : Nat} {l : List Oper} {a : Act} {w : World} (hm : P.follows .mixedOrders = true) (m : Nat) (hs : sane l.toArray = true) (ht : tailOk3 l.toArray m = true)
    (E : World → World → Prop) (hE0 : ∀ w, E w w) (hE : ∀ {a b c}, E a b → E b c → E a c)
    (R : Nat → World → Value → Prop) (h : Rely P l.toArray E R w.drew Q (l.drop m) 0 (fun _ => a) (l.take m)) : (Code.region id l.toArray true).wp P Q a w :=
  wp_region_any hm (wpAny_rely3 m hs ht E hE0 hE R h)
/-- The law, in a round. -/
theorem wpIn_region_rely3 {n id : Nat} {l : List Oper} {a : Act} {w : World} {F : Fence} (hF : ∃ ro, F = AtRound ro) (hQ : ¬ LetsOut Q) (hnd : l.all (fun o => match o.op with | .defer _ => false | _ => true) = true) (hm : P.follows .mixedOrders = true) (m : Nat) (hs : sane l.toArray = true) (ht : tailOk3 l.toArray m = true)
    (E : World → World → Prop) (hE0 : ∀ w, E w w) (hE : ∀ {a b c}, E a b → E b c → E a c)
    (R : Nat → World → Value → Prop) (h : Rely P l.toArray E R w.drew Q (l.drop m) 0 (fun _ => a) (l.take m)) : (Code.region id l.toArray true).wpIn F n P Q a w := by
  obtain ⟨ro, rfl⟩ := hF
  refine wpIn_region_any hm (wpAny_in ro hQ (fun i o ho c e => ?_) _ _ _ _ (wpAny_rely3 m hs ht E hE0 hE R h))
  rw [List.all_eq_true] at hnd
  have := hnd o (List.mem_of_getElem? (by simpa using ho))
  rw [e] at this
  cases this
end
end Go.Proofs.YtniknhhejlgdfaaGreatDoor
/- The law on regions that draw their order, in a round, where the last operations come one behind the other and may yield. -/
namespace Go.Proofs.YtniknhhejlgdfaaGreatDoor
open Go.RowKit
section
variable {n : Nat} {ro : Option Nat} {P : Program} {ops : Array Oper} {E : World → World → Prop} {R : Nat → World → Value → Prop} {w0 : World} {Q : Exit → Act → World → Prop} {a0 : Act}
theorem seq_sound5 {m : Nat} (hs : sane ops = true) (ht : tailOk3 ops m = true) : ∀ (fuel i : Nat) (listed : Array Bool) (a : Act) (w : World), m ≤ i → listed.size = ops.size →
    (∀ j, j < ops.size → listed.getD j false = decide (j < i)) → ops.size ≤ fuel + i → i ≤ ops.size → wpListIn (AtRound ro) n P ops Q (ops.toList.drop i) a w → wpAnyIn (AtRound ro) n P .any ops Q fuel listed a w := by
  obtain ⟨_, ht⟩ := tailOk3_spec ht
  have hready : ∀ (i : Nat) (listed : Array Bool), m ≤ i → listed.size = ops.size → (∀ j, j < ops.size → listed.getD j false = decide (j < i)) → ∀ k, k ∈ Region.ready .any ops listed → k = i ∧ i < ops.size := by
    intro i listed hmi hsz hL k hk
    simp only [Region.ready, List.mem_filter, List.mem_range] at hk
    obtain ⟨hkn, hrd⟩ := hk
    have ho : ops[k]? = some ops[k] := by simp [hkn]
    generalize ops[k] = o at ho
    rw [ho] at hrd
    simp only [Bool.and_eq_true, Bool.not_eq_true', Option.map_some, Option.getD_some, Array.all_eq_true', Bool.or_eq_true] at hrd
    obtain ⟨h1, h2⟩ := hrd
    rw [getD_tf (by omega), hL k hkn] at h1
    have hik : i ≤ k := by simpa using h1
    rcases Nat.lt_or_ge i k with hlt | hge
    · obtain ⟨e, he, hb, hon⟩ := (ht k o (by omega) ho).2 (by omega)
      rcases h2 e (by simpa using he) with h | h
      · rw [hb] at h; cases h
      · rw [hon, hL (k - 1) (by omega)] at h
        simp at h
        omega
    · exact ⟨by omega, by omega⟩
  intro fuel
  induction fuel with
  | zero =>
    intro i listed a w hmi hsz hL hf hin hw
    have hi : i = ops.size := by omega
    subst hi
    have hnil : Region.ready .any ops listed = [] := by
      cases hr : Region.ready .any ops listed with
      | nil => rfl
      | cons x xs => have := hready _ listed hmi hsz hL x (by rw [hr]; simp); omega
    refine ⟨hnil, ?_⟩
    rw [List.drop_of_length_le (by simp)] at hw
    exact hw
  | succ fuel ih =>
    intro i listed a w hmi hsz hL hf hin hw
    refine ⟨fun hnil => ?_, fun k hk => ?_⟩
    · rcases Nat.lt_or_ge i ops.size with hlt | hge
      · exfalso
        have ho : ops[i]? = some ops[i] := by simp [hlt]
        have hmem : i ∈ Region.ready .any ops listed := by
          simp only [Region.ready, List.mem_filter, List.mem_range]
          refine ⟨hlt, ?_⟩
          rw [getD_tf (by omega), hL i hlt, ho]
          simp only [Nat.lt_irrefl, decide_false, Bool.not_false, Bool.true_and, Option.map_some, Option.getD_some, Array.all_eq_true', Bool.or_eq_true]
          intro e he
          cases hb : Region.binds .any e with
          | false => exact .inl rfl
          | true =>
            have := (sane_spec hs ho).1 e (by simpa using he) hb
            exact .inr (by rw [hL _ (by omega)]; simpa using this)
        rw [hnil] at hmem
        cases hmem
      · have hi : i = ops.size := by omega
        subst hi
        rw [List.drop_of_length_le (by simp)] at hw
        exact hw
    · obtain ⟨rfl, hlt⟩ := hready i listed hmi hsz hL k hk
      have ho : ops[k]? = some ops[k] := by simp [hlt]
      rw [List.drop_eq_getElem_cons (by simpa using hlt)] at hw
      simp only [Array.getElem_toList] at hw
      generalize ops[k] = o at ho hw
      simp only [wpOpIn, ho]
      have hnext : ∀ a' w', wpListIn (AtRound ro) n P ops Q (ops.toList.drop (k + 1)) a' w' → wpAnyIn (AtRound ro) n P .any ops Q fuel (listed.setIfInBounds k true) a' w' := fun a' w' h =>
        ih (k + 1) _ a' w' (by omega) (by simp [hsz]) (fun j hj => by
          simp only [Array.getD_eq_getD_getElem?, Array.getElem?_setIfInBounds]
          by_cases e : k = j
          · subst e; simp [hsz, hlt]
          · rw [if_neg e]
            have := hL j hj
            simp only [Array.getD_eq_getD_getElem?] at this
            rw [this]
            rw [Bool.eq_iff_iff]
            simp
            omega) (by omega) (by omega) h
      unfold wpListIn at hw
      split
      · rename_i hwt
        rw [if_pos hwt] at hw
        exact Oper.wpIn_mono hnext hw
      · rename_i hwt
        rw [if_neg hwt] at hw
        exact ⟨hw.1, hnext _ _ hw.2⟩

theorem rely_sound5 {m : Nat} (hQ : ¬ LetsOut Q) (hnd : ∀ (i : Nat) (o : Oper), ops[i]? = some o → ∀ c, o.op ≠ .defer c) (hE0 : ∀ w, E w w) (hE : ∀ {a b c}, E a b → E b c → E a c) (hs : sane ops = true) (ht : tailOk3 ops m = true)
    (hstep : ∀ j o, j < m → ops[j]? = some o → StepOk P ops E R w0 (fun vs => mix (fun k => decide (k < j)) vs 0 ops.toList a0) j o)
    (hend : ∀ vs w, E w0 w → (∀ j, j < m → R j w (vs j)) → wpListIn (AtRound ro) n P ops Q (ops.toList.drop m) (mix (fun k => decide (k < m)) vs 0 ops.toList a0) w) :
    ∀ (fuel : Nat) (listed : Array Bool) (vs : Nat → Value) (w : World), listed.size = ops.size → unl (fun j => listed.getD j false) m + (ops.size - m) ≤ fuel → E w0 w →
      (∀ j, listed.getD j false = true → j < m) →
      (∀ j, listed.getD j false = true → ∀ w', E w w' → R j w' (vs j)) →
      (∀ j o, ops[j]? = some o → listed.getD j false = true → ∀ e ∈ o.after.toList, Region.binds .any e = true → listed.getD e.on false = true) →
      wpAnyIn (AtRound ro) n P .any ops Q fuel listed (mix (fun j => listed.getD j false) vs 0 ops.toList a0) w := by
  obtain ⟨hmn, htl⟩ := tailOk3_spec ht
  have hall : ∀ (fuel : Nat) (listed : Array Bool) (vs : Nat → Value) (w : World), listed.size = ops.size → unl (fun j => listed.getD j false) m = 0 → ops.size ≤ fuel + m → E w0 w →
      (∀ j, listed.getD j false = true → j < m) →
      (∀ j, listed.getD j false = true → ∀ w', E w w' → R j w' (vs j)) → wpAnyIn (AtRound ro) n P .any ops Q fuel listed (mix (fun j => listed.getD j false) vs 0 ops.toList a0) w := by
    intro fuel listed vs w hsz hz hf he hlm hR
    have hmk := unl_zero m hz
    have hL : ∀ j, listed.getD j false = decide (j < m) := by
      intro j
      by_cases h : j < m
      · rw [hmk j h]; simp [h]
      · cases hb : listed.getD j false with
        | true => exact absurd (hlm j hb) h
        | false => simp [h]
    refine seq_sound5 hs ht fuel m listed _ w (Nat.le_refl _) hsz (fun j _ => hL j) hf hmn ?_
    have hm : mix (fun j => listed.getD j false) vs 0 ops.toList a0 = mix (fun k => decide (k < m)) vs 0 ops.toList a0 := by
      refine act_ext (by simp [mix_size]) (by simp [mix_defers]) (fun t => ?_)
      rw [mix_get, mix_get, lastW_congr _ (fun k => decide (k < m)) vs vs t ops.toList 0 (fun j o hj _ => ⟨by
        simp only [Nat.zero_add]
        exact hL j, fun _ => rfl⟩)]
    rw [hm]
    exact hend vs w he (fun j hj => hR j (hmk j hj) w (hE0 w))
  intro fuel
  induction fuel with
  | zero =>
    intro listed vs w hsz hu he hlm hR hcl
    exact hall 0 listed vs w hsz (by omega) (by omega) he hlm hR
  | succ fuel ih =>
    intro listed vs w hsz hu he hlm hR hcl
    by_cases hz : unl (fun j => listed.getD j false) m = 0
    · exact hall (fuel + 1) listed vs w hsz hz (by omega) he hlm hR
    have hnot : ¬ ∀ j, j < m → listed.getD j false = true := fun h => hz (by
      have : ∀ k, k ≤ m → unl (fun j => listed.getD j false) k = 0 := by
        intro k
        induction k with
        | zero => intro _; rfl
        | succ k ihk => intro hk; have e1 := ihk (by omega); have e2 := h k (by omega); simp only [unl, e1, e2, if_true]
      exact this m (Nat.le_refl _))
    have hrm : ∀ i ∈ Region.ready .any ops listed, i < m := by
      intro i hi
      simp only [Region.ready, List.mem_filter, List.mem_range] at hi
      obtain ⟨hin, hrd⟩ := hi
      have ho : ops[i]? = some ops[i] := by simp [hin]
      generalize ops[i] = o at ho
      rw [ho] at hrd
      simp only [Bool.and_eq_true, Bool.not_eq_true', Option.map_some, Option.getD_some, Array.all_eq_true', Bool.or_eq_true] at hrd
      rcases Nat.lt_or_ge i m with h | h
      · exact h
      · exfalso
        by_cases him : i = m
        · refine hnot fun j hj => ?_
          refine ((htl i o h ho).1 him j hj).listed listed hcl ho fun e hem hb => ?_
          rcases hrd.2 e (by simpa using hem) with h2 | h2
          · rw [hb] at h2; cases h2
          · exact h2
        · obtain ⟨e, hem, hb, hon⟩ := (htl i o h ho).2 (by omega)
          rcases hrd.2 e (by simpa using hem) with h2 | h2
          · rw [hb] at h2; cases h2
          · rw [hon] at h2
            have := hlm (i - 1) h2
            omega
    refine ⟨fun hr => ?_, fun i hi => ?_⟩
    · exfalso
      refine hnot fun j => ?_
      induction j using Nat.strongRecOn with
      | ind j ihj =>
        intro hj
        cases hL : listed.getD j false with
        | true => rfl
        | false =>
          exfalso
          have ho : ops[j]? = some ops[j] := by simp [show j < ops.size by omega]
          have hmem : j ∈ Region.ready .any ops listed := by
            simp only [Region.ready, List.mem_filter, List.mem_range]
            refine ⟨by omega, ?_⟩
            rw [getD_tf (by omega), hL, ho]
            simp only [Bool.not_false, Bool.true_and, Option.map_some, Option.getD_some, Array.all_eq_true', Bool.or_eq_true]
            intro e hm
            obtain ⟨h1, _⟩ := sane_spec hs ho
            cases hb : Region.binds .any e with
            | false => exact .inl rfl
            | true =>
              have h2 := h1 e (by simpa using hm) hb
              exact .inr (ihj e.on h2 (by omega))
          rw [hr] at hmem
          cases hmem
    have him := hrm i hi
    simp only [Region.ready, List.mem_filter, List.mem_range] at hi
    obtain ⟨hin, hrd⟩ := hi
    have ho : ops[i]? = some ops[i] := by simp [hin]
    generalize ops[i] = o at ho
    rw [ho] at hrd
    simp only [Bool.and_eq_true, Bool.not_eq_true', Option.map_some, Option.getD_some, Array.all_eq_true', Bool.or_eq_true] at hrd
    obtain ⟨hLi, hdeps⟩ := hrd
    have hLi' : listed.getD i false = false := by
      simp only [Array.getD_eq_getD_getElem?] at hLi ⊢
      rw [Array.getElem?_eq_getElem (by omega)] at hLi ⊢
      simpa using hLi
    obtain ⟨s1, s2, s3, s4⟩ := sane_spec hs ho
    have hdone : ∀ e ∈ o.after.toList, Region.binds .any e = true → listed.getD e.on false = true := by
      intro e hm hb
      rcases hdeps e (by simpa using hm) with h | h
      · rw [hb] at h; cases h
      · exact h
    have hget : ∀ t, t ∈ o.looksAt ops → (mix (fun j => listed.getD j false) vs 0 ops.toList a0).tmps[t]? = (mix (fun k => decide (k < i)) vs 0 ops.toList a0).tmps[t]? := by
      intro t ht
      rw [mix_get, mix_get, lastW_congr _ (fun k => decide (k < i)) vs vs t ops.toList 0 (fun j p hj hd => ⟨?_, fun _ => rfl⟩)]
      simp only [Nat.zero_add]
      have hp : ops[j]? = some p := by simpa using hj
      obtain ⟨h1, h2⟩ := s3 j p t hp hd ht
      rcases Nat.lt_trichotomy j i with hlt | heq | hgt
      · obtain ⟨e, hm, hb, rfl⟩ := h1 hlt
        rw [hdone e hm hb]
        simp [hlt]
      · subst heq
        rw [hLi']
        simp
      · obtain ⟨e, hm, hb, hon⟩ := h2 hgt
        cases hL : listed.getD j false with
        | false => simp; omega
        | true =>
          have := hcl j p hp hL e hm hb
          rw [hon, hLi'] at this
          cases this
    have hev : ∀ x ∈ o.op.operands, (mix (fun j => listed.getD j false) vs 0 ops.toList a0).eval x = (mix (fun k => decide (k < i)) vs 0 ops.toList a0).eval x := by
      intro x hx
      cases x with
      | tmp t =>
        have ht : t ∈ o.looksAt ops := by
          simp only [Oper.looksAt, List.mem_append, List.mem_filterMap]
          exact .inl ⟨.tmp t, by simpa using hx, rfl⟩
        exact eval_of_get (hget t ht)
      | _ => rfl
    have hexec := execOp_congr o s2 hev
    have hw : Region.wanted o (yielded ops (mix (fun j => listed.getD j false) vs 0 ops.toList a0).tmps) = Region.wanted o (yielded ops (mix (fun k => decide (k < i)) vs 0 ops.toList a0).tmps) := by
      unfold Region.wanted
      cases hg : o.guard with
      | none => rfl
      | some g =>
        obtain ⟨j, want⟩ := g
        have : yielded ops (mix (fun j => listed.getD j false) vs 0 ops.toList a0).tmps j = yielded ops (mix (fun k => decide (k < i)) vs 0 ops.toList a0).tmps j := by
          unfold yielded
          cases hj : (ops[j]?).bind (·.dst) with
          | none => rfl
          | some t =>
            have ht : t ∈ o.looksAt ops := by
              simp only [Oper.looksAt, List.mem_append]
              exact .inr (by simp [hg, hj])
            simp only [Option.bind_some, hget t ht]
        simp only [this]
    have hD : Deps R vs w o.after.toList := Deps.of fun e hm hb => hR e.on (hdone e hm hb) w (hE0 w)
    have hst := hstep i o him ho vs w he hD
    -- what is left when op i has given v in w'
    have hnext : ∀ v w', E w w' → (∀ w'', E w' w'' → R i w'' v) →
        wpAnyIn (AtRound ro) n P .any ops Q fuel (listed.setIfInBounds i true) ((mix (fun j => listed.getD j false) vs 0 ops.toList a0).put o.dst v) w' := by
      intro v w' hew hr
      have hup : ∀ j, (listed.setIfInBounds i true).getD j false = if j = i then true else listed.getD j false := by
        intro j
        simp only [Array.getD_eq_getD_getElem?, Array.getElem?_setIfInBounds]
        by_cases e : i = j
        · subst e; simp [hsz, hin]
        · rw [if_neg e, if_neg (fun h => e h.symm)]
      have hmix : (mix (fun j => listed.getD j false) vs 0 ops.toList a0).put o.dst v =
          mix (fun j => (listed.setIfInBounds i true).getD j false) (fun j => if j = i then v else vs j) 0 ops.toList a0 := by
        refine act_ext (by simp [put_size, mix_size]) (by simp [put_defers, mix_defers]) (fun t => ?_)
        rw [put_get, mix_size]
        by_cases hd : o.dst = some t
        · rw [if_pos hd, mix_get, lastW_at _ _ t ops.toList 0 i o (by simpa using ho) hd (by rw [hup]; simp) (fun j p hj hd' => (s4 j p t (by simpa using hj) hd' hd).symm)]
          simp
        · rw [if_neg hd, mix_get, mix_get]
          rw [lastW_congr (fun j => listed.getD j false) (fun j => (listed.setIfInBounds i true).getD j false) vs (fun j => if j = i then v else vs j) t ops.toList 0 (fun j p hj hd' => ?_)]
          simp only [Nat.zero_add]
          have hne : j ≠ i := by
            intro e
            subst e
            have : p = o := by
              have h1 : ops[j]? = some p := by simpa using hj
              rw [ho] at h1
              exact (Option.some.inj h1).symm
            exact hd (this ▸ hd')
          simp [hup, hne]
      rw [hmix]
      refine ih _ _ _ (by simp [hsz]) ?_ (hE he hew) ?_ ?_ ?_
      · have := unl_mark (L := fun j => listed.getD j false) (L' := fun j => (listed.setIfInBounds i true).getD j false) hLi' (by simp [hup]) (fun j hj => by simp [hup, hj]) m him
        omega
      · intro j hj
        rw [hup] at hj
        by_cases e : j = i
        · omega
        · rw [if_neg e] at hj
          exact hlm j hj
      · intro j hj w2 hw2
        by_cases e : j = i
        · subst e
          simpa using hr w2 hw2
        · simp only [if_neg e]
          refine hR j ?_ w2 (hE hew hw2)
          rw [hup, if_neg e] at hj
          exact hj
      · intro j p hp hj e hm hb
        rw [hup] at hj ⊢
        by_cases ej : j = i
        · subst ej
          have : p = o := by rw [ho] at hp; exact (Option.some.inj hp).symm
          subst this
          split
          · rfl
          · exact hdone e hm hb
        · rw [if_neg ej] at hj
          split
          · rfl
          · exact hcl j p hp hj e hm hb
    refine wpOp_in ro hQ hnd ?_
    simp only [wpOp, ho, hw]
    split
    · rename_i hwt
      rw [if_pos hwt] at hst
      refine .inl ?_
      unfold Oper.wp
      unfold Gives at hst
      rw [hexec]
      generalize (execOp (mix (fun k => decide (k < i)) vs 0 ops.toList a0).eval o).run P w = r at hst
      cases r with
      | halt x w' => simp at hst
      | ok x w' =>
        cases x with
        | value v => exact hnext v w' hst.1 hst.2
        | skip => exact hnext undef w' hst.1 hst.2
        | enter g args =>
          simp only [Oper.upon]
          refine Calls.mono hst ?_
          rintro e w'' ⟨v, rfl, h1, h2⟩
          exact hnext v w'' h1 h2
        | _ => simp at hst
    · rename_i hwt
      rw [if_neg hwt] at hst
      exact hnext undef w (hE0 w) hst

/-- The law, at the orders. -/
theorem wpAny_rely5 {n : Nat} {ro : Option Nat} {l : List Oper} {a : Act} {w : World} (hQ : ¬ LetsOut Q) (hnd : ∀ (i : Nat) (o : Oper), l.toArray[i]? = some o → ∀ c, o.op ≠ .defer c) (m : Nat) (hs : sane l.toArray = true) (ht : tailOk3 l.toArray m = true)
    (E : World → World → Prop) (hE0 : ∀ w, E w w) (hE : ∀ {a b c}, E a b → E b c → E a c)
    (R : Nat → World → Value → Prop) (h : Rely P l.toArray E R w.drew (fun _ a w => wpListIn (AtRound ro) n P l.toArray Q (l.drop m) a w) [] 0 (fun _ => a) (l.take m)) : wpAnyIn (AtRound ro) n P .any l.toArray Q l.toArray.size (Array.replicate l.toArray.size false) a w.drew := by
  obtain ⟨h1, h2⟩ := rely_get (l.take m) 0 _ h
  obtain ⟨hmn, _⟩ := tailOk3_spec ht
  have hmn' : m ≤ l.length := by simpa using hmn
  have h0 : ∀ j, (Array.replicate l.toArray.size false).getD j false = false := by
    intro j
    simp only [Array.getD_eq_getD_getElem?, Array.getElem?_replicate]
    split <;> rfl
  have hmix : ∀ vs : Nat → Value, mix (fun j => (Array.replicate l.toArray.size false).getD j false) vs 0 l.toArray.toList a = a := by
    intro vs
    refine act_ext (by simp [mix_size]) (by simp [mix_defers]) (fun t => ?_)
    rw [mix_get, lastW_none _ _ _ _ _ (fun j o _ _ => h0 _)]
  have hdrop : ∀ (L : Nat → Bool) (vs : Nat → Value) (t : Nat), (∀ j, L j = true → j < m) → lastW L vs t 0 l = lastW L vs t 0 (l.take m) := by
    intro L vs t hL
    have gen : ∀ (l1 l2 : List Oper) (i : Nat), (∀ j, L j = true → j < i + l1.length) → lastW L vs t i (l1 ++ l2) = lastW L vs t i l1 := by
      intro l1
      induction l1 with
      | nil =>
        intro l2 i hj
        rw [List.nil_append, lastW_none L vs t l2 i (fun j o _ _ => by
          cases hb : L (i + j) with
          | false => rfl
          | true => have h9 := hj _ hb; simp only [List.length_nil] at h9; omega)]
        rfl
      | cons o l1 ih =>
        intro l2 i hj
        simp only [List.cons_append, lastW]
        rw [ih l2 (i + 1) (fun j h => by have := hj j h; simp only [List.length_cons] at this; omega)]
    have := gen (l.take m) (l.drop m) 0 (fun j h => by have := hL j h; simp only [List.length_take]; omega)
    rwa [List.take_append_drop] at this
  have hmixd : ∀ (k : Nat) (vs : Nat → Value), k ≤ m → mix (fun j => decide (j < k)) vs 0 l a = mix (fun j => decide (j < k)) vs 0 (l.take m) a := by
    intro k vs hk
    refine act_ext (by simp [mix_size]) (by simp [mix_defers]) (fun t => ?_)
    rw [mix_get, mix_get, hdrop _ vs t (fun j hj => by simp at hj; omega)]
  have hmixt : ∀ (vs : Nat → Value), mix (fun _ => true) vs 0 (l.take m) a = mix (fun k => decide (k < m)) vs 0 (l.take m) a := by
    intro vs
    refine act_ext (by simp [mix_size]) (by simp [mix_defers]) (fun t => ?_)
    rw [mix_get, mix_get, lastW_congr (fun _ => true) (fun k => decide (k < m)) vs vs t (l.take m) 0 (fun j o hj _ => ⟨by
      have := (List.getElem?_eq_some_iff.1 hj).1
      simp only [List.length_take] at this
      simp
      omega, fun _ => rfl⟩)]
  have := rely_sound5 (ro := ro) (n := n) (Q := Q) (a0 := a) hQ hnd hE0 hE hs ht (fun j o hj ho => by
      have h3 := h1 j o (by rw [List.getElem?_take, if_pos hj]; simpa using ho)
      simp only [Nat.zero_add] at h3
      have he : (fun vs => mix (fun k => decide (k < j)) vs 0 l.toArray.toList a) = (fun vs => mix (fun k => decide (k < j)) vs 0 (l.take m) a) := funext fun vs => hmixd j vs (by omega)
      rw [he]
      exact h3)
    (fun vs w' he hr => by
      have h3 := h2 vs w' he (fun j hj => hr j (by simp only [List.length_take] at hj; omega))
      rw [hmixt vs, ← hmixd m vs (Nat.le_refl _)] at h3
      have h4 : wpListIn (AtRound ro) n P l.toArray Q (l.drop m) (mix (fun k => decide (k < m)) vs 0 l a) w' := h3
      simpa using h4)
    l.toArray.size (Array.replicate l.toArray.size false) (fun _ => undef) w.drew (by simp) (by
      have : ∀ n, unl (fun j => (Array.replicate l.toArray.size false).getD j false) n ≤ n := by
        intro n
        induction n with
        | zero => exact Nat.le_refl _
        | succ n ih => simp only [unl, h0, Bool.false_eq_true, if_false] at ih ⊢; omega
      have := this m
      omega) (hE0 _) (fun j hj => by rw [h0] at hj; cases hj) (fun j hj => by rw [h0] at hj; cases hj) (fun j o _ hj => by rw [h0] at hj; cases hj)
  rw [hmix] at this
  exact this

/-- The law, in a round. -/
theorem wpIn_region_rely5 {n id : Nat} {l : List Oper} {a : Act} {w : World} {F : Fence} (hF : ∃ ro, F = AtRound ro) (hQ : ¬ LetsOut Q) (hnd : l.all (fun o => match o.op with | .defer _ => false | _ => true) = true) (hm : P.follows .mixedOrders = true) (m : Nat) (hs : sane l.toArray = true) (ht : tailOk3 l.toArray m = true)
    (E : World → World → Prop) (hE0 : ∀ w, E w w) (hE : ∀ {a b c}, E a b → E b c → E a c)
    (R : Nat → World → Value → Prop) (h : Rely P l.toArray E R w.drew (fun _ a w => wpListIn F n P l.toArray Q (l.drop m) a w) [] 0 (fun _ => a) (l.take m)) : (Code.region id l.toArray true).wpIn F n P Q a w := by
  obtain ⟨ro, rfl⟩ := hF
  refine wpIn_region_any hm (wpAny_rely5 hQ (fun i o ho c e => ?_) m hs ht E hE0 hE R h)
  rw [List.all_eq_true] at hnd
  have := hnd o (List.mem_of_getElem? (by simpa using ho))
  rw [e] at this
  cases this
end
end Go.Proofs.YtniknhhejlgdfaaGreatDoor
