/- What small and Run of the chains do. -/
import Derived.Test.YtdedphhohiioiaaDoorHashOfW
namespace Go.Proofs.YtdedphhohiioiaaDoor
open Go.RowKit

theorem small_any (z : Int) (w : World) : Calls Tryd.prog 76 #[.int .i64 z] w fun e w' => e = .returned (.slice (some ⟨w.heap.size, 0, none⟩) 1 1) ∧ w' = w.alloc (.cells #[.int .u8 (z % 256)] 5) := by
  go_enter Tryd.func76, Tryd.ntmps76
  go_wp2
  go_ret
  exact ⟨rfl, rfl⟩

def stepC (l c : Int) (x : List Int) (k : Nat) : List Int := short 2 [x, [l % 256], [c % 256], [(k : Int) % 256]]
def walkC (l c : Int) (x : List Int) (a b : Nat) : List Int := (List.range' a (b - a)).foldl (stepC l c) x
def runC (l c : Int) (x : List Int) (fr to : Int) : List Int := walkC l c x (max fr 0).toNat (min to 3).toNat
theorem walk_none (l c : Int) (x : List Int) (a b : Nat) (h : b ≤ a) : walkC l c x a b = x := by
  unfold walkC
  rw [Nat.sub_eq_zero_of_le h]
  rfl
theorem walk_succ (l c : Int) (x : List Int) (a i : Nat) (h : a ≤ i) : walkC l c x a (i + 1) = stepC l c (walkC l c x a i) i := by
  unfold walkC
  rw [show i + 1 - a = (i - a) + 1 by omega, List.range'_1_concat, List.foldl_append, show a + (i - a) = i by omega]
  rfl
theorem walk_join (l c : Int) (x : List Int) (a b d : Nat) (h1 : a ≤ b) (h2 : b ≤ d) : walkC l c (walkC l c x a b) b d = walkC l c x a d := by
  unfold walkC
  rw [← List.foldl_append]
  congr 1
  have := List.range'_append_1 (s := a) (m := b - a) (n := d - b)
  rw [show a + (b - a) = b by omega, show b - a + (d - b) = d - a by omega] at this
  exact this
theorem step_len (l c : Int) (x : List Int) (k : Nat) : (stepC l c x k).length = 16 := short_len _ _
theorem step_ok (l c : Int) (x : List Int) (k : Nat) : u8s_ok (stepC l c x k) := short_ok _ _
theorem walk_good (l c : Int) (x : List Int) (a b : Nat) (hl : x.length = 16) (hx : u8s_ok x) : (walkC l c x a b).length = 16 ∧ u8s_ok (walkC l c x a b) := by
  unfold walkC
  generalize List.range' a (b - a) = ks
  induction ks generalizing x with
  | nil => exact ⟨hl, hx⟩
  | cons k ks ih => exact ih _ (step_len l c x k) (step_ok l c x k)

theorem Bss.new (w : World) (vs : List Value) (ps : List (List Int)) (hlen : vs.length = ps.length) (h : ∀ i, i < ps.length → Bs w (vs.getD i undef) (ps.getD i [])) (hz : ps.length ≤ 1000) :
    Bss (w.alloc (.cells vs.toArray 22)) (.slice (some ⟨w.heap.size, 0, none⟩) ps.length ps.length) ps := by
  refine ⟨⟨_, _, rfl⟩, fun _ => ⟨w.heap.size, 0, ps.length, rfl, Nat.le_refl _, by unfold maxLen; omega, by simp, fun i hi => ⟨vs.getD i undef, ?_, (h i hi).below ((Below.refl _ _).alloc (Nat.le_refl _) _)⟩⟩⟩
  rw [Nat.zero_add, cell_of_row _ _ _ _ _ _ (heap_alloc_new w _)]
  simp [List.getD_eq_getElem?_getD, show i < vs.length by omega]
theorem gives_build {P : Program} {o : Oper} {ρ : Operand → Value} {w w' : World} {S : Value → World → Prop} (t : TypeId) (n : Nat) (parts : Array (Nat × Operand)) (ho : o.op = .buildSlice t n parts) (pv : Array (Nat × Value)) (hp : (parts.map fun (i, x) => (i, ρ x)) = pv) (v : Value)
    (hr : (Instr.buildSlice t n pv).run P w = .ok v w') (h : S v w') : Gives P o ρ w S := by
  refine gives_val v (w' := w') ?_ h
  unfold execOp
  simp only [ho, hp, Sem.run_bind, hr, Result.andThen_ok, Sem.run_pure]
theorem build30 (a b c d : Option Addr) (n1 n2 n3 n4 c1 c2 c3 c4 : Nat) (w : World) : (Instr.buildSlice 30 4 #[(0, .slice a n1 c1), (1, .slice b n2 c2), (2, .slice c n3 c3), (3, .slice d n4 c4)]).run Tryd.prog w = .ok (.slice (some ⟨w.heap.size, 0, none⟩) 4 4) (w.alloc (.cells #[.slice a n1 c1, .slice b n2 c2, .slice c n3 c3, .slice d n4 c4] 22)) := by
  go_simp
theorem build30' (a b c : Option Addr) (n1 n2 n3 c1 c2 c3 : Nat) (w : World) : (Instr.buildSlice 30 3 #[(0, .slice a n1 c1), (1, .slice b n2 c2), (2, .slice c n3 c3)]).run Tryd.prog w = .ok (.slice (some ⟨w.heap.size, 0, none⟩) 3 3) (w.alloc (.cells #[.slice a n1 c1, .slice b n2 c2, .slice c n3 c3] 22)) := by
  go_simp
theorem slice43 (b : Nat) (w : World) : (Instr.sliceAt 43 (.pointer (some ⟨b, 0, none⟩)) none none none).run Tryd.prog w = .ok (.slice (some ⟨b, 0, none⟩) 16 16) w := by
  go_simp
theorem Bs.new1 (w : World) (z : Int) : Bs (w.alloc (.cells #[.int .u8 (z % 256)] 5)) (.slice (some ⟨w.heap.size, 0, none⟩) 1 1) [z % 256] :=
  Bs.new w [z % 256] (fun b hb => by simp at hb; rw [hb]; unfold B8; omega) (by simp) (0, 0)

set_option maxHeartbeats 4000000 in
set_option maxRecDepth 100000 in
theorem run_any (x : List Int) (hl : x.length = 16) (hx : u8s_ok x) (l c fr to : Int) (w : World) (hk : w.rangeAt 18 0 (u32s kk)) (h18 : 18 < w.heap.size) :
    Calls Tryd.prog 37 #[.agg (u8s x).toArray, .int .i64 l, .int .i64 c, .int .i64 fr, .int .i64 to] w fun e w' => e = .returned (.agg (u8s (runC l c x fr to)).toArray) ∧ Below w.heap.size w w' := by
  have HK := Lib.hid hk
  have HL := Lib.hid hl
  have HX := Lib.hid hx
  clear hk hl hx
  go_enter Tryd.func37, Tryd.ntmps37
  go_wp2
  have hz2 : ((w.alloc (.cells (u8s x).toArray 43)).alloc (Obj.cells (Array.replicate 16 (Value.int .u8 0)) 43)).heap.size = w.heap.size + 2 := by simp
  have hx0 : ((w.alloc (.cells (u8s x).toArray 43)).alloc (Obj.cells (Array.replicate 16 (Value.int .u8 0)) 43)).heap[w.heap.size]? = some (.cells (u8s (walkC l c x (max fr 0).toNat (max fr 0).toNat)).toArray 43 (0, 0)) := by
    rw [walk_none _ _ _ _ _ (Nat.le_refl _)]
    exact heap_alloc2_old w _ _
  have hr0 : Has ((w.alloc (.cells (u8s x).toArray 43)).alloc (Obj.cells (Array.replicate 16 (Value.int .u8 0)) 43)) (w.heap.size + 1) 43 16 := has_new2 w _ _ _ _ rfl
  have hb0 : Below w.heap.size w ((w.alloc (.cells (u8s x).toArray 43)).alloc (Obj.cells (Array.replicate 16 (Value.int .u8 0)) 43)) := ((Below.refl _ _).alloc (Nat.le_refl _) _).alloc (by simp) _
  have X0 := Lib.hid hx0
  have R0 := Lib.hid hr0
  have B0 := Lib.hid hb0
  change Code.wp _ _ _ _ ((w.alloc (.cells (u8s x).toArray 43)).alloc (Obj.cells (Array.replicate 16 (Value.int .u8 0)) 43))
  generalize (w.alloc (.cells (u8s x).toArray 43)).alloc (Obj.cells (Array.replicate 16 (Value.int .u8 0)) 43) = wo at *
  clear hx0 hr0 hb0 hz2
  obtain ⟨a, ha⟩ : ∃ a : Nat, a = (max fr 0).toNat := ⟨_, rfl⟩
  have ha2 : max fr 0 = (a : Int) := by omega
  rw [ha2]
  rw [← ha] at X0
  have HA := Lib.hid ha
  clear ha
  go_loopw [11] (fun s wr => ∃ (i : Nat), s = .int .i64 i ∧ a ≤ i ∧ (i = a ∨ i ≤ (min to 3).toNat) ∧ Hid (wr.heap[w.heap.size]? = some (.cells (u8s (walkC l c x a i)).toArray 43 (0, 0))) ∧ Hid (Has wr (w.heap.size + 1) 43 16) ∧ Hid (Below w.heap.size w wr))
    (fun s _ => 3 - (intOf s).toNat)
  case atStart => exact ⟨a, rfl, Nat.le_refl _, .inl rfl, X0, R0, B0⟩
  case round =>
    clear X0 R0 B0
    obtain ⟨i, rfl, hai, hib, hXB, hR', hbel⟩ := hrel
    by_cases hlt : (i : Int) < min to 3
    · obtain ⟨X, hX⟩ : ∃ X, X = walkC l c x a i := ⟨_, rfl⟩
      have hgood := walk_good l c x a i HL.out HX.out
      rw [← hX] at hgood hXB
      obtain ⟨hXl, hXo⟩ := hgood
      have hws : walkC l c x a (i + 1) = stepC l c X i := by rw [walk_succ _ _ _ _ _ hai, hX]
      have hbx : Bs wr (.slice (some ⟨w.heap.size, 0, none⟩) X.length 16) X := Bs.of_blk hXB.out hXo (by omega) (by unfold maxLen; omega)
      rw [hXl] at hbx
      obtain ⟨ST, hST⟩ : ∃ s, s = stepC l c X i := ⟨_, rfl⟩
      have hSl : ST.length = 16 := by rw [hST]; exact step_len _ _ _ _
      have hfl : (framed 2 [X, [l % 256], [c % 256], [(i : Int) % 256]]).length ≤ 1099511627776 := by simp [framed, be4, hXl]
      have hi43 : (Tryd.prog.info? 43).map (·.size) = some (u8s ST).length := by rw [u8s_len', hSl]; exact Tryd.size43
      have hhas : ∀ w3, Ext wr w3 → Has w3 w.heap.size 43 (u8s ST).length := fun w3 h => by
        rw [u8s_len', hSl]
        exact Has.below ⟨_, by simp only [List.size_toArray]; rw [u8s_len', hXl], hXB.out⟩ h
      rw [← hST] at hws
      have HBX := Lib.hid hbx
      have HFL := Lib.hid hfl
      have HWS := Lib.hid hws
      have HST := Lib.hid hST
      have HI := Lib.hid hi43
      have HH := Lib.hid hhas
      have HXL := Lib.hid hXl
      clear hbx hfl hws hST hi43 hhas hXl hXo hSl hX hXB
      go_wp2_with fail
      refine wp_region_rely (by kernel_rfl) 9 (by kernel_rfl) (by kernel_rfl) Ext Ext.refl Ext.trans (fun i' => match i' with
        | 0 => fun _ v => v = .slice (some ⟨w.heap.size, 0, none⟩) 16 16
        | 1 => fun _ v => v = .int .i64 l
        | 2 => fun w v => Bs w v [l % 256]
        | 3 => fun _ v => v = .int .i64 c
        | 4 => fun w v => Bs w v [c % 256]
        | 5 => fun _ v => v = .int .i64 i
        | 6 => fun w v => Bs w v [(i : Int) % 256]
        | 7 => fun w v => ∃ A, v = .slice A 4 4 ∧ Bss w (.slice A 4 4) [X, [l % 256], [c % 256], [(i : Int) % 256]]
        | 8 => fun _ v => v = .agg (u8s ST).toArray
        | _ => fun _ _ => False) ?_
      simp (maxSteps := 10000000) only [Rely, List.take_succ_cons, List.take_zero, List.drop_succ_cons, List.drop_zero, Nat.reduceAdd, Nat.zero_add, Act.put, List.setIfInBounds_toArray, List.set_cons_succ, List.set_cons_zero]
      refine ⟨?_, ?_, ?_, ?_, ?_, ?_, ?_, ?_, ?_, ?_⟩
      · refine step_plain rfl fun vs w1 hE hd => ?_
        exact gives_slice 43 _ none none none rfl (.pointer (some ⟨w.heap.size, 0, none⟩)) (.slice (some ⟨w.heap.size, 0, none⟩) 16 16) none none none rfl rfl rfl rfl (slice43 _ _) ⟨Ext.refl _, fun _ _ => rfl⟩
      · refine step_plain rfl fun vs w1 hE hd => ?_
        exact gives_move _ (.int .i64 l) (.inl rfl) rfl ⟨Ext.refl _, fun _ _ => rfl⟩
      · refine step_plain rfl fun vs w1 hE hd => ?_
        refine gives_call 76 Tryd.call76 _ _ rfl rfl [.int .i64 l] (congrArg (fun x => [x]) (hd.1)) ?_
        refine (small_any l w1).mono ?_
        rintro e w2 ⟨rfl, rfl⟩
        exact ⟨_, rfl, (Below.refl _ _).alloc (Nat.le_refl _) _, fun _ h => (Bs.new1 w1 l).below h⟩
      · refine step_plain rfl fun vs w1 hE hd => ?_
        exact gives_move _ (.int .i64 c) (.inl rfl) rfl ⟨Ext.refl _, fun _ _ => rfl⟩
      · refine step_plain rfl fun vs w1 hE hd => ?_
        refine gives_call 76 Tryd.call76 _ _ rfl rfl [.int .i64 c] (congrArg (fun x => [x]) (hd.1)) ?_
        refine (small_any c w1).mono ?_
        rintro e w2 ⟨rfl, rfl⟩
        exact ⟨_, rfl, (Below.refl _ _).alloc (Nat.le_refl _) _, fun _ h => (Bs.new1 w1 c).below h⟩
      · refine step_plain rfl fun vs w1 hE hd => ?_
        exact gives_move _ (.int .i64 i) (.inl rfl) rfl ⟨Ext.refl _, fun _ _ => rfl⟩
      · refine step_plain rfl fun vs w1 hE hd => ?_
        refine gives_call 76 Tryd.call76 _ _ rfl rfl [.int .i64 i] (congrArg (fun x => [x]) (hd.1)) ?_
        refine (small_any i w1).mono ?_
        rintro e w2 ⟨rfl, rfl⟩
        exact ⟨_, rfl, (Below.refl _ _).alloc (Nat.le_refl _) _, fun _ h => (Bs.new1 w1 i).below h⟩
      · refine step_plain rfl fun vs w1 hE hd => ?_
        have e0 : vs 0 = _ := hd.1
        have b2 : Bs w1 (vs 2) [l % 256] := hd.2.1
        have b4 : Bs w1 (vs 4) [c % 256] := hd.2.2.1
        have b6 : Bs w1 (vs 6) [(i : Int) % 256] := hd.2.2.2.1
        have bx : Bs w1 _ X := HBX.out.below (ext_of_drew hE)
        obtain ⟨A2, c2, e2⟩ := b2.form
        obtain ⟨A4, c4, e4⟩ := b4.form
        obtain ⟨A6, c6, e6⟩ := b6.form
        rw [e2] at b2
        rw [e4] at b4
        rw [e6] at b6
        refine gives_build 30 4 _ rfl #[(0, .slice (some ⟨w.heap.size, 0, none⟩) 16 16), (1, .slice A2 1 c2), (2, .slice A4 1 c4), (3, .slice A6 1 c6)] ?_ _ (build30 _ _ _ _ _ _ _ _ _ _ _ _ _) ⟨(Below.refl _ _).alloc (Nat.le_refl _) _, fun w5 h5 => ⟨_, rfl, Bss.below (Bss.new w1 [.slice (some ⟨w.heap.size, 0, none⟩) 16 16, .slice A2 1 c2, .slice A4 1 c4, .slice A6 1 c6] [X, [l % 256], [c % 256], [(i : Int) % 256]] rfl (fun j hj => ?_) (by simp)) h5⟩⟩
        · simp only [List.map_toArray, List.map_cons, List.map_nil]
          show #[(0, vs 0), (1, vs 2), (2, vs 4), (3, vs 6)] = _
          rw [e0, e2, e4, e6]
          rfl
        · have hj4 : j = 0 ∨ j = 1 ∨ j = 2 ∨ j = 3 := by simp at hj; omega
          rcases hj4 with rfl | rfl | rfl | rfl
          · exact bx
          · exact b2
          · exact b4
          · exact b6
      · refine step_plain rfl fun vs w1 hE hd => ?_
        obtain ⟨A7, e7, b7⟩ : ∃ A, vs 7 = .slice A 4 4 ∧ Bss w1 (.slice A 4 4) [X, [l % 256], [c % 256], [(i : Int) % 256]] := hd.1
        have hw1 : Below w.heap.size w w1 := hbel.out.trans (Below.mono (ext_of_drew hE) hbel.out.size)
        refine gives_call 33 Tryd.call33 _ _ rfl rfl [.int .i64 2, .slice A7 4 4] (congrArg (fun x => [Value.int .i64 2, x]) e7) ?_
        refine (of_any 2 [X, [l % 256], [c % 256], [(i : Int) % 256]] A7 4 4 w1 b7 rfl HFL.out (range_below HK.out hw1) (by have := hw1.size; omega)).mono ?_
        rintro e w2 ⟨rfl, hb⟩
        exact ⟨_, rfl, hb, fun _ _ => by rw [HST.out]; rfl⟩
      · intro vs w3 hE hR
        have h8 : vs 8 = .agg (u8s ST).toArray := hR 8 (by omega)
        rw [h8]
        have he : Ext wr w3 := ext_of_drew hE
        have HH3 := Lib.hid (HH.out w3 he)
        have HR3 := Lib.hid (hR'.out.below he)
        have HB3 := Lib.hid (hbel.out.trans (Below.mono he hbel.out.size))
        clear hR hE h8 HH he
        go_wp2_with (refine wpList_store_row rfl 43 (.tmp 5) (.tmp 28) rfl w.heap.size rfl (u8s ST) rfl 43 HH3.out HI.out (one_u8s _) ?_; intro w9 hp9)
        go_roundw
        case rel => exact ⟨i + 1, by go_num, by omega, .inr (by omega), Lib.hid (by rw [HWS.out]; exact hp9.blk), Lib.hid (HR3.out.same (hp9.other _ (by omega))), Lib.hid (hp9.below HB3.out (Nat.le_refl _))⟩
        case measure => simp [intOf]; omega
    · have hwk : walkC l c x a i = runC l c x fr to := by
        unfold runC
        rw [← HA.out]
        rcases hib with rfl | hib
        · rw [walk_none _ _ _ _ _ (Nat.le_refl _), walk_none _ _ _ _ _ (by omega)]
        · by_cases h : i = (min to 3).toNat
          · rw [h]
          · rw [walk_none _ _ _ _ _ (by omega), walk_none _ _ _ _ _ (by omega)]
      rw [hwk] at hXB
      obtain ⟨SH, hSH⟩ : ∃ s, s = runC l c x fr to := ⟨_, rfl⟩
      have hsl : SH.length = 16 := by rw [hSH]; exact (walk_good l c x _ _ HL.out HX.out).1
      have hi43 : (Tryd.prog.info? 43).map (·.size) = some (u8s SH).length := by rw [u8s_len', hsl]; exact Tryd.size43
      rw [← hSH] at hXB
      have hra : wr.rangeAt w.heap.size 0 (u8s SH) := blk_range hXB.out
      have hh : Has wr (w.heap.size + 1) 43 (u8s SH).length := by rw [u8s_len', hsl]; exact hR'.out
      have HRA := Lib.hid hra
      have HHH := Lib.hid hh
      have HI43 := Lib.hid hi43
      have HSH := Lib.hid hSH
      clear hra hh hi43 hSH hXB hR' hwk
      go_wp2_with (first | (refine wpList_load_g rfl 43 (.tmp 5) rfl w.heap.size 0 rfl (u8s SH) _ HRA.out Tryd.underlying43 rfl HI43.out ?_) | (refine wpList_store_row rfl 43 (.tmp 10) (.tmp 29) rfl (w.heap.size + 1) rfl (u8s SH) rfl 43 HHH.out HI43.out (one_u8s _) ?_; intro w10 hp10))
      refine bodyPost_ret (v := .agg (u8s SH).toArray) (results_cell_row rfl _ _ (w.heap.size + 1) 43 _ (0, 0) _ rfl hp10.blk Tryd.underlying43 rfl (by simpa using HI43.out)) rfl ⟨by rw [HSH.out], hp10.below hbel.out (by omega)⟩
end Go.Proofs.YtdedphhohiioiaaDoor
