/- What ChainsSigns rests on, part 13 of 14: lemmas without conditions of their own. -/
import Derived.Deep.QuietTactic
import Derived.BigQuiet
import Derived.Test.YtdedphhohiioiaaDoorChainsSignsP12
/- What chains.Public and chains.Recover do. -/
namespace Go.Proofs.YtdedphhohiioiaaDoor
open Go.RowKit Go.Shelf

def zero16 : List Int := List.replicate 16 0
theorem zero16_len : zero16.length = 16 := by simp [zero16]
theorem zero_cells : (u8s zero16).toArray = Array.replicate 16 (Value.int .u8 0) := rfl
/-- The block r stays noughts. -/
def EZ (n₀ r : Nat) (a b : World) : Prop := Below n₀ a b ∧ (a.heap[r]? = some (Obj.cells (u8s zero16).toArray 43 (0, 0)) → b.heap[r]? = some (Obj.cells (u8s zero16).toArray 43 (0, 0)))
theorem EZ.refl (n₀ r : Nat) (a : World) : EZ n₀ r a a := ⟨Below.refl _ _, id⟩
theorem EZ.trans {n₀ r : Nat} {a b c : World} (h : EZ n₀ r a b) (k : EZ n₀ r b c) : EZ n₀ r a c := ⟨h.1.trans k.1, fun x => k.2 (h.2 x)⟩
theorem ez_cell {w W0 wq : World} {r : Nat} {p : Addr} {v : Value} (hb : Below w.heap.size w W0) (hE : EZ w.heap.size r W0.drew wq) (hc : w.cell? p = some v) : wq.cell? p = some v :=
  ((hb.drew.trans hE.1).cell (World.block_lt_of_cell? w p hc)).trans hc
theorem gives_store_row {P : Program} {o : Oper} {ρ : Operand → Value} {w : World} {S : Value → World → Prop} (ty : TypeId) (x y : Operand) (ho : o.op = .store ty x y)
    (b : Nat) (hx : ρ x = .pointer (some ⟨b, 0, none⟩)) (cs : List Value) (hy : ρ y = .agg cs.toArray) (t : Nat) (hb : Has w b t cs.length)
    (hi : (P.info? ty).map (·.size) = some cs.length) (h1 : ∀ v ∈ cs, v.oneCell' = true)
    (h : ∀ w1, Put w b t cs w1 → S undef w1) : Gives P o ρ w S := by
  obtain ⟨Z, hz, hZ⟩ := hb
  have hr := run_storeVar_row (P := P) w b t ty Z cs.toArray hZ (by simpa using hi) (by simpa using hz) (Array.all_eq_true_iff_forall_mem.2 (fun v hv => h1 v (by simpa using hv)))
  unfold Gives execOp
  simp only [ho, hx, hy, Instr.storeAt, Instr.sureAddr, Sem.run_bind, Sem.run_pure, Result.andThen_ok, hr]
  exact h _ ⟨setRow_heap w b Z _ t _ hZ, fun k hk => setRow_other w b k _ hk, by simp, rfl, rfl, rfl⟩
theorem right_any (l : Int) (w : World) : Calls Tryd.prog 83 #[.int .i64 l] w fun e w' => e = .returned (.bool (decide (0 ≤ l ∧ l < 32))) ∧ w' = w := by
  by_cases h0 : 0 ≤ l
  · by_cases h1 : l < 32
    · rw [decide_eq_true ⟨h0, h1⟩]
      exact right_in l h0 h1 w
    · rw [decide_eq_false (fun h => h1 h.2)]
      go_enter Tryd.func83, Tryd.ntmps83
      go_wp2
      go_ret
      exact ⟨rfl, rfl⟩
  · rw [decide_eq_false (fun h => h0 h.1)]
    go_enter Tryd.func83, Tryd.ntmps83
    go_wp2
    go_ret
    exact ⟨rfl, rfl⟩

set_option maxHeartbeats 8000000 in
set_option maxRecDepth 100000 in
theorem public_ok (x : List Int) (hl : x.length = 16) (hx : u8s_ok x) (l : Int) (h0 : 0 ≤ l) (h1 : l < 32) (w : World) (hk : w.rangeAt 18 0 (u32s kk)) (h18 : 18 < w.heap.size) :
    Calls Tryd.prog 52 #[.agg (u8s x).toArray, .int .i64 l] w fun e w' => e = .returned (.tuple #[.agg (u8s (publicC l (pubE l x 68))).toArray, .nilIface]) ∧ Below w.heap.size w w' := by
  have hi43 : ∀ V : List Int, V.length = 16 → (Tryd.prog.info? 43).map (·.size) = some (u8s V).length := fun V h => by rw [u8s_len', h]; exact Tryd.size43
  obtain ⟨W0, hW0⟩ : ∃ W0, W0 = ((w.alloc (.cells (u8s x).toArray 43)).alloc (.cells #[.int .i64 l] 3)).alloc (Obj.cells (Array.replicate 16 (Value.int .u8 0)) 43) := ⟨_, rfl⟩
  have b0 : Below w.heap.size w W0 := by rw [hW0]; exact (((Below.refl _ _).alloc (Nat.le_refl _) _).alloc (by simp) _).alloc (by simp; omega) _
  have q0 : W0.rangeAt w.heap.size 0 (u8s x) := by
    rw [hW0]
    exact World.rangeAt_alloc (World.rangeAt_alloc (range_new w (u8s x) 43) _) _
  have q1 : Boxed W0 (w.heap.size + 1) 3 (.int .i64 l) := by
    rw [hW0]
    have := (Boxed.new (w.alloc (.cells (u8s x).toArray 43)) 3 (.int .i64 l)).alloc (Obj.cells (Array.replicate 16 (Value.int .u8 0)) 43)
    rwa [World.size_alloc] at this
  have q2 : Has W0 (w.heap.size + 2) 43 16 := by
    rw [hW0]
    have := has_new ((w.alloc (.cells (u8s x).toArray 43)).alloc (.cells #[.int .i64 l] 3)) (Array.replicate 16 (Value.int .u8 0)) 43 16 rfl
    simpa using this
  have z0 : 18 < W0.heap.size := Nat.lt_of_lt_of_le h18 b0.size
  have HCL := Lib.hid (public_any 86 #[.pointer (some ⟨w.heap.size, 0, none⟩), .pointer (some ⟨w.heap.size + 1, 0, none⟩)] (pubD l x 68) l W0 (pubD_len l x 68) (enters_of Tryd.func86 (by kernel_rfl) rfl)
    (pub_stops 3 (by omega) w.heap.size (w.heap.size + 1) x l W0 q0 q1.cell hl hx (range_below hk b0) z0) (range_below hk b0) z0)
  have Q1 := q1.cell
  have B0 := Lib.hid b0
  have H0 := Lib.hid q2
  clear q0 q1 b0 q2 hk hl hx
  go_enter Tryd.func52, Tryd.ntmps52
  go_wp2_with fail
  change Calls _ _ _ (((w.alloc (.cells (u8s x).toArray 43)).alloc (.cells #[.int .i64 l] 3)).alloc (Obj.cells (Array.replicate 16 (Value.int .u8 0)) 43)) _
  rw [← hW0]
  clear hW0
  refine (right_in l h0 h1 W0).mono ?_
  rintro e w1 ⟨rfl, rfl⟩
  go_wp2_with fail
  refine HCL.out.mono ?_
  rintro e w2 ⟨rfl, hb2⟩
  obtain ⟨ST, hST⟩ : ∃ s, s = publicC l (pubE l x 68) := ⟨_, rfl⟩
  have hSl : ST.length = 16 := by rw [hST]; exact (publicC_good _ _).1
  rw [pubD_val, ← hST]
  have HI := Lib.hid (hi43 ST hSl)
  have HH2 : Hid (Has w2 (w.heap.size + 2) 43 (u8s ST).length) := Lib.hid (by rw [u8s_len', hSl]; exact H0.out.below hb2)
  have B2 := Lib.hid (B0.out.trans (hb2.mono B0.out.size))
  have HST := Lib.hid hST
  clear hb2 hST hSl HCL
  go_wp2_with (refine wpList_store_row rfl 43 (.tmp 4) (.tmp 13) rfl (w.heap.size + 2) rfl (u8s ST) rfl 43 HH2.out HI.out (one_u8s _) ?_; intro w10 hp10)
  refine bodyPost_ret (v := .tuple #[.agg (u8s ST).toArray, .nilIface]) (results_cell_row_tmp rfl _ _ (w.heap.size + 2) 43 _ (0, 0) _ rfl hp10.blk Tryd.underlying43 rfl (by simpa using HI.out) rfl) rfl ⟨by rw [HST.out], hp10.below B2.out (by omega)⟩

set_option maxHeartbeats 8000000 in
set_option maxRecDepth 100000 in
theorem public_bad (x : List Int) (l : Int) (hbad : ¬ (0 ≤ l ∧ l < 32)) (aR : Addr) (w : World) (hr : w.cell? ⟨1, 0, none⟩ = some (errV aR)) :
    Calls Tryd.prog 52 #[.agg (u8s x).toArray, .int .i64 l] w fun e w' => e = .returned (.tuple #[.agg (u8s zero16).toArray, errV aR]) ∧ Below w.heap.size w w' := by
  have hi43 : ∀ V : List Int, V.length = 16 → (Tryd.prog.info? 43).map (·.size) = some (u8s V).length := fun V h => by rw [u8s_len', h]; exact Tryd.size43
  obtain ⟨W0, hW0⟩ : ∃ W0, W0 = ((w.alloc (.cells (u8s x).toArray 43)).alloc (.cells #[.int .i64 l] 3)).alloc (Obj.cells (Array.replicate 16 (Value.int .u8 0)) 43) := ⟨_, rfl⟩
  have b0 : Below w.heap.size w W0 := by rw [hW0]; exact (((Below.refl _ _).alloc (Nat.le_refl _) _).alloc (by simp) _).alloc (by simp; omega) _
  have q1 : Boxed W0 (w.heap.size + 1) 3 (.int .i64 l) := by
    rw [hW0]
    have := (Boxed.new (w.alloc (.cells (u8s x).toArray 43)) 3 (.int .i64 l)).alloc (Obj.cells (Array.replicate 16 (Value.int .u8 0)) 43)
    rwa [World.size_alloc] at this
  have q2 : W0.heap[w.heap.size + 2]? = some (Obj.cells (u8s zero16).toArray 43 (0, 0)) := by
    rw [hW0, zero_cells]
    have := heap_alloc_new ((w.alloc (.cells (u8s x).toArray 43)).alloc (.cells #[.int .i64 l] 3)) (Obj.cells (Array.replicate 16 (Value.int .u8 0)) 43)
    simpa using this
  have Q1 := q1.cell
  have CR := Lib.hid hr
  have B0 := Lib.hid b0
  have HZ := Lib.hid q2
  clear q1 b0 q2 hr
  go_enter Tryd.func52, Tryd.ntmps52
  go_wp2_with fail
  change Calls _ _ _ (((w.alloc (.cells (u8s x).toArray 43)).alloc (.cells #[.int .i64 l] 3)).alloc (Obj.cells (Array.replicate 16 (Value.int .u8 0)) 43)) _
  rw [← hW0]
  clear hW0
  refine (right_any l W0).mono ?_
  rintro e w1 ⟨rfl, rfl⟩
  rw [decide_eq_false hbad]
  go_wp2_with fail
  refine wp_region_rely3 (by kernel_rfl) 3 (by kernel_rfl) (by kernel_rfl) (EZ w.heap.size (w.heap.size + 2)) (EZ.refl _ _) EZ.trans (fun ix => match ix with
    | 0 => fun _ v => v = .agg (u8s zero16).toArray
    | 1 => fun _ v => v = errV aR
    | 2 => fun _ v => v = undef
    | _ => fun _ _ => False) ?_
  simp (maxSteps := 10000000) only [Rely, List.take_succ_cons, List.take_zero, List.drop_succ_cons, List.drop_zero, Nat.reduceAdd, Nat.zero_add, Act.put, List.setIfInBounds_toArray, List.set_cons_succ, List.set_cons_zero]
  refine ⟨?_, ?_, ?_, ?_⟩
  · refine step_plain rfl fun vs wq hE hd => ?_
    exact gives_val (.agg (u8s zero16).toArray) (w' := wq) (by rw [zero_cells]; go_simp; rfl) ⟨EZ.refl _ _ _, fun _ _ => rfl⟩
  · refine step_plain rfl fun vs wq hE hd => ?_
    have hc := ez_cell B0.out hE CR.out
    exact gives_loadAt 57 _ rfl (.pointer (some ⟨1, 0, none⟩)) (errV aR) rfl (by go_simp) ⟨EZ.refl _ _ _, fun _ _ => rfl⟩
  · refine step_plain rfl fun vs wq hE hd => ?_
    refine gives_store_row 43 _ _ rfl (w.heap.size + 2) rfl (u8s zero16) (hd.1) 43 ⟨_, by rw [List.size_toArray], hE.2 HZ.out⟩ (hi43 _ zero16_len) (one_u8s _) fun w3 hp3 => ⟨⟨hp3.below (Below.refl _ _) (by omega), fun _ => hp3.blk⟩, fun _ _ => rfl⟩
  · intro vs w2 hE hR
    have h1 : vs 1 = errV aR := hR 1 (by omega)
    rw [h1]
    have HB2 := Lib.hid (B0.out.drew.trans hE.1)
    have HZ2 := Lib.hid (hE.2 HZ.out)
    clear hR hE h1
    go_wp2_with fail
    refine bodyPost_ret (v := .tuple #[.agg (u8s zero16).toArray, errV aR]) (results_cell_row_tmp rfl _ _ (w.heap.size + 2) 43 _ (0, 0) _ rfl HZ2.out Tryd.underlying43 rfl (by simpa using hi43 _ zero16_len) rfl) rfl ⟨rfl, HB2.out⟩

set_option maxHeartbeats 8000000 in
set_option maxRecDepth 100000 in
theorem recover_ok (l : Int) (A : Option Addr) (k c : Nat) (ds : List (List Int)) (m : List Int) (w : World) (h0 : 0 ≤ l) (h1 : l < 32) (hd : ∀ W, Below w.heap.size w W → Dgs W (.slice A k c) ds) (hkl : k = ds.length) (hk68 : k = 68) (hlm : m.length = 16) (hm : u8s_ok m) (hk : w.rangeAt 18 0 (u32s kk)) (h18 : 18 < w.heap.size) :
    Calls Tryd.prog 48 #[.int .i64 l, .slice A k c, .agg (u8s m).toArray] w fun e w' => e = .returned (.tuple #[.agg (u8s (publicC l (recE l ds m 68))).toArray, .nilIface]) ∧ Below w.heap.size w w' := by
  subst hk68
  have hi43 : ∀ V : List Int, V.length = 16 → (Tryd.prog.info? 43).map (·.size) = some (u8s V).length := fun V h => by rw [u8s_len', h]; exact Tryd.size43
  obtain ⟨W0, hW0⟩ : ∃ W0, W0 = (((w.alloc (.cells #[.int .i64 l] 3)).alloc (.cells #[.slice A 68 c] 55)).alloc (.cells (u8s m).toArray 43)).alloc (Obj.cells (Array.replicate 16 (Value.int .u8 0)) 43) := ⟨_, rfl⟩
  have b0 : Below w.heap.size w W0 := by rw [hW0]; exact ((((Below.refl _ _).alloc (Nat.le_refl _) _).alloc (by simp) _).alloc (by simp; omega) _).alloc (by simp; omega) _
  have q1 : Boxed W0 w.heap.size 3 (.int .i64 l) := by
    rw [hW0]
    exact (((Boxed.new w 3 (.int .i64 l)).alloc _).alloc _).alloc _
  have q2 : Boxed W0 (w.heap.size + 1) 55 (.slice A 68 c) := by
    rw [hW0]
    have := ((Boxed.new (w.alloc (.cells #[.int .i64 l] 3)) 55 (.slice A 68 c)).alloc (.cells (u8s m).toArray 43)).alloc (Obj.cells (Array.replicate 16 (Value.int .u8 0)) 43)
    rwa [World.size_alloc] at this
  have q3 : W0.rangeAt (w.heap.size + 2) 0 (u8s m) := by
    rw [hW0]
    have := World.rangeAt_alloc (range_new ((w.alloc (.cells #[.int .i64 l] 3)).alloc (.cells #[.slice A 68 c] 55)) (u8s m) 43) (Obj.cells (Array.replicate 16 (Value.int .u8 0)) 43)
    simpa using this
  have q4 : ∀ n, n = 16 → Has W0 (w.heap.size + 3) 43 n := fun n hn => by
    rw [hW0, hn]
    have := has_new (((w.alloc (.cells #[.int .i64 l] 3)).alloc (.cells #[.slice A 68 c] 55)).alloc (.cells (u8s m).toArray 43)) (Array.replicate 16 (Value.int .u8 0)) 43 16 rfl
    simpa using this
  have q5 : W0.heap[w.heap.size + 3]? = some (Obj.cells (u8s zero16).toArray 43 (0, 0)) := by
    rw [hW0, zero_cells]
    have := heap_alloc_new (((w.alloc (.cells #[.int .i64 l] 3)).alloc (.cells #[.slice A 68 c] 55)).alloc (.cells (u8s m).toArray 43)) (Obj.cells (Array.replicate 16 (Value.int .u8 0)) 43)
    simpa using this
  have z0 : 18 < W0.heap.size := Nat.lt_of_lt_of_le h18 b0.size
  have HCL := Lib.hid (public_any 85 #[.pointer (some ⟨w.heap.size + 2, 0, none⟩), .pointer (some ⟨w.heap.size + 1, 0, none⟩), .pointer (some ⟨w.heap.size, 0, none⟩)] (recD l ds m 68) l W0 (recD_len l ds m 68) (enters_of Tryd.func85 (by kernel_rfl) rfl)
    (rec_stops 3 (by omega) (w.heap.size + 2) (w.heap.size + 1) w.heap.size m ds A c l W0 q3 q2.cell (hd W0 b0) hkl.symm q1.cell hlm hm (range_below hk b0) z0) (range_below hk b0) z0)
  have hrv := recD_val l ds m 68 (fun j hj => (hd W0 b0).at j (by omega))
  have HRV := Lib.hid hrv
  have Q1 := q1.cell
  have Q2 := q2.cell
  have B0 := Lib.hid b0
  have H0 := Lib.hid (q4 16 rfl)
  clear q1 q2 q3 q4 q5 b0 hk hlm hm hd hkl hrv
  go_enter Tryd.func48, Tryd.ntmps48
  go_wp2_with fail
  change Calls _ _ _ ((((w.alloc (.cells #[.int .i64 l] 3)).alloc (.cells #[.slice A 68 c] 55)).alloc (.cells (u8s m).toArray 43)).alloc (Obj.cells (Array.replicate 16 (Value.int .u8 0)) 43)) _
  rw [← hW0]
  clear hW0
  refine (right_in l h0 h1 W0).mono ?_
  rintro e w1 ⟨rfl, rfl⟩
  go_wp2_with fail
  refine HCL.out.mono ?_
  rintro e w2 ⟨rfl, hb2⟩
  obtain ⟨ST, hST⟩ : ∃ s, s = publicC l (recE l ds m 68) := ⟨_, rfl⟩
  have hSl : ST.length = 16 := by rw [hST]; exact (publicC_good _ _).1
  rw [HRV.out, ← hST]
  have HI := Lib.hid (hi43 ST hSl)
  have HH2 : Hid (Has w2 (w.heap.size + 3) 43 (u8s ST).length) := Lib.hid (by rw [u8s_len', hSl]; exact H0.out.below hb2)
  have B2 := Lib.hid (B0.out.trans (hb2.mono B0.out.size))
  have HST := Lib.hid hST
  clear hb2 hST hSl HCL HRV
  go_wp2_with (refine wpList_store_row rfl 43 (.tmp 6) (.tmp 22) rfl (w.heap.size + 3) rfl (u8s ST) rfl 43 HH2.out HI.out (one_u8s _) ?_; intro w10 hp10)
  refine bodyPost_ret (v := .tuple #[.agg (u8s ST).toArray, .nilIface]) (results_cell_row_tmp rfl _ _ (w.heap.size + 3) 43 _ (0, 0) _ rfl hp10.blk Tryd.underlying43 rfl (by simpa using HI.out) rfl) rfl ⟨by rw [HST.out], hp10.below B2.out (by omega)⟩

set_option maxHeartbeats 8000000 in
set_option maxRecDepth 100000 in
theorem recover_range (l : Int) (A : Option Addr) (k c : Nat) (m : List Int) (aR : Addr) (w : World) (hbad : ¬ (0 ≤ l ∧ l < 32)) (hr : w.cell? ⟨1, 0, none⟩ = some (errV aR)) :
    Calls Tryd.prog 48 #[.int .i64 l, .slice A k c, .agg (u8s m).toArray] w fun e w' => e = .returned (.tuple #[.agg (u8s zero16).toArray, errV aR]) ∧ Below w.heap.size w w' := by
  have hi43 : ∀ V : List Int, V.length = 16 → (Tryd.prog.info? 43).map (·.size) = some (u8s V).length := fun V h => by rw [u8s_len', h]; exact Tryd.size43
  obtain ⟨W0, hW0⟩ : ∃ W0, W0 = (((w.alloc (.cells #[.int .i64 l] 3)).alloc (.cells #[.slice A k c] 55)).alloc (.cells (u8s m).toArray 43)).alloc (Obj.cells (Array.replicate 16 (Value.int .u8 0)) 43) := ⟨_, rfl⟩
  have b0 : Below w.heap.size w W0 := by rw [hW0]; exact ((((Below.refl _ _).alloc (Nat.le_refl _) _).alloc (by simp) _).alloc (by simp; omega) _).alloc (by simp; omega) _
  have q1 : Boxed W0 w.heap.size 3 (.int .i64 l) := by
    rw [hW0]
    exact (((Boxed.new w 3 (.int .i64 l)).alloc _).alloc _).alloc _
  have q2 : Boxed W0 (w.heap.size + 1) 55 (.slice A k c) := by
    rw [hW0]
    have := ((Boxed.new (w.alloc (.cells #[.int .i64 l] 3)) 55 (.slice A k c)).alloc (.cells (u8s m).toArray 43)).alloc (Obj.cells (Array.replicate 16 (Value.int .u8 0)) 43)
    rwa [World.size_alloc] at this
  have q3 : W0.rangeAt (w.heap.size + 2) 0 (u8s m) := by
    rw [hW0]
    have := World.rangeAt_alloc (range_new ((w.alloc (.cells #[.int .i64 l] 3)).alloc (.cells #[.slice A k c] 55)) (u8s m) 43) (Obj.cells (Array.replicate 16 (Value.int .u8 0)) 43)
    simpa using this
  have q4 : ∀ n, n = 16 → Has W0 (w.heap.size + 3) 43 n := fun n hn => by
    rw [hW0, hn]
    have := has_new (((w.alloc (.cells #[.int .i64 l] 3)).alloc (.cells #[.slice A k c] 55)).alloc (.cells (u8s m).toArray 43)) (Array.replicate 16 (Value.int .u8 0)) 43 16 rfl
    simpa using this
  have q5 : W0.heap[w.heap.size + 3]? = some (Obj.cells (u8s zero16).toArray 43 (0, 0)) := by
    rw [hW0, zero_cells]
    have := heap_alloc_new (((w.alloc (.cells #[.int .i64 l] 3)).alloc (.cells #[.slice A k c] 55)).alloc (.cells (u8s m).toArray 43)) (Obj.cells (Array.replicate 16 (Value.int .u8 0)) 43)
    simpa using this
  have Q1 := q1.cell
  have CR := Lib.hid hr
  have B0 := Lib.hid b0
  have HZ := Lib.hid q5
  clear q1 q2 q3 q4 q5 b0 hr
  go_enter Tryd.func48, Tryd.ntmps48
  go_wp2_with fail
  change Calls _ _ _ ((((w.alloc (.cells #[.int .i64 l] 3)).alloc (.cells #[.slice A k c] 55)).alloc (.cells (u8s m).toArray 43)).alloc (Obj.cells (Array.replicate 16 (Value.int .u8 0)) 43)) _
  rw [← hW0]
  clear hW0
  refine (right_any l W0).mono ?_
  rintro e w1 ⟨rfl, rfl⟩
  rw [decide_eq_false hbad]
  go_wp2_with fail
  refine wp_region_rely3 (by kernel_rfl) 3 (by kernel_rfl) (by kernel_rfl) (EZ w.heap.size (w.heap.size + 3)) (EZ.refl _ _) EZ.trans (fun ix => match ix with
    | 0 => fun _ v => v = .agg (u8s zero16).toArray
    | 1 => fun _ v => v = errV aR
    | 2 => fun _ v => v = undef
    | _ => fun _ _ => False) ?_
  simp (maxSteps := 10000000) only [Rely, List.take_succ_cons, List.take_zero, List.drop_succ_cons, List.drop_zero, Nat.reduceAdd, Nat.zero_add, Act.put, List.setIfInBounds_toArray, List.set_cons_succ, List.set_cons_zero]
  refine ⟨?_, ?_, ?_, ?_⟩
  · refine step_plain rfl fun vs wq hE hd => ?_
    exact gives_val (.agg (u8s zero16).toArray) (w' := wq) (by rw [zero_cells]; go_simp; rfl) ⟨EZ.refl _ _ _, fun _ _ => rfl⟩
  · refine step_plain rfl fun vs wq hE hd => ?_
    have hc := ez_cell B0.out hE CR.out
    exact gives_loadAt 57 _ rfl (.pointer (some ⟨1, 0, none⟩)) (errV aR) rfl (by go_simp) ⟨EZ.refl _ _ _, fun _ _ => rfl⟩
  · refine step_plain rfl fun vs wq hE hd => ?_
    refine gives_store_row 43 _ _ rfl (w.heap.size + 3) rfl (u8s zero16) (hd.1) 43 ⟨_, by rw [List.size_toArray], hE.2 HZ.out⟩ (hi43 _ zero16_len) (one_u8s _) fun w3 hp3 => ⟨⟨hp3.below (Below.refl _ _) (by omega), fun _ => hp3.blk⟩, fun _ _ => rfl⟩
  · intro vs w2 hE hR
    have h1 : vs 1 = errV aR := hR 1 (by omega)
    rw [h1]
    have HB2 := Lib.hid (B0.out.drew.trans hE.1)
    have HZ2 := Lib.hid (hE.2 HZ.out)
    clear hR hE h1
    go_wp2_with fail
    refine bodyPost_ret (v := .tuple #[.agg (u8s zero16).toArray, errV aR]) (results_cell_row_tmp rfl _ _ (w.heap.size + 3) 43 _ (0, 0) _ rfl HZ2.out Tryd.underlying43 rfl (by simpa using hi43 _ zero16_len) rfl) rfl ⟨rfl, HB2.out⟩

set_option maxHeartbeats 8000000 in
set_option maxRecDepth 100000 in
theorem recover_form (l : Int) (A : Option Addr) (k c : Nat) (m : List Int) (aF : Addr) (w : World) (h0 : 0 ≤ l) (h1 : l < 32) (hne : k ≠ 68) (hf : w.cell? ⟨0, 0, none⟩ = some (errV aF)) :
    Calls Tryd.prog 48 #[.int .i64 l, .slice A k c, .agg (u8s m).toArray] w fun e w' => e = .returned (.tuple #[.agg (u8s zero16).toArray, errV aF]) ∧ Below w.heap.size w w' := by
  have hi43 : ∀ V : List Int, V.length = 16 → (Tryd.prog.info? 43).map (·.size) = some (u8s V).length := fun V h => by rw [u8s_len', h]; exact Tryd.size43
  obtain ⟨W0, hW0⟩ : ∃ W0, W0 = (((w.alloc (.cells #[.int .i64 l] 3)).alloc (.cells #[.slice A k c] 55)).alloc (.cells (u8s m).toArray 43)).alloc (Obj.cells (Array.replicate 16 (Value.int .u8 0)) 43) := ⟨_, rfl⟩
  have b0 : Below w.heap.size w W0 := by rw [hW0]; exact ((((Below.refl _ _).alloc (Nat.le_refl _) _).alloc (by simp) _).alloc (by simp; omega) _).alloc (by simp; omega) _
  have q1 : Boxed W0 w.heap.size 3 (.int .i64 l) := by
    rw [hW0]
    exact (((Boxed.new w 3 (.int .i64 l)).alloc _).alloc _).alloc _
  have q2 : Boxed W0 (w.heap.size + 1) 55 (.slice A k c) := by
    rw [hW0]
    have := ((Boxed.new (w.alloc (.cells #[.int .i64 l] 3)) 55 (.slice A k c)).alloc (.cells (u8s m).toArray 43)).alloc (Obj.cells (Array.replicate 16 (Value.int .u8 0)) 43)
    rwa [World.size_alloc] at this
  have q3 : W0.rangeAt (w.heap.size + 2) 0 (u8s m) := by
    rw [hW0]
    have := World.rangeAt_alloc (range_new ((w.alloc (.cells #[.int .i64 l] 3)).alloc (.cells #[.slice A k c] 55)) (u8s m) 43) (Obj.cells (Array.replicate 16 (Value.int .u8 0)) 43)
    simpa using this
  have q4 : ∀ n, n = 16 → Has W0 (w.heap.size + 3) 43 n := fun n hn => by
    rw [hW0, hn]
    have := has_new (((w.alloc (.cells #[.int .i64 l] 3)).alloc (.cells #[.slice A k c] 55)).alloc (.cells (u8s m).toArray 43)) (Array.replicate 16 (Value.int .u8 0)) 43 16 rfl
    simpa using this
  have q5 : W0.heap[w.heap.size + 3]? = some (Obj.cells (u8s zero16).toArray 43 (0, 0)) := by
    rw [hW0, zero_cells]
    have := heap_alloc_new (((w.alloc (.cells #[.int .i64 l] 3)).alloc (.cells #[.slice A k c] 55)).alloc (.cells (u8s m).toArray 43)) (Obj.cells (Array.replicate 16 (Value.int .u8 0)) 43)
    simpa using this
  have hkb : ((k : Int) != 68) = true := by simp; omega
  have Q1 := q1.cell
  have Q2 := q2.cell
  have CR := Lib.hid hf
  have B0 := Lib.hid b0
  have HZ := Lib.hid q5
  clear q1 q2 q3 q4 q5 b0 hf
  go_enter Tryd.func48, Tryd.ntmps48
  go_wp2_with fail
  change Calls _ _ _ ((((w.alloc (.cells #[.int .i64 l] 3)).alloc (.cells #[.slice A k c] 55)).alloc (.cells (u8s m).toArray 43)).alloc (Obj.cells (Array.replicate 16 (Value.int .u8 0)) 43)) _
  rw [← hW0]
  clear hW0
  refine (right_in l h0 h1 W0).mono ?_
  rintro e w1 ⟨rfl, rfl⟩
  go_wp2_with fail
  refine wp_region_rely3 (by kernel_rfl) 3 (by kernel_rfl) (by kernel_rfl) (EZ w.heap.size (w.heap.size + 3)) (EZ.refl _ _) EZ.trans (fun ix => match ix with
    | 0 => fun _ v => v = .agg (u8s zero16).toArray
    | 1 => fun _ v => v = errV aF
    | 2 => fun _ v => v = undef
    | _ => fun _ _ => False) ?_
  simp (maxSteps := 10000000) only [Rely, List.take_succ_cons, List.take_zero, List.drop_succ_cons, List.drop_zero, Nat.reduceAdd, Nat.zero_add, Act.put, List.setIfInBounds_toArray, List.set_cons_succ, List.set_cons_zero]
  refine ⟨?_, ?_, ?_, ?_⟩
  · refine step_plain rfl fun vs wq hE hd => ?_
    exact gives_val (.agg (u8s zero16).toArray) (w' := wq) (by rw [zero_cells]; go_simp; rfl) ⟨EZ.refl _ _ _, fun _ _ => rfl⟩
  · refine step_plain rfl fun vs wq hE hd => ?_
    have hc := ez_cell B0.out hE CR.out
    exact gives_loadAt 57 _ rfl (.pointer (some ⟨0, 0, none⟩)) (errV aF) rfl (by go_simp) ⟨EZ.refl _ _ _, fun _ _ => rfl⟩
  · refine step_plain rfl fun vs wq hE hd => ?_
    refine gives_store_row 43 _ _ rfl (w.heap.size + 3) rfl (u8s zero16) (hd.1) 43 ⟨_, by rw [List.size_toArray], hE.2 HZ.out⟩ (hi43 _ zero16_len) (one_u8s _) fun w3 hp3 => ⟨⟨hp3.below (Below.refl _ _) (by omega), fun _ => hp3.blk⟩, fun _ _ => rfl⟩
  · intro vs w2 hE hR
    have h1 : vs 1 = errV aF := hR 1 (by omega)
    rw [h1]
    have HB2 := Lib.hid (B0.out.drew.trans hE.1)
    have HZ2 := Lib.hid (hE.2 HZ.out)
    clear hR hE h1
    go_wp2_with fail
    refine bodyPost_ret (v := .tuple #[.agg (u8s zero16).toArray, errV aF]) (results_cell_row_tmp rfl _ _ (w.heap.size + 3) 43 _ (0, 0) _ rfl HZ2.out Tryd.underlying43 rfl (by simpa using hi43 _ zero16_len) rfl) rfl ⟨rfl, HB2.out⟩
end Go.Proofs.YtdedphhohiioiaaDoor
/- What the reference's Sign does; chains.Sign for a leaf that there is not. -/
namespace Go.Proofs.YtdedphhohiioiaaDoor
open Go.RowKit

set_option maxHeartbeats 4000000 in
set_option maxRecDepth 100000 in
theorem refSign_any (x : List Int) (hl : x.length = 16) (hx : u8s_ok x) (l : Int) (m : List Int) (hlm : m.length = 16) (hm : u8s_ok m) (w : World) :
    Calls Tryd.prog 57 #[.agg (u8s x).toArray, .int .i64 l, .agg (u8s m).toArray] w fun e w' => ∃ v, e = .returned v ∧ w'.ownsRow w.heap.size 43 16 v 68 (dcells (sigC l x m 68)) ∧ Below w.heap.size w w' := by
  have hi43 : ∀ V : List Int, V.length = 16 → (Tryd.prog.info? 43).map (·.size) = some (u8s V).length := fun V h => by rw [u8s_len', h]; exact Tryd.size43
  obtain ⟨W0, hW0⟩ : ∃ W0, W0 = ((w.alloc (.cells (u8s x).toArray 43)).alloc (.cells (u8s m).toArray 43)).alloc (.cells #[] 43) := ⟨_, rfl⟩
  have q0 : W0.rangeAt w.heap.size 0 (u8s x) := by
    rw [hW0]
    exact World.rangeAt_alloc (World.rangeAt_alloc (range_new w (u8s x) 43) _) _
  have q1 : W0.rangeAt (w.heap.size + 1) 0 (u8s m) := by
    rw [hW0]
    have := World.rangeAt_alloc (range_new (w.alloc (.cells (u8s x).toArray 43)) (u8s m) 43) (.cells #[] 43)
    rwa [World.size_alloc] at this
  have q2 : W0.ownsRow (w.heap.size + 2) 43 16 (.slice (some ⟨w.heap.size + 1 + 1, 0, none⟩) 0 0) 0 (dcells (sigC l x m 0)) := by
    rw [hW0]
    have := World.ownsRow_made (base := w.heap.size + 2) (size := 16) (e := 43) ((w.alloc (.cells (u8s x).toArray 43)).alloc (.cells (u8s m).toArray 43)) #[] 0 (by simp) (by simp) rfl
    rw [World.size_alloc, World.size_alloc] at this
    exact this
  have b0 : Below w.heap.size w W0 := by rw [hW0]; exact (((Below.refl _ _).alloc (Nat.le_refl _) _).alloc (by simp) _).alloc (by simp; omega) _
  have HL := Lib.hid hl
  have HX := Lib.hid hx
  have HLM := Lib.hid hlm
  have HM := Lib.hid hm
  have Q0 := Lib.hid q0
  have Q1 := Lib.hid q1
  have OW := Lib.hid q2
  have B0 := Lib.hid b0
  clear hl hx hlm hm q0 q1 b0 q2
  go_enter Tryd.func57, Tryd.ntmps57
  go_wp2_with (refine wpList_load_g rfl 43 (.tmp 5) rfl (w.heap.size + 1) 0 rfl (u8s m) _ (by subst hW0; exact Q1.out) Tryd.underlying43 rfl (hi43 m HLM.out) ?_)
  change Calls _ _ _ (((w.alloc (.cells (u8s x).toArray 43)).alloc (.cells (u8s m).toArray 43)).alloc (.cells #[] 43)) _
  rw [← hW0]
  have hz0 : W0.heap.size = w.heap.size + 3 := by rw [hW0]; simp
  clear hW0
  refine (refDigits_any m HLM.out HM.out W0).mono ?_
  rintro e w2 ⟨dv, rfl, hdown, hb2⟩
  obtain ⟨db, doff, dc, hde, hdc1, hdc2, hdcell⟩ := Row.of_own hdown (by omega)
  have hdl : (digits m).length = 68 := by
    have := hdown.1
    simpa [i64s] using this
  have hil : (i64s (digits m)).length = 68 := by simp [i64s, hdl]
  rw [hil] at hde
  subst hde
  have Q2 := Lib.hid (range_below Q0.out hb2)
  have B2 := Lib.hid (B0.out.trans (hb2.mono B0.out.size))
  have hz2 : w.heap.size + 2 ≤ w2.heap.size := by have := hb2.size; omega
  have OW2 := Lib.hid (own_bel OW.out hb2)
  have HD : Hid (∀ U : World, U.heap[db]? = w2.heap[db]? → ∀ j : Nat, j < 68 → U.cell? ⟨db, doff + j, none⟩ = some (.int .i64 ((digits m).getD j 0))) := Lib.hid fun U hU j hj => by
    have hc := hdcell j (.int .i64 ((digits m).getD j 0)) (by simp [i64s, List.getD_eq_getElem?_getD, List.getElem?_eq_getElem (show j < (digits m).length by omega)])
    rw [World.cell?_of_block (a := ⟨db, doff + j, none⟩) hU]
    exact hc
  obtain ⟨cn, hcur⟩ : ∃ cs, w2.heap[db]? = some (.cells cs 3 (0, 0)) := by
    rcases hdown.2 with ⟨e, h0⟩ | ⟨g, cap, cur, e, hb, hg, _⟩
    · cases e
    · simp only [Value.slice.injEq, Option.some.injEq, Addr.mk.injEq] at e
      obtain ⟨⟨rfl, -, -⟩, -, -⟩ := e
      exact ⟨_, hg⟩
  have HCUR := Lib.hid hcur
  clear hdown hb2 hdcell hdl hil Q0 Q1 B0 hdc1 hdc2 OW hcur hz0
  go_wp2_with fail
  obtain ⟨i0, hi, hzz⟩ := Option.map_eq_some_iff.1 Tryd.info43
  go_loopw [7, 14] (fun v k wr => ∃ (i : Nat), i ≤ 68 ∧ k = .int .i64 i ∧ Hid (wr.ownsRow (w.heap.size + 2) 43 16 v i (dcells (sigC l x m i))) ∧ Hid (Below (w.heap.size + 2) w2 wr) ∧ Hid (wr.heap[db]? = some (.cells cn 3 (0, 0))))
    (fun _ k _ => 68 - (intOf k).toNat)
  case atStart => exact ⟨0, by omega, rfl, OW2, Lib.hid (Below.refl _ _), HCUR⟩
  case round =>
    obtain ⟨i, hi68, rfl, hown, hbel, hcur⟩ := hrel
    have hwz : w.heap.size + 2 ≤ wr.heap.size := by have := hbel.out.size; omega
    by_cases hlt : i < 68
    · have hcd := HD.out wr (hcur.out.trans HCUR.out.symm) i hlt
      have hra : wr.rangeAt w.heap.size 0 (u8s x) := fun j v hv => (hbel.out.cell (p := ⟨w.heap.size, 0 + j, none⟩) (show w.heap.size < w.heap.size + 2 by omega)).trans (Q2.out j v hv)
      have RA := Lib.hid hra
      have hil : (i : Int) < 68 := by omega
      obtain ⟨dj, hdj⟩ : ∃ d, d = (digits m).getD i 0 := ⟨_, rfl⟩
      have hdd := digit_in m i
      obtain ⟨SE, hSE⟩ : ∃ s, s = secretC l i x := ⟨_, rfl⟩
      have hsg := secret_good l i x
      obtain ⟨R, hR⟩ : ∃ r, r = runC l i SE 0 dj := ⟨_, rfl⟩
      have hRl : R.length = 16 := by rw [hR, hSE]; exact (runC_good l i _ 0 dj hsg.1 hsg.2).1
      have hsig : sigC l x m (i + 1) = sigC l x m i ++ [R] := by rw [sigC_succ, sigAt, ← hdj, ← hSE, ← hR]
      have hrw : walkC l i SE (0 : Nat) dj.toNat = R := by
        rw [hR]
        show _ = walkC l i SE (max (0 : Int) 0).toNat (min dj 3).toNat
        rw [show min dj 3 = dj by omega]
        rfl
      rw [← hSE] at hsg
      rw [← hdj] at hcd hdd
      have HSE := Lib.hid hSE
      have HSG := Lib.hid hsg
      have HSIG := Lib.hid hsig
      have HRL := Lib.hid hRl
      have HRW := Lib.hid hrw
      have hdj1 : dj ≤ 1000 := by omega
      clear hra hdj hdd hSE hsg hR hsig hRl hrw
      go_wp2_with (refine wpList_load_g rfl 43 (.tmp 3) rfl w.heap.size 0 rfl (u8s x) _ RA.out Tryd.underlying43 rfl (hi43 x HL.out) ?_)
      refine (refSecret_any x HL.out HX.out l i wr).mono ?_
      rintro e w3 ⟨rfl, hb3⟩
      rw [show short 1 [x, [l % 256], [(i : Int) % 256]] = SE by rw [HSE.out]; rfl]
      go_wp2_with fail
      refine (refRun_any SE HSG.out.1 HSG.out.2 l i 0 dj hdj1 w3).mono ?_
      rintro e w4 ⟨rfl, hb4⟩
      rw [HRW.out]
      have hb34 : Below wr.heap.size wr w4 := hb3.trans (hb4.mono hb3.size)
      have OW4 := Lib.hid (own_bel hown.out hb34)
      have CU4 := Lib.hid (blk_below hcur.out hb34)
      have L4 := Lib.hid (hbel.out.trans (hb34.mono hwz))
      have hwz4 : w.heap.size + 2 ≤ w4.heap.size := Nat.le_trans hwz hb34.size
      clear hb34 hb3 hb4 hown hbel hcur hcd RA
      go_wp2_with (first | (refine wpList_build_run rfl 55 1 _ rfl #[(0, .agg (u8s R).toArray)] (by simp only [List.map_toArray, List.map_cons, List.map_nil]; rfl) _ (build55 R HRL.out w4) ?_) | (at_builtin; refine appN (w0 := w4) (w.heap.size + 2) rfl (.tmp 19) (.tmp 28) 55 43 (.agg (Array.replicate 16 (.int .u8 0))) 16 16 rfl Tryd.underlying55 Tryd.info43 rfl (by omega) (by omega) _ i _ rfl ⟨w4.heap.size, 0, none⟩ 1 1 (u8s R) rfl (by rw [u8s_len', HRL.out]) (fun j u hu => by rw [show (⟨w4.heap.size, 0, none⟩ : Addr).add j = ⟨w4.heap.size, 0 + j, none⟩ by unfold Addr.add; split <;> simp_all]; exact range_new w4 (u8s R) 43 j u hu) (one_u8s _) (OW4.out.alloc _) ((Below.refl _ _).alloc hwz4 _) (by simp; omega) (by omega) ?_; intro v5 w5 ap5; have AP5 := Lib.hid ap5; clear ap5))
      have own5 : w5.ownsRow (w.heap.size + 2) 43 16 v5 (i + 1) (dcells (sigC l x m (i + 1))) := by
        rw [HSIG.out, dcells_append, show dcells [R] = u8s R by simp [dcells]]
        exact AP5.out.own
      have cu5 : w5.heap[db]? = some (.cells cn 3 (0, 0)) := AP5.out.blk ((Below.heap_alloc w4 _ _ (blk_lt CU4.out)).trans CU4.out) (own_not OW4.out CU4.out (by decide))
      go_roundw
      case rel => exact ⟨i + 1, by omega, by go_num, Lib.hid own5, Lib.hid (L4.out.trans AP5.out.below), Lib.hid cu5⟩
      case measure => simp [intOf]; omega
    · obtain rfl : i = 68 := by omega
      go_wp2
      go_ret
      exact ⟨_, rfl, ownsRow_mono hown.out (by omega), B2.out.trans (hbel.out.mono (by omega))⟩

set_option maxHeartbeats 4000000 in
set_option maxRecDepth 100000 in
theorem sign_bad (x m : List Int) (l : Int) (hbad : ¬ (0 ≤ l ∧ l < 32)) (aR : Addr) (w : World) (hr : w.cell? ⟨1, 0, none⟩ = some (errV aR)) :
    Calls Tryd.prog 47 #[.agg (u8s x).toArray, .int .i64 l, .agg (u8s m).toArray] w fun e w' => e = .returned (.tuple #[.slice none 0 0, errV aR]) ∧ Below w.heap.size w w' := by
  obtain ⟨W0, hW0⟩ : ∃ W0, W0 = (w.alloc (.cells (u8s x).toArray 43)).alloc (.cells (u8s m).toArray 43) := ⟨_, rfl⟩
  have b0 : Below w.heap.size w W0 := by rw [hW0]; exact ((Below.refl _ _).alloc (Nat.le_refl _) _).alloc (by simp) _
  have hc := cell_on b0 hr
  have B0 := Lib.hid b0
  clear b0 hr
  go_enter Tryd.func47, Tryd.ntmps47
  go_wp2_with fail
  change Calls _ _ _ ((w.alloc (.cells (u8s x).toArray 43)).alloc (.cells (u8s m).toArray 43)) _
  rw [← hW0]
  clear hW0
  refine (right_any l W0).mono ?_
  rintro e w1 ⟨rfl, rfl⟩
  rw [decide_eq_false hbad]
  go_wp2
  go_quiet (fail)
  go_wp2
  go_ret2
  exact ⟨rfl, B0.out.trans ⟨rfl, rfl, rfl, Nat.le_refl _, fun _ _ => rfl⟩⟩
end Go.Proofs.YtdedphhohiioiaaDoor
/- ChainsRecovers: what the law does. -/
namespace Go.Proofs.YtdedphhohiioiaaDoor
open Go.RowKit Go.Shelf

theorem zero_ok : u8s_ok zero16 := fun b hb => by rw [List.eq_of_mem_replicate hb]; unfold B8; omega
theorem sen_at {w : World} {al : List Addr} (h : SenN w al) (k : Nat) (hk : k < 18) : ∃ a, al[k]? = some a := ⟨_, List.getElem?_eq_getElem (by rw [h.len]; exact hk)⟩
theorem num_k {w : World} {al : List Addr} (h : SenN w al) (k : Nat) (a : Addr) (hk : al[k]? = some a) (z : Int) (hz : z = (k : Int) + 1) : Calls Tryd.prog 45 #[errV a] w fun e w' => e = .returned (.int .i64 z) ∧ Below w.heap.size w w' := by
  rw [hz]
  exact num_err al k a w h hk
theorem wpList_eql43 {ops : Array Oper} {rest : List Oper} {o : Oper} {a : Act} {w : World} {Q : Exit → Act → World → Prop} (hw : Region.wanted o (yielded ops a.tmps) = true) (x y : Operand) (t2 : TypeId) (ho : o.op = .binOp .eql 43 x y t2) (xs ys : List Int) (hx : a.eval x = .agg (u8s xs).toArray) (hy : a.eval y = .agg (u8s ys).toArray)
    (hl1 : xs.length = 16) (hl2 : ys.length = 16) (hg : (eqGuard .eql 43 x y (.agg (u8s xs).toArray) (.agg (u8s ys).toArray)).run Tryd.prog w = .ok () w) (h : wpList Tryd.prog ops Q rest (a.put o.dst (.bool (decide (xs = ys)))) w) : wpList Tryd.prog ops Q (o :: rest) a w := by
  refine wpList_step fun K hK => ?_
  rw [if_pos hw]
  unfold Oper.wp execOp
  simp only [ho, hx, hy, Sem.run_bind, hg, run_eql_bytes 43 5 16 xs ys Tryd.underlying43 Tryd.underlying5 (by kernel_rfl) hl1 hl2, Result.andThen_ok, Sem.run_pure]
  exact hK _ _ h

set_option maxHeartbeats 8000000 in
set_option maxRecDepth 100000 in
theorem chainsRecovers_any (l : Int) (A : Option Addr) (k c : Nat) (ds : List (List Int)) (m : List Int) (al : List Addr) (w : World) (hd : Dgs w (.slice A k c) ds) (hkl : k = ds.length) (hlm : m.length = 16) (hm : u8s_ok m) (hS : SenN w al) (hk : w.rangeAt 18 0 (u32s kk)) (h18 : 18 < w.heap.size) :
    Calls Tryd.prog 17 #[.int .i64 l, .slice A k c, .agg (u8s m).toArray] w fun e w' => e = .returned (.bool true) ∧ Below w.heap.size w w' := by
  have hi43 : ∀ V : List Int, V.length = 16 → (Tryd.prog.info? 43).map (·.size) = some (u8s V).length := fun V h => by rw [u8s_len', h]; exact Tryd.size43
  obtain ⟨W0, hW0⟩ : ∃ W0, W0 = w.alloc (.cells (u8s m).toArray 43) := ⟨_, rfl⟩
  have b0 : Below w.heap.size w W0 := by rw [hW0]; exact (Below.refl _ _).alloc (Nat.le_refl _) _
  have q0 : W0.rangeAt w.heap.size 0 (u8s m) := by rw [hW0]; exact range_new w (u8s m) 43
  have B0 := Lib.hid b0
  have Q0 := Lib.hid q0
  have HD := Lib.hid hd
  have HKL := Lib.hid hkl
  have HLM := Lib.hid hlm
  have HM := Lib.hid hm
  have HS := Lib.hid hS
  have HK := Lib.hid hk
  clear b0 q0 hd hkl hlm hm hS hk
  go_enter Tryd.func17, Tryd.ntmps17
  go_wp2_with fail
  change Calls _ _ _ (w.alloc (.cells (u8s m).toArray 43)) _
  rw [← hW0]
  clear hW0
  refine (alive_chains W0).mono ?_
  rintro e w1 ⟨rfl, hb1⟩
  have B1 := Lib.hid (B0.out.trans (hb1.mono B0.out.size))
  have R1 := Lib.hid (range_below Q0.out hb1)
  clear hb1 B0 Q0
  by_cases h100 : 100 < k
  · have hki : (100 : Int) < k := by omega
    go_wp2_with fail
    go_ret
    exact ⟨rfl, B1.out⟩
  have hki : ¬ (100 : Int) < k := by omega
  have D1 := Lib.hid (HD.out.below B1.out)
  have S1 := Lib.hid (HS.out.below B1.out)
  have K1 := Lib.hid (range_below HK.out B1.out)
  have h181 : 18 < w1.heap.size := Nat.lt_of_lt_of_le h18 B1.out.size
  by_cases hr : 0 ≤ l ∧ l < 32
  · obtain ⟨h0, h1⟩ := hr
    have hn0 : ¬ l < 0 := by omega
    have hn1 : ¬ (31 : Int) < l := by omega
    by_cases hk68 : k = 68
    · subst hk68
      go_wp2_with (refine wpList_load_g rfl 43 (.tmp 5) rfl w.heap.size 0 rfl (u8s m) _ R1.out Tryd.underlying43 rfl (hi43 m HLM.out) ?_)
      refine (recover_ok l A 68 c ds m w1 h0 h1 (fun W h => D1.out.below h) HKL.out rfl HLM.out HM.out K1.out h181).mono ?_
      rintro e w2 ⟨rfl, hb2⟩
      obtain ⟨ST, hST⟩ : ∃ s, s = publicC l (recE l ds m 68) := ⟨_, rfl⟩
      have hsl : ST.length = 16 := by rw [hST]; exact (publicC_good _ _).1
      rw [← hST]
      have HST := Lib.hid hST
      have HSL := Lib.hid hsl
      have HHN := Lib.hid (has_new w2 (Array.replicate 16 (Value.int .u8 0)) 43 (u8s ST).length (by rw [u8s_len', hsl]; rfl))
      have B2 := Lib.hid (B1.out.trans (hb2.mono B1.out.size))
      have R2 := Lib.hid (range_below R1.out hb2)
      have D2 := Lib.hid (D1.out.below hb2)
      clear hST hsl hb2
      go_wp2_with (refine wpList_store_row rfl 43 (.tmp 7) (.tmp 19) rfl w2.heap.size rfl (u8s ST) rfl 43 HHN.out (hi43 ST HSL.out) (one_u8s _) ?_; intro w3 hp3; have L3 : Below w2.heap.size w2 w3 := (hp3.below ((Below.refl _ _).alloc (Nat.le_refl _) _) (Nat.le_refl _)); have RS := Lib.hid (blk_range hp3.blk); have B3 := Lib.hid (B2.out.trans (L3.mono B2.out.size)); have R3 := Lib.hid (range_below R2.out L3); have D3 := Lib.hid (D2.out.below L3); clear hp3 L3)
      refine wp_region_rely (by kernel_rfl) 10 (by kernel_rfl) (by kernel_rfl) Ext Ext.refl Ext.trans (fun ix => match ix with
        | 0 => fun _ v => v = .nilIface
        | 1 => fun _ v => v = .bool true
        | 2 => fun _ v => v = .bool true
        | 3 => fun _ v => v = .agg (u8s ST).toArray
        | 4 => fun _ v => v = .int .i64 l
        | 5 => fun _ v => v = .slice A 68 c
        | 6 => fun _ v => v = .agg (u8s m).toArray
        | 7 => fun _ v => v = .agg (u8s ST).toArray
        | 8 => fun _ v => v = .bool true
        | 9 => fun _ v => v = .bool true
        | _ => fun _ _ => False) ?_
      simp (maxSteps := 10000000) only [Rely, List.take_succ_cons, List.take_zero, List.drop_succ_cons, List.drop_zero, Nat.reduceAdd, Nat.zero_add, Act.put, List.setIfInBounds_toArray, List.set_cons_succ, List.set_cons_zero]
      refine ⟨?_, ?_, ?_, ?_, ?_, ?_, ?_, ?_, ?_, ?_, ?_⟩
      · refine step_plain rfl fun vs wq hE hd => ?_
        exact gives_move _ (.nilIface) (.inl rfl) rfl ⟨Ext.refl _, fun _ _ => rfl⟩
      · refine step_plain rfl fun vs wq hE hd => ?_
        exact gives_binOp .eql 57 _ _ _ rfl (.nilIface) (Value.nilIface) (.bool true) (show vs 0 = _ from hd.1) rfl (by go_simp) (by go_simp) ⟨Ext.refl _, fun _ _ => rfl⟩
      · refine step_plain rfl fun vs wq hE hd => ?_
        exact gives_move _ (.bool true) (.inl rfl) (show vs 1 = _ from hd.1) ⟨Ext.refl _, fun _ _ => rfl⟩
      · refine step_guard 2 true 50 rfl rfl (fun _ => rfl) fun vs wq hE hd => ⟨hd.1, ?_⟩
        exact gives_load_row 43 _ rfl w2.heap.size 0 rfl (u8s ST) _ (range_below RS.out (ext_of_drew hE)) Tryd.underlying43 rfl (hi43 ST HSL.out) ⟨Ext.refl _, fun _ _ => rfl⟩
      · refine step_guard 2 true 50 rfl rfl (fun _ => rfl) fun vs wq hE hd => ⟨hd.1, ?_⟩
        exact gives_move _ (.int .i64 l) (.inl rfl) rfl ⟨Ext.refl _, fun _ _ => rfl⟩
      · refine step_guard 2 true 50 rfl rfl (fun _ => rfl) fun vs wq hE hd => ⟨hd.1, ?_⟩
        exact gives_move _ (.slice A 68 c) (.inl rfl) rfl ⟨Ext.refl _, fun _ _ => rfl⟩
      · refine step_guard 2 true 50 rfl rfl (fun _ => rfl) fun vs wq hE hd => ⟨hd.1, ?_⟩
        exact gives_load_row 43 _ rfl w.heap.size 0 rfl (u8s m) _ (range_below R3.out (ext_of_drew hE)) Tryd.underlying43 rfl (hi43 m HLM.out) ⟨Ext.refl _, fun _ _ => rfl⟩
      · refine step_guard 2 true 50 rfl rfl (fun _ => rfl) fun vs wq hE hd => ⟨hd.2.2.2.1, ?_⟩
        refine gives_call 55 (enters_of Tryd.func55 (by kernel_rfl) rfl) _ _ rfl rfl [.int .i64 l, .slice A 68 c, .agg (u8s m).toArray] ?_ ?_
        · show [vs 4, vs 5, vs 6] = _
          rw [show vs 4 = _ from (hd.1), show vs 5 = _ from (hd.2.1), show vs 6 = _ from (hd.2.2.1)]
        · refine (refRecover_any l A 68 c ds m wq (D3.out.below (ext_of_drew hE)) HKL.out rfl HLM.out HM.out).mono ?_
          rintro _ w'' ⟨rfl, hb⟩
          exact ⟨_, rfl, hb, fun _ _ => by rw [HST.out]; rfl⟩
      · refine step_guard 2 true 50 rfl rfl (fun _ => rfl) fun vs wq hE hd => ⟨hd.2.2.1, ?_⟩
        have hsame := run_same16 ST HSL.out
        exact gives_binOp .eql 43 _ _ _ rfl (.agg (u8s ST).toArray) (.agg (u8s ST).toArray) (.bool true) (show vs 3 = _ from (hd.1)) (show vs 7 = _ from (hd.2.1)) (by go_simp) (by go_simp) ⟨Ext.refl _, fun _ _ => rfl⟩
      · refine step_plain rfl fun vs wq hE hd => ?_
        exact gives_pick _ _ _ (.bool true) true rfl (show vs 2 = _ from hd.1) (show vs 8 = _ from hd.2.1) ⟨Ext.refl _, fun _ _ => rfl⟩
      · intro vs wz hE hR
        have h9 : vs 9 = .bool true := hR 9 (by omega)
        have hb : Below w.heap.size w wz := B3.out.trans ((ext_of_drew hE).mono B3.out.size)
        have HB := Lib.hid hb
        rw [h9]
        clear hR hE h9 hb
        go_wp2
        go_ret
        exact ⟨rfl, HB.out⟩
    · have hkne : ((k : Int) != 68) = true := by simp; omega
      obtain ⟨aE, haE⟩ := sen_at S1.out 3 (by omega)
      have hcE := S1.out.cell 3 0 aE rfl haE
      go_wp2_with (refine wpList_load_g rfl 43 (.tmp 5) rfl w.heap.size 0 rfl (u8s m) _ R1.out Tryd.underlying43 rfl (hi43 m HLM.out) ?_)
      refine (recover_form l A k c m aE w1 h0 h1 hk68 hcE).mono ?_
      rintro e w2 ⟨rfl, hb2⟩
      have HAE := Lib.hid haE
      have HHN := Lib.hid (has_new w2 (Array.replicate 16 (Value.int .u8 0)) 43 (u8s zero16).length (by rw [u8s_len', zero16_len]; rfl))
      have B2 := Lib.hid (B1.out.trans (hb2.mono B1.out.size))
      have S2 := Lib.hid (S1.out.below hb2)
      clear hb2 haE hcE
      go_wp2_with (first | (refine wpList_store_row rfl 43 (.tmp 7) (.tmp 19) rfl w2.heap.size rfl (u8s zero16) rfl 43 HHN.out (hi43 zero16 zero16_len) (one_u8s _) ?_; intro w3 hp3; have L3 : Below w2.heap.size w2 w3 := (hp3.below ((Below.refl _ _).alloc (Nat.le_refl _) _) (Nat.le_refl _)); have RS := Lib.hid (blk_range hp3.blk); have B3 := Lib.hid (B2.out.trans (L3.mono B2.out.size)); have S3 := Lib.hid (S2.out.below L3); clear hp3 L3) | (refine wpList_load_g rfl 43 (.tmp 7) rfl w2.heap.size 0 rfl (u8s zero16) _ RS.out Tryd.underlying43 rfl (hi43 _ zero16_len) ?_) | (refine wpList_eql43 rfl _ _ _ rfl zero16 zero16 rfl rfl zero16_len zero16_len (by go_simp) ?_; rw [decide_eq_true rfl]))
      refine (num_k S3.out 3 aE HAE.out 4 rfl).mono ?_
      rintro e w4 ⟨rfl, hb4⟩
      have B4 := Lib.hid (B3.out.trans (hb4.mono B3.out.size))
      clear hb4
      go_wp2_with fail
      go_ret
      exact ⟨rfl, B4.out⟩
  · by_cases hneg : l < 0
    · obtain ⟨aE, haE⟩ := sen_at S1.out 0 (by omega)
      have hcE := S1.out.cell 0 1 aE rfl haE
      go_wp2_with (refine wpList_load_g rfl 43 (.tmp 5) rfl w.heap.size 0 rfl (u8s m) _ R1.out Tryd.underlying43 rfl (hi43 m HLM.out) ?_)
      refine (recover_range l A k c m aE w1 hr hcE).mono ?_
      rintro e w2 ⟨rfl, hb2⟩
      have HAE := Lib.hid haE
      have HHN := Lib.hid (has_new w2 (Array.replicate 16 (Value.int .u8 0)) 43 (u8s zero16).length (by rw [u8s_len', zero16_len]; rfl))
      have B2 := Lib.hid (B1.out.trans (hb2.mono B1.out.size))
      have S2 := Lib.hid (S1.out.below hb2)
      clear hb2 haE hcE
      go_wp2_with (first | (refine wpList_store_row rfl 43 (.tmp 7) (.tmp 19) rfl w2.heap.size rfl (u8s zero16) rfl 43 HHN.out (hi43 zero16 zero16_len) (one_u8s _) ?_; intro w3 hp3; have L3 : Below w2.heap.size w2 w3 := (hp3.below ((Below.refl _ _).alloc (Nat.le_refl _) _) (Nat.le_refl _)); have RS := Lib.hid (blk_range hp3.blk); have B3 := Lib.hid (B2.out.trans (L3.mono B2.out.size)); have S3 := Lib.hid (S2.out.below L3); clear hp3 L3) | (refine wpList_load_g rfl 43 (.tmp 7) rfl w2.heap.size 0 rfl (u8s zero16) _ RS.out Tryd.underlying43 rfl (hi43 _ zero16_len) ?_) | (refine wpList_eql43 rfl _ _ _ rfl zero16 zero16 rfl rfl zero16_len zero16_len (by go_simp) ?_; rw [decide_eq_true rfl]))
      refine (num_k S3.out 0 aE HAE.out 1 rfl).mono ?_
      rintro e w4 ⟨rfl, hb4⟩
      have B4 := Lib.hid (B3.out.trans (hb4.mono B3.out.size))
      clear hb4
      go_wp2_with fail
      go_ret
      exact ⟨rfl, B4.out⟩
    · have hbig : (31 : Int) < l := by omega
      obtain ⟨aE, haE⟩ := sen_at S1.out 0 (by omega)
      have hcE := S1.out.cell 0 1 aE rfl haE
      go_wp2_with (refine wpList_load_g rfl 43 (.tmp 5) rfl w.heap.size 0 rfl (u8s m) _ R1.out Tryd.underlying43 rfl (hi43 m HLM.out) ?_)
      refine (recover_range l A k c m aE w1 hr hcE).mono ?_
      rintro e w2 ⟨rfl, hb2⟩
      have HAE := Lib.hid haE
      have HHN := Lib.hid (has_new w2 (Array.replicate 16 (Value.int .u8 0)) 43 (u8s zero16).length (by rw [u8s_len', zero16_len]; rfl))
      have B2 := Lib.hid (B1.out.trans (hb2.mono B1.out.size))
      have S2 := Lib.hid (S1.out.below hb2)
      clear hb2 haE hcE
      go_wp2_with (first | (refine wpList_store_row rfl 43 (.tmp 7) (.tmp 19) rfl w2.heap.size rfl (u8s zero16) rfl 43 HHN.out (hi43 zero16 zero16_len) (one_u8s _) ?_; intro w3 hp3; have L3 : Below w2.heap.size w2 w3 := (hp3.below ((Below.refl _ _).alloc (Nat.le_refl _) _) (Nat.le_refl _)); have RS := Lib.hid (blk_range hp3.blk); have B3 := Lib.hid (B2.out.trans (L3.mono B2.out.size)); have S3 := Lib.hid (S2.out.below L3); clear hp3 L3) | (refine wpList_load_g rfl 43 (.tmp 7) rfl w2.heap.size 0 rfl (u8s zero16) _ RS.out Tryd.underlying43 rfl (hi43 _ zero16_len) ?_) | (refine wpList_eql43 rfl _ _ _ rfl zero16 zero16 rfl rfl zero16_len zero16_len (by go_simp) ?_; rw [decide_eq_true rfl]))
      refine (num_k S3.out 0 aE HAE.out 1 rfl).mono ?_
      rintro e w4 ⟨rfl, hb4⟩
      have B4 := Lib.hid (B3.out.trans (hb4.mono B3.out.size))
      clear hb4
      go_wp2_with fail
      go_ret
      exact ⟨rfl, B4.out⟩
end Go.Proofs.YtdedphhohiioiaaDoor
