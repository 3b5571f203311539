/- Lemmas that laws of this seat rest on, part 6; each says its own conditions: Sign, ChAlive, ChainsGoW, Ends, RefDig, RefPub, Rely2. -/
import Derived.Deep.QuietTactic
import Derived.BigQuiet
import Derived.Test.YtdedphhohiioiaaDoorBase3
import Derived.Test.YtdedphhohiioiaaDoorBase5
/- What Sign of the chains does, for a leaf that there is. -/
namespace Go.Proofs.YtdedphhohiioiaaDoor
open Go.RowKit

def dcells (ds : List (List Int)) : List Value := ds.flatMap u8s
theorem dcells_append (a b : List (List Int)) : dcells (a ++ b) = dcells a ++ dcells b := by simp [dcells]
theorem dcells_at (ds : List (List Int)) (h : ∀ d ∈ ds, d.length = 16) (i j : Nat) (hi : i < ds.length) (hj : j < 16) : (dcells ds)[i * 16 + j]? = (u8s (ds.getD i []))[j]? := by
  induction ds generalizing i with
  | nil => simp at hi
  | cons d ds ih =>
    have hd : (u8s d).length = 16 := by rw [u8s_len', h d (by simp)]
    rw [show dcells (d :: ds) = u8s d ++ dcells ds by simp [dcells]]
    cases i with
    | zero => rw [Nat.zero_mul, Nat.zero_add, List.getElem?_append_left (by omega)]; rfl
    | succ i =>
      rw [List.getElem?_append_right (by omega), hd, show (i + 1) * 16 + j - 16 = i * 16 + j by omega, ih (fun d hd => h d (by simp [hd])) i (by simpa using hi)]
      rfl
theorem Dgs.of_own {w : World} {base : Nat} {v : Value} {n : Nat} {ds : List (List Int)} (h : w.ownsRow base 43 16 v n (dcells ds)) (hn : n = ds.length) (hg : ∀ d ∈ ds, d.length = 16 ∧ u8s_ok d) : Dgs w v ds := by
  have hcells := @World.ownsRow.cells w base 43 16 v n (dcells ds) h
  have hlt := h.lt
  obtain ⟨_, h2⟩ := h
  rcases h2 with ⟨rfl, rfl⟩ | ⟨g, cap, cur, rfl, e1, e2, e3, e4, _, _⟩
  · cases ds with
    | nil => exact ⟨⟨_, _, rfl⟩, fun h => absurd rfl h, hg⟩
    | cons => simp at hn
  · subst hn
    refine ⟨⟨_, _, rfl⟩, fun _ => ⟨g, 0, cap, rfl, e3, e4, blk_lt e2, fun i hi j u hu => ?_⟩, hg⟩
    have hj : j < 16 := by
      have := (List.getElem?_eq_some_iff.1 hu).1
      rw [u8s_len', List.getD_eq_getElem?_getD, List.getElem?_eq_getElem hi] at this
      simpa [(hg _ (List.getElem_mem hi)).1] using this
    have := hcells rfl (i * 16 + j) u (by rw [dcells_at ds (fun d hd => (hg d hd).1) i j hi hj]; exact hu)
    rw [show (⟨g, 0, none⟩ : Addr).add (i * 16 + j) = ⟨g, 0 + i * 16 + j, none⟩ by unfold Addr.add; split <;> simp_all] at this
    exact this
theorem build55 (R : List Int) (h : R.length = 16) (w : World) : (Instr.buildSlice 55 1 #[(0, .agg (u8s R).toArray)]).run Tryd.prog w = .ok (.slice (some ⟨w.heap.size, 0, none⟩) 1 1) (w.alloc (.cells (u8s R).toArray 43)) := by
  match R, h with
  | [a0, a1, a2, a3, a4, a5, a6, a7, a8, a9, a10, a11, a12, a13, a14, a15], _ =>
    simp only [u8s, List.map_cons, List.map_nil]
    go_simp
theorem wpList_build_run {P : Program} {ops : Array Oper} {rest : List Oper} {o : Oper} {a : Act} {w w' : World} {Q : Exit → Act → World → Prop} (hw : Region.wanted o (yielded ops a.tmps) = true) (t : TypeId) (n : Nat) (parts : Array (Nat × Operand)) (ho : o.op = .buildSlice t n parts)
    (pv : Array (Nat × Value)) (hp : (parts.map fun (i, x) => (i, a.eval x)) = pv) (v : Value) (hr : (Instr.buildSlice t n pv).run P w = .ok v w') (h : wpList P ops Q rest (a.put o.dst v) w') : wpList P ops Q (o :: rest) a w := by
  refine wpList_step fun K hK => ?_
  rw [if_pos hw]
  unfold Oper.wp execOp
  simp only [ho, hp, Sem.run_bind, hr, Result.andThen_ok, Sem.run_pure]
  exact hK _ _ h
theorem Tryd.info43 : (Tryd.prog.info? 43).map (fun i => (i.zero, i.size, i.bytes)) = some (some (.agg (Array.replicate 16 (.int .u8 0))), 16, 16) := by kernel_rfl

theorem right_in (l : Int) (h0 : 0 ≤ l) (h1 : l < 32) (w : World) : Calls Tryd.prog 83 #[.int .i64 l] w fun e w' => e = .returned (.bool true) ∧ w' = w := by
  go_enter Tryd.func83, Tryd.ntmps83
  go_wp2
  go_ret
  exact ⟨rfl, rfl⟩

theorem ownsRow_mono {w : World} {base base' : Nat} {e : TypeId} {size : Nat} {v : Value} {n : Nat} {xs : List Value} (h : w.ownsRow base e size v n xs) (hb : base' ≤ base) : w.ownsRow base' e size v n xs := by
  obtain ⟨h1, h2⟩ := h
  refine ⟨h1, ?_⟩
  rcases h2 with h2 | ⟨g, cap, cur, e1, e2, e3⟩
  · exact .inl h2
  · exact .inr ⟨g, cap, cur, e1, by omega, e3⟩
def sigAt (l : Int) (x m : List Int) (j : Nat) : List Int := runC l j (secretC l j x) 0 ((digits m).getD j 0)
def sigC (l : Int) (x m : List Int) (i : Nat) : List (List Int) := (List.range i).map (sigAt l x m)
theorem sigC_succ (l : Int) (x m : List Int) (i : Nat) : sigC l x m (i + 1) = sigC l x m i ++ [sigAt l x m i] := by
  simp [sigC, List.range_succ]
theorem secret_good (l c : Int) (x : List Int) : (secretC l c x).length = 16 ∧ u8s_ok (secretC l c x) := ⟨short_len _ _, short_ok _ _⟩
theorem runC_good (l c : Int) (x : List Int) (f t : Int) (hl : x.length = 16) (hx : u8s_ok x) : (runC l c x f t).length = 16 ∧ u8s_ok (runC l c x f t) := walk_good l c x _ _ hl hx

set_option maxHeartbeats 4000000 in
set_option maxRecDepth 100000 in
theorem sign_any (x : List Int) (hl : x.length = 16) (hx : u8s_ok x) (l : Int) (h0 : 0 ≤ l) (h1 : l < 32) (m : List Int) (hlm : m.length = 16) (hm : u8s_ok m) (w : World) (hk : w.rangeAt 18 0 (u32s kk)) (h18 : 18 < w.heap.size) :
    Calls Tryd.prog 47 #[.agg (u8s x).toArray, .int .i64 l, .agg (u8s m).toArray] w fun e w' => ∃ v, e = .returned (.tuple #[v, .nilIface]) ∧ w'.ownsRow w.heap.size 43 16 v 68 (dcells (sigC l x m 68)) ∧ Below w.heap.size w w' := by
  have hi43 : ∀ V : List Int, V.length = 16 → (Tryd.prog.info? 43).map (·.size) = some (u8s V).length := fun V h => by rw [u8s_len', h]; exact Tryd.size43
  obtain ⟨W0, hW0⟩ : ∃ W0, W0 = (w.alloc (.cells (u8s x).toArray 43)).alloc (.cells (u8s m).toArray 43) := ⟨_, rfl⟩
  have q0 : W0.heap[w.heap.size]? = some (.cells (u8s x).toArray 43 (0, 0)) := by rw [hW0]; exact heap_alloc2_old w _ _
  have q1 : W0.heap[w.heap.size + 1]? = some (.cells (u8s m).toArray 43 (0, 0)) := by
    rw [hW0]
    have := heap_alloc_new (w.alloc (.cells (u8s x).toArray 43)) (.cells (u8s m).toArray 43)
    simpa using this
  have b0 : Below w.heap.size w W0 := by rw [hW0]; exact ((Below.refl _ _).alloc (Nat.le_refl _) _).alloc (by simp) _
  have HK := Lib.hid hk
  have HL := Lib.hid hl
  have HX := Lib.hid hx
  have HLM := Lib.hid hlm
  have HM := Lib.hid hm
  have Q0 := Lib.hid q0
  have Q1 := Lib.hid q1
  have B0 := Lib.hid b0
  clear hk hl hx hlm hm q0 q1 b0
  go_enter Tryd.func47, Tryd.ntmps47
  go_wp2_with fail
  rw [← hW0]
  clear hW0
  refine (right_in l h0 h1 W0).mono ?_
  rintro e w1 ⟨rfl, rfl⟩
  go_wp2_with (refine wpList_load_g rfl 43 (.tmp 5) rfl (w.heap.size + 1) 0 rfl (u8s m) _ (blk_range Q1.out) Tryd.underlying43 rfl (hi43 m HLM.out) ?_)
  refine (digits_any m HLM.out HM.out w1).mono ?_
  rintro e w2 ⟨dv, rfl, hdown, hb2⟩
  obtain ⟨db, doff, dc, hde, hdc1, hdc2, hdcell⟩ := Row.of_own hdown (by omega)
  have hdl : (digits m).length = 68 := by
    have := hdown.1
    simpa [i64s] using this
  have hil : (i64s (digits m)).length = 68 := by simp [i64s, hdl]
  rw [hil] at hde
  subst hde
  have Q2 := Lib.hid (blk_below Q0.out hb2)
  have B2 := Lib.hid (B0.out.trans (hb2.mono B0.out.size))
  have HD : Hid (∀ W, Below w2.heap.size w2 W → ∀ j : Nat, j < 68 → W.cell? ⟨db, doff + j, none⟩ = some (.int .i64 ((digits m).getD j 0))) := Lib.hid fun W hW j hj => by
    have hc := hdcell j (.int .i64 ((digits m).getD j 0)) (by simp [i64s, List.getD_eq_getElem?_getD, List.getElem?_eq_getElem (show j < (digits m).length by omega)])
    exact (hW.cell (p := ⟨db, doff + j, none⟩) (World.block_lt_of_cell? w2 _ hc)).trans hc
  clear hdown hb2 hdcell hdl hil Q0 Q1 B0 hdc1 hdc2
  go_wp2_with fail
  obtain ⟨i0, hi, hzz⟩ := Option.map_eq_some_iff.1 Tryd.info43
  go_loopw [8, 18] (fun v k wr => ∃ (i : Nat), i ≤ 68 ∧ k = .int .i64 i ∧ Hid (wr.ownsRow w2.heap.size 43 16 v i (dcells (sigC l x m i))) ∧ Hid (Below w2.heap.size w2 wr))
    (fun _ k _ => 68 - (intOf k).toNat)
  case atStart => exact ⟨0, by omega, rfl, Lib.hid (World.ownsRow_nil _ _ _ _), Lib.hid (Below.refl _ _)⟩
  case round =>
    obtain ⟨i, hi68, rfl, hown, hbel⟩ := hrel
    by_cases hlt : i < 68
    · have hcd := HD.out wr hbel.out i hlt
      have hra := range_below (blk_range Q2.out) hbel.out
      have RA := Lib.hid hra
      have BR : Hid (Below w.heap.size w wr) := Lib.hid (B2.out.trans (hbel.out.mono B2.out.size))
      obtain ⟨dj, hdj⟩ : ∃ d, d = (digits m).getD i 0 := ⟨_, rfl⟩
      rw [← hdj] at hcd
      have HDJ := Lib.hid hdj
      clear hra hdj
      go_wp2_with (refine wpList_load_g rfl 43 (.tmp 3) rfl w.heap.size 0 rfl (u8s x) _ RA.out Tryd.underlying43 rfl (hi43 x HL.out) ?_)
      refine (secret_any x HL.out HX.out l i wr (range_below HK.out BR.out) (Nat.lt_of_lt_of_le h18 BR.out.size)).mono ?_
      rintro e w3 ⟨rfl, hb3⟩
      have BR3 := Lib.hid (BR.out.trans (hb3.mono BR.out.size))
      have hs := secret_good l i x
      go_wp2_with fail
      refine (run_any (secretC l i x) hs.1 hs.2 l i 0 dj w3 (range_below HK.out BR3.out) (Nat.lt_of_lt_of_le h18 BR3.out.size)).mono ?_
      rintro e w4 ⟨rfl, hb4⟩
      have BR4 := Lib.hid (BR3.out.trans (hb4.mono BR3.out.size))
      have hb34 : Below wr.heap.size wr w4 := hb3.trans (hb4.mono hb3.size)
      have own4 : w4.ownsRow w2.heap.size 43 16 _ i (dcells (sigC l x m i)) := hown.out.kept (row := none) ⟨hb34.os, hb34.tape, hb34.output, hb34.size, fun k hk _ => hb34.block k hk⟩ (by
        cases h : Value.ownBlock _ with
        | none => exact .inl rfl
        | some k => exact .inr (by simp))
      obtain ⟨R, hR⟩ : ∃ r, r = runC l i (secretC l i x) 0 dj := ⟨_, rfl⟩
      have hRl : R.length = 16 := by rw [hR]; exact (runC_good l i _ 0 dj hs.1 hs.2).1
      have hsig : sigC l x m (i + 1) = sigC l x m i ++ [R] := by rw [sigC_succ, sigAt, ← HDJ.out, ← hR]
      rw [← hR]
      have OW4 := Lib.hid own4
      have HSIG := Lib.hid hsig
      have HRL := Lib.hid hRl
      have hz24 : w2.heap.size ≤ w4.heap.size := Nat.le_trans hbel.out.size hb34.size
      have L4 : Hid (Below w2.heap.size w2 w4) := Lib.hid (hbel.out.trans (hb34.mono hbel.out.size))
      have hwz : w.heap.size ≤ w4.heap.size := BR4.out.size
      clear own4 hsig hRl hR hs hb34 hb3 hb4 hown hbel BR BR3 RA hcd
      go_wp2_with (first | (refine wpList_build_run rfl 55 1 _ rfl #[(0, .agg (u8s R).toArray)] (by simp only [List.map_toArray, List.map_cons, List.map_nil]; rfl) _ (build55 R HRL.out w4) ?_) | (at_builtin; refine appN (w0 := w4) w2.heap.size rfl (.tmp 23) (.tmp 32) 55 43 (.agg (Array.replicate 16 (.int .u8 0))) 16 16 rfl Tryd.underlying55 Tryd.info43 rfl (by omega) (by omega) _ i _ rfl ⟨w4.heap.size, 0, none⟩ 1 1 (u8s R) rfl (by rw [u8s_len', HRL.out]) (fun j u hu => by rw [show (⟨w4.heap.size, 0, none⟩ : Addr).add j = ⟨w4.heap.size, 0 + j, none⟩ by unfold Addr.add; split <;> simp_all]; exact range_new w4 (u8s R) 43 j u hu) (one_u8s _) (OW4.out.alloc _) ((Below.refl _ _).alloc hz24 _) (by simp; omega) (by omega) ?_; intro v5 w5 ap5; have AP5 := Lib.hid ap5; clear ap5))
      have own5 : w5.ownsRow w2.heap.size 43 16 v5 (i + 1) (dcells (sigC l x m (i + 1))) := by
        rw [HSIG.out, dcells_append, show dcells [R] = u8s R by simp [dcells]]
        exact AP5.out.own
      go_roundw
      case rel => exact ⟨i + 1, by omega, by go_num, Lib.hid own5, Lib.hid (L4.out.trans AP5.out.below)⟩
      case measure => simp [intOf]; omega
    · obtain rfl : i = 68 := by omega
      have BR := Lib.hid (B2.out.trans (hbel.out.mono B2.out.size))
      go_wp2
      go_ret2
      exact ⟨_, rfl, ownsRow_mono hown.out B2.out.size, BR.out⟩

theorem sigC_len (l : Int) (x m : List Int) (i : Nat) : (sigC l x m i).length = i := by simp [sigC]
theorem sigC_good (l : Int) (x m : List Int) (i : Nat) : ∀ d ∈ sigC l x m i, d.length = 16 ∧ u8s_ok d := by
  intro d hd
  obtain ⟨j, _, rfl⟩ := List.mem_map.1 hd
  exact runC_good _ _ _ _ _ (secret_good _ _ _).1 (secret_good _ _ _).2
theorem sig_dgs {w : World} {base : Nat} {v : Value} {l : Int} {x m : List Int} (h : w.ownsRow base 43 16 v 68 (dcells (sigC l x m 68))) : Dgs w v (sigC l x m 68) :=
  Dgs.of_own h (sigC_len l x m 68).symm (sigC_good l x m 68)
end Go.Proofs.YtdedphhohiioiaaDoor
/- The chains' look at life: the digits of noughts. -/
namespace Go.Proofs.YtdedphhohiioiaaDoor
open Go.RowKit

theorem digits_noughts : digits (List.replicate 16 0) = List.replicate 64 0 ++ [3, 0, 0, 0] := by kernel_rfl

set_option maxHeartbeats 4000000 in
set_option maxRecDepth 100000 in
theorem alive_chains (w : World) : Calls Tryd.prog 36 #[] w fun e w' => e = .returned (.bool true) ∧ Below w.heap.size w w' := by
  go_enter Tryd.func36, Tryd.ntmps36
  go_wp2_with fail
  refine (digits_any (List.replicate 16 0) rfl (fun b hb => by rw [List.eq_of_mem_replicate hb]; omega) _).mono ?_
  rintro e w1 ⟨v, rfl, hown, hb1⟩
  obtain ⟨b, off, c, he, hc1, hc2, hcell⟩ := Row.of_own hown (by omega)
  have hl : (i64s (digits (List.replicate 16 0))).length = 68 := by rw [digits_noughts]; rfl
  rw [hl] at he hc1
  subst he
  rw [digits_noughts] at hcell
  have c0 := hcell 0 (.int .i64 0) rfl
  have c1 := hcell 63 (.int .i64 0) rfl
  have c2 := hcell 64 (.int .i64 3) rfl
  have c3 := hcell 65 (.int .i64 0) rfl
  have c4 := hcell 67 (.int .i64 0) rfl
  rw [Nat.add_zero] at c0
  have HB := Lib.hid hb1
  clear hcell hown hl hb1 hc2
  go_wp2
  go_ret
  exact ⟨rfl, HB.out⟩
end Go.Proofs.YtdedphhohiioiaaDoor
/- The law ChainsGo, walked. -/
namespace Go.Proofs.YtdedphhohiioiaaDoor
open Go.RowKit

theorem run_join (l c : Int) (x : List Int) (f t : Int) (h0 : 0 ≤ f) (h1 : f ≤ t) (h2 : t ≤ 3) : runC l c (runC l c x 0 f) f t = runC l c x 0 t := by
  unfold runC
  rw [show (max f 0).toNat = (min f 3).toNat by omega]
  exact walk_join l c x _ _ _ (by omega) (by omega)
theorem run_good (l c : Int) (x : List Int) (f t : Int) (hl : x.length = 16) (hx : u8s_ok x) : (runC l c x f t).length = 16 ∧ u8s_ok (runC l c x f t) := walk_good l c x _ _ hl hx

set_option maxHeartbeats 4000000 in
set_option maxRecDepth 100000 in
theorem chainsGo_any (x : List Int) (hl : x.length = 16) (hx : u8s_ok x) (p0 p1 n0 n1 : Int) (hn0 : 0 ≤ n0) (hn1 : 0 ≤ n1) (w : World) (hk : w.rangeAt 18 0 (u32s kk)) (h18 : 18 < w.heap.size) :
    Calls Tryd.prog 9 #[.agg (u8s x).toArray, .agg #[.int .i64 p0, .int .i64 p1], .agg #[.int .u64 n0, .int .u64 n1]] w fun e w' => e = .returned (.bool true) ∧ Below w.heap.size w w' := by
  have HK := Lib.hid hk
  have HL := Lib.hid hl
  have HX := Lib.hid hx
  clear hk hl hx
  go_enter Tryd.func9, Tryd.ntmps9
  go_wp2_with fail
  obtain ⟨W0, hW0⟩ : ∃ W0, W0 = ((w.alloc (.cells (u8s x).toArray 43)).alloc (.cells #[.int .i64 p0, .int .i64 p1] 49)).alloc (.cells #[.int .u64 n0, .int .u64 n1] 50) := ⟨_, rfl⟩
  have q0 : W0.heap[w.heap.size]? = some (.cells (u8s x).toArray 43 (0, 0)) := by
    rw [hW0, Below.heap_alloc _ _ _ (by simp; omega), Below.heap_alloc _ _ _ (by simp)]
    exact heap_alloc_new w _
  have q1 : W0.heap[w.heap.size + 1]? = some (.cells #[.int .i64 p0, .int .i64 p1] 49 (0, 0)) := by
    rw [hW0, Below.heap_alloc _ _ _ (by simp)]
    have := heap_alloc_new (w.alloc (.cells (u8s x).toArray 43)) (.cells #[.int .i64 p0, .int .i64 p1] 49)
    simpa using this
  have q2 : W0.heap[w.heap.size + 1 + 1]? = some (.cells #[.int .u64 n0, .int .u64 n1] 50 (0, 0)) := by
    rw [hW0]
    have := heap_alloc_new ((w.alloc (.cells (u8s x).toArray 43)).alloc (.cells #[.int .i64 p0, .int .i64 p1] 49)) (.cells #[.int .u64 n0, .int .u64 n1] 50)
    simpa using this
  have hB0 : Below w.heap.size w W0 := by rw [hW0]; exact (((Below.refl _ _).alloc (Nat.le_refl _) _).alloc (by simp) _).alloc (by simp; omega) _
  rw [← hW0]
  clear hW0
  refine (alive_chains W0).mono ?_
  rintro e w1 ⟨rfl, hb1⟩
  have hB1 := hB0.trans (hb1.mono hB0.size)
  have r0 := blk_below q0 hb1
  have r1 := blk_below q1 hb1
  have r2 := blk_below q2 hb1
  have c40 : w1.cell? ⟨w.heap.size + 1, 0, none⟩ = some (.int .i64 p0) := blk_cell r1 0 _ rfl
  have c41 : w1.cell? ⟨w.heap.size + 1, 1, none⟩ = some (.int .i64 p1) := blk_cell r1 1 _ rfl
  have c50 : w1.cell? ⟨w.heap.size + 1 + 1, 0, none⟩ = some (.int .u64 n0) := blk_cell r2 0 _ rfl
  have c51 : w1.cell? ⟨w.heap.size + 1 + 1, 1, none⟩ = some (.int .u64 n1) := blk_cell r2 1 _ rfl
  have R0 := Lib.hid r0
  have B1 := Lib.hid hB1
  clear q0 q1 q2 hB0 hb1 hB1 r0 r1 r2
  go_wp2
  go_quiet (fail)
  go_wp2
  go_quiet (fail)
  have hi43 : ∀ V : List Int, V.length = 16 → (Tryd.prog.info? 43).map (·.size) = some (u8s V).length := fun V h => by rw [u8s_len', h]; exact Tryd.size43
  have RR : ∀ n, (w1.drewN n).rangeAt w.heap.size 0 (u8s x) := fun n => blk_range (w := w1.drewN n) R0.out
  have BD : ∀ n, Below w.heap.size w (w1.drewN n) := fun n => B1.out.trans ⟨rfl, rfl, rfl, Nat.le_refl _, fun _ _ => rfl⟩
  have hn4 : 0 ≤ n0 % 4 ∧ n0 % 4 ≤ 3 ∧ 0 ≤ n1 % 4 ∧ n1 % 4 ≤ 3 := by omega
  by_cases hgt : n1 % 4 < n0 % 4
  · go_wp2_with (refine wpList_load_g rfl 43 (.tmp 3) rfl w.heap.size 0 rfl (u8s x) _ (RR _) Tryd.underlying43 rfl (hi43 x HL.out) ?_)
    refine (run_any x HL.out HX.out p0 p1 0 (n1 % 4) _ (range_below HK.out (BD _)) (Nat.lt_of_lt_of_le h18 (BD _).size)).mono ?_
    rintro e w3 ⟨rfl, hb3⟩
    obtain ⟨V1, hV1⟩ : ∃ v, v = runC p0 p1 x 0 (n1 % 4) := ⟨_, rfl⟩
    rw [← hV1]
    obtain ⟨hl1, hx1⟩ := run_good p0 p1 x 0 (n1 % 4) HL.out HX.out
    rw [← hV1] at hl1 hx1
    have B3 := Lib.hid ((BD _).trans (hb3.mono (BD _).size))
    have RX3 := Lib.hid (range_below (RR _) hb3)
    have hh3 : ∀ Z : Array Value, Z.size = 16 → Has (w3.alloc (.cells Z 43)) w3.heap.size 43 (u8s V1).length := fun Z hZ => has_new w3 _ _ _ (by rw [hZ, u8s_len', hl1])
    have HV1 := Lib.hid hV1
    have HX1 := Lib.hid hx1
    clear hV1 hx1 hb3
    go_wp2_with (first | (refine wpList_store_row rfl 43 (.tmp 11) (.tmp 36) rfl w3.heap.size rfl (u8s V1) rfl 43 (hh3 _ rfl) (hi43 V1 hl1) (one_u8s _) ?_; intro w4 hp4; have L4 : Below w3.heap.size w3 w4 := (hp4.below ((Below.refl _ _).alloc (Nat.le_refl _) _) (Nat.le_refl _)); have RV4 := Lib.hid (blk_range hp4.blk); have B4 := Lib.hid (B3.out.trans (L4.mono B3.out.size)); have RX4 := Lib.hid (range_below RX3.out L4); clear hp4 L4) | (refine wpList_load_g rfl 43 (.tmp 11) rfl w3.heap.size 0 rfl (u8s V1) _ RV4.out Tryd.underlying43 rfl (hi43 V1 hl1) ?_))
    refine (run_any V1 hl1 HX1.out p0 p1 (n1 % 4) (n0 % 4) _ (range_below HK.out B4.out) (Nat.lt_of_lt_of_le h18 B4.out.size)).mono ?_
    rintro e w5 ⟨rfl, hb5⟩
    obtain ⟨V2, hV2⟩ : ∃ v, v = runC p0 p1 V1 (n1 % 4) (n0 % 4) := ⟨_, rfl⟩
    rw [← hV2]
    obtain ⟨hl2, hx2⟩ := run_good p0 p1 V1 (n1 % 4) (n0 % 4) hl1 HX1.out
    rw [← hV2] at hl2 hx2
    have hV2' : runC p0 p1 x 0 (n0 % 4) = V2 := by rw [hV2, HV1.out, run_join p0 p1 x (n1 % 4) (n0 % 4) (by omega) (by omega) (by omega)]
    obtain ⟨V3, hV3⟩ : ∃ v, v = runC p0 p1 x 0 3 := ⟨_, rfl⟩
    have hV3' : runC p0 p1 V2 (n0 % 4) 3 = V3 := by rw [← hV2', hV3, run_join p0 p1 x (n0 % 4) 3 (by omega) (by omega) (by omega)]
    have hl3 : V3.length = 16 := by rw [hV3]; exact (run_good p0 p1 x 0 3 HL.out HX.out).1
    have B5 := Lib.hid (B4.out.trans (hb5.mono B4.out.size))
    have RX5 := Lib.hid (range_below RX4.out hb5)
    have hh5 : ∀ Z : Array Value, Z.size = 16 → Has (w5.alloc (.cells Z 43)) w5.heap.size 43 (u8s V2).length := fun Z hZ => has_new w5 _ _ _ (by rw [hZ, u8s_len', hl2])
    have HV2 := Lib.hid hV2'
    have HV3 := Lib.hid hV3.symm
    have HV4 := Lib.hid hV3'
    have HX2 := Lib.hid hx2
    have hlx := HL.out
    have hsame2 := run_same16 V2 hl2
    have hsame3 := run_same16 V3 hl3
    clear hV2 hV2' hV3 hV3' hx2 hb5 HX1 HV1 B4 RX4 RV4 B3 RX3
    go_wp2_with (refine wpList_store_row rfl 43 (.tmp 12) (.tmp 42) rfl w5.heap.size rfl (u8s V2) rfl 43 (hh5 _ rfl) (hi43 V2 hl2) (one_u8s _) ?_; intro w6 hp6; have L6 : Below w5.heap.size w5 w6 := (hp6.below ((Below.refl _ _).alloc (Nat.le_refl _) _) (Nat.le_refl _)); have RV6 := Lib.hid (blk_range hp6.blk); have BS2 := Lib.hid (B5.out.trans (L6.mono B5.out.size)); have RX6 := Lib.hid (range_below RX5.out L6); clear hp6 L6)
    refine wp_region_rely (by kernel_rfl) 19 (by kernel_rfl) (by kernel_rfl) Ext Ext.refl Ext.trans (fun i => match i with
      | 0 => fun _ v => v = .agg (u8s V2).toArray
      | 1 => fun _ v => v = .agg (u8s x).toArray
      | 2 => fun _ v => v = .int .i64 p0
      | 3 => fun _ v => v = .int .i64 p1
      | 4 => fun _ v => v = .int .i64 (n0 % 4)
      | 5 => fun _ v => v = .agg (u8s V2).toArray
      | 6 => fun _ v => v = .bool true
      | 7 => fun _ v => v = .bool true
      | 8 => fun _ v => v = .agg (u8s V2).toArray
      | 9 => fun _ v => v = .int .i64 p0
      | 10 => fun _ v => v = .int .i64 p1
      | 11 => fun _ v => v = .int .i64 (n0 % 4)
      | 12 => fun _ v => v = .agg (u8s V3).toArray
      | 13 => fun _ v => v = .agg (u8s x).toArray
      | 14 => fun _ v => v = .int .i64 p0
      | 15 => fun _ v => v = .int .i64 p1
      | 16 => fun _ v => v = .agg (u8s V3).toArray
      | 17 => fun _ v => v = .bool true
      | 18 => fun _ v => v = .bool true
      | _ => fun _ _ => False) ?_
    simp (maxSteps := 10000000) only [Rely, List.take_succ_cons, List.take_zero, List.drop_succ_cons, List.drop_zero, Nat.reduceAdd, Nat.zero_add, Act.put, List.setIfInBounds_toArray, List.set_cons_succ, List.set_cons_zero]
    refine ⟨?_, ?_, ?_, ?_, ?_, ?_, ?_, ?_, ?_, ?_, ?_, ?_, ?_, ?_, ?_, ?_, ?_, ?_, ?_, ?_⟩
    · refine step_plain rfl fun vs w1 hE hd => ?_
      exact gives_load_row 43 _ rfl w5.heap.size 0 rfl (u8s V2) _ (range_below RV6.out (ext_of_drew hE)) Tryd.underlying43 rfl (hi43 V2 (by assumption)) ⟨Ext.refl _, fun _ _ => rfl⟩
    · refine step_plain rfl fun vs w1 hE hd => ?_
      exact gives_load_row 43 _ rfl w.heap.size 0 rfl (u8s x) _ (range_below RX6.out (ext_of_drew hE)) Tryd.underlying43 rfl (hi43 x (by assumption)) ⟨Ext.refl _, fun _ _ => rfl⟩
    · refine step_plain rfl fun vs w1 hE hd => ?_
      exact gives_move _ (.int .i64 p0) (.inl rfl) rfl ⟨Ext.refl _, fun _ _ => rfl⟩
    · refine step_plain rfl fun vs w1 hE hd => ?_
      exact gives_move _ (.int .i64 p1) (.inl rfl) rfl ⟨Ext.refl _, fun _ _ => rfl⟩
    · refine step_plain rfl fun vs w1 hE hd => ?_
      exact gives_move _ (.int .i64 (n0 % 4)) (.inl rfl) rfl ⟨Ext.refl _, fun _ _ => rfl⟩
    · refine step_plain rfl fun vs w1 hE hd => ?_
      refine gives_call 37 Tryd.call37 _ _ rfl rfl [.agg (u8s x).toArray, .int .i64 p0, .int .i64 p1, .int .i64 0, .int .i64 (n0 % 4)] ?_ ?_
      · show [vs 1, vs 2, vs 3, Value.int .i64 0, vs 4] = _
        rw [show vs 1 = _ from (hd.1), show vs 2 = _ from (hd.2.1), show vs 3 = _ from (hd.2.2.1), show vs 4 = _ from (hd.2.2.2.1)]
      · refine (run_any x HL.out HX.out p0 p1 0 (n0 % 4) w1 (range_below HK.out (BS2.out.trans (Below.mono (ext_of_drew hE) BS2.out.size))) (by have := (ext_of_drew hE).size; have := BS2.out.size; omega)).mono ?_
        rintro e w2 ⟨rfl, hb⟩
        exact ⟨_, rfl, hb, fun _ _ => congrArg (fun o => Value.agg (u8s o).toArray) HV2.out⟩
    · refine step_plain rfl fun vs w1 hE hd => ?_
      exact gives_binOp .eql 43 _ _ _ rfl (.agg (u8s V2).toArray) (.agg (u8s V2).toArray) (.bool true) (show vs 0 = _ from hd.1) (show vs 5 = _ from hd.2.1) (by go_simp) (by go_simp) ⟨Ext.refl _, fun _ _ => rfl⟩
    · refine step_plain rfl fun vs w1 hE hd => ?_
      exact gives_move _ (.bool true) (.inl rfl) (show vs 6 = _ from hd.1) ⟨Ext.refl _, fun _ _ => rfl⟩
    · refine step_guard 7 true 50 rfl rfl (fun _ => rfl) fun vs w1 hE hd => ⟨hd.1, ?_⟩
      exact gives_load_row 43 _ rfl w5.heap.size 0 rfl (u8s V2) _ (range_below RV6.out (ext_of_drew hE)) Tryd.underlying43 rfl (hi43 V2 (by assumption)) ⟨Ext.refl _, fun _ _ => rfl⟩
    · refine step_guard 7 true 50 rfl rfl (fun _ => rfl) fun vs w1 hE hd => ⟨hd.1, ?_⟩
      exact gives_move _ (.int .i64 p0) (.inl rfl) rfl ⟨Ext.refl _, fun _ _ => rfl⟩
    · refine step_guard 7 true 50 rfl rfl (fun _ => rfl) fun vs w1 hE hd => ⟨hd.1, ?_⟩
      exact gives_move _ (.int .i64 p1) (.inl rfl) rfl ⟨Ext.refl _, fun _ _ => rfl⟩
    · refine step_guard 7 true 50 rfl rfl (fun _ => rfl) fun vs w1 hE hd => ⟨hd.1, ?_⟩
      exact gives_move _ (.int .i64 (n0 % 4)) (.inl rfl) rfl ⟨Ext.refl _, fun _ _ => rfl⟩
    · refine step_guard 7 true 50 rfl rfl (fun _ => rfl) fun vs w1 hE hd => ⟨hd.2.2.2.2.1, ?_⟩
      refine gives_call 37 Tryd.call37 _ _ rfl rfl [.agg (u8s V2).toArray, .int .i64 p0, .int .i64 p1, .int .i64 (n0 % 4), .int .i64 3] ?_ ?_
      · show [vs 8, vs 9, vs 10, vs 11, Value.int .i64 3] = _
        rw [show vs 8 = _ from (hd.1), show vs 9 = _ from (hd.2.1), show vs 10 = _ from (hd.2.2.1), show vs 11 = _ from (hd.2.2.2.1)]
      · refine (run_any V2 hl2 HX2.out p0 p1 (n0 % 4) 3 w1 (range_below HK.out (BS2.out.trans (Below.mono (ext_of_drew hE) BS2.out.size))) (by have := (ext_of_drew hE).size; have := BS2.out.size; omega)).mono ?_
        rintro e w2 ⟨rfl, hb⟩
        exact ⟨_, rfl, hb, fun _ _ => congrArg (fun o => Value.agg (u8s o).toArray) HV4.out⟩
    · refine step_guard 7 true 50 rfl rfl (fun _ => rfl) fun vs w1 hE hd => ⟨hd.1, ?_⟩
      exact gives_load_row 43 _ rfl w.heap.size 0 rfl (u8s x) _ (range_below RX6.out (ext_of_drew hE)) Tryd.underlying43 rfl (hi43 x (by assumption)) ⟨Ext.refl _, fun _ _ => rfl⟩
    · refine step_guard 7 true 50 rfl rfl (fun _ => rfl) fun vs w1 hE hd => ⟨hd.1, ?_⟩
      exact gives_move _ (.int .i64 p0) (.inl rfl) rfl ⟨Ext.refl _, fun _ _ => rfl⟩
    · refine step_guard 7 true 50 rfl rfl (fun _ => rfl) fun vs w1 hE hd => ⟨hd.1, ?_⟩
      exact gives_move _ (.int .i64 p1) (.inl rfl) rfl ⟨Ext.refl _, fun _ _ => rfl⟩
    · refine step_guard 7 true 50 rfl rfl (fun _ => rfl) fun vs w1 hE hd => ⟨hd.2.2.2.2.1, ?_⟩
      refine gives_call 37 Tryd.call37 _ _ rfl rfl [.agg (u8s x).toArray, .int .i64 p0, .int .i64 p1, .int .i64 0, .int .i64 3] ?_ ?_
      · show [vs 13, vs 14, vs 15, Value.int .i64 0, Value.int .i64 3] = _
        rw [show vs 13 = _ from (hd.1), show vs 14 = _ from (hd.2.1), show vs 15 = _ from (hd.2.2.1)]
      · refine (run_any x HL.out HX.out p0 p1 0 3 w1 (range_below HK.out (BS2.out.trans (Below.mono (ext_of_drew hE) BS2.out.size))) (by have := (ext_of_drew hE).size; have := BS2.out.size; omega)).mono ?_
        rintro e w2 ⟨rfl, hb⟩
        exact ⟨_, rfl, hb, fun _ _ => congrArg (fun o => Value.agg (u8s o).toArray) HV3.out⟩
    · refine step_guard 7 true 50 rfl rfl (fun _ => rfl) fun vs w1 hE hd => ⟨hd.2.2.1, ?_⟩
      exact gives_binOp .eql 43 _ _ _ rfl (.agg (u8s V3).toArray) (.agg (u8s V3).toArray) (.bool true) (show vs 12 = _ from hd.1) (show vs 16 = _ from hd.2.1) (by go_simp) (by go_simp) ⟨Ext.refl _, fun _ _ => rfl⟩
    · refine step_plain rfl fun vs w1 hE hd => ?_
      exact gives_pick _ _ _ (.bool true) true rfl (show vs 7 = _ from hd.1) (show vs 17 = _ from hd.2.1) ⟨Ext.refl _, fun _ _ => rfl⟩
    · intro vs w2 hE hR
      have h18' : vs 18 = .bool true := hR 18 (by omega)
      rw [h18']
      have hfin : Below w.heap.size w w2 := BS2.out.trans (Below.mono (ext_of_drew hE) BS2.out.size)
      clear hR hE h18'
      go_wp2
      go_ret
      exact ⟨rfl, hfin⟩
  · go_wp2_with (refine wpList_load_g rfl 43 (.tmp 3) rfl w.heap.size 0 rfl (u8s x) _ (RR _) Tryd.underlying43 rfl (hi43 x HL.out) ?_)
    refine (run_any x HL.out HX.out p0 p1 0 (n0 % 4) _ (range_below HK.out (BD _)) (Nat.lt_of_lt_of_le h18 (BD _).size)).mono ?_
    rintro e w3 ⟨rfl, hb3⟩
    obtain ⟨V1, hV1⟩ : ∃ v, v = runC p0 p1 x 0 (n0 % 4) := ⟨_, rfl⟩
    rw [← hV1]
    obtain ⟨hl1, hx1⟩ := run_good p0 p1 x 0 (n0 % 4) HL.out HX.out
    rw [← hV1] at hl1 hx1
    have B3 := Lib.hid ((BD _).trans (hb3.mono (BD _).size))
    have RX3 := Lib.hid (range_below (RR _) hb3)
    have hh3 : ∀ Z : Array Value, Z.size = 16 → Has (w3.alloc (.cells Z 43)) w3.heap.size 43 (u8s V1).length := fun Z hZ => has_new w3 _ _ _ (by rw [hZ, u8s_len', hl1])
    have HV1 := Lib.hid hV1
    have HX1 := Lib.hid hx1
    clear hV1 hx1 hb3
    go_wp2_with (first | (refine wpList_store_row rfl 43 (.tmp 11) (.tmp 36) rfl w3.heap.size rfl (u8s V1) rfl 43 (hh3 _ rfl) (hi43 V1 hl1) (one_u8s _) ?_; intro w4 hp4; have L4 : Below w3.heap.size w3 w4 := (hp4.below ((Below.refl _ _).alloc (Nat.le_refl _) _) (Nat.le_refl _)); have RV4 := Lib.hid (blk_range hp4.blk); have B4 := Lib.hid (B3.out.trans (L4.mono B3.out.size)); have RX4 := Lib.hid (range_below RX3.out L4); clear hp4 L4) | (refine wpList_load_g rfl 43 (.tmp 11) rfl w3.heap.size 0 rfl (u8s V1) _ RV4.out Tryd.underlying43 rfl (hi43 V1 hl1) ?_))
    refine (run_any V1 hl1 HX1.out p0 p1 (n0 % 4) (n1 % 4) _ (range_below HK.out B4.out) (Nat.lt_of_lt_of_le h18 B4.out.size)).mono ?_
    rintro e w5 ⟨rfl, hb5⟩
    obtain ⟨V2, hV2⟩ : ∃ v, v = runC p0 p1 V1 (n0 % 4) (n1 % 4) := ⟨_, rfl⟩
    rw [← hV2]
    obtain ⟨hl2, hx2⟩ := run_good p0 p1 V1 (n0 % 4) (n1 % 4) hl1 HX1.out
    rw [← hV2] at hl2 hx2
    have hV2' : runC p0 p1 x 0 (n1 % 4) = V2 := by rw [hV2, HV1.out, run_join p0 p1 x (n0 % 4) (n1 % 4) (by omega) (by omega) (by omega)]
    obtain ⟨V3, hV3⟩ : ∃ v, v = runC p0 p1 x 0 3 := ⟨_, rfl⟩
    have hV3' : runC p0 p1 V2 (n1 % 4) 3 = V3 := by rw [← hV2', hV3, run_join p0 p1 x (n1 % 4) 3 (by omega) (by omega) (by omega)]
    have hl3 : V3.length = 16 := by rw [hV3]; exact (run_good p0 p1 x 0 3 HL.out HX.out).1
    have B5 := Lib.hid (B4.out.trans (hb5.mono B4.out.size))
    have RX5 := Lib.hid (range_below RX4.out hb5)
    have hh5 : ∀ Z : Array Value, Z.size = 16 → Has (w5.alloc (.cells Z 43)) w5.heap.size 43 (u8s V2).length := fun Z hZ => has_new w5 _ _ _ (by rw [hZ, u8s_len', hl2])
    have HV2 := Lib.hid hV2'
    have HV3 := Lib.hid hV3.symm
    have HV4 := Lib.hid hV3'
    have HX2 := Lib.hid hx2
    have hlx := HL.out
    have hsame2 := run_same16 V2 hl2
    have hsame3 := run_same16 V3 hl3
    clear hV2 hV2' hV3 hV3' hx2 hb5 HX1 HV1 B4 RX4 RV4 B3 RX3
    go_wp2_with (refine wpList_store_row rfl 43 (.tmp 12) (.tmp 42) rfl w5.heap.size rfl (u8s V2) rfl 43 (hh5 _ rfl) (hi43 V2 hl2) (one_u8s _) ?_; intro w6 hp6; have L6 : Below w5.heap.size w5 w6 := (hp6.below ((Below.refl _ _).alloc (Nat.le_refl _) _) (Nat.le_refl _)); have RV6 := Lib.hid (blk_range hp6.blk); have BS2 := Lib.hid (B5.out.trans (L6.mono B5.out.size)); have RX6 := Lib.hid (range_below RX5.out L6); clear hp6 L6)
    refine wp_region_rely (by kernel_rfl) 19 (by kernel_rfl) (by kernel_rfl) Ext Ext.refl Ext.trans (fun i => match i with
      | 0 => fun _ v => v = .agg (u8s V2).toArray
      | 1 => fun _ v => v = .agg (u8s x).toArray
      | 2 => fun _ v => v = .int .i64 p0
      | 3 => fun _ v => v = .int .i64 p1
      | 4 => fun _ v => v = .int .i64 (n1 % 4)
      | 5 => fun _ v => v = .agg (u8s V2).toArray
      | 6 => fun _ v => v = .bool true
      | 7 => fun _ v => v = .bool true
      | 8 => fun _ v => v = .agg (u8s V2).toArray
      | 9 => fun _ v => v = .int .i64 p0
      | 10 => fun _ v => v = .int .i64 p1
      | 11 => fun _ v => v = .int .i64 (n1 % 4)
      | 12 => fun _ v => v = .agg (u8s V3).toArray
      | 13 => fun _ v => v = .agg (u8s x).toArray
      | 14 => fun _ v => v = .int .i64 p0
      | 15 => fun _ v => v = .int .i64 p1
      | 16 => fun _ v => v = .agg (u8s V3).toArray
      | 17 => fun _ v => v = .bool true
      | 18 => fun _ v => v = .bool true
      | _ => fun _ _ => False) ?_
    simp (maxSteps := 10000000) only [Rely, List.take_succ_cons, List.take_zero, List.drop_succ_cons, List.drop_zero, Nat.reduceAdd, Nat.zero_add, Act.put, List.setIfInBounds_toArray, List.set_cons_succ, List.set_cons_zero]
    refine ⟨?_, ?_, ?_, ?_, ?_, ?_, ?_, ?_, ?_, ?_, ?_, ?_, ?_, ?_, ?_, ?_, ?_, ?_, ?_, ?_⟩
    · refine step_plain rfl fun vs w1 hE hd => ?_
      exact gives_load_row 43 _ rfl w5.heap.size 0 rfl (u8s V2) _ (range_below RV6.out (ext_of_drew hE)) Tryd.underlying43 rfl (hi43 V2 (by assumption)) ⟨Ext.refl _, fun _ _ => rfl⟩
    · refine step_plain rfl fun vs w1 hE hd => ?_
      exact gives_load_row 43 _ rfl w.heap.size 0 rfl (u8s x) _ (range_below RX6.out (ext_of_drew hE)) Tryd.underlying43 rfl (hi43 x (by assumption)) ⟨Ext.refl _, fun _ _ => rfl⟩
    · refine step_plain rfl fun vs w1 hE hd => ?_
      exact gives_move _ (.int .i64 p0) (.inl rfl) rfl ⟨Ext.refl _, fun _ _ => rfl⟩
    · refine step_plain rfl fun vs w1 hE hd => ?_
      exact gives_move _ (.int .i64 p1) (.inl rfl) rfl ⟨Ext.refl _, fun _ _ => rfl⟩
    · refine step_plain rfl fun vs w1 hE hd => ?_
      exact gives_move _ (.int .i64 (n1 % 4)) (.inl rfl) rfl ⟨Ext.refl _, fun _ _ => rfl⟩
    · refine step_plain rfl fun vs w1 hE hd => ?_
      refine gives_call 37 Tryd.call37 _ _ rfl rfl [.agg (u8s x).toArray, .int .i64 p0, .int .i64 p1, .int .i64 0, .int .i64 (n1 % 4)] ?_ ?_
      · show [vs 1, vs 2, vs 3, Value.int .i64 0, vs 4] = _
        rw [show vs 1 = _ from (hd.1), show vs 2 = _ from (hd.2.1), show vs 3 = _ from (hd.2.2.1), show vs 4 = _ from (hd.2.2.2.1)]
      · refine (run_any x HL.out HX.out p0 p1 0 (n1 % 4) w1 (range_below HK.out (BS2.out.trans (Below.mono (ext_of_drew hE) BS2.out.size))) (by have := (ext_of_drew hE).size; have := BS2.out.size; omega)).mono ?_
        rintro e w2 ⟨rfl, hb⟩
        exact ⟨_, rfl, hb, fun _ _ => congrArg (fun o => Value.agg (u8s o).toArray) HV2.out⟩
    · refine step_plain rfl fun vs w1 hE hd => ?_
      exact gives_binOp .eql 43 _ _ _ rfl (.agg (u8s V2).toArray) (.agg (u8s V2).toArray) (.bool true) (show vs 0 = _ from hd.1) (show vs 5 = _ from hd.2.1) (by go_simp) (by go_simp) ⟨Ext.refl _, fun _ _ => rfl⟩
    · refine step_plain rfl fun vs w1 hE hd => ?_
      exact gives_move _ (.bool true) (.inl rfl) (show vs 6 = _ from hd.1) ⟨Ext.refl _, fun _ _ => rfl⟩
    · refine step_guard 7 true 50 rfl rfl (fun _ => rfl) fun vs w1 hE hd => ⟨hd.1, ?_⟩
      exact gives_load_row 43 _ rfl w5.heap.size 0 rfl (u8s V2) _ (range_below RV6.out (ext_of_drew hE)) Tryd.underlying43 rfl (hi43 V2 (by assumption)) ⟨Ext.refl _, fun _ _ => rfl⟩
    · refine step_guard 7 true 50 rfl rfl (fun _ => rfl) fun vs w1 hE hd => ⟨hd.1, ?_⟩
      exact gives_move _ (.int .i64 p0) (.inl rfl) rfl ⟨Ext.refl _, fun _ _ => rfl⟩
    · refine step_guard 7 true 50 rfl rfl (fun _ => rfl) fun vs w1 hE hd => ⟨hd.1, ?_⟩
      exact gives_move _ (.int .i64 p1) (.inl rfl) rfl ⟨Ext.refl _, fun _ _ => rfl⟩
    · refine step_guard 7 true 50 rfl rfl (fun _ => rfl) fun vs w1 hE hd => ⟨hd.1, ?_⟩
      exact gives_move _ (.int .i64 (n1 % 4)) (.inl rfl) rfl ⟨Ext.refl _, fun _ _ => rfl⟩
    · refine step_guard 7 true 50 rfl rfl (fun _ => rfl) fun vs w1 hE hd => ⟨hd.2.2.2.2.1, ?_⟩
      refine gives_call 37 Tryd.call37 _ _ rfl rfl [.agg (u8s V2).toArray, .int .i64 p0, .int .i64 p1, .int .i64 (n1 % 4), .int .i64 3] ?_ ?_
      · show [vs 8, vs 9, vs 10, vs 11, Value.int .i64 3] = _
        rw [show vs 8 = _ from (hd.1), show vs 9 = _ from (hd.2.1), show vs 10 = _ from (hd.2.2.1), show vs 11 = _ from (hd.2.2.2.1)]
      · refine (run_any V2 hl2 HX2.out p0 p1 (n1 % 4) 3 w1 (range_below HK.out (BS2.out.trans (Below.mono (ext_of_drew hE) BS2.out.size))) (by have := (ext_of_drew hE).size; have := BS2.out.size; omega)).mono ?_
        rintro e w2 ⟨rfl, hb⟩
        exact ⟨_, rfl, hb, fun _ _ => congrArg (fun o => Value.agg (u8s o).toArray) HV4.out⟩
    · refine step_guard 7 true 50 rfl rfl (fun _ => rfl) fun vs w1 hE hd => ⟨hd.1, ?_⟩
      exact gives_load_row 43 _ rfl w.heap.size 0 rfl (u8s x) _ (range_below RX6.out (ext_of_drew hE)) Tryd.underlying43 rfl (hi43 x (by assumption)) ⟨Ext.refl _, fun _ _ => rfl⟩
    · refine step_guard 7 true 50 rfl rfl (fun _ => rfl) fun vs w1 hE hd => ⟨hd.1, ?_⟩
      exact gives_move _ (.int .i64 p0) (.inl rfl) rfl ⟨Ext.refl _, fun _ _ => rfl⟩
    · refine step_guard 7 true 50 rfl rfl (fun _ => rfl) fun vs w1 hE hd => ⟨hd.1, ?_⟩
      exact gives_move _ (.int .i64 p1) (.inl rfl) rfl ⟨Ext.refl _, fun _ _ => rfl⟩
    · refine step_guard 7 true 50 rfl rfl (fun _ => rfl) fun vs w1 hE hd => ⟨hd.2.2.2.2.1, ?_⟩
      refine gives_call 37 Tryd.call37 _ _ rfl rfl [.agg (u8s x).toArray, .int .i64 p0, .int .i64 p1, .int .i64 0, .int .i64 3] ?_ ?_
      · show [vs 13, vs 14, vs 15, Value.int .i64 0, Value.int .i64 3] = _
        rw [show vs 13 = _ from (hd.1), show vs 14 = _ from (hd.2.1), show vs 15 = _ from (hd.2.2.1)]
      · refine (run_any x HL.out HX.out p0 p1 0 3 w1 (range_below HK.out (BS2.out.trans (Below.mono (ext_of_drew hE) BS2.out.size))) (by have := (ext_of_drew hE).size; have := BS2.out.size; omega)).mono ?_
        rintro e w2 ⟨rfl, hb⟩
        exact ⟨_, rfl, hb, fun _ _ => congrArg (fun o => Value.agg (u8s o).toArray) HV3.out⟩
    · refine step_guard 7 true 50 rfl rfl (fun _ => rfl) fun vs w1 hE hd => ⟨hd.2.2.1, ?_⟩
      exact gives_binOp .eql 43 _ _ _ rfl (.agg (u8s V3).toArray) (.agg (u8s V3).toArray) (.bool true) (show vs 12 = _ from hd.1) (show vs 16 = _ from hd.2.1) (by go_simp) (by go_simp) ⟨Ext.refl _, fun _ _ => rfl⟩
    · refine step_plain rfl fun vs w1 hE hd => ?_
      exact gives_pick _ _ _ (.bool true) true rfl (show vs 7 = _ from hd.1) (show vs 17 = _ from hd.2.1) ⟨Ext.refl _, fun _ _ => rfl⟩
    · intro vs w2 hE hR
      have h18' : vs 18 = .bool true := hR 18 (by omega)
      rw [h18']
      have hfin : Below w.heap.size w w2 := BS2.out.trans (Below.mono (ext_of_drew hE) BS2.out.size)
      clear hR hE h18'
      go_wp2
      go_ret
      exact ⟨rfl, hfin⟩
end Go.Proofs.YtdedphhohiioiaaDoor
/- The ends of chains, plain: a signature's are those of the secrets. -/
namespace Go.Proofs.YtdedphhohiioiaaDoor
open Go.RowKit

/-- A digest. -/
abbrev Dg := { x : List Int // x.length = 16 ∧ u8s_ok x }
def dgv (x : Dg) : Value := .agg (u8s x.1).toArray
/-- The end of the j-th chain of a seed. -/
def pubAt (l : Int) (x : List Int) (j : Nat) : List Int := runC l j (secretC l j x) 0 3
def pubE (l : Int) (x : List Int) (i : Nat) : List (List Int) := (List.range i).map (pubAt l x)
/-- The end that what is handed in comes to. -/
def recAt (l : Int) (ds : List (List Int)) (m : List Int) (j : Nat) : List Int := runC l j (ds.getD j []) ((digits m).getD j 0) 3
def recE (l : Int) (ds : List (List Int)) (m : List Int) (i : Nat) : List (List Int) := (List.range i).map (recAt l ds m)
/-- The public digest of ends. -/
def publicC (l : Int) (es : List (List Int)) : List Int := short 3 [[l % 256], es.flatten]

theorem pubE_succ (l : Int) (x : List Int) (i : Nat) : pubE l x (i + 1) = pubE l x i ++ [pubAt l x i] := by simp [pubE, List.range_succ]
theorem recE_succ (l : Int) (ds : List (List Int)) (m : List Int) (i : Nat) : recE l ds m (i + 1) = recE l ds m i ++ [recAt l ds m i] := by simp [recE, List.range_succ]
theorem pubE_len (l : Int) (x : List Int) (i : Nat) : (pubE l x i).length = i := by simp [pubE]
theorem recE_len (l : Int) (ds : List (List Int)) (m : List Int) (i : Nat) : (recE l ds m i).length = i := by simp [recE]
theorem publicC_good (l : Int) (es : List (List Int)) : (publicC l es).length = 16 ∧ u8s_ok (publicC l es) := ⟨short_len _ _, short_ok _ _⟩
theorem flat_len (es : List (List Int)) (h : ∀ e ∈ es, e.length = 16) : es.flatten.length = 16 * es.length := by
  induction es with
  | nil => rfl
  | cons e es ih =>
    rw [List.flatten_cons, List.length_append, ih (fun e he => h e (by simp [he])), h e (by simp), List.length_cons]
    omega
theorem flat_ok (es : List (List Int)) (h : ∀ e ∈ es, u8s_ok e) : u8s_ok es.flatten := by
  intro b hb
  obtain ⟨e, he, hbe⟩ := List.mem_flatten.1 hb
  exact h e he b hbe
theorem public_small (l : Int) (es : List (List Int)) (h : ∀ e ∈ es, e.length = 16) (hn : es.length ≤ 1000) : (framed 3 [[l % 256], es.flatten]).length ≤ 1099511627776 := by
  have := flat_len es h
  simp only [framed, be4, List.length_append, List.length_cons, List.length_nil, List.flatMap_cons, List.flatMap_nil]
  omega
theorem pubAt_good (l : Int) (x : List Int) (j : Nat) : (pubAt l x j).length = 16 ∧ u8s_ok (pubAt l x j) := runC_good _ _ _ _ _ (secret_good _ _ _).1 (secret_good _ _ _).2
theorem recAt_good (l : Int) (ds : List (List Int)) (m : List Int) (j : Nat) (h : (ds.getD j []).length = 16 ∧ u8s_ok (ds.getD j [])) : (recAt l ds m j).length = 16 ∧ u8s_ok (recAt l ds m j) := runC_good _ _ _ _ _ h.1 h.2
theorem digit_in (m : List Int) (j : Nat) : 0 ≤ (digits m).getD j 0 ∧ (digits m).getD j 0 ≤ 3 := by
  rw [List.getD_eq_getElem?_getD]
  cases h : (digits m)[j]? with
  | none => simp
  | some d => exact digits_range m d (List.mem_of_getElem? h)
/-- A signature's ends are the secrets'. -/
theorem rec_sig (l : Int) (x m : List Int) (n i : Nat) (h : i ≤ n) : recE l (sigC l x m n) m i = pubE l x i := by
  unfold recE pubE
  refine List.map_congr_left fun j hj => ?_
  have hji : j < i := List.mem_range.1 hj
  unfold recAt pubAt
  have e : (sigC l x m n).getD j [] = sigAt l x m j := by
    rw [List.getD_eq_getElem?_getD]
    simp [sigC, List.getElem?_map, List.getElem?_range (show j < n by omega)]
  rw [e]
  unfold sigAt
  have := digit_in m j
  exact run_join l j _ _ _ this.1 this.2 (by omega)
end Go.Proofs.YtdedphhohiioiaaDoor
/- What quorateref03.Digits does. -/
namespace Go.Proofs.YtdedphhohiioiaaDoor
open Go.RowKit

theorem unit_at (wo : World) (j : Nat) (hj : j < 4) : (wo.alloc (.cells #[.int .i64 64, .int .i64 16, .int .i64 4, .int .i64 1] 3)).cell? ⟨wo.heap.size, j, none⟩ = some (.int .i64 ([64, 16, 4, 1].getD j 0)) := by
  rw [cell_of_row _ _ _ _ _ _ (heap_alloc_new wo _)]
  have h : j = 0 ∨ j = 1 ∨ j = 2 ∨ j = 3 := by omega
  rcases h with rfl | rfl | rfl | rfl <;> rfl

set_option maxHeartbeats 4000000 in
set_option maxRecDepth 100000 in
theorem refDigits_any (bs : List Int) (hl : bs.length = 16) (hb : ∀ b ∈ bs, 0 ≤ b ∧ b ≤ 255) (w : World) :
    Calls Tryd.prog 51 #[.agg (u8s bs).toArray] w fun e w' => ∃ v, e = .returned v ∧ w'.ownsRow w.heap.size 3 1 v 68 (i64s (digits bs)) ∧ Below w.heap.size w w' := by
  obtain ⟨i0, hi, hz0, hz1, hz2⟩ := info_parts Tryd.info3
  have hs : (Tryd.prog.info? 43).map (·.size) = some (u8s bs).toArray.size := by rw [Tryd.size43]; simp [u8s, hl]
  have HL := Lib.hid hl
  have HS := Lib.hid hs
  clear hl hs
  go_enter Tryd.func51, Tryd.ntmps51
  go_wp2_with (refine wpList_load_row rfl 43 (.tmp 1) rfl w.heap.size rfl 43 (u8s bs).toArray (0,0) _ (by first | exact heap_alloc_new w _ | exact heap_alloc2_old w _ _) Tryd.underlying43 rfl HS.out ?_)
  go_loopw [3, 4, 6, 7, 9, 10, 13, 18] (fun v s _ _ _ _ i _ wr => ∃ (k : Nat) (m : Int), k ≤ 16 ∧ i = .int .i64 k ∧ wr.ownsRow w.heap.size 3 1 v (4 * k) (i64s (top (bs.take k))) ∧ s = .int .i64 m ∧ m = lack (top (bs.take k)) ∧ Below w.heap.size w wr)
    (fun _ _ _ _ _ _ i _ _ => 16 - (intOf i).toNat)
  case atStart => exact ⟨0, 0, by omega, rfl, by have := own_empty (base := w.heap.size) (e := 3) (w.alloc (.cells (u8s bs).toArray 43)) #[] rfl (by simp); simpa [top, i64s] using this, rfl, rfl, ((Below.refl _ _).alloc (Nat.le_refl _) _).alloc (by simp) _⟩
  case round =>
    obtain ⟨k, m, hk, rfl, hown, rfl, hm, hbl⟩ := hrel
    by_cases hlt : k < 16
    · have HM0 := Lib.hid hm
      clear hm
      obtain ⟨b, hbd⟩ : ∃ b, b = bs.getD k 0 := ⟨_, rfl⟩
      have hbk : (u8s bs).toArray[(k : Int).toNat]? = some (.int .u8 b) := by
        have := HL.out
        simp [u8s, hbd, List.getElem?_eq_getElem (show k < bs.length by omega)]
      have hb0 : 0 ≤ b ∧ b ≤ 255 := by
        have := HL.out
        rw [hbd, List.getD_eq_getElem?_getD, List.getElem?_eq_getElem (show k < bs.length by omega)]
        exact hb _ (List.getElem_mem _)
      have HB := Lib.hid hbd
      have HBK := Lib.hid hbk
      clear hbd hbk
      go_wp2_with (refine wpList_index_arr rfl 43 5 16 (.tmp 12) (.tmp 13) rfl (u8s bs).toArray .i64 k (.int .u8 b) rfl rfl Tryd.underlying43 _ Tryd.underlying5 rfl Tryd.size5 (by omega) (by omega) HBK.out ?_)
      obtain ⟨wo, rfl⟩ : ∃ wo : World, wo = wr := ⟨_, rfl⟩
      go_loopw [3, 4, 9, 10, 20] (fun v s _ _ i wr => ∃ (j : Nat) (m : Int), j ≤ 4 ∧ i = .int .i64 j ∧ wr.ownsRow w.heap.size 3 1 v (4 * k + j) (i64s (top (bs.take k) ++ (four b).take j)) ∧ s = .int .i64 m ∧ m = lack (top (bs.take k) ++ (four b).take j) ∧ Below w.heap.size w wr ∧
          wr.heap[wo.heap.size]? = some (.cells #[.int .i64 64, .int .i64 16, .int .i64 4, .int .i64 1] 3 (0, 0)) ∧ v.ownBlock ≠ some wo.heap.size)
        (fun _ _ _ _ i _ => 4 - (intOf i).toNat)
      case atStart => exact ⟨0, _, by omega, rfl, by simpa using hown.alloc _, rfl, by simpa using HM0.out, hbl.alloc hbl.size _, heap_alloc_new _ _, fun e => by have := hown.lt _ e; omega⟩
      case round =>
        obtain ⟨j, m, hj, rfl, hown, rfl, hm, hbl, hU, hne⟩ := hrel
        have hlen := dig_bd bs k j b (by omega) hj
        rw [← hm] at hlen
        have HM := Lib.hid hm
        clear hm
        have hj4 : j = 0 ∨ j = 1 ∨ j = 2 ∨ j = 3 ∨ j = 4 := by omega
        have hc0 := cell_of_row wr _ 0 _ _ _ hU
        have hc1 := cell_of_row wr _ 1 _ _ _ hU
        have hc2 := cell_of_row wr _ 2 _ _ _ hU
        have hc3 := cell_of_row wr _ 3 _ _ _ hU
        simp at hc0 hc1 hc2 hc3
        rcases hj4 with rfl | rfl | rfl | rfl | rfl
        · have ha : b / 64 % 4 = b / 64 % 4 := by omega
          go_wp2_with (first | (at_builtin; refine app1 w.heap.size rfl (.tmp 28) (.tmp 30) 69 3 (.int .i64 0) 1 8 rfl Tryd.underlying69 Tryd.info3 rfl (by omega) (by omega) _ _ _ rfl 1 [.int .i64 _] rfl rfl (by simp [Value.oneCell']) hown hbl (by omega) hbl.size ?_; intro v' w1 hap))
          go_roundw
          case rel => exact ⟨1, _, by omega, rfl, by simpa [i64s, four] using hap.own, rfl, by have := HM.out; simp only [lack_append, four, lack, List.take] at this ⊢; omega, hap.below, hap.blk hU hne, hap.ne (Array.getElem?_eq_some_iff.1 hU).1 hne⟩
          case measure => simp [intOf]
        · have ha : b / 16 % 4 = b / 16 % 4 := by omega
          go_wp2_with (first | (at_builtin; refine app1 w.heap.size rfl (.tmp 28) (.tmp 30) 69 3 (.int .i64 0) 1 8 rfl Tryd.underlying69 Tryd.info3 rfl (by omega) (by omega) _ _ _ rfl 1 [.int .i64 _] rfl rfl (by simp [Value.oneCell']) hown hbl (by omega) hbl.size ?_; intro v' w1 hap))
          go_roundw
          case rel => exact ⟨2, _, by omega, rfl, by simpa [i64s, four] using hap.own, rfl, by have := HM.out; simp only [lack_append, four, lack, List.take] at this ⊢; omega, hap.below, hap.blk hU hne, hap.ne (Array.getElem?_eq_some_iff.1 hU).1 hne⟩
          case measure => simp [intOf]
        · have ha : b / 4 % 4 = b / 4 % 4 := by omega
          go_wp2_with (first | (at_builtin; refine app1 w.heap.size rfl (.tmp 28) (.tmp 30) 69 3 (.int .i64 0) 1 8 rfl Tryd.underlying69 Tryd.info3 rfl (by omega) (by omega) _ _ _ rfl 1 [.int .i64 _] rfl rfl (by simp [Value.oneCell']) hown hbl (by omega) hbl.size ?_; intro v' w1 hap))
          go_roundw
          case rel => exact ⟨3, _, by omega, rfl, by simpa [i64s, four] using hap.own, rfl, by have := HM.out; simp only [lack_append, four, lack, List.take] at this ⊢; omega, hap.below, hap.blk hU hne, hap.ne (Array.getElem?_eq_some_iff.1 hU).1 hne⟩
          case measure => simp [intOf]
        · have ha : b / 1 % 4 = b % 4 := by omega
          go_wp2_with (first | (at_builtin; refine app1 w.heap.size rfl (.tmp 28) (.tmp 30) 69 3 (.int .i64 0) 1 8 rfl Tryd.underlying69 Tryd.info3 rfl (by omega) (by omega) _ _ _ rfl 1 [.int .i64 _] rfl rfl (by simp [Value.oneCell']) hown hbl (by omega) hbl.size ?_; intro v' w1 hap))
          go_roundw
          case rel => exact ⟨4, _, by omega, rfl, by simpa [i64s, four] using hap.own, rfl, by have := HM.out; simp only [lack_append, four, lack, List.take] at this ⊢; omega, hap.below, hap.blk hU hne, hap.ne (Array.getElem?_eq_some_iff.1 hU).1 hne⟩
          case measure => simp [intOf]
        · clear hj
          go_wp2
          go_roundw
          case rel =>
            have hlen := HL.out
            have e : top (bs.take (k + 1)) = top (bs.take k) ++ (four b).take 4 := by
              have hbd := HB.out
              rw [List.getD_eq_getElem?_getD, List.getElem?_eq_getElem (show k < bs.length by omega)] at hbd
              simp only [Option.getD_some] at hbd
              rw [top_take_succ bs k (by omega), ← hbd]; rfl
            exact ⟨k + 1, _, by omega, by go_num, by rw [e]; exact hown, rfl, by rw [e]; exact HM.out, hbl⟩
          case measure => simp [intOf]; omega
    · have hlen := HL.out
      have hk16 : 4 * k = 64 := by omega
      rw [List.take_of_length_le (by omega)] at hown hm
      rw [hk16] at hown
      clear hk16
      have hbd := lack_range (top bs) (top_range bs)
      rw [← hm, top_len] at hbd
      have HM := Lib.hid hm
      clear hm
      have hbd2 : 0 ≤ m ∧ m ≤ 192 := by omega
      clear hbd hlen
      have hq : m / 64 = m / 64 % 4 := by omega
      have HQ := Lib.hid hq
      clear hq
      go_wp2_with (first | (at_builtin; refine app1 w.heap.size rfl (.tmp 38) (.tmp 49) 69 3 (.int .i64 0) 1 8 rfl Tryd.underlying69 Tryd.info3 rfl (by omega) (by omega) _ _ _ rfl 4 [.int .i64 (m / 64), .int .i64 (m / 16 % 4), .int .i64 (m / 4 % 4), .int .i64 (m % 4)] rfl rfl (by simp [Value.oneCell']) hown hbl (by omega) hbl.size ?_; intro v' w1 hap))
      go_ret
      exact ⟨_, rfl, by have := HM.out; rw [digits, ← this]; have h2 := hap.own; rw [HQ.out] at h2; simpa [i64s, last4] using h2, hap.below⟩
end Go.Proofs.YtdedphhohiioiaaDoor
/- What the reference's Ended, Public, Recover and Sign do. -/
namespace Go.Proofs.YtdedphhohiioiaaDoor
open Go.RowKit

set_option maxHeartbeats 4000000 in
set_option maxRecDepth 100000 in
theorem ended_any (l : Int) (FL : List Int) (hok : u8s_ok FL) (hz : FL.length ≤ 2000) (w : World) :
    Calls Tryd.prog 87 #[.int .i64 l, .string (strOfNums FL)] w fun e w' => e = .returned (.agg (u8s (short 3 [[l % 256], FL])).toArray) ∧ Below w.heap.size w w' := by
  have hb0 : Below w.heap.size w (w.alloc (.cells (Array.replicate 16 (Value.int .u8 0)) 43)) := (Below.refl _ _).alloc (Nat.le_refl _) _
  have hh0 : Has (w.alloc (.cells (Array.replicate 16 (Value.int .u8 0)) 43)) w.heap.size 43 16 := has_new w _ _ _ rfl
  have B0 := Lib.hid hb0
  have H0 := Lib.hid hh0
  have HX := Lib.hid hok
  clear hb0 hh0 hok
  go_enter Tryd.func87, Tryd.ntmps87
  go_wp2_with fail
  refine (one_any l _).mono ?_
  rintro e w2 ⟨rfl, hb2⟩
  have B2 := Lib.hid (B0.out.trans (hb2.mono B0.out.size))
  have H2 := Lib.hid (H0.out.below hb2)
  clear hb2 B0 H0
  obtain ⟨ST, hST⟩ : ∃ s, s = short 3 [[l % 256], FL] := ⟨_, rfl⟩
  have hSl : ST.length = 16 := by rw [hST]; exact short_len _ _
  have hmap : [strOfNums [l % 256], strOfNums FL].map sb = [[l % 256], FL] := by
    simp only [List.map_cons, List.map_nil]
    rw [sb_str _ (one_ok l), sb_str FL HX.out]
  have htx := Txs.new w2 [strOfNums [l % 256], strOfNums FL] (by simp)
  have hi43' : (Tryd.prog.info? 43).map (·.size) = some (u8s ST).length := by rw [u8s_len', hSl]; exact Tryd.size43
  have hsm : (framed 3 [[l % 256], FL]).length ≤ 1099511627776 := by
    simp only [framed, be4, List.length_append, List.length_cons, List.length_nil, List.flatMap_cons, List.flatMap_nil]
    omega
  have HTX := Lib.hid htx
  have HST := Lib.hid hST
  have HSL := Lib.hid hSl
  have HM := Lib.hid hmap
  have HI' := Lib.hid hi43'
  have HSM := Lib.hid hsm
  clear htx hST hSl hmap hi43' hsm
  go_wp2_with fail
  refine (refof_any 3 [strOfNums [l % 256], strOfNums FL] _ 2 2 _ HTX.out rfl (by rw [HM.out]; exact HSM.out)).mono ?_
  rintro e w5 ⟨rfl, hb5⟩
  rw [HM.out, ← HST.out]
  have hb4 : Below w2.heap.size w2 w5 := ((Below.refl _ _).alloc (Nat.le_refl _) _).trans (hb5.mono (by simp))
  have B5 := Lib.hid (B2.out.trans (hb4.mono B2.out.size))
  have H5 : Hid (Has w5 w.heap.size 43 (u8s ST).length) := Lib.hid (by rw [u8s_len', HSL.out]; exact H2.out.below hb4)
  clear hb5 hb4 B2 H2 HTX HM
  go_wp2_with (refine wpList_store_row rfl 43 (.tmp 4) (.tmp 9) rfl w.heap.size rfl (u8s ST) rfl 43 H5.out HI'.out (one_u8s _) ?_; intro w10 hp10)
  refine bodyPost_ret (v := .agg (u8s ST).toArray) (results_cell_row rfl _ _ w.heap.size 43 _ (0, 0) _ rfl hp10.blk Tryd.underlying43 rfl (by simpa using HI'.out)) rfl ⟨by rw [HST.out], hp10.below B5.out (Nat.le_refl _)⟩

theorem flat_succ (es : List (List Int)) (e : List Int) : (es ++ [e]).flatten = es.flatten ++ e := by simp
theorem pub_walk (l : Int) (x : List Int) (i : Nat) : walkC l i (short 1 [x, [l % 256], [(i : Int) % 256]]) 0 (3 : Int).toNat = pubAt l x i := rfl
theorem pubE_good (l : Int) (x : List Int) (i : Nat) : ∀ e ∈ pubE l x i, e.length = 16 ∧ u8s_ok e := by
  intro e he
  obtain ⟨j, _, rfl⟩ := List.mem_map.1 he
  exact pubAt_good l x j
theorem recE_good (l : Int) (ds : List (List Int)) (m : List Int) (i : Nat) (h : ∀ j, j < i → (ds.getD j []).length = 16 ∧ u8s_ok (ds.getD j [])) : ∀ e ∈ recE l ds m i, e.length = 16 ∧ u8s_ok e := by
  intro e he
  obtain ⟨j, hj, rfl⟩ := List.mem_map.1 he
  exact recAt_good l ds m j (h j (List.mem_range.1 hj))
theorem strOfNums_append (a b : List Int) : strOfNums (a ++ b) = strOfNums a ++ strOfNums b := by
  apply ByteArray.ext
  rw [ByteArray.data_append]
  simp [strOfNums]
theorem str_size (bs : List Int) : (strOfNums bs).size = bs.length := by rw [strOfNums_size]

set_option maxHeartbeats 4000000 in
set_option maxRecDepth 100000 in
theorem refPublic_any (x : List Int) (hl : x.length = 16) (hx : u8s_ok x) (l : Int) (w : World) :
    Calls Tryd.prog 56 #[.agg (u8s x).toArray, .int .i64 l] w fun e w' => e = .returned (.agg (u8s (publicC l (pubE l x 68))).toArray) ∧ Below w.heap.size w w' := by
  have hi43 : ∀ V : List Int, V.length = 16 → (Tryd.prog.info? 43).map (·.size) = some (u8s V).length := fun V h => by rw [u8s_len', h]; exact Tryd.size43
  have hra : ((w.alloc (.cells (u8s x).toArray 43)).alloc (.cells (Array.replicate 16 (Value.int .u8 0)) 43)).rangeAt w.heap.size 0 (u8s x) := World.rangeAt_alloc (range_new w (u8s x) 43) _
  have hb0 : Below w.heap.size w ((w.alloc (.cells (u8s x).toArray 43)).alloc (.cells (Array.replicate 16 (Value.int .u8 0)) 43)) := ((Below.refl _ _).alloc (Nat.le_refl _) _).alloc (by simp) _
  have hh0 : Has ((w.alloc (.cells (u8s x).toArray 43)).alloc (.cells (Array.replicate 16 (Value.int .u8 0)) 43)) (w.heap.size + 1) 43 16 := has_new2 w _ _ _ _ rfl
  have HRA := Lib.hid hra
  have B0 := Lib.hid hb0
  have H0 := Lib.hid hh0
  have HL := Lib.hid hl
  have HX := Lib.hid hx
  clear hra hb0 hh0 hl hx
  go_enter Tryd.func56, Tryd.ntmps56
  go_wp2
  change Code.wp _ _ _ _ ((w.alloc (.cells (u8s x).toArray 43)).alloc (.cells (Array.replicate 16 (Value.int .u8 0)) 43))
  generalize (w.alloc (.cells (u8s x).toArray 43)).alloc (.cells (Array.replicate 16 (Value.int .u8 0)) 43) = wo at *
  go_loopw [5, 6] (fun s k wr => ∃ (i : Nat) (S : ByteArray), i ≤ 68 ∧ s = .string S ∧ k = .int .i64 i ∧ Hid (S = strOfNums (pubE l x i).flatten) ∧ Hid (Below wo.heap.size wo wr))
    (fun _ k _ => 68 - (intOf k).toNat)
  case atStart => exact ⟨0, _, by omega, rfl, rfl, Lib.hid rfl, Lib.hid (Below.refl _ _)⟩
  case round =>
    obtain ⟨i, S, hi, rfl, rfl, hS, hbel⟩ := hrel
    by_cases hlt : i < 68
    · have RA := Lib.hid (range_below HRA.out hbel.out)
      have hil : (i : Int) < 68 := by omega
      have hsg := secret_good l i x
      obtain ⟨SE, hSE⟩ : ∃ s, s = short 1 [x, [l % 256], [(i : Int) % 256]] := ⟨_, rfl⟩
      rw [show secretC l i x = SE by rw [hSE]; rfl] at hsg
      have hpg := pubAt_good l x i
      have hpw : walkC l i SE 0 (3 : Int).toNat = pubAt l x i := by rw [hSE]; rfl
      obtain ⟨PE, hPE⟩ : ∃ s, s = pubAt l x i := ⟨_, rfl⟩
      rw [← hPE] at hpg hpw
      have hnx : strOfNums (pubE l x (i + 1)).flatten = S ++ strOfNums PE := by rw [pubE_succ, flat_succ, ← hPE, hS.out, strOfNums_append]
      have hsz : S.size + (strOfNums PE).size ≤ 2199023255552 := by
        rw [hS.out, str_size, str_size, hpg.1, flat_len _ (fun e he => (pubE_good l x i e he).1), pubE_len]
        omega
      have HSE := Lib.hid hSE
      have HSG := Lib.hid hsg
      have HPG := Lib.hid hpg
      have HPW := Lib.hid hpw
      have HNX := Lib.hid hnx
      have HSZ := Lib.hid hsz
      clear hSE hsg hpg hpw hnx hsz hPE hS
      go_wp2_with (refine wpList_load_g rfl 43 (.tmp 2) rfl w.heap.size 0 rfl (u8s x) _ RA.out Tryd.underlying43 rfl (hi43 x HL.out) ?_)
      refine (refSecret_any x HL.out HX.out l i wr).mono ?_
      rintro e w2 ⟨rfl, hb2⟩
      rw [← HSE.out]
      go_wp2_with fail
      refine (refRun_any SE HSG.out.1 HSG.out.2 l i 0 3 (by omega) w2).mono ?_
      rintro e w3 ⟨rfl, hb3⟩
      rw [HPW.out]
      go_wp2_with fail
      refine (text_any PE HPG.out.1 HPG.out.2 w3).mono ?_
      rintro e w4 ⟨rfl, hb4⟩
      have L4 : Below wr.heap.size wr w4 := hb2.trans ((hb3.trans (hb4.mono hb3.size)).mono hb2.size)
      have B4 := Lib.hid (hbel.out.trans (L4.mono hbel.out.size))
      clear hb2 hb3 hb4 L4 hbel
      go_wp2_with (refine wpList_add_str rfl 9 (.tmp 11) (.tmp 19) _ rfl S (strOfNums PE) rfl rfl HSZ.out ?_)
      go_roundw
      case rel => exact ⟨i + 1, _, by omega, rfl, by go_num, Lib.hid HNX.out.symm, B4⟩
      case measure => simp [intOf]; omega
    · obtain rfl : i = 68 := by omega
      obtain ⟨FL, hFL⟩ : ∃ f, f = (pubE l x 68).flatten := ⟨_, rfl⟩
      have hok : u8s_ok FL := by rw [hFL]; exact flat_ok _ (fun e he => (pubE_good l x 68 e he).2)
      have hfl : FL.length ≤ 2000 := by rw [hFL, flat_len _ (fun e he => (pubE_good l x 68 e he).1), pubE_len]; omega
      rw [← hFL] at hS
      obtain rfl := hS.out
      have hend : publicC l (pubE l x 68) = short 3 [[l % 256], FL] := by rw [hFL]; rfl
      obtain ⟨ST, hST⟩ : ∃ s, s = short 3 [[l % 256], FL] := ⟨_, rfl⟩
      have hsl : ST.length = 16 := by rw [hST]; exact short_len _ _
      rw [← hST] at hend
      have HI := Lib.hid (hi43 ST hsl)
      have HST := Lib.hid hST
      have HEN := Lib.hid hend
      have HSL := Lib.hid hsl
      have HCL := Lib.hid (ended_any l FL hok hfl wr)
      clear hFL hok hfl hS hend hST hsl
      go_wp2_with fail
      refine HCL.out.mono ?_
      rintro e w5 ⟨rfl, hb5⟩
      rw [← HST.out]
      have B5 := Lib.hid (B0.out.trans ((hbel.out.trans (hb5.mono hbel.out.size)).mono B0.out.size))
      have H5 : Hid (Has w5 (w.heap.size + 1) 43 (u8s ST).length) := Lib.hid (by rw [u8s_len', HSL.out]; exact H0.out.below (hbel.out.trans (hb5.mono hbel.out.size)))
      clear hb5 hbel HCL
      go_wp2_with (refine wpList_store_row rfl 43 (.tmp 4) (.tmp 23) rfl (w.heap.size + 1) rfl (u8s ST) rfl 43 H5.out HI.out (one_u8s _) ?_; intro w10 hp10)
      refine bodyPost_ret (v := .agg (u8s ST).toArray) (results_cell_row rfl _ _ (w.heap.size + 1) 43 _ (0, 0) _ rfl hp10.blk Tryd.underlying43 rfl (by simpa using HI.out)) rfl ⟨by rw [HEN.out], hp10.below B5.out (by omega)⟩
set_option maxHeartbeats 4000000 in
set_option maxRecDepth 100000 in
theorem refRecover_any (l : Int) (A : Option Addr) (k c : Nat) (ds : List (List Int)) (m : List Int) (w : World) (hd : Dgs w (.slice A k c) ds) (hds : k = ds.length) (hk68 : k = 68) (hlm : m.length = 16) (hm : u8s_ok m) :
    Calls Tryd.prog 55 #[.int .i64 l, .slice A k c, .agg (u8s m).toArray] w fun e w' => e = .returned (.agg (u8s (publicC l (recE l ds m 68))).toArray) ∧ Below w.heap.size w w' := by
  have hi43 : ∀ V : List Int, V.length = 16 → (Tryd.prog.info? 43).map (·.size) = some (u8s V).length := fun V h => by rw [u8s_len', h]; exact Tryd.size43
  obtain ⟨b, off, c', he, hc1, hc2, hc3, hrow⟩ := hd.cells (by intro e; rw [e] at hds; simp at hds; omega)
  simp only [Value.slice.injEq] at he
  obtain ⟨rfl, -, rfl⟩ := he
  have hdig := hd.at
  rw [← hds] at hc1 hrow hdig
  have hra : ((w.alloc (.cells (u8s m).toArray 43)).alloc (.cells (Array.replicate 16 (Value.int .u8 0)) 43)).rangeAt w.heap.size 0 (u8s m) := World.rangeAt_alloc (range_new w (u8s m) 43) _
  have hb0 : Below w.heap.size w ((w.alloc (.cells (u8s m).toArray 43)).alloc (.cells (Array.replicate 16 (Value.int .u8 0)) 43)) := ((Below.refl _ _).alloc (Nat.le_refl _) _).alloc (by simp) _
  have hh0 : Has ((w.alloc (.cells (u8s m).toArray 43)).alloc (.cells (Array.replicate 16 (Value.int .u8 0)) 43)) (w.heap.size + 1) 43 16 := has_new2 w _ _ _ _ rfl
  have HRA := Lib.hid hra
  have B0 := Lib.hid hb0
  have H0 := Lib.hid hh0
  have HL := Lib.hid hlm
  have HX := Lib.hid hm
  have HROW := Lib.hid hrow
  have HDG := Lib.hid hdig
  have HKK := Lib.hid hk68
  clear hra hb0 hh0 hlm hm hd hds hrow hdig hc2 hc3
  go_enter Tryd.func55, Tryd.ntmps55
  go_wp2_with (refine wpList_load_g rfl 43 (.tmp 5) rfl w.heap.size 0 rfl (u8s m) _ HRA.out Tryd.underlying43 rfl (hi43 m HL.out) ?_)
  change Calls _ _ _ ((w.alloc (.cells (u8s m).toArray 43)).alloc (.cells (Array.replicate 16 (Value.int .u8 0)) 43)) _
  generalize (w.alloc (.cells (u8s m).toArray 43)).alloc (.cells (Array.replicate 16 (Value.int .u8 0)) 43) = wo at *
  refine (refDigits_any m HL.out HX.out wo).mono ?_
  rintro e w2 ⟨dv, rfl, hdown, hb2⟩
  obtain ⟨db, doff, dc, hde, hdc1, hdc2, hdcell⟩ := Row.of_own hdown (by omega)
  have hdl : (digits m).length = 68 := by
    have := hdown.1
    simpa [i64s] using this
  have hil : (i64s (digits m)).length = 68 := by simp [i64s, hdl]
  rw [hil] at hde
  subst hde
  have B2 := Lib.hid (B0.out.trans (hb2.mono B0.out.size))
  have H2 := Lib.hid (H0.out.below hb2)
  have HD : Hid (∀ W, Below w2.heap.size w2 W → ∀ j : Nat, j < 68 → W.cell? ⟨db, doff + j, none⟩ = some (.int .i64 ((digits m).getD j 0))) := Lib.hid fun W hW j hj => by
    have hc := hdcell j (.int .i64 ((digits m).getD j 0)) (by simp [i64s, List.getD_eq_getElem?_getD, List.getElem?_eq_getElem (show j < (digits m).length by omega)])
    exact (hW.cell (p := ⟨db, doff + j, none⟩) (World.block_lt_of_cell? w2 _ hc)).trans hc
  clear hdown hb2 hdcell hdl hil hdc1 hdc2 B0 H0 HRA
  go_wp2_with fail
  go_loopw [7, 13] (fun s q wr => ∃ (i : Nat) (S : ByteArray), i ≤ 68 ∧ s = .string S ∧ q = .int .i64 i ∧ Hid (S = strOfNums (recE l ds m i).flatten) ∧ Hid (Below w2.heap.size w2 wr))
    (fun _ q _ => 68 - (intOf q).toNat)
  case atStart => exact ⟨0, _, by omega, rfl, rfl, Lib.hid rfl, Lib.hid (Below.refl _ _)⟩
  case round =>
    obtain ⟨i, S, hi, rfl, rfl, hS, hbel⟩ := hrel
    have BR : Hid (Below w.heap.size w wr) := Lib.hid (B2.out.trans (hbel.out.mono B2.out.size))
    by_cases hlt : i < 68
    · have hik : i < k := by have := HKK.out; omega
      have RA := Lib.hid (range_below (HROW.out i hik) BR.out)
      have hcd := HD.out wr hbel.out i hlt
      have hil : (i : Int) < 68 := by omega
      have hilk : (i : Int) < k := by omega
      have hsg := HDG.out i hik
      have hpg := recAt_good l ds m i hsg
      obtain ⟨dj, hdj⟩ : ∃ d, d = (digits m).getD i 0 := ⟨_, rfl⟩
      obtain ⟨dn, hdn⟩ : ∃ d : Nat, dj = d := ⟨dj.toNat, by have := (digit_in m i).1; omega⟩
      obtain ⟨SE, hSE⟩ : ∃ s, s = ds.getD i [] := ⟨_, rfl⟩
      have hpw : walkC l i SE dn (3 : Int).toNat = recAt l ds m i := by
        rw [hSE]
        show _ = walkC l i (ds.getD i []) (max ((digits m).getD i 0) 0).toNat (min 3 3 : Int).toNat
        rw [← hdj, hdn, show (max (dn : Int) 0).toNat = dn by omega]
        rfl
      rw [← hSE] at hsg RA
      rw [← hdj, hdn] at hcd
      obtain ⟨PE, hPE⟩ : ∃ s, s = recAt l ds m i := ⟨_, rfl⟩
      rw [← hPE] at hpg hpw
      have hrg := recE_good l ds m i (fun j hj => HDG.out j (by omega))
      have hnx : strOfNums (recE l ds m (i + 1)).flatten = S ++ strOfNums PE := by rw [recE_succ, flat_succ, ← hPE, hS.out, strOfNums_append]
      have hsz : S.size + (strOfNums PE).size ≤ 2199023255552 := by
        rw [hS.out, str_size, str_size, hpg.1, flat_len _ (fun e he => (hrg e he).1), recE_len]
        omega
      have HSG := Lib.hid hsg
      have HPG := Lib.hid hpg
      have HPW := Lib.hid hpw
      have HNX := Lib.hid hnx
      have HSZ := Lib.hid hsz
      clear hSE hsg hpg hpw hnx hsz hPE hS hrg hdj hdn
      go_wp2_with (refine wpList_load_g rfl 43 (.tmp 21) rfl b (off + i * 16) rfl (u8s SE) _ RA.out Tryd.underlying43 rfl (hi43 SE HSG.out.1) ?_)
      refine (refRun_any SE HSG.out.1 HSG.out.2 l i dn 3 (by omega) wr).mono ?_
      rintro e w3 ⟨rfl, hb3⟩
      rw [HPW.out]
      go_wp2_with fail
      refine (text_any PE HPG.out.1 HPG.out.2 w3).mono ?_
      rintro e w4 ⟨rfl, hb4⟩
      have L4 : Below wr.heap.size wr w4 := hb3.trans (hb4.mono hb3.size)
      have B4 := Lib.hid (hbel.out.trans (L4.mono hbel.out.size))
      clear hb3 hb4 L4 hbel
      go_wp2_with (refine wpList_add_str rfl 9 (.tmp 18) (.tmp 27) _ rfl S (strOfNums PE) rfl rfl HSZ.out ?_)
      go_roundw
      case rel => exact ⟨i + 1, _, by omega, rfl, by go_num, Lib.hid HNX.out.symm, B4⟩
      case measure => simp [intOf]; omega
    · obtain rfl : i = 68 := by omega
      have hrg := recE_good l ds m 68 (fun j hj => HDG.out j (by have := HKK.out; omega))
      obtain ⟨FL, hFL⟩ : ∃ f, f = (recE l ds m 68).flatten := ⟨_, rfl⟩
      have hok : u8s_ok FL := by rw [hFL]; exact flat_ok _ (fun e he => (hrg e he).2)
      have hfl : FL.length ≤ 2000 := by rw [hFL, flat_len _ (fun e he => (hrg e he).1), recE_len]; omega
      rw [← hFL] at hS
      obtain rfl := hS.out
      have hend : publicC l (recE l ds m 68) = short 3 [[l % 256], FL] := by rw [hFL]; rfl
      obtain ⟨ST, hST⟩ : ∃ s, s = short 3 [[l % 256], FL] := ⟨_, rfl⟩
      have hsl : ST.length = 16 := by rw [hST]; exact short_len _ _
      rw [← hST] at hend
      have HI := Lib.hid (hi43 ST hsl)
      have HST := Lib.hid hST
      have HEN := Lib.hid hend
      have HSL := Lib.hid hsl
      have HCL := Lib.hid (ended_any l FL hok hfl wr)
      clear hFL hok hfl hS hend hST hsl hrg
      go_wp2_with fail
      refine HCL.out.mono ?_
      rintro e w5 ⟨rfl, hb5⟩
      rw [← HST.out]
      have L5 := hbel.out.trans (hb5.mono hbel.out.size)
      have B5 := Lib.hid (B2.out.trans (L5.mono B2.out.size))
      have H5 : Hid (Has w5 (w.heap.size + 1) 43 (u8s ST).length) := Lib.hid (by rw [u8s_len', HSL.out]; exact H2.out.below L5)
      clear hb5 hbel HCL L5
      go_wp2_with (refine wpList_store_row rfl 43 (.tmp 6) (.tmp 32) rfl (w.heap.size + 1) rfl (u8s ST) rfl 43 H5.out HI.out (one_u8s _) ?_; intro w10 hp10)
      refine bodyPost_ret (v := .agg (u8s ST).toArray) (results_cell_row rfl _ _ (w.heap.size + 1) 43 _ (0, 0) _ rfl hp10.blk Tryd.underlying43 rfl (by simpa using HI.out)) rfl ⟨by rw [HEN.out], hp10.below B5.out (by omega)⟩
end Go.Proofs.YtdedphhohiioiaaDoor
/- The law on regions that draw their order, where the last operations come one behind the other. -/
namespace Go.Proofs.YtdedphhohiioiaaDoor
open Go.RowKit
section
variable {P : Program} {ops : Array Oper} {E : World → World → Prop} {R : Nat → World → Value → Prop} {w0 : World} {Q : Exit → Act → World → Prop} {a0 : Act}
def edgeTo (ops : Array Oper) (i j : Nat) : Bool := ((ops.toList[i]?).map fun o => o.after.toList.any fun e => Region.binds .any e && e.on == j).getD false
/-- From m on the operations come one behind the other, behind all others. -/
def tailOk2 (ops : Array Oper) (m : Nat) : Bool :=
  decide (m ≤ ops.size) && (List.range ops.size).all fun i => decide (i < m) || (if i = m then (List.range m).all (edgeTo ops i) else edgeTo ops i (i - 1))
theorem edgeTo_spec {ops : Array Oper} {i j : Nat} {o : Oper} (h : edgeTo ops i j = true) (ho : ops[i]? = some o) : ∃ e ∈ o.after.toList, Region.binds .any e = true ∧ e.on = j := by
  have ho' : ops.toList[i]? = some o := by simpa using ho
  unfold edgeTo at h
  rw [ho'] at h
  simp only [Option.map_some, Option.getD_some, List.any_eq_true, Bool.and_eq_true, beq_iff_eq] at h
  exact h
theorem tailOk2_spec {m : Nat} (h : tailOk2 ops m = true) : m ≤ ops.size ∧ ∀ i o, m ≤ i → ops[i]? = some o → (i = m → ∀ j, j < m → ∃ e ∈ o.after.toList, Region.binds .any e = true ∧ e.on = j) ∧ (m < i → ∃ e ∈ o.after.toList, Region.binds .any e = true ∧ e.on = i - 1) := by
  simp only [tailOk2, Bool.and_eq_true, decide_eq_true_eq, List.all_eq_true, List.mem_range, Bool.or_eq_true] at h
  refine ⟨h.1, fun i o hm ho => ?_⟩
  have hi : i < ops.size := (Array.getElem?_eq_some_iff.1 ho).1
  rcases h.2 i hi with h2 | h2
  · omega
  · constructor
    · intro e j hj
      rw [if_pos e, List.all_eq_true] at h2
      exact edgeTo_spec (h2 j (by simpa using hj)) ho
    · intro e
      rw [if_neg (by omega)] at h2
      exact edgeTo_spec h2 ho

theorem seq_sound2 {m : Nat} (hs : sane ops = true) (ht : tailOk2 ops m = true) : ∀ (fuel i : Nat) (listed : Array Bool) (a : Act) (w : World), m ≤ i → listed.size = ops.size →
    (∀ j, j < ops.size → listed.getD j false = decide (j < i)) → ops.size ≤ fuel + i → i ≤ ops.size → wpList P ops Q (ops.toList.drop i) a w → wpAny P .any ops Q fuel listed a w := by
  obtain ⟨_, ht⟩ := tailOk2_spec ht
  have hready : ∀ (i : Nat) (listed : Array Bool), m ≤ i → listed.size = ops.size → (∀ j, j < ops.size → listed.getD j false = decide (j < i)) → ∀ k, k ∈ Region.ready .any ops listed → k = i ∧ i < ops.size := by
    intro i listed hmi hsz hL k hk
    simp only [Region.ready, List.mem_filter, List.mem_range] at hk
    obtain ⟨hkn, hrd⟩ := hk
    have ho : ops[k]? = some ops[k] := by simp [hkn]
    generalize ops[k] = o at ho
    rw [ho] at hrd
    simp only [Bool.and_eq_true, Bool.not_eq_true', Option.map_some, Option.getD_some, Array.all_eq_true', Bool.or_eq_true] at hrd
    obtain ⟨h1, h2⟩ := hrd
    rw [getD_tf (by omega), hL k hkn] at h1
    have hik : i ≤ k := by simpa using h1
    rcases Nat.lt_or_ge i k with hlt | hge
    · obtain ⟨e, he, hb, hon⟩ := (ht k o (by omega) ho).2 (by omega)
      rcases h2 e (by simpa using he) with h | h
      · rw [hb] at h; cases h
      · rw [hon, hL (k - 1) (by omega)] at h
        simp at h
        omega
    · exact ⟨by omega, by omega⟩
  intro fuel
  induction fuel with
  | zero =>
    intro i listed a w hmi hsz hL hf hin hw
    have hi : i = ops.size := by omega
    subst hi
    have hnil : Region.ready .any ops listed = [] := by
      cases hr : Region.ready .any ops listed with
      | nil => rfl
      | cons x xs => have := hready _ listed hmi hsz hL x (by rw [hr]; simp); omega
    refine ⟨hnil, ?_⟩
    rw [List.drop_of_length_le (by simp)] at hw
    exact hw
  | succ fuel ih =>
    intro i listed a w hmi hsz hL hf hin hw
    refine ⟨fun hnil => ?_, fun k hk => ?_⟩
    · rcases Nat.lt_or_ge i ops.size with hlt | hge
      · exfalso
        have ho : ops[i]? = some ops[i] := by simp [hlt]
        have hmem : i ∈ Region.ready .any ops listed := by
          simp only [Region.ready, List.mem_filter, List.mem_range]
          refine ⟨hlt, ?_⟩
          rw [getD_tf (by omega), hL i hlt, ho]
          simp only [Nat.lt_irrefl, decide_false, Bool.not_false, Bool.true_and, Option.map_some, Option.getD_some, Array.all_eq_true', Bool.or_eq_true]
          intro e he
          cases hb : Region.binds .any e with
          | false => exact .inl rfl
          | true =>
            have := (sane_spec hs ho).1 e (by simpa using he) hb
            exact .inr (by rw [hL _ (by omega)]; simpa using this)
        rw [hnil] at hmem
        cases hmem
      · have hi : i = ops.size := by omega
        subst hi
        rw [List.drop_of_length_le (by simp)] at hw
        exact hw
    · obtain ⟨rfl, hlt⟩ := hready i listed hmi hsz hL k hk
      have ho : ops[k]? = some ops[k] := by simp [hlt]
      rw [List.drop_eq_getElem_cons (by simpa using hlt)] at hw
      simp only [Array.getElem_toList] at hw
      generalize ops[k] = o at ho hw
      simp only [wpOp, ho]
      refine (?_ : (if Region.wanted o (yielded ops a.tmps) then o.wp P a w _ Q ∨ (o.asks P a w ∧ LetsOut Q) else _))
      have hnext : ∀ a' w', wpList P ops Q (ops.toList.drop (k + 1)) a' w' → wpAny P .any ops Q fuel (listed.setIfInBounds k true) a' w' := fun a' w' h =>
        ih (k + 1) _ a' w' (by omega) (by simp [hsz]) (fun j hj => by
          simp only [Array.getD_eq_getD_getElem?, Array.getElem?_setIfInBounds]
          by_cases e : k = j
          · subst e; simp [hsz, hlt]
          · rw [if_neg e]
            have := hL j hj
            simp only [Array.getD_eq_getD_getElem?] at this
            rw [this]
            rw [Bool.eq_iff_iff]
            simp
            omega) (by omega) (by omega) h
      unfold wpList at hw
      split
      · rename_i hwt
        rw [if_pos hwt] at hw
        exact hw.imp (Oper.wp_mono hnext) id
      · rename_i hwt
        rw [if_neg hwt] at hw
        exact hnext _ _ hw

theorem rely_sound2 {m : Nat} (hE0 : ∀ w, E w w) (hE : ∀ {a b c}, E a b → E b c → E a c) (hs : sane ops = true) (ht : tailOk2 ops m = true)
    (hstep : ∀ j o, j < m → ops[j]? = some o → StepOk P ops E R w0 (fun vs => mix (fun k => decide (k < j)) vs 0 ops.toList a0) j o)
    (hend : ∀ vs w, E w0 w → (∀ j, j < m → R j w (vs j)) → wpList P ops Q (ops.toList.drop m) (mix (fun k => decide (k < m)) vs 0 ops.toList a0) w) :
    ∀ (fuel : Nat) (listed : Array Bool) (vs : Nat → Value) (w : World), listed.size = ops.size → unl (fun j => listed.getD j false) m + (ops.size - m) ≤ fuel → E w0 w →
      (∀ j, listed.getD j false = true → j < m) →
      (∀ j, listed.getD j false = true → ∀ w', E w w' → R j w' (vs j)) →
      (∀ j o, ops[j]? = some o → listed.getD j false = true → ∀ e ∈ o.after.toList, Region.binds .any e = true → listed.getD e.on false = true) →
      wpAny P .any ops Q fuel listed (mix (fun j => listed.getD j false) vs 0 ops.toList a0) w := by
  obtain ⟨hmn, htl⟩ := tailOk2_spec ht
  have hall : ∀ (fuel : Nat) (listed : Array Bool) (vs : Nat → Value) (w : World), listed.size = ops.size → unl (fun j => listed.getD j false) m = 0 → ops.size ≤ fuel + m → E w0 w →
      (∀ j, listed.getD j false = true → j < m) →
      (∀ j, listed.getD j false = true → ∀ w', E w w' → R j w' (vs j)) → wpAny P .any ops Q fuel listed (mix (fun j => listed.getD j false) vs 0 ops.toList a0) w := by
    intro fuel listed vs w hsz hz hf he hlm hR
    have hmk := unl_zero m hz
    have hL : ∀ j, listed.getD j false = decide (j < m) := by
      intro j
      by_cases h : j < m
      · rw [hmk j h]; simp [h]
      · cases hb : listed.getD j false with
        | true => exact absurd (hlm j hb) h
        | false => simp [h]
    refine seq_sound2 hs ht fuel m listed _ w (Nat.le_refl _) hsz (fun j _ => hL j) hf hmn ?_
    have hm : mix (fun j => listed.getD j false) vs 0 ops.toList a0 = mix (fun k => decide (k < m)) vs 0 ops.toList a0 := by
      refine act_ext (by simp [mix_size]) (by simp [mix_defers]) (fun t => ?_)
      rw [mix_get, mix_get, lastW_congr _ (fun k => decide (k < m)) vs vs t ops.toList 0 (fun j o hj _ => ⟨by
        simp only [Nat.zero_add]
        exact hL j, fun _ => rfl⟩)]
    rw [hm]
    exact hend vs w he (fun j hj => hR j (hmk j hj) w (hE0 w))
  intro fuel
  induction fuel with
  | zero =>
    intro listed vs w hsz hu he hlm hR hcl
    exact hall 0 listed vs w hsz (by omega) (by omega) he hlm hR
  | succ fuel ih =>
    intro listed vs w hsz hu he hlm hR hcl
    by_cases hz : unl (fun j => listed.getD j false) m = 0
    · exact hall (fuel + 1) listed vs w hsz hz (by omega) he hlm hR
    have hnot : ¬ ∀ j, j < m → listed.getD j false = true := fun h => hz (by
      have : ∀ k, k ≤ m → unl (fun j => listed.getD j false) k = 0 := by
        intro k
        induction k with
        | zero => intro _; rfl
        | succ k ihk => intro hk; have e1 := ihk (by omega); have e2 := h k (by omega); simp only [unl, e1, e2, if_true]
      exact this m (Nat.le_refl _))
    have hrm : ∀ i ∈ Region.ready .any ops listed, i < m := by
      intro i hi
      simp only [Region.ready, List.mem_filter, List.mem_range] at hi
      obtain ⟨hin, hrd⟩ := hi
      have ho : ops[i]? = some ops[i] := by simp [hin]
      generalize ops[i] = o at ho
      rw [ho] at hrd
      simp only [Bool.and_eq_true, Bool.not_eq_true', Option.map_some, Option.getD_some, Array.all_eq_true', Bool.or_eq_true] at hrd
      rcases Nat.lt_or_ge i m with h | h
      · exact h
      · exfalso
        by_cases him : i = m
        · refine hnot fun j hj => ?_
          obtain ⟨e, hem, hb, hon⟩ := (htl i o h ho).1 him j hj
          rcases hrd.2 e (by simpa using hem) with h2 | h2
          · rw [hb] at h2; cases h2
          · rw [hon] at h2; exact h2
        · obtain ⟨e, hem, hb, hon⟩ := (htl i o h ho).2 (by omega)
          rcases hrd.2 e (by simpa using hem) with h2 | h2
          · rw [hb] at h2; cases h2
          · rw [hon] at h2
            have := hlm (i - 1) h2
            omega
    refine ⟨fun hr => ?_, fun i hi => ?_⟩
    · exfalso
      refine hnot fun j => ?_
      induction j using Nat.strongRecOn with
      | ind j ihj =>
        intro hj
        cases hL : listed.getD j false with
        | true => rfl
        | false =>
          exfalso
          have ho : ops[j]? = some ops[j] := by simp [show j < ops.size by omega]
          have hmem : j ∈ Region.ready .any ops listed := by
            simp only [Region.ready, List.mem_filter, List.mem_range]
            refine ⟨by omega, ?_⟩
            rw [getD_tf (by omega), hL, ho]
            simp only [Bool.not_false, Bool.true_and, Option.map_some, Option.getD_some, Array.all_eq_true', Bool.or_eq_true]
            intro e hm
            obtain ⟨h1, _⟩ := sane_spec hs ho
            cases hb : Region.binds .any e with
            | false => exact .inl rfl
            | true =>
              have h2 := h1 e (by simpa using hm) hb
              exact .inr (ihj e.on h2 (by omega))
          rw [hr] at hmem
          cases hmem
    have him := hrm i hi
    simp only [Region.ready, List.mem_filter, List.mem_range] at hi
    obtain ⟨hin, hrd⟩ := hi
    have ho : ops[i]? = some ops[i] := by simp [hin]
    generalize ops[i] = o at ho
    rw [ho] at hrd
    simp only [Bool.and_eq_true, Bool.not_eq_true', Option.map_some, Option.getD_some, Array.all_eq_true', Bool.or_eq_true] at hrd
    obtain ⟨hLi, hdeps⟩ := hrd
    have hLi' : listed.getD i false = false := by
      simp only [Array.getD_eq_getD_getElem?] at hLi ⊢
      rw [Array.getElem?_eq_getElem (by omega)] at hLi ⊢
      simpa using hLi
    obtain ⟨s1, s2, s3, s4⟩ := sane_spec hs ho
    have hdone : ∀ e ∈ o.after.toList, Region.binds .any e = true → listed.getD e.on false = true := by
      intro e hm hb
      rcases hdeps e (by simpa using hm) with h | h
      · rw [hb] at h; cases h
      · exact h
    have hget : ∀ t, t ∈ o.looksAt ops → (mix (fun j => listed.getD j false) vs 0 ops.toList a0).tmps[t]? = (mix (fun k => decide (k < i)) vs 0 ops.toList a0).tmps[t]? := by
      intro t ht
      rw [mix_get, mix_get, lastW_congr _ (fun k => decide (k < i)) vs vs t ops.toList 0 (fun j p hj hd => ⟨?_, fun _ => rfl⟩)]
      simp only [Nat.zero_add]
      have hp : ops[j]? = some p := by simpa using hj
      obtain ⟨h1, h2⟩ := s3 j p t hp hd ht
      rcases Nat.lt_trichotomy j i with hlt | heq | hgt
      · obtain ⟨e, hm, hb, rfl⟩ := h1 hlt
        rw [hdone e hm hb]
        simp [hlt]
      · subst heq
        rw [hLi']
        simp
      · obtain ⟨e, hm, hb, hon⟩ := h2 hgt
        cases hL : listed.getD j false with
        | false => simp; omega
        | true =>
          have := hcl j p hp hL e hm hb
          rw [hon, hLi'] at this
          cases this
    have hev : ∀ x ∈ o.op.operands, (mix (fun j => listed.getD j false) vs 0 ops.toList a0).eval x = (mix (fun k => decide (k < i)) vs 0 ops.toList a0).eval x := by
      intro x hx
      cases x with
      | tmp t =>
        have ht : t ∈ o.looksAt ops := by
          simp only [Oper.looksAt, List.mem_append, List.mem_filterMap]
          exact .inl ⟨.tmp t, by simpa using hx, rfl⟩
        exact eval_of_get (hget t ht)
      | _ => rfl
    have hexec := execOp_congr o s2 hev
    have hw : Region.wanted o (yielded ops (mix (fun j => listed.getD j false) vs 0 ops.toList a0).tmps) = Region.wanted o (yielded ops (mix (fun k => decide (k < i)) vs 0 ops.toList a0).tmps) := by
      unfold Region.wanted
      cases hg : o.guard with
      | none => rfl
      | some g =>
        obtain ⟨j, want⟩ := g
        have : yielded ops (mix (fun j => listed.getD j false) vs 0 ops.toList a0).tmps j = yielded ops (mix (fun k => decide (k < i)) vs 0 ops.toList a0).tmps j := by
          unfold yielded
          cases hj : (ops[j]?).bind (·.dst) with
          | none => rfl
          | some t =>
            have ht : t ∈ o.looksAt ops := by
              simp only [Oper.looksAt, List.mem_append]
              exact .inr (by simp [hg, hj])
            simp only [Option.bind_some, hget t ht]
        simp only [this]
    have hD : Deps R vs w o.after.toList := Deps.of fun e hm hb => hR e.on (hdone e hm hb) w (hE0 w)
    have hst := hstep i o him ho vs w he hD
    -- what is left when op i has given v in w'
    have hnext : ∀ v w', E w w' → (∀ w'', E w' w'' → R i w'' v) →
        wpAny P .any ops Q fuel (listed.setIfInBounds i true) ((mix (fun j => listed.getD j false) vs 0 ops.toList a0).put o.dst v) w' := by
      intro v w' hew hr
      have hup : ∀ j, (listed.setIfInBounds i true).getD j false = if j = i then true else listed.getD j false := by
        intro j
        simp only [Array.getD_eq_getD_getElem?, Array.getElem?_setIfInBounds]
        by_cases e : i = j
        · subst e; simp [hsz, hin]
        · rw [if_neg e, if_neg (fun h => e h.symm)]
      have hmix : (mix (fun j => listed.getD j false) vs 0 ops.toList a0).put o.dst v =
          mix (fun j => (listed.setIfInBounds i true).getD j false) (fun j => if j = i then v else vs j) 0 ops.toList a0 := by
        refine act_ext (by simp [put_size, mix_size]) (by simp [put_defers, mix_defers]) (fun t => ?_)
        rw [put_get, mix_size]
        by_cases hd : o.dst = some t
        · rw [if_pos hd, mix_get, lastW_at _ _ t ops.toList 0 i o (by simpa using ho) hd (by rw [hup]; simp) (fun j p hj hd' => (s4 j p t (by simpa using hj) hd' hd).symm)]
          simp
        · rw [if_neg hd, mix_get, mix_get]
          rw [lastW_congr (fun j => listed.getD j false) (fun j => (listed.setIfInBounds i true).getD j false) vs (fun j => if j = i then v else vs j) t ops.toList 0 (fun j p hj hd' => ?_)]
          simp only [Nat.zero_add]
          have hne : j ≠ i := by
            intro e
            subst e
            have : p = o := by
              have h1 : ops[j]? = some p := by simpa using hj
              rw [ho] at h1
              exact (Option.some.inj h1).symm
            exact hd (this ▸ hd')
          simp [hup, hne]
      rw [hmix]
      refine ih _ _ _ (by simp [hsz]) ?_ (hE he hew) ?_ ?_ ?_
      · have := unl_mark (L := fun j => listed.getD j false) (L' := fun j => (listed.setIfInBounds i true).getD j false) hLi' (by simp [hup]) (fun j hj => by simp [hup, hj]) m him
        omega
      · intro j hj
        rw [hup] at hj
        by_cases e : j = i
        · omega
        · rw [if_neg e] at hj
          exact hlm j hj
      · intro j hj w2 hw2
        by_cases e : j = i
        · subst e
          simpa using hr w2 hw2
        · simp only [if_neg e]
          refine hR j ?_ w2 (hE hew hw2)
          rw [hup, if_neg e] at hj
          exact hj
      · intro j p hp hj e hm hb
        rw [hup] at hj ⊢
        by_cases ej : j = i
        · subst ej
          have : p = o := by rw [ho] at hp; exact (Option.some.inj hp).symm
          subst this
          split
          · rfl
          · exact hdone e hm hb
        · rw [if_neg ej] at hj
          split
          · rfl
          · exact hcl j p hp hj e hm hb
    simp only [wpOp, ho, hw]
    split
    · rename_i hwt
      rw [if_pos hwt] at hst
      refine .inl ?_
      unfold Oper.wp
      unfold Gives at hst
      rw [hexec]
      generalize (execOp (mix (fun k => decide (k < i)) vs 0 ops.toList a0).eval o).run P w = r at hst
      cases r with
      | halt x w' => simp at hst
      | ok x w' =>
        cases x with
        | value v => exact hnext v w' hst.1 hst.2
        | skip => exact hnext undef w' hst.1 hst.2
        | enter g args =>
          simp only [Oper.upon]
          refine Calls.mono hst ?_
          rintro e w'' ⟨v, rfl, h1, h2⟩
          exact hnext v w'' h1 h2
        | _ => simp at hst
    · rename_i hwt
      rw [if_neg hwt] at hst
      exact hnext undef w (hE0 w) hst

/-- THE LAW. -/
theorem wp_region_rely2 {id : Nat} {l : List Oper} {a : Act} {w : World} (hm : P.follows .mixedOrders = true) (m : Nat) (hs : sane l.toArray = true) (ht : tailOk2 l.toArray m = true)
    (E : World → World → Prop) (hE0 : ∀ w, E w w) (hE : ∀ {a b c}, E a b → E b c → E a c)
    (R : Nat → World → Value → Prop) (h : Rely P l.toArray E R w.drew Q (l.drop m) 0 (fun _ => a) (l.take m)) : (Code.region id l.toArray true).wp P Q a w := by
  obtain ⟨h1, h2⟩ := rely_get (l.take m) 0 _ h
  obtain ⟨hmn, _⟩ := tailOk2_spec ht
  have hmn' : m ≤ l.length := by simpa using hmn
  refine wp_region_any hm ?_
  have h0 : ∀ j, (Array.replicate l.toArray.size false).getD j false = false := by
    intro j
    simp only [Array.getD_eq_getD_getElem?, Array.getElem?_replicate]
    split <;> rfl
  have hmix : ∀ vs : Nat → Value, mix (fun j => (Array.replicate l.toArray.size false).getD j false) vs 0 l.toArray.toList a = a := by
    intro vs
    refine act_ext (by simp [mix_size]) (by simp [mix_defers]) (fun t => ?_)
    rw [mix_get, lastW_none _ _ _ _ _ (fun j o _ _ => h0 _)]
  have hdrop : ∀ (L : Nat → Bool) (vs : Nat → Value) (t : Nat), (∀ j, L j = true → j < m) → lastW L vs t 0 l = lastW L vs t 0 (l.take m) := by
    intro L vs t hL
    have gen : ∀ (l1 l2 : List Oper) (i : Nat), (∀ j, L j = true → j < i + l1.length) → lastW L vs t i (l1 ++ l2) = lastW L vs t i l1 := by
      intro l1
      induction l1 with
      | nil =>
        intro l2 i hj
        rw [List.nil_append, lastW_none L vs t l2 i (fun j o _ _ => by
          cases hb : L (i + j) with
          | false => rfl
          | true => have h9 := hj _ hb; simp only [List.length_nil] at h9; omega)]
        rfl
      | cons o l1 ih =>
        intro l2 i hj
        simp only [List.cons_append, lastW]
        rw [ih l2 (i + 1) (fun j h => by have := hj j h; simp only [List.length_cons] at this; omega)]
    have := gen (l.take m) (l.drop m) 0 (fun j h => by have := hL j h; simp only [List.length_take]; omega)
    rwa [List.take_append_drop] at this
  have hmixd : ∀ (k : Nat) (vs : Nat → Value), k ≤ m → mix (fun j => decide (j < k)) vs 0 l a = mix (fun j => decide (j < k)) vs 0 (l.take m) a := by
    intro k vs hk
    refine act_ext (by simp [mix_size]) (by simp [mix_defers]) (fun t => ?_)
    rw [mix_get, mix_get, hdrop _ vs t (fun j hj => by simp at hj; omega)]
  have hmixt : ∀ (vs : Nat → Value), mix (fun _ => true) vs 0 (l.take m) a = mix (fun k => decide (k < m)) vs 0 (l.take m) a := by
    intro vs
    refine act_ext (by simp [mix_size]) (by simp [mix_defers]) (fun t => ?_)
    rw [mix_get, mix_get, lastW_congr (fun _ => true) (fun k => decide (k < m)) vs vs t (l.take m) 0 (fun j o hj _ => ⟨by
      have := (List.getElem?_eq_some_iff.1 hj).1
      simp only [List.length_take] at this
      simp
      omega, fun _ => rfl⟩)]
  have := rely_sound2 (Q := Q) (a0 := a) hE0 hE hs ht (fun j o hj ho => by
      have h3 := h1 j o (by rw [List.getElem?_take, if_pos hj]; simpa using ho)
      simp only [Nat.zero_add] at h3
      have he : (fun vs => mix (fun k => decide (k < j)) vs 0 l.toArray.toList a) = (fun vs => mix (fun k => decide (k < j)) vs 0 (l.take m) a) := funext fun vs => hmixd j vs (by omega)
      rw [he]
      exact h3)
    (fun vs w' he hr => by
      have h3 := h2 vs w' he (fun j hj => hr j (by simp only [List.length_take] at hj; omega))
      rw [hmixt vs, ← hmixd m vs (Nat.le_refl _)] at h3
      simpa using h3)
    l.toArray.size (Array.replicate l.toArray.size false) (fun _ => undef) w.drew (by simp) (by
      have : ∀ n, unl (fun j => (Array.replicate l.toArray.size false).getD j false) n ≤ n := by
        intro n
        induction n with
        | zero => exact Nat.le_refl _
        | succ n ih => simp only [unl, h0, Bool.false_eq_true, if_false] at ih ⊢; omega
      have := this m
      omega) (hE0 _) (fun j hj => by rw [h0] at hj; cases hj) (fun j hj => by rw [h0] at hj; cases hj) (fun j o _ hj => by rw [h0] at hj; cases hj)
  rw [hmix] at this
  exact this

/-! The single operations. -/
end
end Go.Proofs.YtdedphhohiioiaaDoor
