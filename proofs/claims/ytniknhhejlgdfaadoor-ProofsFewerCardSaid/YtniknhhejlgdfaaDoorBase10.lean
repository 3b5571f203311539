/- Lemmas that laws of this seat rest on, part 10; each says its own conditions: Late0, Bld, YRelyMore, YAppD, ZRely2, ProofsGenesisW, XKitD. -/
import Derived.Laws.Tables
import Derived.WalkKit
import Derived.Orders
import Derived.Deep.MidRow
import Derived.Test.YtniknhhejlgdfaaDoorRows
import Derived.WalkSpells
import Derived.Maps.AppendAt
import Derived.Deep.AppendSrc
import Derived.Lib.Hide
import Derived.StillTailTactics
import Derived.Deep.QuietTactic
import Derived.BigQuiet
import Derived.IntWalk
import Derived.Lib.ConvBytes
import Derived.Lib.SlBytesRow
import Derived.Lib.SlBytesConst
import Derived.Laws.Cover3
import Derived.OwnWalk
import Derived.Still
import Derived.StillTactics
import Derived.Laws.Pointers
import Derived.ProofKit
import Derived.OpenShut
import Derived.Test.YtniknhhejlgdfaaDoorTie
import Derived.Test.YtniknhhejlgdfaaDoorCards
import Derived.LaidMore
import Derived.Stop.Joined
import Derived.Lib.LaidTab
import Derived.Lib.LaidU8
import Derived.SevenTiedAt
import Derived.Test.YtniknhhejlgdfaaDoorBase5
import Derived.Test.YtniknhhejlgdfaaDoorBase7
import Derived.Test.YtniknhhejlgdfaaDoorBase8
/- A timeout with a QC of round 0 and without a TC that could be right. -/
namespace Go.Proofs.YtniknhhejlgdfaaDoor
open Go.RowKit

def tcC (e r : Int) (v : Value) : List Value := [.int .i64 e, .int .i64 r, v]
def tcV (e r : Int) (v : Value) : Value := .agg (tcC e r v).toArray
def sdC (who leaf : Int) (a b : Value) : List Value := [.int .i64 who, .int .i64 leaf, a, b]
/-- A timeout as it lies. -/
def toC (e r : Int) (q t s : List Value) : List Value := [.int .i64 e, .int .i64 r] ++ (q ++ (t ++ s))
theorem blk_mid {w : World} {b t : Nat} {xs pre ys post : List Value} (h : w.heap[b]? = some (.cells xs.toArray t (0, 0))) (e : xs = pre ++ (ys ++ post)) : w.rangeAt b pre.length ys := fun j u hu => blk_cell h (pre.length + j) u (by
  rw [e, List.getElem?_append_right (by omega), Nat.add_sub_cancel_left, List.getElem?_append_left (List.getElem?_eq_some_iff.1 hu).1]
  exact hu)

theorem Tryd.size58 : (Tryd.prog.info? 58).map (·.size) = some 3 := by kernel_rfl

set_option maxHeartbeats 4000000 in
set_option maxRecDepth 100000 in
theorem tcBad_any (e : Int) (vs : List Va) (A : Option Addr) (n c : Nat) (gen : List Int) (hg : gen.length = 16) (te tr : Int) (v : Value) (al : List Addr) (w : World) (hbad : beginN vs e te tr 1 ≠ 0) (hv : Vals w (.slice A n c) vs) (hs : SenN w al) :
    Calls Tryd.prog 65 #[gndV e (.slice A n c) gen, tcV te tr v] w fun x w' => x = .returned (errN al (beginN vs e te tr 1)) ∧ Below w.heap.size w w' := by
  have b0 : Below w.heap.size w ((w.alloc (.cells (gndC e (.slice A n c) gen).toArray 27)).alloc (.cells (tcC te tr v).toArray 58)) := ((Below.refl _ _).alloc (Nat.le_refl _) _).alloc (by simp) _
  have h0 : ((w.alloc (.cells (gndC e (.slice A n c) gen).toArray 27)).alloc (.cells (tcC te tr v).toArray 58)).heap[w.heap.size]? = some (.cells (gndC e (.slice A n c) gen).toArray 27 (0, 0)) := heap_alloc2_old w _ _
  have h1 : ((w.alloc (.cells (gndC e (.slice A n c) gen).toArray 27)).alloc (.cells (tcC te tr v).toArray 58)).heap[w.heap.size + 1]? = some (.cells (tcC te tr v).toArray 58 (0, 0)) := by
    have := heap_alloc_new (w.alloc (.cells (gndC e (.slice A n c) gen).toArray 27)) (.cells (tcC te tr v).toArray 58)
    rwa [World.size_alloc] at this
  have HV := Lib.hid (hv.below b0)
  have HS := Lib.hid (hs.below b0)
  have B0 := Lib.hid b0
  have G0 := Lib.hid (blk_range h0)
  have c0 : ((w.alloc (.cells (gndC e (.slice A n c) gen).toArray 27)).alloc (.cells (tcC te tr v).toArray 58)).cell? ⟨w.heap.size + 1, 0, none⟩ = some (.int .i64 te) := blk_cell h1 0 _ rfl
  have c1 : ((w.alloc (.cells (gndC e (.slice A n c) gen).toArray 27)).alloc (.cells (tcC te tr v).toArray 58)).cell? ⟨w.heap.size + 1, 1, none⟩ = some (.int .i64 tr) := blk_cell h1 1 _ rfl
  have h27 : (Tryd.prog.info? 27).map (·.size) = some (gndC e (.slice A n c) gen).length := by rw [gnd_len _ _ _ hg]; exact Tryd.size27
  have hle := beginN_le vs e te tr 1
  clear b0 hv hs h0 h1
  unfold gndV tcV
  go_enter Tryd.func65, Tryd.ntmps65
  go_wp2_with (refine wpList_load_g rfl 27 (.tmp 2) rfl w.heap.size 0 rfl (gndC e (.slice A n c) gen) _ G0.out Tryd.underlying27 rfl h27 ?_)
  refine (at_any e vs A n c gen te tr 1 al _ HV.out HS.out).mono ?_
  rintro _ w1 ⟨rfl, hb1⟩
  have B1 := Lib.hid (B0.out.trans (hb1.mono B0.out.size))
  obtain ⟨N, hN⟩ : ∃ N, N = beginN vs e te tr 1 := ⟨_, rfl⟩
  rw [← hN] at hbad hle
  obtain ⟨j, rfl⟩ : ∃ j, N = j + 1 := ⟨N - 1, by omega⟩
  obtain ⟨a, ha⟩ := HS.out.at j (by omega)
  have hea : Hid (errN al (beginN vs e te tr 1) = errV a) := Lib.hid (by rw [← hN]; exact errN_at ha)
  rw [hea.out]
  clear ha hbad hN hle c0 c1 hb1
  go_wp2
  go_ret
  exact ⟨by rw [hea.out]; rfl, B1.out⟩

set_option maxHeartbeats 4000000 in
set_option maxRecDepth 100000 in
theorem wayBad_any (e : Int) (vs : List Va) (A : Option Addr) (n c : Nat) (gen : List Int) (hg : gen.length = 16) (r qe qr : Int) (blk : List Int) (u : Value) (te tr : Int) (v : Value) (al : List Addr) (w : World) (hr : -1099511627776 ≤ r ∧ r ≤ 1099511627776) (hq : qr < r - 1) (hbad : beginN vs e te tr 1 ≠ 0) (hv : Vals w (.slice A n c) vs) (hs : SenN w al) :
    Calls Tryd.prog 46 #[gndV e (.slice A n c) gen, .int .i64 r, qcV qe qr blk u, tcV te tr v] w fun x w' => x = .returned (errN al (beginN vs e te tr 1)) ∧ Below w.heap.size w w' := by
  have b0 : Below w.heap.size w (((w.alloc (.cells (gndC e (.slice A n c) gen).toArray 27)).alloc (.cells (qcC qe qr blk u).toArray 37)).alloc (.cells (tcC te tr v).toArray 58)) := (((Below.refl _ _).alloc (Nat.le_refl _) _).alloc (by simp) _).alloc (by simp; omega) _
  have h0 : (((w.alloc (.cells (gndC e (.slice A n c) gen).toArray 27)).alloc (.cells (qcC qe qr blk u).toArray 37)).alloc (.cells (tcC te tr v).toArray 58)).heap[w.heap.size]? = some (.cells (gndC e (.slice A n c) gen).toArray 27 (0, 0)) := by
    exact (Below.heap_alloc _ _ _ (by simp; omega)).trans (heap_alloc2_old w _ _)
  have h1 : (((w.alloc (.cells (gndC e (.slice A n c) gen).toArray 27)).alloc (.cells (qcC qe qr blk u).toArray 37)).alloc (.cells (tcC te tr v).toArray 58)).heap[w.heap.size + 1]? = some (.cells (qcC qe qr blk u).toArray 37 (0, 0)) := by
    have := heap_alloc2_old (w.alloc (.cells (gndC e (.slice A n c) gen).toArray 27)) (.cells (qcC qe qr blk u).toArray 37) (.cells (tcC te tr v).toArray 58)
    rwa [World.size_alloc] at this
  have h2 : (((w.alloc (.cells (gndC e (.slice A n c) gen).toArray 27)).alloc (.cells (qcC qe qr blk u).toArray 37)).alloc (.cells (tcC te tr v).toArray 58)).heap[w.heap.size + 2]? = some (.cells (tcC te tr v).toArray 58 (0, 0)) := by
    have := heap_alloc_new ((w.alloc (.cells (gndC e (.slice A n c) gen).toArray 27)).alloc (.cells (qcC qe qr blk u).toArray 37)) (.cells (tcC te tr v).toArray 58)
    rwa [World.size_alloc, World.size_alloc] at this
  have HV := Lib.hid (hv.below b0)
  have HS := Lib.hid (hs.below b0)
  have B0 := Lib.hid b0
  have G0 := Lib.hid (blk_range h0)
  have T0 := Lib.hid (blk_range h2)
  have c1 : (((w.alloc (.cells (gndC e (.slice A n c) gen).toArray 27)).alloc (.cells (qcC qe qr blk u).toArray 37)).alloc (.cells (tcC te tr v).toArray 58)).cell? ⟨w.heap.size + 1, 1, none⟩ = some (.int .i64 qr) := blk_cell h1 1 _ rfl
  have h27 : (Tryd.prog.info? 27).map (·.size) = some (gndC e (.slice A n c) gen).length := by rw [gnd_len _ _ _ hg]; exact Tryd.size27
  have hle := beginN_le vs e te tr 1
  have hq1 : ¬ r ≤ qr := by omega
  have hsub : IntKind.i64.wrap (r - 1) = r - 1 := by rw [IntKind.wrap_i64]; omega
  have hq2 : (qr == r - 1) = false := by simp; omega
  clear b0 hv hs h0 h1 h2
  unfold gndV tcV qcV
  go_enter Tryd.func46, Tryd.ntmps46
  go_wp2_with (first | (refine wpList_load_g rfl 27 (.tmp 4) rfl w.heap.size 0 rfl (gndC e (.slice A n c) gen) _ G0.out Tryd.underlying27 rfl h27 ?_) | (refine wpList_load_g rfl 58 (.tmp 7) rfl (w.heap.size + 2) 0 rfl (tcC te tr v) _ T0.out Tryd.underlying58 rfl Tryd.size58 ?_))
  refine (tcBad_any e vs A n c gen hg te tr v al _ hbad HV.out HS.out).mono ?_
  rintro _ w1 ⟨rfl, hb1⟩
  have B1 := Lib.hid (B0.out.trans (hb1.mono B0.out.size))
  obtain ⟨N, hN⟩ : ∃ N, N = beginN vs e te tr 1 := ⟨_, rfl⟩
  rw [← hN] at hbad hle
  obtain ⟨j, rfl⟩ : ∃ j, N = j + 1 := ⟨N - 1, by omega⟩
  obtain ⟨a, ha⟩ := HS.out.at j (by omega)
  have hea : Hid (errN al (beginN vs e te tr 1) = errV a) := Lib.hid (by rw [← hN]; exact errN_at ha)
  rw [hea.out]
  clear ha hbad hN hle c1 hb1 hq1 hq2 hsub
  go_wp2
  go_ret
  exact ⟨by rw [hea.out]; rfl, B1.out⟩

set_option maxHeartbeats 4000000 in
set_option maxRecDepth 100000 in
theorem late0_any (e : Int) (vs : List Va) (A : Option Addr) (n c : Nat) (gen : List Int) (hg : gen.length = 16) (hval : validB vs = true) (s : List Value) (hsl : s.length = 4) (al : List Addr) (w : World) (hv : Vals w (.slice A n c) vs) (hs : SenN w al) :
    Calls Tryd.prog 27 #[gndV e (.slice A n c) gen, .agg (toC e 2 (qcC e 0 gen (.slice none 0 0)) (tcC 0 0 (.slice none 0 0)) s).toArray] w fun x w' => (∃ a, x = .returned (errV a)) ∧ Below w.heap.size w w' := by
  obtain ⟨TC, hTC⟩ : ∃ TC, TC = toC e 2 (qcC e 0 gen (.slice none 0 0)) (tcC 0 0 (.slice none 0 0)) s := ⟨_, rfl⟩
  rw [← hTC]
  have b0 : Below w.heap.size w ((w.alloc (.cells (gndC e (.slice A n c) gen).toArray 27)).alloc (.cells TC.toArray 77)) := ((Below.refl _ _).alloc (Nat.le_refl _) _).alloc (by simp) _
  have h0 : ((w.alloc (.cells (gndC e (.slice A n c) gen).toArray 27)).alloc (.cells TC.toArray 77)).heap[w.heap.size]? = some (.cells (gndC e (.slice A n c) gen).toArray 27 (0, 0)) := heap_alloc2_old w _ _
  have h1 : ((w.alloc (.cells (gndC e (.slice A n c) gen).toArray 27)).alloc (.cells TC.toArray 77)).heap[w.heap.size + 1]? = some (.cells TC.toArray 77 (0, 0)) := by
    have := heap_alloc_new (w.alloc (.cells (gndC e (.slice A n c) gen).toArray 27)) (.cells TC.toArray 77)
    rwa [World.size_alloc] at this
  have HV := Lib.hid (hv.below b0)
  have HS := Lib.hid (hs.below b0)
  have B0 := Lib.hid b0
  have G0 := Lib.hid h0
  have T0 := Lib.hid h1
  have c0 : ((w.alloc (.cells (gndC e (.slice A n c) gen).toArray 27)).alloc (.cells TC.toArray 77)).cell? ⟨w.heap.size + 1, 0, none⟩ = some (.int .i64 e) := blk_cell h1 0 _ (by rw [hTC]; rfl)
  have c1 : ((w.alloc (.cells (gndC e (.slice A n c) gen).toArray 27)).alloc (.cells TC.toArray 77)).cell? ⟨w.heap.size + 1, 1, none⟩ = some (.int .i64 2) := blk_cell h1 1 _ (by rw [hTC]; rfl)
  have h27 : (Tryd.prog.info? 27).map (·.size) = some (gndC e (.slice A n c) gen).length := by rw [gnd_len _ _ _ hg]; exact Tryd.size27
  have h37 : (Tryd.prog.info? 37).map (·.size) = some (qcC e 0 gen (.slice none 0 0)).length := by rw [qc_len _ _ _ _ hg]; exact Tryd.size37
  have hq : ∀ W : World, W.heap[w.heap.size + 1]? = some (.cells TC.toArray 77 (0, 0)) → W.rangeAt (w.heap.size + 1) 2 (qcC e 0 gen (.slice none 0 0)) := fun W h => blk_mid (pre := [.int .i64 e, .int .i64 2]) (post := tcC 0 0 (.slice none 0 0) ++ s) h (by rw [hTC]; rfl)
  have ht : ∀ W : World, W.heap[w.heap.size + 1]? = some (.cells TC.toArray 77 (0, 0)) → W.rangeAt (w.heap.size + 1) 21 (tcC 0 0 (.slice none 0 0)) := fun W h => by
    have := blk_mid (pre := [.int .i64 e, .int .i64 2] ++ qcC e 0 gen (.slice none 0 0)) (ys := tcC 0 0 (.slice none 0 0)) (post := s) h (by rw [hTC]; simp [toC])
    rwa [List.length_append, qc_len _ _ _ _ hg] at this
  have hc1 : ∀ W : World, W.heap[w.heap.size + 1]? = some (.cells TC.toArray 77 (0, 0)) → W.cell? ⟨w.heap.size + 1, 1, none⟩ = some (.int .i64 2) := fun W h => blk_cell h 1 _ (by rw [hTC]; rfl)
  have HC1 := Lib.hid hc1
  have HQ := Lib.hid hq
  have HT := Lib.hid ht
  have R0 := Lib.hid (blk_range h0)
  have hbeg : beginN vs e e 2 1 = 0 := by unfold beginN; rw [if_neg (by simp [hval]), if_neg (by simp), if_neg (by omega)]
  have hqc : qc0N vs e gen e gen 0 = 0 := by unfold qc0N; rw [show beginN vs e e 0 0 = 0 by unfold beginN; rw [if_neg (by simp [hval]), if_neg (by simp), if_neg (by omega)]]; rw [if_pos rfl, if_pos ⟨rfl, rfl⟩]
  have hbad : beginN vs e 0 0 1 ≠ 0 := by unfold beginN; rw [if_neg (by simp [hval])]; split <;> (try split) <;> omega
  have HBEG := Lib.hid hbeg
  have HQC := Lib.hid hqc
  have HBAD := Lib.hid hbad
  clear b0 hv hs h0 h1 hTC hbeg hqc hbad hval hq ht hc1
  unfold gndV
  go_enter Tryd.func27, Tryd.ntmps27
  go_wp2_with (refine wpList_load_g rfl 27 (.tmp 2) rfl w.heap.size 0 rfl (gndC e (.slice A n c) gen) _ R0.out Tryd.underlying27 rfl h27 ?_)
  refine (at_any e vs A n c gen e 2 1 al _ HV.out HS.out).mono ?_
  rintro _ w1 ⟨rfl, hb1⟩
  rw [HBEG.out, show errN al 0 = Value.nilIface from rfl]
  have B1 := Lib.hid (B0.out.trans (hb1.mono B0.out.size))
  have V1 := Lib.hid (HV.out.below hb1)
  have S1 := Lib.hid (HS.out.below hb1)
  have G1 := Lib.hid (blk_below G0.out hb1)
  have T1 := Lib.hid (blk_below T0.out hb1)
  have R1 := Lib.hid (blk_range G1.out)
  have Q1 := Lib.hid (HQ.out _ T1.out)
  clear hb1 c0 c1
  go_wp2_with (first | (refine wpList_load_g rfl 27 (.tmp 2) rfl w.heap.size 0 rfl (gndC e (.slice A n c) gen) _ R1.out Tryd.underlying27 rfl h27 ?_) | (refine wpList_load_g rfl 37 (.tmp 18) rfl (w.heap.size + 1) 2 rfl (qcC e 0 gen (.slice none 0 0)) _ Q1.out Tryd.underlying37 rfl h37 ?_))
  refine (qc0_any e vs A n c gen hg e gen hg none 0 0 al _ V1.out S1.out).mono ?_
  rintro _ w2 ⟨rfl, hb2⟩
  rw [HQC.out, show errN al 0 = Value.nilIface from rfl]
  have B2 := Lib.hid (B1.out.trans (hb2.mono B1.out.size))
  have V2 := Lib.hid (V1.out.below hb2)
  have S2 := Lib.hid (S1.out.below hb2)
  have T2 := Lib.hid (blk_below T1.out hb2)
  have R2 := Lib.hid (blk_range (blk_below G1.out hb2))
  have Q2 := Lib.hid (HQ.out _ T2.out)
  have X2 := Lib.hid (HT.out _ T2.out)
  have c1 : w2.cell? ⟨w.heap.size + 1, 1, none⟩ = some (.int .i64 2) := HC1.out _ T2.out
  clear hb2
  go_wp2_with (first | (refine wpList_load_g rfl 27 (.tmp 2) rfl w.heap.size 0 rfl (gndC e (.slice A n c) gen) _ R2.out Tryd.underlying27 rfl h27 ?_) | (refine wpList_load_g rfl 37 (.tmp 27) rfl (w.heap.size + 1) 2 rfl (qcC e 0 gen (.slice none 0 0)) _ Q2.out Tryd.underlying37 rfl h37 ?_) | (refine wpList_load_g rfl 58 (.tmp 29) rfl (w.heap.size + 1) 21 rfl (tcC 0 0 (.slice none 0 0)) _ X2.out Tryd.underlying58 rfl Tryd.size58 ?_))
  refine (wayBad_any e vs A n c gen hg 2 e 0 gen (.slice none 0 0) 0 0 (.slice none 0 0) al _ (by omega) (by omega) HBAD.out V2.out S2.out).mono ?_
  rintro _ w3 ⟨rfl, hb3⟩
  have B3 := Lib.hid (B2.out.trans (hb3.mono B2.out.size))
  have hle := beginN_le vs e 0 0 1
  obtain ⟨N, hN⟩ : ∃ N, N = beginN vs e 0 0 1 := ⟨_, rfl⟩
  have hbad := HBAD.out
  rw [← hN] at hbad hle ⊢
  obtain ⟨j, rfl⟩ : ∃ j, N = j + 1 := ⟨N - 1, by omega⟩
  obtain ⟨a, ha⟩ := S2.out.at j (by omega)
  have hea := Lib.hid (errN_at ha)
  rw [hea.out]
  clear ha hbad hN hle c1 hb3
  go_wp2
  go_ret
  exact ⟨⟨a, rfl⟩, B3.out⟩
end Go.Proofs.YtniknhhejlgdfaaDoor
/- An aggregate is built of parts that are known; the plain step and the one within a round. -/
namespace Go.Proofs.YtniknhhejlgdfaaDoor
open Go.RowKit

section
variable {P : Program} {ops : Array Oper} {rest : List Oper} {o : Oper} {a : Act} {w : World} {Q : Exit → Act → World → Prop}
theorem wp_bld {K : Act → World → Prop} (t : TypeId) (parts : Array (Nat × Operand)) (ho : o.op = .build t parts) (ps : Array (Nat × Value)) (he : (parts.map fun (i, x) => (i, a.eval x)) = ps) (v : Value)
    (hr : (Instr.build t ps).run P w = .ok v w) (h : K (a.put o.dst v) w) : o.wp P a w K Q := by
  unfold Oper.wp execOp
  simp only [ho, Sem.run_bind, he, hr, Result.andThen_ok]
  exact h
theorem wpList_bld (hw : Region.wanted o (yielded ops a.tmps) = true) (t : TypeId) (parts : Array (Nat × Operand)) (ho : o.op = .build t parts) (ps : Array (Nat × Value)) (he : (parts.map fun (i, x) => (i, a.eval x)) = ps) (v : Value)
    (hr : (Instr.build t ps).run P w = .ok v w) (h : wpList P ops Q rest (a.put o.dst v) w) : wpList P ops Q (o :: rest) a w := by
  refine wpList_step fun K hK => ?_
  rw [if_pos hw]
  exact wp_bld t parts ho ps he v hr (hK _ _ h)
theorem wpListIn_bld {n : Nat} {F : Fence} (hF : ∃ ro, F = AtRound ro) (hw : Region.wanted o (yielded ops a.tmps) = true) (t : TypeId) (parts : Array (Nat × Operand)) (ho : o.op = .build t parts) (ps : Array (Nat × Value)) (he : (parts.map fun (i, x) => (i, a.eval x)) = ps) (v : Value)
    (hr : (Instr.build t ps).run P w = .ok v w) (h : wpListIn F n P ops Q rest (a.put o.dst v) w) : wpListIn F n P ops Q (o :: rest) a w := by
  obtain ⟨ro, rfl⟩ := hF
  exact wpListIn_op ro hw (fun c e => by rw [ho] at e; cases e) fun _ hK => wp_bld t parts ho ps he v hr (hK _ _ h)
end
theorem len16 {xs : List Int} (h : xs.length = 16) : ∃ a b c d e f g i j k l m n o p q, xs = [a, b, c, d, e, f, g, i, j, k, l, m, n, o, p, q] := by
  match xs, h with
  | [a, b, c, d, e, f, g, i, j, k, l, m, n, o, p, q], _ => exact ⟨_, _, _, _, _, _, _, _, _, _, _, _, _, _, _, _, rfl⟩
set_option maxRecDepth 100000 in
theorem build27 (e : Int) (A : Option Addr) (n c : Nat) (gen : List Int) (hg : gen.length = 16) (W : World) : (Instr.build 27 #[(0, .int .i64 e), (1, .slice A n c), (2, .agg (u8s gen).toArray)]).run Tryd.prog W = .ok (.agg (gndC e (.slice A n c) gen).toArray) W := by
  obtain ⟨_, _, _, _, _, _, _, _, _, _, _, _, _, _, _, _, rfl⟩ := len16 hg
  exact run_build W 27 _ _ (by kernel_rfl)
set_option maxRecDepth 100000 in
theorem build37 (e : Int) (blk : List Int) (hg : blk.length = 16) (W : World) : (Instr.build 37 #[(0, .int .i64 e), (2, .agg (u8s blk).toArray)]).run Tryd.prog W = .ok (.agg (qcC e 0 blk (.slice none 0 0)).toArray) W := by
  obtain ⟨_, _, _, _, _, _, _, _, _, _, _, _, _, _, _, _, rfl⟩ := len16 hg
  exact run_build W 37 _ _ (by kernel_rfl)
set_option maxRecDepth 100000 in
theorem build77 (e r : Int) (blk : List Int) (hg : blk.length = 16) (W : World) : (Instr.build 77 #[(0, .int .i64 e), (1, .int .i64 r), (2, .agg (qcC e 0 blk (.slice none 0 0)).toArray)]).run Tryd.prog W = .ok (.agg (toC e r (qcC e 0 blk (.slice none 0 0)) (tcC 0 0 (.slice none 0 0)) (sdC 0 0 (.slice none 0 0) (.slice none 0 0))).toArray) W := by
  obtain ⟨_, _, _, _, _, _, _, _, _, _, _, _, _, _, _, _, rfl⟩ := len16 hg
  exact run_build W 77 _ _ (by kernel_rfl)
end Go.Proofs.YtniknhhejlgdfaaDoor
/- Single operations of a region that draws its order. -/
namespace Go.Proofs.YtniknhhejlgdfaaDoor
open Go.RowKit
variable {P : Program} {o : Oper} {ρ : Operand → Value} {w w' : World} {S : Value → World → Prop}

theorem gives_convert (s d : TypeId) (x : Operand) (ho : o.op = .convert s d x) (a v : Value) (hx : ρ x = a) (hr : (convert s d a).run P w = .ok v w') (h : S v w') : Gives P o ρ w S := by
  refine gives_val v (w' := w') ?_ h
  unfold execOp
  simp only [ho, hx, Sem.run_bind, hr, Result.andThen_ok, Sem.run_pure]
theorem gives_unOp (op : UnOp) (t : TypeId) (x : Operand) (ho : o.op = .unOp op t x) (a v : Value) (hx : ρ x = a) (hr : (Op.unary op a).run P w = .ok v w') (h : S v w') : Gives P o ρ w S := by
  refine gives_val v (w' := w') ?_ h
  unfold execOp
  simp only [ho, hx, Sem.run_bind, hr, Result.andThen_ok, Sem.run_pure]
end Go.Proofs.YtniknhhejlgdfaaDoor
/- append of one digest in a region that draws its order; worlds that change in some blocks alone. -/
namespace Go.Proofs.YtniknhhejlgdfaaDoor
open Go.RowKit

theorem gives_fieldAddr' {P : Program} {o : Oper} {ρ : Operand → Value} {w w' : World} {S : Value → World → Prop} (t : TypeId) (x : Operand) (k : Nat) (ho : o.op = .fieldAddr t x k) (a v : Value) (hx : ρ x = a) (hr : (Instr.fieldAt t a k).run P w = .ok v w') (h : S v w') : Gives P o ρ w S := by
  refine gives_val v (w' := w') ?_ h
  unfold execOp
  simp only [ho, hx, Sem.run_bind, hr, Result.andThen_ok, Sem.run_pure]

end Go.Proofs.YtniknhhejlgdfaaDoor
/- The law on regions that draw their order, where the last operations come one behind the other. -/
namespace Go.Proofs.YtniknhhejlgdfaaDoor
open Go.RowKit
section
variable {P : Program} {ops : Array Oper} {E : World → World → Prop} {R : Nat → World → Value → Prop} {w0 : World} {Q : Exit → Act → World → Prop} {a0 : Act}
/-- From m on the operations come one behind the other, behind all others. -/
def tailOk2 (ops : Array Oper) (m : Nat) : Bool :=
  decide (m ≤ ops.size) && (List.range ops.size).all fun i => decide (i < m) || (if i = m then (List.range m).all (edgeTo ops i) else edgeTo ops i (i - 1))
theorem tailOk2_spec {m : Nat} (h : tailOk2 ops m = true) : m ≤ ops.size ∧ ∀ i o, m ≤ i → ops[i]? = some o → (i = m → ∀ j, j < m → ∃ e ∈ o.after.toList, Region.binds .any e = true ∧ e.on = j) ∧ (m < i → ∃ e ∈ o.after.toList, Region.binds .any e = true ∧ e.on = i - 1) := by
  simp only [tailOk2, Bool.and_eq_true, decide_eq_true_eq, List.all_eq_true, List.mem_range, Bool.or_eq_true] at h
  refine ⟨h.1, fun i o hm ho => ?_⟩
  have hi : i < ops.size := (Array.getElem?_eq_some_iff.1 ho).1
  rcases h.2 i hi with h2 | h2
  · omega
  · constructor
    · intro e j hj
      rw [if_pos e, List.all_eq_true] at h2
      exact edgeTo_spec (h2 j (by simpa using hj)) ho
    · intro e
      rw [if_neg (by omega)] at h2
      exact edgeTo_spec h2 ho

theorem seq_sound2 {m : Nat} (hs : sane ops = true) (ht : tailOk2 ops m = true) : ∀ (fuel i : Nat) (listed : Array Bool) (a : Act) (w : World), m ≤ i → listed.size = ops.size →
    (∀ j, j < ops.size → listed.getD j false = decide (j < i)) → ops.size ≤ fuel + i → i ≤ ops.size → wpList P ops Q (ops.toList.drop i) a w → wpAny P .any ops Q fuel listed a w := by
  obtain ⟨_, ht⟩ := tailOk2_spec ht
  have hready : ∀ (i : Nat) (listed : Array Bool), m ≤ i → listed.size = ops.size → (∀ j, j < ops.size → listed.getD j false = decide (j < i)) → ∀ k, k ∈ Region.ready .any ops listed → k = i ∧ i < ops.size := by
    intro i listed hmi hsz hL k hk
    simp only [Region.ready, List.mem_filter, List.mem_range] at hk
    obtain ⟨hkn, hrd⟩ := hk
    have ho : ops[k]? = some ops[k] := by simp [hkn]
    generalize ops[k] = o at ho
    rw [ho] at hrd
    simp only [Bool.and_eq_true, Bool.not_eq_true', Option.map_some, Option.getD_some, Array.all_eq_true', Bool.or_eq_true] at hrd
    obtain ⟨h1, h2⟩ := hrd
    rw [getD_tf (by omega), hL k hkn] at h1
    have hik : i ≤ k := by simpa using h1
    rcases Nat.lt_or_ge i k with hlt | hge
    · obtain ⟨e, he, hb, hon⟩ := (ht k o (by omega) ho).2 (by omega)
      rcases h2 e (by simpa using he) with h | h
      · rw [hb] at h; cases h
      · rw [hon, hL (k - 1) (by omega)] at h
        simp at h
        omega
    · exact ⟨by omega, by omega⟩
  intro fuel
  induction fuel with
  | zero =>
    intro i listed a w hmi hsz hL hf hin hw
    have hi : i = ops.size := by omega
    subst hi
    have hnil : Region.ready .any ops listed = [] := by
      cases hr : Region.ready .any ops listed with
      | nil => rfl
      | cons x xs => have := hready _ listed hmi hsz hL x (by rw [hr]; simp); omega
    refine ⟨hnil, ?_⟩
    rw [List.drop_of_length_le (by simp)] at hw
    exact hw
  | succ fuel ih =>
    intro i listed a w hmi hsz hL hf hin hw
    refine ⟨fun hnil => ?_, fun k hk => ?_⟩
    · rcases Nat.lt_or_ge i ops.size with hlt | hge
      · exfalso
        have ho : ops[i]? = some ops[i] := by simp [hlt]
        have hmem : i ∈ Region.ready .any ops listed := by
          simp only [Region.ready, List.mem_filter, List.mem_range]
          refine ⟨hlt, ?_⟩
          rw [getD_tf (by omega), hL i hlt, ho]
          simp only [Nat.lt_irrefl, decide_false, Bool.not_false, Bool.true_and, Option.map_some, Option.getD_some, Array.all_eq_true', Bool.or_eq_true]
          intro e he
          cases hb : Region.binds .any e with
          | false => exact .inl rfl
          | true =>
            have := (sane_spec hs ho).1 e (by simpa using he) hb
            exact .inr (by rw [hL _ (by omega)]; simpa using this)
        rw [hnil] at hmem
        cases hmem
      · have hi : i = ops.size := by omega
        subst hi
        rw [List.drop_of_length_le (by simp)] at hw
        exact hw
    · obtain ⟨rfl, hlt⟩ := hready i listed hmi hsz hL k hk
      have ho : ops[k]? = some ops[k] := by simp [hlt]
      rw [List.drop_eq_getElem_cons (by simpa using hlt)] at hw
      simp only [Array.getElem_toList] at hw
      generalize ops[k] = o at ho hw
      simp only [wpOp, ho]
      refine (?_ : (if Region.wanted o (yielded ops a.tmps) then o.wp P a w _ Q ∨ (o.asks P a w ∧ LetsOut Q) else _))
      have hnext : ∀ a' w', wpList P ops Q (ops.toList.drop (k + 1)) a' w' → wpAny P .any ops Q fuel (listed.setIfInBounds k true) a' w' := fun a' w' h =>
        ih (k + 1) _ a' w' (by omega) (by simp [hsz]) (fun j hj => by
          simp only [Array.getD_eq_getD_getElem?, Array.getElem?_setIfInBounds]
          by_cases e : k = j
          · subst e; simp [hsz, hlt]
          · rw [if_neg e]
            have := hL j hj
            simp only [Array.getD_eq_getD_getElem?] at this
            rw [this]
            rw [Bool.eq_iff_iff]
            simp
            omega) (by omega) (by omega) h
      unfold wpList at hw
      split
      · rename_i hwt
        rw [if_pos hwt] at hw
        exact hw.imp (Oper.wp_mono hnext) id
      · rename_i hwt
        rw [if_neg hwt] at hw
        exact hnext _ _ hw

theorem rely_sound2 {m : Nat} (hE0 : ∀ w, E w w) (hE : ∀ {a b c}, E a b → E b c → E a c) (hs : sane ops = true) (ht : tailOk2 ops m = true)
    (hstep : ∀ j o, j < m → ops[j]? = some o → StepOk P ops E R w0 (fun vs => mix (fun k => decide (k < j)) vs 0 ops.toList a0) j o)
    (hend : ∀ vs w, E w0 w → (∀ j, j < m → R j w (vs j)) → wpList P ops Q (ops.toList.drop m) (mix (fun k => decide (k < m)) vs 0 ops.toList a0) w) :
    ∀ (fuel : Nat) (listed : Array Bool) (vs : Nat → Value) (w : World), listed.size = ops.size → unl (fun j => listed.getD j false) m + (ops.size - m) ≤ fuel → E w0 w →
      (∀ j, listed.getD j false = true → j < m) →
      (∀ j, listed.getD j false = true → ∀ w', E w w' → R j w' (vs j)) →
      (∀ j o, ops[j]? = some o → listed.getD j false = true → ∀ e ∈ o.after.toList, Region.binds .any e = true → listed.getD e.on false = true) →
      wpAny P .any ops Q fuel listed (mix (fun j => listed.getD j false) vs 0 ops.toList a0) w := by
  obtain ⟨hmn, htl⟩ := tailOk2_spec ht
  have hall : ∀ (fuel : Nat) (listed : Array Bool) (vs : Nat → Value) (w : World), listed.size = ops.size → unl (fun j => listed.getD j false) m = 0 → ops.size ≤ fuel + m → E w0 w →
      (∀ j, listed.getD j false = true → j < m) →
      (∀ j, listed.getD j false = true → ∀ w', E w w' → R j w' (vs j)) → wpAny P .any ops Q fuel listed (mix (fun j => listed.getD j false) vs 0 ops.toList a0) w := by
    intro fuel listed vs w hsz hz hf he hlm hR
    have hmk := unl_zero m hz
    have hL : ∀ j, listed.getD j false = decide (j < m) := by
      intro j
      by_cases h : j < m
      · rw [hmk j h]; simp [h]
      · cases hb : listed.getD j false with
        | true => exact absurd (hlm j hb) h
        | false => simp [h]
    refine seq_sound2 hs ht fuel m listed _ w (Nat.le_refl _) hsz (fun j _ => hL j) hf hmn ?_
    have hm : mix (fun j => listed.getD j false) vs 0 ops.toList a0 = mix (fun k => decide (k < m)) vs 0 ops.toList a0 := by
      refine act_ext (by simp [mix_size]) (by simp [mix_defers]) (fun t => ?_)
      rw [mix_get, mix_get, lastW_congr _ (fun k => decide (k < m)) vs vs t ops.toList 0 (fun j o hj _ => ⟨by
        simp only [Nat.zero_add]
        exact hL j, fun _ => rfl⟩)]
    rw [hm]
    exact hend vs w he (fun j hj => hR j (hmk j hj) w (hE0 w))
  intro fuel
  induction fuel with
  | zero =>
    intro listed vs w hsz hu he hlm hR hcl
    exact hall 0 listed vs w hsz (by omega) (by omega) he hlm hR
  | succ fuel ih =>
    intro listed vs w hsz hu he hlm hR hcl
    by_cases hz : unl (fun j => listed.getD j false) m = 0
    · exact hall (fuel + 1) listed vs w hsz hz (by omega) he hlm hR
    have hnot : ¬ ∀ j, j < m → listed.getD j false = true := fun h => hz (by
      have : ∀ k, k ≤ m → unl (fun j => listed.getD j false) k = 0 := by
        intro k
        induction k with
        | zero => intro _; rfl
        | succ k ihk => intro hk; have e1 := ihk (by omega); have e2 := h k (by omega); simp only [unl, e1, e2, if_true]
      exact this m (Nat.le_refl _))
    have hrm : ∀ i ∈ Region.ready .any ops listed, i < m := by
      intro i hi
      simp only [Region.ready, List.mem_filter, List.mem_range] at hi
      obtain ⟨hin, hrd⟩ := hi
      have ho : ops[i]? = some ops[i] := by simp [hin]
      generalize ops[i] = o at ho
      rw [ho] at hrd
      simp only [Bool.and_eq_true, Bool.not_eq_true', Option.map_some, Option.getD_some, Array.all_eq_true', Bool.or_eq_true] at hrd
      rcases Nat.lt_or_ge i m with h | h
      · exact h
      · exfalso
        by_cases him : i = m
        · refine hnot fun j hj => ?_
          obtain ⟨e, hem, hb, hon⟩ := (htl i o h ho).1 him j hj
          rcases hrd.2 e (by simpa using hem) with h2 | h2
          · rw [hb] at h2; cases h2
          · rw [hon] at h2; exact h2
        · obtain ⟨e, hem, hb, hon⟩ := (htl i o h ho).2 (by omega)
          rcases hrd.2 e (by simpa using hem) with h2 | h2
          · rw [hb] at h2; cases h2
          · rw [hon] at h2
            have := hlm (i - 1) h2
            omega
    refine ⟨fun hr => ?_, fun i hi => ?_⟩
    · exfalso
      refine hnot fun j => ?_
      induction j using Nat.strongRecOn with
      | ind j ihj =>
        intro hj
        cases hL : listed.getD j false with
        | true => rfl
        | false =>
          exfalso
          have ho : ops[j]? = some ops[j] := by simp [show j < ops.size by omega]
          have hmem : j ∈ Region.ready .any ops listed := by
            simp only [Region.ready, List.mem_filter, List.mem_range]
            refine ⟨by omega, ?_⟩
            rw [getD_tf (by omega), hL, ho]
            simp only [Bool.not_false, Bool.true_and, Option.map_some, Option.getD_some, Array.all_eq_true', Bool.or_eq_true]
            intro e hm
            obtain ⟨h1, _⟩ := sane_spec hs ho
            cases hb : Region.binds .any e with
            | false => exact .inl rfl
            | true =>
              have h2 := h1 e (by simpa using hm) hb
              exact .inr (ihj e.on h2 (by omega))
          rw [hr] at hmem
          cases hmem
    have him := hrm i hi
    simp only [Region.ready, List.mem_filter, List.mem_range] at hi
    obtain ⟨hin, hrd⟩ := hi
    have ho : ops[i]? = some ops[i] := by simp [hin]
    generalize ops[i] = o at ho
    rw [ho] at hrd
    simp only [Bool.and_eq_true, Bool.not_eq_true', Option.map_some, Option.getD_some, Array.all_eq_true', Bool.or_eq_true] at hrd
    obtain ⟨hLi, hdeps⟩ := hrd
    have hLi' : listed.getD i false = false := by
      simp only [Array.getD_eq_getD_getElem?] at hLi ⊢
      rw [Array.getElem?_eq_getElem (by omega)] at hLi ⊢
      simpa using hLi
    obtain ⟨s1, s2, s3, s4⟩ := sane_spec hs ho
    have hdone : ∀ e ∈ o.after.toList, Region.binds .any e = true → listed.getD e.on false = true := by
      intro e hm hb
      rcases hdeps e (by simpa using hm) with h | h
      · rw [hb] at h; cases h
      · exact h
    have hget : ∀ t, t ∈ o.looksAt ops → (mix (fun j => listed.getD j false) vs 0 ops.toList a0).tmps[t]? = (mix (fun k => decide (k < i)) vs 0 ops.toList a0).tmps[t]? := by
      intro t ht
      rw [mix_get, mix_get, lastW_congr _ (fun k => decide (k < i)) vs vs t ops.toList 0 (fun j p hj hd => ⟨?_, fun _ => rfl⟩)]
      simp only [Nat.zero_add]
      have hp : ops[j]? = some p := by simpa using hj
      obtain ⟨h1, h2⟩ := s3 j p t hp hd ht
      rcases Nat.lt_trichotomy j i with hlt | heq | hgt
      · obtain ⟨e, hm, hb, rfl⟩ := h1 hlt
        rw [hdone e hm hb]
        simp [hlt]
      · subst heq
        rw [hLi']
        simp
      · obtain ⟨e, hm, hb, hon⟩ := h2 hgt
        cases hL : listed.getD j false with
        | false => simp; omega
        | true =>
          have := hcl j p hp hL e hm hb
          rw [hon, hLi'] at this
          cases this
    have hev : ∀ x ∈ o.op.operands, (mix (fun j => listed.getD j false) vs 0 ops.toList a0).eval x = (mix (fun k => decide (k < i)) vs 0 ops.toList a0).eval x := by
      intro x hx
      cases x with
      | tmp t =>
        have ht : t ∈ o.looksAt ops := by
          simp only [Oper.looksAt, List.mem_append, List.mem_filterMap]
          exact .inl ⟨.tmp t, by simpa using hx, rfl⟩
        exact eval_of_get (hget t ht)
      | _ => rfl
    have hexec := execOp_congr o s2 hev
    have hw : Region.wanted o (yielded ops (mix (fun j => listed.getD j false) vs 0 ops.toList a0).tmps) = Region.wanted o (yielded ops (mix (fun k => decide (k < i)) vs 0 ops.toList a0).tmps) := by
      unfold Region.wanted
      cases hg : o.guard with
      | none => rfl
      | some g =>
        obtain ⟨j, want⟩ := g
        have : yielded ops (mix (fun j => listed.getD j false) vs 0 ops.toList a0).tmps j = yielded ops (mix (fun k => decide (k < i)) vs 0 ops.toList a0).tmps j := by
          unfold yielded
          cases hj : (ops[j]?).bind (·.dst) with
          | none => rfl
          | some t =>
            have ht : t ∈ o.looksAt ops := by
              simp only [Oper.looksAt, List.mem_append]
              exact .inr (by simp [hg, hj])
            simp only [Option.bind_some, hget t ht]
        simp only [this]
    have hD : Deps R vs w o.after.toList := Deps.of fun e hm hb => hR e.on (hdone e hm hb) w (hE0 w)
    have hst := hstep i o him ho vs w he hD
    -- what is left when op i has given v in w'
    have hnext : ∀ v w', E w w' → (∀ w'', E w' w'' → R i w'' v) →
        wpAny P .any ops Q fuel (listed.setIfInBounds i true) ((mix (fun j => listed.getD j false) vs 0 ops.toList a0).put o.dst v) w' := by
      intro v w' hew hr
      have hup : ∀ j, (listed.setIfInBounds i true).getD j false = if j = i then true else listed.getD j false := by
        intro j
        simp only [Array.getD_eq_getD_getElem?, Array.getElem?_setIfInBounds]
        by_cases e : i = j
        · subst e; simp [hsz, hin]
        · rw [if_neg e, if_neg (fun h => e h.symm)]
      have hmix : (mix (fun j => listed.getD j false) vs 0 ops.toList a0).put o.dst v =
          mix (fun j => (listed.setIfInBounds i true).getD j false) (fun j => if j = i then v else vs j) 0 ops.toList a0 := by
        refine act_ext (by simp [put_size, mix_size]) (by simp [put_defers, mix_defers]) (fun t => ?_)
        rw [put_get, mix_size]
        by_cases hd : o.dst = some t
        · rw [if_pos hd, mix_get, lastW_at _ _ t ops.toList 0 i o (by simpa using ho) hd (by rw [hup]; simp) (fun j p hj hd' => (s4 j p t (by simpa using hj) hd' hd).symm)]
          simp
        · rw [if_neg hd, mix_get, mix_get]
          rw [lastW_congr (fun j => listed.getD j false) (fun j => (listed.setIfInBounds i true).getD j false) vs (fun j => if j = i then v else vs j) t ops.toList 0 (fun j p hj hd' => ?_)]
          simp only [Nat.zero_add]
          have hne : j ≠ i := by
            intro e
            subst e
            have : p = o := by
              have h1 : ops[j]? = some p := by simpa using hj
              rw [ho] at h1
              exact (Option.some.inj h1).symm
            exact hd (this ▸ hd')
          simp [hup, hne]
      rw [hmix]
      refine ih _ _ _ (by simp [hsz]) ?_ (hE he hew) ?_ ?_ ?_
      · have := unl_mark (L := fun j => listed.getD j false) (L' := fun j => (listed.setIfInBounds i true).getD j false) hLi' (by simp [hup]) (fun j hj => by simp [hup, hj]) m him
        omega
      · intro j hj
        rw [hup] at hj
        by_cases e : j = i
        · omega
        · rw [if_neg e] at hj
          exact hlm j hj
      · intro j hj w2 hw2
        by_cases e : j = i
        · subst e
          simpa using hr w2 hw2
        · simp only [if_neg e]
          refine hR j ?_ w2 (hE hew hw2)
          rw [hup, if_neg e] at hj
          exact hj
      · intro j p hp hj e hm hb
        rw [hup] at hj ⊢
        by_cases ej : j = i
        · subst ej
          have : p = o := by rw [ho] at hp; exact (Option.some.inj hp).symm
          subst this
          split
          · rfl
          · exact hdone e hm hb
        · rw [if_neg ej] at hj
          split
          · rfl
          · exact hcl j p hp hj e hm hb
    simp only [wpOp, ho, hw]
    split
    · rename_i hwt
      rw [if_pos hwt] at hst
      refine .inl ?_
      unfold Oper.wp
      unfold Gives at hst
      rw [hexec]
      generalize (execOp (mix (fun k => decide (k < i)) vs 0 ops.toList a0).eval o).run P w = r at hst
      cases r with
      | halt x w' => simp at hst
      | ok x w' =>
        cases x with
        | value v => exact hnext v w' hst.1 hst.2
        | skip => exact hnext undef w' hst.1 hst.2
        | enter g args =>
          simp only [Oper.upon]
          refine Calls.mono hst ?_
          rintro e w'' ⟨v, rfl, h1, h2⟩
          exact hnext v w'' h1 h2
        | _ => simp at hst
    · rename_i hwt
      rw [if_neg hwt] at hst
      exact hnext undef w (hE0 w) hst

/-- THE LAW. -/
theorem wp_region_rely2 {id : Nat} {l : List Oper} {a : Act} {w : World} (hm : P.follows .mixedOrders = true) (m : Nat) (hs : sane l.toArray = true) (ht : tailOk2 l.toArray m = true)
    (E : World → World → Prop) (hE0 : ∀ w, E w w) (hE : ∀ {a b c}, E a b → E b c → E a c)
    (R : Nat → World → Value → Prop) (h : Rely P l.toArray E R w.drew Q (l.drop m) 0 (fun _ => a) (l.take m)) : (Code.region id l.toArray true).wp P Q a w := by
  obtain ⟨h1, h2⟩ := rely_get (l.take m) 0 _ h
  obtain ⟨hmn, _⟩ := tailOk2_spec ht
  have hmn' : m ≤ l.length := by simpa using hmn
  refine wp_region_any hm ?_
  have h0 : ∀ j, (Array.replicate l.toArray.size false).getD j false = false := by
    intro j
    simp only [Array.getD_eq_getD_getElem?, Array.getElem?_replicate]
    split <;> rfl
  have hmix : ∀ vs : Nat → Value, mix (fun j => (Array.replicate l.toArray.size false).getD j false) vs 0 l.toArray.toList a = a := by
    intro vs
    refine act_ext (by simp [mix_size]) (by simp [mix_defers]) (fun t => ?_)
    rw [mix_get, lastW_none _ _ _ _ _ (fun j o _ _ => h0 _)]
  have hdrop : ∀ (L : Nat → Bool) (vs : Nat → Value) (t : Nat), (∀ j, L j = true → j < m) → lastW L vs t 0 l = lastW L vs t 0 (l.take m) := by
    intro L vs t hL
    have gen : ∀ (l1 l2 : List Oper) (i : Nat), (∀ j, L j = true → j < i + l1.length) → lastW L vs t i (l1 ++ l2) = lastW L vs t i l1 := by
      intro l1
      induction l1 with
      | nil =>
        intro l2 i hj
        rw [List.nil_append, lastW_none L vs t l2 i (fun j o _ _ => by
          cases hb : L (i + j) with
          | false => rfl
          | true => have h9 := hj _ hb; simp only [List.length_nil] at h9; omega)]
        rfl
      | cons o l1 ih =>
        intro l2 i hj
        simp only [List.cons_append, lastW]
        rw [ih l2 (i + 1) (fun j h => by have := hj j h; simp only [List.length_cons] at this; omega)]
    have := gen (l.take m) (l.drop m) 0 (fun j h => by have := hL j h; simp only [List.length_take]; omega)
    rwa [List.take_append_drop] at this
  have hmixd : ∀ (k : Nat) (vs : Nat → Value), k ≤ m → mix (fun j => decide (j < k)) vs 0 l a = mix (fun j => decide (j < k)) vs 0 (l.take m) a := by
    intro k vs hk
    refine act_ext (by simp [mix_size]) (by simp [mix_defers]) (fun t => ?_)
    rw [mix_get, mix_get, hdrop _ vs t (fun j hj => by simp at hj; omega)]
  have hmixt : ∀ (vs : Nat → Value), mix (fun _ => true) vs 0 (l.take m) a = mix (fun k => decide (k < m)) vs 0 (l.take m) a := by
    intro vs
    refine act_ext (by simp [mix_size]) (by simp [mix_defers]) (fun t => ?_)
    rw [mix_get, mix_get, lastW_congr (fun _ => true) (fun k => decide (k < m)) vs vs t (l.take m) 0 (fun j o hj _ => ⟨by
      have := (List.getElem?_eq_some_iff.1 hj).1
      simp only [List.length_take] at this
      simp
      omega, fun _ => rfl⟩)]
  have := rely_sound2 (Q := Q) (a0 := a) hE0 hE hs ht (fun j o hj ho => by
      have h3 := h1 j o (by rw [List.getElem?_take, if_pos hj]; simpa using ho)
      simp only [Nat.zero_add] at h3
      have he : (fun vs => mix (fun k => decide (k < j)) vs 0 l.toArray.toList a) = (fun vs => mix (fun k => decide (k < j)) vs 0 (l.take m) a) := funext fun vs => hmixd j vs (by omega)
      rw [he]
      exact h3)
    (fun vs w' he hr => by
      have h3 := h2 vs w' he (fun j hj => hr j (by simp only [List.length_take] at hj; omega))
      rw [hmixt vs, ← hmixd m vs (Nat.le_refl _)] at h3
      simpa using h3)
    l.toArray.size (Array.replicate l.toArray.size false) (fun _ => undef) w.drew (by simp) (by
      have : ∀ n, unl (fun j => (Array.replicate l.toArray.size false).getD j false) n ≤ n := by
        intro n
        induction n with
        | zero => exact Nat.le_refl _
        | succ n ih => simp only [unl, h0, Bool.false_eq_true, if_false] at ih ⊢; omega
      have := this m
      omega) (hE0 _) (fun j hj => by rw [h0] at hj; cases hj) (fun j hj => by rw [h0] at hj; cases hj) (fun j o _ hj => by rw [h0] at hj; cases hj)
  rw [hmix] at this
  exact this

end
end Go.Proofs.YtniknhhejlgdfaaDoor
/- ProofsGenesis: what the law does. -/
namespace Go.Proofs.YtniknhhejlgdfaaDoor
open Go.RowKit

theorem run_eql24 (a b : List Int) (ha : a.length = 16) (hb : b.length = 16) (W : World) : (binOp .eql 24 (.agg (u8s a).toArray) (.agg (u8s b).toArray)).run Tryd.prog W = .ok (.bool (decide (a = b))) W :=
  run_eql_bytes 24 5 16 a b Tryd.underlying24 Tryd.underlying5 (by kernel_rfl) ha hb
theorem Tryd.size77 : (Tryd.prog.info? 77).map (·.size) = some 28 := by kernel_rfl
theorem one_to (e r : Int) (q t s : List Value) (hq : ∀ u ∈ q, u.oneCell' = true) (ht : ∀ u ∈ t, u.oneCell' = true) (hs : ∀ u ∈ s, u.oneCell' = true) : ∀ u ∈ toC e r q t s, u.oneCell' = true := by
  intro u hu
  simp only [toC, List.mem_append, List.mem_cons, List.not_mem_nil, or_false] at hu
  rcases hu with (rfl | rfl) | h | h | h
  · rfl
  · rfl
  · exact hq u h
  · exact ht u h
  · exact hs u h

set_option maxHeartbeats 16000000 in
set_option maxRecDepth 100000 in
theorem proofsGenesis_any (vs : List Va) (A : Option Addr) (n c : Nat) (z : Int) (da db : List Int) (hda : da.length = 16) (hdb : db.length = 16) (al : List Addr) (w : World) (hv : Vals w (.slice A n c) vs) (hs : SenN w al) :
    Calls Tryd.prog 8 #[.slice A n c, .int .i64 z, .agg (u8s da ++ u8s db).toArray] w fun x w' => x = .returned (.bool true) ∧ Below w.heap.size w w' := by
  have b0 : Below w.heap.size w (w.alloc (.cells (u8s da ++ u8s db).toArray 75)) := (Below.refl _ _).alloc (Nat.le_refl _) _
  have h0 := heap_alloc_new w (.cells (u8s da ++ u8s db).toArray 75)
  have HV := Lib.hid (hv.below b0)
  have HS := Lib.hid (hs.below b0)
  have HH := Lib.hid h0
  have B0 := Lib.hid b0
  have HDA := Lib.hid hda
  have HDB := Lib.hid hdb
  have hi24 : ∀ V : List Int, V.length = 16 → (Tryd.prog.info? 24).map (·.size) = some (u8s V).length := fun V h => by rw [u8s_len', h]; exact Tryd.size24
  have RA : Hid (∀ W : World, W.heap[w.heap.size]? = some (.cells (u8s da ++ u8s db).toArray 75 (0, 0)) → W.rangeAt w.heap.size 0 (u8s da)) := Lib.hid fun W h => blk_mid (pre := []) (post := u8s db) h rfl
  have RB : Hid (∀ W : World, W.heap[w.heap.size]? = some (.cells (u8s da ++ u8s db).toArray 75 (0, 0)) → W.rangeAt w.heap.size 16 (u8s db)) := Lib.hid fun W h => by
    have := blk_mid (pre := u8s da) (ys := u8s db) (post := []) h (by simp)
    rwa [u8s_len', hda] at this
  have bA := build27 z A n c da hda
  have bQ := build37 z da hda
  have bO := build37 z db hdb
  have bT := build77 z 2 da hda
  clear b0 hv hs h0 hda hdb
  go_enter Tryd.func8, Tryd.ntmps8
  go_wp2_with fail
  refine (alive11_any al _ HS.out).mono ?_
  rintro _ w1 ⟨rfl, hb1⟩
  have V1 := Lib.hid (HV.out.below hb1)
  have S1 := Lib.hid (HS.out.below hb1)
  have H1 := Lib.hid (blk_below HH.out hb1)
  have B1 := Lib.hid (B0.out.trans (hb1.mono B0.out.size))
  have A1 := Lib.hid (RA.out _ H1.out)
  clear hb1 HV HS HH B0
  by_cases h20 : 20 < n
  · have h20' : (20 : Int) < n := by omega
    go_wp2_with fail
    go_ret
    exact ⟨rfl, B1.out⟩
  have h20' : ¬ (20 : Int) < n := by omega
  go_wp2_with (first | (refine wpList_bld rfl 27 _ rfl #[(0, .int .i64 z), (1, .slice A n c), (2, .agg (u8s da).toArray)] (by simp only [List.map_toArray, List.map_cons, List.map_nil]; rfl) _ (bA _) ?_) | (refine wpList_bld rfl 37 _ rfl #[(0, .int .i64 z), (2, .agg (u8s da).toArray)] (by simp only [List.map_toArray, List.map_cons, List.map_nil]; rfl) _ (bQ _) ?_) | (refine wpList_load_g rfl 24 (.tmp 19) rfl w.heap.size 0 rfl (u8s da) _ A1.out Tryd.underlying24 rfl (hi24 da HDA.out) ?_) | (refine wpList_store_row rfl 27 (.tmp 7) (.tmp 21) rfl w1.heap.size rfl (gndC z (.slice A n c) da) rfl 27 (has_new _ _ _ _ (by rw [gnd_len _ _ _ HDA.out]; rfl)) (by rw [gnd_len _ _ _ HDA.out]; exact Tryd.size27) (one_gnd _ _ _ rfl) ?_; intro w2 hp2; have L2 : Below w1.heap.size w1 w2 := (hp2.below ((Below.refl _ _).alloc (Nat.le_refl _) _) (Nat.le_refl _)); have G2 := Lib.hid hp2.blk; have V2 := Lib.hid (V1.out.below L2); have S2 := Lib.hid (S1.out.below L2); have H2 := Lib.hid (blk_below H1.out L2); have B2 := Lib.hid (B1.out.trans (L2.mono B1.out.size)); have A2 := Lib.hid (RA.out _ H2.out); clear hp2 L2) | (refine wpList_load_g rfl 24 (.tmp 23) rfl w.heap.size 0 rfl (u8s da) _ A2.out Tryd.underlying24 rfl (hi24 da HDA.out) ?_) | (refine wpList_store_row rfl 37 (.tmp 8) (.tmp 25) rfl w2.heap.size rfl (qcC z 0 da (.slice none 0 0)) rfl 37 (has_new _ _ _ _ (by rw [qc_len _ _ _ _ HDA.out]; rfl)) (by rw [qc_len _ _ _ _ HDA.out]; exact Tryd.size37) (one_qc _ _ _ _ rfl) ?_; intro w3 hp3; have L3 : Below w2.heap.size w2 w3 := (hp3.below ((Below.refl _ _).alloc (Nat.le_refl _) _) (Nat.le_refl _)); have Q3 := Lib.hid hp3.blk; have G3 := Lib.hid (blk_below G2.out L3); have V3 := Lib.hid (V2.out.below L3); have S3 := Lib.hid (S2.out.below L3); have H3 := Lib.hid (blk_below H2.out L3); have B3 := Lib.hid (B2.out.trans (L3.mono B2.out.size)); have GR3 := Lib.hid (blk_range G3.out); have QR3 := Lib.hid (blk_range Q3.out); clear hp3 L3) | (refine wpList_load_g rfl 27 (.tmp 7) rfl w1.heap.size 0 rfl (gndC z (.slice A n c) da) _ GR3.out Tryd.underlying27 rfl (by rw [gnd_len _ _ _ HDA.out]; exact Tryd.size27) ?_) | (refine wpList_load_g rfl 37 (.tmp 8) rfl w2.heap.size 0 rfl (qcC z 0 da (.slice none 0 0)) _ QR3.out Tryd.underlying37 rfl (by rw [qc_len _ _ _ _ HDA.out]; exact Tryd.size37) ?_))
  refine (qc0_any z vs A n c da HDA.out z da HDA.out none 0 0 al w3 V3.out S3.out).mono ?_
  rintro _ w4 ⟨rfl, hb4⟩
  have V4 := Lib.hid (V3.out.below hb4)
  have S4 := Lib.hid (S3.out.below hb4)
  have H4 := Lib.hid (blk_below H3.out hb4)
  have G4 := Lib.hid (blk_below G3.out hb4)
  have Q4 := Lib.hid (blk_below Q3.out hb4)
  have B4 := Lib.hid (B3.out.trans (hb4.mono B3.out.size))
  have hbeg : validB vs = true → ∀ k d, qc0N vs z da z d k = if d = da ∧ k = 0 then 0 else 12 := fun h k d => by
    have : beginN vs z z 0 0 = 0 := by unfold beginN; rw [if_neg (by simp [h]), if_neg (by simp), if_neg (by omega)]
    unfold qc0N
    rw [if_pos this]
  by_cases hval : validB vs = true
  case neg =>
    have hq : qc0N vs z da z da 0 = 11 := by
      have : beginN vs z z 0 0 = 11 := by unfold beginN; rw [if_pos (by simpa using hval)]
      unfold qc0N
      rw [this]
      rfl
    rw [hq]
    clear hq hbeg hb4 hval
    go_wp2_with fail
    refine (num_any al 11 (by omega) w4 S4.out).mono ?_
    rintro _ w5 ⟨rfl, hb5⟩
    have B5 := Lib.hid (B4.out.trans (hb5.mono B4.out.size))
    clear hb5
    go_wp2_with fail
    go_ret
    exact ⟨rfl, B5.out⟩
  have hq : qc0N vs z da z da 0 = 0 := by rw [hbeg hval, if_pos ⟨rfl, rfl⟩]
  rw [hq, show errN al 0 = Value.nilIface from rfl]
  have HVAL := Lib.hid hval
  have HBEG := Lib.hid (hbeg hval)
  clear hq hbeg hb4 hval
  go_wp2_with fail
  refine (num_nil w4).mono ?_
  rintro _ w5 ⟨rfl, rfl⟩
  have B5' := Lib.hid (RB.out _ H4.out)
  have QR4 := Lib.hid (blk_range Q4.out)
  go_wp2_with (first | (refine wpList_bld rfl 37 _ rfl #[(0, .int .i64 z), (2, .agg (u8s db).toArray)] (by simp only [List.map_toArray, List.map_cons, List.map_nil]; rfl) _ (bO _) ?_) | (refine wpList_bld rfl 77 _ rfl #[(0, .int .i64 z), (1, .int .i64 2), (2, .agg (qcC z 0 da (.slice none 0 0)).toArray)] (by simp only [List.map_toArray, List.map_cons, List.map_nil]; rfl) _ (bT _) ?_) | (refine wpList_load_g rfl 24 (.tmp 33) rfl w.heap.size 16 rfl (u8s db) _ B5'.out Tryd.underlying24 rfl (hi24 db HDB.out) ?_) | (refine wpList_store_row rfl 37 (.tmp 10) (.tmp 35) rfl w5.heap.size rfl (qcC z 0 db (.slice none 0 0)) rfl 37 (has_new _ _ _ _ (by rw [qc_len _ _ _ _ HDB.out]; rfl)) (by rw [qc_len _ _ _ _ HDB.out]; exact Tryd.size37) (one_qc _ _ _ _ rfl) ?_; intro w6 hp6; have L6 : Below w5.heap.size w5 w6 := (hp6.below ((Below.refl _ _).alloc (Nat.le_refl _) _) (Nat.le_refl _)); have O6 := Lib.hid hp6.blk; have V6 := Lib.hid (V4.out.below L6); have S6 := Lib.hid (S4.out.below L6); have H6 := Lib.hid (blk_below H4.out L6); have G6 := Lib.hid (blk_below G4.out L6); have QR6 := Lib.hid (blk_range (blk_below Q4.out L6)); have B6 := Lib.hid (B4.out.trans (L6.mono B4.out.size)); clear hp6 L6) | (refine wpList_load_g rfl 37 (.tmp 8) rfl w2.heap.size 0 rfl (qcC z 0 da (.slice none 0 0)) _ QR6.out Tryd.underlying37 rfl (by rw [qc_len _ _ _ _ HDA.out]; exact Tryd.size37) ?_) | (refine wpList_store_row rfl 77 (.tmp 11) (.tmp 38) rfl w6.heap.size rfl (toC z 2 (qcC z 0 da (.slice none 0 0)) (tcC 0 0 (.slice none 0 0)) (sdC 0 0 (.slice none 0 0) (.slice none 0 0))) rfl 77 (has_new _ _ _ _ (by simp only [toC, tcC, sdC, List.length_append, qc_len _ _ _ _ HDA.out]; rfl)) (by simp only [toC, tcC, sdC, List.length_append, qc_len _ _ _ _ HDA.out]; exact Tryd.size77) (one_to _ _ _ _ _ (one_qc _ _ _ _ rfl) (by intro u hu; simp [tcC] at hu; rcases hu with rfl | rfl <;> rfl) (by intro u hu; simp [sdC] at hu; rcases hu with rfl | rfl <;> rfl)) ?_; intro w7 hp7; have L7 : Below w6.heap.size w6 w7 := (hp7.below ((Below.refl _ _).alloc (Nat.le_refl _) _) (Nat.le_refl _)); have T7 := Lib.hid hp7.blk; have O7 := Lib.hid (blk_below O6.out L7); have V7 := Lib.hid (V6.out.below L7); have S7 := Lib.hid (S6.out.below L7); have H7 := Lib.hid (blk_below H6.out L7); have G7 := Lib.hid (blk_below G6.out L7); have B7 := Lib.hid (B6.out.trans (L7.mono B6.out.size)); clear hp7 L7))
  obtain ⟨E, hE0⟩ : ∃ E, E = errN al (qc0N vs z da z db 0) := ⟨_, rfl⟩
  obtain ⟨bq, hbq⟩ : ∃ b, b = decide (da = db) := ⟨_, rfl⟩
  have heb : (E = .nilIface ∧ bq = true) ∨ (∃ a, E = errV a ∧ bq = false) := by
    rw [HBEG.out 0 db] at hE0
    by_cases he : db = da
    · left
      rw [if_pos ⟨he, rfl⟩] at hE0
      exact ⟨hE0, by rw [hbq]; simp [he]⟩
    · right
      rw [if_neg (fun h => he h.1)] at hE0
      obtain ⟨a, ha⟩ := S7.out.at 11 (by omega)
      rw [errN_at ha] at hE0
      exact ⟨a, hE0, by rw [hbq]; simp; exact fun e => he e.symm⟩
  have HE0 := Lib.hid hE0
  have HBQ := Lib.hid hbq
  have HEB := Lib.hid heb
  clear hE0 hbq heb bA bQ bO bT
  have GR7 := Lib.hid (blk_range G7.out)
  have OR7 := Lib.hid (blk_range O7.out)
  have TR7 := Lib.hid (blk_range T7.out)
  have A7 := Lib.hid (RA.out _ H7.out)
  have D7 := Lib.hid (RB.out _ H7.out)
  refine wp_region_rely2 (by kernel_rfl) 20 (by kernel_rfl) (by kernel_rfl) Ext Ext.refl Ext.trans (fun ix => match ix with
    | 0 => fun _ v => v = .nilIface
    | 1 => fun _ v => v = .bool true
    | 2 => fun _ v => v = .bool true
    | 3 => fun _ v => v = gndV z (.slice A n c) da
    | 4 => fun _ v => v = qcV z 0 db (.slice none 0 0)
    | 5 => fun _ v => v = E
    | 6 => fun _ v => v = .bool bq
    | 7 => fun _ v => v = .pointer (some ⟨w.heap.size, 0, none⟩)
    | 8 => fun _ v => v = .agg (u8s da).toArray
    | 9 => fun _ v => v = .pointer (some ⟨w.heap.size, 16, none⟩)
    | 10 => fun _ v => v = .agg (u8s db).toArray
    | 11 => fun _ v => v = .bool bq
    | 12 => fun _ v => v = .bool true
    | 13 => fun _ v => v = .bool true
    | 14 => fun _ v => v = .bool true
    | 15 => fun _ v => v = gndV z (.slice A n c) da
    | 16 => fun _ v => v = .agg (toC z 2 (qcC z 0 da (.slice none 0 0)) (tcC 0 0 (.slice none 0 0)) (sdC 0 0 (.slice none 0 0) (.slice none 0 0))).toArray
    | 17 => fun _ v => ∃ a, v = errV a
    | 18 => fun _ v => v = .bool true
    | 19 => fun _ v => v = .bool true
    | _ => fun _ _ => False) ?_
  simp (maxSteps := 10000000) only [Rely, List.take_succ_cons, List.take_zero, List.drop_succ_cons, List.drop_zero, Nat.reduceAdd, Nat.zero_add, Act.put, List.setIfInBounds_toArray, List.set_cons_succ, List.set_cons_zero]
  refine ⟨?_, ?_, ?_, ?_, ?_, ?_, ?_, ?_, ?_, ?_, ?_, ?_, ?_, ?_, ?_, ?_, ?_, ?_, ?_, ?_, ?_⟩
  · refine step_plain rfl fun rv wq hE hd => ?_
    exact gives_move _ (.nilIface) (.inl rfl) rfl ⟨Ext.refl _, fun _ _ => rfl⟩
  · refine step_plain rfl fun rv wq hE hd => ?_
    exact gives_binOp .eql 29 _ _ _ rfl (.nilIface) (.nilIface) (.bool true) (show rv 0 = _ from hd.1) rfl (by go_simp) (by go_simp) ⟨Ext.refl _, fun _ _ => rfl⟩
  · refine step_plain rfl fun rv wq hE hd => ?_
    exact gives_move _ (.bool true) (.inl rfl) (show rv 1 = _ from hd.1) ⟨Ext.refl _, fun _ _ => rfl⟩
  · refine step_guard 2 true 41 rfl rfl (fun _ => rfl) fun rv wq hE hd => ⟨hd.1, ?_⟩
    exact gives_load_row 27 _ rfl (w1.heap.size) (0) rfl (gndC z (.slice A n c) da) _ (range_below GR7.out (ext_of_drew hE)) Tryd.underlying27 rfl (by rw [gnd_len _ _ _ HDA.out]; exact Tryd.size27) ⟨Ext.refl _, fun _ _ => rfl⟩
  · refine step_guard 2 true 41 rfl rfl (fun _ => rfl) fun rv wq hE hd => ⟨hd.1, ?_⟩
    exact gives_load_row 37 _ rfl (w5.heap.size) (0) rfl (qcC z 0 db (.slice none 0 0)) _ (range_below OR7.out (ext_of_drew hE)) Tryd.underlying37 rfl (by rw [qc_len _ _ _ _ HDB.out]; exact Tryd.size37) ⟨Ext.refl _, fun _ _ => rfl⟩
  · refine step_guard 2 true 41 rfl rfl (fun _ => rfl) fun rv wq hE hd => ⟨hd.2.2.2.1, ?_⟩
    refine gives_call 23 (enters_of Tryd.func23 (by kernel_rfl) rfl) _ _ rfl rfl [gndV z (.slice A n c) da, qcV z 0 db (.slice none 0 0)] (congr (congrArg (fun a b => a :: b) (show rv 3 = _ from hd.1)) (congrArg (fun a => [a]) (show rv 4 = _ from hd.2.1))) ?_
    refine (qc0_any z vs A n c da HDA.out z db HDB.out none 0 0 al wq (V7.out.below (ext_of_drew hE)) (S7.out.below (ext_of_drew hE))).mono ?_
    rintro _ w'' ⟨rfl, hb⟩
    exact ⟨_, rfl, hb, fun _ _ => HE0.out.symm⟩
  · refine step_guard 2 true 41 rfl rfl (fun _ => rfl) fun rv wq hE hd => ⟨hd.2.1, ?_⟩
    exact gives_binOp .eql 29 _ _ _ rfl E .nilIface (.bool bq) (show rv 5 = _ from hd.1) rfl (by rcases HEB.out with ⟨rfl, rfl⟩ | ⟨a, rfl, rfl⟩ <;> go_simp) (by rcases HEB.out with ⟨rfl, rfl⟩ | ⟨a, rfl, rfl⟩ <;> go_simp) ⟨Ext.refl _, fun _ _ => rfl⟩
  · refine step_guard 2 true 41 rfl rfl (fun _ => rfl) fun rv wq hE hd => ⟨hd.1, ?_⟩
    exact gives_indexAt 75 _ _ rfl (.pointer (some ⟨w.heap.size, 0, none⟩)) (Value.int .i64 0) (.pointer (some ⟨w.heap.size, 0, none⟩)) rfl rfl (by go_simp) ⟨Ext.refl _, fun _ _ => rfl⟩
  · refine step_guard 2 true 41 rfl rfl (fun _ => rfl) fun rv wq hE hd => ⟨hd.2.1, ?_⟩
    exact gives_load_row 24 _ rfl (w.heap.size) (0) (show rv 7 = _ from hd.1) (u8s da) _ (range_below A7.out (ext_of_drew hE)) Tryd.underlying24 rfl (hi24 da HDA.out) ⟨Ext.refl _, fun _ _ => rfl⟩
  · refine step_guard 2 true 41 rfl rfl (fun _ => rfl) fun rv wq hE hd => ⟨hd.1, ?_⟩
    exact gives_indexAt 75 _ _ rfl (.pointer (some ⟨w.heap.size, 0, none⟩)) (Value.int .i64 1) (.pointer (some ⟨w.heap.size, 16, none⟩)) rfl rfl (by go_simp) ⟨Ext.refl _, fun _ _ => rfl⟩
  · refine step_guard 2 true 41 rfl rfl (fun _ => rfl) fun rv wq hE hd => ⟨hd.2.1, ?_⟩
    exact gives_load_row 24 _ rfl (w.heap.size) (16) (show rv 9 = _ from hd.1) (u8s db) _ (range_below D7.out (ext_of_drew hE)) Tryd.underlying24 rfl (hi24 db HDB.out) ⟨Ext.refl _, fun _ _ => rfl⟩
  · refine step_guard 2 true 41 rfl rfl (fun _ => rfl) fun rv wq hE hd => ⟨hd.2.2.1, ?_⟩
    exact gives_binOp .eql 24 _ _ _ rfl (.agg (u8s da).toArray) (.agg (u8s db).toArray) (.bool bq) (show rv 8 = _ from hd.1) (show rv 10 = _ from hd.2.1) (by go_simp) (by rw [HBQ.out]; exact run_eql24 da db HDA.out HDB.out _) ⟨Ext.refl _, fun _ _ => rfl⟩
  · refine step_guard 2 true 41 rfl rfl (fun _ => rfl) fun rv wq hE hd => ⟨hd.2.2.1, ?_⟩
    exact gives_binOp .eql 4 _ _ _ rfl (.bool bq) (.bool bq) (.bool true) (show rv 6 = _ from hd.1) (show rv 11 = _ from hd.2.1) (by go_simp) (by cases bq <;> go_simp) ⟨Ext.refl _, fun _ _ => rfl⟩
  · refine step_plain rfl fun rv wq hE hd => ?_
    exact gives_pick _ _ _ (.bool true) true rfl (show rv 2 = _ from hd.1) (show rv 12 = _ from hd.2.1) ⟨Ext.refl _, fun _ _ => rfl⟩
  · refine step_plain rfl fun rv wq hE hd => ?_
    exact gives_move _ (.bool true) (.inl rfl) (show rv 13 = _ from hd.1) ⟨Ext.refl _, fun _ _ => rfl⟩
  · refine step_guard 14 true 53 rfl rfl (fun _ => rfl) fun rv wq hE hd => ⟨hd.1, ?_⟩
    exact gives_load_row 27 _ rfl (w1.heap.size) (0) rfl (gndC z (.slice A n c) da) _ (range_below GR7.out (ext_of_drew hE)) Tryd.underlying27 rfl (by rw [gnd_len _ _ _ HDA.out]; exact Tryd.size27) ⟨Ext.refl _, fun _ _ => rfl⟩
  · refine step_guard 14 true 53 rfl rfl (fun _ => rfl) fun rv wq hE hd => ⟨hd.1, ?_⟩
    exact gives_load_row 77 _ rfl (w6.heap.size) (0) rfl (toC z 2 (qcC z 0 da (.slice none 0 0)) (tcC 0 0 (.slice none 0 0)) (sdC 0 0 (.slice none 0 0) (.slice none 0 0))) _ (range_below TR7.out (ext_of_drew hE)) Tryd.underlying77 rfl (by simp only [toC, tcC, sdC, List.length_append, qc_len _ _ _ _ HDA.out]; exact Tryd.size77) ⟨Ext.refl _, fun _ _ => rfl⟩
  · refine step_guard 14 true 53 rfl rfl (fun _ => rfl) fun rv wq hE hd => ⟨hd.2.2.2.1, ?_⟩
    refine gives_call 27 (enters_of Tryd.func27 (by kernel_rfl) rfl) _ _ rfl rfl [gndV z (.slice A n c) da, .agg (toC z 2 (qcC z 0 da (.slice none 0 0)) (tcC 0 0 (.slice none 0 0)) (sdC 0 0 (.slice none 0 0) (.slice none 0 0))).toArray] (congr (congrArg (fun a b => a :: b) (show rv 15 = _ from hd.1)) (congrArg (fun a => [a]) (show rv 16 = _ from hd.2.1))) ?_
    refine (late0_any z vs A n c da HDA.out HVAL.out _ rfl al wq (V7.out.below (ext_of_drew hE)) (S7.out.below (ext_of_drew hE))).mono ?_
    rintro _ w'' ⟨⟨x, rfl⟩, hb⟩
    exact ⟨_, rfl, hb, fun _ _ => ⟨x, rfl⟩⟩
  · refine step_guard 14 true 53 rfl rfl (fun _ => rfl) fun rv wq hE hd => ⟨hd.2.1, ?_⟩
    obtain ⟨x, hx⟩ : ∃ a, rv 17 = errV a := hd.1
    exact gives_binOp .neq 29 _ _ _ rfl (errV x) .nilIface (.bool true) hx rfl (by go_simp) (by go_simp) ⟨Ext.refl _, fun _ _ => rfl⟩
  · refine step_plain rfl fun rv wq hE hd => ?_
    exact gives_pick _ _ _ (.bool true) true rfl (show rv 14 = _ from hd.1) (show rv 18 = _ from hd.2.1) ⟨Ext.refl _, fun _ _ => rfl⟩
  · intro rv wq hE hR
    have h19 : rv 19 = .bool true := hR 19 (by omega)
    rw [h19]
    have B8 := Lib.hid (B7.out.trans ((ext_of_drew hE).mono B7.out.size))
    clear hR hE h19
    go_wp2_with fail
    go_ret
    exact ⟨rfl, B8.out⟩
end Go.Proofs.YtniknhhejlgdfaaDoor
/- Digests that came in: slices of them, pairs of them. -/
namespace Go.Proofs.YtniknhhejlgdfaaDoor
open Go.ChangeShapes Go.WideShapes Go.ChangeAt Go.RowKit

set_option maxRecDepth 100000 in
/-- Two digests that came in. -/
theorem open_dg2 {H : Type} {enc : TypeId × Value → H} {W : World} {base : Nat} {spare : Nat → Bool} {held : Bool} {v : Value} {d : DataW H} {ps : List MemPlace}
    (h : DataW.Trod enc Tryd.prog W base spare held 75 v d ps) : ∃ d0 d1 : List Int, v = .agg (u8s d0 ++ u8s d1).toArray ∧ (d0.length = 16 ∧ u8s_ok d0) ∧ (d1.length = 16 ∧ u8s_ok d1) := by
  have c73 : Tryd.prog.cellsOf 75 = 32 := by kernel_rfl
  obtain ⟨fuel, hf⟩ := h
  obtain ⟨xs, m, _, _, hlen, hl, hel⟩ := DataW.trod_array Tryd.underlying75 hf
  rw [c73] at hlen
  have hv : ∃ cs, v = .agg cs := by
    cases v with
    | agg cs => exact ⟨cs, rfl⟩
    | _ => simp [Value.cells] at hlen
  obtain ⟨cs, rfl⟩ := hv
  simp only [Value.cells] at hlen hel
  have h0 := hel 0 (by omega)
  have h1 := hel 1 (by omega)
  rw [c43, List.getElem?_eq_getElem (by omega)] at h0 h1
  obtain ⟨d0, e0, l0, o0⟩ := open_dg_cells h0
  obtain ⟨d1, e1, l1, o1⟩ := open_dg_cells h1
  refine ⟨d0, d1, ?_, ⟨l0, o0⟩, ⟨l1, o1⟩⟩
  rw [Nat.zero_mul, List.drop_zero] at e0
  rw [Nat.one_mul] at e1
  have : cs.toList = u8s d0 ++ u8s d1 := by
    rw [← e0, ← e1, List.take_of_length_le (l := cs.toList.drop 16) (by rw [List.length_drop]; omega), List.take_append_drop]
  rw [← this, Array.toArray_toList]
end Go.Proofs.YtniknhhejlgdfaaDoor
