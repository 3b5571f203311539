/- Lemmas that laws of this seat rest on, part 17; each says its own conditions: SameG, RNx, GndN, EpochsGroundsW, KitG. -/
import Derived.Deep.Strs
import Derived.Test.YtniknhhejlgdfaaDoorBase7
import Derived.Test.YtniknhhejlgdfaaDoorBase8
import Derived.Test.YtniknhhejlgdfaaDoorBase9
import Derived.Test.YtniknhhejlgdfaaDoorBase10
import Derived.Test.YtniknhhejlgdfaaDoorBase15
import Derived.Test.YtniknhhejlgdfaaDoorBase16
/- Comparisons of equal grounds and of genesis blocks; the document's first and next grounds. -/
namespace Go.Proofs.YtniknhhejlgdfaaDoor
open Go.RowKit

theorem Tryd.size47 : (Tryd.prog.info? 47).map (·.size) = some 18 := by kernel_rfl
set_option maxHeartbeats 2000000 in
set_option maxRecDepth 100000 in
theorem sameSigned0 (w : World) : Calls Tryd.prog 58 #[.slice none 0 0, .slice none 0 0] w fun x w' => x = .returned (.bool true) ∧ w' = w := by
  go_enter Tryd.func58, Tryd.ntmps58
  go_wp2
  refine wp_loop_rounds 1 ?_
  rw [rounds_succ]
  go_wp2
  go_ret
  exact ⟨rfl, rfl⟩
set_option maxHeartbeats 2000000 in
set_option maxRecDepth 100000 in
theorem sameLists0 (w : World) : Calls Tryd.prog 35 #[.slice none 0 0, .slice none 0 0] w fun x w' => x = .returned (.bool true) ∧ w' = w := by
  go_enter Tryd.func35, Tryd.ntmps35
  go_wp2
  refine wp_loop_rounds 1 ?_
  rw [rounds_succ]
  go_wp2
  go_ret
  exact ⟨rfl, rfl⟩
set_option maxHeartbeats 4000000 in
set_option maxRecDepth 100000 in
theorem sameQC0 (w : World) : Calls Tryd.prog 34 #[.agg (qcC 0 0 zero16 (.slice none 0 0)).toArray, .agg (qcC 0 0 zero16 (.slice none 0 0)).toArray] w fun x w' => x = .returned (.bool true) ∧ Below w.heap.size w w' := by
  have b0 : Below w.heap.size w ((w.alloc (.cells ((qcC 0 0 zero16 (.slice none 0 0))).toArray 37)).alloc (.cells ((qcC 0 0 zero16 (.slice none 0 0))).toArray 37)) := ((Below.refl _ _).alloc (Nat.le_refl _) _).alloc (by simp) _
  have h0 := heap_alloc2_old w (.cells (qcC 0 0 zero16 (.slice none 0 0)).toArray 37) (.cells (qcC 0 0 zero16 (.slice none 0 0)).toArray 37)
  have h1 : ((w.alloc (.cells ((qcC 0 0 zero16 (.slice none 0 0))).toArray 37)).alloc (.cells ((qcC 0 0 zero16 (.slice none 0 0))).toArray 37)).heap[w.heap.size + 1]? = some (.cells (qcC 0 0 zero16 (.slice none 0 0)).toArray 37 (0, 0)) := by
    have := heap_alloc_new (w.alloc (.cells (qcC 0 0 zero16 (.slice none 0 0)).toArray 37)) (.cells (qcC 0 0 zero16 (.slice none 0 0)).toArray 37)
    rwa [World.size_alloc] at this
  have B0 := Lib.hid b0
  have c00 := blk_cell (xs := (qcC 0 0 zero16 (.slice none 0 0))) h0 0 _ rfl
  have c01 := blk_cell (xs := (qcC 0 0 zero16 (.slice none 0 0))) h0 1 _ rfl
  have c02 := blk_cell (xs := (qcC 0 0 zero16 (.slice none 0 0))) h0 18 _ rfl
  have c10 := blk_cell (xs := (qcC 0 0 zero16 (.slice none 0 0))) h1 0 _ rfl
  have c11 := blk_cell (xs := (qcC 0 0 zero16 (.slice none 0 0))) h1 1 _ rfl
  have c12 := blk_cell (xs := (qcC 0 0 zero16 (.slice none 0 0))) h1 18 _ rfl
  have R0 := Lib.hid (blk_mid (pre := [.int .i64 0, .int .i64 0]) (ys := u8s zero16) (post := [.slice none 0 0]) h0 rfl)
  have R1 := Lib.hid (blk_mid (pre := [.int .i64 0, .int .i64 0]) (ys := u8s zero16) (post := [.slice none 0 0]) h1 rfl)
  clear b0 h0 h1
  go_enter Tryd.func34, Tryd.ntmps34
  go_wp2_with (first | (refine wpList_load_g rfl 24 (.tmp 18) rfl (w.heap.size) 2 rfl (u8s zero16) _ R0.out Tryd.underlying24 rfl (hi24 zero16 zero16_len) ?_) | (refine wpList_load_g rfl 24 (.tmp 20) rfl (w.heap.size + 1) 2 rfl (u8s zero16) _ R1.out Tryd.underlying24 rfl (hi24 zero16 zero16_len) ?_) | (refine wpList_binG rfl .eql 24 24 (.tmp 19) (.tmp 21) rfl (.agg (u8s zero16).toArray) (.agg (u8s zero16).toArray) (.bool true) rfl rfl (guard24 _ _ _ _ _ _) ((run_eql24 zero16 zero16 zero16_len zero16_len _).trans (by rw [decide_eq_true rfl])) ?_))
  refine (sameSigned0 _).mono ?_
  rintro _ w1 ⟨rfl, rfl⟩
  go_wp2_with fail
  go_ret
  exact ⟨rfl, B0.out⟩
theorem genC_0 {w : World} {b t : Nat} {e : Int} {p : List Int} (h : w.heap[b]? = some (.cells (genC e p).toArray t (0, 0))) (hp : p.length = 16) : w.cell? ⟨b, 0, none⟩ = some (.int .i64 e) ∧ w.cell? ⟨b, 1, none⟩ = some (.int .i64 0) ∧ w.rangeAt b 2 (u8s p) ∧ w.rangeAt b 18 (qcC 0 0 zero16 (.slice none 0 0)) ∧ w.cell? ⟨b, 37, none⟩ = some (.slice none 0 0) ∧ w.cell? ⟨b, 38, none⟩ = some (.slice none 0 0) := by
  refine ⟨blk_cell h 0 _ rfl, blk_cell h 1 _ rfl, bk_par h, bk_jus hp h, bk_pay hp (qc_len _ _ _ _ zero16_len) h, bk_nxt hp (qc_len _ _ _ _ zero16_len) h⟩
set_option maxHeartbeats 4000000 in
set_option maxRecDepth 100000 in
theorem sameBlock_gen (e : Int) (p : List Int) (hp : p.length = 16) (w : World) : Calls Tryd.prog 17 #[.agg (genC e p).toArray, .agg (genC e p).toArray] w fun x w' => x = .returned (.bool true) ∧ Below w.heap.size w w' := by
  have b0 : Below w.heap.size w ((w.alloc (.cells ((genC e p)).toArray 40)).alloc (.cells ((genC e p)).toArray 40)) := ((Below.refl _ _).alloc (Nat.le_refl _) _).alloc (by simp) _
  have h0 := heap_alloc2_old w (.cells (genC e p).toArray 40) (.cells (genC e p).toArray 40)
  have h1 : ((w.alloc (.cells ((genC e p)).toArray 40)).alloc (.cells ((genC e p)).toArray 40)).heap[w.heap.size + 1]? = some (.cells (genC e p).toArray 40 (0, 0)) := by
    have := heap_alloc_new (w.alloc (.cells (genC e p).toArray 40)) (.cells (genC e p).toArray 40)
    rwa [World.size_alloc] at this
  have B0 := Lib.hid b0
  have HP := Lib.hid hp
  obtain ⟨c00, c01, r02, r03, c04, c05⟩ := genC_0 h0 hp
  obtain ⟨c10, c11, r12, r13, c14, c15⟩ := genC_0 h1 hp
  have K0 := Lib.hid h0
  have K1 := Lib.hid h1
  have R0 := Lib.hid r02
  have R1 := Lib.hid r12
  have J0 := Lib.hid r03
  have J1 := Lib.hid r13
  clear b0 h0 h1 r02 r12 r03 r13 hp c04 c05 c14 c15
  go_enter Tryd.func17, Tryd.ntmps17
  go_wp2_with (first | (refine wpList_load_g rfl 24 (.tmp 18) rfl (w.heap.size) 2 rfl (u8s p) _ R0.out Tryd.underlying24 rfl (hi24 p HP.out) ?_) | (refine wpList_load_g rfl 24 (.tmp 20) rfl (w.heap.size + 1) 2 rfl (u8s p) _ R1.out Tryd.underlying24 rfl (hi24 p HP.out) ?_) | (refine wpList_binG rfl .eql 24 24 (.tmp 19) (.tmp 21) rfl (.agg (u8s p).toArray) (.agg (u8s p).toArray) (.bool true) rfl rfl (guard24 _ _ _ _ _ _) ((run_eql24 p p HP.out HP.out _).trans (by rw [decide_eq_true rfl])) ?_) | (refine wpList_load_g rfl 37 (.tmp 25) rfl (w.heap.size) 18 rfl ((qcC 0 0 zero16 (.slice none 0 0))) _ J0.out Tryd.underlying37 rfl (by rw [qc_len _ _ _ _ zero16_len]; exact Tryd.size37) ?_) | (refine wpList_load_g rfl 37 (.tmp 27) rfl (w.heap.size + 1) 18 rfl ((qcC 0 0 zero16 (.slice none 0 0))) _ J1.out Tryd.underlying37 rfl (by rw [qc_len _ _ _ _ zero16_len]; exact Tryd.size37) ?_))
  clear c00 c01 c10 c11
  refine (sameQC0 _).mono ?_
  rintro _ w1 ⟨rfl, hb1⟩
  have B1 := Lib.hid (B0.out.trans (hb1.mono B0.out.size))
  have k0 := blk_below K0.out hb1
  have k1 := blk_below K1.out hb1
  obtain ⟨_, _, _, _, c04, c05⟩ := genC_0 k0 HP.out
  obtain ⟨_, _, _, _, c14, c15⟩ := genC_0 k1 HP.out
  clear hb1 k0 k1
  go_wp2_with fail
  refine (sameLists0 _).mono ?_
  rintro _ w2 ⟨rfl, rfl⟩
  go_wp2_with fail
  refine (refSame_any [] [] none none 0 0 0 0 w2 ⟨⟨_, _, rfl⟩, fun h => absurd rfl h, fun x hx => by cases hx⟩ ⟨⟨_, _, rfl⟩, fun h => absurd rfl h, fun x hx => by cases hx⟩ (by omega)).mono ?_
  rintro _ w3 ⟨rfl, hb3⟩
  rw [decide_eq_true rfl]
  have B3 := Lib.hid (B1.out.trans (hb3.mono B1.out.size))
  clear hb3 c04 c05 c14 c15
  go_wp2_with fail
  go_ret
  exact ⟨rfl, B3.out⟩
set_option maxHeartbeats 4000000 in
set_option maxRecDepth 100000 in
theorem same_eq (e : Int) (g : List Int) (hg : g.length = 16) (xs : List Va) (A A2 : Option Addr) (n c c2 : Nat) (w : World) (hx : Vals w (.slice A n c) xs) (hy : Vals w (.slice A2 n c2) xs) (hn : n ≤ 1000000) :
    Calls Tryd.prog 15 #[.agg (gndC e (.slice A n c) g).toArray, .agg (gndC e (.slice A2 n c2) g).toArray] w fun x w' => x = .returned (.bool true) ∧ Below w.heap.size w w' := by
  have b0 : Below w.heap.size w ((w.alloc (.cells ((gndC e (.slice A n c) g)).toArray 47)).alloc (.cells ((gndC e (.slice A2 n c2) g)).toArray 47)) := ((Below.refl _ _).alloc (Nat.le_refl _) _).alloc (by simp) _
  have h0 := heap_alloc2_old w (.cells (gndC e (.slice A n c) g).toArray 47) (.cells (gndC e (.slice A2 n c2) g).toArray 47)
  have h1 : ((w.alloc (.cells ((gndC e (.slice A n c) g)).toArray 47)).alloc (.cells ((gndC e (.slice A2 n c2) g)).toArray 47)).heap[w.heap.size + 1]? = some (.cells (gndC e (.slice A2 n c2) g).toArray 47 (0, 0)) := by
    have := heap_alloc_new (w.alloc (.cells (gndC e (.slice A n c) g).toArray 47)) (.cells (gndC e (.slice A2 n c2) g).toArray 47)
    rwa [World.size_alloc] at this
  have B0 := Lib.hid b0
  have HG := Lib.hid hg
  have VX := Lib.hid (hx.below b0)
  have VY := Lib.hid (hy.below b0)
  have c00 := gnd_0 h0
  have c01 := gnd_1 h0
  have c10 := gnd_0 h1
  have c11 := gnd_1 h1
  have R0 := Lib.hid (gnd_2 h0)
  have R1 := Lib.hid (gnd_2 h1)
  have HN := Lib.hid hn
  clear b0 h0 h1 hg hx hy hn
  go_enter Tryd.func15, Tryd.ntmps15
  go_wp2_with (first | (refine wpList_load_g rfl 24 (.tmp 11) rfl (w.heap.size) 2 rfl (u8s g) _ R0.out Tryd.underlying24 rfl (hi24 g HG.out) ?_) | (refine wpList_load_g rfl 24 (.tmp 13) rfl (w.heap.size + 1) 2 rfl (u8s g) _ R1.out Tryd.underlying24 rfl (hi24 g HG.out) ?_) | (refine wpList_binG rfl .eql 24 24 (.tmp 12) (.tmp 14) rfl (.agg (u8s g).toArray) (.agg (u8s g).toArray) (.bool true) rfl rfl (guard24 _ _ _ _ _ _) ((run_eql24 g g HG.out HG.out _).trans (by rw [decide_eq_true rfl])) ?_))
  refine (refSame_any xs xs A A2 n n c c2 _ VX.out VY.out HN.out).mono ?_
  rintro _ w1 ⟨rfl, hb1⟩
  rw [decide_eq_true rfl]
  have B1 := Lib.hid (B0.out.trans (hb1.mono B0.out.size))
  clear hb1 c00 c01 c10 c11
  go_wp2_with fail
  go_ret
  exact ⟨rfl, B1.out⟩
end Go.Proofs.YtniknhhejlgdfaaDoor
/- The document's first and next grounds. -/
namespace Go.Proofs.YtniknhhejlgdfaaDoor
open Go.RowKit

set_option maxRecDepth 100000 in
theorem build47 (e : Int) (A : Option Addr) (n c : Nat) (gen : List Int) (hg : gen.length = 16) (W : World) : (Instr.build 47 #[(0, .int .i64 e), (1, .slice A n c), (2, .agg (u8s gen).toArray)]).run Tryd.prog W = .ok (.agg (gndC e (.slice A n c) gen).toArray) W := by
  obtain ⟨_, _, _, _, _, _, _, _, _, _, _, _, _, _, _, _, rfl⟩ := len16 hg
  exact run_build W 47 _ _ (by kernel_rfl)
set_option maxHeartbeats 8000000 in
set_option maxRecDepth 100000 in
theorem rfirst_any (A : Option Addr) (n c : Nat) (w : World) :
    Calls Tryd.prog 20 #[.slice A n c] w fun x w' => x = .returned (gndV 1 (.slice A n c) (idB (GEN 1 zero16))) ∧ Below w.heap.size w w' := by
  obtain ⟨X0, hX0⟩ : ∃ X, X = w.alloc (.cells #[.int .i64 0, .slice none 0 0, .int .u8 0, .int .u8 0, .int .u8 0, .int .u8 0, .int .u8 0, .int .u8 0, .int .u8 0, .int .u8 0, .int .u8 0, .int .u8 0, .int .u8 0, .int .u8 0, .int .u8 0, .int .u8 0, .int .u8 0, .int .u8 0] 47) := ⟨_, rfl⟩
  have b0 : Below w.heap.size w X0 := by rw [hX0]; exact (Below.refl _ _).alloc (Nat.le_refl _) _
  have H0 := Lib.hid (show Has X0 w.heap.size 47 18 by rw [hX0]; exact has_new w _ _ _ rfl)
  have HX := Lib.hid hX0
  have B0 := Lib.hid b0
  clear b0 hX0
  go_enter Tryd.func20, Tryd.ntmps20
  go_wp2_with fail
  rw [show w.alloc (.cells #[.int .i64 0, .slice none 0 0, .int .u8 0, .int .u8 0, .int .u8 0, .int .u8 0, .int .u8 0, .int .u8 0, .int .u8 0, .int .u8 0, .int .u8 0, .int .u8 0, .int .u8 0, .int .u8 0, .int .u8 0, .int .u8 0, .int .u8 0, .int .u8 0] 47) = X0 from HX.out.symm]
  refine (rgenesis_any 1 zero16 zero16_len X0).mono ?_
  rintro _ w1 ⟨rfl, hb1⟩
  have B1 := Lib.hid (B0.out.trans (hb1.mono B0.out.size))
  have H1 := Lib.hid (H0.out.below hb1)
  clear hb1 HX H0 B0
  go_wp2_with fail
  refine (refid_any w1 (genC 1 zero16) (GEN 1 zero16) (genAt w1 1 zero16 zero16_len zero16_ok) (genI 1 zero16 (by omega) (by omega))).mono ?_
  rintro _ w2 ⟨rfl, hb2⟩
  have B2 := Lib.hid (B1.out.trans (hb2.mono B1.out.size))
  have H2 := Lib.hid (H1.out.below hb2)
  clear hb2 H1 B1
  obtain ⟨ID, hID⟩ : ∃ x, x = idB (GEN 1 zero16) := ⟨_, rfl⟩
  have hidg : ID.length = 16 := hID ▸ (idB_good _).1
  rw [← hID, (idGen 1 zero16 (by omega) (by omega) default).2]
  have HID := Lib.hid hID
  have LI := Lib.hid hidg
  have hgl := gnd_len 1 (.slice A n c) ID hidg
  clear hID hidg
  have bb := build47 1 A n c ID LI.out
  go_wp2_with (first | (refine wpList_store_row rfl 24 (.tmp 3) (.tmp 9) rfl w2.heap.size rfl (u8s ID) rfl 24 (has_new w2 _ _ _ (by rw [u8s_len', LI.out]; rfl)) (by rw [u8s_len', LI.out]; exact Tryd.size24) (one_u8s _) ?_; intro w3 hp3; have L3 : Below w2.heap.size w2 w3 := hp3.below ((Below.refl _ _).alloc (Nat.le_refl _) _) (Nat.le_refl _); have H3 := Lib.hid (H2.out.below L3); have B3 := Lib.hid (B2.out.trans (L3.mono B2.out.size)); have I3 := Lib.hid hp3.blk; clear hp3 L3) | (refine wpList_load_g rfl 24 (.tmp 3) rfl (w2.heap.size) 0 rfl (u8s ID) _ (blk_range I3.out) Tryd.underlying24 rfl (hi24 ID LI.out) ?_) | (refine wpList_bld rfl 47 _ rfl #[(0, .int .i64 1), (1, .slice A n c), (2, .agg (u8s ID).toArray)] (by simp only [List.map_toArray, List.map_cons, List.map_nil]; rfl) _ (bb _) ?_) | (refine wpList_store_row rfl 47 (.tmp 2) (.tmp 13) rfl (w.heap.size) rfl (gndC 1 (.slice A n c) ID) rfl 47 (by rw [hgl]; exact H3.out) (by rw [hgl]; exact Tryd.size47) (one_gnd _ _ _ rfl) ?_; intro w4 hp4; have K4 := Lib.hid hp4.blk; have B4 := Lib.hid (hp4.below B3.out (by omega)); clear hp4))
  refine bodyPost_ret (v := gndV 1 (.slice A n c) ID) (results_cell_row rfl _ _ (w.heap.size) 47 _ (0, 0) _ rfl K4.out Tryd.underlying47 rfl (by simp only [List.size_toArray]; rw [hgl]; exact Tryd.size47)) rfl ⟨by rw [HID.out], B4.out⟩
set_option maxHeartbeats 8000000 in
set_option maxRecDepth 100000 in
theorem rnext_any (e : Int) (v0 : Value) (gen p : List Int) (hp : p.length = 16) (hpo : u8s_ok p) (vs : List Va) (A : Option Addr) (n c : Nat) (w : World) (hv : Vals w (.slice A n c) vs) :
    Calls Tryd.prog 14 #[.agg (gndC e v0 gen).toArray, .agg (u8s p).toArray, .slice A n c] w fun x w' => Below w.heap.size w w' ∧ ((validB vs = false ∧ x = .returned (.tuple #[noG, .int .i64 11])) ∨ (validB vs = true ∧ OutE e ∧ x = .returned (.tuple #[noG, .int .i64 18])) ∨ (validB vs = true ∧ InE e ∧ x = .returned (.tuple #[gndV (e + 1) (.slice A n c) (idB (GEN (e + 1) p)), .int .i64 0]))) := by
  have HP := Lib.hid hp
  have HPO := Lib.hid hpo
  obtain ⟨X0, hX0⟩ : ∃ X, X = ((((w.alloc (.cells (gndC e v0 gen).toArray 47)).alloc (.cells (u8s p).toArray 24)).alloc (.cells #[.int .i64 0, .slice none 0 0, .int .u8 0, .int .u8 0, .int .u8 0, .int .u8 0, .int .u8 0, .int .u8 0, .int .u8 0, .int .u8 0, .int .u8 0, .int .u8 0, .int .u8 0, .int .u8 0, .int .u8 0, .int .u8 0, .int .u8 0, .int .u8 0] 47)).alloc (.cells #[.int .i64 0, .slice none 0 0, .int .u8 0, .int .u8 0, .int .u8 0, .int .u8 0, .int .u8 0, .int .u8 0, .int .u8 0, .int .u8 0, .int .u8 0, .int .u8 0, .int .u8 0, .int .u8 0, .int .u8 0, .int .u8 0, .int .u8 0, .int .u8 0] 47)) := ⟨_, rfl⟩
  have b0 : Below w.heap.size w X0 := by rw [hX0]; exact ((((Below.refl _ _).alloc (Nat.le_refl _) _).alloc (by simp) _).alloc (by first | (simp; done) | (simp; omega)) _).alloc (by first | (simp; done) | (simp; omega)) _
  have hz2 : ((w.alloc (.cells (gndC e v0 gen).toArray 47)).alloc (.cells (u8s p).toArray 24)).heap.size = w.heap.size + 2 := by simp
  have k2 : Below (w.heap.size + 2) ((w.alloc (.cells (gndC e v0 gen).toArray 47)).alloc (.cells (u8s p).toArray 24)) X0 := by rw [hX0]; exact ((Below.refl _ _).alloc (by simp) _).alloc (by first | (simp; done) | (simp; omega)) _
  rw [← hz2] at k2
  have k0 := heap_alloc2_old w (.cells (gndC e v0 gen).toArray 47) (.cells (u8s p).toArray 24)
  have k1 : ((w.alloc (.cells (gndC e v0 gen).toArray 47)).alloc (.cells (u8s p).toArray 24)).heap[w.heap.size + 1]? = some (.cells (u8s p).toArray 24 (0, 0)) := by
    have := heap_alloc_new (w.alloc (.cells (gndC e v0 gen).toArray 47)) (.cells (u8s p).toArray 24)
    rwa [World.size_alloc] at this
  have K0 := Lib.hid (blk_below k0 k2)
  have KP := Lib.hid (blk_below k1 k2)
  have HA := Lib.hid (show Has X0 (w.heap.size + 2) 47 18 by rw [hX0, ← hz2]; exact has_old _ _ _ _ _ rfl)
  have HB := Lib.hid (show Has X0 (w.heap.size + 3) 47 18 by
    rw [hX0]
    have := has_new2 ((w.alloc (.cells (gndC e v0 gen).toArray 47)).alloc (.cells (u8s p).toArray 24)) (.cells #[.int .i64 0, .slice none 0 0, .int .u8 0, .int .u8 0, .int .u8 0, .int .u8 0, .int .u8 0, .int .u8 0, .int .u8 0, .int .u8 0, .int .u8 0, .int .u8 0, .int .u8 0, .int .u8 0, .int .u8 0, .int .u8 0, .int .u8 0, .int .u8 0] 47) #[.int .i64 0, .slice none 0 0, .int .u8 0, .int .u8 0, .int .u8 0, .int .u8 0, .int .u8 0, .int .u8 0, .int .u8 0, .int .u8 0, .int .u8 0, .int .u8 0, .int .u8 0, .int .u8 0, .int .u8 0, .int .u8 0, .int .u8 0, .int .u8 0] 47 18 rfl
    rwa [hz2] at this)
  have HX := Lib.hid hX0
  have V0 := Lib.hid hv
  have B0 := Lib.hid b0
  clear b0 hv hX0 k0 k1 k2 hz2 hp hpo
  go_enter Tryd.func14, Tryd.ntmps14
  go_wp2_with (refine wpList_store_row rfl 47 (.tmp 8) (.tmp 11) rfl (w.heap.size + 3) rfl (gndC 0 (.slice none 0 0) zero16) rfl 47 (by rw [zgnd_len]; exact HX.out ▸ HB.out) (by rw [zgnd_len]; exact Tryd.size47) (one_gnd _ _ _ rfl) ?_; intro w1 hp1; have K1 := Lib.hid hp1.blk; have B1 := Lib.hid (hp1.below (HX.out ▸ B0.out) (by omega)); have P1 := Lib.hid hp1; clear hp1)
  rw [← HX.out] at P1
  have k0 := (P1.out.other w.heap.size (by omega)).trans K0.out
  have k1 := (P1.out.other (w.heap.size + 1) (by omega)).trans KP.out
  have ha : Has w1 (w.heap.size + 2) 47 18 := HA.out.same (P1.out.other (w.heap.size + 2) (by omega))
  have V1 := Lib.hid (V0.out.below B1.out)
  have A1 := Lib.hid k0
  have C1 := Lib.hid k1
  have H1 := Lib.hid ha
  clear k0 k1 ha P1 K0 KP HA HB V0 B0 HX
  refine (vright_any vs A n c w1 V1.out).mono ?_
  rintro _ w2 ⟨rfl, hb2⟩
  have B2 := Lib.hid (B1.out.trans (hb2.mono B1.out.size))
  have H2 := Lib.hid (H1.out.below hb2)
  have K2 := Lib.hid (blk_below K1.out hb2)
  have c0 := gnd_0 (blk_below A1.out hb2)
  have A2 := Lib.hid (blk_below A1.out hb2)
  have C2 := Lib.hid (blk_below C1.out hb2)
  clear hb2 A1 C1 H1 K1 B1 V1
  by_cases hval : validB vs = true
  case neg =>
    have hvf : validB vs = false := by simpa using hval
    have HVF := Lib.hid hvf
    rw [hvf]
    clear hvf hval
    go_wp2_with (first | (refine wpList_load_g rfl 47 (.tmp 8) rfl (w.heap.size + 3) 0 rfl (gndC 0 (.slice none 0 0) zero16) _ (blk_range K2.out) Tryd.underlying47 rfl (by rw [zgnd_len]; exact Tryd.size47) ?_) | (refine wpList_store_row rfl 47 (.tmp 6) (.tmp 15) rfl (w.heap.size + 2) rfl (gndC 0 (.slice none 0 0) zero16) rfl 47 (by rw [zgnd_len]; exact H2.out) (by rw [zgnd_len]; exact Tryd.size47) (one_gnd _ _ _ rfl) ?_; intro w5 hp5; have K5 := Lib.hid hp5.blk; have B5 := Lib.hid (hp5.below B2.out (by omega)); clear hp5))
    refine bodyPost_ret (v := .tuple #[noG, .int .i64 11]) (results_cell_row_tmp rfl _ _ (w.heap.size + 2) 47 _ (0, 0) _ rfl K5.out Tryd.underlying47 rfl (by simp only [List.size_toArray]; rw [zgnd_len]; exact Tryd.size47) rfl) rfl ⟨B5.out, .inl ⟨HVF.out, rfl⟩⟩
  rw [hval]
  have HVT := Lib.hid hval
  clear hval
  by_cases hin : 0 ≤ e ∧ e < 1073741824
  case neg =>
    have HOUT := Lib.hid (show OutE e by unfold OutE; omega)
    by_cases hlt : e < 0
    · clear hin
      go_wp2_with (first | (refine wpList_load_g rfl 47 (.tmp 8) rfl (w.heap.size + 3) 0 rfl (gndC 0 (.slice none 0 0) zero16) _ (blk_range K2.out) Tryd.underlying47 rfl (by rw [zgnd_len]; exact Tryd.size47) ?_) | (refine wpList_store_row rfl 47 (.tmp 6) (.tmp 24) rfl (w.heap.size + 2) rfl (gndC 0 (.slice none 0 0) zero16) rfl 47 (by rw [zgnd_len]; exact H2.out) (by rw [zgnd_len]; exact Tryd.size47) (one_gnd _ _ _ rfl) ?_; intro w5 hp5; have K5 := Lib.hid hp5.blk; have B5 := Lib.hid (hp5.below B2.out (by omega)); clear hp5))
      refine bodyPost_ret (v := .tuple #[noG, .int .i64 18]) (results_cell_row_tmp rfl _ _ (w.heap.size + 2) 47 _ (0, 0) _ rfl K5.out Tryd.underlying47 rfl (by simp only [List.size_toArray]; rw [zgnd_len]; exact Tryd.size47) rfl) rfl ⟨B5.out, .inr (.inl ⟨HVT.out, HOUT.out, rfl⟩)⟩
    · have hge : (1073741824 : Int) ≤ e := by omega
      clear hin
      go_wp2_with (first | (refine wpList_load_g rfl 47 (.tmp 8) rfl (w.heap.size + 3) 0 rfl (gndC 0 (.slice none 0 0) zero16) _ (blk_range K2.out) Tryd.underlying47 rfl (by rw [zgnd_len]; exact Tryd.size47) ?_) | (refine wpList_store_row rfl 47 (.tmp 6) (.tmp 24) rfl (w.heap.size + 2) rfl (gndC 0 (.slice none 0 0) zero16) rfl 47 (by rw [zgnd_len]; exact H2.out) (by rw [zgnd_len]; exact Tryd.size47) (one_gnd _ _ _ rfl) ?_; intro w5 hp5; have K5 := Lib.hid hp5.blk; have B5 := Lib.hid (hp5.below B2.out (by omega)); clear hp5))
      refine bodyPost_ret (v := .tuple #[noG, .int .i64 18]) (results_cell_row_tmp rfl _ _ (w.heap.size + 2) 47 _ (0, 0) _ rfl K5.out Tryd.underlying47 rfl (by simp only [List.size_toArray]; rw [zgnd_len]; exact Tryd.size47) rfl) rfl ⟨B5.out, .inr (.inl ⟨HVT.out, HOUT.out, rfl⟩)⟩
  obtain ⟨hin1, hin2⟩ := hin
  have hn1 : ¬ e < 0 := by omega
  have hn2 : ¬ (1073741824 : Int) ≤ e := by omega
  have HIN := Lib.hid (show InE e from ⟨hin1, hin2⟩)
  go_wp2_with (refine wpList_load_g rfl 24 (.tmp 4) rfl (w.heap.size + 1) 0 rfl (u8s p) _ (blk_range C2.out) Tryd.underlying24 rfl (hi24 p HP.out) ?_)
  clear hn1 hn2 c0
  refine (rgenesis_any (e + 1) p HP.out w2).mono ?_
  rintro _ w3 ⟨rfl, hb3⟩
  have B3 := Lib.hid (B2.out.trans (hb3.mono B2.out.size))
  have H3 := Lib.hid (H2.out.below hb3)
  have A3 := Lib.hid (blk_below A2.out hb3)
  clear hb3 A2 C2 H2 K2 B2
  go_wp2_with fail
  refine (refid_any w3 (genC (e + 1) p) (GEN (e + 1) p) (genAt w3 (e + 1) p HP.out HPO.out) (genI (e + 1) p (by omega) (by omega))).mono ?_
  rintro _ w4 ⟨rfl, hb4⟩
  rw [(idGen (e + 1) p (by omega) (by omega) default).2]
  have B4 := Lib.hid (B3.out.trans (hb4.mono B3.out.size))
  have H4 := Lib.hid (H3.out.below hb4)
  have A4 := Lib.hid (blk_below A3.out hb4)
  clear hb4 A3 H3 B3
  obtain ⟨ID, hID⟩ : ∃ x, x = idB (GEN (e + 1) p) := ⟨_, rfl⟩
  have hidg : ID.length = 16 := hID ▸ (idB_good _).1
  rw [← hID]
  have HID := Lib.hid hID
  have LI := Lib.hid hidg
  have hgl := gnd_len (e + 1) (.slice A n c) ID hidg
  clear hID hidg
  have bb := build47 (e + 1) A n c ID LI.out
  go_wp2_with (first | (refine wpList_store_row rfl 24 (.tmp 9) (.tmp 32) rfl w4.heap.size rfl (u8s ID) rfl 24 (has_new w4 _ _ _ (by rw [u8s_len', LI.out]; rfl)) (by rw [u8s_len', LI.out]; exact Tryd.size24) (one_u8s _) ?_; intro w5 hp5; have L5 : Below w4.heap.size w4 w5 := hp5.below ((Below.refl _ _).alloc (Nat.le_refl _) _) (Nat.le_refl _); have H5 := Lib.hid (H4.out.below L5); have A5 := Lib.hid (blk_below A4.out L5); have B5 := Lib.hid (B4.out.trans (L5.mono B4.out.size)); have I5 := Lib.hid hp5.blk; have c0 := gnd_0 A5.out; clear hp5 L5) | (refine wpList_load_g rfl 24 (.tmp 9) rfl (w4.heap.size) 0 rfl (u8s ID) _ (blk_range I5.out) Tryd.underlying24 rfl (hi24 ID LI.out) ?_) | (refine wpList_bld rfl 47 _ rfl #[(0, .int .i64 (e + 1)), (1, .slice A n c), (2, .agg (u8s ID).toArray)] (by simp only [List.map_toArray, List.map_cons, List.map_nil]; rfl) _ (bb _) ?_) | (refine wpList_store_row rfl 47 (.tmp 6) (.tmp 39) rfl (w.heap.size + 2) rfl (gndC (e + 1) (.slice A n c) ID) rfl 47 (by rw [hgl]; exact H5.out) (by rw [hgl]; exact Tryd.size47) (one_gnd _ _ _ rfl) ?_; intro w6 hp6; have K6 := Lib.hid hp6.blk; have B6 := Lib.hid (hp6.below B5.out (by omega)); clear hp6))
  refine bodyPost_ret (v := .tuple #[gndV (e + 1) (.slice A n c) ID, .int .i64 0]) (results_cell_row_tmp rfl _ _ (w.heap.size + 2) 47 _ (0, 0) _ rfl K6.out Tryd.underlying47 rfl (by simp only [List.size_toArray]; rw [hgl]; exact Tryd.size47) rfl) rfl ⟨B6.out, .inr (.inr ⟨HVT.out, HIN.out, by rw [HID.out]⟩)⟩
end Go.Proofs.YtniknhhejlgdfaaDoor
/- First and Next of the program and of the document, each by one plain value. -/
namespace Go.Proofs.YtniknhhejlgdfaaDoor
open Go.RowKit

theorem em_of_sen {w : World} {al : List Addr} (h : SenN w al) (hk : w.rangeAt 18 0 (u32s kk)) : ∃ aR aS aE, Em w aR aS aE ∧ errV aS = errN al 11 ∧ errV aE = errN al 18 := by
  obtain ⟨aR, iR⟩ := h.at 0 (by omega)
  obtain ⟨aS, iS⟩ := h.at 10 (by omega)
  obtain ⟨aE, iE⟩ := h.at 17 (by omega)
  exact ⟨aR, aS, aE, ⟨h.cell 0 1 aR rfl iR, h.cell 10 11 aS rfl iS, h.cell 17 0 aE rfl iE, hk, kk_lt hk⟩, (errN_at iS).symm, (errN_at iE).symm⟩
structure Gd where
  e : Int
  g : List Int
  xs : List Va
  k : Nat
def fstG (vs : List Va) : Gd := if validB vs = true then ⟨1, idB (GEN 1 zero16), vs, 0⟩ else ⟨0, zero16, [], 11⟩
def nxtG (vs : List Va) (e : Int) (p : List Int) : Gd := if validB vs = true then (if 0 ≤ e ∧ e < 1073741824 then ⟨e + 1, idB (GEN (e + 1) p), vs, 0⟩ else ⟨0, zero16, [], 18⟩) else ⟨0, zero16, [], 11⟩
set_option maxRecDepth 100000 in
theorem fstG_len (vs : List Va) : (fstG vs).g.length = 16 := by
  have h := (idB_good (GEN 1 zero16)).1
  unfold fstG
  split
  · exact h
  · exact zero16_len
set_option maxRecDepth 100000 in
theorem nxtG_len (vs : List Va) (e : Int) (p : List Int) : (nxtG vs e p).g.length = 16 := by
  have h := (idB_good (GEN (e + 1) p)).1
  unfold nxtG
  split
  · split
    · exact h
    · exact zero16_len
  · exact zero16_len
theorem nxtG_k (vs : List Va) (e : Int) (p : List Int) : (nxtG vs e p).k ≤ 18 := by unfold nxtG; split; split; all_goals simp
def GrV (w' : World) (G : Gd) (x : Value → Value) (v : Ending) : Prop := ∃ A n c, v = .returned (x (.agg (gndC G.e (.slice A n c) G.g).toArray)) ∧ Vals w' (.slice A n c) G.xs ∧ n ≤ 7
theorem nilVals (w : World) : Vals w (.slice none 0 0) [] := ⟨⟨_, _, rfl⟩, fun h => absurd rfl h, fun x hx => by cases hx⟩
set_option maxRecDepth 100000 in
theorem first_g (vs : List Va) (A : Option Addr) (n c : Nat) (al : List Addr) (aR aS aE : Addr) (w : World) (hv : Vals w (.slice A n c) vs) (hs : Em w aR aS aE) (h11 : errV aS = errN al 11) :
    Calls Tryd.prog 10 #[.slice A n c] w fun x w' => Below w.heap.size w w' ∧ GrV w' (fstG vs) (fun r => .tuple #[r, errN al (fstG vs).k]) x := by
  have hn := hv.len
  have hg := hv.good
  refine (first_any vs A n c aR aS aE w hv hs).mono fun x w' ⟨hb, hr⟩ => ⟨hb, ?_⟩
  rcases hr with ⟨hf, rfl⟩ | ⟨ht, A2, c2, rfl, ho⟩
  · rw [show fstG vs = ⟨0, zero16, [], 11⟩ by unfold fstG; rw [if_neg (by simp [hf])]]
    exact ⟨none, 0, 0, by rw [h11]; rfl, nilVals _, by omega⟩
  · rw [show fstG vs = ⟨1, idB (GEN 1 zero16), vs, 0⟩ by unfold fstG; rw [if_pos ht]]
    exact ⟨A2, n, c2, rfl, Vals.of_own ho hn hg, by have := hv7 vs ht; omega⟩
set_option maxRecDepth 100000 in
theorem next_g (e : Int) (v0 : Value) (gen p : List Int) (hgen : gen.length = 16) (hp : p.length = 16) (hpo : u8s_ok p) (vs : List Va) (A : Option Addr) (n c : Nat) (al : List Addr) (aR aS aE : Addr) (w : World) (hv : Vals w (.slice A n c) vs) (hs : Em w aR aS aE) (h11 : errV aS = errN al 11) (h18 : errV aE = errN al 18) :
    Calls Tryd.prog 11 #[.agg (gndC e v0 gen).toArray, .agg (u8s p).toArray, .slice A n c] w fun x w' => Below w.heap.size w w' ∧ GrV w' (nxtG vs e p) (fun r => .tuple #[r, errN al (nxtG vs e p).k]) x := by
  have hn := hv.len
  have hg := hv.good
  refine (next_any e v0 gen p hgen hp hpo vs A n c aR aS aE w hv hs).mono fun x w' ⟨hb, hr⟩ => ⟨hb, ?_⟩
  rcases hr with ⟨hf, rfl⟩ | ⟨ht, ho, rfl⟩ | ⟨ht, hi, A2, c2, rfl, ho⟩
  · rw [show nxtG vs e p = ⟨0, zero16, [], 11⟩ by unfold nxtG; rw [if_neg (by simp [hf])]]
    exact ⟨none, 0, 0, by rw [h11]; rfl, nilVals _, by omega⟩
  · rw [show nxtG vs e p = ⟨0, zero16, [], 18⟩ by unfold nxtG; unfold OutE at ho; rw [if_pos ht, if_neg (by omega)]]
    exact ⟨none, 0, 0, by rw [h18]; rfl, nilVals _, by omega⟩
  · rw [show nxtG vs e p = ⟨e + 1, idB (GEN (e + 1) p), vs, 0⟩ by unfold nxtG; unfold InE at hi; rw [if_pos ht, if_pos hi]]
    exact ⟨A2, n, c2, rfl, Vals.of_own ho hn hg, by have := hv7 vs ht; omega⟩
set_option maxRecDepth 100000 in
theorem rnext_g (e : Int) (v0 : Value) (gen p : List Int) (hp : p.length = 16) (hpo : u8s_ok p) (vs : List Va) (A : Option Addr) (n c : Nat) (w : World) (hv : Vals w (.slice A n c) vs) :
    Calls Tryd.prog 14 #[.agg (gndC e v0 gen).toArray, .agg (u8s p).toArray, .slice A n c] w fun x w' => Below w.heap.size w w' ∧ GrV w' (nxtG vs e p) (fun r => .tuple #[r, .int .i64 (nxtG vs e p).k]) x := by
  have hn := hv.len
  refine (rnext_any e v0 gen p hp hpo vs A n c w hv).mono fun x w' ⟨hb, hr⟩ => ⟨hb, ?_⟩
  rcases hr with ⟨hf, rfl⟩ | ⟨ht, ho, rfl⟩ | ⟨ht, hi, rfl⟩
  · rw [show nxtG vs e p = ⟨0, zero16, [], 11⟩ by unfold nxtG; rw [if_neg (by simp [hf])]]
    exact ⟨none, 0, 0, rfl, nilVals _, by omega⟩
  · rw [show nxtG vs e p = ⟨0, zero16, [], 18⟩ by unfold nxtG; unfold OutE at ho; rw [if_pos ht, if_neg (by omega)]]
    exact ⟨none, 0, 0, rfl, nilVals _, by omega⟩
  · rw [show nxtG vs e p = ⟨e + 1, idB (GEN (e + 1) p), vs, 0⟩ by unfold nxtG; unfold InE at hi; rw [if_pos ht, if_pos hi]]
    exact ⟨A, n, c, rfl, hv.below hb, by have := hv7 vs ht; omega⟩
end Go.Proofs.YtniknhhejlgdfaaDoor
/- EpochsGrounds: what the law does. -/
namespace Go.Proofs.YtniknhhejlgdfaaDoor
open Go.RowKit

set_option maxRecDepth 100000 in
theorem build47z (W : World) : (Instr.build 47 #[]).run Tryd.prog W = .ok noG W := run_build W 47 _ _ (by kernel_rfl)
set_option maxHeartbeats 16000000 in
set_option maxRecDepth 100000 in
theorem epochsGrounds_any (e : Int) (A9 : Option Addr) (n9 c9 : Nat) (gen p : List Int) (hgen : gen.length = 16) (hp : p.length = 16) (hpo : u8s_ok p) (vs : List Va) (A : Option Addr) (n c : Nat) (al : List Addr) (w : World) (hv : Vals w (.slice A n c) vs) (hs : SenN w al) (hk : w.rangeAt 18 0 (u32s kk)) :
    Calls Tryd.prog 5 #[.agg (gndC e (.slice A9 n9 c9) gen).toArray, .agg (u8s p).toArray, .slice A n c] w fun x w' => x = .returned (.bool true) ∧ Below w.heap.size w w' := by
  obtain ⟨aR, aS, aE, hem, h11, h18⟩ := em_of_sen hs hk
  have b0 : Below w.heap.size w ((w.alloc (.cells (gndC e (.slice A9 n9 c9) gen).toArray 27)).alloc (.cells (u8s p).toArray 24)) := ((Below.refl _ _).alloc (Nat.le_refl _) _).alloc (by simp) _
  have k1 : ((w.alloc (.cells (gndC e (.slice A9 n9 c9) gen).toArray 27)).alloc (.cells (u8s p).toArray 24)).heap[w.heap.size + 1]? = some (.cells (u8s p).toArray 24 (0, 0)) := by
    have := heap_alloc_new (w.alloc (.cells (gndC e (.slice A9 n9 c9) gen).toArray 27)) (.cells (u8s p).toArray 24)
    rwa [World.size_alloc] at this
  have HP := Lib.hid hp
  have HPO := Lib.hid hpo
  have HGE := Lib.hid hgen
  have H11 := Lib.hid h11
  have H18 := Lib.hid h18
  have V0 := Lib.hid (hv.below b0)
  have S0 := Lib.hid (hs.below b0)
  have E0 := Lib.hid (hem.below b0)
  have G0 := Lib.hid (heap_alloc2_old w (.cells (gndC e (.slice A9 n9 c9) gen).toArray 27) (.cells (u8s p).toArray 24))
  have P0 := Lib.hid k1
  have B0 := Lib.hid b0
  have hg0 := Lib.hid (gnd_len e (.slice A9 n9 c9) gen hgen)
  clear b0 hv hs hk hem h11 h18 k1 hp hpo hgen
  go_enter Tryd.func5, Tryd.ntmps5
  go_wp2_with fail
  refine (alive20_any aR aS aE _ E0.out).mono ?_
  rintro _ w1 ⟨rfl, hb1⟩
  have V1 := Lib.hid (V0.out.below hb1)
  have S1 := Lib.hid (S0.out.below hb1)
  have E1 := Lib.hid (E0.out.below hb1)
  have G1 := Lib.hid (blk_below G0.out hb1)
  have P1 := Lib.hid (blk_below P0.out hb1)
  have B1 := Lib.hid (B0.out.trans (hb1.mono B0.out.size))
  clear hb1
  clear V0 S0 E0 G0 P0 B0
  have c1 := gnd_1 G1.out
  by_cases h9 : 20 < n9
  · have h9' : (20 : Int) < n9 := by omega
    go_wp2_with fail
    go_ret
    exact ⟨rfl, B1.out⟩
  have h9' : ¬ (20 : Int) < n9 := by omega
  by_cases h20 : 20 < n
  · have h20' : (20 : Int) < n := by omega
    go_wp2_with fail
    go_ret
    exact ⟨rfl, B1.out⟩
  have h20' : ¬ (20 : Int) < n := by omega
  go_wp2_with fail
  clear h9 h9' h20 h20' c1
  refine (first_g vs A n c al aR aS aE w1 V1.out E1.out H11.out).mono ?_
  rintro _ w2 ⟨hb2, A3, n3, c3, rfl, hv3, hn3⟩
  have V2 := Lib.hid (V1.out.below hb2)
  have S2 := Lib.hid (S1.out.below hb2)
  have E2 := Lib.hid (E1.out.below hb2)
  have G2 := Lib.hid (blk_below G1.out hb2)
  have P2 := Lib.hid (blk_below P1.out hb2)
  have B2 := Lib.hid (B1.out.trans (hb2.mono B1.out.size))
  clear hb2
  clear V1 S1 E1 G1 P1 B1
  have X2 := Lib.hid hv3
  have N3 := Lib.hid hn3
  obtain ⟨⟨e1, g1, xs1, k1⟩, hf⟩ : ∃ t, t = fstG vs := ⟨_, rfl⟩
  have hl := fstG_len vs
  rw [← hf] at X2 hv3 hl ⊢
  dsimp only at X2 hl ⊢
  have HF := Lib.hid hf
  have hlg := Lib.hid (gnd_len e1 (.slice A3 n3 c3) g1 hl)
  have HL1 := Lib.hid hl
  clear hv3 hn3 hf hl
  go_wp2_with (first | (refine wpList_store_row rfl 27 (.tmp 7) (.tmp 27) rfl w2.heap.size rfl (gndC e1 (.slice A3 n3 c3) g1) rfl 27 (has_new w2 _ _ _ (by rw [hlg.out]; rfl)) (by rw [hlg.out]; exact Tryd.size27) (one_gnd _ _ _ rfl) ?_; intro w3 hp3; have L3 : Below w2.heap.size w2 w3 := hp3.below ((Below.refl _ _).alloc (Nat.le_refl _) _) (Nat.le_refl _); have V3 := Lib.hid (V2.out.below L3); have S3 := Lib.hid (S2.out.below L3); have E3 := Lib.hid (E2.out.below L3); have G3 := Lib.hid (blk_below G2.out L3); have P3 := Lib.hid (blk_below P2.out L3); have X3 := Lib.hid (X2.out.below L3); have B3 := Lib.hid (B2.out.trans (L3.mono B2.out.size)); have F3 := Lib.hid hp3.blk; clear hp3 L3) | (refine wpList_load_g rfl 27 (.tmp 3) rfl (w.heap.size) 0 rfl (gndC e (.slice A9 n9 c9) gen) _ (blk_range G3.out) Tryd.underlying27 rfl (by rw [hg0.out]; exact Tryd.size27) ?_) | (refine wpList_load_g rfl 24 (.tmp 4) rfl (w.heap.size + 1) 0 rfl (u8s p) _ (blk_range P3.out) Tryd.underlying24 rfl (hi24 p HP.out) ?_))
  refine (next_g e (.slice A9 n9 c9) gen p HGE.out HP.out HPO.out vs A n c al aR aS aE w3 V3.out E3.out H11.out H18.out).mono ?_
  rintro _ w4 ⟨hb4, A4, n4, c4, rfl, hv4, hn4⟩
  have V4 := Lib.hid (V3.out.below hb4)
  have S4 := Lib.hid (S3.out.below hb4)
  have E4 := Lib.hid (E3.out.below hb4)
  have G4 := Lib.hid (blk_below G3.out hb4)
  have P4 := Lib.hid (blk_below P3.out hb4)
  have X4 := Lib.hid (X3.out.below hb4)
  have F4 := Lib.hid (blk_below F3.out hb4)
  have B4 := Lib.hid (B3.out.trans (hb4.mono B3.out.size))
  clear hb4
  clear V3 S3 E3 G3 P3 X3 F3 B3
  have Y4 := Lib.hid hv4
  have N4 := Lib.hid hn4
  obtain ⟨NX, hnx⟩ : ∃ t, t = nxtG vs e p := ⟨_, rfl⟩
  have hl := nxtG_len vs e p
  have hk := nxtG_k vs e p
  rw [← hnx] at Y4 hl hk ⊢
  have HNX := Lib.hid hnx
  clear hv4 hn4 hnx
  obtain ⟨e2, g2, xs2, k2⟩ := NX
  dsimp only at Y4 hl hk ⊢
  have hlg2 := Lib.hid (fun A n c => gnd_len e2 (.slice A n c) g2 hl)
  have HL2 := Lib.hid hl
  have HK2 := Lib.hid hk
  clear hl hk
  go_wp2_with (first | (refine wpList_store_row rfl 27 (.tmp 9) (.tmp 34) rfl w4.heap.size rfl (gndC e2 (.slice A4 n4 c4) g2) rfl 27 (has_new w4 _ _ _ (by rw [hlg2.out]; rfl)) (by rw [hlg2.out]; exact Tryd.size27) (one_gnd _ _ _ rfl) ?_; intro w5 hp5; have L5 : Below w4.heap.size w4 w5 := hp5.below ((Below.refl _ _).alloc (Nat.le_refl _) _) (Nat.le_refl _); have V5 := Lib.hid (V4.out.below L5); have S5 := Lib.hid (S4.out.below L5); have E5 := Lib.hid (E4.out.below L5); have G5 := Lib.hid (blk_below G4.out L5); have P5 := Lib.hid (blk_below P4.out L5); have X5 := Lib.hid (X4.out.below L5); have F5 := Lib.hid (blk_below F4.out L5); have Y5 := Lib.hid (Y4.out.below L5); have B5 := Lib.hid (B4.out.trans (L5.mono B4.out.size)); have N5 := Lib.hid hp5.blk; clear hp5 L5) | (refine wpList_load_g rfl 27 (.tmp 3) rfl (w.heap.size) 0 rfl (gndC e (.slice A9 n9 c9) gen) _ (blk_range G5.out) Tryd.underlying27 rfl (by rw [hg0.out]; exact Tryd.size27) ?_) | (refine wpList_load_g rfl 24 (.tmp 4) rfl (w.heap.size + 1) 0 rfl (u8s p) _ (blk_range P5.out) Tryd.underlying24 rfl (hi24 p HP.out) ?_))
  refine (rnext_g e (.slice A9 n9 c9) gen p HP.out HPO.out vs A n c w5 V5.out).mono ?_
  rintro _ w6 ⟨hb6, A6, n6, c6, rfl, hv6, hn6⟩
  have V6 := Lib.hid (V5.out.below hb6)
  have S6 := Lib.hid (S5.out.below hb6)
  have E6 := Lib.hid (E5.out.below hb6)
  have G6 := Lib.hid (blk_below G5.out hb6)
  have P6 := Lib.hid (blk_below P5.out hb6)
  have X6 := Lib.hid (X5.out.below hb6)
  have F6 := Lib.hid (blk_below F5.out hb6)
  have Y6 := Lib.hid (Y5.out.below hb6)
  have N6 := Lib.hid (blk_below N5.out hb6)
  have B6 := Lib.hid (B5.out.trans (hb6.mono B5.out.size))
  clear hb6
  clear V5 S5 E5 G5 P5 X5 F5 Y5 N5 B5
  have Z6 := Lib.hid hv6
  rw [← HNX.out] at Z6 ⊢
  dsimp only at Z6 ⊢
  have hm2 := Y6.out.len
  have hm6 := Z6.out.len
  have hnn : n6 = n4 := by rw [hm2, hm6]
  subst hnn
  clear hv6 hn6 hm2 hm6
  go_wp2_with (first | (refine wpList_store_row rfl 47 (.tmp 11) (.tmp 41) rfl w6.heap.size rfl (gndC e2 (.slice A6 n6 c6) g2) rfl 47 (has_new w6 _ _ _ (by rw [hlg2.out]; rfl)) (by rw [hlg2.out]; exact Tryd.size47) (one_gnd _ _ _ rfl) ?_; intro w7 hp7; have L7 : Below w6.heap.size w6 w7 := hp7.below ((Below.refl _ _).alloc (Nat.le_refl _) _) (Nat.le_refl _); have V7 := Lib.hid (V6.out.below L7); have S7 := Lib.hid (S6.out.below L7); have E7 := Lib.hid (E6.out.below L7); have G7 := Lib.hid (blk_below G6.out L7); have P7 := Lib.hid (blk_below P6.out L7); have X7 := Lib.hid (X6.out.below L7); have F7 := Lib.hid (blk_below F6.out L7); have Y7 := Lib.hid (Y6.out.below L7); have N7 := Lib.hid (blk_below N6.out L7); have Z7 := Lib.hid (Z6.out.below L7); have B7 := Lib.hid (B6.out.trans (L7.mono B6.out.size)); have R7 := Lib.hid hp7.blk; clear hp7 L7) | (refine wpList_load_g rfl 27 (.tmp 9) rfl (w4.heap.size) 0 rfl (gndC e2 (.slice A4 n6 c4) g2) _ (blk_range N7.out) Tryd.underlying27 rfl (by rw [hlg2.out]; exact Tryd.size27) ?_) | (refine wpList_load_g rfl 47 (.tmp 11) rfl (w6.heap.size) 0 rfl (gndC e2 (.slice A6 n6 c6) g2) _ (blk_range R7.out) Tryd.underlying47 rfl (by rw [hlg2.out]; exact Tryd.size47) ?_))
  refine (same_eq e2 g2 HL2.out xs2 A4 A6 n6 c4 c6 w7 Y7.out Z7.out (by have := N4.out; omega)).mono ?_
  rintro _ w8 ⟨rfl, hb8⟩
  have V8 := Lib.hid (V7.out.below hb8)
  have S8 := Lib.hid (S7.out.below hb8)
  have E8 := Lib.hid (E7.out.below hb8)
  have G8 := Lib.hid (blk_below G7.out hb8)
  have P8 := Lib.hid (blk_below P7.out hb8)
  have X8 := Lib.hid (X7.out.below hb8)
  have F8 := Lib.hid (blk_below F7.out hb8)
  have B8 := Lib.hid (B7.out.trans (hb8.mono B7.out.size))
  clear hb8
  clear V7 S7 E7 G7 P7 X7 F7 Y7 N7 Z7 R7 B7
  go_wp2_with fail
  refine (num_any al k2 HK2.out w8 S8.out).mono ?_
  rintro _ w9 ⟨rfl, hb9⟩
  have V9 := Lib.hid (V8.out.below hb9)
  have S9 := Lib.hid (S8.out.below hb9)
  have E9 := Lib.hid (E8.out.below hb9)
  have G9 := Lib.hid (blk_below G8.out hb9)
  have P9 := Lib.hid (blk_below P8.out hb9)
  have X9 := Lib.hid (X8.out.below hb9)
  have F9 := Lib.hid (blk_below F8.out hb9)
  have B9 := Lib.hid (B8.out.trans (hb9.mono B8.out.size))
  clear hb9
  clear V8 S8 E8 G8 P8 X8 F8 B8
  have c0 := gnd_0 G9.out
  go_wp2_with fail
  have C0 := Lib.hid c0
  clear c0
  refine wp_region_rely3 (by kernel_rfl) 10 (by kernel_rfl) (by kernel_rfl) Ext Ext.refl Ext.trans (fun ix => match ix with
    | 0 => fun _ v => v = .pointer (some ⟨w.heap.size, 0, none⟩)
    | 1 => fun _ v => v = .int .i64 e
    | 2 => fun _ v => v = .agg (u8s p).toArray
    | 3 => fun _ v => v = .agg (genC e p).toArray
    | 4 => fun _ v => v = .pointer (some ⟨w.heap.size, 0, none⟩)
    | 5 => fun _ v => v = .int .i64 e
    | 6 => fun _ v => v = .agg (u8s p).toArray
    | 7 => fun _ v => v = .agg (genC e p).toArray
    | 8 => fun _ v => v = .bool true
    | 9 => fun _ v => v = .bool false
    | _ => fun _ _ => False) ?_
  simp (maxSteps := 10000000) only [Rely, List.take_succ_cons, List.take_zero, List.drop_succ_cons, List.drop_zero, Nat.reduceAdd, Nat.zero_add, Act.put, List.setIfInBounds_toArray, List.set_cons_succ, List.set_cons_zero]
  refine ⟨?_, ?_, ?_, ?_, ?_, ?_, ?_, ?_, ?_, ?_, ?_⟩
  · refine step_plain rfl fun rv w10 hE hd => ?_
    exact gives_fieldAddr' 27 _ 0 rfl (.pointer (some ⟨w.heap.size, 0, none⟩)) _ rfl (by go_simp) ⟨Ext.refl _, fun _ _ => rfl⟩
  · refine step_plain rfl fun rv w10 hE hd => ?_
    have hc := cell_on (ext_of_drew hE) C0.out
    exact gives_loadAt 3 _ rfl (.pointer (some ⟨w.heap.size, 0, none⟩)) (.int .i64 e) (show rv 0 = _ from hd.1) (by go_simp) ⟨Ext.refl _, fun _ _ => rfl⟩
  · refine step_plain rfl fun rv w10 hE hd => ?_
    exact gives_load_row 24 _ rfl (w.heap.size + 1) (0) rfl (u8s p) _ (range_below (blk_range P9.out) (ext_of_drew hE)) Tryd.underlying24 rfl (hi24 p HP.out) ⟨Ext.refl _, fun _ _ => rfl⟩
  · refine step_plain rfl fun rv w10 hE hd => ?_
    refine gives_call 13 (enters_of Tryd.func13 (by kernel_rfl) rfl) _ _ rfl rfl [.int .i64 e, .agg (u8s p).toArray] (congr (congrArg (fun a b => a :: b) (show rv 1 = _ from hd.1)) (congrArg (fun a => [a]) (show rv 2 = _ from hd.2.1))) ?_
    refine (genesis_any e p HP.out w10).mono ?_
    rintro _ w'' ⟨rfl, hb⟩
    exact ⟨_, rfl, hb, fun _ _ => rfl⟩
  · refine step_plain rfl fun rv w10 hE hd => ?_
    exact gives_fieldAddr' 27 _ 0 rfl (.pointer (some ⟨w.heap.size, 0, none⟩)) _ rfl (by go_simp) ⟨Ext.refl _, fun _ _ => rfl⟩
  · refine step_plain rfl fun rv w10 hE hd => ?_
    have hc := cell_on (ext_of_drew hE) C0.out
    exact gives_loadAt 3 _ rfl (.pointer (some ⟨w.heap.size, 0, none⟩)) (.int .i64 e) (show rv 4 = _ from hd.1) (by go_simp) ⟨Ext.refl _, fun _ _ => rfl⟩
  · refine step_plain rfl fun rv w10 hE hd => ?_
    exact gives_load_row 24 _ rfl (w.heap.size + 1) (0) rfl (u8s p) _ (range_below (blk_range P9.out) (ext_of_drew hE)) Tryd.underlying24 rfl (hi24 p HP.out) ⟨Ext.refl _, fun _ _ => rfl⟩
  · refine step_plain rfl fun rv w10 hE hd => ?_
    refine gives_call 18 (enters_of Tryd.func18 (by kernel_rfl) rfl) _ _ rfl rfl [.int .i64 e, .agg (u8s p).toArray] (congr (congrArg (fun a b => a :: b) (show rv 5 = _ from hd.1)) (congrArg (fun a => [a]) (show rv 6 = _ from hd.2.1))) ?_
    refine (rgenesis_any e p HP.out w10).mono ?_
    rintro _ w'' ⟨rfl, hb⟩
    exact ⟨_, rfl, hb, fun _ _ => rfl⟩
  · refine step_plain rfl fun rv w10 hE hd => ?_
    refine gives_call 17 (enters_of Tryd.func17 (by kernel_rfl) rfl) _ _ rfl rfl [.agg (genC e p).toArray, .agg (genC e p).toArray] (congr (congrArg (fun a b => a :: b) (show rv 3 = _ from hd.1)) (congrArg (fun a => [a]) (show rv 7 = _ from hd.2.1))) ?_
    refine (sameBlock_gen e p HP.out w10).mono ?_
    rintro _ w'' ⟨rfl, hb⟩
    exact ⟨_, rfl, hb, fun _ _ => rfl⟩
  · refine step_plain rfl fun rv w10 hE hd => ?_
    exact gives_unOp .not 4 _ rfl (.bool true) (.bool false) (show rv 8 = _ from hd.1) (by go_simp) ⟨Ext.refl _, fun _ _ => rfl⟩
  · intro rv w10 hE hR
    have h9 : rv 9 = .bool false := hR 9 (by omega)
    rw [h9]
    skip
    have V10 := Lib.hid (V9.out.below (ext_of_drew hE))
    have S10 := Lib.hid (S9.out.below (ext_of_drew hE))
    have X10 := Lib.hid (X9.out.below (ext_of_drew hE))
    have F10 := Lib.hid (blk_below F9.out (ext_of_drew hE))
    have B10 := Lib.hid (B9.out.trans ((ext_of_drew hE).mono B9.out.size))
    clear hR hE h9 C0
    clear V9 S9 E9 G9 P9 X9 F9 B9
    go_wp2_with fail
    refine (vright_any vs A n c w10 V10.out).mono ?_
    rintro _ w11 ⟨rfl, hb11⟩
    have V11 := Lib.hid (V10.out.below hb11)
    have S11 := Lib.hid (S10.out.below hb11)
    have X11 := Lib.hid (X10.out.below hb11)
    have F11 := Lib.hid (blk_below F10.out hb11)
    have B11 := Lib.hid (B10.out.trans (hb11.mono B10.out.size))
    clear hb11
    clear V10 S10 X10 F10 B10
    by_cases hval : validB vs = true
    case neg =>
      have hf := HF.out
      unfold fstG at hf
      rw [if_neg hval] at hf
      simp only [Gd.mk.injEq] at hf
      obtain ⟨rfl, rfl, rfl, rfl⟩ := hf
      rw [show validB vs = false by simpa using hval]
      clear hval
      go_wp2_with (first | (refine wpList_load_g rfl 27 (.tmp 7) rfl (w2.heap.size) 0 rfl (gndC 0 (.slice A3 n3 c3) zero16) _ (blk_range F11.out) Tryd.underlying27 rfl (by rw [gnd_len _ _ _ zero16_len]; exact Tryd.size27) ?_) | (refine wpList_bld rfl 47 _ rfl #[] (by simp) _ (build47z _) ?_))
      have hn0 := X11.out.len
      obtain rfl : n3 = 0 := hn0
      refine (same_eq 0 zero16 zero16_len [] A3 none 0 c3 0 w11 X11.out (nilVals _) (by omega)).mono ?_
      rintro _ w12 ⟨rfl, hb12⟩
      have B12 := Lib.hid (B11.out.trans (hb12.mono B11.out.size))
      have S12 := Lib.hid (S11.out.below hb12)
      clear hb12
      go_wp2_with fail
      refine (num_any al 11 (by omega) w12 S12.out).mono ?_
      rintro _ w13 ⟨rfl, hb13⟩
      have B13 := Lib.hid (B12.out.trans (hb13.mono B12.out.size))
      clear hb13
      go_wp2_with fail
      go_ret
      exact ⟨rfl, B13.out⟩
    have hf := HF.out
    unfold fstG at hf
    rw [if_pos hval] at hf
    simp only [Gd.mk.injEq] at hf
    obtain ⟨rfl, hg, rfl, rfl⟩ := hf
    have HG := Lib.hid hg
    rw [hval, show errN al 0 = Value.nilIface from rfl]
    clear hval hg
    have hnn := X11.out.len
    have hnm := V11.out.len
    obtain rfl : n3 = n := by rw [hnn, hnm]
    clear hnn hnm
    go_wp2_with fail
    refine wp_region_rely3 (by kernel_rfl) 8 (by kernel_rfl) (by kernel_rfl) Ext Ext.refl Ext.trans (fun ix => match ix with
      | 0 => fun _ v => v = .nilIface
      | 1 => fun _ v => v = .bool true
      | 2 => fun _ v => v = .bool true
      | 3 => fun _ v => v = .agg (gndC 1 (.slice A3 n3 c3) g1).toArray
      | 4 => fun _ v => v = .slice A n3 c
      | 5 => fun _ v => v = .agg (gndC 1 (.slice A n3 c) g1).toArray
      | 6 => fun _ v => v = .bool true
      | 7 => fun _ v => v = .bool true
      | _ => fun _ _ => False) ?_
    simp (maxSteps := 10000000) only [Rely, List.take_succ_cons, List.take_zero, List.drop_succ_cons, List.drop_zero, Nat.reduceAdd, Nat.zero_add, Act.put, List.setIfInBounds_toArray, List.set_cons_succ, List.set_cons_zero]
    refine ⟨?_, ?_, ?_, ?_, ?_, ?_, ?_, ?_, ?_⟩
    · refine step_plain rfl fun rv wq hE hd => ?_
      exact gives_move _ (.nilIface) (.inl rfl) rfl ⟨Ext.refl _, fun _ _ => rfl⟩
    · refine step_plain rfl fun rv wq hE hd => ?_
      exact gives_binOp .eql 29 _ _ _ rfl (.nilIface) (.nilIface) (.bool true) (show rv 0 = _ from hd.1) rfl (by go_simp) (by go_simp) ⟨Ext.refl _, fun _ _ => rfl⟩
    · refine step_plain rfl fun rv wq hE hd => ?_
      exact gives_move _ (.bool true) (.inl rfl) (show rv 1 = _ from hd.1) ⟨Ext.refl _, fun _ _ => rfl⟩
    · refine step_guard 2 true 76 rfl rfl (fun _ => rfl) fun rv wq hE hd => ⟨hd.1, ?_⟩
      exact gives_load_row 27 _ rfl (w2.heap.size) (0) rfl (gndC 1 (.slice A3 n3 c3) g1) _ (range_below (blk_range F11.out) (ext_of_drew hE)) Tryd.underlying27 rfl (by rw [hlg.out]; exact Tryd.size27) ⟨Ext.refl _, fun _ _ => rfl⟩
    · refine step_guard 2 true 76 rfl rfl (fun _ => rfl) fun rv wq hE hd => ⟨hd.1, ?_⟩
      exact gives_move _ (.slice A n3 c) (.inl rfl) rfl ⟨Ext.refl _, fun _ _ => rfl⟩
    · refine step_guard 2 true 76 rfl rfl (fun _ => rfl) fun rv wq hE hd => ⟨hd.2.2.1, ?_⟩
      refine gives_call 20 (enters_of Tryd.func20 (by kernel_rfl) rfl) _ _ rfl rfl [.slice A n3 c] (congrArg (fun a => [a]) (show rv 4 = _ from hd.1)) ?_
      refine (rfirst_any A n3 c wq).mono ?_
      rintro _ w'' ⟨rfl, hb⟩
      exact ⟨_, rfl, hb, fun _ _ => by rw [HG.out]; rfl⟩
    · refine step_guard 2 true 76 rfl rfl (fun _ => rfl) fun rv wq hE hd => ⟨hd.2.2.2.1, ?_⟩
      refine gives_call 15 (enters_of Tryd.func15 (by kernel_rfl) rfl) _ _ rfl rfl [.agg (gndC 1 (.slice A3 n3 c3) g1).toArray, .agg (gndC 1 (.slice A n3 c) g1).toArray] (congr (congrArg (fun a b => a :: b) (show rv 3 = _ from hd.1)) (congrArg (fun a => [a]) (show rv 5 = _ from hd.2.1))) ?_
      refine (same_eq 1 g1 HL1.out xs1 A3 A n3 c3 c wq (X11.out.below (ext_of_drew hE)) (V11.out.below (ext_of_drew hE)) (by have := N3.out; omega)).mono ?_
      rintro _ w'' ⟨rfl, hb⟩
      exact ⟨_, rfl, hb, fun _ _ => rfl⟩
    · refine step_plain rfl fun rv wq hE hd => ?_
      exact gives_pick _ _ _ (.bool true) true rfl (show rv 2 = _ from hd.1) (show rv 6 = _ from hd.2.1) ⟨Ext.refl _, fun _ _ => rfl⟩
    · intro rv wq hE hR
      have h7 : rv 7 = .bool true := hR 7 (by omega)
      rw [h7]
      have B12 := Lib.hid (B11.out.trans ((ext_of_drew hE).mono B11.out.size))
      clear hR hE h7
      go_wp2_with fail
      go_ret
      exact ⟨rfl, B12.out⟩
end Go.Proofs.YtniknhhejlgdfaaDoor
/- A ground that came in. -/
namespace Go.Proofs.YtniknhhejlgdfaaDoor
open Go.ChangeShapes Go.WideShapes Go.ChangeAt Go.RowKit

set_option maxRecDepth 100000 in
theorem open_ground {H : Type} {enc : TypeId × Value → H} {W : World} {base : Nat} {spare : Nat → Bool} {held : Bool} {v : Value} {d : DataW H} {ps : List MemPlace}
    (h : DataW.Trod enc Tryd.prog W base spare held 27 v d ps) : ∃ e A n c g, v = .agg (gndC e (.slice A n c) g).toArray ∧ g.length = 16 := by
  have c27 : Tryd.prog.cellsOf 27 = 18 := by kernel_rfl
  have c3 : Tryd.prog.cellsOf 3 = 1 := by kernel_rfl
  have c22 : Tryd.prog.cellsOf 22 = 1 := by kernel_rfl
  have c24 : Tryd.prog.cellsOf 24 = 16 := by kernel_rfl
  obtain ⟨fuel, hf⟩ := h
  obtain ⟨y0, y1, y2, m, _, hlen, h0, h1, h2⟩ := Go.Deep.trod_struct3 Tryd.underlying27 hf
  rw [c27] at hlen
  have hv : ∃ cs, v = .agg cs := by
    cases v with
    | agg cs => exact ⟨cs, rfl⟩
    | _ => simp [Value.cells] at hlen
  obtain ⟨cs, rfl⟩ := hv
  simp only [Value.cells] at hlen h0 h1 h2
  simp only [c3, c22, c24] at h0 h1 h2
  obtain ⟨e, he, _, _⟩ := DataW.trod_int Tryd.underlying3 h0
  obtain ⟨g, hg, lg, _⟩ := open_dg_cells h2
  have hs : ∃ A n c, ((cs.toList.drop 1).take 1) = [.slice A n c] := by
    rcases DataW.trod_slice Tryd.underlying22 h1 with ⟨hc, _⟩ | ⟨a, len, cap, elems, rest, k, _, hc, _⟩
    · exact ⟨none, 0, 0, hc⟩
    · exact ⟨some a, len, cap, hc⟩
  obtain ⟨A, n, c, hs⟩ := hs
  refine ⟨e, A, n, c, g, ?_, lg⟩
  have : cs.toList = gndC e (.slice A n c) g := by
    have e0 : cs.toList = cs.toList.take 1 ++ ((cs.toList.drop 1).take 1 ++ (cs.toList.drop 2).take 16) := by
      rw [List.take_of_length_le (l := cs.toList.drop 2) (by rw [List.length_drop]; omega)]
      have h2 : cs.toList.drop 2 = (cs.toList.drop 1).drop 1 := by rw [List.drop_drop]
      rw [h2, List.take_append_drop, List.take_append_drop]
    rw [List.drop_zero] at he
    rw [e0, he, hs, hg]
    rfl
  rw [← this, Array.toArray_toList]
end Go.Proofs.YtniknhhejlgdfaaDoor
