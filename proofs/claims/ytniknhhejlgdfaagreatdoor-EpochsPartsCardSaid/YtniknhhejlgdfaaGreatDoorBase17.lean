/- Lemmas that laws of this seat rest on, part 17; each says its own conditions: Chk2, RNx, GndN, Wk, Eg, Sl45. -/
import Derived.Test.YtniknhhejlgdfaaGreatDoorBase8
import Derived.Test.YtniknhhejlgdfaaGreatDoorBase9
import Derived.Test.YtniknhhejlgdfaaGreatDoorBase14
import Derived.Test.YtniknhhejlgdfaaGreatDoorBase16
/- epochs.Check: which Changes are right. -/
namespace Go.Proofs.YtniknhhejlgdfaaGreatDoor
open Go.RowKit

theorem checkV_err (vs : List Va) (al : List Addr) (aS : Addr) (h : al[10]? = some aS) : checkV vs aS = errN al (if validB vs = true then 0 else 11) := by
  unfold checkV
  split
  · rfl
  · exact (errN_at h).symm
theorem qcsN_at (vs : List Va) (e : Int) (gen : List Int) (c : Ch) (i : Nat) (hi : i < 3) (h : ∀ j, j < i → qcN vs e gen (c.qc j) = 0) (hn : qcN vs e gen (c.qc i) ≠ 0) : qcsN vs e gen c = qcN vs e gen (c.qc i) := by
  have : i = 0 ∨ i = 1 ∨ i = 2 := by omega
  unfold qcsN
  rcases this with rfl | rfl | rfl
  · rw [if_neg hn]
  · rw [if_pos (h 0 (by omega)), if_neg hn]
  · rw [if_pos (h 0 (by omega)), if_pos (h 1 (by omega))]
theorem qcsN_zero (vs : List Va) (e : Int) (gen : List Int) (c : Ch) (h : ∀ j, j < 3 → qcN vs e gen (c.qc j) = 0) : qcsN vs e gen c = 0 := by
  unfold qcsN
  rw [if_pos (h 0 (by omega)), if_pos (h 1 (by omega)), h 2 (by omega)]
theorem SenN.sen {w : World} {al : List Addr} (h : SenN w al) : ∃ aS aR aT, al[10]? = some aS ∧ al[0]? = some aR ∧ Sen w aS aR aT := by
  obtain ⟨aR, iR⟩ := h.at 0 (by omega)
  obtain ⟨aS, iS⟩ := h.at 10 (by omega)
  obtain ⟨aT, iT⟩ := h.at 16 (by omega)
  exact ⟨aS, aR, aT, iS, iR, h.cell 10 10 aS rfl iS, h.cell 0 0 aR rfl iR, h.cell 16 16 aT rfl iT⟩
/-- The next validators of a block that lies. -/
theorem bk_next {w w0 : World} {b : Nat} {f : Nat → List Value} {c : Ch} (hf : ∀ j, j < 3 → (f j).length = 39) (h : w.rangeAt b 0 (bl3 f)) (hB : BkAt w0 (f 0) (c.b 0)) : ∃ B d, w.cell? ⟨b, 38, none⟩ = some (.slice B (c.b 0).next.length d) ∧ Vals w0 (.slice B (c.b 0).next.length d) (c.b 0).next := by
  obtain ⟨q, A, c1, B, d, e, hq, _, hv⟩ := hB.ex
  refine ⟨B, d, ?_, hv⟩
  have := bl3_range 39 hf h 0 (by omega) 38 (.slice B (c.b 0).next.length d) (by
    rw [e]
    unfold bkC
    rw [List.getElem?_append_right (by simp), List.getElem?_append_right (by simp [u8s_len', hB.par.1]), List.getElem?_append_right (by simp [u8s_len', hB.par.1, hq.len])]
    simp [u8s_len', hB.par.1, hq.len])
  simpa using this
set_option maxHeartbeats 16000000 in
set_option maxRecDepth 100000 in
theorem echeck_any (e : Int) (vs : List Va) (A : Option Addr) (n c0 : Nat) (gen : List Int) (hg : gen.length = 16) (f : Nat → List Value) (cq : List Value) (c : Ch) (al : List Addr) (w : World) (hv : Vals w (.slice A n c0) vs) (hB : ∀ i, i < 3 → BkAt w (f i) (c.b i)) (hq : QcAt w cq c.q) (hi : ∀ i, i < 3 → I64 (c.b i).epoch ∧ I64 (c.b i).round ∧ Q64 (c.qc i)) (hs : SenN w al) (hk : w.rangeAt 18 0 (u32s kk)) (hn : n ≤ 1000000) :
    Calls Tryz.prog 11 #[.agg (gndC e (.slice A n c0) gen).toArray, .agg (chC f cq).toArray] w fun x w' => x = .returned (errN al (chkN vs e gen c)) ∧ Below w.heap.size w w' := by
  have b0 : Below w.heap.size w ((w.alloc (.cells (gndC e (.slice A n c0) gen).toArray 26)).alloc (.cells (chC f cq).toArray 35)) := ((Below.refl _ _).alloc (Nat.le_refl _) _).alloc (by simp) _
  have x0 : ((w.alloc (.cells (gndC e (.slice A n c0) gen).toArray 26)).alloc (.cells (chC f cq).toArray 35)).heap[w.heap.size]? = some (.cells (gndC e (.slice A n c0) gen).toArray 26 (0, 0)) := heap_alloc2_old w _ _
  have x1 : ((w.alloc (.cells (gndC e (.slice A n c0) gen).toArray 26)).alloc (.cells (chC f cq).toArray 35)).heap[w.heap.size + 1]? = some (.cells (chC f cq).toArray 35 (0, 0)) := by
    have := heap_alloc_new (w.alloc (.cells (gndC e (.slice A n c0) gen).toArray 26)) (.cells (chC f cq).toArray 35)
    rwa [World.size_alloc] at this
  have C0 := Lib.hid x1
  have G0 := Lib.hid x0
  have B0 := Lib.hid b0
  have V0 := Lib.hid (hv.below b0)
  have S0 := Lib.hid (hs.below b0)
  have K0 := Lib.hid (range_below hk b0)
  have HB := Lib.hid hB
  have HQ := Lib.hid hq
  have HI := Lib.hid hi
  have HN := Lib.hid hn
  have HG := Lib.hid hg
  have HL := Lib.hid (fun j hj => (hB j hj).len)
  have HCL := Lib.hid (show (chC f cq).length = 136 by unfold chC; rw [List.length_append, bl3_len f 39 HL.out, hq.len])
  have HGL := Lib.hid (gnd_len e (.slice A n c0) gen hg)
  have ALL := Lib.hid hs.len
  obtain ⟨aE, iE⟩ := hs.at 17 (by omega)
  have EE := Lib.hid (hs.cell 17 17 aE rfl iE)
  have NE := Lib.hid (show errN al 18 = errV aE from errN_at iE)
  obtain ⟨aS, aR, aT, iS, _, hsen⟩ := hs.sen
  have IS := Lib.hid iS
  have HSEN := Lib.hid hsen
  have c1 := gnd_1 x0
  clear b0 x0 x1 hv hB hq hi hs hk hn hg iE iS hsen
  go_enter Tryz.func11, Tryz.ntmps11
  go_wp2_with fail
  refine (check_any vs A n c0 aS aR aT _ V0.out (HSEN.out.below B0.out)).mono ?_
  rintro _ w1 ⟨rfl, hb1⟩
  have C1 := Lib.hid (blk_below C0.out hb1)
  have G1 := Lib.hid (blk_below G0.out hb1)
  have V1 := Lib.hid (V0.out.below hb1)
  have S1 := Lib.hid (S0.out.below hb1)
  have K1 := Lib.hid (range_below K0.out hb1)
  have B1 := Lib.hid (B0.out.trans (hb1.mono B0.out.size))
  clear hb1
  clear C0 G0 V0 S0 K0 B0
  clear c1
  rw [checkV_err vs al aS IS.out]
  by_cases hval : validB vs = true
  case neg =>
    rw [if_neg hval, errN_at IS.out]
    go_wp2_with fail
    go_ret
    exact ⟨by unfold chkN; rw [if_pos (by simpa using hval), errN_at IS.out]; rfl, B1.out⟩
  rw [if_pos hval]
  have HVAL := Lib.hid (show ¬ validB vs = false by rw [hval]; simp)
  clear hval
  rw [show errN al 0 = Value.nilIface from rfl]
  go_wp2_with fail
  refine (contains33_any e w.heap.size f c (w.heap.size + 1) 0 w1 (ch_range HL.out C1.out).1 (fun i hi => (HB.out i hi).below B1.out) (gnd_0 G1.out)).mono ?_
  rintro _ w2 ⟨rfl, hb2⟩
  have C2 := Lib.hid (blk_below C1.out hb2)
  have G2 := Lib.hid (blk_below G1.out hb2)
  have V2 := Lib.hid (V1.out.below hb2)
  have S2 := Lib.hid (S1.out.below hb2)
  have K2 := Lib.hid (range_below K1.out hb2)
  have B2 := Lib.hid (B1.out.trans (hb2.mono B1.out.size))
  clear hb2
  clear C1 G1 V1 S1 K1 B1
  cases hep : all3 (epOk e c) with
  | false =>
    have ee := cell_on B2.out EE.out
    go_wp2_with fail
    go_ret
    exact ⟨by unfold chkN; rw [if_neg HVAL.out, if_pos hep, NE.out]; rfl, B2.out⟩
  | true =>
  have HEP := Lib.hid (show ¬ all3 (epOk e c) = false by rw [hep]; simp)
  clear hep
  go_wp2_with (refine wpList_load_g rfl 35 (.tmp 3) rfl (w.heap.size + 1) 0 rfl (chC f cq) _ (blk_range C2.out) Tryz.underlying35 rfl (by rw [HCL.out]; exact (show (Tryz.prog.info? 35).map (·.size) = some 136 by kernel_rfl)) ?_)
  refine (joined_any f cq c al w2 (fun i hi => (HB.out i hi).below B2.out) (HQ.out.below B2.out) HI.out S2.out K2.out).mono ?_
  rintro _ w3 ⟨rfl, hb3⟩
  have C3 := Lib.hid (blk_below C2.out hb3)
  have G3 := Lib.hid (blk_below G2.out hb3)
  have V3 := Lib.hid (V2.out.below hb3)
  have S3 := Lib.hid (S2.out.below hb3)
  have K3 := Lib.hid (range_below K2.out hb3)
  have B3 := Lib.hid (B2.out.trans (hb3.mono B2.out.size))
  clear hb3
  clear C2 G2 V2 S2 K2 B2
  rcases errN_zero ALL.out (jN_le c) with ⟨hj, hje⟩ | ⟨hj, aj, hje⟩
  case inr =>
    have HJ := Lib.hid hj
    have HJE := Lib.hid hje
    rw [hje]
    clear hj hje
    go_wp2_with fail
    go_ret
    exact ⟨by unfold chkN; rw [if_neg HVAL.out, if_neg HEP.out, if_pos HJ.out, HJE.out]; rfl, B3.out⟩
  rw [hje]
  have HJ := Lib.hid (show ¬ jN c ≠ 0 by rw [hj]; simp)
  clear hj hje
  obtain ⟨g, hg2, hg, hgq⟩ := ch_qcs HB.out HQ.out
  have HG2 := Lib.hid hg2
  have HGG := Lib.hid hg
  have HGQ := Lib.hid hgq
  have HQL := Lib.hid (fun j hj => (hgq j hj).len)
  clear hg2 hg hgq
  go_wp2_with (refine wpList_load_g rfl 35 (.tmp 3) rfl (w.heap.size + 1) 0 rfl (chC f cq) _ (blk_range C3.out) Tryz.underlying35 rfl (by rw [HCL.out]; exact (show (Tryz.prog.info? 35).map (·.size) = some 136 by kernel_rfl)) ?_)
  refine (qcs_any f g cq c w3 (fun i hi => (HB.out i hi).below B3.out) HG2.out HGG.out (fun i hi => (HGQ.out i hi).below B3.out)).mono ?_
  rintro _ w4 ⟨rfl, hb4⟩
  have C4 := Lib.hid (blk_below C3.out hb4)
  have G4 := Lib.hid (blk_below G3.out hb4)
  have V4 := Lib.hid (V3.out.below hb4)
  have S4 := Lib.hid (S3.out.below hb4)
  have K4 := Lib.hid (range_below K3.out hb4)
  have B4 := Lib.hid (B3.out.trans (hb4.mono B3.out.size))
  clear hb4
  clear C3 G3 V3 S3 K3 B3
  go_wp2_with fail
  go_loopw [28] (fun x wr => ∃ i : Nat, i ≤ 3 ∧ x = .int .i64 i ∧ Hid (wr.heap[w.heap.size + 1]? = some (.cells (chC f cq).toArray 35 (0, 0))) ∧ Hid (wr.heap[w.heap.size]? = some (.cells (gndC e (.slice A n c0) gen).toArray 26 (0, 0))) ∧ Hid (Vals wr (.slice A n c0) vs) ∧ Hid (SenN wr al) ∧ Hid (wr.rangeAt 18 0 (u32s kk)) ∧ Hid (Below w.heap.size w wr) ∧ Hid (∀ j, j < i → qcN vs e gen (c.qc j) = 0)) (fun x _ => 3 - (intOf x).toNat)
  case atStart => exact ⟨0, by omega, rfl, C4, G4, V4, S4, K4, B4, Lib.hid (fun j h => absurd h (by omega))⟩
  case round =>
    clear C4 G4 V4 S4 K4 B4
    obtain ⟨i, hi3, rfl, Cr, Gr, Vr, Sr, Kr, Br, OKr⟩ := hrel
    by_cases hlt : i < 3
    · have hil : (i : Int) < 3 := by omega
      have GLi := Lib.hid (HQL.out i hlt)
      have GQi := Lib.hid (HGQ.out i hlt)
      have HII := Lib.hid (HI.out i hlt).2.2
      go_wp2_with (first | (refine wpList_ixG rfl 102 (.tmp 27) (.tmp 28) rfl (.agg (bl3 g).toArray) (.int .i64 i) (.agg (g i).toArray) rfl rfl (run_index102 g HQL.out i hlt _) ?_) | (refine wpList_store_row rfl 29 (.tmp 8) (.tmp 30) rfl wr.heap.size rfl (g i) rfl 29 (has_new wr _ _ _ (by rw [GLi.out]; rfl)) (by rw [GLi.out]; exact Tryz.size29) (one_qcAt GQi.out) ?_; intro w5 hp5; have L5 : Below wr.heap.size wr w5 := hp5.below ((Below.refl _ _).alloc (Nat.le_refl _) _) (Nat.le_refl _); have C5 := Lib.hid (blk_below Cr.out L5); have G5 := Lib.hid (blk_below Gr.out L5); have V5 := Lib.hid (Vr.out.below L5); have S5 := Lib.hid (Sr.out.below L5); have K5 := Lib.hid (range_below Kr.out L5); have B5 := Lib.hid (Br.out.trans (L5.mono Br.out.size)); have Q5 := Lib.hid hp5.blk; clear hp5 L5) | (refine wpList_load_g rfl 26 (.tmp 2) rfl (w.heap.size) 0 rfl (gndC e (.slice A n c0) gen) _ (blk_range G5.out) Tryz.underlying26 rfl (by rw [HGL.out]; exact Tryz.size26) ?_) | (refine wpList_load_g rfl 29 (.tmp 8) rfl (wr.heap.size) 0 rfl (g i) _ (blk_range Q5.out) Tryz.underlying29 rfl (by rw [GLi.out]; exact Tryz.size29) ?_))
      refine (qc_any e vs A n c0 gen HG.out (g i) (c.qc i) HII.out al w5 V5.out S5.out K5.out (GQi.out.below B5.out) HN.out).mono ?_
      rintro _ w6 ⟨rfl, hb6⟩
      have C6 := Lib.hid (blk_below C5.out hb6)
      have G6 := Lib.hid (blk_below G5.out hb6)
      have V6 := Lib.hid (V5.out.below hb6)
      have S6 := Lib.hid (S5.out.below hb6)
      have K6 := Lib.hid (range_below K5.out hb6)
      have B6 := Lib.hid (B5.out.trans (hb6.mono B5.out.size))
      clear hb6
      clear C5 G5 V5 S5 K5 B5
      rcases errN_zero ALL.out (qcN_le vs e gen (c.qc i)) with ⟨hj, hje⟩ | ⟨hj, aj, hje⟩
      case inr =>
        have HJ2 := Lib.hid hj
        have HJE := Lib.hid hje
        rw [hje]
        clear hj hje
        go_wp2_with fail
        go_ret
        refine ⟨?_, B6.out⟩
        have hqs := qcsN_at vs e gen c i hlt OKr.out HJ2.out
        unfold chkN
        rw [if_neg HVAL.out, if_neg HEP.out, if_neg HJ.out, if_pos (by rw [hqs]; exact HJ2.out), hqs, HJE.out]
        rfl
      rw [hje]
      have HZ := Lib.hid hj
      clear hj hje
      go_wp2_with fail
      go_roundw
      case rel => exact ⟨i + 1, by omega, by go_num, C6, G6, V6, S6, K6, B6, Lib.hid (fun j hj => by
        by_cases hji : j = i
        · subst hji; exact HZ.out
        · exact OKr.out j (by omega))⟩
      case measure => simp [intOf]; omega
    · obtain rfl : i = 3 := by omega
      have HQZ := Lib.hid (qcsN_zero vs e gen c OKr.out)
      obtain ⟨BN, dN, cN, vN⟩ := bk_next HL.out (ch_range HL.out Cr.out).1 (HB.out 0 (by omega))
      have VN := Lib.hid (vN.below Br.out)
      clear vN OKr
      go_wp2_with fail
      refine (check_any (c.b 0).next BN (c.b 0).next.length dN aS aR aT wr VN.out (HSEN.out.below Br.out)).mono ?_
      rintro _ w7 ⟨rfl, hb7⟩
      have B7 := Lib.hid (Br.out.trans (hb7.mono Br.out.size))
      clear hb7 cN
      rw [checkV_err (c.b 0).next al aS IS.out]
      obtain ⟨E, hE⟩ : ∃ x, x = errN al (if validB (c.b 0).next = true then 0 else 11) := ⟨_, rfl⟩
      rw [← hE]
      have HE := Lib.hid hE
      clear hE
      go_wp2_with fail
      go_ret
      refine ⟨?_, B7.out⟩
      unfold chkN
      rw [if_neg HVAL.out, if_neg HEP.out, if_neg HJ.out, if_neg (by rw [HQZ.out]; simp), ← HE.out]
      rfl
end Go.Proofs.YtniknhhejlgdfaaGreatDoor
/- The document's first and next grounds. -/
namespace Go.Proofs.YtniknhhejlgdfaaGreatDoor
open Go.RowKit

set_option maxRecDepth 100000 in
theorem build47 (e : Int) (A : Option Addr) (n c : Nat) (gen : List Int) (hg : gen.length = 16) (W : World) : (Instr.build 43 #[(0, .int .i64 e), (1, .slice A n c), (2, .agg (u8s gen).toArray)]).run Tryz.prog W = .ok (.agg (gndC e (.slice A n c) gen).toArray) W := by
  obtain ⟨_, _, _, _, _, _, _, _, _, _, _, _, _, _, _, _, rfl⟩ := len16 hg
  exact run_build W 43 _ _ (by kernel_rfl)
set_option maxHeartbeats 8000000 in
set_option maxRecDepth 100000 in
theorem rnext_any (e : Int) (v0 : Value) (gen p : List Int) (hp : p.length = 16) (hpo : u8s_ok p) (vs : List Va) (A : Option Addr) (n c : Nat) (w : World) (hv : Vals w (.slice A n c) vs) :
    Calls Tryz.prog 42 #[.agg (gndC e v0 gen).toArray, .agg (u8s p).toArray, .slice A n c] w fun x w' => Below w.heap.size w w' ∧ ((validB vs = false ∧ x = .returned (.tuple #[noG, .int .i64 11])) ∨ (validB vs = true ∧ OutE e ∧ x = .returned (.tuple #[noG, .int .i64 18])) ∨ (validB vs = true ∧ InE e ∧ x = .returned (.tuple #[gndV (e + 1) (.slice A n c) (idB (GEN (e + 1) p)), .int .i64 0]))) := by
  have HP := Lib.hid hp
  have HPO := Lib.hid hpo
  obtain ⟨X0, hX0⟩ : ∃ X, X = ((((w.alloc (.cells (gndC e v0 gen).toArray 43)).alloc (.cells (u8s p).toArray 24)).alloc (.cells #[.int .i64 0, .slice none 0 0, .int .u8 0, .int .u8 0, .int .u8 0, .int .u8 0, .int .u8 0, .int .u8 0, .int .u8 0, .int .u8 0, .int .u8 0, .int .u8 0, .int .u8 0, .int .u8 0, .int .u8 0, .int .u8 0, .int .u8 0, .int .u8 0] 43)).alloc (.cells #[.int .i64 0, .slice none 0 0, .int .u8 0, .int .u8 0, .int .u8 0, .int .u8 0, .int .u8 0, .int .u8 0, .int .u8 0, .int .u8 0, .int .u8 0, .int .u8 0, .int .u8 0, .int .u8 0, .int .u8 0, .int .u8 0, .int .u8 0, .int .u8 0] 43)) := ⟨_, rfl⟩
  have b0 : Below w.heap.size w X0 := by rw [hX0]; exact ((((Below.refl _ _).alloc (Nat.le_refl _) _).alloc (by simp) _).alloc (by first | (simp; done) | (simp; omega)) _).alloc (by first | (simp; done) | (simp; omega)) _
  have hz2 : ((w.alloc (.cells (gndC e v0 gen).toArray 43)).alloc (.cells (u8s p).toArray 24)).heap.size = w.heap.size + 2 := by simp
  have k2 : Below (w.heap.size + 2) ((w.alloc (.cells (gndC e v0 gen).toArray 43)).alloc (.cells (u8s p).toArray 24)) X0 := by rw [hX0]; exact ((Below.refl _ _).alloc (by simp) _).alloc (by first | (simp; done) | (simp; omega)) _
  rw [← hz2] at k2
  have k0 := heap_alloc2_old w (.cells (gndC e v0 gen).toArray 43) (.cells (u8s p).toArray 24)
  have k1 : ((w.alloc (.cells (gndC e v0 gen).toArray 43)).alloc (.cells (u8s p).toArray 24)).heap[w.heap.size + 1]? = some (.cells (u8s p).toArray 24 (0, 0)) := by
    have := heap_alloc_new (w.alloc (.cells (gndC e v0 gen).toArray 43)) (.cells (u8s p).toArray 24)
    rwa [World.size_alloc] at this
  have K0 := Lib.hid (blk_below k0 k2)
  have KP := Lib.hid (blk_below k1 k2)
  have HA := Lib.hid (show Has X0 (w.heap.size + 2) 43 18 by rw [hX0, ← hz2]; exact has_old _ _ _ _ _ rfl)
  have HB := Lib.hid (show Has X0 (w.heap.size + 3) 43 18 by
    rw [hX0]
    have := has_new2 ((w.alloc (.cells (gndC e v0 gen).toArray 43)).alloc (.cells (u8s p).toArray 24)) (.cells #[.int .i64 0, .slice none 0 0, .int .u8 0, .int .u8 0, .int .u8 0, .int .u8 0, .int .u8 0, .int .u8 0, .int .u8 0, .int .u8 0, .int .u8 0, .int .u8 0, .int .u8 0, .int .u8 0, .int .u8 0, .int .u8 0, .int .u8 0, .int .u8 0] 43) #[.int .i64 0, .slice none 0 0, .int .u8 0, .int .u8 0, .int .u8 0, .int .u8 0, .int .u8 0, .int .u8 0, .int .u8 0, .int .u8 0, .int .u8 0, .int .u8 0, .int .u8 0, .int .u8 0, .int .u8 0, .int .u8 0, .int .u8 0, .int .u8 0] 43 18 rfl
    rwa [hz2] at this)
  have HX := Lib.hid hX0
  have V0 := Lib.hid hv
  have B0 := Lib.hid b0
  clear b0 hv hX0 k0 k1 k2 hz2 hp hpo
  go_enter Tryz.func42, Tryz.ntmps42
  go_wp2_with (refine wpList_store_row rfl 43 (.tmp 8) (.tmp 11) rfl (w.heap.size + 3) rfl (gndC 0 (.slice none 0 0) zero16) rfl 43 (by rw [zgnd_len]; exact HX.out ▸ HB.out) (by rw [zgnd_len]; exact Tryz.size43) (one_gnd _ _ _ rfl) ?_; intro w1 hp1; have K1 := Lib.hid hp1.blk; have B1 := Lib.hid (hp1.below (HX.out ▸ B0.out) (by omega)); have P1 := Lib.hid hp1; clear hp1)
  rw [← HX.out] at P1
  have k0 := (P1.out.other w.heap.size (by omega)).trans K0.out
  have k1 := (P1.out.other (w.heap.size + 1) (by omega)).trans KP.out
  have ha : Has w1 (w.heap.size + 2) 43 18 := HA.out.same (P1.out.other (w.heap.size + 2) (by omega))
  have V1 := Lib.hid (V0.out.below B1.out)
  have A1 := Lib.hid k0
  have C1 := Lib.hid k1
  have H1 := Lib.hid ha
  clear k0 k1 ha P1 K0 KP HA HB V0 B0 HX
  refine (vright_any vs A n c w1 V1.out).mono ?_
  rintro _ w2 ⟨rfl, hb2⟩
  have B2 := Lib.hid (B1.out.trans (hb2.mono B1.out.size))
  have H2 := Lib.hid (H1.out.below hb2)
  have K2 := Lib.hid (blk_below K1.out hb2)
  have c0 := gnd_0 (blk_below A1.out hb2)
  have A2 := Lib.hid (blk_below A1.out hb2)
  have C2 := Lib.hid (blk_below C1.out hb2)
  clear hb2 A1 C1 H1 K1 B1 V1
  by_cases hval : validB vs = true
  case neg =>
    have hvf : validB vs = false := by simpa using hval
    have HVF := Lib.hid hvf
    rw [hvf]
    clear hvf hval
    go_wp2_with (first | (refine wpList_load_g rfl 43 (.tmp 8) rfl (w.heap.size + 3) 0 rfl (gndC 0 (.slice none 0 0) zero16) _ (blk_range K2.out) Tryz.underlying43 rfl (by rw [zgnd_len]; exact Tryz.size43) ?_) | (refine wpList_store_row rfl 43 (.tmp 6) (.tmp 15) rfl (w.heap.size + 2) rfl (gndC 0 (.slice none 0 0) zero16) rfl 43 (by rw [zgnd_len]; exact H2.out) (by rw [zgnd_len]; exact Tryz.size43) (one_gnd _ _ _ rfl) ?_; intro w5 hp5; have K5 := Lib.hid hp5.blk; have B5 := Lib.hid (hp5.below B2.out (by omega)); clear hp5))
    refine bodyPost_ret (v := .tuple #[noG, .int .i64 11]) (results_cell_row_tmp rfl _ _ (w.heap.size + 2) 43 _ (0, 0) _ rfl K5.out Tryz.underlying43 rfl (by simp only [List.size_toArray]; rw [zgnd_len]; exact Tryz.size43) rfl) rfl ⟨B5.out, .inl ⟨HVF.out, rfl⟩⟩
  rw [hval]
  have HVT := Lib.hid hval
  clear hval
  by_cases hin : 0 ≤ e ∧ e < 1073741824
  case neg =>
    have HOUT := Lib.hid (show OutE e by unfold OutE; omega)
    by_cases hlt : e < 0
    · clear hin
      go_wp2_with (first | (refine wpList_load_g rfl 43 (.tmp 8) rfl (w.heap.size + 3) 0 rfl (gndC 0 (.slice none 0 0) zero16) _ (blk_range K2.out) Tryz.underlying43 rfl (by rw [zgnd_len]; exact Tryz.size43) ?_) | (refine wpList_store_row rfl 43 (.tmp 6) (.tmp 24) rfl (w.heap.size + 2) rfl (gndC 0 (.slice none 0 0) zero16) rfl 43 (by rw [zgnd_len]; exact H2.out) (by rw [zgnd_len]; exact Tryz.size43) (one_gnd _ _ _ rfl) ?_; intro w5 hp5; have K5 := Lib.hid hp5.blk; have B5 := Lib.hid (hp5.below B2.out (by omega)); clear hp5))
      refine bodyPost_ret (v := .tuple #[noG, .int .i64 18]) (results_cell_row_tmp rfl _ _ (w.heap.size + 2) 43 _ (0, 0) _ rfl K5.out Tryz.underlying43 rfl (by simp only [List.size_toArray]; rw [zgnd_len]; exact Tryz.size43) rfl) rfl ⟨B5.out, .inr (.inl ⟨HVT.out, HOUT.out, rfl⟩)⟩
    · have hge : (1073741824 : Int) ≤ e := by omega
      clear hin
      go_wp2_with (first | (refine wpList_load_g rfl 43 (.tmp 8) rfl (w.heap.size + 3) 0 rfl (gndC 0 (.slice none 0 0) zero16) _ (blk_range K2.out) Tryz.underlying43 rfl (by rw [zgnd_len]; exact Tryz.size43) ?_) | (refine wpList_store_row rfl 43 (.tmp 6) (.tmp 24) rfl (w.heap.size + 2) rfl (gndC 0 (.slice none 0 0) zero16) rfl 43 (by rw [zgnd_len]; exact H2.out) (by rw [zgnd_len]; exact Tryz.size43) (one_gnd _ _ _ rfl) ?_; intro w5 hp5; have K5 := Lib.hid hp5.blk; have B5 := Lib.hid (hp5.below B2.out (by omega)); clear hp5))
      refine bodyPost_ret (v := .tuple #[noG, .int .i64 18]) (results_cell_row_tmp rfl _ _ (w.heap.size + 2) 43 _ (0, 0) _ rfl K5.out Tryz.underlying43 rfl (by simp only [List.size_toArray]; rw [zgnd_len]; exact Tryz.size43) rfl) rfl ⟨B5.out, .inr (.inl ⟨HVT.out, HOUT.out, rfl⟩)⟩
  obtain ⟨hin1, hin2⟩ := hin
  have hn1 : ¬ e < 0 := by omega
  have hn2 : ¬ (1073741824 : Int) ≤ e := by omega
  have HIN := Lib.hid (show InE e from ⟨hin1, hin2⟩)
  go_wp2_with (refine wpList_load_g rfl 24 (.tmp 4) rfl (w.heap.size + 1) 0 rfl (u8s p) _ (blk_range C2.out) Tryz.underlying24 rfl (hi24 p HP.out) ?_)
  clear hn1 hn2 c0
  refine (rgenesis_any (e + 1) p HP.out w2).mono ?_
  rintro _ w3 ⟨rfl, hb3⟩
  have B3 := Lib.hid (B2.out.trans (hb3.mono B2.out.size))
  have H3 := Lib.hid (H2.out.below hb3)
  have A3 := Lib.hid (blk_below A2.out hb3)
  clear hb3 A2 C2 H2 K2 B2
  go_wp2_with fail
  refine (refid_any w3 (genC (e + 1) p) (GEN (e + 1) p) (genAt w3 (e + 1) p HP.out HPO.out) (genI (e + 1) p (by omega) (by omega))).mono ?_
  rintro _ w4 ⟨rfl, hb4⟩
  rw [(idGen (e + 1) p (by omega) (by omega) default).2]
  have B4 := Lib.hid (B3.out.trans (hb4.mono B3.out.size))
  have H4 := Lib.hid (H3.out.below hb4)
  have A4 := Lib.hid (blk_below A3.out hb4)
  clear hb4 A3 H3 B3
  obtain ⟨ID, hID⟩ : ∃ x, x = idB (GEN (e + 1) p) := ⟨_, rfl⟩
  have hidg : ID.length = 16 := hID ▸ (idB_good _).1
  rw [← hID]
  have HID := Lib.hid hID
  have LI := Lib.hid hidg
  have hgl := gnd_len (e + 1) (.slice A n c) ID hidg
  clear hID hidg
  have bb := build47 (e + 1) A n c ID LI.out
  go_wp2_with (first | (refine wpList_store_row rfl 24 (.tmp 9) (.tmp 32) rfl w4.heap.size rfl (u8s ID) rfl 24 (has_new w4 _ _ _ (by rw [u8s_len', LI.out]; rfl)) (by rw [u8s_len', LI.out]; exact Tryz.size24) (one_u8s _) ?_; intro w5 hp5; have L5 : Below w4.heap.size w4 w5 := hp5.below ((Below.refl _ _).alloc (Nat.le_refl _) _) (Nat.le_refl _); have H5 := Lib.hid (H4.out.below L5); have A5 := Lib.hid (blk_below A4.out L5); have B5 := Lib.hid (B4.out.trans (L5.mono B4.out.size)); have I5 := Lib.hid hp5.blk; have c0 := gnd_0 A5.out; clear hp5 L5) | (refine wpList_load_g rfl 24 (.tmp 9) rfl (w4.heap.size) 0 rfl (u8s ID) _ (blk_range I5.out) Tryz.underlying24 rfl (hi24 ID LI.out) ?_) | (refine wpList_bld rfl 43 _ rfl #[(0, .int .i64 (e + 1)), (1, .slice A n c), (2, .agg (u8s ID).toArray)] (by simp only [List.map_toArray, List.map_cons, List.map_nil]; rfl) _ (bb _) ?_) | (refine wpList_store_row rfl 43 (.tmp 6) (.tmp 39) rfl (w.heap.size + 2) rfl (gndC (e + 1) (.slice A n c) ID) rfl 43 (by rw [hgl]; exact H5.out) (by rw [hgl]; exact Tryz.size43) (one_gnd _ _ _ rfl) ?_; intro w6 hp6; have K6 := Lib.hid hp6.blk; have B6 := Lib.hid (hp6.below B5.out (by omega)); clear hp6))
  refine bodyPost_ret (v := .tuple #[gndV (e + 1) (.slice A n c) ID, .int .i64 0]) (results_cell_row_tmp rfl _ _ (w.heap.size + 2) 43 _ (0, 0) _ rfl K6.out Tryz.underlying43 rfl (by simp only [List.size_toArray]; rw [hgl]; exact Tryz.size43) rfl) rfl ⟨B6.out, .inr (.inr ⟨HVT.out, HIN.out, by rw [HID.out]⟩)⟩
end Go.Proofs.YtniknhhejlgdfaaGreatDoor
/- First and Next of the program and of the document, each by one plain value. -/
namespace Go.Proofs.YtniknhhejlgdfaaGreatDoor
open Go.RowKit

structure Gd where
  e : Int
  g : List Int
  xs : List Va
  k : Nat
def fstG (vs : List Va) : Gd := if validB vs = true then ⟨1, idB (GEN 1 zero16), vs, 0⟩ else ⟨0, zero16, [], 11⟩
def nxtG (vs : List Va) (e : Int) (p : List Int) : Gd := if validB vs = true then (if 0 ≤ e ∧ e < 1073741824 then ⟨e + 1, idB (GEN (e + 1) p), vs, 0⟩ else ⟨0, zero16, [], 18⟩) else ⟨0, zero16, [], 11⟩
def GrV (w' : World) (G : Gd) (x : Value → Value) (v : Ending) : Prop := ∃ A n c, v = .returned (x (.agg (gndC G.e (.slice A n c) G.g).toArray)) ∧ Vals w' (.slice A n c) G.xs ∧ n ≤ 7
theorem nilVals (w : World) : Vals w (.slice none 0 0) [] := ⟨⟨_, _, rfl⟩, fun h => absurd rfl h, fun x hx => by cases hx⟩
set_option maxRecDepth 100000 in
theorem first_g (vs : List Va) (A : Option Addr) (n c : Nat) (al : List Addr) (aR aS aE : Addr) (w : World) (hv : Vals w (.slice A n c) vs) (hs : Em w aR aS aE) (h11 : errV aS = errN al 11) :
    Calls Tryz.prog 26 #[.slice A n c] w fun x w' => Below w.heap.size w w' ∧ GrV w' (fstG vs) (fun r => .tuple #[r, errN al (fstG vs).k]) x := by
  have hn := hv.len
  have hg := hv.good
  refine (first_any vs A n c aR aS aE w hv hs).mono fun x w' ⟨hb, hr⟩ => ⟨hb, ?_⟩
  rcases hr with ⟨hf, rfl⟩ | ⟨ht, A2, c2, rfl, ho⟩
  · rw [show fstG vs = ⟨0, zero16, [], 11⟩ by unfold fstG; rw [if_neg (by simp [hf])]]
    exact ⟨none, 0, 0, by rw [h11]; rfl, nilVals _, by omega⟩
  · rw [show fstG vs = ⟨1, idB (GEN 1 zero16), vs, 0⟩ by unfold fstG; rw [if_pos ht]]
    exact ⟨A2, n, c2, rfl, Vals.of_own ho hn hg, by have := hv7 vs ht; omega⟩
set_option maxRecDepth 100000 in
theorem next_g (e : Int) (v0 : Value) (gen p : List Int) (hgen : gen.length = 16) (hp : p.length = 16) (hpo : u8s_ok p) (vs : List Va) (A : Option Addr) (n c : Nat) (al : List Addr) (aR aS aE : Addr) (w : World) (hv : Vals w (.slice A n c) vs) (hs : Em w aR aS aE) (h11 : errV aS = errN al 11) (h18 : errV aE = errN al 18) :
    Calls Tryz.prog 41 #[.agg (gndC e v0 gen).toArray, .agg (u8s p).toArray, .slice A n c] w fun x w' => Below w.heap.size w w' ∧ GrV w' (nxtG vs e p) (fun r => .tuple #[r, errN al (nxtG vs e p).k]) x := by
  have hn := hv.len
  have hg := hv.good
  refine (next_any e v0 gen p hgen hp hpo vs A n c aR aS aE w hv hs).mono fun x w' ⟨hb, hr⟩ => ⟨hb, ?_⟩
  rcases hr with ⟨hf, rfl⟩ | ⟨ht, ho, rfl⟩ | ⟨ht, hi, A2, c2, rfl, ho⟩
  · rw [show nxtG vs e p = ⟨0, zero16, [], 11⟩ by unfold nxtG; rw [if_neg (by simp [hf])]]
    exact ⟨none, 0, 0, by rw [h11]; rfl, nilVals _, by omega⟩
  · rw [show nxtG vs e p = ⟨0, zero16, [], 18⟩ by unfold nxtG; unfold OutE at ho; rw [if_pos ht, if_neg (by omega)]]
    exact ⟨none, 0, 0, by rw [h18]; rfl, nilVals _, by omega⟩
  · rw [show nxtG vs e p = ⟨e + 1, idB (GEN (e + 1) p), vs, 0⟩ by unfold nxtG; unfold InE at hi; rw [if_pos ht, if_pos hi]]
    exact ⟨A2, n, c2, rfl, Vals.of_own ho hn hg, by have := hv7 vs ht; omega⟩
set_option maxRecDepth 100000 in
theorem rnext_g (e : Int) (v0 : Value) (gen p : List Int) (hp : p.length = 16) (hpo : u8s_ok p) (vs : List Va) (A : Option Addr) (n c : Nat) (w : World) (hv : Vals w (.slice A n c) vs) :
    Calls Tryz.prog 42 #[.agg (gndC e v0 gen).toArray, .agg (u8s p).toArray, .slice A n c] w fun x w' => Below w.heap.size w w' ∧ GrV w' (nxtG vs e p) (fun r => .tuple #[r, .int .i64 (nxtG vs e p).k]) x := by
  have hn := hv.len
  refine (rnext_any e v0 gen p hp hpo vs A n c w hv).mono fun x w' ⟨hb, hr⟩ => ⟨hb, ?_⟩
  rcases hr with ⟨hf, rfl⟩ | ⟨ht, ho, rfl⟩ | ⟨ht, hi, rfl⟩
  · rw [show nxtG vs e p = ⟨0, zero16, [], 11⟩ by unfold nxtG; rw [if_neg (by simp [hf])]]
    exact ⟨none, 0, 0, rfl, nilVals _, by omega⟩
  · rw [show nxtG vs e p = ⟨0, zero16, [], 18⟩ by unfold nxtG; unfold OutE at ho; rw [if_pos ht, if_neg (by omega)]]
    exact ⟨none, 0, 0, rfl, nilVals _, by omega⟩
  · rw [show nxtG vs e p = ⟨e + 1, idB (GEN (e + 1) p), vs, 0⟩ by unfold nxtG; unfold InE at hi; rw [if_pos ht, if_pos hi]]
    exact ⟨A, n, c, rfl, hv.below hb, by have := hv7 vs ht; omega⟩
end Go.Proofs.YtniknhhejlgdfaaGreatDoor
/- epochs.Walk: how far Changes lead. -/
namespace Go.Proofs.YtniknhhejlgdfaaGreatDoor
open Go.RowKit

def Ch.none : Ch := ⟨fun _ => ⟨0, 0, [], ⟨0, 0, [], []⟩, [], []⟩, ⟨0, 0, [], []⟩⟩
/-- A slice of Changes. -/
structure Chs (w : World) (v : Value) (xs : List Ch) : Prop where
  form : ∃ A c, v = .slice A xs.length c
  cells : xs ≠ [] → ∃ b off c, v = .slice (some ⟨b, off, none⟩) xs.length c ∧ xs.length ≤ c ∧ c ≤ maxLen ∧ b < w.heap.size ∧ ∀ i, i < xs.length → ∃ cs, w.rangeAt b (off + i * 136) cs ∧ ChAt w cs (xs.getD i Ch.none)
theorem Chs.below {w w' : World} {v : Value} {xs : List Ch} (h : Chs w v xs) (hb : Below w.heap.size w w') : Chs w' v xs := by
  refine ⟨h.form, fun hne => ?_⟩
  obtain ⟨b, off, c, e, h1, h2, h3, h4⟩ := h.cells hne
  refine ⟨b, off, c, e, h1, h2, Nat.lt_of_lt_of_le h3 hb.size, fun i hi => ?_⟩
  obtain ⟨cs, hr, hs⟩ := h4 i hi
  exact ⟨cs, range_below hr hb, hs.below hb⟩
theorem Chs.len {w : World} {A : Option Addr} {n c : Nat} {xs : List Ch} (h : Chs w (.slice A n c) xs) : n = xs.length := by
  obtain ⟨A', c', e⟩ := h.form
  simp only [Value.slice.injEq] at e
  exact e.2.1
theorem Chs.el {w : World} {A : Option Addr} {n c : Nat} {xs : List Ch} (h : Chs w (.slice A n c) xs) (i : Nat) (hi : i < n) :
    ∃ b off cs, A = some ⟨b, off, none⟩ ∧ b < w.heap.size ∧ w.rangeAt b (off + i * 136) cs ∧ ChAt w cs (xs.getD i Ch.none) := by
  have hl := h.len
  obtain ⟨b, off, c', e, _, _, h3, h4⟩ := h.cells (by intro e; subst e; simp at hl; omega)
  simp only [Value.slice.injEq] at e
  obtain ⟨cs, hr, hs⟩ := h4 i (by omega)
  exact ⟨b, off, cs, e.1, h3, hr, hs⟩
structure Wk where
  e : Int
  g : List Int
  xs : List Va
  n : Nat
  k : Nat
def walkL (e : Int) (g : List Int) (vs : List Va) : List Ch → Nat → Wk
  | [], n => ⟨e, g, vs, n, 0⟩
  | c :: cs, n => if chkN vs e g c ≠ 0 then ⟨e, g, vs, n, chkN vs e g c⟩ else if 0 ≤ e ∧ e < 1073741824 then walkL (e + 1) (idB (GEN (e + 1) (idB (c.b 0)))) (c.b 0).next cs (n + 1) else ⟨e, g, vs, n, 18⟩
/-- What Walk answers. -/
def walkR (e : Int) (g : List Int) (vs : List Va) (xs : List Ch) : Wk := if 8 < xs.length then ⟨e, g, vs, 0, 8⟩ else walkL e g vs xs 0
theorem walkL_le : ∀ (xs : List Ch) (e : Int) (g : List Int) (vs : List Va) (n : Nat), (walkL e g vs xs n).k ≤ 18
  | [], _, _, _, _ => by simp [walkL]
  | c :: cs, e, g, vs, n => by
    unfold walkL
    have := chkN_le vs e g c
    split
    · exact this
    · split
      · exact walkL_le cs _ _ _ _
      · exact Nat.le_refl 18
theorem walkR_le (e : Int) (g : List Int) (vs : List Va) (xs : List Ch) : (walkR e g vs xs).k ≤ 18 := by
  unfold walkR
  split
  · show (8 : Nat) ≤ 18
    omega
  · exact walkL_le _ _ _ _ _
theorem chk_id {vs : List Va} {e : Int} {g : List Int} {c : Ch} (h : chkN vs e g c = 0) : (∃ bs, encB (c.b 0) = some bs) ∧ validB (c.b 0).next = true := by
  unfold chkN at h
  split at h
  · cases h
  split at h
  · cases h
  split at h
  · rename_i hj
    exact absurd h hj
  rename_i hj
  split at h
  · rename_i hq
    exact absurd h hq
  split at h
  · rename_i hv
    refine ⟨?_, hv⟩
    have hj0 : jN c = 0 := by omega
    unfold jN at hj0
    split at hj0
    · rename_i hi
      unfold all3 at hi
      simp only [Bool.and_eq_true] at hi
      have := hi.1
      unfold idOk at this
      rw [Bool.and_eq_true] at this
      exact Option.isSome_iff_exists.1 this.1
    · cases hj0
  · cases h
theorem results_cell_row_tmp2 {P : Program} {fn : Func} {p u u2 : Tmp} {ty : TypeId} (h : fn.results = #[.cell p ty, .tmp u, .tmp u2]) (tmps : Array Value) (w : World) (g : Nat) (t : TypeId) (cs : Array Value) (fr : Nat × Nat) (d : TypeDesc)
    (hp : tmps.getD p undef = .pointer (some ⟨g, 0, none⟩)) (hg : w.heap[g]? = some (.cells cs t fr))
    (hu : P.underlying ty = some d) (hd : (match d with | .struct _ | .array _ _ => true | _ => false) = true) (hi : (P.info? ty).map (·.size) = some cs.size) {x y : Value} (hx : tmps.getD u undef = x) (hy : tmps.getD u2 undef = y) :
    (results fn tmps).run P w = .ok (.tuple #[.agg cs, x, y]) w := by
  have hp' : tmps[p]?.getD undef = .pointer (some ⟨g, 0, none⟩) := by simpa using hp
  have hx' : tmps[u]?.getD undef = x := by simpa using hx
  have hy' : tmps[u2]?.getD undef = y := by simpa using hy
  simp [results, h, hp', hx', hy', asAddr, run_loadVar_row w g t ty cs fr d hg hu hd hi]
/-- Validators that lie elsewhere than in a ground's block. -/
theorem Vals.put {w w1 : World} {v : Value} {vs : List Va} {B t : Nat} {e : Int} {x : Value} {g : List Int} {cs : List Value} (h : Vals w v vs) (hB : w.heap[B]? = some (.cells (gndC e x g).toArray t (0, 0))) (hg : g.length = 16) (hp : Put w B t cs w1) : Vals w1 v vs := by
  refine ⟨h.form, fun hne => ?_, h.good⟩
  obtain ⟨b, off, c, he, h1, h2, h3, h4⟩ := h.cells hne
  have hpos : 0 < vs.length := by cases vs with
    | nil => exact absurd rfl hne
    | cons => simp
  have hbB : b ≠ B := by
    rintro rfl
    have h0 := h4 0 hpos
    have hk : (vs.getD 0 ([], 0)).1.length = 16 := by
      rw [List.getD_eq_getElem?_getD, List.getElem?_eq_getElem hpos]
      exact h.good _ (List.getElem_mem _)
    obtain ⟨X, hX⟩ : ∃ X, X = vs.getD 0 ([], 0) := ⟨_, rfl⟩
    rw [← hX] at hk h0
    obtain ⟨k0, hk0⟩ : ∃ k0, X.1[0]? = some k0 := ⟨_, List.getElem?_eq_getElem (by omega)⟩
    have ha := h0 16 (.int .i64 X.2) (by unfold vcells; rw [List.getElem?_append_right (by rw [u8s_len', hk]; exact Nat.le_refl _), u8s_len', hk]; rfl)
    have hz := h0 0 (.int .u8 k0) (by unfold vcells; rw [List.getElem?_append_left (by rw [u8s_len', hk]; omega)]; simp [u8s, hk0])
    simp only [World.cell?, hB, Nat.zero_mul, Nat.add_zero] at ha hz
    have hl := gnd_len e x g hg
    rcases off with _ | _ | off
    · simp [gndC] at hz
    · simp [gndC] at hz
      have ha' := ha
      simp [gndC, List.getElem?_append, u8s, hg] at ha'
    · have : ((gndC e x g).toArray)[off + 1 + 1 + 16]? = none := by rw [Array.getElem?_eq_none]; simp [hl]
      rw [this] at ha
      cases ha
  refine ⟨b, off, c, he, h1, h2, by rw [hp.size]; exact h3, fun i hi j u hu => ?_⟩
  have := h4 i hi j u hu
  rw [← this]
  simp only [World.cell?, hp.other b hbB]
theorem hasZ {w : World} {b : Nat} (h : w.heap[b]? = some (.cells (gndC 0 (.slice none 0 0) zero16).toArray 26 (0, 0))) : Has w b 26 18 := ⟨_, by rw [List.size_toArray, zgnd_len], h⟩
theorem Has.put {w w1 : World} {b B t t2 n : Nat} {cs : List Value} (h : Has w b t n) (hp : Put w B t2 cs w1) (hne : b ≠ B) : Has w1 b t n := h.same (hp.other b hne)
set_option maxHeartbeats 16000000 in
set_option maxRecDepth 100000 in
theorem walk_any (e : Int) (vs : List Va) (A : Option Addr) (n c0 : Nat) (gen : List Int) (hg : gen.length = 16) (hn : n ≤ 1000000) (L : Option Addr) (m cap : Nat) (xs : List Ch) (al : List Addr) (w : World) (hv : Vals w (.slice A n c0) vs) (hx : Chs w (.slice L m cap) xs) (hs : SenN w al) (hk : w.rangeAt 18 0 (u32s kk)) :
    Calls Tryz.prog 13 #[.agg (gndC e (.slice A n c0) gen).toArray, .slice L m cap] w fun x w' => Below w.heap.size w w' ∧ ∃ A' n' c', x = .returned (.tuple #[.agg (gndC (walkR e gen vs xs).e (.slice A' n' c') (walkR e gen vs xs).g).toArray, .int .i64 (walkR e gen vs xs).n, errN al (walkR e gen vs xs).k]) ∧ Vals w' (.slice A' n' c') (walkR e gen vs xs).xs ∧ (walkR e gen vs xs).g.length = 16 ∧ n' ≤ 1000000 := by
  have b0 : Below w.heap.size w ((w.alloc (.cells (gndC e (.slice A n c0) gen).toArray 26)).alloc (.cells #[.int .i64 0, .slice none 0 0, .int .u8 0, .int .u8 0, .int .u8 0, .int .u8 0, .int .u8 0, .int .u8 0, .int .u8 0, .int .u8 0, .int .u8 0, .int .u8 0, .int .u8 0, .int .u8 0, .int .u8 0, .int .u8 0, .int .u8 0, .int .u8 0] 26)) := ((Below.refl _ _).alloc (Nat.le_refl _) _).alloc (by simp) _
  have x0 : ((w.alloc (.cells (gndC e (.slice A n c0) gen).toArray 26)).alloc (.cells #[.int .i64 0, .slice none 0 0, .int .u8 0, .int .u8 0, .int .u8 0, .int .u8 0, .int .u8 0, .int .u8 0, .int .u8 0, .int .u8 0, .int .u8 0, .int .u8 0, .int .u8 0, .int .u8 0, .int .u8 0, .int .u8 0, .int .u8 0, .int .u8 0] 26)).heap[w.heap.size]? = some (.cells (gndC e (.slice A n c0) gen).toArray 26 (0, 0)) := heap_alloc2_old w _ _
  have G0 := Lib.hid x0
  have T0 := Lib.hid (show ((w.alloc (.cells (gndC e (.slice A n c0) gen).toArray 26)).alloc (.cells #[.int .i64 0, .slice none 0 0, .int .u8 0, .int .u8 0, .int .u8 0, .int .u8 0, .int .u8 0, .int .u8 0, .int .u8 0, .int .u8 0, .int .u8 0, .int .u8 0, .int .u8 0, .int .u8 0, .int .u8 0, .int .u8 0, .int .u8 0, .int .u8 0] 26)).heap[w.heap.size + 1]? = some (.cells (gndC 0 (.slice none 0 0) zero16).toArray 26 (0, 0)) by
    have := heap_alloc_new (w.alloc (.cells (gndC e (.slice A n c0) gen).toArray 26)) (.cells #[.int .i64 0, .slice none 0 0, .int .u8 0, .int .u8 0, .int .u8 0, .int .u8 0, .int .u8 0, .int .u8 0, .int .u8 0, .int .u8 0, .int .u8 0, .int .u8 0, .int .u8 0, .int .u8 0, .int .u8 0, .int .u8 0, .int .u8 0, .int .u8 0] 26)
    rw [World.size_alloc] at this
    exact this)
  have B0 := Lib.hid b0
  have V0 := Lib.hid (hv.below b0)
  have HV := Lib.hid hv
  have HX := Lib.hid hx
  have HS := Lib.hid hs
  have HK := Lib.hid hk
  have H18 := Lib.hid (kk_lt hk)
  have HN := Lib.hid hn
  have HG := Lib.hid hg
  have HM := Lib.hid hx.len
  have ALL := Lib.hid hs.len
  have HGL := Lib.hid (gnd_len e (.slice A n c0) gen hg)
  obtain ⟨aU, iU⟩ := hs.at 7 (by omega)
  have EU := Lib.hid (hs.cell 7 7 aU rfl iU)
  have NU := Lib.hid (show errN al 8 = errV aU from errN_at iU)
  obtain ⟨aE, iE⟩ := hs.at 17 (by omega)
  have NE := Lib.hid (show errN al 18 = errV aE from errN_at iE)
  obtain ⟨aS, aR, aT, iS, iR, hsen⟩ := hs.sen
  have ER := Lib.hid (hs.cell 0 0 aR rfl iR)
  have HEM := Lib.hid (show Em w aR aS aE from ⟨hs.cell 0 0 aR rfl iR, hs.cell 10 10 aS rfl iS, hs.cell 17 17 aE rfl iE, hk, kk_lt hk⟩)
  clear b0 x0 hv hx hs hk hn hg iU iE iS iR hsen
  by_cases h8 : 8 < m
  · have h8' : (8 : Int) < m := by omega
    have HR := Lib.hid (show walkR e gen vs xs = ⟨e, gen, vs, 0, 8⟩ by unfold walkR; rw [if_pos (by rw [← HM.out]; exact h8)])
    go_enter Tryz.func13, Tryz.ntmps13
    go_wp2_with fail
    refine wp_region_rely4 (by kernel_rfl) 4 (by kernel_rfl) (by kernel_rfl) (But (fun t => t = w.heap.size + 1)) Ext 2 (But.refl _) Ext.refl Ext.trans But.trans (fun ix => match ix with
      | 0 => fun _ v => v = .agg (gndC e (.slice A n c0) gen).toArray
      | 1 => fun _ v => v = errV aU
      | 2 => fun W _ => W.heap[w.heap.size + 1]? = some (.cells (gndC e (.slice A n c0) gen).toArray 26 (0, 0))
      | 3 => fun _ v => v = .int .i64 0
      | _ => fun _ _ => False) ?_
    simp (maxSteps := 10000000) only [Rely4, List.take_succ_cons, List.take_zero, List.drop_succ_cons, List.drop_zero, Nat.reduceAdd, Nat.zero_add, Act.put, List.setIfInBounds_toArray, List.set_cons_succ, List.set_cons_zero]
    refine ⟨?_, ?_, ?_, ?_, ?_⟩
    · refine step4o rfl (by decide) fun rv wq hE hd => ?_
      exact gives_load_row 26 _ rfl (w.heap.size) 0 rfl (gndC e (.slice A n c0) gen) _ (fun j u hu => (but_drewT hE).cellT (blk_range G0.out j u hu) (by show ¬ (w.heap.size = w.heap.size + 1); omega)) Tryz.underlying26 rfl (by rw [HGL.out]; exact Tryz.size26) ⟨⟨But.refl _ _, Ext.refl _⟩, fun _ _ => rfl⟩
    · refine step4o rfl (by decide) fun rv wq hE hd => ?_
      have hc := (but_drewT hE).cellT (cell_on B0.out EU.out) (by show ¬ (7 = w.heap.size + 1); have := H18.out; omega)
      exact gives_loadAt 40 _ rfl (.pointer (some ⟨7, 0, none⟩)) (errV aU) rfl (by go_simp) ⟨⟨But.refl _ _, Ext.refl _⟩, fun _ _ => rfl⟩
    · refine step4m rfl fun rv wq hE hZ hd => ?_
      refine gives_store_row 26 _ _ rfl (w.heap.size + 1) rfl (gndC e (.slice A n c0) gen) (show rv 0 = _ from hd.1) 26 (by rw [HGL.out]; exact (hasZ T0.out).below (ext_of_drew hZ)) (by rw [HGL.out]; exact Tryz.size26) (one_gnd _ _ _ rfl) ?_
      intro w5 hp
      exact ⟨⟨hp.os, hp.tape, hp.output, by rw [hp.size]; exact Nat.le_refl _, fun k _ hs => hp.other k hs⟩, fun W hW => blk_below hp.blk hW⟩
    · refine step4o rfl (by decide) fun rv wq hE hd => ?_
      exact gives_move _ (.int .i64 0) (.inr rfl) rfl ⟨⟨But.refl _ _, Ext.refl _⟩, fun _ _ => rfl⟩
    · intro rv wq hE hR
      have h1 : rv 1 = errV aU := hR 1 (by omega)
      have h3 : rv 3 = .int .i64 0 := hR 3 (by omega)
      have k2 : wq.heap[w.heap.size + 1]? = some (.cells (gndC e (.slice A n c0) gen).toArray 26 (0, 0)) := hR 2 (by omega)
      rw [h1, h3]
      have hbt := but_drewT hE
      have K5 := Lib.hid k2
      have B5 := Lib.hid (show Below w.heap.size w wq from B0.out.trans ⟨hbt.os, hbt.tape, hbt.output, hbt.size, fun k hk => hbt.same k (Nat.lt_of_lt_of_le hk B0.out.size) (by show ¬ (k = w.heap.size + 1); omega)⟩)
      clear hR hE h1 h3 k2 hbt
      go_wp2_with fail
      refine bodyPost_ret (v := .tuple #[.agg (gndC e (.slice A n c0) gen).toArray, .int .i64 0, errV aU]) (results_cell_row_tmp2 rfl _ _ (w.heap.size + 1) 26 _ (0, 0) _ rfl K5.out Tryz.underlying26 rfl (by simp only [List.size_toArray]; rw [HGL.out]; exact Tryz.size26) rfl rfl) rfl ⟨B5.out, ?_⟩
      rw [HR.out]
      exact ⟨A, n, c0, by rw [NU.out]; rfl, HV.out.below B5.out, HG.out, HN.out⟩

  have h8i : ¬ (8 : Int) < m := by omega
  have M8 := Lib.hid (show m ≤ 8 by omega)
  have HR := Lib.hid (show walkR e gen vs xs = walkL e gen vs xs 0 by unfold walkR; rw [if_neg (by rw [← HM.out]; exact h8)])
  rw [HR.out]
  go_enter Tryz.func13, Tryz.ntmps13
  go_wp2_with fail
  clear h8 h8i
  go_loopw [20] (fun x wr => ∃ (i : Nat) (e1 : Int) (g1 : List Int) (v1 : List Va) (A1 : Option Addr) (n1 c1 : Nat), i ≤ m ∧ x = .int .i64 i ∧ Hid (wr.heap[w.heap.size]? = some (.cells (gndC e1 (.slice A1 n1 c1) g1).toArray 26 (0, 0))) ∧ Hid (wr.heap[w.heap.size + 1]? = some (.cells (gndC 0 (.slice none 0 0) zero16).toArray 26 (0, 0))) ∧ Hid (Vals wr (.slice A1 n1 c1) v1) ∧ Hid (Below w.heap.size w wr) ∧ Hid (g1.length = 16 ∧ n1 ≤ 1000000) ∧ Hid (walkL e gen vs xs 0 = walkL e1 g1 v1 (xs.drop i) i)) (fun x _ => m - (intOf x).toNat)
  case atStart => exact ⟨0, e, gen, vs, A, n, c0, Nat.zero_le _, rfl, G0, T0, V0, B0, Lib.hid ⟨HG.out, HN.out⟩, Lib.hid rfl⟩
  case round =>
    clear G0 T0 V0 B0 HR
    obtain ⟨i, e1, g1, v1, A1, n1, c1, hi, rfl, Gr, Tr, Vr, Br, HGN, HWL⟩ := hrel
    have HGL1 := Lib.hid (gnd_len e1 (.slice A1 n1 c1) g1 HGN.out.1)
    by_cases hlt : i < m
    · obtain ⟨b, off, cs, rfl, hb, hr, hc⟩ := HX.out.el i hlt
      have hlen : i < xs.length := by rw [← HM.out]; exact hlt
      have hdr : xs.drop i = xs.getD i Ch.none :: xs.drop (i + 1) := by
        rw [List.drop_eq_getElem_cons hlen, List.getD_eq_getElem?_getD, List.getElem?_eq_getElem hlen]
        rfl
      obtain ⟨c, hcx⟩ : ∃ c, c = xs.getD i Ch.none := ⟨_, rfl⟩
      rw [← hcx] at hdr hc
      have HDR := Lib.hid hdr
      obtain ⟨f, cq, rfl, hB, hq⟩ := hc.ex
      have HB := Lib.hid (fun i hi => (hB i hi).below Br.out)
      have HQ := Lib.hid (hq.below Br.out)
      have HI := Lib.hid hc.i64
      have HL := Lib.hid (fun j hj => (hB j hj).len)
      have HCL := Lib.hid (show (chC f cq).length = 136 by unfold chC; rw [List.length_append, bl3_len f 39 HL.out, hq.len])
      have RC := Lib.hid (range_below hr Br.out)
      have HLT := Lib.hid hlt
      have hi9 : (i : Int) < m := by omega
      have hi8 : (i : Int) ≤ 8 := by have := M8.out; omega
      have SZ := Lib.hid (show w.heap.size + 2 ≤ wr.heap.size from Nat.succ_le_of_lt (blk_lt Tr.out))
      clear hlen hdr hcx hc hB hq hr hb hlt
      go_wp2_with (first | (refine wpList_load_g rfl 35 (.tmp 23) rfl b (off + i * 136) rfl (chC f cq) _ RC.out Tryz.underlying35 rfl (by rw [HCL.out]; exact (show (Tryz.prog.info? 35).map (·.size) = some 136 by kernel_rfl)) ?_) | (refine wpList_store_row rfl 35 (.tmp 8) (.tmp 24) rfl wr.heap.size rfl (chC f cq) rfl 35 (has_new wr _ _ _ (by rw [HCL.out]; rfl)) (by rw [HCL.out]; exact (show (Tryz.prog.info? 35).map (·.size) = some 136 by kernel_rfl)) ((fun u hu => by unfold chC bl3 at hu; simp only [List.mem_append] at hu; rcases hu with (h | h | h) | h; exact one_bk (HB.out 0 (by omega)) u h; exact one_bk (HB.out 1 (by omega)) u h; exact one_bk (HB.out 2 (by omega)) u h; exact one_qcAt HQ.out u h)) ?_; intro w1 hp1; have L1 : Below wr.heap.size wr w1 := hp1.below ((Below.refl _ _).alloc (Nat.le_refl _) _) (Nat.le_refl _); have T1 := Lib.hid (blk_below Tr.out L1); have G1 := Lib.hid (blk_below Gr.out L1); have V1 := Lib.hid (Vr.out.below L1); have B1 := Lib.hid (Br.out.trans (L1.mono Br.out.size)); have C1 := Lib.hid hp1.blk; have LW1 := Lib.hid L1; clear hp1 L1) | (refine wpList_load_g rfl 26 (.tmp 2) rfl (w.heap.size) 0 rfl (gndC e1 (.slice A1 n1 c1) g1) _ (blk_range G1.out) Tryz.underlying26 rfl (by rw [HGL1.out]; exact Tryz.size26) ?_) | (refine wpList_load_g rfl 35 (.tmp 8) rfl (wr.heap.size) 0 rfl (chC f cq) _ (blk_range C1.out) Tryz.underlying35 rfl (by rw [HCL.out]; exact (show (Tryz.prog.info? 35).map (·.size) = some 136 by kernel_rfl)) ?_))
      refine (echeck_any e1 v1 A1 n1 c1 g1 HGN.out.1 f cq c al w1 V1.out (fun i hi => (HB.out i hi).below LW1.out) (HQ.out.below LW1.out) HI.out (HS.out.below B1.out) (range_below HK.out B1.out) HGN.out.2).mono ?_
      rintro _ w2 ⟨rfl, hb2⟩
      have T2 := Lib.hid (blk_below T1.out hb2)
      have G2 := Lib.hid (blk_below G1.out hb2)
      have V2 := Lib.hid (V1.out.below hb2)
      have C2 := Lib.hid (blk_below C1.out hb2)
      have LW2 := Lib.hid (LW1.out.trans (hb2.mono LW1.out.size))
      have B2 := Lib.hid (B1.out.trans (hb2.mono B1.out.size))
      clear hb2
      clear T1 G1 V1 C1 LW1 B1
      rcases errN_zero ALL.out (chkN_le v1 e1 g1 c) with ⟨hj, hje⟩ | ⟨hj, aj, hje⟩
      case inr =>
        have HRES := Lib.hid (show walkL e gen vs xs 0 = ⟨e1, g1, v1, i, chkN v1 e1 g1 c⟩ by rw [HWL.out, HDR.out]; unfold walkL; rw [if_pos hj])
        have HJE := Lib.hid hje
        rw [hje]
        clear hj hje
        go_wp2_with (first | (refine wpList_load_g rfl 26 (.tmp 2) rfl (w.heap.size) 0 rfl (gndC e1 (.slice A1 n1 c1) g1) _ (blk_range G2.out) Tryz.underlying26 rfl (by rw [HGL1.out]; exact Tryz.size26) ?_) | (refine wpList_store_row rfl 26 (.tmp 4) (.tmp 30) rfl (w.heap.size + 1) rfl (gndC e1 (.slice A1 n1 c1) g1) rfl 26 (by rw [HGL1.out]; exact hasZ T2.out) (by rw [HGL1.out]; exact Tryz.size26) (one_gnd _ _ _ rfl) ?_; intro w9 hp9; have K9 := Lib.hid hp9.blk; have B9 := Lib.hid (hp9.below B2.out (by omega)); have V9 := Lib.hid (V2.out.put T2.out rfl hp9); clear hp9))
        refine bodyPost_ret (v := .tuple #[.agg (gndC e1 (.slice A1 n1 c1) g1).toArray, .int .i64 i, errV aj]) (results_cell_row_tmp2 rfl _ _ (w.heap.size + 1) 26 _ (0, 0) _ rfl K9.out Tryz.underlying26 rfl (by simp only [List.size_toArray]; rw [HGL1.out]; exact Tryz.size26) rfl rfl) rfl ⟨B9.out, ?_⟩
        rw [HRES.out]
        exact ⟨A1, n1, c1, by rw [HJE.out], V9.out, HGN.out.1, HGN.out.2⟩
      rw [hje]
      have HJ := Lib.hid (show ¬ chkN v1 e1 g1 c ≠ 0 by rw [hj]; simp)
      obtain ⟨⟨bs, hbs⟩, hvn⟩ := chk_id hj
      have HVN := Lib.hid hvn
      have hid : idE (c.b 0) aR = .nilIface := by unfold idE; rw [hbs]
      have HID := Lib.hid hid
      clear hj hje hbs hvn hid
      have RB2 := Lib.hid (show w2.rangeAt wr.heap.size 0 (f 0) by have := bl3_range 39 HL.out (ch_range HL.out C2.out).1 0 (by omega); exact this)
      go_wp2_with (refine wpList_load_g rfl 32 (.tmp 35) rfl (wr.heap.size) 0 rfl (f 0) _ RB2.out Tryz.underlying32 rfl (by rw [HL.out 0 (by omega)]; exact Tryz.size32) ?_)
      refine (id_any w2 aR (f 0) (c.b 0) ((HB.out 0 (by omega)).below LW2.out) (cell_on B2.out ER.out) (range_below HK.out B2.out) (Nat.lt_of_lt_of_le H18.out B2.out.size)).mono ?_
      rintro _ w3 ⟨rfl, hb3⟩
      have T3 := Lib.hid (blk_below T2.out hb3)
      have G3 := Lib.hid (blk_below G2.out hb3)
      have V3 := Lib.hid (V2.out.below hb3)
      have C3 := Lib.hid (blk_below C2.out hb3)
      have LW3 := Lib.hid (LW2.out.trans (hb3.mono LW2.out.size))
      have B3 := Lib.hid (B2.out.trans (hb3.mono B2.out.size))
      clear hb3
      clear T2 G2 V2 C2 LW2 B2
      rw [HID.out]
      obtain ⟨X, hX⟩ : ∃ X, X = idB (c.b 0) := ⟨_, rfl⟩
      have HXL := Lib.hid (show X.length = 16 from hX ▸ (idB_good _).1)
      have HXO := Lib.hid (show u8s_ok X from hX ▸ (idB_good _).2)
      rw [← hX]
      have HX2 := Lib.hid hX
      clear hX
      obtain ⟨BN, dN, cN, vN⟩ := bk_next HL.out (ch_range HL.out C3.out).1 (HB.out 0 (by omega))
      have CN3 := Lib.hid cN
      have VN3 := Lib.hid (vN.below LW3.out)
      have vlen := vN.len
      clear cN vN
      clear vlen
      go_wp2_with (first | (refine wpList_store_row rfl 24 (.tmp 10) (.tmp 38) rfl w3.heap.size rfl (u8s X) rfl 24 (has_new w3 _ _ _ (by rw [u8s_len', HXL.out]; rfl)) (by rw [u8s_len', HXL.out]; exact Tryz.size24) (one_u8s X) ?_; intro w4 hp4; have L4 : Below w3.heap.size w3 w4 := hp4.below ((Below.refl _ _).alloc (Nat.le_refl _) _) (Nat.le_refl _); have T4 := Lib.hid (blk_below T3.out L4); have G4 := Lib.hid (blk_below G3.out L4); have V4 := Lib.hid (V3.out.below L4); have C4 := Lib.hid (blk_below C3.out L4); have LW4 := Lib.hid (LW3.out.trans (L4.mono LW3.out.size)); have CN4 := Lib.hid (cell_on L4 CN3.out); have VN4 := Lib.hid (VN3.out.below L4); have B4 := Lib.hid (B3.out.trans (L4.mono B3.out.size)); have X4 := Lib.hid hp4.blk; have cn := CN4.out; clear hp4 L4) | (refine wpList_load_g rfl 26 (.tmp 2) rfl (w.heap.size) 0 rfl (gndC e1 (.slice A1 n1 c1) g1) _ (blk_range G4.out) Tryz.underlying26 rfl (by rw [HGL1.out]; exact Tryz.size26) ?_) | (refine wpList_load_g rfl 24 (.tmp 10) rfl (w3.heap.size) 0 rfl (u8s X) _ (blk_range X4.out) Tryz.underlying24 rfl (hi24 X HXL.out) ?_))
      clear cn
      refine (next_any e1 (.slice A1 n1 c1) g1 X HGN.out.1 HXL.out HXO.out (c.b 0).next BN (c.b 0).next.length dN aR aS aE w4 VN4.out (HEM.out.below B4.out)).mono ?_
      rintro _ w5 ⟨hb5, hr⟩
      have T5 := Lib.hid (blk_below T4.out hb5)
      have G5 := Lib.hid (blk_below G4.out hb5)
      have V5 := Lib.hid (V4.out.below hb5)
      have B5 := Lib.hid (B4.out.trans (hb5.mono B4.out.size))
      have L45 := Lib.hid hb5
      clear hb5
      have HLX := Lib.hid (show (c.b 0).next.length ≤ 1000000 by
        have := hv7 _ HVN.out
        omega)
      rcases hr with ⟨hv, _⟩ | ⟨_, hout, rfl⟩ | ⟨_, hin, A6, c6, rfl, ho⟩
      · exact absurd hv (by rw [HVN.out]; simp)
      · have HRES := Lib.hid (show walkL e gen vs xs 0 = ⟨e1, g1, v1, i, 18⟩ by rw [HWL.out, HDR.out]; unfold walkL; rw [if_neg HJ.out, if_neg (by unfold OutE at hout; omega)])
        clear hout
        go_wp2_with (first | (refine wpList_store_row rfl 26 (.tmp 12) (.tmp 53) rfl w5.heap.size rfl (gndC 0 (.slice none 0 0) zero16) rfl 26 (has_new w5 _ _ _ (by rw [zgnd_len]; rfl)) (by rw [zgnd_len]; exact Tryz.size26) (one_gnd _ _ _ rfl) ?_; intro w6 hp6; have L6 : Below w5.heap.size w5 w6 := hp6.below ((Below.refl _ _).alloc (Nat.le_refl _) _) (Nat.le_refl _); have T6 := Lib.hid (blk_below T5.out L6); have G6 := Lib.hid (blk_below G5.out L6); have V6 := Lib.hid (V5.out.below L6); have B6 := Lib.hid (B5.out.trans (L6.mono B5.out.size)); have N6 := Lib.hid hp6.blk; clear hp6 L6) | (refine wpList_load_g rfl 26 (.tmp 2) rfl (w.heap.size) 0 rfl (gndC e1 (.slice A1 n1 c1) g1) _ (blk_range G6.out) Tryz.underlying26 rfl (by rw [HGL1.out]; exact Tryz.size26) ?_) | (refine wpList_store_row rfl 26 (.tmp 4) (.tmp 57) rfl (w.heap.size + 1) rfl (gndC e1 (.slice A1 n1 c1) g1) rfl 26 (by rw [HGL1.out]; exact hasZ T6.out) (by rw [HGL1.out]; exact Tryz.size26) (one_gnd _ _ _ rfl) ?_; intro w9 hp9; have K9 := Lib.hid hp9.blk; have B9 := Lib.hid (hp9.below B6.out (by omega)); have V9 := Lib.hid (V6.out.put T6.out rfl hp9); clear hp9))
        refine bodyPost_ret (v := .tuple #[.agg (gndC e1 (.slice A1 n1 c1) g1).toArray, .int .i64 i, errV aE]) (results_cell_row_tmp2 rfl _ _ (w.heap.size + 1) 26 _ (0, 0) _ rfl K9.out Tryz.underlying26 rfl (by simp only [List.size_toArray]; rw [HGL1.out]; exact Tryz.size26) rfl rfl) rfl ⟨B9.out, ?_⟩
        rw [HRES.out]
        exact ⟨A1, n1, c1, by rw [NE.out], V9.out, HGN.out.1, HGN.out.2⟩
      · have HINN := Lib.hid (show 0 ≤ e1 ∧ e1 < 1073741824 by unfold InE at hin; omega)
        obtain ⟨I6, hI6⟩ : ∃ x, x = idB (GEN (e1 + 1) X) := ⟨_, rfl⟩
        have HI6 := Lib.hid (show I6.length = 16 from hI6 ▸ (idB_good _).1)
        rw [← hI6]
        have HIE := Lib.hid hI6
        have U5 := Lib.hid (Vals.of_own ho rfl VN4.out.good)
        have hl6 := Lib.hid (gnd_len (e1 + 1) (.slice A6 (c.b 0).next.length c6) I6 HI6.out)
        clear hin hI6 ho
        go_wp2_with (first | (refine wpList_store_row rfl 26 (.tmp 12) (.tmp 53) rfl w5.heap.size rfl (gndC (e1 + 1) (.slice A6 (c.b 0).next.length c6) I6) rfl 26 (has_new w5 _ _ _ (by rw [hl6.out]; rfl)) (by rw [hl6.out]; exact Tryz.size26) (one_gnd _ _ _ rfl) ?_; intro w6 hp6; have L6 : Below w5.heap.size w5 w6 := hp6.below ((Below.refl _ _).alloc (Nat.le_refl _) _) (Nat.le_refl _); have T6 := Lib.hid (blk_below T5.out L6); have G6 := Lib.hid (blk_below G5.out L6); have V6 := Lib.hid (V5.out.below L6); have U6 := Lib.hid (U5.out.below L6); have B6 := Lib.hid (B5.out.trans (L6.mono B5.out.size)); have N6 := Lib.hid hp6.blk; clear hp6 L6) | (refine wpList_load_g rfl 26 (.tmp 12) rfl (w5.heap.size) 0 rfl (gndC (e1 + 1) (.slice A6 (c.b 0).next.length c6) I6) _ (blk_range N6.out) Tryz.underlying26 rfl (by rw [hl6.out]; exact Tryz.size26) ?_) | (refine wpList_store_row rfl 26 (.tmp 2) (.tmp 60) rfl w.heap.size rfl (gndC (e1 + 1) (.slice A6 (c.b 0).next.length c6) I6) rfl 26 (by rw [hl6.out]; exact ⟨_, by rw [List.size_toArray, HGL1.out], G6.out⟩) (by rw [hl6.out]; exact Tryz.size26) (one_gnd _ _ _ rfl) ?_; intro w7 hp7; have G7 := Lib.hid hp7.blk; have B7 := Lib.hid (hp7.below B6.out (Nat.le_refl _)); have V7 := Lib.hid (U6.out.put G6.out HGN.out.1 hp7); have T7 := Lib.hid ((hp7.other (w.heap.size + 1) (by omega)).trans T6.out); clear hp7))
        go_roundw
        case rel => exact ⟨i + 1, e1 + 1, I6, (c.b 0).next, A6, (c.b 0).next.length, c6, by omega, by go_num, G7, T7, V7, B7, Lib.hid ⟨HI6.out, HLX.out⟩, Lib.hid (by rw [HWL.out, HDR.out]; conv => { lhs; unfold walkL }; rw [if_neg HJ.out, if_pos HINN.out, ← HX2.out, ← HIE.out])⟩
        case measure => simp [intOf]; omega
    · obtain rfl : i = m := by omega
      have HRES := Lib.hid (show walkL e gen vs xs 0 = ⟨e1, g1, v1, i, 0⟩ by rw [HWL.out, List.drop_of_length_le (by rw [HM.out]; exact Nat.le_refl _)]; rfl)
      go_wp2_with (first | (refine wpList_load_g rfl 26 (.tmp 2) rfl (w.heap.size) 0 rfl (gndC e1 (.slice A1 n1 c1) g1) _ (blk_range Gr.out) Tryz.underlying26 rfl (by rw [HGL1.out]; exact Tryz.size26) ?_) | (refine wpList_store_row rfl 26 (.tmp 4) (.tmp 62) rfl (w.heap.size + 1) rfl (gndC e1 (.slice A1 n1 c1) g1) rfl 26 (by rw [HGL1.out]; exact hasZ Tr.out) (by rw [HGL1.out]; exact Tryz.size26) (one_gnd _ _ _ rfl) ?_; intro w9 hp9; have K9 := Lib.hid hp9.blk; have B9 := Lib.hid (hp9.below Br.out (by omega)); have V9 := Lib.hid (Vr.out.put Tr.out rfl hp9); clear hp9))
      refine bodyPost_ret (v := .tuple #[.agg (gndC e1 (.slice A1 n1 c1) g1).toArray, .int .i64 i, .nilIface]) (results_cell_row_tmp2 rfl _ _ (w.heap.size + 1) 26 _ (0, 0) _ rfl K9.out Tryz.underlying26 rfl (by simp only [List.size_toArray]; rw [HGL1.out]; exact Tryz.size26) rfl rfl) rfl ⟨B9.out, ?_⟩
      rw [HRES.out]
      exact ⟨A1, n1, c1, rfl, V9.out, HGN.out.1, HGN.out.2⟩
end Go.Proofs.YtniknhhejlgdfaaGreatDoor
/- Worlds that differ in grounds' variables alone. -/
namespace Go.Proofs.YtniknhhejlgdfaaGreatDoor
open Go.RowKit

/-- A ground's variable. -/
def GN (w : World) (k : Nat) : Prop := ∃ e x g, g.length = 16 ∧ w.heap[k]? = some (.cells (gndC e x g).toArray 26 (0, 0))
theorem GN.has {w : World} {k : Nat} (h : GN w k) : Has w k 26 18 := by
  obtain ⟨e, x, g, hg, h⟩ := h
  exact ⟨_, by rw [List.size_toArray]; exact gnd_len e x g hg, h⟩
structure EG (s : Nat) (w w' : World) : Prop where
  os : w'.os = w.os
  tape : w'.tape = w.tape
  output : w'.output = w.output
  size : w.heap.size ≤ w'.heap.size
  blk : ∀ k, k < w.heap.size → w'.heap[k]? = w.heap[k]? ∨ (s ≤ k ∧ GN w k ∧ GN w' k)
theorem EG.refl (s : Nat) (w : World) : EG s w w := ⟨rfl, rfl, rfl, Nat.le_refl _, fun _ _ => .inl rfl⟩
theorem GN.same {w w' : World} {k : Nat} (h : GN w k) (e : w'.heap[k]? = w.heap[k]?) : GN w' k := by
  obtain ⟨a, x, g, hg, h⟩ := h
  exact ⟨a, x, g, hg, e.trans h⟩
theorem EG.trans {s : Nat} {a b c : World} (h : EG s a b) (k : EG s b c) : EG s a c :=
  ⟨k.os.trans h.os, k.tape.trans h.tape, k.output.trans h.output, Nat.le_trans h.size k.size, fun j hj => by
    rcases k.blk j (Nat.lt_of_lt_of_le hj h.size) with e1 | ⟨s1, g1, g2⟩
    · rcases h.blk j hj with e2 | ⟨s2, g3, g4⟩
      · exact .inl (e1.trans e2)
      · exact .inr ⟨s2, g3, g4.same e1⟩
    · rcases h.blk j hj with e2 | ⟨s2, g3, g4⟩
      · exact .inr ⟨s1, g1.same e2.symm, g2⟩
      · exact .inr ⟨s1, g3, g2⟩⟩
theorem EG.of_ext {s : Nat} {w w' : World} (h : Ext w w') : EG s w w' := ⟨h.os, h.tape, h.output, h.size, fun k hk => .inl (h.block k hk)⟩
theorem EG.below {s : Nat} {w w' : World} (h : EG s w w') (hs : s ≤ w.heap.size) : Below s w w' := ⟨h.os, h.tape, h.output, h.size, fun k hk => by
  rcases h.blk k (Nat.lt_of_lt_of_le hk hs) with e | ⟨h1, _⟩
  · exact e
  · omega⟩
theorem eg_drew {w w' : World} (h : EG w.heap.size w.drew w') : Ext w w' := ext_of_drew (h.below (Nat.le_refl _))
theorem GN.eg {s : Nat} {w w' : World} {k : Nat} (h : GN w k) (he : EG s w w') : GN w' k := by
  rcases he.blk k h.has.lt with e | ⟨_, _, g⟩
  · exact h.same e
  · exact g
theorem Vals.eg {s : Nat} {w w' : World} {v : Value} {vs : List Va} (h : Vals w v vs) (he : EG s w w') : Vals w' v vs := by
  refine ⟨h.form, fun hne => ?_, h.good⟩
  obtain ⟨b, off, c, e, h1, h2, h3, h4⟩ := h.cells hne
  have hpos : 0 < vs.length := by cases vs with
    | nil => exact absurd rfl hne
    | cons => simp
  have hs : w'.heap[b]? = w.heap[b]? := by
    rcases he.blk b h3 with e | ⟨_, ⟨e0, x, g, hg, hB⟩, _⟩
    · exact e
    · exfalso
      have h0 := h4 0 hpos
      have hk : (vs.getD 0 ([], 0)).1.length = 16 := by
        rw [List.getD_eq_getElem?_getD, List.getElem?_eq_getElem hpos]
        exact h.good _ (List.getElem_mem _)
      obtain ⟨X, hX⟩ : ∃ X, X = vs.getD 0 ([], 0) := ⟨_, rfl⟩
      rw [← hX] at hk h0
      obtain ⟨k0, hk0⟩ : ∃ k0, X.1[0]? = some k0 := ⟨_, List.getElem?_eq_getElem (by omega)⟩
      have ha := h0 16 (.int .i64 X.2) (by unfold vcells; rw [List.getElem?_append_right (by rw [u8s_len', hk]; exact Nat.le_refl _), u8s_len', hk]; rfl)
      have hz := h0 0 (.int .u8 k0) (by unfold vcells; rw [List.getElem?_append_left (by rw [u8s_len', hk]; omega)]; simp [u8s, hk0])
      simp only [World.cell?, hB, Nat.zero_mul, Nat.add_zero] at ha hz
      have hl := gnd_len e0 x g hg
      rcases off with _ | _ | off
      · simp [gndC] at hz
      · have ha' := ha
        simp [gndC, List.getElem?_append, u8s, hg] at ha'
      · have : ((gndC e0 x g).toArray)[off + 1 + 1 + 16]? = none := by rw [Array.getElem?_eq_none]; simp [hl]
        rw [this] at ha
        cases ha
  refine ⟨b, off, c, e, h1, h2, Nat.lt_of_lt_of_le h3 he.size, fun i hi j u hu => ?_⟩
  have := h4 i hi j u hu
  rw [← this]
  simp only [World.cell?, hs]
theorem EG.of_put {s : Nat} {w w' : World} {k : Nat} {e : Int} {x : Value} {g : List Int} (hk : s ≤ k) (h : GN w k) (hg : g.length = 16) (hp : Put w k 26 (gndC e x g) w') : EG s w w' :=
  ⟨hp.os, hp.tape, hp.output, Nat.le_of_eq hp.size.symm, fun j _ => by
    by_cases hj : j = k
    · subst hj
      exact .inr ⟨hk, h, e, x, g, hg, hp.blk⟩
    · exact .inl (hp.other j hj)⟩
end Go.Proofs.YtniknhhejlgdfaaGreatDoor
/- Slices of slices of Changes; a ground's new variable. -/
namespace Go.Proofs.YtniknhhejlgdfaaGreatDoor
open Go.RowKit
set_option maxRecDepth 100000 in
theorem slice45_lo (L : Option Addr) (m cap j : Nat) (hj : j ≤ m) (hc : m ≤ cap) (W : World) : (Instr.sliceAt 45 (.slice L m cap) none (some (.int .i64 j)) none).run Tryz.prog W = .ok (.slice L j cap) W := by
  have h1 : (j : Int) ≤ cap := by omega
  have h2 : (j : Int) ≤ m := by omega
  cases L with
  | none => go_simp
  | some a => go_simp
set_option maxRecDepth 100000 in
theorem slice45_hi (L : Option Addr) (m cap j : Nat) (hj : j ≤ m) (hc : m ≤ cap) (W : World) : (Instr.sliceAt 45 (.slice L m cap) (some (.int .i64 j)) none none).run Tryz.prog W = .ok (.slice (if cap = j then L else L.map (·.add (j * 136))) (m - j) (cap - j)) W := by
  have h1 : (j : Int) ≤ cap := by omega
  have h2 : (j : Int) ≤ m := by omega
  have h3 : (m : Int) ≤ cap := by omega
  cases L with
  | none => go_simp
  | some a => go_simp
set_option maxRecDepth 100000 in
theorem run_alloc26 (w : World) : (Instr.alloc 26 true (.tuple #[])).run Tryz.prog w = .ok (.pointer (some ⟨w.heap.size, 0, none⟩)) (w.alloc (.cells (gndC 0 (.slice none 0 0) zero16).toArray 26)) := by
  have : (gndC 0 (.slice none 0 0) zero16).toArray = #[.int .i64 0, .slice none 0 0, .int .u8 0, .int .u8 0, .int .u8 0, .int .u8 0, .int .u8 0, .int .u8 0, .int .u8 0, .int .u8 0, .int .u8 0, .int .u8 0, .int .u8 0, .int .u8 0, .int .u8 0, .int .u8 0, .int .u8 0, .int .u8 0] := rfl
  rw [this]
  go_simp
theorem gives_alloc26 {o : Oper} {ρ : Operand → Value} {w : World} {S : Value → World → Prop} (ho : o.op = .alloc 26) (h : S (.pointer (some ⟨w.heap.size, 0, none⟩)) (w.alloc (.cells (gndC 0 (.slice none 0 0) zero16).toArray 26))) : Gives Tryz.prog o ρ w S := by
  refine gives_val _ (w' := w.alloc (.cells (gndC 0 (.slice none 0 0) zero16).toArray 26)) ?_ h
  unfold execOp
  simp only [ho, Sem.run_bind, run_alloc26, Result.andThen_ok, Sem.run_pure]
theorem Chs.cap {w : World} {L : Option Addr} {m cap : Nat} {xs : List Ch} (h : Chs w (.slice L m cap) xs) : m ≤ cap := by
  have hl := h.len
  by_cases hx : xs = []
  · subst hx; simp at hl; omega
  · obtain ⟨b, off, c, e, h1, _⟩ := h.cells hx
    simp only [Value.slice.injEq] at e
    omega
theorem Chs.take {w : World} {L : Option Addr} {m cap : Nat} {xs : List Ch} (h : Chs w (.slice L m cap) xs) (j : Nat) (hj : j ≤ m) : Chs w (.slice L j cap) (xs.take j) := by
  have hl := h.len
  have ht : (xs.take j).length = j := by rw [List.length_take]; omega
  refine ⟨⟨L, cap, by rw [ht]⟩, fun hne => ?_⟩
  have hx : xs ≠ [] := by rintro rfl; exact hne (by simp)
  obtain ⟨b, off, c, e, h1, h2, h3, h4⟩ := h.cells hx
  simp only [Value.slice.injEq] at e
  obtain ⟨rfl, _, rfl⟩ := e
  refine ⟨b, off, cap, by rw [ht], by omega, h2, h3, fun i hi => ?_⟩
  obtain ⟨cs, hr, hc⟩ := h4 i (by omega)
  refine ⟨cs, hr, ?_⟩
  rw [show (xs.take j).getD i Ch.none = xs.getD i Ch.none by rw [List.getD_eq_getElem?_getD, List.getD_eq_getElem?_getD, List.getElem?_take, if_pos (by omega)]]
  exact hc
theorem Chs.drop {w : World} {L : Option Addr} {m cap : Nat} {xs : List Ch} (h : Chs w (.slice L m cap) xs) (j : Nat) (hj : j ≤ m) : Chs w (.slice (if cap = j then L else L.map (·.add (j * 136))) (m - j) (cap - j)) (xs.drop j) := by
  have hl := h.len
  have ht : (xs.drop j).length = m - j := by rw [List.length_drop]; omega
  refine ⟨⟨_, cap - j, by rw [ht]⟩, fun hne => ?_⟩
  have hx : xs ≠ [] := by rintro rfl; exact hne (by simp)
  obtain ⟨b, off, c, e, h1, h2, h3, h4⟩ := h.cells hx
  simp only [Value.slice.injEq] at e
  obtain ⟨rfl, _, rfl⟩ := e
  have hlt : j < xs.length := by
    rcases Nat.lt_or_ge j xs.length with h | h
    · exact h
    · exact absurd (List.drop_of_length_le h) hne
  refine ⟨b, off + j * 136, cap - j, ?_, by omega, by omega, h3, fun i hi => ?_⟩
  · rw [if_neg (by omega), ht]
    simp [Addr.add]
  · obtain ⟨cs, hr, hc⟩ := h4 (j + i) (by omega)
    refine ⟨cs, by rw [show off + j * 136 + i * 136 = off + (j + i) * 136 by omega]; exact hr, ?_⟩
    rw [show (xs.drop j).getD i Ch.none = xs.getD (j + i) Ch.none by rw [List.getD_eq_getElem?_getD, List.getD_eq_getElem?_getD, List.getElem?_drop]]
    exact hc
theorem walkL_cons (c : Ch) (xs : List Ch) (e : Int) (g : List Int) (vs : List Va) (n : Nat) : walkL e g vs (c :: xs) n = if chkN vs e g c ≠ 0 then ⟨e, g, vs, n, chkN vs e g c⟩ else if 0 ≤ e ∧ e < 1073741824 then walkL (e + 1) (idB (GEN (e + 1) (idB (c.b 0)))) (c.b 0).next xs (n + 1) else ⟨e, g, vs, n, 18⟩ := rfl
/-- To walk over Changes is to walk over the first ones, then over the others. -/
theorem walkL_app : ∀ (xs ys : List Ch) (e : Int) (g : List Int) (vs : List Va) (n : Nat), walkL e g vs (xs ++ ys) n = (if (walkL e g vs xs n).k ≠ 0 then walkL e g vs xs n else walkL (walkL e g vs xs n).e (walkL e g vs xs n).g (walkL e g vs xs n).xs ys (walkL e g vs xs n).n)
  | [], ys, e, g, vs, n => by simp [walkL]
  | c :: xs, ys, e, g, vs, n => by
    rw [List.cons_append, walkL_cons, walkL_cons]
    by_cases h1 : chkN vs e g c ≠ 0
    · rw [if_pos h1, if_pos h1, if_pos h1]
    · rw [if_neg h1, if_neg h1]
      by_cases h2 : 0 ≤ e ∧ e < 1073741824
      · rw [if_pos h2, if_pos h2]
        exact walkL_app xs ys _ _ _ _
      · rw [if_neg h2, if_neg h2, if_pos (by simp)]
theorem walkL_from : ∀ (xs : List Ch) (e : Int) (g : List Int) (vs : List Va) (n k : Nat), walkL e g vs xs (n + k) = ⟨(walkL e g vs xs k).e, (walkL e g vs xs k).g, (walkL e g vs xs k).xs, n + (walkL e g vs xs k).n, (walkL e g vs xs k).k⟩
  | [], _, _, _, _, _ => by simp [walkL]
  | c :: xs, e, g, vs, n, k => by
    unfold walkL
    split
    · rfl
    · split
      · rw [Nat.add_assoc]
        exact walkL_from xs _ _ _ _ _
      · rfl
theorem walkL_all : ∀ (xs : List Ch) (e : Int) (g : List Int) (vs : List Va) (n : Nat), (walkL e g vs xs n).k = 0 → (walkL e g vs xs n).n = n + xs.length
  | [], _, _, _, _, _ => by simp [walkL]
  | c :: xs, e, g, vs, n, h => by
    have hc := chkN_le vs e g c
    unfold walkL at h ⊢
    split at h
    · rename_i h1
      exact absurd h h1
    · rename_i h1
      rw [if_neg h1]
      split at h
      · rename_i h2
        rw [if_pos h2, walkL_all xs _ _ _ _ h, List.length_cons]
        omega
      · cases h
end Go.Proofs.YtniknhhejlgdfaaGreatDoor
