/- Lemmas that laws of this seat rest on, part 13; each says its own conditions: OBk, N60, Bld, OId, Clv, Gnd, Gnd2, ProofsGenesisW, Cmp, Al20. -/
import Derived.Laws.Tables
import Derived.Deep.DeepAppendWide
import Derived.Test.YtniknhhejlgdfaaGreatDoorBase4
import Derived.Test.YtniknhhejlgdfaaGreatDoorBase5
import Derived.Test.YtniknhhejlgdfaaGreatDoorBase6
import Derived.Test.YtniknhhejlgdfaaGreatDoorBase7
import Derived.Test.YtniknhhejlgdfaaGreatDoorBase8
import Derived.Test.YtniknhhejlgdfaaGreatDoorBase9
import Derived.Test.YtniknhhejlgdfaaGreatDoorBase10
import Derived.Test.YtniknhhejlgdfaaGreatDoorBase11
import Derived.Test.YtniknhhejlgdfaaGreatDoorBase12
/- The document's writer: blocks. -/
namespace Go.Proofs.YtniknhhejlgdfaaGreatDoor
open Go.RowKit

structure QcI (x : Qc) : Prop where
  ep : I64 x.epoch
  rd : I64 x.round
  len : x.votes.length ≤ 1000
  sd : ∀ y ∈ x.votes, SdI y
structure BkI (b : Bk) : Prop where
  ep : I64 b.epoch
  rd : I64 b.round
  qc : QcI b.justify
  plen : b.payload.length ≤ 1000
  tx : ∀ t ∈ b.payload, t.length ≤ 1000000
  nlen : b.next.length ≤ 1000
  pw : ∀ x ∈ b.next, I64 x.2
theorem txS_none (t : List Int) : txS t none = none := by unfold txS; split; rfl; rw [numS_none]; rfl
theorem vaS_none (x : Va) : vaS x none = none := by unfold vaS; rw [fixS_none, numS_none]
theorem OtAt.none_ev {base q : Nat} {r : Option Nat} {w : World} (H : OtAt base w q none r) : w.cell? ⟨q, 1, none⟩ = some (.int .i64 1) := by
  obtain ⟨ev, sv, bs, hb, _, _, _, _, h3⟩ := H.at_
  rcases h3 with ⟨h, _⟩ | ⟨_, rfl⟩
  · cases h
  · exact blk_cell (xs := [sv, .int .i64 1]) hb 1 _ rfl
theorem OtAt.some_ev {base q : Nat} {r : Option Nat} {w : World} {b : List Int} (H : OtAt base w q (some b) r) : ∃ sv, w.heap[q]? = some (.cells #[sv, .int .i64 0] 167 (0, 0)) ∧ OwnO w base 5 sv (u8s b) ∧ sv.ownBlock = r ∧ u8s_ok b ∧ b.length ≤ maxW := by
  obtain ⟨ev, sv, bs, hb, ho, hr, h1, h2, h3⟩ := H.at_
  rcases h3 with ⟨h, rfl⟩ | ⟨h, _⟩
  · cases h; exact ⟨sv, hb, ho, hr, h1, h2⟩
  · cases h

set_option maxHeartbeats 16000000 in
set_option maxRecDepth 100000 in
theorem oblock_any (w0 : World) (q : Nat) (s : WS) (r : Option Nat) (e n e2 n2 : Int) (p bl : List Int) (hp : p.length = 16) (hpo : u8s_ok p) (hbl : bl.length = 16) (hbo : u8s_ok bl) (xs : List Sd) (ps : List (List Int)) (vs : List Va) (A B D : Option Addr) (k c kp cp kn cn : Nat) (hx : Sgs w0 (.slice A k c) xs) (hk : k = xs.length) (hpy : Bss w0 (.slice B kp cp) ps) (hkp : kp = ps.length) (hvs : Vals w0 (.slice D kn cn) vs) (hkn : kn = vs.length) (hg : ∀ x ∈ vs, u8s_ok x.1) (hI : BkI ⟨e, n, p, ⟨e2, n2, bl, xs⟩, ps, vs⟩) (w : World) (H : OtAt w0.heap.size w q s r) (hb : Below w0.heap.size w0 w) (m : Nat) (hlim : Lim s m) (hm : m + 90000000 ≤ maxW) :
    Calls Tryz.prog 88 #[.pointer (some ⟨q, 0, none⟩), .agg (bkC e n p (qcC e2 n2 bl (.slice A k c)) (.slice B kp cp) (.slice D kn cn)).toArray] w fun ret w' => ret = .returned (.tuple #[]) ∧ OStep w0.heap.size q (bkS ⟨e, n, p, ⟨e2, n2, bl, xs⟩, ps, vs⟩ s) r w w' := by
  have b0 : Below w.heap.size w (w.alloc (.cells (bkC e n p (qcC e2 n2 bl (.slice A k c)) (.slice B kp cp) (.slice D kn cn)).toArray 32)) := (Below.refl _ _).alloc (Nat.le_refl _) _
  have k0 : (w.alloc (.cells (bkC e n p (qcC e2 n2 bl (.slice A k c)) (.slice B kp cp) (.slice D kn cn)).toArray 32)).heap[w.heap.size]? = some (.cells (bkC e n p (qcC e2 n2 bl (.slice A k c)) (.slice B kp cp) (.slice D kn cn)).toArray 32 (0, 0)) := heap_alloc_new w _
  have HH := Lib.hid H
  have B0 := Lib.hid b0
  have BB0 := Lib.hid (hb.trans (b0.mono hb.size))
  have K_0 := Lib.hid k0
  have ST0 : Hid (OStep w0.heap.size q s r (w.alloc (.cells (bkC e n p (qcC e2 n2 bl (.slice A k c)) (.slice B kp cp) (.slice D kn cn)).toArray 32)) (w.alloc (.cells (bkC e n p (qcC e2 n2 bl (.slice A k c)) (.slice B kp cp) (.slice D kn cn)).toArray 32))) := Lib.hid (OStep.refl (H.below b0))
  have H0 := Lib.hid (H.below b0)
  have HK := Lib.hid hk
  have HX := Lib.hid hx
  have HL := Lib.hid hlim
  have HM := Lib.hid hm
  have HBL := Lib.hid hbl
  have HBO := Lib.hid hbo
  have HP := Lib.hid hp
  have HPO := Lib.hid hpo
  have HPY := Lib.hid hpy
  have HKP := Lib.hid hkp
  have HVS := Lib.hid hvs
  have HKN := Lib.hid hkn
  have HG := Lib.hid hg
  have HI := Lib.hid hI
  have HTX := Lib.hid hI.tx
  have HPW := Lib.hid hI.pw
  have hkp9 : kp ≤ 1000 := by rw [hkp]; exact hI.plen
  have hkn9 : kn ≤ 1000 := by rw [hkn]; exact hI.nlen
  clear H b0 hb k0 hk hx hlim hm hbl hbo hp hpo hpy hkp hvs hkn hg hI
  go_enter Tryz.func88, Tryz.ntmps88
  obtain ⟨r0, a0, j0⟩ := ST0.out.next
  have A0 := Lib.hid a0
  have J0 := Lib.hid j0
  have BB0 := Lib.hid (BB0.out.trans (ST0.out.below H0.out))
  have c0_0 := blk_cell (xs := (bkC e n p (qcC e2 n2 bl (.slice A k c)) (.slice B kp cp) (.slice D kn cn))) K_0.out 0 _ rfl
  clear a0 j0
  go_wp2_with fail
  refine (onum_any w0.heap.size q s r0 e 4 (by omega) HI.out.ep _ A0.out (HL.out.mono (by have := HM.out; unfold maxW at *; omega))).mono ?_
  rintro _ w1 ⟨rfl, hst1⟩
  have ST1 := Lib.hid (J0.out _ _ hst1)
  clear hst1 c0_0
  obtain ⟨r1, a1, j1⟩ := ST1.out.next
  have A1 := Lib.hid a1
  have J1 := Lib.hid j1
  have BB1 := Lib.hid (BB0.out.trans (ST1.out.below H0.out))
  have K_1 := Lib.hid (ST1.out.keep HH.out K_0.out (Nat.le_refl _))
  have c1_1 := blk_cell (xs := (bkC e n p (qcC e2 n2 bl (.slice A k c)) (.slice B kp cp) (.slice D kn cn))) K_1.out 1 _ rfl
  clear a1 j1
  go_wp2_with fail
  refine (onum_any w0.heap.size q (numS e 4 s) r1 n 6 (by omega) HI.out.rd _ A1.out ((HL.out.num e 4).mono (by have := HM.out; unfold maxW at *; omega))).mono ?_
  rintro _ w2 ⟨rfl, hst2⟩
  have ST2 := Lib.hid (J1.out _ _ hst2)
  clear hst2 c1_1
  obtain ⟨r2, a2, j2⟩ := ST2.out.next
  have A2 := Lib.hid a2
  have J2 := Lib.hid j2
  have BB2 := Lib.hid (BB0.out.trans (ST2.out.below H0.out))
  have K_2 := Lib.hid (ST2.out.keep HH.out K_0.out (Nat.le_refl _))
  have RQ2 := Lib.hid (bk_par K_2.out)
  clear a2 j2
  go_wp2_with (refine wpList_load_g rfl 24 (.tmp 17) rfl w.heap.size 2 rfl (u8s p) _ RQ2.out Tryz.underlying24 rfl (by rw [u8s_len', HP.out]; exact Tryz.size24) ?_)
  refine (odigest_any w0.heap.size q (numS n 6 (numS e 4 s)) r2 p HP.out HPO.out _ A2.out (((HL.out.num e 4).num n 6).mono (by have := HM.out; unfold maxW at *; omega))).mono ?_
  rintro _ w3 ⟨rfl, hst3⟩
  have ST3 := Lib.hid (J2.out _ _ hst3)
  clear hst3 
  obtain ⟨r3, a3, j3⟩ := ST3.out.next
  have A3 := Lib.hid a3
  have J3 := Lib.hid j3
  have BB3 := Lib.hid (BB0.out.trans (ST3.out.below H0.out))
  have K_3 := Lib.hid (ST3.out.keep HH.out K_0.out (Nat.le_refl _))
  have RJ3 := Lib.hid (bk_jus HP.out K_3.out)
  clear a3 j3
  go_wp2_with (refine wpList_load_g rfl 29 (.tmp 21) rfl w.heap.size 18 rfl (qcC e2 n2 bl (.slice A k c)) _ RJ3.out Tryz.underlying29 rfl (by rw [qc_len _ _ _ _ HBL.out]; exact Tryz.size29) ?_)
  refine (oqc_any w0 q (fixS p (numS n 6 (numS e 4 s))) r3 e2 n2 bl HBL.out HBO.out xs A k c HX.out HK.out HI.out.qc.ep HI.out.qc.rd (by rw [HK.out]; exact HI.out.qc.len) HI.out.qc.sd _ A3.out BB3.out _ (Lim.dg _ HP.out _ _ ((HL.out.num e 4).num n 6)) (by have := HM.out; unfold maxW at *; omega)).mono ?_
  rintro _ w4 ⟨rfl, hst4⟩
  have ST4 := Lib.hid (J3.out _ _ hst4)
  clear hst4 
  obtain ⟨r4, a4, j4⟩ := ST4.out.next
  have A4 := Lib.hid a4
  have J4 := Lib.hid j4
  have BB4 := Lib.hid (BB0.out.trans (ST4.out.below H0.out))
  have K_4 := Lib.hid (ST4.out.keep HH.out K_0.out (Nat.le_refl _))
  have c37_4 := bk_pay HP.out (qc_len _ _ _ _ HBL.out) K_4.out
  clear a4 j4
  go_wp2_with fail
  refine (omany_any w0.heap.size q (qcS ⟨e2, n2, bl, xs⟩ (fixS p (numS n 6 (numS e 4 s)))) r4 kp 4 (by omega) _ A4.out ((Lim.qc (q := ⟨e2, n2, bl, xs⟩) HX.out.ok HBL.out (Lim.dg _ HP.out _ _ ((HL.out.num e 4).num n 6))).mono (by have := HM.out; unfold maxW at *; omega))).mono ?_
  rintro _ w5 ⟨rfl, hst5⟩
  have ST5 := Lib.hid (J4.out _ _ hst5)
  clear hst5 c37_4
  have K_5 := Lib.hid (ST5.out.keep HH.out K_0.out (Nat.le_refl _))
  have c37_5 := bk_pay HP.out (qc_len _ _ _ _ HBL.out) K_5.out
  go_wp2_with fail
  clear c37_5 K_5
  obtain ⟨st5, hst5⟩ : ∃ st : Nat → WS, st = fun i => (ps.take i).foldl (fun s x => txS x s) (manyS 4 kp (qcS ⟨e2, n2, bl, xs⟩ (fixS p (numS n 6 (numS e 4 s))))) := ⟨_, rfl⟩
  have hs05 : manyS 4 kp (qcS ⟨e2, n2, bl, xs⟩ (fixS p (numS n 6 (numS e 4 s)))) = st5 0 := by rw [hst5]; rfl
  have hsn5 : (putS 4 txS ps (qcS ⟨e2, n2, bl, xs⟩ (fixS p (numS n 6 (numS e 4 s))))) = st5 kp := by
    rw [hst5]
    dsimp only
    rw [show ps.take kp = ps by rw [HKP.out, List.take_length]]
    exact (oput_eq txS_none 4 ps kp (qcS ⟨e2, n2, bl, xs⟩ (fixS p (numS n 6 (numS e 4 s)))) HKP.out).symm
  have hlm5 : ∀ i, i ≤ kp → Lim (st5 i) ((m + 4 + 6 + 16 + 8231 + 1) + i * 18) := fun i hi => by
    rw [hst5]
    dsimp only
    refine (Lim.fold Lim.tx (ps.take i) _ _ (Lim.many (Lim.qc (q := ⟨e2, n2, bl, xs⟩) HX.out.ok HBL.out (Lim.dg _ HP.out _ _ ((HL.out.num e 4).num n 6))))).mono ?_
    rw [List.length_take, ← HKP.out, Nat.min_eq_left hi]
    exact Nat.le_refl _
  have hss5 : ∀ i (hi : i < ps.length), st5 (i + 1) = txS (ps.getD i []) (st5 i) := fun i hi => by
    rw [hst5]
    dsimp only
    rw [List.take_succ_eq_append_getElem hi, List.foldl_append, List.getD_eq_getElem?_getD, List.getElem?_eq_getElem hi]
    rfl
  have ST5' := Lib.hid (by have := ST5.out; rwa [hs05] at this)
  have HSN5 := Lib.hid hsn5
  have HLM5 := Lib.hid hlm5
  have HSS5 := Lib.hid hss5
  clear hs05 hsn5 hlm5 hss5 hst5
  go_loopw [5, 32] (fun _ ix wr => ∃ (i : Nat), i ≤ kp ∧ ix = .int .i64 i ∧ Hid (OStep w0.heap.size q (st5 i) r (w.alloc (.cells (bkC e n p (qcC e2 n2 bl (.slice A k c)) (.slice B kp cp) (.slice D kn cn)).toArray 32)) wr))
    (fun _ ix _ => kp - (intOf ix).toNat)
  case atStart => exact ⟨0, by omega, rfl, ST5'⟩
  case round =>
    clear ST5'
    obtain ⟨i, hi, rfl, hstp⟩ := hrel
    have BR := Lib.hid (BB0.out.trans (hstp.out.below H0.out))
    by_cases hlt : i < kp
    · have hil : (i : Int) < kp := by omega
      have hix : i < ps.length := by rw [← HKP.out]; exact hlt
      obtain ⟨r1, hw1, hk1⟩ := hstp.out.next
      have HW1 := Lib.hid hw1
      have HK1 := Lib.hid hk1
      have HSI := Lib.hid (HSS5.out i hix)
      have HLI := Lib.hid (HLM5.out i hi)
      clear hw1 hk1

      obtain ⟨bb, oo, B1, m1, d1, rfl, hrg, hbs⟩ := HPY.out.el i hlt
      have htl := HTX.out (ps.getD i []) (by rw [List.getD_eq_getElem?_getD, List.getElem?_eq_getElem hix]; exact List.getElem_mem _)
      obtain ⟨X, hX⟩ : ∃ X, X = ps.getD i [] := ⟨_, rfl⟩
      rw [← hX] at hbs HSI htl
      have HBS := Lib.hid hbs
      have hm1 := hbs.len
      have HM1 := Lib.hid hm1
      have hrg2 := cell_on BR.out hrg
      have hm9 : m1 ≤ 1000000 := by rw [hm1]; exact htl
      have FIN := Lib.hid (fun w' (h : OStep w0.heap.size q (txS X (st5 i)) r1 wr w') => (show OStep w0.heap.size q (st5 (i + 1)) r _ w' by rw [HSI.out]; exact HK1.out _ _ h))
      clear hrg hX hbs htl hm1
      have hq0 : ∃ v, wr.cell? ⟨q, 1, none⟩ = some v := by obtain ⟨ev, sv, bs, hb, _⟩ := HW1.out.at_; exact ⟨ev, blk_cell (xs := [sv, ev]) hb 1 _ rfl⟩
      clear hq0
      cases hsi : st5 i with
      | none =>
        rw [hsi] at HW1 HLI FIN
        rw [txS_none] at FIN
        have c1 := HW1.out.none_ev
        clear hsi
        go_wp2_with fail
        refine (onum_any w0.heap.size q none r1 m1 2 (by omega) (by omega) wr HW1.out (fun b hb => by cases hb)).mono ?_
        rintro _ w2 ⟨rfl, hst2⟩
        rw [numS_none] at hst2
        obtain ⟨r2, a2, _⟩ := hst2.next
        have c2 := a2.none_ev
        have HF := Lib.hid (FIN.out _ hst2)
        clear hst2 a2 c1
        go_wp2_with fail
        go_roundw
        case rel => exact ⟨i + 1, by omega, by go_num, HF⟩
        case measure => simp [intOf]; omega
      | some bs =>
        rw [hsi] at HW1 HLI FIN
        clear hsi
        obtain ⟨sv, hb, ho, hr, h1, h2⟩ := HW1.out.some_ev
        have c1 := blk_cell (xs := [sv, .int .i64 0]) hb 1 _ rfl
        have f1 := blk_free hb 1
        have HFL := Lib.hid HW1.out.fail
        clear hb ho hr h1 h2
        by_cases h16 : 16 < m1
        · have h16' : (16 : Int) < m1 := by omega
          have ht : txS X (some bs) = none := by unfold txS; rw [if_pos (by rw [← HM1.out]; exact h16)]
          rw [ht] at FIN
          obtain ⟨r2, a2, j2⟩ := HFL.out.next
          have A2 := Lib.hid a2
          have J2 := Lib.hid j2
          clear ht a2 j2
          go_wp2_with fail
          refine (onum_any w0.heap.size q none r2 m1 2 (by omega) (by omega) _ A2.out (fun b hb => by cases hb)).mono ?_
          rintro _ w3 ⟨rfl, hst3⟩
          rw [numS_none] at hst3
          obtain ⟨r3, a3, _⟩ := hst3.next
          have c3 := a3.none_ev
          have HF := Lib.hid (FIN.out _ (J2.out _ _ hst3))
          clear hst3 a3 c1 f1
          go_wp2_with fail
          go_roundw
          case rel => exact ⟨i + 1, by omega, by go_num, HF⟩
          case measure => simp [intOf]; omega
        · have h16' : ¬ (16 : Int) < m1 := by omega
          have hnum : numS m1 2 (some bs) = some (bs ++ beN m1 2) := by unfold numS; rw [if_pos (by omega)]; rfl
          have ht : txS X (some bs) = some (bs ++ beN m1 2 ++ X) := by unfold txS; rw [if_neg (by rw [← HM1.out]; exact h16), ← HM1.out, hnum]; rfl
          rw [ht] at FIN
          have HNU := Lib.hid hnum
          have hbl := HLI.out bs rfl
          have HBLN := Lib.hid hbl
          clear ht hnum hbl f1
          go_wp2_with fail
          refine (onum_any w0.heap.size q (some bs) r1 m1 2 (by omega) (by omega) wr HW1.out (HLI.out.mono (by have := HM.out; unfold maxW at *; omega))).mono ?_
          rintro _ w2 ⟨rfl, hst2⟩
          rw [HNU.out] at hst2
          obtain ⟨r2, a2, j2⟩ := hst2.next
          have BR2 := Lib.hid (BR.out.trans (hst2.below HW1.out))
          obtain ⟨sv2, hb2, ho2, hr2, h12, h22⟩ := a2.some_ev
          have c2 := blk_cell (xs := [sv2, .int .i64 0]) hb2 1 _ rfl
          have c20 := blk_cell (xs := [sv2, .int .i64 0]) hb2 0 _ rfl
          have A2 := Lib.hid a2
          have J2 := Lib.hid j2
          have HB2 := Lib.hid hb2
          have HO2 := Lib.hid ho2
          have HR2 := Lib.hid hr2
          have HU2 := Lib.hid h12
          have HXS := Lib.hid (HBS.out.below BR2.out)
          have hq2 : q < w2.heap.size := a2.lt
          have hbase2 : w0.heap.size ≤ w2.heap.size := BR2.out.size
          have hxl : X.length ≤ 16 := by rw [← HM1.out]; omega
          have HXL := Lib.hid hxl
          have HLEN := Lib.hid (show (bs ++ beN m1 2 ++ X).length ≤ maxW by have := HBLN.out; have := HM.out; simp only [List.length_append, beN_len]; unfold maxW at *; omega)
          clear hst2 a2 j2 hb2 ho2 hr2 h12 h22 c1 hxl
          go_wp2_with (at_builtin; refine appO (w0 := w2) w0.heap.size rfl (.tmp 62) (.tmp 63) 137 137 5 (.int .u8 0) 1 rfl Tryz.underlying137 Tryz.info5 rfl (by omega) sv2 (u8s (bs ++ beN m1 2)) rfl _ m1 (u8s X) rfl (by rw [HM1.out]; have := HXS.out; rw [HM1.out] at this; exact this.src) HO2.out (Below.refl _ _) hbase2 (by have := HLEN.out; have := HM1.out; rw [u8s_len', Nat.mul_one]; simp only [List.length_append, beN_len] at *; unfold maxW at *; omega) ?_; intro v1 w3 ap; obtain ⟨A3, c3, rfl, hc3⟩ := ap.own.len; have d0 := (ap.grown.block q hq2 (fun e => A2.out.ne (HR2.out.symm.trans e.symm))).trans HB2.out; have d1 := blk_cell (xs := [sv2, .int .i64 0]) d0 0 _ rfl; have f1 := blk_free d0 0; have D0 := Lib.hid d0; have AP := Lib.hid ap; clear ap d0)
          have HFN : Hid (OStep w0.heap.size q (some (bs ++ beN m1 2 ++ X)) r2 w2 (w3.setCell ⟨q, 0, none⟩ (.slice A3 (u8s (bs ++ beN m1 2) ++ u8s X).length c3))) := Lib.hid (by
            have hown := AP.out.own
            rw [show u8s (bs ++ beN m1 2) ++ u8s X = u8s (bs ++ beN m1 2 ++ X) by simp [u8s]] at hown
            have hpl := AP.out.place
            refine oapp_end HB2.out A2.out ⟨AP.out.grown.os, AP.out.grown.tape, AP.out.grown.output, AP.out.grown.size, fun t ht hs => AP.out.grown.block t ht (fun e => hs (by rw [← HR2.out]; exact e))⟩ (by rw [show u8s (bs ++ beN m1 2) ++ u8s X = u8s (bs ++ beN m1 2 ++ X) by simp [u8s]]; exact hown) ?_ (HU2.out.append HXS.out.ok) HLEN.out
            rcases hpl with h | h
            · exact .inl (by rw [← HR2.out]; exact h)
            · exact .inr ⟨_, h, Nat.le_refl _⟩)
          rw [List.length_append] at HFN
          have HF := Lib.hid (FIN.out _ (J2.out _ _ HFN.out))
          go_roundw
          case rel => exact ⟨i + 1, by omega, by go_num, HF⟩
          case measure => simp [intOf]; omega
    · have hii : i = kp := by omega
      rw [hii] at hstp ⊢
      clear hii hi hlt
      have ST6 : Hid (OStep w0.heap.size q ((putS 4 txS ps (qcS ⟨e2, n2, bl, xs⟩ (fixS p (numS n 6 (numS e 4 s)))))) r (w.alloc (.cells (bkC e n p (qcC e2 n2 bl (.slice A k c)) (.slice B kp cp) (.slice D kn cn)).toArray 32)) wr) := Lib.hid (by rw [HSN5.out]; exact hstp.out)
      obtain ⟨w6, hww⟩ : ∃ w', w' = wr := ⟨_, rfl⟩
      have hww := hww.symm
      subst hww
      clear hstp BR HSN5 HLM5 HSS5
      obtain ⟨r6, a6, j6⟩ := ST6.out.next
      have A6 := Lib.hid a6
      have J6 := Lib.hid j6
      have BB6 := Lib.hid (BB0.out.trans (ST6.out.below H0.out))
      have K_6 := Lib.hid (ST6.out.keep HH.out K_0.out (Nat.le_refl _))
      have c38_6 := bk_nxt HP.out (qc_len _ _ _ _ HBL.out) K_6.out
      clear a6 j6
      go_wp2_with fail
      refine (omany_any w0.heap.size q (putS 4 txS ps (qcS ⟨e2, n2, bl, xs⟩ (fixS p (numS n 6 (numS e 4 s))))) r6 kn 7 (by omega) _ A6.out ((Lim.pay (ps := ps) (Lim.qc (q := ⟨e2, n2, bl, xs⟩) HX.out.ok HBL.out (Lim.dg _ HP.out _ _ ((HL.out.num e 4).num n 6)))).mono (by have := HM.out; unfold maxW at *; omega))).mono ?_
      rintro _ w7 ⟨rfl, hst7⟩
      have ST7 := Lib.hid (J6.out _ _ hst7)
      clear hst7 c38_6
      have K_7 := Lib.hid (ST7.out.keep HH.out K_0.out (Nat.le_refl _))
      have c38_7 := bk_nxt HP.out (qc_len _ _ _ _ HBL.out) K_7.out
      go_wp2_with fail
      clear c38_7 K_7
      obtain ⟨st7, hst7⟩ : ∃ st : Nat → WS, st = fun i => (vs.take i).foldl (fun s x => vaS x s) (manyS 7 kn (putS 4 txS ps (qcS ⟨e2, n2, bl, xs⟩ (fixS p (numS n 6 (numS e 4 s)))))) := ⟨_, rfl⟩
      have hs07 : manyS 7 kn (putS 4 txS ps (qcS ⟨e2, n2, bl, xs⟩ (fixS p (numS n 6 (numS e 4 s))))) = st7 0 := by rw [hst7]; rfl
      have hsn7 : bkS ⟨e, n, p, ⟨e2, n2, bl, xs⟩, ps, vs⟩ s = st7 kn := by
        rw [hst7]
        dsimp only
        rw [show vs.take kn = vs by rw [HKN.out, List.take_length]]
        exact (oput_eq vaS_none 7 vs kn (putS 4 txS ps (qcS ⟨e2, n2, bl, xs⟩ (fixS p (numS n 6 (numS e 4 s))))) HKN.out).symm
      have hlm7 : ∀ i, i ≤ kn → Lim (st7 i) ((m + 4 + 6 + 16 + 8231 + 73 + 1) + i * 22) := fun i hi => by
        rw [hst7]
        dsimp only
        refine (Lim.foldP (c := 22) Lim.va (vs.take i) (fun x hx => HVS.out.good x (List.mem_of_mem_take hx)) _ _ (Lim.many (Lim.pay (ps := ps) (Lim.qc (q := ⟨e2, n2, bl, xs⟩) HX.out.ok HBL.out (Lim.dg _ HP.out _ _ ((HL.out.num e 4).num n 6)))))).mono ?_
        rw [List.length_take, ← HKN.out, Nat.min_eq_left hi]
        exact Nat.le_refl _
      have hss7 : ∀ i (hi : i < vs.length), st7 (i + 1) = vaS (vs.getD i ([], 0)) (st7 i) := fun i hi => by
        rw [hst7]
        dsimp only
        rw [List.take_succ_eq_append_getElem hi, List.foldl_append, List.getD_eq_getElem?_getD, List.getElem?_eq_getElem hi]
        rfl
      have ST7' := Lib.hid (by have := ST7.out; rwa [hs07] at this)
      have HSN7 := Lib.hid hsn7
      have HLM7 := Lib.hid hlm7
      have HSS7 := Lib.hid hss7
      clear hs07 hsn7 hlm7 hss7 hst7
      go_loopw [7, 76] (fun _ ix wr => ∃ (i : Nat), i ≤ kn ∧ ix = .int .i64 i ∧ Hid (OStep w0.heap.size q (st7 i) r (w.alloc (.cells (bkC e n p (qcC e2 n2 bl (.slice A k c)) (.slice B kp cp) (.slice D kn cn)).toArray 32)) wr))
        (fun _ ix _ => kn - (intOf ix).toNat)
      case atStart => exact ⟨0, by omega, rfl, ST7'⟩
      case round =>
        clear ST7'
        obtain ⟨i, hi, rfl, hstp⟩ := hrel
        have BR := Lib.hid (BB0.out.trans (hstp.out.below H0.out))
        by_cases hlt : i < kn
        · have hil : (i : Int) < kn := by omega
          have hix : i < vs.length := by rw [← HKN.out]; exact hlt
          obtain ⟨r1, hw1, hk1⟩ := hstp.out.next
          have HW1 := Lib.hid hw1
          have HK1 := Lib.hid hk1
          have HSI := Lib.hid (HSS7.out i hix)
          have HLI := Lib.hid (HLM7.out i hi)
          clear hw1 hk1
          obtain ⟨bb, oo, rfl, _, hrg⟩ := HVS.out.el i hlt
          have hl16 := HVS.out.at i hix
          have hmem : vs.getD i ([], 0) ∈ vs := by rw [List.getD_eq_getElem?_getD, List.getElem?_eq_getElem hix]; exact List.getElem_mem _
          have hok := HG.out _ hmem
          have hpw := HPW.out _ hmem
          obtain ⟨X, hX⟩ : ∃ X, X = vs.getD i ([], 0) := ⟨_, rfl⟩
          rw [← hX] at hrg hl16 hok hpw HSI
          have RG := Lib.hid (range_below hrg BR.out)
          have HCL := Lib.hid (vcells_len X hl16)
          have HOK := Lib.hid hok
          have HL16 := Lib.hid hl16
          have HPX := Lib.hid hpw
          clear hrg hX hok hl16 hmem hpw

          have hh : ∀ Z : Array Value, Z.size = 17 → Has (wr.alloc (.cells Z 90)) wr.heap.size 90 (vcells X).length := fun Z hZ => has_new wr _ _ _ (by rw [hZ]; exact HCL.out.symm)
          have HV := Lib.hid hh
          clear hh
          go_wp2_with (first | (refine wpList_load_g rfl 90 (.tmp 78) rfl bb (oo + i * 17) rfl (vcells X) _ RG.out Tryz.underlying90 rfl (by rw [HCL.out]; exact Tryz.size90) ?_) | (refine wpList_store_row rfl 90 (.tmp 7) (.tmp 79) rfl wr.heap.size rfl (vcells X) rfl 90 (HV.out _ rfl) (by rw [HCL.out]; exact Tryz.size90) (one_vcells X) ?_; intro w2 hp2; have BL := Lib.hid (show Below wr.heap.size wr w2 from hp2.below ((Below.refl _ _).alloc (Nat.le_refl _) _) (Nat.le_refl _)); have KV := Lib.hid hp2.blk; have RG2 := Lib.hid (vcells_key (blk_range hp2.blk)); clear hp2) | (refine wpList_load_g rfl 24 (.tmp 81) rfl wr.heap.size 0 rfl (u8s X.1) _ RG2.out Tryz.underlying24 rfl (by rw [u8s_len', HL16.out]; exact Tryz.size24) ?_))
          refine (odigest_any w0.heap.size q (st7 i) r1 X.1 HL16.out HOK.out w2 (HW1.out.below BL.out) (HLI.out.mono (by have := HM.out; unfold maxW at *; omega))).mono ?_
          rintro _ w3 ⟨rfl, hst3⟩
          obtain ⟨r3, a3, j3⟩ := hst3.next
          have A3 := Lib.hid a3
          have J3 := Lib.hid j3
          have KV3 := Lib.hid (hst3.keep HW1.out KV.out (Nat.le_refl _))
          have cpw := vcells_pow HL16.out (blk_range KV3.out)
          clear hst3 a3 j3
          go_wp2_with fail
          refine (onum_any w0.heap.size q (fixS X.1 (st7 i)) r3 X.2 6 (by omega) HPX.out w3 A3.out ((Lim.dg _ HL16.out _ _ HLI.out).mono (by have := HM.out; unfold maxW at *; omega))).mono ?_
          rintro _ w4 ⟨rfl, hst4⟩
          have HST := Lib.hid (J3.out _ _ hst4)
          clear hst4 cpw
          go_wp2_with fail
          go_roundw
          case rel => exact ⟨i + 1, by omega, by go_num, Lib.hid (by rw [HSI.out]; exact HK1.out _ _ (OStep.then_ (Only.of_below BL.out) (.inl rfl) HST.out))⟩
          case measure => simp [intOf]; omega
        · have hii : i = kn := by omega
          rw [hii] at hstp ⊢
          clear hii hi hlt
          have ST8 : Hid (OStep w0.heap.size q (bkS ⟨e, n, p, ⟨e2, n2, bl, xs⟩, ps, vs⟩ s) r (w.alloc (.cells (bkC e n p (qcC e2 n2 bl (.slice A k c)) (.slice B kp cp) (.slice D kn cn)).toArray 32)) wr) := Lib.hid (by rw [HSN7.out]; exact hstp.out)
          obtain ⟨w8, hww⟩ : ∃ w', w' = wr := ⟨_, rfl⟩
          have hww := hww.symm
          subst hww
          clear hstp BR HSN7 HLM7 HSS7
          go_wp2_with fail
          go_end0
          exact ⟨rfl, OStep.then_ (Only.of_below B0.out) (.inl rfl) ST8.out⟩
end Go.Proofs.YtniknhhejlgdfaaGreatDoor
/- codec.number: a number's eight bytes. -/
namespace Go.Proofs.YtniknhhejlgdfaaGreatDoor
open Go.RowKit

theorem u8s_app1 (xs : List Int) (v : Int) : u8s (xs ++ [v]) = u8s xs ++ [Value.int .u8 v] := by simp [u8s]
set_option maxHeartbeats 8000000 in
set_option maxRecDepth 100000 in
theorem num60_any (n : Int) (hI : I64 n) (w : World) :
    Calls Tryz.prog 75 #[.int .i64 n] w fun e w' => ∃ v, e = .returned v ∧ Bs w' v (beN n 8) ∧ Below w.heap.size w w' := by
  obtain ⟨h0, h1⟩ := hI
  go_enter Tryz.func75, Tryz.ntmps75
  go_wp2
  go_loopw [3, 4] (fun t i wr => ∃ (j c : Nat) (A : Option Addr) (x : Int), j ≤ 8 ∧ t = Value.slice A j c ∧ i = .int .i64 x ∧ x = 56 - 8 * (j : Int) ∧ Hid (OwnO wr w.heap.size 5 t (u8s ((beN n 8).take j))) ∧ Hid (Below w.heap.size w wr))
    (fun t _ _ => 8 - vlen t)
  case atStart => exact ⟨0, 0, none, 56, by omega, rfl, rfl, by omega, Lib.hid OwnO.nil, Lib.hid (Below.refl _ _)⟩
  case round =>
    obtain ⟨j, c5, A5, x, hj, rfl, rfl, hx, hown, hbel⟩ := hrel
    by_cases hlt : j < 8
    · have hjc : j = 0 ∨ j = 1 ∨ j = 2 ∨ j = 3 ∨ j = 4 ∨ j = 5 ∨ j = 6 ∨ j = 7 := by omega
      have hrl : ((beN n 8).take j).length = j := by rw [List.length_take, beN_len]; omega
      have HRZ := Lib.hid hrl
      clear hrl
      subst hx
      rcases hjc with rfl | rfl | rfl | rfl | rfl | rfl | rfl | rfl
      · go_wp2_with (at_builtin; refine appO (w0 := w) w.heap.size rfl (.tmp 9) (.tmp 14) 137 137 5 (.int .u8 0) 1 rfl Tryz.underlying137 Tryz.info5 rfl (by omega) _ _ rfl _ 1 [.int .u8 _] rfl (src_new wr 5 [.int .u8 _] 1 rfl Tryz.underlying137 (by simp [Value.oneCell'])) (hown.out.below ((Below.refl _ _).alloc (Nat.le_refl _) _)) (hbel.out.alloc hbel.out.size _) (by have := hbel.out.size; simp; omega) (by rw [u8s_len', HRZ.out]; omega) ?_; intro v5 w5 ap5; obtain ⟨A6, c6, rfl, O6, B6⟩ := ap5.byte HRZ.out; clear ap5)
        go_roundw
        case rel => exact ⟨1, c6, A6, _, by omega, rfl, rfl, by omega, Lib.hid (by have := O6.out; rw [u8s_app1, beN_take n 8 0 _ (by omega) (by simp only [Nat.reduceSub, Int.reducePow] <;> omega)] at this; exact this), B6⟩
        case measure => simp only [vlen]; omega
      · go_wp2_with (at_builtin; refine appO (w0 := w) w.heap.size rfl (.tmp 9) (.tmp 14) 137 137 5 (.int .u8 0) 1 rfl Tryz.underlying137 Tryz.info5 rfl (by omega) _ _ rfl _ 1 [.int .u8 _] rfl (src_new wr 5 [.int .u8 _] 1 rfl Tryz.underlying137 (by simp [Value.oneCell'])) (hown.out.below ((Below.refl _ _).alloc (Nat.le_refl _) _)) (hbel.out.alloc hbel.out.size _) (by have := hbel.out.size; simp; omega) (by rw [u8s_len', HRZ.out]; omega) ?_; intro v5 w5 ap5; obtain ⟨A6, c6, rfl, O6, B6⟩ := ap5.byte HRZ.out; clear ap5)
        go_roundw
        case rel => exact ⟨2, c6, A6, _, by omega, rfl, rfl, by omega, Lib.hid (by have := O6.out; rw [u8s_app1, beN_take n 8 1 _ (by omega) (by simp only [Nat.reduceSub, Int.reducePow] <;> omega)] at this; exact this), B6⟩
        case measure => simp only [vlen]; omega
      · go_wp2_with (at_builtin; refine appO (w0 := w) w.heap.size rfl (.tmp 9) (.tmp 14) 137 137 5 (.int .u8 0) 1 rfl Tryz.underlying137 Tryz.info5 rfl (by omega) _ _ rfl _ 1 [.int .u8 _] rfl (src_new wr 5 [.int .u8 _] 1 rfl Tryz.underlying137 (by simp [Value.oneCell'])) (hown.out.below ((Below.refl _ _).alloc (Nat.le_refl _) _)) (hbel.out.alloc hbel.out.size _) (by have := hbel.out.size; simp; omega) (by rw [u8s_len', HRZ.out]; omega) ?_; intro v5 w5 ap5; obtain ⟨A6, c6, rfl, O6, B6⟩ := ap5.byte HRZ.out; clear ap5)
        go_roundw
        case rel => exact ⟨3, c6, A6, _, by omega, rfl, rfl, by omega, Lib.hid (by have := O6.out; rw [u8s_app1, beN_take n 8 2 _ (by omega) (by simp only [Nat.reduceSub, Int.reducePow] <;> omega)] at this; exact this), B6⟩
        case measure => simp only [vlen]; omega
      · go_wp2_with (at_builtin; refine appO (w0 := w) w.heap.size rfl (.tmp 9) (.tmp 14) 137 137 5 (.int .u8 0) 1 rfl Tryz.underlying137 Tryz.info5 rfl (by omega) _ _ rfl _ 1 [.int .u8 _] rfl (src_new wr 5 [.int .u8 _] 1 rfl Tryz.underlying137 (by simp [Value.oneCell'])) (hown.out.below ((Below.refl _ _).alloc (Nat.le_refl _) _)) (hbel.out.alloc hbel.out.size _) (by have := hbel.out.size; simp; omega) (by rw [u8s_len', HRZ.out]; omega) ?_; intro v5 w5 ap5; obtain ⟨A6, c6, rfl, O6, B6⟩ := ap5.byte HRZ.out; clear ap5)
        go_roundw
        case rel => exact ⟨4, c6, A6, _, by omega, rfl, rfl, by omega, Lib.hid (by have := O6.out; rw [u8s_app1, beN_take n 8 3 _ (by omega) (by simp only [Nat.reduceSub, Int.reducePow] <;> omega)] at this; exact this), B6⟩
        case measure => simp only [vlen]; omega
      · go_wp2_with (at_builtin; refine appO (w0 := w) w.heap.size rfl (.tmp 9) (.tmp 14) 137 137 5 (.int .u8 0) 1 rfl Tryz.underlying137 Tryz.info5 rfl (by omega) _ _ rfl _ 1 [.int .u8 _] rfl (src_new wr 5 [.int .u8 _] 1 rfl Tryz.underlying137 (by simp [Value.oneCell'])) (hown.out.below ((Below.refl _ _).alloc (Nat.le_refl _) _)) (hbel.out.alloc hbel.out.size _) (by have := hbel.out.size; simp; omega) (by rw [u8s_len', HRZ.out]; omega) ?_; intro v5 w5 ap5; obtain ⟨A6, c6, rfl, O6, B6⟩ := ap5.byte HRZ.out; clear ap5)
        go_roundw
        case rel => exact ⟨5, c6, A6, _, by omega, rfl, rfl, by omega, Lib.hid (by have := O6.out; rw [u8s_app1, beN_take n 8 4 _ (by omega) (by simp only [Nat.reduceSub, Int.reducePow] <;> omega)] at this; exact this), B6⟩
        case measure => simp only [vlen]; omega
      · go_wp2_with (at_builtin; refine appO (w0 := w) w.heap.size rfl (.tmp 9) (.tmp 14) 137 137 5 (.int .u8 0) 1 rfl Tryz.underlying137 Tryz.info5 rfl (by omega) _ _ rfl _ 1 [.int .u8 _] rfl (src_new wr 5 [.int .u8 _] 1 rfl Tryz.underlying137 (by simp [Value.oneCell'])) (hown.out.below ((Below.refl _ _).alloc (Nat.le_refl _) _)) (hbel.out.alloc hbel.out.size _) (by have := hbel.out.size; simp; omega) (by rw [u8s_len', HRZ.out]; omega) ?_; intro v5 w5 ap5; obtain ⟨A6, c6, rfl, O6, B6⟩ := ap5.byte HRZ.out; clear ap5)
        go_roundw
        case rel => exact ⟨6, c6, A6, _, by omega, rfl, rfl, by omega, Lib.hid (by have := O6.out; rw [u8s_app1, beN_take n 8 5 _ (by omega) (by simp only [Nat.reduceSub, Int.reducePow] <;> omega)] at this; exact this), B6⟩
        case measure => simp only [vlen]; omega
      · go_wp2_with (at_builtin; refine appO (w0 := w) w.heap.size rfl (.tmp 9) (.tmp 14) 137 137 5 (.int .u8 0) 1 rfl Tryz.underlying137 Tryz.info5 rfl (by omega) _ _ rfl _ 1 [.int .u8 _] rfl (src_new wr 5 [.int .u8 _] 1 rfl Tryz.underlying137 (by simp [Value.oneCell'])) (hown.out.below ((Below.refl _ _).alloc (Nat.le_refl _) _)) (hbel.out.alloc hbel.out.size _) (by have := hbel.out.size; simp; omega) (by rw [u8s_len', HRZ.out]; omega) ?_; intro v5 w5 ap5; obtain ⟨A6, c6, rfl, O6, B6⟩ := ap5.byte HRZ.out; clear ap5)
        go_roundw
        case rel => exact ⟨7, c6, A6, _, by omega, rfl, rfl, by omega, Lib.hid (by have := O6.out; rw [u8s_app1, beN_take n 8 6 _ (by omega) (by simp only [Nat.reduceSub, Int.reducePow] <;> omega)] at this; exact this), B6⟩
        case measure => simp only [vlen]; omega
      · go_wp2_with (at_builtin; refine appO (w0 := w) w.heap.size rfl (.tmp 9) (.tmp 14) 137 137 5 (.int .u8 0) 1 rfl Tryz.underlying137 Tryz.info5 rfl (by omega) _ _ rfl _ 1 [.int .u8 _] rfl (src_new wr 5 [.int .u8 _] 1 rfl Tryz.underlying137 (by simp [Value.oneCell'])) (hown.out.below ((Below.refl _ _).alloc (Nat.le_refl _) _)) (hbel.out.alloc hbel.out.size _) (by have := hbel.out.size; simp; omega) (by rw [u8s_len', HRZ.out]; omega) ?_; intro v5 w5 ap5; obtain ⟨A6, c6, rfl, O6, B6⟩ := ap5.byte HRZ.out; clear ap5)
        go_roundw
        case rel => exact ⟨8, c6, A6, _, by omega, rfl, rfl, by omega, Lib.hid (by have := O6.out; rw [u8s_app1, beN_take n 8 7 _ (by omega) (by simp only [Nat.reduceSub, Int.reducePow] <;> omega)] at this; exact this), B6⟩
        case measure => simp only [vlen]; omega
    · obtain rfl : j = 8 := by omega
      have hxn : x < 0 := by omega
      have hb := hown.out
      rw [List.take_of_length_le (by rw [beN_len]; exact Nat.le_refl _)] at hb
      have HB := Lib.hid (Bs.of_own hb (beN_ok n 8))
      clear hb
      go_wp2_with fail
      go_ret
      exact ⟨_, rfl, HB.out, hbel.out⟩
end Go.Proofs.YtniknhhejlgdfaaGreatDoor
/- An aggregate is built of parts that are known; the plain step and the one within a round. -/
namespace Go.Proofs.YtniknhhejlgdfaaGreatDoor
open Go.RowKit

section
variable {P : Program} {ops : Array Oper} {rest : List Oper} {o : Oper} {a : Act} {w : World} {Q : Exit → Act → World → Prop}
theorem wp_bld {K : Act → World → Prop} (t : TypeId) (parts : Array (Nat × Operand)) (ho : o.op = .build t parts) (ps : Array (Nat × Value)) (he : (parts.map fun (i, x) => (i, a.eval x)) = ps) (v : Value)
    (hr : (Instr.build t ps).run P w = .ok v w) (h : K (a.put o.dst v) w) : o.wp P a w K Q := by
  unfold Oper.wp execOp
  simp only [ho, Sem.run_bind, he, hr, Result.andThen_ok]
  exact h
theorem wpList_bld (hw : Region.wanted o (yielded ops a.tmps) = true) (t : TypeId) (parts : Array (Nat × Operand)) (ho : o.op = .build t parts) (ps : Array (Nat × Value)) (he : (parts.map fun (i, x) => (i, a.eval x)) = ps) (v : Value)
    (hr : (Instr.build t ps).run P w = .ok v w) (h : wpList P ops Q rest (a.put o.dst v) w) : wpList P ops Q (o :: rest) a w := by
  refine wpList_step fun K hK => ?_
  rw [if_pos hw]
  exact wp_bld t parts ho ps he v hr (hK _ _ h)
theorem wpListIn_bld {n : Nat} {F : Fence} (hF : ∃ ro, F = AtRound ro) (hw : Region.wanted o (yielded ops a.tmps) = true) (t : TypeId) (parts : Array (Nat × Operand)) (ho : o.op = .build t parts) (ps : Array (Nat × Value)) (he : (parts.map fun (i, x) => (i, a.eval x)) = ps) (v : Value)
    (hr : (Instr.build t ps).run P w = .ok v w) (h : wpListIn F n P ops Q rest (a.put o.dst v) w) : wpListIn F n P ops Q (o :: rest) a w := by
  obtain ⟨ro, rfl⟩ := hF
  exact wpListIn_op ro hw (fun c e => by rw [ho] at e; cases e) fun _ hK => wp_bld t parts ho ps he v hr (hK _ _ h)
end
theorem len16 {xs : List Int} (h : xs.length = 16) : ∃ a b c d e f g i j k l m n o p q, xs = [a, b, c, d, e, f, g, i, j, k, l, m, n, o, p, q] := by
  match xs, h with
  | [a, b, c, d, e, f, g, i, j, k, l, m, n, o, p, q], _ => exact ⟨_, _, _, _, _, _, _, _, _, _, _, _, _, _, _, _, rfl⟩
set_option maxRecDepth 100000 in
theorem build27 (e : Int) (A : Option Addr) (n c : Nat) (gen : List Int) (hg : gen.length = 16) (W : World) : (Instr.build 26 #[(0, .int .i64 e), (1, .slice A n c), (2, .agg (u8s gen).toArray)]).run Tryz.prog W = .ok (.agg (gndC e (.slice A n c) gen).toArray) W := by
  obtain ⟨_, _, _, _, _, _, _, _, _, _, _, _, _, _, _, _, rfl⟩ := len16 hg
  exact run_build W 26 _ _ (by kernel_rfl)
end Go.Proofs.YtniknhhejlgdfaaGreatDoor
/- The document's bytes of a block and its id. -/
namespace Go.Proofs.YtniknhhejlgdfaaGreatDoor
open Go.RowKit

/-- What the document's ID answers as its error. -/
def idN (b : Bk) : Int := match encB b with
  | some _ => 0
  | none => 1
theorem encB_le {w : World} {cs : List Value} {b : Bk} (h : BkAt w cs b) : ∀ bs, encB b = some bs → bs.length ≤ 10000 := h.lim
theorem OtAt.new (base : Nat) (w : World) (h : base ≤ w.heap.size) : OtAt base (w.alloc (.cells #[.slice none 0 0, .int .i64 0] 167)) w.heap.size (some []) none :=
  ⟨h, ⟨.int .i64 0, .slice none 0 0, [], heap_alloc_new w _, OwnO.nil, rfl, (fun b hb => by cases hb), (by simp), .inl ⟨rfl, rfl⟩⟩, by simp⟩
theorem oblock_at (w0 : World) (cs : List Value) (b : Bk) (hB : BkAt w0 cs b) (hI : BkI b) (q : Nat) (r : Option Nat) (w : World) (H : OtAt w0.heap.size w q (some []) r) (hb : Below w0.heap.size w0 w) :
    Calls Tryz.prog 88 #[.pointer (some ⟨q, 0, none⟩), .agg cs.toArray] w fun ret w' => ret = .returned (.tuple #[]) ∧ OStep w0.heap.size q (encB b) r w w' := by
  obtain ⟨e, n, p, ⟨e2, n2, bl, xs⟩, ps, vs⟩ := b
  obtain ⟨⟨qs, A, c, B, d, rfl, hq, hp, hv⟩, hpar, hkeys⟩ := hB
  obtain ⟨⟨A', c', rfl, hs⟩, hblk⟩ := hq
  have hlim : Lim (some []) 0 := fun b hb => by cases hb; simp
  have hm : 0 + 90000000 ≤ maxW := by unfold maxW; omega
  exact oblock_any w0 q (some []) r e n e2 n2 p bl hpar.1 hpar.2 hblk.1 hblk.2 xs ps vs A' A B xs.length c' ps.length c vs.length d hs rfl hp rfl hv rfl hkeys hI w H hb 0 hlim hm
theorem BkAt.len {w : World} {cs : List Value} {b : Bk} (hB : BkAt w cs b) : cs.length = 39 := by
  obtain ⟨⟨qs, A, c, B, d, rfl, hq, _⟩, hpar, _⟩ := hB
  obtain ⟨⟨A', c', rfl, _⟩, hblk⟩ := hq
  exact bk_len _ _ _ _ _ _ hpar.1 (qc_len _ _ _ _ hblk.1)
set_option maxHeartbeats 4000000 in
set_option maxRecDepth 100000 in
theorem obytes_any (w : World) (cs : List Value) (b : Bk) (hB : BkAt w cs b) (hI : BkI b) :
    Calls Tryz.prog 64 #[.agg cs.toArray] w fun e w' => Below w.heap.size w w' ∧ ((encB b = none ∧ e = .returned (.tuple #[.slice none 0 0, .int .i64 1])) ∨ ∃ bs v, encB b = some bs ∧ e = .returned (.tuple #[v, .int .i64 0]) ∧ Bs w' v bs) := by
  have b0 : Below w.heap.size w (w.alloc (.cells cs.toArray 32)) := (Below.refl _ _).alloc (Nat.le_refl _) _
  have B0 := Lib.hid b0
  have RB := Lib.hid (blk_range (heap_alloc2_old w (.cells cs.toArray 32) (.cells #[.slice none 0 0, .int .i64 0] 167)))
  have HLN := Lib.hid hB.len
  have HW := Lib.hid (oblock_at w cs b hB hI)
  obtain ⟨E, hE⟩ : ∃ x, x = encB b := ⟨_, rfl⟩
  rw [← hE] at HW ⊢
  clear b0 hB hI hE
  go_enter Tryz.func64, Tryz.ntmps64
  go_wp2_with (refine wpList_load_g rfl 32 (.tmp 1) rfl w.heap.size 0 rfl cs _ RB.out Tryz.underlying32 rfl (by rw [HLN.out]; exact Tryz.size32) ?_)
  have hn := OtAt.new w.heap.size (w.alloc (.cells cs.toArray 32)) B0.out.size
  rw [show (w.alloc (.cells cs.toArray 32)).heap.size = w.heap.size + 1 by simp] at hn
  have HN0 := Lib.hid hn
  clear hn
  refine (HW.out _ none _ HN0.out (B0.out.alloc B0.out.size _)).mono ?_
  rintro _ w3 ⟨rfl, hst⟩
  obtain ⟨r3, a3, _⟩ := hst.next
  have A3 := Lib.hid a3
  have B3 := Lib.hid (show Below w.heap.size w w3 from (B0.out.alloc B0.out.size _).trans (hst.below HN0.out))
  clear hst a3 HN0 HW
  go_wp2_with fail
  refine (odone_any w.heap.size _ E r3 w3 A3.out).mono ?_
  rintro e4 w4 ⟨hb4, (⟨hn, rfl⟩ | ⟨bs, v, hs, rfl, hv⟩)⟩
  · have B4 := Lib.hid (B3.out.trans (hb4.mono B3.out.size))
    have HN := Lib.hid hn
    clear hb4 hn
    go_wp2_with fail
    go_ret2
    exact ⟨B4.out, .inl ⟨HN.out, by first | rfl | trivial⟩⟩
  · have B4 := Lib.hid (B3.out.trans (hb4.mono B3.out.size))
    have HS := Lib.hid hs
    obtain ⟨A5, c5, rfl⟩ := hv.form
    have HV := Lib.hid hv
    clear hb4 hs hv
    go_wp2_with fail
    go_ret2
    exact ⟨B4.out, .inr ⟨bs, _, HS.out, by first | rfl | trivial, HV.out⟩⟩

set_option maxHeartbeats 8000000 in
set_option maxRecDepth 100000 in
theorem refid_any (w : World) (cs : List Value) (b : Bk) (hB : BkAt w cs b) (hI : BkI b) :
    Calls Tryz.prog 27 #[.agg cs.toArray] w fun e w' => e = .returned (.tuple #[.agg (u8s (idB b)).toArray, .int .i64 (idN b)]) ∧ Below w.heap.size w w' := by
  have hl39 := hB.len
  have b0 : Below w.heap.size w ((w.alloc (.cells cs.toArray 32)).alloc (.cells (Array.replicate 16 (.int .u8 0)) 24)) := ((Below.refl _ _).alloc (Nat.le_refl _) _).alloc (by simp) _
  have HL := Lib.hid (encB_le hB)
  have HBK := Lib.hid (hB.below b0)
  have B0 := Lib.hid b0
  have HI0 := Lib.hid hI
  have RB := Lib.hid (blk_range (heap_alloc2_old w (.cells cs.toArray 32) (.cells (Array.replicate 16 (.int .u8 0)) 24)))
  have HH := Lib.hid (has_new2 w (.cells cs.toArray 32) (Array.replicate 16 (.int .u8 0)) 24 16 (by simp))
  clear b0 hB hI
  have hsz : ∀ V : List Int, V.length = 16 → (Tryz.prog.info? 24).map (·.size) = some (u8s V).length := fun V h => by rw [u8s_len', h]; exact Tryz.size24
  go_enter Tryz.func27, Tryz.ntmps27
  go_wp2_with (refine wpList_load_g rfl 32 (.tmp 1) rfl w.heap.size 0 rfl cs _ RB.out Tryz.underlying32 rfl (by rw [hl39]; exact Tryz.size32) ?_)
  refine (obytes_any _ cs b HBK.out HI0.out).mono ?_
  rintro e4 w4 ⟨hb4, (⟨hn, rfl⟩ | ⟨bs, v, hs, rfl, hv⟩)⟩
  · have B4 := Lib.hid (B0.out.trans (hb4.mono B0.out.size))
    have H4 := Lib.hid (HH.out.below hb4)
    have hi : idB b = zero16 := by unfold idB; rw [hn]
    have he : idN b = 1 := by unfold idN; rw [hn]
    have HI := Lib.hid hi
    have HE := Lib.hid he
    clear hb4 hn hi he
    go_wp2_with (refine wpList_store_row rfl 24 (.tmp 2) (.tmp 13) rfl (w.heap.size + 1) rfl (u8s zero16) rfl 24 H4.out (hsz zero16 zero16_len) (one_u8s _) ?_; intro w5 hp5; have K5 := Lib.hid hp5.blk; have B5 := Lib.hid (hp5.below B4.out (by omega)); clear hp5)
    refine bodyPost_ret (v := .tuple #[.agg (u8s zero16).toArray, .int .i64 1]) (results_cell_row_tmp rfl _ _ (w.heap.size + 1) 24 _ (0, 0) _ rfl K5.out Tryz.underlying24 rfl (by simpa using hsz zero16 zero16_len) rfl) rfl ⟨by rw [HI.out, HE.out], B5.out⟩
  · have B4 := Lib.hid (B0.out.trans (hb4.mono B0.out.size))
    have H4 := Lib.hid (HH.out.below hb4)
    have hi : idB b = short 6 [bs] := by unfold idB; rw [hs]
    have he : idN b = 0 := by unfold idN; rw [hs]
    have hbl : bs.length ≤ 10000 := HL.out bs hs
    have HI := Lib.hid hi
    have HE := Lib.hid he
    have hok := hv.ok
    obtain ⟨A5, c5, rfl⟩ := hv.form
    have HV := Lib.hid hv
    clear hs hv hi he hb4
    obtain ⟨S0, hS0⟩ : ∃ s, s = strOfNums bs := ⟨_, rfl⟩
    have hs0 : sb S0 = bs := by rw [hS0]; exact sb_str _ hok
    go_wp2_with (refine wpList_conv_str rfl (.tmp 15) rfl (.slice A5 bs.length c5) bs rfl HV.out ?_)
    rw [← hS0]
    have L5 : Below w4.heap.size w4 (w4.alloc (.cells #[.string S0] 9)) := (Below.refl _ _).alloc (Nat.le_refl _) _
    have HS : Hid (Txs (w4.alloc (.cells #[.string S0] 9)) (.slice (some ⟨w4.heap.size, 0, none⟩) 1 1) [S0]) := Lib.hid (Txs.new w4 [S0] (by simp))
    have B5 := Lib.hid (B4.out.trans (L5.mono B4.out.size))
    have H5 := Lib.hid (H4.out.below L5)
    have HS0 := Lib.hid hs0
    clear L5 hS0 hs0
    go_wp2_with fail
    refine (refof_any 6 [S0] _ 1 1 _ HS.out rfl (by simp only [List.map_cons, List.map_nil, HS0.out]; simp [framed, be4]; omega)).mono ?_
    rintro _ w6 ⟨rfl, hb6⟩
    simp only [List.map_cons, List.map_nil, HS0.out]
    have B6 := Lib.hid (B5.out.trans (hb6.mono B5.out.size))
    have H6 := Lib.hid (H5.out.below hb6)
    have hsl := short_len 6 [bs]
    obtain ⟨SH, hSH⟩ : ∃ x, x = short 6 [bs] := ⟨_, rfl⟩
    rw [← hSH] at hsl ⊢
    have HSH := Lib.hid hSH
    clear hSH hb6
    go_wp2_with (refine wpList_store_row rfl 24 (.tmp 2) (.tmp 18) rfl (w.heap.size + 1) rfl (u8s SH) rfl 24 (by rw [u8s_len', hsl]; exact H6.out) (hsz SH hsl) (one_u8s _) ?_; intro w7 hp7; have K7 := Lib.hid hp7.blk; have B7 := Lib.hid (hp7.below B6.out (by omega)); clear hp7)
    refine bodyPost_ret (v := .tuple #[.agg (u8s SH).toArray, .int .i64 0]) (results_cell_row_tmp rfl _ _ (w.heap.size + 1) 24 _ (0, 0) _ rfl K7.out Tryz.underlying24 rfl (by simpa using hsz SH hsl) rfl) rfl ⟨by rw [HI.out, HE.out, HSH.out], B7.out⟩
end Go.Proofs.YtniknhhejlgdfaaGreatDoor
/- Validators that are cloned; a genesis block and its id. -/
namespace Go.Proofs.YtniknhhejlgdfaaGreatDoor
open Go.RowKit

theorem rcells_len (vs : List Va) (h : ∀ x ∈ vs, x.1.length = 16) : (rcells vs).length = vs.length * 17 := by
  induction vs with
  | nil => rfl
  | cons d ds ih =>
    rw [show rcells (d :: ds) = vcells d ++ rcells ds by simp [rcells], List.length_append, vcells_len d (h d (by simp)), ih (fun x hx => h x (by simp [hx])), List.length_cons]
    omega
theorem one_rcells (vs : List Va) : ∀ u ∈ rcells vs, u.oneCell' = true := by
  intro u hu
  simp only [rcells, List.mem_flatMap] at hu
  obtain ⟨x, _, hx⟩ := hu
  exact one_vcells x u hx
theorem Vals.of_own {w : World} {base : Nat} {v : Value} {n : Nat} {vs : List Va} (h : w.ownsRow base 90 17 v n (rcells vs)) (hn : n = vs.length) (hg : ∀ x ∈ vs, x.1.length = 16) : Vals w v vs := by
  have hcells := @World.ownsRow.cells w base 90 17 v n (rcells vs) h
  obtain ⟨_, h2⟩ := h
  rcases h2 with ⟨rfl, rfl⟩ | ⟨g, cap, cur, rfl, e1, e2, e3, e4, _, _⟩
  · cases vs with
    | nil => exact ⟨⟨_, _, rfl⟩, fun h => absurd rfl h, hg⟩
    | cons => simp at hn
  · subst hn
    refine ⟨⟨_, _, rfl⟩, fun _ => ⟨g, 0, cap, rfl, e3, e4, blk_lt e2, fun i hi j u hu => ?_⟩, hg⟩
    have hj : j < 17 := by
      have := (List.getElem?_eq_some_iff.1 hu).1
      rw [List.getD_eq_getElem?_getD, List.getElem?_eq_getElem hi] at this
      rwa [Option.getD_some, vcells_len _ (hg _ (List.getElem_mem hi))] at this
    have := hcells rfl (i * 17 + j) u (by rw [rcells_at vs hg i j hi hj]; exact hu)
    rw [show (⟨g, 0, none⟩ : Addr).add (i * 17 + j) = ⟨g, 0 + i * 17 + j, none⟩ by unfold Addr.add; split <;> simp_all] at this
    exact this
theorem Vals.src {w : World} {b off n c : Nat} {vs : List Va} (h : Vals w (.slice (some ⟨b, off, none⟩) n c) vs) : ∀ j u, (rcells vs)[j]? = some u → w.cell? ((⟨b, off, none⟩ : Addr).add j) = some u := by
  intro j u hj
  have hl := (List.getElem?_eq_some_iff.1 hj).1
  rw [rcells_len vs h.good] at hl
  have hne : vs ≠ [] := by rintro rfl; simp at hl
  obtain ⟨b', off', c', e, _, _, _, h4⟩ := h.cells hne
  simp only [Value.slice.injEq, Option.some.injEq, Addr.mk.injEq] at e
  obtain ⟨⟨rfl, rfl, _⟩, _, _⟩ := e
  have hi : j / 17 < vs.length := by omega
  have := h4 (j / 17) hi (j % 17) u (by rw [← rcells_at vs h.good (j / 17) (j % 17) hi (by omega), show j / 17 * 17 + j % 17 = j by omega]; exact hj)
  rw [show off + j / 17 * 17 + j % 17 = off + j by omega] at this
  rwa [show (⟨b, off, none⟩ : Addr).add j = ⟨b, off + j, none⟩ by unfold Addr.add; split <;> simp_all]
theorem eql22_nil (a : Option Addr) (l c : Nat) (W : World) : (binOp .eql 22 (.slice a l c) (.slice none 0 0)).run Tryz.prog W = .ok (.bool a.isNone) W := by
  simp only [binOp]
  simp [run_equal_slice_nil W 22 90 a l c Tryz.underlying22]
theorem info_of {P : Program} {e : TypeId} {z : Option Value} {s b : Nat} (h : (P.info? e).map (fun i => (i.zero, i.size, i.bytes)) = some (z, s, b)) : ∃ i, P.info? e = some i ∧ i.zero = z ∧ i.size = s ∧ i.bytes = b := by
  rw [Option.map_eq_some_iff] at h
  obtain ⟨i, h1, h2⟩ := h
  simp only [Prod.mk.injEq] at h2
  exact ⟨i, h1, h2.1, h2.2.1, h2.2.2⟩
theorem Tryz.info45m : (Tryz.prog.info? 90).map (fun i => (i.zero, i.size, i.bytes)) = some (some (.agg ((Array.replicate 16 (.int .u8 0)) ++ #[.int .i64 0])), 17, 24) := by kernel_rfl
theorem Tryz.info90 : ∃ i, Tryz.prog.info? 90 = some i ∧ i.zero = some (.agg ((Array.replicate 16 (.int .u8 0)) ++ #[.int .i64 0])) ∧ i.size = 17 ∧ i.bytes = 24 := info_of Tryz.info45m
set_option maxHeartbeats 4000000 in
set_option maxRecDepth 100000 in
/-- slices.Clone of validators that are few, at least one. -/
theorem cloneV_any (vs : List Va) (A : Option Addr) (n c : Nat) (w : World) (hx : Vals w (.slice A n c) vs) (h1 : 0 < n) (h7 : n ≤ 7) :
    Calls Tryz.prog 87 #[.slice A n c] w fun e w' => ∃ v, e = .returned v ∧ w'.ownsRow w.heap.size 90 17 v n (rcells vs) ∧ Below w.heap.size w w' := by
  have hn := hx.len
  obtain ⟨b, off, c', e, _⟩ := hx.cells (by rintro rfl; simp at hn; omega)
  simp only [Value.slice.injEq] at e
  obtain ⟨rfl, -, -⟩ := e
  obtain ⟨i45, i1, i2, i3, i4⟩ := Tryz.info90
  have b0 : Below w.heap.size w (w.alloc (.cells #[] 90)) := (Below.refl _ _).alloc (Nat.le_refl _) _
  have HO := Lib.hid (World.ownsRow_made (e := 90) (base := w.heap.size) (size := 17) w #[] 0 (Nat.le_refl _) (by simp) rfl)
  have HX := Lib.hid (hx.below b0)
  have HL := Lib.hid (show (rcells vs).length = n * 17 by rw [rcells_len vs hx.good, hn])
  have B0 := Lib.hid b0
  have I1 := Lib.hid i1
  have I2 := Lib.hid i2
  have hnil := eql22_nil (some ⟨b, off, none⟩) n c w
  clear b0 hx i1 i2 hn
  go_enter Tryz.func87, Tryz.ntmps87
  go_wp2_with (at_builtin; refine wpList_append_own_wide _ rfl (.tmp 5) (.tmp 6) 22 rfl w.heap.size 90 i45 _ 17 24 Tryz.underlying22 I1.out I2.out i3 i4 rfl (by omega) (.slice (some ⟨w.heap.size, 0, none⟩) 0 0) 0 [] rfl HO.out ⟨b, off, none⟩ n c (rcells vs) rfl HL.out HX.out.src (one_rcells vs) (by simp only [maxLen]; omega) (by omega) B0.out.size ?_; intro v1 w1 own1 gr1 _; have OW := Lib.hid own1; have B1 := Lib.hid (B0.out.grown gr1 B0.out.size (fun k hk => by simp [Value.ownBlock] at hk; omega)); clear own1 gr1)
  go_ret
  have := OW.out
  rw [List.nil_append, Nat.zero_add] at this
  exact ⟨_, rfl, this, B1.out⟩

/-- A genesis block. -/
def GEN (e : Int) (p : List Int) : Bk := ⟨e, 0, p, ⟨0, 0, zero16, []⟩, [], []⟩
def genC (e : Int) (p : List Int) : List Value := bkC e 0 p (qcC 0 0 zero16 (.slice none 0 0)) (.slice none 0 0) (.slice none 0 0)
theorem zero16_ok : u8s_ok zero16 := fun x hx => by simp only [zero16, List.mem_replicate] at hx; obtain ⟨_, rfl⟩ := hx; unfold B8; omega
theorem genAt (w : World) (e : Int) (p : List Int) (hp : p.length = 16) (hpo : u8s_ok p) : BkAt w (genC e p) (GEN e p) := by
  refine ⟨⟨qcC 0 0 zero16 (.slice none 0 0), none, 0, none, 0, rfl, ⟨⟨none, 0, rfl, ?_⟩, zero16_len, zero16_ok⟩, ?_, ?_⟩, ⟨hp, hpo⟩, fun x hx => by cases hx⟩
  · exact ⟨⟨_, _, rfl⟩, fun h => absurd rfl h⟩
  · exact ⟨⟨_, _, rfl⟩, fun h => absurd rfl h⟩
  · exact ⟨⟨_, _, rfl⟩, fun h => absurd rfl h, fun x hx => by cases hx⟩
theorem genI (e : Int) (p : List Int) (h0 : 0 ≤ e) (h1 : e ≤ 1073741824) : BkI (GEN e p) := by
  have hz : I64 0 := by unfold I64; constructor <;> omega
  have he : I64 e := by unfold I64; constructor <;> omega
  exact { ep := he, rd := hz, qc := { ep := hz, rd := hz, len := Nat.zero_le _, sd := fun y hy => (by cases hy) }, plen := Nat.zero_le _, tx := fun t ht => (by cases ht), nlen := Nat.zero_le _, pw := fun x hx => (by cases hx) }
theorem encGen (e : Int) (p : List Int) (h0 : 0 ≤ e) (h1 : e ≤ 1073741824) : ∃ bs, encB (GEN e p) = some bs := by
  have hn : ∀ (n : Int) (k : Nat) (b : List Int), 0 ≤ n → n < (256 : Int) ^ k → numS n k (some b) = some (b ++ beN n k) := fun n k b h h' => by unfold numS; rw [if_pos ⟨h, h'⟩]; rfl
  have hf : ∀ x b, fixS x (some b) = some (b ++ x) := fun _ _ => rfl
  simp only [encB, GEN, bkS, qcS, putS]
  rw [hn e 4 [] h0 (by omega), hn 0 6 _ (by omega) (by omega), hf, hn 0 4 _ (by omega) (by omega), hn 0 6 _ (by omega) (by omega), hf]
  simp only [List.length_nil, List.foldl_nil, Nat.not_lt_zero, if_false]
  rw [show ((0 : Nat) : Int) = 0 from rfl, hn 0 1 _ (by omega) (by omega), hn 0 1 _ (by omega) (by omega), hn 0 1 _ (by omega) (by omega)]
  exact ⟨_, rfl⟩
theorem idGen (e : Int) (p : List Int) (h0 : 0 ≤ e) (h1 : e ≤ 1073741824) (aR : Addr) : idE (GEN e p) aR = .nilIface ∧ idN (GEN e p) = 0 := by
  obtain ⟨bs, h⟩ := encGen e p h0 h1
  unfold idE idN
  rw [h]
  exact ⟨rfl, rfl⟩
theorem genC_len (e : Int) (p : List Int) (hp : p.length = 16) : (genC e p).length = 39 := bk_len _ _ _ _ _ _ hp (qc_len _ _ _ _ zero16_len)
end Go.Proofs.YtniknhhejlgdfaaGreatDoor
/- Grounds: the first and the next. -/
namespace Go.Proofs.YtniknhhejlgdfaaGreatDoor
open Go.RowKit

section
variable {P : Program} {o : Oper} {ρ : Operand → Value} {w : World} {S : Value → World → Prop}
theorem gives_bld (t : TypeId) (parts : Array (Nat × Operand)) (ho : o.op = .build t parts) (ps : Array (Nat × Value)) (he : (parts.map fun (i, x) => (i, ρ x)) = ps) (v : Value)
    (hr : (Instr.build t ps).run P w = .ok v w) (h : S v w) : Gives P o ρ w S := by
  refine gives_val v (w' := w) ?_ h
  unfold execOp
  simp only [ho, Sem.run_bind, he, hr, Result.andThen_ok, Sem.run_pure]
end
/-- The three errors, and the constants of the hash. -/
structure Em (w : World) (aR aS aE : Addr) : Prop where
  r : w.cell? ⟨0, 0, none⟩ = some (errV aR)
  s : w.cell? ⟨10, 0, none⟩ = some (errV aS)
  e : w.cell? ⟨17, 0, none⟩ = some (errV aE)
  k : w.rangeAt 18 0 (u32s kk)
  lt : 18 < w.heap.size
theorem Em.below {w w' : World} {aR aS aE : Addr} (h : Em w aR aS aE) (hb : Below w.heap.size w w') : Em w' aR aS aE :=
  ⟨cell_on hb h.r, cell_on hb h.s, cell_on hb h.e, range_below h.k hb, Nat.lt_of_lt_of_le h.lt hb.size⟩
set_option maxRecDepth 100000 in
theorem build40 (e : Int) (p : List Int) (hp : p.length = 16) (W : World) : (Instr.build 32 #[(0, .int .i64 e), (2, .agg (u8s p).toArray)]).run Tryz.prog W = .ok (.agg (genC e p).toArray) W := by
  obtain ⟨_, _, _, _, _, _, _, _, _, _, _, _, _, _, _, _, rfl⟩ := len16 hp
  exact run_build W 32 _ _ (by kernel_rfl)
theorem one_gen (e : Int) (p : List Int) : ∀ u ∈ genC e p, u.oneCell' = true := by
  intro u hu
  simp only [genC, bkC, List.mem_append, List.mem_cons, List.not_mem_nil, or_false] at hu
  rcases hu with (rfl | rfl) | h | h | h | h
  · rfl
  · rfl
  · exact one_u8s _ u h
  · exact one_qc _ _ _ _ rfl u h
  · subst h; rfl
  · subst h; rfl
theorem hi24 (V : List Int) (h : V.length = 16) : (Tryz.prog.info? 24).map (·.size) = some (u8s V).length := by rw [u8s_len', h]; exact Tryz.size24

set_option maxHeartbeats 4000000 in
set_option maxRecDepth 100000 in
theorem genesis_any (e : Int) (p : List Int) (hp : p.length = 16) (w : World) :
    Calls Tryz.prog 86 #[.int .i64 e, .agg (u8s p).toArray] w fun x w' => x = .returned (.agg (genC e p).toArray) ∧ Below w.heap.size w w' := by
  have bb := build40 e p hp
  have hl := genC_len e p hp
  have HP := Lib.hid hp
  have RB := Lib.hid (fun Z : Array Value => blk_range (heap_alloc2_old w (.cells (u8s p).toArray 24) (.cells Z 32)))
  have BL := Lib.hid (fun Z : Array Value => (((Below.refl w.heap.size w).alloc (Nat.le_refl _) (.cells (u8s p).toArray 24)).alloc (by simp) (.cells Z 32)))
  go_enter Tryz.func86, Tryz.ntmps86
  go_wp2_with (first | (refine wpList_load_g rfl 24 (.tmp 3) rfl w.heap.size 0 rfl (u8s p) _ (RB.out _) Tryz.underlying24 rfl (hi24 p HP.out) ?_) | (refine wpList_bld rfl 32 _ rfl #[(0, .int .i64 e), (2, .agg (u8s p).toArray)] (by simp only [List.map_toArray, List.map_cons, List.map_nil]; rfl) _ (bb _) ?_) | (refine wpList_store_row rfl 32 (.tmp 4) (.tmp 7) rfl (w.heap.size + 1) rfl (genC e p) rfl 32 (has_new2 w _ _ _ _ (by rw [hl]; rfl)) (by rw [hl]; exact Tryz.size32) (one_gen e p) ?_; intro w1 hp1; have K1 := Lib.hid hp1.blk; have B1 := Lib.hid (hp1.below (BL.out _) (by simp)); clear hp1))
  exact bodyPost_ret (v := .agg (genC e p).toArray) (results_cell_row rfl _ _ (w.heap.size + 1) 32 _ (0, 0) _ rfl K1.out Tryz.underlying32 rfl (by simp only [List.size_toArray]; rw [hl]; exact Tryz.size32)) rfl ⟨rfl, B1.out⟩

set_option maxHeartbeats 4000000 in
set_option maxRecDepth 100000 in
theorem rgenesis_any (e : Int) (p : List Int) (hp : p.length = 16) (w : World) :
    Calls Tryz.prog 28 #[.int .i64 e, .agg (u8s p).toArray] w fun x w' => x = .returned (.agg (genC e p).toArray) ∧ Below w.heap.size w w' := by
  have bb := build40 e p hp
  have hl := genC_len e p hp
  have HP := Lib.hid hp
  have RB := Lib.hid (fun Z : Array Value => blk_range (heap_alloc2_old w (.cells (u8s p).toArray 24) (.cells Z 32)))
  have BL := Lib.hid (fun Z : Array Value => (((Below.refl w.heap.size w).alloc (Nat.le_refl _) (.cells (u8s p).toArray 24)).alloc (by simp) (.cells Z 32)))
  go_enter Tryz.func28, Tryz.ntmps28
  go_wp2_with (first | (refine wpList_load_g rfl 24 (.tmp 3) rfl w.heap.size 0 rfl (u8s p) _ (RB.out _) Tryz.underlying24 rfl (hi24 p HP.out) ?_) | (refine wpList_bld rfl 32 _ rfl #[(0, .int .i64 e), (2, .agg (u8s p).toArray)] (by simp only [List.map_toArray, List.map_cons, List.map_nil]; rfl) _ (bb _) ?_) | (refine wpList_store_row rfl 32 (.tmp 4) (.tmp 7) rfl (w.heap.size + 1) rfl (genC e p) rfl 32 (has_new2 w _ _ _ _ (by rw [hl]; rfl)) (by rw [hl]; exact Tryz.size32) (one_gen e p) ?_; intro w1 hp1; have K1 := Lib.hid hp1.blk; have B1 := Lib.hid (hp1.below (BL.out _) (by simp)); clear hp1))
  exact bodyPost_ret (v := .agg (genC e p).toArray) (results_cell_row rfl _ _ (w.heap.size + 1) 32 _ (0, 0) _ rfl K1.out Tryz.underlying32 rfl (by simp only [List.size_toArray]; rw [hl]; exact Tryz.size32)) rfl ⟨rfl, B1.out⟩

theorem own_mono {w : World} {base base' e s n : Nat} {v : Value} {xs : List Value} (h : w.ownsRow base e s v n xs) (hb : base' ≤ base) : w.ownsRow base' e s v n xs := by
  obtain ⟨h1, h2⟩ := h
  refine ⟨h1, ?_⟩
  rcases h2 with h2 | ⟨g, cap, cur, e1, e2, rest⟩
  · exact .inl h2
  · exact .inr ⟨g, cap, cur, e1, by omega, rest⟩
theorem own_other {w w1 : World} {base e s n b t m : Nat} {v : Value} {xs cs : List Value} (h : w.ownsRow base e s v n xs) (hh : Has w b t m) (hte : t ≠ e) (hp : Put w b t cs w1) : w1.ownsRow base e s v n xs := by
  obtain ⟨h1, h2⟩ := h
  refine ⟨h1, ?_⟩
  rcases h2 with h2 | ⟨g, cap, cur, e1, e2, e3, rest⟩
  · exact .inl h2
  · refine .inr ⟨g, cap, cur, e1, e2, (hp.other g ?_).trans e3, rest⟩
    rintro rfl
    obtain ⟨Z, hz, hZ⟩ := hh
    first
      | (rw [hz] at e3; simp at e3; exact hte e3.2)
      | (rw [hZ] at e3; simp at e3; exact hte e3.2)
theorem zgnd_len : (gndC 0 (.slice none 0 0) zero16).length = 18 := gnd_len _ _ _ zero16_len
theorem hv7 (vs : List Va) (h : validB vs = true) : 1 ≤ vs.length ∧ vs.length ≤ 7 := by
  refine Decidable.byContradiction fun hn => ?_
  rw [validB_len vs hn] at h
  cases h
/-- A ground that was made. -/
def GrR (base : Nat) (vs : List Va) (n : Nat) (e : Int) (p : List Int) (x : Ending) (w' : World) : Prop :=
  ∃ A c, x = .returned (.tuple #[gndV e (.slice A n c) (idB (GEN e p)), .nilIface]) ∧ w'.ownsRow base 90 17 (.slice A n c) n (rcells vs)
def noG : Value := gndV 0 (.slice none 0 0) zero16
set_option maxHeartbeats 8000000 in
set_option maxRecDepth 100000 in
theorem ground_any (e : Int) (p : List Int) (hp : p.length = 16) (hpo : u8s_ok p) (h1 : 1 ≤ e) (h2 : e ≤ 1073741824) (vs : List Va) (A : Option Addr) (n c : Nat) (aR aS aE : Addr) (w : World) (hv : Vals w (.slice A n c) vs) (hs : Em w aR aS aE) :
    Calls Tryz.prog 63 #[.int .i64 e, .agg (u8s p).toArray, .slice A n c] w fun x w' => Below w.heap.size w w' ∧ ((validB vs = false ∧ x = .returned (.tuple #[noG, errV aS])) ∨ (validB vs = true ∧ GrR w.heap.size vs n e p x w')) := by
  have HP := Lib.hid hp
  have HPO := Lib.hid hpo
  have HE := Lib.hid (show 1 ≤ e ∧ e ≤ 1073741824 from ⟨h1, h2⟩)
  have hg : ¬ (1073741824 : Int) < e := by omega
  obtain ⟨X0, hX0⟩ : ∃ X, X = (w.alloc (.cells (u8s p).toArray 24)).alloc (.cells (gndC 0 (.slice none 0 0) zero16).toArray 26) := ⟨_, rfl⟩
  have b0 : Below w.heap.size w X0 := by rw [hX0]; exact ((Below.refl _ _).alloc (Nat.le_refl _) _).alloc (by simp) _
  have K0 := Lib.hid (show X0.heap[w.heap.size]? = some (.cells (u8s p).toArray 24 (0, 0)) by rw [hX0]; exact heap_alloc2_old w _ _)
  have HH := Lib.hid (show Has X0 (w.heap.size + 1) 26 18 by rw [hX0]; exact has_new2 w _ _ _ _ (by simpa using zgnd_len))
  have HX := Lib.hid hX0
  have HV := Lib.hid (hv.below b0)
  have HS := Lib.hid (hs.below b0)
  have B0 := Lib.hid b0
  clear b0 hv hs hp hpo hX0
  go_enter Tryz.func63, Tryz.ntmps63
  go_wp2_with fail
  rw [show (w.alloc (.cells (u8s p).toArray 24)).alloc (.cells #[.int .i64 0, .slice none 0 0, .int .u8 0, .int .u8 0, .int .u8 0, .int .u8 0, .int .u8 0, .int .u8 0, .int .u8 0, .int .u8 0, .int .u8 0, .int .u8 0, .int .u8 0, .int .u8 0, .int .u8 0, .int .u8 0, .int .u8 0, .int .u8 0] 26) = X0 from HX.out.symm]
  refine (check1_any vs A n c aS X0 HV.out HS.out.s).mono ?_
  rintro _ w1 ⟨rfl, hb1⟩
  have B1 := Lib.hid (B0.out.trans (hb1.mono B0.out.size))
  have H1 := Lib.hid (HH.out.below hb1)
  have V1 := Lib.hid (HV.out.below hb1)
  have S1 := Lib.hid (HS.out.below hb1)
  have K1 := Lib.hid (blk_below K0.out hb1)
  clear hb1 HX
  by_cases hval : validB vs = true
  case neg =>
    have hc : checkV vs aS = errV aS := by unfold checkV; rw [if_neg hval]
    have hvf : validB vs = false := by simpa using hval
    have HVF := Lib.hid hvf
    rw [hc]
    clear hc hval hvf
    go_wp2_with (refine wpList_store_row rfl 26 (.tmp 6) (.tmp 15) rfl (w.heap.size + 1) rfl (gndC 0 (.slice none 0 0) zero16) rfl 26 (by rw [zgnd_len]; exact H1.out) (by rw [zgnd_len]; exact Tryz.size26) (one_gnd _ _ _ rfl) ?_; intro w5 hp5; have K5 := Lib.hid hp5.blk; have B5 := Lib.hid (hp5.below B1.out (by omega)); clear hp5)
    refine bodyPost_ret (v := .tuple #[noG, errV aS]) (results_cell_row_tmp rfl _ _ (w.heap.size + 1) 26 _ (0, 0) _ rfl K5.out Tryz.underlying26 rfl (by simp only [List.size_toArray]; rw [zgnd_len]; exact Tryz.size26) rfl) rfl ⟨B5.out, .inl ⟨HVF.out, rfl⟩⟩
  have hc : checkV vs aS = .nilIface := by unfold checkV; rw [if_pos hval]
  rw [hc]
  have HVT := Lib.hid hval
  have N1 := Lib.hid (show 0 < n ∧ n ≤ 7 by have := hv7 vs hval; rw [V1.out.len]; omega)
  clear hc hval
  have RK := Lib.hid (blk_range K1.out)
  go_wp2_with (refine wpList_load_g rfl 24 (.tmp 4) rfl w.heap.size 0 rfl (u8s p) _ RK.out Tryz.underlying24 rfl (hi24 p HP.out) ?_)
  refine (genesis_any e p HP.out w1).mono ?_
  rintro _ w2 ⟨rfl, hb2⟩
  have B2 := Lib.hid (B1.out.trans (hb2.mono B1.out.size))
  have H2 := Lib.hid (H1.out.below hb2)
  have V2 := Lib.hid (V1.out.below hb2)
  have S2 := Lib.hid (S1.out.below hb2)
  clear hb2 RK K1
  go_wp2_with fail
  refine (id_any w2 aR (genC e p) (GEN e p) (genAt w2 e p HP.out HPO.out) S2.out.r S2.out.k S2.out.lt).mono ?_
  rintro _ w3 ⟨rfl, hb3⟩
  rw [(idGen e p (by have := HE.out; omega) HE.out.2 aR).1]
  have B3 := Lib.hid (B2.out.trans (hb3.mono B2.out.size))
  have H3 := Lib.hid (H2.out.below hb3)
  have V3 := Lib.hid (V2.out.below hb3)
  clear hb3
  obtain ⟨ID, hID⟩ : ∃ x, x = idB (GEN e p) := ⟨_, rfl⟩
  have hidg : ID.length = 16 ∧ u8s_ok ID := hID ▸ idB_good _
  rw [← hID]
  have HID := Lib.hid hID
  have HIG := Lib.hid hidg
  clear hID hidg
  go_wp2_with (refine wpList_store_row rfl 24 (.tmp 9) (.tmp 22) rfl w3.heap.size rfl (u8s ID) rfl 24 (has_new w3 _ _ _ (by rw [u8s_len', HIG.out.1]; rfl)) (hi24 ID HIG.out.1) (one_u8s _) ?_; intro w6 hp6; have L6 : Below w3.heap.size w3 w6 := hp6.below ((Below.refl _ _).alloc (Nat.le_refl _) _) (Nat.le_refl _); have B6 := Lib.hid (B3.out.trans (L6.mono B3.out.size)); have H6 := Lib.hid (H3.out.below L6); have V6 := Lib.hid (V3.out.below L6); have R6 := Lib.hid (blk_range hp6.blk); clear hp6 L6)
  refine wp_region_rely3 (by kernel_rfl) 5 (by kernel_rfl) (by kernel_rfl) Ext Ext.refl Ext.trans (fun ix => match ix with
    | 0 => fun _ v => v = .int .i64 e
    | 1 => fun _ v => v = .slice A n c
    | 2 => fun W v => W.ownsRow w.heap.size 90 17 v n (rcells vs)
    | 3 => fun _ v => v = .agg (u8s ID).toArray
    | 4 => fun W v => ∃ A2 c2, v = gndV e (.slice A2 n c2) ID ∧ W.ownsRow w.heap.size 90 17 (.slice A2 n c2) n (rcells vs)
    | _ => fun _ _ => False) ?_
  simp (maxSteps := 10000000) only [Rely, List.take_succ_cons, List.take_zero, List.drop_succ_cons, List.drop_zero, Nat.reduceAdd, Nat.zero_add, Act.put, List.setIfInBounds_toArray, List.set_cons_succ, List.set_cons_zero]
  refine ⟨?_, ?_, ?_, ?_, ?_, ?_⟩
  · refine step_plain rfl fun rv wq hE hd => ?_
    exact gives_move _ (.int .i64 e) (.inl rfl) rfl ⟨Ext.refl _, fun _ _ => rfl⟩
  · refine step_plain rfl fun rv wq hE hd => ?_
    exact gives_move _ (.slice A n c) (.inl rfl) rfl ⟨Ext.refl _, fun _ _ => rfl⟩
  · refine step_plain rfl fun rv wq hE hd => ?_
    refine gives_call 87 (enters_of Tryz.func87 (by kernel_rfl) rfl) _ _ rfl rfl [.slice A n c] (congrArg (fun a => [a]) (show rv 1 = _ from hd.1)) ?_
    refine (cloneV_any vs A n c wq (V6.out.below (ext_of_drew hE)) N1.out.1 N1.out.2).mono ?_
    rintro _ w'' ⟨v, rfl, ho, hb⟩
    exact ⟨_, rfl, hb, fun W hW => own_bel (own_mono ho (by have := B6.out.size; have := (ext_of_drew hE).size; omega)) hW⟩
  · refine step_plain rfl fun rv wq hE hd => ?_
    exact gives_load_row 24 _ rfl (w3.heap.size) (0) rfl (u8s ID) _ (range_below R6.out (ext_of_drew hE)) Tryz.underlying24 rfl (hi24 _ HIG.out.1) ⟨Ext.refl _, fun _ _ => rfl⟩
  · refine step_plain rfl fun rv wq hE hd => ?_
    have h2 := hd.2.1
    obtain ⟨A2, c2, e2⟩ := own_form h2
    rw [e2] at h2
    exact gives_bld 26 _ rfl #[(0, .int .i64 e), (1, .slice A2 n c2), (2, .agg (u8s ID).toArray)] (by simp only [List.map_toArray, List.map_cons, List.map_nil]; rw [← e2, ← (show rv 0 = _ from hd.1), ← (show rv 3 = _ from hd.2.2.1)]; rfl) _ (build27 e (A2) n c2 ID HIG.out.1 _) ⟨Ext.refl _, fun W hW => ⟨A2, c2, rfl, own_bel h2 hW⟩⟩
  · intro rv wq hE hR
    have h4 := hR 4 (by omega)
    obtain ⟨A2, c2, e4, ho⟩ := h4
    rw [e4]
    have OW := Lib.hid ho
    have B7 := Lib.hid (B6.out.trans ((ext_of_drew hE).mono B6.out.size))
    have H7 := Lib.hid (H6.out.below (ext_of_drew hE))
    have W7 := Lib.hid ((ext_of_drew hE).size)
    clear hR hE e4 ho
    have hgl := gnd_len e (.slice A2 n c2) ID HIG.out.1
    go_wp2_with (refine wpList_store_row rfl 26 (.tmp 6) (.tmp 36) rfl (w.heap.size + 1) rfl (gndC e (.slice A2 n c2) ID) rfl 26 (by rw [hgl]; exact H7.out) (by rw [hgl]; exact Tryz.size26) (one_gnd _ _ _ rfl) ?_; intro w9 hp9; have K9 := Lib.hid hp9.blk; have B9 := Lib.hid (hp9.below B7.out (by omega)); have O9 := Lib.hid (own_other OW.out H7.out (by decide) hp9); clear hp9)
    refine bodyPost_ret (v := .tuple #[gndV e (.slice A2 n c2) ID, .nilIface]) (results_cell_row_tmp rfl _ _ (w.heap.size + 1) 26 _ (0, 0) _ rfl K9.out Tryz.underlying26 rfl (by simp only [List.size_toArray]; rw [hgl]; exact Tryz.size26) rfl) rfl ⟨B9.out, .inr ⟨HVT.out, A2, c2, by rw [HID.out], O9.out⟩⟩
end Go.Proofs.YtniknhhejlgdfaaGreatDoor
/- Grounds: the first and the next. -/
namespace Go.Proofs.YtniknhhejlgdfaaGreatDoor
open Go.RowKit

def OutE (e : Int) : Prop := e < 0 ∨ 1073741824 ≤ e
def InE (e : Int) : Prop := 0 ≤ e ∧ e < 1073741824
theorem GrR.mono {base base' : Nat} {vs : List Va} {n : Nat} {e : Int} {p : List Int} {x : Ending} {w' : World} (h : GrR base vs n e p x w') (hb : base' ≤ base) : GrR base' vs n e p x w' := by
  obtain ⟨A, c, h1, h2⟩ := h
  exact ⟨A, c, h1, own_mono h2 hb⟩
set_option maxRecDepth 100000 in
theorem build27z (W : World) : (Instr.build 26 #[]).run Tryz.prog W = .ok noG W := run_build W 26 _ _ (by kernel_rfl)
set_option maxHeartbeats 8000000 in
set_option maxRecDepth 100000 in
theorem first_any (vs : List Va) (A : Option Addr) (n c : Nat) (aR aS aE : Addr) (w : World) (hv : Vals w (.slice A n c) vs) (hs : Em w aR aS aE) :
    Calls Tryz.prog 26 #[.slice A n c] w fun x w' => Below w.heap.size w w' ∧ ((validB vs = false ∧ x = .returned (.tuple #[noG, errV aS])) ∨ (validB vs = true ∧ GrR w.heap.size vs n 1 zero16 x w')) := by
  obtain ⟨X0, hX0⟩ : ∃ X, X = w.alloc (.cells #[.int .i64 0, .slice none 0 0, .int .u8 0, .int .u8 0, .int .u8 0, .int .u8 0, .int .u8 0, .int .u8 0, .int .u8 0, .int .u8 0, .int .u8 0, .int .u8 0, .int .u8 0, .int .u8 0, .int .u8 0, .int .u8 0, .int .u8 0, .int .u8 0] 26) := ⟨_, rfl⟩
  have b0 : Below w.heap.size w X0 := by rw [hX0]; exact (Below.refl _ _).alloc (Nat.le_refl _) _
  have HH := Lib.hid (show Has X0 w.heap.size 26 18 by rw [hX0]; exact has_new w _ _ _ rfl)
  have HX := Lib.hid hX0
  have HV := Lib.hid (hv.below b0)
  have HS := Lib.hid (hs.below b0); have H18 := hs.lt
  have B0 := Lib.hid b0
  clear b0 hv hs hX0
  go_enter Tryz.func26, Tryz.ntmps26
  go_wp2_with fail
  rw [show w.alloc (.cells #[.int .i64 0, .slice none 0 0, .int .u8 0, .int .u8 0, .int .u8 0, .int .u8 0, .int .u8 0, .int .u8 0, .int .u8 0, .int .u8 0, .int .u8 0, .int .u8 0, .int .u8 0, .int .u8 0, .int .u8 0, .int .u8 0, .int .u8 0, .int .u8 0] 26) = X0 from HX.out.symm]
  refine (ground_any 1 zero16 zero16_len zero16_ok (by omega) (by omega) vs A n c aR aS aE X0 HV.out HS.out).mono ?_
  rintro _ w2 ⟨hb2, hr⟩
  have B2 := Lib.hid (B0.out.trans (hb2.mono B0.out.size))
  have H2 := Lib.hid (HH.out.below hb2)
  clear hb2 HX
  rcases hr with ⟨hv, rfl⟩ | ⟨hv, A2, c2, rfl, ho⟩
  · have HVF := Lib.hid hv
    clear hv
    go_wp2_with (refine wpList_store_row rfl 26 (.tmp 2) (.tmp 7) rfl (w.heap.size) rfl (gndC 0 (.slice none 0 0) zero16) rfl 26 (by rw [zgnd_len]; exact H2.out) (by rw [zgnd_len]; exact Tryz.size26) (one_gnd _ _ _ rfl) ?_; intro w5 hp5; have K5 := Lib.hid hp5.blk; have B5 := Lib.hid (hp5.below B2.out (by omega)); clear hp5)
    refine bodyPost_ret (v := .tuple #[noG, errV aS]) (results_cell_row_tmp rfl _ _ (w.heap.size) 26 _ (0, 0) _ rfl K5.out Tryz.underlying26 rfl (by simp only [List.size_toArray]; rw [zgnd_len]; exact Tryz.size26) rfl) rfl ⟨B5.out, .inl ⟨HVF.out, rfl⟩⟩
  · have HVT := Lib.hid hv
    have OW := Lib.hid ho
    clear hv ho
    obtain ⟨ID, hID⟩ : ∃ x, x = idB (GEN 1 zero16) := ⟨_, rfl⟩
    have hidg : ID.length = 16 ∧ u8s_ok ID := hID ▸ idB_good _
    rw [← hID]
    have HID := Lib.hid hID
    have hgl := gnd_len (1) (.slice A2 n c2) ID hidg.1
    clear hID
    go_wp2_with (refine wpList_store_row rfl 26 (.tmp 2) (.tmp 7) rfl (w.heap.size) rfl (gndC (1) (.slice A2 n c2) ID) rfl 26 (by rw [hgl]; exact H2.out) (by rw [hgl]; exact Tryz.size26) (one_gnd _ _ _ rfl) ?_; intro w9 hp9; have K9 := Lib.hid hp9.blk; have B9 := Lib.hid (hp9.below B2.out (by omega)); have O9 := Lib.hid (own_other OW.out H2.out (by decide) hp9); clear hp9)
    refine bodyPost_ret (v := .tuple #[gndV (1) (.slice A2 n c2) ID, .nilIface]) (results_cell_row_tmp rfl _ _ (w.heap.size) 26 _ (0, 0) _ rfl K9.out Tryz.underlying26 rfl (by simp only [List.size_toArray]; rw [hgl]; exact Tryz.size26) rfl) rfl ⟨B9.out, .inr ⟨HVT.out, A2, c2, by rw [HID.out], own_mono O9.out B0.out.size⟩⟩
set_option maxHeartbeats 8000000 in
set_option maxRecDepth 100000 in
theorem next_any (e : Int) (v0 : Value) (gen p : List Int) (hgen : gen.length = 16) (hp : p.length = 16) (hpo : u8s_ok p) (vs : List Va) (A : Option Addr) (n c : Nat) (aR aS aE : Addr) (w : World) (hv : Vals w (.slice A n c) vs) (hs : Em w aR aS aE) :
    Calls Tryz.prog 41 #[.agg (gndC e v0 gen).toArray, .agg (u8s p).toArray, .slice A n c] w fun x w' => Below w.heap.size w w' ∧ ((validB vs = false ∧ x = .returned (.tuple #[noG, errV aS])) ∨ (validB vs = true ∧ OutE e ∧ x = .returned (.tuple #[noG, errV aE])) ∨ (validB vs = true ∧ InE e ∧ GrR w.heap.size vs n (e + 1) p x w')) := by
  have HP := Lib.hid hp
  have HPO := Lib.hid hpo
  obtain ⟨X0, hX0⟩ : ∃ X, X = ((w.alloc (.cells (gndC e v0 gen).toArray 26)).alloc (.cells (u8s p).toArray 24)).alloc (.cells #[.int .i64 0, .slice none 0 0, .int .u8 0, .int .u8 0, .int .u8 0, .int .u8 0, .int .u8 0, .int .u8 0, .int .u8 0, .int .u8 0, .int .u8 0, .int .u8 0, .int .u8 0, .int .u8 0, .int .u8 0, .int .u8 0, .int .u8 0, .int .u8 0] 26) := ⟨_, rfl⟩
  have b0 : Below w.heap.size w X0 := by rw [hX0]; exact (((Below.refl _ _).alloc (Nat.le_refl _) _).alloc (by simp) _).alloc (by simp; omega) _
  have k2 : Below (w.heap.size + 2) ((w.alloc (.cells (gndC e v0 gen).toArray 26)).alloc (.cells (u8s p).toArray 24)) X0 := by rw [hX0]; exact (Below.refl _ _).alloc (by simp) _
  have k0 := heap_alloc2_old w (.cells (gndC e v0 gen).toArray 26) (.cells (u8s p).toArray 24)
  have k1 : ((w.alloc (.cells (gndC e v0 gen).toArray 26)).alloc (.cells (u8s p).toArray 24)).heap[w.heap.size + 1]? = some (.cells (u8s p).toArray 24 (0, 0)) := by
    have := heap_alloc_new (w.alloc (.cells (gndC e v0 gen).toArray 26)) (.cells (u8s p).toArray 24)
    rwa [World.size_alloc] at this
  have hz2 : ((w.alloc (.cells (gndC e v0 gen).toArray 26)).alloc (.cells (u8s p).toArray 24)).heap.size = w.heap.size + 2 := by simp
  rw [← hz2] at k2
  have K0 := Lib.hid (blk_below k0 k2)
  have K1 := Lib.hid (blk_below k1 k2)
  have HH := Lib.hid (show Has X0 (w.heap.size + 2) 26 18 by rw [hX0, ← hz2]; exact has_new _ _ _ _ rfl)
  have HX := Lib.hid hX0
  have HV := Lib.hid (hv.below b0)
  have HS := Lib.hid (hs.below b0); have H18 := hs.lt
  have B0 := Lib.hid b0
  clear b0 hv hs hX0 k0 k1 k2 hz2 hp hpo
  go_enter Tryz.func41, Tryz.ntmps41
  go_wp2_with fail
  rw [show ((w.alloc (.cells (gndC e v0 gen).toArray 26)).alloc (.cells (u8s p).toArray 24)).alloc (.cells #[.int .i64 0, .slice none 0 0, .int .u8 0, .int .u8 0, .int .u8 0, .int .u8 0, .int .u8 0, .int .u8 0, .int .u8 0, .int .u8 0, .int .u8 0, .int .u8 0, .int .u8 0, .int .u8 0, .int .u8 0, .int .u8 0, .int .u8 0, .int .u8 0] 26) = X0 from HX.out.symm]
  refine (check1_any vs A n c aS X0 HV.out HS.out.s).mono ?_
  rintro _ w1 ⟨rfl, hb1⟩
  have B1 := Lib.hid (B0.out.trans (hb1.mono B0.out.size))
  have H1 := Lib.hid (HH.out.below hb1)
  have V1 := Lib.hid (HV.out.below hb1)
  have S1 := Lib.hid (HS.out.below hb1)
  have k0 := blk_below K0.out hb1
  have c0 := gnd_0 k0
  have RP := Lib.hid (blk_range (blk_below K1.out hb1))
  clear hb1 HX k0
  by_cases hval : validB vs = true
  case neg =>
    have hc : checkV vs aS = errV aS := by unfold checkV; rw [if_neg hval]
    have hvf : validB vs = false := by simpa using hval
    have HVF := Lib.hid hvf
    rw [hc]
    clear hc hval hvf
    go_wp2_with (refine wpList_store_row rfl 26 (.tmp 6) (.tmp 13) rfl (w.heap.size + 2) rfl (gndC 0 (.slice none 0 0) zero16) rfl 26 (by rw [zgnd_len]; exact H1.out) (by rw [zgnd_len]; exact Tryz.size26) (one_gnd _ _ _ rfl) ?_; intro w5 hp5; have K5 := Lib.hid hp5.blk; have B5 := Lib.hid (hp5.below B1.out (by omega)); clear hp5)
    refine bodyPost_ret (v := .tuple #[noG, errV aS]) (results_cell_row_tmp rfl _ _ (w.heap.size + 2) 26 _ (0, 0) _ rfl K5.out Tryz.underlying26 rfl (by simp only [List.size_toArray]; rw [zgnd_len]; exact Tryz.size26) rfl) rfl ⟨B5.out, .inl ⟨HVF.out, rfl⟩⟩
  have hc : checkV vs aS = .nilIface := by unfold checkV; rw [if_pos hval]
  rw [hc]
  have HVT := Lib.hid hval
  clear hc hval
  by_cases hin : 0 ≤ e ∧ e < 1073741824
  case neg =>
    have HOUT := Lib.hid (show OutE e by unfold OutE; omega)
    by_cases hlt : e < 0
    · clear hin
      go_wp2_with fail
      refine wp_region_rely4 (by kernel_rfl) 3 (by kernel_rfl) (by kernel_rfl) (But (fun t => t = w.heap.size + 2)) Ext 2 (But.refl _) Ext.refl Ext.trans But.trans (fun ix => match ix with
        | 0 => fun _ v => v = noG
        | 1 => fun _ v => v = errV aE
        | 2 => fun W _ => W.heap[w.heap.size + 2]? = some (.cells (gndC 0 (.slice none 0 0) zero16).toArray 26 (0, 0))
        | _ => fun _ _ => False) ?_
      simp (maxSteps := 10000000) only [Rely4, List.take_succ_cons, List.take_zero, List.drop_succ_cons, List.drop_zero, Nat.reduceAdd, Nat.zero_add, Act.put, List.setIfInBounds_toArray, List.set_cons_succ, List.set_cons_zero]
      refine ⟨?_, ?_, ?_, ?_⟩
      · refine step4o rfl (by decide) fun rv wq hE hd => ?_
        exact gives_bld 26 _ rfl #[] (by simp) _ (build27z _) ⟨⟨But.refl _ _, Ext.refl _⟩, fun _ _ => rfl⟩
      · refine step4o rfl (by decide) fun rv wq hE hd => ?_
        have hc := (but_drewT hE).cellT S1.out.e (by show ¬ (17 = w.heap.size + 2); omega)
        exact gives_loadAt 40 _ rfl (.pointer (some ⟨17, 0, none⟩)) (errV aE) rfl (by go_simp) ⟨⟨But.refl _ _, Ext.refl _⟩, fun _ _ => rfl⟩
      · refine step4m rfl fun rv wq hE hZ hd => ?_
        refine gives_store_row 26 _ _ rfl (w.heap.size + 2) rfl (gndC 0 (.slice none 0 0) zero16) (show rv 0 = _ from hd.1) 26 (by rw [zgnd_len]; exact H1.out.below (ext_of_drew hZ)) (by rw [zgnd_len]; exact Tryz.size26) (one_gnd _ _ _ rfl) ?_
        intro w5 hp
        exact ⟨⟨hp.os, hp.tape, hp.output, by rw [hp.size]; exact Nat.le_refl _, fun k _ hs => hp.other k hs⟩, fun W hW => blk_below hp.blk hW⟩
      · intro rv wq hE hR
        have h1 : rv 1 = errV aE := hR 1 (by omega)
        have h2 := hR 2 (by omega)
        rw [h1]
        have K5 := Lib.hid h2
        have hbt := but_drewT hE
        have B5 := Lib.hid (show Below w.heap.size w wq from B1.out.trans ⟨hbt.os, hbt.tape, hbt.output, hbt.size, fun k hk => hbt.same k (Nat.lt_of_lt_of_le hk B1.out.size) (by show ¬ (k = w.heap.size + 2); omega)⟩)
        clear hR hE h1 h2 hbt
        go_wp2_with fail
        refine bodyPost_ret (v := .tuple #[noG, errV aE]) (results_cell_row_tmp rfl _ _ (w.heap.size + 2) 26 _ (0, 0) _ rfl K5.out Tryz.underlying26 rfl (by simp only [List.size_toArray]; rw [zgnd_len]; exact Tryz.size26) rfl) rfl ⟨B5.out, .inr (.inl ⟨HVT.out, HOUT.out, rfl⟩)⟩

    · have hge : (1073741824 : Int) ≤ e := by omega
      clear hin
      go_wp2_with fail
      refine wp_region_rely4 (by kernel_rfl) 3 (by kernel_rfl) (by kernel_rfl) (But (fun t => t = w.heap.size + 2)) Ext 2 (But.refl _) Ext.refl Ext.trans But.trans (fun ix => match ix with
        | 0 => fun _ v => v = noG
        | 1 => fun _ v => v = errV aE
        | 2 => fun W _ => W.heap[w.heap.size + 2]? = some (.cells (gndC 0 (.slice none 0 0) zero16).toArray 26 (0, 0))
        | _ => fun _ _ => False) ?_
      simp (maxSteps := 10000000) only [Rely4, List.take_succ_cons, List.take_zero, List.drop_succ_cons, List.drop_zero, Nat.reduceAdd, Nat.zero_add, Act.put, List.setIfInBounds_toArray, List.set_cons_succ, List.set_cons_zero]
      refine ⟨?_, ?_, ?_, ?_⟩
      · refine step4o rfl (by decide) fun rv wq hE hd => ?_
        exact gives_bld 26 _ rfl #[] (by simp) _ (build27z _) ⟨⟨But.refl _ _, Ext.refl _⟩, fun _ _ => rfl⟩
      · refine step4o rfl (by decide) fun rv wq hE hd => ?_
        have hc := (but_drewT hE).cellT S1.out.e (by show ¬ (17 = w.heap.size + 2); omega)
        exact gives_loadAt 40 _ rfl (.pointer (some ⟨17, 0, none⟩)) (errV aE) rfl (by go_simp) ⟨⟨But.refl _ _, Ext.refl _⟩, fun _ _ => rfl⟩
      · refine step4m rfl fun rv wq hE hZ hd => ?_
        refine gives_store_row 26 _ _ rfl (w.heap.size + 2) rfl (gndC 0 (.slice none 0 0) zero16) (show rv 0 = _ from hd.1) 26 (by rw [zgnd_len]; exact H1.out.below (ext_of_drew hZ)) (by rw [zgnd_len]; exact Tryz.size26) (one_gnd _ _ _ rfl) ?_
        intro w5 hp
        exact ⟨⟨hp.os, hp.tape, hp.output, by rw [hp.size]; exact Nat.le_refl _, fun k _ hs => hp.other k hs⟩, fun W hW => blk_below hp.blk hW⟩
      · intro rv wq hE hR
        have h1 : rv 1 = errV aE := hR 1 (by omega)
        have h2 := hR 2 (by omega)
        rw [h1]
        have K5 := Lib.hid h2
        have hbt := but_drewT hE
        have B5 := Lib.hid (show Below w.heap.size w wq from B1.out.trans ⟨hbt.os, hbt.tape, hbt.output, hbt.size, fun k hk => hbt.same k (Nat.lt_of_lt_of_le hk B1.out.size) (by show ¬ (k = w.heap.size + 2); omega)⟩)
        clear hR hE h1 h2 hbt
        go_wp2_with fail
        refine bodyPost_ret (v := .tuple #[noG, errV aE]) (results_cell_row_tmp rfl _ _ (w.heap.size + 2) 26 _ (0, 0) _ rfl K5.out Tryz.underlying26 rfl (by simp only [List.size_toArray]; rw [zgnd_len]; exact Tryz.size26) rfl) rfl ⟨B5.out, .inr (.inl ⟨HVT.out, HOUT.out, rfl⟩)⟩

  obtain ⟨hin1, hin2⟩ := hin
  have hn1 : ¬ e < 0 := by omega
  have hn2 : ¬ (1073741824 : Int) ≤ e := by omega
  have HIN := Lib.hid (show InE e from ⟨hin1, hin2⟩)
  go_wp2_with (refine wpList_load_g rfl 24 (.tmp 4) rfl (w.heap.size + 1) 0 rfl (u8s p) _ RP.out Tryz.underlying24 rfl (hi24 p HP.out) ?_)
  clear hn1 hn2
  refine (ground_any (e + 1) p HP.out HPO.out (by omega) (by omega) vs A n c aR aS aE w1 V1.out S1.out).mono ?_
  rintro _ w2 ⟨hb2, hr⟩
  have B2 := Lib.hid (B1.out.trans (hb2.mono B1.out.size))
  have H2 := Lib.hid (H1.out.below hb2)
  clear hb2 c0 RP
  rcases hr with ⟨hv, rfl⟩ | ⟨hv, A2, c2, rfl, ho⟩
  · have HVF := Lib.hid hv
    clear hv
    go_wp2_with (refine wpList_store_row rfl 26 (.tmp 6) (.tmp 31) rfl (w.heap.size + 2) rfl (gndC 0 (.slice none 0 0) zero16) rfl 26 (by rw [zgnd_len]; exact H2.out) (by rw [zgnd_len]; exact Tryz.size26) (one_gnd _ _ _ rfl) ?_; intro w5 hp5; have K5 := Lib.hid hp5.blk; have B5 := Lib.hid (hp5.below B2.out (by omega)); clear hp5)
    refine bodyPost_ret (v := .tuple #[noG, errV aS]) (results_cell_row_tmp rfl _ _ (w.heap.size + 2) 26 _ (0, 0) _ rfl K5.out Tryz.underlying26 rfl (by simp only [List.size_toArray]; rw [zgnd_len]; exact Tryz.size26) rfl) rfl ⟨B5.out, .inl ⟨HVF.out, rfl⟩⟩
  · have HVT := Lib.hid hv
    have OW := Lib.hid ho
    clear hv ho
    obtain ⟨ID, hID⟩ : ∃ x, x = idB (GEN (e + 1) p) := ⟨_, rfl⟩
    have hidg : ID.length = 16 ∧ u8s_ok ID := hID ▸ idB_good _
    rw [← hID]
    have HID := Lib.hid hID
    have hgl := gnd_len ((e + 1)) (.slice A2 n c2) ID hidg.1
    clear hID
    go_wp2_with (refine wpList_store_row rfl 26 (.tmp 6) (.tmp 31) rfl (w.heap.size + 2) rfl (gndC ((e + 1)) (.slice A2 n c2) ID) rfl 26 (by rw [hgl]; exact H2.out) (by rw [hgl]; exact Tryz.size26) (one_gnd _ _ _ rfl) ?_; intro w9 hp9; have K9 := Lib.hid hp9.blk; have B9 := Lib.hid (hp9.below B2.out (by omega)); have O9 := Lib.hid (own_other OW.out H2.out (by decide) hp9); clear hp9)
    refine bodyPost_ret (v := .tuple #[gndV ((e + 1)) (.slice A2 n c2) ID, .nilIface]) (results_cell_row_tmp rfl _ _ (w.heap.size + 2) 26 _ (0, 0) _ rfl K9.out Tryz.underlying26 rfl (by simp only [List.size_toArray]; rw [hgl]; exact Tryz.size26) rfl) rfl ⟨B9.out, .inr (.inr ⟨HVT.out, HIN.out, A2, c2, by rw [HID.out], own_mono O9.out B1.out.size⟩)⟩
end Go.Proofs.YtniknhhejlgdfaaGreatDoor
/- ProofsGenesis: what the law does. -/
namespace Go.Proofs.YtniknhhejlgdfaaGreatDoor
open Go.RowKit

theorem run_eql24 (a b : List Int) (ha : a.length = 16) (hb : b.length = 16) (W : World) : (binOp .eql 24 (.agg (u8s a).toArray) (.agg (u8s b).toArray)).run Tryz.prog W = .ok (.bool (decide (a = b))) W :=
  run_eql_bytes 24 5 16 a b Tryz.underlying24 Tryz.underlying5 (by kernel_rfl) ha hb
end Go.Proofs.YtniknhhejlgdfaaGreatDoor
/- A comparison whose answer is known; the plain step and the one within a round. -/
namespace Go.Proofs.YtniknhhejlgdfaaGreatDoor
open Go.RowKit

section
variable {P : Program} {ops : Array Oper} {rest : List Oper} {o : Oper} {a : Act} {w : World} {Q : Exit → Act → World → Prop}
theorem wp_binG {K : Act → World → Prop} (op : BinOp) (t t2 : TypeId) (x y : Operand) (ho : o.op = .binOp op t x y t2) (a1 b1 v : Value) (hx : a.eval x = a1) (hy : a.eval y = b1) (hg : (eqGuard op t x y a1 b1).run P w = .ok () w) (hr : (binOp op t a1 b1).run P w = .ok v w)
    (h : K (a.put o.dst v) w) : o.wp P a w K Q := by
  unfold Oper.wp execOp
  simp only [ho, hx, hy, Sem.run_bind, hg, hr, Result.andThen_ok, Sem.run_pure]
  exact h
theorem wpList_binG (hw : Region.wanted o (yielded ops a.tmps) = true) (op : BinOp) (t t2 : TypeId) (x y : Operand) (ho : o.op = .binOp op t x y t2) (a1 b1 v : Value) (hx : a.eval x = a1) (hy : a.eval y = b1) (hg : (eqGuard op t x y a1 b1).run P w = .ok () w) (hr : (binOp op t a1 b1).run P w = .ok v w)
    (h : wpList P ops Q rest (a.put o.dst v) w) : wpList P ops Q (o :: rest) a w := by
  refine wpList_step fun K hK => ?_
  rw [if_pos hw]
  exact wp_binG op t t2 x y ho a1 b1 v hx hy hg hr (hK _ _ h)
end
theorem guard24 (op : BinOp) (x y : Operand) (a b : List Int) (W : World) : (eqGuard op 24 x y (.agg (u8s a).toArray) (.agg (u8s b).toArray)).run Tryz.prog W = .ok () W := by
  cases op <;> go_simp
end Go.Proofs.YtniknhhejlgdfaaGreatDoor
/- quoratelaw20.alive. -/
namespace Go.Proofs.YtniknhhejlgdfaaGreatDoor
open Go.RowKit

theorem one_valid : validB oneV = true := by kernel_rfl
set_option maxHeartbeats 8000000 in
set_option maxRecDepth 100000 in
theorem alive20_any (aR aS aE : Addr) (w : World) (hs : Em w aR aS aE) :
    Calls Tryz.prog 8 #[] w fun e w' => e = .returned (.bool true) ∧ Below w.heap.size w w' := by
  obtain ⟨X0, hX0⟩ : ∃ X, X = w.alloc (.cells (rcells oneV).toArray 90) := ⟨_, rfl⟩
  have b0 : Below w.heap.size w X0 := by rw [hX0]; exact (Below.refl _ _).alloc (Nat.le_refl _) _
  have HV : Hid (Vals X0 (.slice (some ⟨w.heap.size, 0, none⟩) 1 1) oneV) := Lib.hid (by rw [hX0]; exact Vals.new w oneV 90 oneV_good (by decide))
  have HS := Lib.hid (hs.below b0)
  have B0 := Lib.hid b0
  have HX := Lib.hid hX0
  clear hs b0 hX0
  go_enter Tryz.func8, Tryz.ntmps8
  go_wp2_with fail
  rw [show w.alloc (.cells #[.int .u8 1, .int .u8 0, .int .u8 0, .int .u8 0, .int .u8 0, .int .u8 0, .int .u8 0, .int .u8 0, .int .u8 0, .int .u8 0, .int .u8 0, .int .u8 0, .int .u8 0, .int .u8 0, .int .u8 0, .int .u8 0, .int .i64 1] 90) = X0 from HX.out.symm]
  refine (first_any oneV _ 1 1 aR aS aE X0 HV.out HS.out).mono ?_
  rintro _ w1 ⟨hb1, hr⟩
  rcases hr with ⟨hv, _⟩ | ⟨_, A2, c2, rfl, ho⟩
  · rw [one_valid] at hv; cases hv
  have B1 := Lib.hid (B0.out.trans (hb1.mono B0.out.size))
  clear hb1 ho HX HV HS
  obtain ⟨ID, hID⟩ : ∃ x, x = idB (GEN 1 zero16) := ⟨_, rfl⟩
  have hidg : ID.length = 16 ∧ u8s_ok ID := hID ▸ idB_good _
  rw [← hID]
  have HID := Lib.hid hID
  have HIG := Lib.hid hidg
  have hgl := gnd_len 1 (.slice A2 1 c2) ID hidg.1
  clear hID hidg
  go_wp2_with (refine wpList_store_row rfl 26 (.tmp 1) (.tmp 10) rfl w1.heap.size rfl (gndC 1 (.slice A2 1 c2) ID) rfl 26 (has_new w1 _ _ _ (by rw [hgl]; rfl)) (by rw [hgl]; exact Tryz.size26) (one_gnd _ _ _ rfl) ?_; intro w2 hp2; have L2 : Below w1.heap.size w1 w2 := hp2.below ((Below.refl _ _).alloc (Nat.le_refl _) _) (Nat.le_refl _); have B2 := Lib.hid (B1.out.trans (L2.mono B1.out.size)); have K2 := Lib.hid hp2.blk; clear hp2 L2)
  refine (rgenesis_any 1 zero16 zero16_len w2).mono ?_
  rintro _ w3 ⟨rfl, hb3⟩
  have B3 := Lib.hid (B2.out.trans (hb3.mono B2.out.size))
  have K3 := Lib.hid (blk_below K2.out hb3)
  clear hb3 K2
  go_wp2_with fail
  refine (refid_any w3 (genC 1 zero16) (GEN 1 zero16) (genAt w3 1 zero16 zero16_len zero16_ok) (genI 1 zero16 (by omega) (by omega))).mono ?_
  rintro _ w4 ⟨rfl, hb4⟩
  rw [(idGen 1 zero16 (by omega) (by omega) aR).2, ← HID.out]
  have B4 := Lib.hid (B3.out.trans (hb4.mono B3.out.size))
  have K4 := Lib.hid (blk_below K3.out hb4)
  clear hb4 K3
  go_wp2_with (first | (refine wpList_store_row rfl 24 (.tmp 3) (.tmp 16) rfl w4.heap.size rfl (u8s ID) rfl 24 (has_new w4 _ _ _ (by rw [u8s_len', HIG.out.1]; rfl)) (hi24 ID HIG.out.1) (one_u8s _) ?_; intro w5 hp5; have L5 : Below w4.heap.size w4 w5 := hp5.below ((Below.refl _ _).alloc (Nat.le_refl _) _) (Nat.le_refl _); have B5 := Lib.hid (B4.out.trans (L5.mono B4.out.size)); have k5 := blk_below K4.out L5; have c0 := gnd_0 k5; have c1 := gnd_1 k5; have G5 := Lib.hid (gnd_2 k5); have I5 := Lib.hid (blk_range hp5.blk); clear hp5 L5 k5) | (refine wpList_load_g rfl 24 (.tmp 26) rfl w1.heap.size 2 rfl (u8s ID) _ G5.out Tryz.underlying24 rfl (hi24 ID HIG.out.1) ?_) | (refine wpList_load_g rfl 24 (.tmp 3) rfl w4.heap.size 0 rfl (u8s ID) _ I5.out Tryz.underlying24 rfl (hi24 ID HIG.out.1) ?_) | (refine wpList_binG rfl .eql 24 24 (.tmp 27) (.tmp 28) rfl (.agg (u8s ID).toArray) (.agg (u8s ID).toArray) (.bool true) rfl rfl (guard24 _ _ _ _ _ _) ((run_eql24 ID ID HIG.out.1 HIG.out.1 _).trans (by rw [decide_eq_true rfl])) ?_))
  go_ret
  exact ⟨rfl, B5.out⟩
end Go.Proofs.YtniknhhejlgdfaaGreatDoor
