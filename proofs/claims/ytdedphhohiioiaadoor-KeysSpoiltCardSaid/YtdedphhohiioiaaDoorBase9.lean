/- Lemmas that laws of this seat rest on, part 9; each says its own conditions: RefSign, ChainsRecoversW, Open, Kit, KitB, KitD, Sents, KitN, Head, ChainsPublicW. -/
import Derived.Deep.QuietTactic
import Derived.BigQuiet
import Derived.ProofKit
import Derived.OpenShut
import Derived.Test.YtdedphhohiioiaaDoorTie
import Derived.Test.YtdedphhohiioiaaDoorCards
import Derived.LaidMore
import Derived.Stop.Joined
import Derived.Lib.LaidTab
import Derived.Lib.LaidU8
import Derived.SevenTiedAt
import Derived.Stop.LaidTwo
import Derived.Stop.LaidErr
import Derived.Test.YtdedphhohiioiaaDoorBase1
import Derived.Test.YtdedphhohiioiaaDoorBase2
import Derived.Test.YtdedphhohiioiaaDoorBase5
import Derived.Test.YtdedphhohiioiaaDoorBase6
import Derived.Test.YtdedphhohiioiaaDoorBase8
/- What the reference's Sign does; chains.Sign for a leaf that there is not. -/
namespace Go.Proofs.YtdedphhohiioiaaDoor
open Go.RowKit

set_option maxHeartbeats 4000000 in
set_option maxRecDepth 100000 in
theorem refSign_any (x : List Int) (hl : x.length = 16) (hx : u8s_ok x) (l : Int) (m : List Int) (hlm : m.length = 16) (hm : u8s_ok m) (w : World) :
    Calls Tryd.prog 57 #[.agg (u8s x).toArray, .int .i64 l, .agg (u8s m).toArray] w fun e w' => ∃ v, e = .returned v ∧ w'.ownsRow w.heap.size 43 16 v 68 (dcells (sigC l x m 68)) ∧ Below w.heap.size w w' := by
  have hi43 : ∀ V : List Int, V.length = 16 → (Tryd.prog.info? 43).map (·.size) = some (u8s V).length := fun V h => by rw [u8s_len', h]; exact Tryd.size43
  obtain ⟨W0, hW0⟩ : ∃ W0, W0 = ((w.alloc (.cells (u8s x).toArray 43)).alloc (.cells (u8s m).toArray 43)).alloc (.cells #[] 43) := ⟨_, rfl⟩
  have q0 : W0.rangeAt w.heap.size 0 (u8s x) := by
    rw [hW0]
    exact World.rangeAt_alloc (World.rangeAt_alloc (range_new w (u8s x) 43) _) _
  have q1 : W0.rangeAt (w.heap.size + 1) 0 (u8s m) := by
    rw [hW0]
    have := World.rangeAt_alloc (range_new (w.alloc (.cells (u8s x).toArray 43)) (u8s m) 43) (.cells #[] 43)
    rwa [World.size_alloc] at this
  have q2 : W0.ownsRow (w.heap.size + 2) 43 16 (.slice (some ⟨w.heap.size + 1 + 1, 0, none⟩) 0 0) 0 (dcells (sigC l x m 0)) := by
    rw [hW0]
    have := World.ownsRow_made (base := w.heap.size + 2) (size := 16) (e := 43) ((w.alloc (.cells (u8s x).toArray 43)).alloc (.cells (u8s m).toArray 43)) #[] 0 (by simp) (by simp) rfl
    rw [World.size_alloc, World.size_alloc] at this
    exact this
  have b0 : Below w.heap.size w W0 := by rw [hW0]; exact (((Below.refl _ _).alloc (Nat.le_refl _) _).alloc (by simp) _).alloc (by simp; omega) _
  have HL := Lib.hid hl
  have HX := Lib.hid hx
  have HLM := Lib.hid hlm
  have HM := Lib.hid hm
  have Q0 := Lib.hid q0
  have Q1 := Lib.hid q1
  have OW := Lib.hid q2
  have B0 := Lib.hid b0
  clear hl hx hlm hm q0 q1 b0 q2
  go_enter Tryd.func57, Tryd.ntmps57
  go_wp2_with (refine wpList_load_g rfl 43 (.tmp 5) rfl (w.heap.size + 1) 0 rfl (u8s m) _ (by subst hW0; exact Q1.out) Tryd.underlying43 rfl (hi43 m HLM.out) ?_)
  change Calls _ _ _ (((w.alloc (.cells (u8s x).toArray 43)).alloc (.cells (u8s m).toArray 43)).alloc (.cells #[] 43)) _
  rw [← hW0]
  have hz0 : W0.heap.size = w.heap.size + 3 := by rw [hW0]; simp
  clear hW0
  refine (refDigits_any m HLM.out HM.out W0).mono ?_
  rintro e w2 ⟨dv, rfl, hdown, hb2⟩
  obtain ⟨db, doff, dc, hde, hdc1, hdc2, hdcell⟩ := Row.of_own hdown (by omega)
  have hdl : (digits m).length = 68 := by
    have := hdown.1
    simpa [i64s] using this
  have hil : (i64s (digits m)).length = 68 := by simp [i64s, hdl]
  rw [hil] at hde
  subst hde
  have Q2 := Lib.hid (range_below Q0.out hb2)
  have B2 := Lib.hid (B0.out.trans (hb2.mono B0.out.size))
  have hz2 : w.heap.size + 2 ≤ w2.heap.size := by have := hb2.size; omega
  have OW2 := Lib.hid (own_bel OW.out hb2)
  have HD : Hid (∀ U : World, U.heap[db]? = w2.heap[db]? → ∀ j : Nat, j < 68 → U.cell? ⟨db, doff + j, none⟩ = some (.int .i64 ((digits m).getD j 0))) := Lib.hid fun U hU j hj => by
    have hc := hdcell j (.int .i64 ((digits m).getD j 0)) (by simp [i64s, List.getD_eq_getElem?_getD, List.getElem?_eq_getElem (show j < (digits m).length by omega)])
    rw [World.cell?_of_block (a := ⟨db, doff + j, none⟩) hU]
    exact hc
  obtain ⟨cn, hcur⟩ : ∃ cs, w2.heap[db]? = some (.cells cs 3 (0, 0)) := by
    rcases hdown.2 with ⟨e, h0⟩ | ⟨g, cap, cur, e, hb, hg, _⟩
    · cases e
    · simp only [Value.slice.injEq, Option.some.injEq, Addr.mk.injEq] at e
      obtain ⟨⟨rfl, -, -⟩, -, -⟩ := e
      exact ⟨_, hg⟩
  have HCUR := Lib.hid hcur
  clear hdown hb2 hdcell hdl hil Q0 Q1 B0 hdc1 hdc2 OW hcur hz0
  go_wp2_with fail
  obtain ⟨i0, hi, hzz⟩ := Option.map_eq_some_iff.1 Tryd.info43
  go_loopw [7, 14] (fun v k wr => ∃ (i : Nat), i ≤ 68 ∧ k = .int .i64 i ∧ Hid (wr.ownsRow (w.heap.size + 2) 43 16 v i (dcells (sigC l x m i))) ∧ Hid (Below (w.heap.size + 2) w2 wr) ∧ Hid (wr.heap[db]? = some (.cells cn 3 (0, 0))))
    (fun _ k _ => 68 - (intOf k).toNat)
  case atStart => exact ⟨0, by omega, rfl, OW2, Lib.hid (Below.refl _ _), HCUR⟩
  case round =>
    obtain ⟨i, hi68, rfl, hown, hbel, hcur⟩ := hrel
    have hwz : w.heap.size + 2 ≤ wr.heap.size := by have := hbel.out.size; omega
    by_cases hlt : i < 68
    · have hcd := HD.out wr (hcur.out.trans HCUR.out.symm) i hlt
      have hra : wr.rangeAt w.heap.size 0 (u8s x) := fun j v hv => (hbel.out.cell (p := ⟨w.heap.size, 0 + j, none⟩) (show w.heap.size < w.heap.size + 2 by omega)).trans (Q2.out j v hv)
      have RA := Lib.hid hra
      have hil : (i : Int) < 68 := by omega
      obtain ⟨dj, hdj⟩ : ∃ d, d = (digits m).getD i 0 := ⟨_, rfl⟩
      have hdd := digit_in m i
      obtain ⟨SE, hSE⟩ : ∃ s, s = secretC l i x := ⟨_, rfl⟩
      have hsg := secret_good l i x
      obtain ⟨R, hR⟩ : ∃ r, r = runC l i SE 0 dj := ⟨_, rfl⟩
      have hRl : R.length = 16 := by rw [hR, hSE]; exact (runC_good l i _ 0 dj hsg.1 hsg.2).1
      have hsig : sigC l x m (i + 1) = sigC l x m i ++ [R] := by rw [sigC_succ, sigAt, ← hdj, ← hSE, ← hR]
      have hrw : walkC l i SE (0 : Nat) dj.toNat = R := by
        rw [hR]
        show _ = walkC l i SE (max (0 : Int) 0).toNat (min dj 3).toNat
        rw [show min dj 3 = dj by omega]
        rfl
      rw [← hSE] at hsg
      rw [← hdj] at hcd hdd
      have HSE := Lib.hid hSE
      have HSG := Lib.hid hsg
      have HSIG := Lib.hid hsig
      have HRL := Lib.hid hRl
      have HRW := Lib.hid hrw
      have hdj1 : dj ≤ 1000 := by omega
      clear hra hdj hdd hSE hsg hR hsig hRl hrw
      go_wp2_with (refine wpList_load_g rfl 43 (.tmp 3) rfl w.heap.size 0 rfl (u8s x) _ RA.out Tryd.underlying43 rfl (hi43 x HL.out) ?_)
      refine (refSecret_any x HL.out HX.out l i wr).mono ?_
      rintro e w3 ⟨rfl, hb3⟩
      rw [show short 1 [x, [l % 256], [(i : Int) % 256]] = SE by rw [HSE.out]; rfl]
      go_wp2_with fail
      refine (refRun_any SE HSG.out.1 HSG.out.2 l i 0 dj hdj1 w3).mono ?_
      rintro e w4 ⟨rfl, hb4⟩
      rw [HRW.out]
      have hb34 : Below wr.heap.size wr w4 := hb3.trans (hb4.mono hb3.size)
      have OW4 := Lib.hid (own_bel hown.out hb34)
      have CU4 := Lib.hid (blk_below hcur.out hb34)
      have L4 := Lib.hid (hbel.out.trans (hb34.mono hwz))
      have hwz4 : w.heap.size + 2 ≤ w4.heap.size := Nat.le_trans hwz hb34.size
      clear hb34 hb3 hb4 hown hbel hcur hcd RA
      go_wp2_with (first | (refine wpList_build_run rfl 55 1 _ rfl #[(0, .agg (u8s R).toArray)] (by simp only [List.map_toArray, List.map_cons, List.map_nil]; rfl) _ (build55 R HRL.out w4) ?_) | (at_builtin; refine appN (w0 := w4) (w.heap.size + 2) rfl (.tmp 19) (.tmp 28) 55 43 (.agg (Array.replicate 16 (.int .u8 0))) 16 16 rfl Tryd.underlying55 Tryd.info43 rfl (by omega) (by omega) _ i _ rfl ⟨w4.heap.size, 0, none⟩ 1 1 (u8s R) rfl (by rw [u8s_len', HRL.out]) (fun j u hu => by rw [show (⟨w4.heap.size, 0, none⟩ : Addr).add j = ⟨w4.heap.size, 0 + j, none⟩ by unfold Addr.add; split <;> simp_all]; exact range_new w4 (u8s R) 43 j u hu) (one_u8s _) (OW4.out.alloc _) ((Below.refl _ _).alloc hwz4 _) (by simp; omega) (by omega) ?_; intro v5 w5 ap5; have AP5 := Lib.hid ap5; clear ap5))
      have own5 : w5.ownsRow (w.heap.size + 2) 43 16 v5 (i + 1) (dcells (sigC l x m (i + 1))) := by
        rw [HSIG.out, dcells_append, show dcells [R] = u8s R by simp [dcells]]
        exact AP5.out.own
      have cu5 : w5.heap[db]? = some (.cells cn 3 (0, 0)) := AP5.out.blk ((Below.heap_alloc w4 _ _ (blk_lt CU4.out)).trans CU4.out) (own_not OW4.out CU4.out (by decide))
      go_roundw
      case rel => exact ⟨i + 1, by omega, by go_num, Lib.hid own5, Lib.hid (L4.out.trans AP5.out.below), Lib.hid cu5⟩
      case measure => simp [intOf]; omega
    · obtain rfl : i = 68 := by omega
      go_wp2
      go_ret
      exact ⟨_, rfl, ownsRow_mono hown.out (by omega), B2.out.trans (hbel.out.mono (by omega))⟩

set_option maxHeartbeats 4000000 in
set_option maxRecDepth 100000 in
theorem sign_bad (x m : List Int) (l : Int) (hbad : ¬ (0 ≤ l ∧ l < 32)) (aR : Addr) (w : World) (hr : w.cell? ⟨1, 0, none⟩ = some (errV aR)) :
    Calls Tryd.prog 47 #[.agg (u8s x).toArray, .int .i64 l, .agg (u8s m).toArray] w fun e w' => e = .returned (.tuple #[.slice none 0 0, errV aR]) ∧ Below w.heap.size w w' := by
  obtain ⟨W0, hW0⟩ : ∃ W0, W0 = (w.alloc (.cells (u8s x).toArray 43)).alloc (.cells (u8s m).toArray 43) := ⟨_, rfl⟩
  have b0 : Below w.heap.size w W0 := by rw [hW0]; exact ((Below.refl _ _).alloc (Nat.le_refl _) _).alloc (by simp) _
  have hc := cell_on b0 hr
  have B0 := Lib.hid b0
  clear b0 hr
  go_enter Tryd.func47, Tryd.ntmps47
  go_wp2_with fail
  change Calls _ _ _ ((w.alloc (.cells (u8s x).toArray 43)).alloc (.cells (u8s m).toArray 43)) _
  rw [← hW0]
  clear hW0
  refine (right_any l W0).mono ?_
  rintro e w1 ⟨rfl, rfl⟩
  rw [decide_eq_false hbad]
  go_wp2
  go_quiet (fail)
  go_wp2
  go_ret2
  exact ⟨rfl, B0.out.trans ⟨rfl, rfl, rfl, Nat.le_refl _, fun _ _ => rfl⟩⟩
end Go.Proofs.YtdedphhohiioiaaDoor
/- ChainsRecovers: what the law does. -/
namespace Go.Proofs.YtdedphhohiioiaaDoor
open Go.RowKit Go.Shelf

theorem zero_ok : u8s_ok zero16 := fun b hb => by rw [List.eq_of_mem_replicate hb]; unfold B8; omega
theorem sen_at {w : World} {al : List Addr} (h : SenN w al) (k : Nat) (hk : k < 18) : ∃ a, al[k]? = some a := ⟨_, List.getElem?_eq_getElem (by rw [h.len]; exact hk)⟩
theorem num_k {w : World} {al : List Addr} (h : SenN w al) (k : Nat) (a : Addr) (hk : al[k]? = some a) (z : Int) (hz : z = (k : Int) + 1) : Calls Tryd.prog 45 #[errV a] w fun e w' => e = .returned (.int .i64 z) ∧ Below w.heap.size w w' := by
  rw [hz]
  exact num_err al k a w h hk
theorem wpList_eql43 {ops : Array Oper} {rest : List Oper} {o : Oper} {a : Act} {w : World} {Q : Exit → Act → World → Prop} (hw : Region.wanted o (yielded ops a.tmps) = true) (x y : Operand) (t2 : TypeId) (ho : o.op = .binOp .eql 43 x y t2) (xs ys : List Int) (hx : a.eval x = .agg (u8s xs).toArray) (hy : a.eval y = .agg (u8s ys).toArray)
    (hl1 : xs.length = 16) (hl2 : ys.length = 16) (hg : (eqGuard .eql 43 x y (.agg (u8s xs).toArray) (.agg (u8s ys).toArray)).run Tryd.prog w = .ok () w) (h : wpList Tryd.prog ops Q rest (a.put o.dst (.bool (decide (xs = ys)))) w) : wpList Tryd.prog ops Q (o :: rest) a w := by
  refine wpList_step fun K hK => ?_
  rw [if_pos hw]
  unfold Oper.wp execOp
  simp only [ho, hx, hy, Sem.run_bind, hg, run_eql_bytes 43 5 16 xs ys Tryd.underlying43 Tryd.underlying5 (by kernel_rfl) hl1 hl2, Result.andThen_ok, Sem.run_pure]
  exact hK _ _ h

set_option maxHeartbeats 8000000 in
set_option maxRecDepth 100000 in
theorem chainsRecovers_any (l : Int) (A : Option Addr) (k c : Nat) (ds : List (List Int)) (m : List Int) (al : List Addr) (w : World) (hd : Dgs w (.slice A k c) ds) (hkl : k = ds.length) (hlm : m.length = 16) (hm : u8s_ok m) (hS : SenN w al) (hk : w.rangeAt 18 0 (u32s kk)) (h18 : 18 < w.heap.size) :
    Calls Tryd.prog 17 #[.int .i64 l, .slice A k c, .agg (u8s m).toArray] w fun e w' => e = .returned (.bool true) ∧ Below w.heap.size w w' := by
  have hi43 : ∀ V : List Int, V.length = 16 → (Tryd.prog.info? 43).map (·.size) = some (u8s V).length := fun V h => by rw [u8s_len', h]; exact Tryd.size43
  obtain ⟨W0, hW0⟩ : ∃ W0, W0 = w.alloc (.cells (u8s m).toArray 43) := ⟨_, rfl⟩
  have b0 : Below w.heap.size w W0 := by rw [hW0]; exact (Below.refl _ _).alloc (Nat.le_refl _) _
  have q0 : W0.rangeAt w.heap.size 0 (u8s m) := by rw [hW0]; exact range_new w (u8s m) 43
  have B0 := Lib.hid b0
  have Q0 := Lib.hid q0
  have HD := Lib.hid hd
  have HKL := Lib.hid hkl
  have HLM := Lib.hid hlm
  have HM := Lib.hid hm
  have HS := Lib.hid hS
  have HK := Lib.hid hk
  clear b0 q0 hd hkl hlm hm hS hk
  go_enter Tryd.func17, Tryd.ntmps17
  go_wp2_with fail
  change Calls _ _ _ (w.alloc (.cells (u8s m).toArray 43)) _
  rw [← hW0]
  clear hW0
  refine (alive_chains W0).mono ?_
  rintro e w1 ⟨rfl, hb1⟩
  have B1 := Lib.hid (B0.out.trans (hb1.mono B0.out.size))
  have R1 := Lib.hid (range_below Q0.out hb1)
  clear hb1 B0 Q0
  by_cases h100 : 100 < k
  · have hki : (100 : Int) < k := by omega
    go_wp2_with fail
    go_ret
    exact ⟨rfl, B1.out⟩
  have hki : ¬ (100 : Int) < k := by omega
  have D1 := Lib.hid (HD.out.below B1.out)
  have S1 := Lib.hid (HS.out.below B1.out)
  have K1 := Lib.hid (range_below HK.out B1.out)
  have h181 : 18 < w1.heap.size := Nat.lt_of_lt_of_le h18 B1.out.size
  by_cases hr : 0 ≤ l ∧ l < 32
  · obtain ⟨h0, h1⟩ := hr
    have hn0 : ¬ l < 0 := by omega
    have hn1 : ¬ (31 : Int) < l := by omega
    by_cases hk68 : k = 68
    · subst hk68
      go_wp2_with (refine wpList_load_g rfl 43 (.tmp 5) rfl w.heap.size 0 rfl (u8s m) _ R1.out Tryd.underlying43 rfl (hi43 m HLM.out) ?_)
      refine (recover_ok l A 68 c ds m w1 h0 h1 (fun W h => D1.out.below h) HKL.out rfl HLM.out HM.out K1.out h181).mono ?_
      rintro e w2 ⟨rfl, hb2⟩
      obtain ⟨ST, hST⟩ : ∃ s, s = publicC l (recE l ds m 68) := ⟨_, rfl⟩
      have hsl : ST.length = 16 := by rw [hST]; exact (publicC_good _ _).1
      rw [← hST]
      have HST := Lib.hid hST
      have HSL := Lib.hid hsl
      have HHN := Lib.hid (has_new w2 (Array.replicate 16 (Value.int .u8 0)) 43 (u8s ST).length (by rw [u8s_len', hsl]; rfl))
      have B2 := Lib.hid (B1.out.trans (hb2.mono B1.out.size))
      have R2 := Lib.hid (range_below R1.out hb2)
      have D2 := Lib.hid (D1.out.below hb2)
      clear hST hsl hb2
      go_wp2_with (refine wpList_store_row rfl 43 (.tmp 7) (.tmp 19) rfl w2.heap.size rfl (u8s ST) rfl 43 HHN.out (hi43 ST HSL.out) (one_u8s _) ?_; intro w3 hp3; have L3 : Below w2.heap.size w2 w3 := (hp3.below ((Below.refl _ _).alloc (Nat.le_refl _) _) (Nat.le_refl _)); have RS := Lib.hid (blk_range hp3.blk); have B3 := Lib.hid (B2.out.trans (L3.mono B2.out.size)); have R3 := Lib.hid (range_below R2.out L3); have D3 := Lib.hid (D2.out.below L3); clear hp3 L3)
      refine wp_region_rely (by kernel_rfl) 10 (by kernel_rfl) (by kernel_rfl) Ext Ext.refl Ext.trans (fun ix => match ix with
        | 0 => fun _ v => v = .nilIface
        | 1 => fun _ v => v = .bool true
        | 2 => fun _ v => v = .bool true
        | 3 => fun _ v => v = .agg (u8s ST).toArray
        | 4 => fun _ v => v = .int .i64 l
        | 5 => fun _ v => v = .slice A 68 c
        | 6 => fun _ v => v = .agg (u8s m).toArray
        | 7 => fun _ v => v = .agg (u8s ST).toArray
        | 8 => fun _ v => v = .bool true
        | 9 => fun _ v => v = .bool true
        | _ => fun _ _ => False) ?_
      simp (maxSteps := 10000000) only [Rely, List.take_succ_cons, List.take_zero, List.drop_succ_cons, List.drop_zero, Nat.reduceAdd, Nat.zero_add, Act.put, List.setIfInBounds_toArray, List.set_cons_succ, List.set_cons_zero]
      refine ⟨?_, ?_, ?_, ?_, ?_, ?_, ?_, ?_, ?_, ?_, ?_⟩
      · refine step_plain rfl fun vs wq hE hd => ?_
        exact gives_move _ (.nilIface) (.inl rfl) rfl ⟨Ext.refl _, fun _ _ => rfl⟩
      · refine step_plain rfl fun vs wq hE hd => ?_
        exact gives_binOp .eql 57 _ _ _ rfl (.nilIface) (Value.nilIface) (.bool true) (show vs 0 = _ from hd.1) rfl (by go_simp) (by go_simp) ⟨Ext.refl _, fun _ _ => rfl⟩
      · refine step_plain rfl fun vs wq hE hd => ?_
        exact gives_move _ (.bool true) (.inl rfl) (show vs 1 = _ from hd.1) ⟨Ext.refl _, fun _ _ => rfl⟩
      · refine step_guard 2 true 50 rfl rfl (fun _ => rfl) fun vs wq hE hd => ⟨hd.1, ?_⟩
        exact gives_load_row 43 _ rfl w2.heap.size 0 rfl (u8s ST) _ (range_below RS.out (ext_of_drew hE)) Tryd.underlying43 rfl (hi43 ST HSL.out) ⟨Ext.refl _, fun _ _ => rfl⟩
      · refine step_guard 2 true 50 rfl rfl (fun _ => rfl) fun vs wq hE hd => ⟨hd.1, ?_⟩
        exact gives_move _ (.int .i64 l) (.inl rfl) rfl ⟨Ext.refl _, fun _ _ => rfl⟩
      · refine step_guard 2 true 50 rfl rfl (fun _ => rfl) fun vs wq hE hd => ⟨hd.1, ?_⟩
        exact gives_move _ (.slice A 68 c) (.inl rfl) rfl ⟨Ext.refl _, fun _ _ => rfl⟩
      · refine step_guard 2 true 50 rfl rfl (fun _ => rfl) fun vs wq hE hd => ⟨hd.1, ?_⟩
        exact gives_load_row 43 _ rfl w.heap.size 0 rfl (u8s m) _ (range_below R3.out (ext_of_drew hE)) Tryd.underlying43 rfl (hi43 m HLM.out) ⟨Ext.refl _, fun _ _ => rfl⟩
      · refine step_guard 2 true 50 rfl rfl (fun _ => rfl) fun vs wq hE hd => ⟨hd.2.2.2.1, ?_⟩
        refine gives_call 55 (enters_of Tryd.func55 (by kernel_rfl) rfl) _ _ rfl rfl [.int .i64 l, .slice A 68 c, .agg (u8s m).toArray] ?_ ?_
        · show [vs 4, vs 5, vs 6] = _
          rw [show vs 4 = _ from (hd.1), show vs 5 = _ from (hd.2.1), show vs 6 = _ from (hd.2.2.1)]
        · refine (refRecover_any l A 68 c ds m wq (D3.out.below (ext_of_drew hE)) HKL.out rfl HLM.out HM.out).mono ?_
          rintro _ w'' ⟨rfl, hb⟩
          exact ⟨_, rfl, hb, fun _ _ => by rw [HST.out]; rfl⟩
      · refine step_guard 2 true 50 rfl rfl (fun _ => rfl) fun vs wq hE hd => ⟨hd.2.2.1, ?_⟩
        have hsame := run_same16 ST HSL.out
        exact gives_binOp .eql 43 _ _ _ rfl (.agg (u8s ST).toArray) (.agg (u8s ST).toArray) (.bool true) (show vs 3 = _ from (hd.1)) (show vs 7 = _ from (hd.2.1)) (by go_simp) (by go_simp) ⟨Ext.refl _, fun _ _ => rfl⟩
      · refine step_plain rfl fun vs wq hE hd => ?_
        exact gives_pick _ _ _ (.bool true) true rfl (show vs 2 = _ from hd.1) (show vs 8 = _ from hd.2.1) ⟨Ext.refl _, fun _ _ => rfl⟩
      · intro vs wz hE hR
        have h9 : vs 9 = .bool true := hR 9 (by omega)
        have hb : Below w.heap.size w wz := B3.out.trans ((ext_of_drew hE).mono B3.out.size)
        have HB := Lib.hid hb
        rw [h9]
        clear hR hE h9 hb
        go_wp2
        go_ret
        exact ⟨rfl, HB.out⟩
    · have hkne : ((k : Int) != 68) = true := by simp; omega
      obtain ⟨aE, haE⟩ := sen_at S1.out 3 (by omega)
      have hcE := S1.out.cell 3 0 aE rfl haE
      go_wp2_with (refine wpList_load_g rfl 43 (.tmp 5) rfl w.heap.size 0 rfl (u8s m) _ R1.out Tryd.underlying43 rfl (hi43 m HLM.out) ?_)
      refine (recover_form l A k c m aE w1 h0 h1 hk68 hcE).mono ?_
      rintro e w2 ⟨rfl, hb2⟩
      have HAE := Lib.hid haE
      have HHN := Lib.hid (has_new w2 (Array.replicate 16 (Value.int .u8 0)) 43 (u8s zero16).length (by rw [u8s_len', zero16_len]; rfl))
      have B2 := Lib.hid (B1.out.trans (hb2.mono B1.out.size))
      have S2 := Lib.hid (S1.out.below hb2)
      clear hb2 haE hcE
      go_wp2_with (first | (refine wpList_store_row rfl 43 (.tmp 7) (.tmp 19) rfl w2.heap.size rfl (u8s zero16) rfl 43 HHN.out (hi43 zero16 zero16_len) (one_u8s _) ?_; intro w3 hp3; have L3 : Below w2.heap.size w2 w3 := (hp3.below ((Below.refl _ _).alloc (Nat.le_refl _) _) (Nat.le_refl _)); have RS := Lib.hid (blk_range hp3.blk); have B3 := Lib.hid (B2.out.trans (L3.mono B2.out.size)); have S3 := Lib.hid (S2.out.below L3); clear hp3 L3) | (refine wpList_load_g rfl 43 (.tmp 7) rfl w2.heap.size 0 rfl (u8s zero16) _ RS.out Tryd.underlying43 rfl (hi43 _ zero16_len) ?_) | (refine wpList_eql43 rfl _ _ _ rfl zero16 zero16 rfl rfl zero16_len zero16_len (by go_simp) ?_; rw [decide_eq_true rfl]))
      refine (num_k S3.out 3 aE HAE.out 4 rfl).mono ?_
      rintro e w4 ⟨rfl, hb4⟩
      have B4 := Lib.hid (B3.out.trans (hb4.mono B3.out.size))
      clear hb4
      go_wp2_with fail
      go_ret
      exact ⟨rfl, B4.out⟩
  · by_cases hneg : l < 0
    · obtain ⟨aE, haE⟩ := sen_at S1.out 0 (by omega)
      have hcE := S1.out.cell 0 1 aE rfl haE
      go_wp2_with (refine wpList_load_g rfl 43 (.tmp 5) rfl w.heap.size 0 rfl (u8s m) _ R1.out Tryd.underlying43 rfl (hi43 m HLM.out) ?_)
      refine (recover_range l A k c m aE w1 hr hcE).mono ?_
      rintro e w2 ⟨rfl, hb2⟩
      have HAE := Lib.hid haE
      have HHN := Lib.hid (has_new w2 (Array.replicate 16 (Value.int .u8 0)) 43 (u8s zero16).length (by rw [u8s_len', zero16_len]; rfl))
      have B2 := Lib.hid (B1.out.trans (hb2.mono B1.out.size))
      have S2 := Lib.hid (S1.out.below hb2)
      clear hb2 haE hcE
      go_wp2_with (first | (refine wpList_store_row rfl 43 (.tmp 7) (.tmp 19) rfl w2.heap.size rfl (u8s zero16) rfl 43 HHN.out (hi43 zero16 zero16_len) (one_u8s _) ?_; intro w3 hp3; have L3 : Below w2.heap.size w2 w3 := (hp3.below ((Below.refl _ _).alloc (Nat.le_refl _) _) (Nat.le_refl _)); have RS := Lib.hid (blk_range hp3.blk); have B3 := Lib.hid (B2.out.trans (L3.mono B2.out.size)); have S3 := Lib.hid (S2.out.below L3); clear hp3 L3) | (refine wpList_load_g rfl 43 (.tmp 7) rfl w2.heap.size 0 rfl (u8s zero16) _ RS.out Tryd.underlying43 rfl (hi43 _ zero16_len) ?_) | (refine wpList_eql43 rfl _ _ _ rfl zero16 zero16 rfl rfl zero16_len zero16_len (by go_simp) ?_; rw [decide_eq_true rfl]))
      refine (num_k S3.out 0 aE HAE.out 1 rfl).mono ?_
      rintro e w4 ⟨rfl, hb4⟩
      have B4 := Lib.hid (B3.out.trans (hb4.mono B3.out.size))
      clear hb4
      go_wp2_with fail
      go_ret
      exact ⟨rfl, B4.out⟩
    · have hbig : (31 : Int) < l := by omega
      obtain ⟨aE, haE⟩ := sen_at S1.out 0 (by omega)
      have hcE := S1.out.cell 0 1 aE rfl haE
      go_wp2_with (refine wpList_load_g rfl 43 (.tmp 5) rfl w.heap.size 0 rfl (u8s m) _ R1.out Tryd.underlying43 rfl (hi43 m HLM.out) ?_)
      refine (recover_range l A k c m aE w1 hr hcE).mono ?_
      rintro e w2 ⟨rfl, hb2⟩
      have HAE := Lib.hid haE
      have HHN := Lib.hid (has_new w2 (Array.replicate 16 (Value.int .u8 0)) 43 (u8s zero16).length (by rw [u8s_len', zero16_len]; rfl))
      have B2 := Lib.hid (B1.out.trans (hb2.mono B1.out.size))
      have S2 := Lib.hid (S1.out.below hb2)
      clear hb2 haE hcE
      go_wp2_with (first | (refine wpList_store_row rfl 43 (.tmp 7) (.tmp 19) rfl w2.heap.size rfl (u8s zero16) rfl 43 HHN.out (hi43 zero16 zero16_len) (one_u8s _) ?_; intro w3 hp3; have L3 : Below w2.heap.size w2 w3 := (hp3.below ((Below.refl _ _).alloc (Nat.le_refl _) _) (Nat.le_refl _)); have RS := Lib.hid (blk_range hp3.blk); have B3 := Lib.hid (B2.out.trans (L3.mono B2.out.size)); have S3 := Lib.hid (S2.out.below L3); clear hp3 L3) | (refine wpList_load_g rfl 43 (.tmp 7) rfl w2.heap.size 0 rfl (u8s zero16) _ RS.out Tryd.underlying43 rfl (hi43 _ zero16_len) ?_) | (refine wpList_eql43 rfl _ _ _ rfl zero16 zero16 rfl rfl zero16_len zero16_len (by go_simp) ?_; rw [decide_eq_true rfl]))
      refine (num_k S3.out 0 aE HAE.out 1 rfl).mono ?_
      rintro e w4 ⟨rfl, hb4⟩
      have B4 := Lib.hid (B3.out.trans (hb4.mono B3.out.size))
      clear hb4
      go_wp2_with fail
      go_ret
      exact ⟨rfl, B4.out⟩
end Go.Proofs.YtdedphhohiioiaaDoor
/- Arguments that came in, opened. -/
namespace Go.Proofs.YtdedphhohiioiaaDoor
open Go.ChangeShapes Go.WideShapes Go.ChangeAt Go.RowKit

def numOf : Value → Int
  | .int _ n => n
  | _ => 0

theorem open_bytes {P : Program} {H : Type} {enc : TypeId × Value → H} {w : World} {base : Nat} {spare : Nat → Bool} {held : Bool} {t e n : Nat} {v : Value} {d : DataW H} {ps : List MemPlace}
    (ht : P.underlying t = some (.array n e)) (he : P.underlying e = some (.int .u8)) (hc : P.cellsOf e = 1) (hct : P.cellsOf t = n) (hn : n ≠ 1)
    (h : DataW.Trod enc P w base spare held t v d ps) : ∃ bs : List Int, v = .agg (u8s bs).toArray ∧ bs.length = n ∧ ∀ b ∈ bs, 0 ≤ b ∧ b ≤ 255 := by
  obtain ⟨fuel, hf⟩ := h
  obtain ⟨xs, m, _, _, hlen, hl, hel⟩ := DataW.trod_array ht hf
  rw [hct] at hlen
  have hv : ∃ cs, v = .agg cs := by
    cases v with
    | agg cs => exact ⟨cs, rfl⟩
    | _ => simp [Value.cells] at hlen; omega
  obtain ⟨cs, rfl⟩ := hv
  simp only [Value.cells] at hlen hel
  have hcell : ∀ i, i < n → ∃ z, cs.toList[i]? = some (.int .u8 z) ∧ 0 ≤ z ∧ z ≤ 255 := by
    intro i hi
    have hE := hel i hi
    rw [hc, Nat.mul_one, List.getElem?_eq_getElem (by omega)] at hE
    obtain ⟨z, e1, _, wz⟩ := DataW.trod_int he hE
    refine ⟨z, ?_, ?_⟩
    · have h0 : ((cs.toList.drop i).take 1)[0]? = some (.int .u8 z) := by rw [e1]; rfl
      simpa using h0
    · simp only [Lit.wf, IntKind.min, IntKind.max, IntKind.signed, IntKind.bits] at wz
      simp at wz
      omega
  refine ⟨cs.toList.map numOf, ?_, by simpa using hlen, ?_⟩
  · congr 1
    apply Array.ext'
    apply List.ext_getElem?
    intro i
    by_cases hi : i < n
    · obtain ⟨z, hz, _⟩ := hcell i hi
      rw [hz]
      simp [u8s, numOf, hz]
    · rw [List.getElem?_eq_none (by omega), List.getElem?_eq_none (by simp [u8s]; simp at hlen; omega)]
  · intro b hb
    obtain ⟨v, hv, rfl⟩ := List.mem_map.1 hb
    obtain ⟨i, hi⟩ := List.getElem?_of_mem hv
    have hlt : i < n := by rw [← hlen]; exact (List.getElem?_eq_some_iff.1 hi).1
    obtain ⟨z, hz, h0, h1⟩ := hcell i hlt
    rw [hi] at hz
    obtain rfl := Option.some.inj hz
    exact ⟨h0, h1⟩
end Go.Proofs.YtdedphhohiioiaaDoor
/- What all cards of this seat share: the constants as they are laid, slices of bytes that came in. -/
namespace Go.Proofs.YtdedphhohiioiaaDoor
open Go.ChangeShapes Go.WideShapes Go.ChangeAt Go.RowKit

theorem own : ownKnob Tryd.prog.godebug = none := by kernel_rfl
theorem laidOut : laidOutB Tryd.prog = true := by kernel_rfl
theorem Tryd.gK : Tryd.prog.globalNamed "quorate/hash.constants" = some 18 := by kernel_rfl
theorem Tryd.gKType : (Tryd.prog.globals[18]?).map (·.type) = some 104 := by kernel_rfl
theorem Tryd.cells103 : Tryd.prog.cellsOf 103 = 1 := by kernel_rfl
theorem Tryd.cells104 : Tryd.prog.cellsOf 104 = 64 := by kernel_rfl
theorem Tryd.globals : Tryd.prog.globals.size = 19 := by kernel_rfl

theorem kk_datum : (Rows.laid_quorate_hash_constants : DataW Unit) = Lib.tabData .u32 kk := by kernel_rfl

/-- The constants lie in their block. -/
theorem kk_range_of {W : World} (h : W.var? Tryd.prog "quorate/hash.constants" = some (kk.map fun z => Value.int .u32 z).toArray) : W.rangeAt 18 0 (u32s kk) := fun j v hv => by
  have := World.var?_cell Tryd.gK h j
  rw [Nat.zero_add, this]
  simpa [u32s] using hv
set_option maxRecDepth 100000 in
theorem kk_of_laid1 {W : World} (h : laidMetH Tryd.prog [("quorate/hash.constants", Rows.laid_quorate_hash_constants)] W) : W.rangeAt 18 0 (u32s kk) := by
  rw [MakeChecks.laidMetH_plain _ _ _ (by kernel_rfl), kk_datum] at h
  exact kk_range_of (Lib.tabIs_of_head Tryd.gK Tryd.gKType Tryd.underlying104 Tryd.underlying103 Tryd.cells103 Tryd.cells104 h)
theorem size_of_range {W : World} (h : W.rangeAt 18 0 (u32s kk)) : 18 < W.heap.size := by
  have := h 0 (.int .u32 (kk.getD 0 0)) rfl
  exact World.block_lt_of_cell? W _ this

set_option maxRecDepth 100000 in
/-- A slice of bytes that came in. -/
theorem open_bs {H : Type} {enc : TypeId × Value → H} {W : World} {base b0 : Nat} {r : Reach} {spare : Nat → Bool} {held : Bool} {v : Value} {d : DataW H} {ps : List MemPlace} (hval : Value.okWide Tryd.prog W r b0 22 v)
    (h : DataW.Trod enc Tryd.prog W base spare held 22 v d ps) : ∃ bs A n c, v = .slice A n c ∧ n = bs.length ∧ Bs W (.slice A n c) bs := by
  obtain ⟨fuel, hf⟩ := h
  obtain ⟨A, n, c, rfl⟩ := okWide_slice Tryd.underlying22 hval
  rcases open_ints Tryd.underlying22 Tryd.underlying5 (by kernel_rfl) hf with ⟨hc, _⟩ | ⟨a, len, cap, zs, hc, _, h1, h2, h3, _, h4, h5⟩
  · simp only [Value.cells, List.cons.injEq, Value.slice.injEq, and_true] at hc
    obtain ⟨rfl, rfl, rfl⟩ := hc
    exact ⟨[], none, 0, 0, rfl, rfl, Bs.nil⟩
  · simp only [Value.cells, List.cons.injEq, Value.slice.injEq, and_true] at hc
    obtain ⟨rfl, rfl, rfl⟩ := hc
    have hzl : n ≤ zs.length := by rw [h3]; split <;> omega
    have hl : (zs.take n).length = n := by rw [List.length_take]; omega
    refine ⟨zs.take n, _, n, c, rfl, hl.symm, ⟨⟨_, c, by rw [hl]⟩, fun hne => ?_, fun b hb => ?_⟩⟩
    · have hn : 0 < n := by
        cases n with
        | zero => exact absurd rfl hne
        | succ => omega
      obtain ⟨b, off, sp⟩ := a
      have h0 := h4 0 (by omega)
      have hsp : sp = none := by
        simp only [Addr.add, if_true, World.cell?] at h0
        split at h0
        · cases sp with
          | none => rfl
          | some x => simp at h0
        · cases h0
      subst hsp
      refine ⟨b, off, c, by rw [hl], by rw [hl]; exact h1, h2, World.block_lt_of_cell? W _ h0, fun i hi => ?_⟩
      rw [hl] at hi
      have := h4 i (by omega)
      rw [show (⟨b, off, none⟩ : Addr).add i = ⟨b, off + i, none⟩ by unfold Addr.add; split <;> simp_all] at this
      rw [this]
      simp [List.getD_eq_getElem?_getD, hi]
    · have := h5 b (List.mem_of_mem_take hb)
      simp only [Lit.wf, IntKind.min, IntKind.max, IntKind.signed, IntKind.bits] at this
      simp at this
      unfold B8
      omega

set_option maxRecDepth 100000 in
theorem door_met1 (os : Os) (args : Array Value) : laidMetH Tryd.prog [("quorate/hash.constants", Rows.laid_quorate_hash_constants)] ((World.doorLaid Tryd.prog 356 os).forCall (fun _ _ => 0) ⟨#[], args, []⟩).memory :=
  laidMetH_of_parts3 (fuel := 8) (laidMet_of_run' 8 (by kernel_rfl) (by kernel_rfl)) (by kernel_rfl) (by kernel_rfl)
end Go.Proofs.YtdedphhohiioiaaDoor
/- Slices of slices of bytes that came in. -/
namespace Go.Proofs.YtdedphhohiioiaaDoor
open Go.ChangeShapes Go.WideShapes Go.ChangeAt Go.RowKit

theorem spot_none {W : World} {b off : Nat} {sp} {u : Value} (h : W.cell? ((⟨b, off, sp⟩ : Addr).add 0) = some u) : sp = none := by
  simp only [Addr.add, if_true, World.cell?] at h
  split at h
  · cases sp with
    | none => rfl
    | some x => simp at h
  · cases h
theorem add_none (b off i : Nat) : (⟨b, off, none⟩ : Addr).add i = ⟨b, off + i, none⟩ := by unfold Addr.add; split <;> simp_all

set_option maxRecDepth 100000 in
theorem open_bs_cells {H : Type} {enc : TypeId × Value → H} {W : World} {base : Nat} {spare : Nat → Bool} {held : Bool} {fuel : Nat} {cs : List Value} {x : DataW H × List MemPlace}
    (h : DataW.trod enc Tryd.prog W base spare held fuel 22 cs = some x) : ∃ bs A c, cs = [.slice A bs.length c] ∧ Bs W (.slice A bs.length c) bs := by
  rcases open_ints Tryd.underlying22 Tryd.underlying5 (by kernel_rfl) h with ⟨rfl, _⟩ | ⟨a, n, c, zs, rfl, _, h1, h2, h3, _, h4, h5⟩
  · exact ⟨[], none, 0, rfl, Bs.nil⟩
  · have hzl : n ≤ zs.length := by rw [h3]; split <;> omega
    have hl : (zs.take n).length = n := by rw [List.length_take]; omega
    refine ⟨zs.take n, _, c, by rw [hl], ⟨⟨_, c, rfl⟩, fun hne => ?_, fun b hb => ?_⟩⟩
    · have hn : 0 < n := by
        cases n with
        | zero => exact absurd rfl hne
        | succ => omega
      obtain ⟨b, off, sp⟩ := a
      have h0 := h4 0 (by omega)
      obtain rfl := spot_none h0
      refine ⟨b, off, c, rfl, by rw [hl]; exact h1, h2, World.block_lt_of_cell? W _ h0, fun i hi => ?_⟩
      rw [hl] at hi
      have := h4 i (by omega)
      rw [add_none] at this
      rw [this]
      simp [List.getD_eq_getElem?_getD, hi]
    · have := h5 b (List.mem_of_mem_take hb)
      simp only [Lit.wf, IntKind.min, IntKind.max, IntKind.signed, IntKind.bits] at this
      simp at this
      unfold B8
      omega

set_option maxRecDepth 100000 in
/-- A slice of slices of bytes that came in. -/
theorem open_bss {H : Type} {enc : TypeId × Value → H} {W : World} {base b0 : Nat} {r : Reach} {spare : Nat → Bool} {held : Bool} {v : Value} {d : DataW H} {ps : List MemPlace} (hval : Value.okWide Tryd.prog W r b0 30 v)
    (h : DataW.Trod enc Tryd.prog W base spare held 30 v d ps) : ∃ bss A n c, v = .slice A n c ∧ n = bss.length ∧ Bss W (.slice A n c) bss := by
  obtain ⟨fuel, hf⟩ := h
  obtain ⟨A, n, c, rfl⟩ := okWide_slice Tryd.underlying30 hval
  have c22 : Tryd.prog.cellsOf 22 = 1 := by kernel_rfl
  rcases DataW.trod_slice Tryd.underlying30 hf with ⟨hc, _⟩ | ⟨a, len, cap, elems, rest, k, _, hc, _, _, hl, hm, hlen, hel, _, _⟩
  · simp only [Value.cells, List.cons.injEq, Value.slice.injEq, and_true] at hc
    obtain ⟨rfl, rfl, rfl⟩ := hc
    exact ⟨[], none, 0, 0, rfl, rfl, ⟨_, _, rfl⟩, fun h => absurd rfl h⟩
  · simp only [Value.cells, List.cons.injEq, Value.slice.injEq, and_true] at hc
    obtain ⟨rfl, rfl, rfl⟩ := hc
    have each : ∀ i, ∃ ub : Value × List Int, i < n → W.cell? (a.add i) = some ub.1 ∧ Bs W ub.1 ub.2 := by
      intro i
      by_cases hi : i < n
      · have he := hel i hi
        rw [c22, Nat.mul_one, List.getElem?_eq_getElem (by omega), Option.bind_eq_some_iff] at he
        obtain ⟨cs', hcs, hy'⟩ := he
        obtain ⟨bs, A', c', rfl, hb⟩ := open_bs_cells hy'
        exact ⟨(_, bs), fun _ => ⟨cell_of_cells?_one hcs, hb⟩⟩
      · exact ⟨(undef, []), fun h => absurd h hi⟩
    obtain ⟨f, hff⟩ := Classical.axiomOfChoice each
    refine ⟨(List.range n).map fun i => (f i).2, some a, n, c, rfl, by simp, ⟨some a, c, by simp⟩, fun hne => ?_⟩
    have hn : 0 < n := by
      cases n with
      | zero => exact absurd rfl hne
      | succ => omega
    obtain ⟨b, off, sp⟩ := a
    obtain ⟨h0, _⟩ := hff 0 hn
    obtain rfl := spot_none h0
    refine ⟨b, off, c, by simp, by simpa using hl, hm, World.block_lt_of_cell? W _ h0, fun i hi => ?_⟩
    have hi : i < n := by simpa using hi
    obtain ⟨hi1, hi2⟩ := hff i hi
    rw [add_none] at hi1
    refine ⟨_, hi1, ?_⟩
    rw [List.getD_eq_getElem?_getD, List.getElem?_map, List.getElem?_range hi]
    exact hi2
end Go.Proofs.YtdedphhohiioiaaDoor
/- Digests that came in: slices of them, pairs of them. -/
namespace Go.Proofs.YtdedphhohiioiaaDoor
open Go.ChangeShapes Go.WideShapes Go.ChangeAt Go.RowKit

theorem c43 : Tryd.prog.cellsOf 43 = 16 := by kernel_rfl
set_option maxRecDepth 100000 in
/-- The cells of a digest that came in. -/
theorem open_dg_cells {H : Type} {enc : TypeId × Value → H} {W : World} {base : Nat} {spare : Nat → Bool} {held : Bool} {fuel : Nat} {cs : List Value} {x : DataW H × List MemPlace}
    (h : DataW.trod enc Tryd.prog W base spare held fuel 43 cs = some x) : ∃ d : List Int, cs = u8s d ∧ d.length = 16 ∧ u8s_ok d := by
  have c5 : Tryd.prog.cellsOf 5 = 1 := by kernel_rfl
  obtain ⟨xs, m, _, _, hl16, hxl, hel⟩ := DataW.trod_array Tryd.underlying43 h
  rw [c43] at hl16
  have hcell : ∀ i, i < 16 → ∃ z, cs[i]? = some (.int .u8 z) ∧ 0 ≤ z ∧ z ≤ 255 := by
    intro i hi
    have hE := hel i hi
    rw [c5, Nat.mul_one, List.getElem?_eq_getElem (by omega)] at hE
    obtain ⟨z, e1, _, wz⟩ := DataW.trod_int Tryd.underlying5 hE
    refine ⟨z, ?_, ?_⟩
    · have h0 : ((cs.drop i).take 1)[0]? = some (.int .u8 z) := by rw [e1]; rfl
      simpa using h0
    · simp only [Lit.wf, IntKind.min, IntKind.max, IntKind.signed, IntKind.bits] at wz
      simp at wz
      omega
  refine ⟨cs.map fun v => match v with | .int _ z => z | _ => 0, ?_, by simp [hl16], ?_⟩
  · apply List.ext_getElem?
    intro i
    by_cases hi : i < 16
    · obtain ⟨z, hz, _⟩ := hcell i hi
      rw [hz]
      simp [u8s, hz]
    · rw [List.getElem?_eq_none (by omega), List.getElem?_eq_none (by simp [u8s]; omega)]
  · intro b hb
    obtain ⟨v, hv, rfl⟩ := List.mem_map.1 hb
    obtain ⟨i, hi, hiv⟩ := List.mem_iff_getElem.1 hv
    obtain ⟨z, hz, h1, h2⟩ := hcell i (by omega)
    rw [List.getElem?_eq_getElem hi, hiv] at hz
    cases hz
    exact ⟨h1, h2⟩

set_option maxRecDepth 100000 in
theorem open_dgs_cells {H : Type} {enc : TypeId × Value → H} {W : World} {base : Nat} {spare : Nat → Bool} {held : Bool} {fuel : Nat} {cs : List Value} {x : DataW H × List MemPlace}
    (h : DataW.trod enc Tryd.prog W base spare held fuel 55 cs = some x) : ∃ ds A c, cs = [.slice A ds.length c] ∧ Dgs W (.slice A ds.length c) ds := by
  rcases DataW.trod_slice Tryd.underlying55 h with ⟨rfl, _⟩ | ⟨a, n, c, elems, rest, k, _, rfl, _, _, hl, hm, hlen, hel, _, _⟩
  · exact ⟨[], none, 0, rfl, ⟨_, _, rfl⟩, fun h => absurd rfl h, fun d hd => by simp at hd⟩
  · have each : ∀ i, ∃ X : List Int, i < n → (X.length = 16 ∧ u8s_ok X) ∧ ∀ j u, (u8s X)[j]? = some u → W.cell? ((a.add (i * 16)).add j) = some u := by
      intro i
      by_cases hi : i < n
      · have he := hel i hi
        rw [c43, List.getElem?_eq_getElem (by omega), Option.bind_eq_some_iff] at he
        obtain ⟨cs', hcs, hy'⟩ := he
        obtain ⟨X, rfl, hX, hok⟩ := open_dg_cells hy'
        refine ⟨X, fun _ => ⟨⟨hX, hok⟩, fun j u hu => ?_⟩⟩
        have := (World.cells?_some hcs).2
        have hj : j < 16 := by have := (List.getElem?_eq_some_iff.1 hu).1; rwa [u8s_len', hX] at this
        first
          | exact (this j hj).trans hu
          | exact (this.2 j hj).trans hu
      · exact ⟨[], fun h => absurd h hi⟩
    obtain ⟨f, hff⟩ := Classical.axiomOfChoice each
    refine ⟨(List.range n).map f, some a, c, by simp, ⟨some a, c, by simp⟩, fun hne => ?_, fun x hx => ?_⟩
    · have hn : 0 < n := by
        cases n with
        | zero => exact absurd rfl hne
        | succ => omega
      obtain ⟨b, off, sp⟩ := a
      obtain ⟨⟨hl0, _⟩, h0⟩ := hff 0 hn
      have h00 : ∃ u, (u8s (f 0))[0]? = some u := ⟨_, List.getElem?_eq_getElem (by rw [u8s_len', hl0]; omega)⟩
      obtain ⟨u, hu⟩ := h00
      have hc0 := h0 0 u hu
      have hadd0 : (⟨b, off, sp⟩ : Addr).add (0 * 16) = ⟨b, off, sp⟩ := by simp [Addr.add]
      rw [hadd0] at hc0
      obtain rfl := spot_none hc0
      refine ⟨b, off, c, by simp, by simpa using hl, hm, World.block_lt_of_cell? W _ hc0, fun i hi j u hu => ?_⟩
      have hi : i < n := by simpa using hi
      rw [List.getD_eq_getElem?_getD, List.getElem?_map, List.getElem?_range hi] at hu
      have := (hff i hi).2 j u hu
      rw [add_none, add_none] at this
      exact this
    · rw [List.mem_map] at hx
      obtain ⟨i, hi, rfl⟩ := hx
      exact (hff i (by simpa using hi)).1
set_option maxRecDepth 100000 in
/-- A slice of digests that came in. -/
theorem open_dgs {H : Type} {enc : TypeId × Value → H} {W : World} {base b0 : Nat} {r : Reach} {spare : Nat → Bool} {held : Bool} {v : Value} {d : DataW H} {ps : List MemPlace} (hval : Value.okWide Tryd.prog W r b0 55 v)
    (h : DataW.Trod enc Tryd.prog W base spare held 55 v d ps) : ∃ ds A n c, v = .slice A n c ∧ n = ds.length ∧ Dgs W (.slice A n c) ds := by
  obtain ⟨fuel, hf⟩ := h
  obtain ⟨A, n, c, rfl⟩ := okWide_slice Tryd.underlying55 hval
  obtain ⟨ds, A', c', hc, hd⟩ := open_dgs_cells hf
  simp only [Value.cells, List.cons.injEq, Value.slice.injEq, and_true] at hc
  obtain ⟨rfl, rfl, rfl⟩ := hc
  exact ⟨ds, A, _, c, rfl, rfl, hd⟩
set_option maxRecDepth 100000 in
/-- Two digests that came in. -/
theorem open_dg2 {H : Type} {enc : TypeId × Value → H} {W : World} {base : Nat} {spare : Nat → Bool} {held : Bool} {v : Value} {d : DataW H} {ps : List MemPlace}
    (h : DataW.Trod enc Tryd.prog W base spare held 73 v d ps) : ∃ d0 d1 : List Int, v = .agg (u8s d0 ++ u8s d1).toArray ∧ (d0.length = 16 ∧ u8s_ok d0) ∧ (d1.length = 16 ∧ u8s_ok d1) := by
  have c73 : Tryd.prog.cellsOf 73 = 32 := by kernel_rfl
  obtain ⟨fuel, hf⟩ := h
  obtain ⟨xs, m, _, _, hlen, hl, hel⟩ := DataW.trod_array Tryd.underlying73 hf
  rw [c73] at hlen
  have hv : ∃ cs, v = .agg cs := by
    cases v with
    | agg cs => exact ⟨cs, rfl⟩
    | _ => simp [Value.cells] at hlen
  obtain ⟨cs, rfl⟩ := hv
  simp only [Value.cells] at hlen hel
  have h0 := hel 0 (by omega)
  have h1 := hel 1 (by omega)
  rw [c43, List.getElem?_eq_getElem (by omega)] at h0 h1
  obtain ⟨d0, e0, l0, o0⟩ := open_dg_cells h0
  obtain ⟨d1, e1, l1, o1⟩ := open_dg_cells h1
  refine ⟨d0, d1, ?_, ⟨l0, o0⟩, ⟨l1, o1⟩⟩
  rw [Nat.zero_mul, List.drop_zero] at e0
  rw [Nat.one_mul] at e1
  have : cs.toList = u8s d0 ++ u8s d1 := by
    rw [← e0, ← e1, List.take_of_length_le (l := cs.toList.drop 16) (by rw [List.length_drop]; omega), List.take_append_drop]
  rw [← this, Array.toArray_toList]
end Go.Proofs.YtdedphhohiioiaaDoor
/- All sentinels of a list that is laid: where they lie, and that no two are one. -/
namespace Go.Proofs.YtdedphhohiioiaaDoor
open Go.RowKit

def sentL (nm : String) (L : List (String × List UInt8)) : List (String × DataW Unit) := L.map fun x => (x.1, .iface nm (.ptr (.agg [.lit (.string x.2)])))
theorem laid_all {P : Program} {nm : String} {W : World} {ti tp te ts : TypeId} {ms : Array (String × TypeId)} {f : Field}
    (hi : P.underlying ti = some (.interface ms)) (hrow : ∀ u, P.typeName? 3 u = some nm → u = tp)
    (hp : P.underlying tp = some (.pointer te)) (he : P.underlying te = some (.struct #[f])) (hft : f.type = ts) (hfo : f.offset = 0) (hs : P.underlying ts = some .string) (hc : P.cellsOf te = 1) (hcs : P.cellsOf ts = 1) :
    ∀ (L : List (String × List UInt8)) (T : List (String × DataW Unit)) (gs : List Nat) (ps : List MemPlace), L.map (fun x => P.globalNamed x.1) = gs.map some → (∀ g ∈ gs, (P.globals[g]?).map (·.type) = some ti) →
      DataW.LaidVars P W (sentL nm L ++ T) ps → (∀ b off, MemPlace.cell b off ∈ ps → ∀ u v, W.cell? ⟨b, off, none⟩ = some (.iface u v) → Value.okWide P W .any 0 u v) →
      ∃ al : List Addr, al.length = gs.length ∧ (∀ (i g : Nat) (a : Addr), gs[i]? = some g → al[i]? = some a → W.cell? ⟨g, 0, none⟩ = some (.iface tp (.pointer (some a)))) ∧ (al.map fun a => MemPlace.cell a.block a.off).Sublist ps
  | [], T, gs, ps, hg, _, _, _ => by
    have : gs = [] := by cases gs with | nil => rfl | cons => simp at hg
    subst this
    exact ⟨[], rfl, fun i g a h => by simp at h, List.nil_sublist _⟩
  | (n, text) :: L, T, gs, ps, hg, ht, hl, hok => by
    cases gs with
    | nil => simp at hg
    | cons g gs =>
      simp only [List.map_cons, List.cons.injEq] at hg
      obtain ⟨hg0, hg1⟩ := hg
      obtain ⟨g', t', cs, fu, p, q, hg', ht', hv, hd, hrest, e⟩ := hl
      obtain rfl := Option.some.inj (hg0.symm.trans hg')
      obtain rfl := Option.some.inj ((ht g (by simp)).symm.trans ht')
      subst e
      obtain ⟨l⟩ := cs
      have ok0 : ∀ u v, l = [.iface u v] → Value.okWide P W .any 0 u v := fun u v e => by
        subst e
        exact hok g 0 (by simp [MemPlace.row]) u v (by simpa using World.var?_cell hg' hv 0)
      obtain ⟨a, s, rfl, hca, hsa, hza, rfl⟩ := errorString_of_trod hi hrow hp he hft hfo hs hc hcs hd ok0
      obtain ⟨al, h1, h2, h3⟩ := laid_all hi hrow hp he hft hfo hs hc hcs L T gs q hg1 (fun x hx => ht x (List.mem_cons_of_mem _ hx)) hrest (fun b off hb => hok b off (List.mem_append_right _ hb))
      refine ⟨a :: al, by simp [h1], fun i g2 a2 hg2 ha2 => ?_, ?_⟩
      · cases i with
        | zero =>
          simp only [List.getElem?_cons_zero, Option.some.injEq] at hg2 ha2
          subst hg2 ha2
          exact World.var?_cell hg' hv 0
        | succ i => exact h2 i g2 a2 (by simpa using hg2) (by simpa using ha2)
      · rw [List.map_cons]
        have hsub : [MemPlace.cell a.block a.off].Sublist (MemPlace.row ⟨g, 0, none⟩ 1 ++ MemPlace.row a 1) := by simp [MemPlace.row]
        first
          | exact hsub.append h3
          | (rw [List.append_assoc]; exact hsub.append h3)
end Go.Proofs.YtdedphhohiioiaaDoor
/- All sentinels and the constants as they are laid. -/
namespace Go.Proofs.YtdedphhohiioiaaDoor
open Go.ChangeShapes Go.WideShapes Go.ChangeAt Go.RowKit

theorem Tryd.cells172 : Tryd.prog.cellsOf 172 = 1 := by kernel_rfl
theorem Tryd.cells9 : Tryd.prog.cellsOf 9 = 1 := by kernel_rfl
theorem Tryd.star : "*" ++ "errors.errorString" = "*errors.errorString" := by decide
set_option maxRecDepth 100000 in
theorem Tryd.row147 (u : TypeId) (h : Tryd.prog.typeName? 3 u = some "*errors.errorString") : u = 147 :=
  typeName_ptr_named (nm := "errors.errorString") (by rw [Tryd.star]; kernel_rfl) (by kernel_rfl) (by decide) u (by rw [Tryd.star]; exact h)

abbrev laidS : List (String × DataW Unit) := [("quorate/api.ErrRange", Rows.laid_quorate_api_ErrRange), ("quorate/api.ErrShort", Rows.laid_quorate_api_ErrShort), ("quorate/api.ErrLong", Rows.laid_quorate_api_ErrLong), ("quorate/api.ErrForm", Rows.laid_quorate_api_ErrForm), ("quorate/api.ErrSpent", Rows.laid_quorate_api_ErrSpent), ("quorate/api.ErrPower", Rows.laid_quorate_api_ErrPower), ("quorate/api.ErrDisk", Rows.laid_quorate_api_ErrDisk), ("quorate/api.ErrFull", Rows.laid_quorate_api_ErrFull), ("quorate/api.ErrNone", Rows.laid_quorate_api_ErrNone), ("quorate/api.ErrOld", Rows.laid_quorate_api_ErrOld), ("quorate/api.ErrSet", Rows.laid_quorate_api_ErrSet), ("quorate/api.ErrProof", Rows.laid_quorate_api_ErrProof), ("quorate/api.ErrLeader", Rows.laid_quorate_api_ErrLeader), ("quorate/api.ErrRound", Rows.laid_quorate_api_ErrRound), ("quorate/api.ErrUnsafe", Rows.laid_quorate_api_ErrUnsafe), ("quorate/api.ErrParent", Rows.laid_quorate_api_ErrParent), ("quorate/api.ErrTwice", Rows.laid_quorate_api_ErrTwice), ("quorate/api.ErrEpoch", Rows.laid_quorate_api_ErrEpoch)]
abbrev laidN : List (String × DataW Unit) := [("quorate/api.ErrRange", Rows.laid_quorate_api_ErrRange), ("quorate/api.ErrShort", Rows.laid_quorate_api_ErrShort), ("quorate/api.ErrLong", Rows.laid_quorate_api_ErrLong), ("quorate/api.ErrForm", Rows.laid_quorate_api_ErrForm), ("quorate/api.ErrSpent", Rows.laid_quorate_api_ErrSpent), ("quorate/api.ErrPower", Rows.laid_quorate_api_ErrPower), ("quorate/api.ErrDisk", Rows.laid_quorate_api_ErrDisk), ("quorate/api.ErrFull", Rows.laid_quorate_api_ErrFull), ("quorate/api.ErrNone", Rows.laid_quorate_api_ErrNone), ("quorate/api.ErrOld", Rows.laid_quorate_api_ErrOld), ("quorate/api.ErrSet", Rows.laid_quorate_api_ErrSet), ("quorate/api.ErrProof", Rows.laid_quorate_api_ErrProof), ("quorate/api.ErrLeader", Rows.laid_quorate_api_ErrLeader), ("quorate/api.ErrRound", Rows.laid_quorate_api_ErrRound), ("quorate/api.ErrUnsafe", Rows.laid_quorate_api_ErrUnsafe), ("quorate/api.ErrParent", Rows.laid_quorate_api_ErrParent), ("quorate/api.ErrTwice", Rows.laid_quorate_api_ErrTwice), ("quorate/api.ErrEpoch", Rows.laid_quorate_api_ErrEpoch), ("quorate/hash.constants", Rows.laid_quorate_hash_constants)]
abbrev laidP : List (String × DataW Unit) := [("quorate/api.ErrRange", Rows.laid_quorate_api_ErrRange), ("quorate/api.ErrForm", Rows.laid_quorate_api_ErrForm), ("quorate/hash.constants", Rows.laid_quorate_hash_constants)]
def textOf : DataW Unit → List UInt8
  | .iface _ (.ptr (.agg [.lit (.string t)])) => t
  | _ => []
def laidNL : List (String × List UInt8) := laidS.map fun x => (x.1, textOf x.2)
def laidPL : List (String × List UInt8) := (laidP.take 2).map fun x => (x.1, textOf x.2)
theorem laidN_eq : laidN = sentL "*errors.errorString" laidNL ++ [("quorate/hash.constants", Rows.laid_quorate_hash_constants)] := rfl
theorem laidP_eq : laidP = sentL "*errors.errorString" laidPL ++ [("quorate/hash.constants", Rows.laid_quorate_hash_constants)] := rfl
theorem laidN_named : laidNL.map (fun x => Tryd.prog.globalNamed x.1) = senG.map some := by kernel_rfl
theorem laidP_named : laidPL.map (fun x => Tryd.prog.globalNamed x.1) = [1, 0].map some := by kernel_rfl
theorem laidN_types : ∀ g ∈ senG, (Tryd.prog.globals[g]?).map (·.type) = some 57 := by
  intro g hg
  have : senG.all (fun g => decide ((Tryd.prog.globals[g]?).map (·.type) = some 57)) = true := by kernel_rfl
  rw [List.all_eq_true] at this
  exact of_decide_eq_true (this g hg)
theorem laidP_types : ∀ g ∈ [1, 0], (Tryd.prog.globals[g]?).map (·.type) = some 57 := fun g hg => laidN_types g (by simp [senG] at hg ⊢; omega)
set_option maxRecDepth 100000 in
theorem sen_of_laidN {W : World} (h : laidMetH Tryd.prog laidN W) : ∃ al, SenN W al := by
  rw [MakeChecks.laidMetH_plain _ _ _ (by kernel_rfl)] at h
  obtain ⟨ps, hv, hnd, hrows⟩ := h
  rw [laidN_eq] at hv
  obtain ⟨al, h1, h2, h3⟩ := laid_all Tryd.underlying57 Tryd.row147 Tryd.underlying147 Tryd.underlying172 rfl rfl Tryd.underlying9 Tryd.cells172 Tryd.cells9 laidNL _ senG ps laidN_named laidN_types hv (fun b off hb => (hrows b off hb).2)
  refine ⟨al, h1, h2, List.Pairwise.of_map _ (fun a b hab e => hab (by rw [e])) (h3.nodup hnd), fun a ha => ?_⟩
  exact (hrows a.block a.off (h3.subset (List.mem_map.2 ⟨a, ha, rfl⟩))).1
set_option maxRecDepth 100000 in
theorem sen_of_laidP {W : World} (h : laidMetH Tryd.prog laidP W) : ∃ aR aF, W.cell? ⟨1, 0, none⟩ = some (errV aR) ∧ W.cell? ⟨0, 0, none⟩ = some (errV aF) := by
  rw [MakeChecks.laidMetH_plain _ _ _ (by kernel_rfl)] at h
  obtain ⟨ps, hv, hnd, hrows⟩ := h
  rw [laidP_eq] at hv
  obtain ⟨al, h1, h2, h3⟩ := laid_all Tryd.underlying57 Tryd.row147 Tryd.underlying147 Tryd.underlying172 rfl rfl Tryd.underlying9 Tryd.cells172 Tryd.cells9 laidPL _ [1, 0] ps laidP_named laidP_types hv (fun b off hb => (hrows b off hb).2)
  match al, h1, h2 with
  | [aR, aF], _, h2 => exact ⟨aR, aF, h2 0 1 aR rfl rfl, h2 1 0 aF rfl rfl⟩
set_option maxRecDepth 100000 in
theorem kk_of_laidP {W : World} (h : laidMetH Tryd.prog laidP W) : W.rangeAt 18 0 (u32s kk) := by
  rw [MakeChecks.laidMetH_plain _ _ _ (by kernel_rfl)] at h
  have h2 := h.tail.tail
  rw [kk_datum] at h2
  exact kk_range_of (Lib.tabIs_of_head Tryd.gK Tryd.gKType Tryd.underlying104 Tryd.underlying103 Tryd.cells103 Tryd.cells104 h2)
set_option maxRecDepth 100000 in
theorem kk_of_laidN {W : World} (h : laidMetH Tryd.prog laidN W) : W.rangeAt 18 0 (u32s kk) := by
  rw [MakeChecks.laidMetH_plain _ _ _ (by kernel_rfl)] at h
  have h2 := h.tail.tail.tail.tail.tail.tail.tail.tail.tail.tail.tail.tail.tail.tail.tail.tail.tail.tail
  rw [kk_datum] at h2
  exact kk_range_of (Lib.tabIs_of_head Tryd.gK Tryd.gKType Tryd.underlying104 Tryd.underlying103 Tryd.cells103 Tryd.cells104 h2)
set_option maxRecDepth 100000 in
theorem door_metP (os : Os) (args : Array Value) : laidMetH Tryd.prog laidP ((World.doorLaid Tryd.prog 356 os).forCall (fun _ _ => 0) ⟨#[], args, []⟩).memory :=
  laidMetH_of_parts3 (fuel := 8) (laidMet_of_run' 8 (by kernel_rfl) (by kernel_rfl)) (by kernel_rfl) (by kernel_rfl)
set_option maxRecDepth 100000 in
theorem door_metN (os : Os) (args : Array Value) : laidMetH Tryd.prog laidN ((World.doorLaid Tryd.prog 356 os).forCall (fun _ _ => 0) ⟨#[], args, []⟩).memory :=
  laidMetH_of_parts3 (fuel := 8) (laidMet_of_run' 8 (by kernel_rfl) (by kernel_rfl)) (by kernel_rfl) (by kernel_rfl)
end Go.Proofs.YtdedphhohiioiaaDoor
/- The dump's head, word by word, and the closed facts that go by it. -/
namespace Go.Proofs.YtdedphhohiioiaaDoor
set_option maxRecDepth 100000

theorem initIs : Tryd.prog.initOrder = "harness 3ebc234e78820a6c3663f2ca88585805a99a1b02e22e4e7f501b54a0bb52bb39 cut at quorate/quoratelaw02.HashSums quorate/quoratelaw02.HashPieces quorate/quoratelaw02.HashKnown quorate/quoratelaw02.HashBytes quorate/quoratelaw02.HashOf quorate/quoratelaw02.HashZero quorate/quoratelaw03.ChainsGo quorate/quoratelaw03.ChainsRuns quorate/quoratelaw04.TreesWays quorate/quoratelaw04.TreesClimbs quorate/quoratelaw03.ChainsKept quorate/quoratelaw03.ChainsPublic quorate/quoratelaw04.TreesAll quorate/quoratelaw04.TreesKept quorate/quoratelaw03.ChainsRecovers quorate/quoratelaw03.ChainsSigns quorate/quoratelaw04.TreesRoots quorate/quoratelaw05.KeysApart quorate/quoratelaw05.KeysSigns quorate/quoratelaw05.KeysVerifies quorate/quoratelaw05.KeysSpoilt quorate/quoratelaw05.KeysMany" := by kernel_rfl
def initCodes : List Nat := [104, 97, 114, 110, 101, 115, 115, 32, 51, 101, 98, 99, 50, 51, 52, 101, 55, 56, 56, 50, 48, 97, 54, 99, 51, 54, 54, 51, 102, 50, 99, 97, 56, 56, 53, 56, 53, 56, 48, 53, 97, 57, 57, 97, 49, 98, 48, 50, 101, 50, 50, 101, 52, 101, 55, 102, 53, 48, 49, 98, 53, 52, 97, 48, 98, 98, 53, 50, 98, 98, 51, 57, 32, 99, 117, 116, 32, 97, 116, 32, 113, 117, 111, 114, 97, 116, 101, 47, 113, 117, 111, 114, 97, 116, 101, 108, 97, 119, 48, 50, 46, 72, 97, 115, 104, 83, 117, 109, 115, 32, 113, 117, 111, 114, 97, 116, 101, 47, 113, 117, 111, 114, 97, 116, 101, 108, 97, 119, 48, 50, 46, 72, 97, 115, 104, 80, 105, 101, 99, 101, 115, 32, 113, 117, 111, 114, 97, 116, 101, 47, 113, 117, 111, 114, 97, 116, 101, 108, 97, 119, 48, 50, 46, 72, 97, 115, 104, 75, 110, 111, 119, 110, 32, 113, 117, 111, 114, 97, 116, 101, 47, 113, 117, 111, 114, 97, 116, 101, 108, 97, 119, 48, 50, 46, 72, 97, 115, 104, 66, 121, 116, 101, 115, 32, 113, 117, 111, 114, 97, 116, 101, 47, 113, 117, 111, 114, 97, 116, 101, 108, 97, 119, 48, 50, 46, 72, 97, 115, 104, 79, 102, 32, 113, 117, 111, 114, 97, 116, 101, 47, 113, 117, 111, 114, 97, 116, 101, 108, 97, 119, 48, 50, 46, 72, 97, 115, 104, 90, 101, 114, 111, 32, 113, 117, 111, 114, 97, 116, 101, 47, 113, 117, 111, 114, 97, 116, 101, 108, 97, 119, 48, 51, 46, 67, 104, 97, 105, 110, 115, 71, 111, 32, 113, 117, 111, 114, 97, 116, 101, 47, 113, 117, 111, 114, 97, 116, 101, 108, 97, 119, 48, 51, 46, 67, 104, 97, 105, 110, 115, 82, 117, 110, 115, 32, 113, 117, 111, 114, 97, 116, 101, 47, 113, 117, 111, 114, 97, 116, 101, 108, 97, 119, 48, 52, 46, 84, 114, 101, 101, 115, 87, 97, 121, 115, 32, 113, 117, 111, 114, 97, 116, 101, 47, 113, 117, 111, 114, 97, 116, 101, 108, 97, 119, 48, 52, 46, 84, 114, 101, 101, 115, 67, 108, 105, 109, 98, 115, 32, 113, 117, 111, 114, 97, 116, 101, 47, 113, 117, 111, 114, 97, 116, 101, 108, 97, 119, 48, 51, 46, 67, 104, 97, 105, 110, 115, 75, 101, 112, 116, 32, 113, 117, 111, 114, 97, 116, 101, 47, 113, 117, 111, 114, 97, 116, 101, 108, 97, 119, 48, 51, 46, 67, 104, 97, 105, 110, 115, 80, 117, 98, 108, 105, 99, 32, 113, 117, 111, 114, 97, 116, 101, 47, 113, 117, 111, 114, 97, 116, 101, 108, 97, 119, 48, 52, 46, 84, 114, 101, 101, 115, 65, 108, 108, 32, 113, 117, 111, 114, 97, 116, 101, 47, 113, 117, 111, 114, 97, 116, 101, 108, 97, 119, 48, 52, 46, 84, 114, 101, 101, 115, 75, 101, 112, 116, 32, 113, 117, 111, 114, 97, 116, 101, 47, 113, 117, 111, 114, 97, 116, 101, 108, 97, 119, 48, 51, 46, 67, 104, 97, 105, 110, 115, 82, 101, 99, 111, 118, 101, 114, 115, 32, 113, 117, 111, 114, 97, 116, 101, 47, 113, 117, 111, 114, 97, 116, 101, 108, 97, 119, 48, 51, 46, 67, 104, 97, 105, 110, 115, 83, 105, 103, 110, 115, 32, 113, 117, 111, 114, 97, 116, 101, 47, 113, 117, 111, 114, 97, 116, 101, 108, 97, 119, 48, 52, 46, 84, 114, 101, 101, 115, 82, 111, 111, 116, 115, 32, 113, 117, 111, 114, 97, 116, 101, 47, 113, 117, 111, 114, 97, 116, 101, 108, 97, 119, 48, 53, 46, 75, 101, 121, 115, 65, 112, 97, 114, 116, 32, 113, 117, 111, 114, 97, 116, 101, 47, 113, 117, 111, 114, 97, 116, 101, 108, 97, 119, 48, 53, 46, 75, 101, 121, 115, 83, 105, 103, 110, 115, 32, 113, 117, 111, 114, 97, 116, 101, 47, 113, 117, 111, 114, 97, 116, 101, 108, 97, 119, 48, 53, 46, 75, 101, 121, 115, 86, 101, 114, 105, 102, 105, 101, 115, 32, 113, 117, 111, 114, 97, 116, 101, 47, 113, 117, 111, 114, 97, 116, 101, 108, 97, 119, 48, 53, 46, 75, 101, 121, 115, 83, 112, 111, 105, 108, 116, 32, 113, 117, 111, 114, 97, 116, 101, 47, 113, 117, 111, 114, 97, 116, 101, 108, 97, 119, 48, 53, 46, 75, 101, 121, 115, 77, 97, 110, 121]
def initWords : List (List Nat) := [[104, 97, 114, 110, 101, 115, 115], [51, 101, 98, 99, 50, 51, 52, 101, 55, 56, 56, 50, 48, 97, 54, 99, 51, 54, 54, 51, 102, 50, 99, 97, 56, 56, 53, 56, 53, 56, 48, 53, 97, 57, 57, 97, 49, 98, 48, 50, 101, 50, 50, 101, 52, 101, 55, 102, 53, 48, 49, 98, 53, 52, 97, 48, 98, 98, 53, 50, 98, 98, 51, 57], [99, 117, 116], [97, 116], [113, 117, 111, 114, 97, 116, 101, 47, 113, 117, 111, 114, 97, 116, 101, 108, 97, 119, 48, 50, 46, 72, 97, 115, 104, 83, 117, 109, 115], [113, 117, 111, 114, 97, 116, 101, 47, 113, 117, 111, 114, 97, 116, 101, 108, 97, 119, 48, 50, 46, 72, 97, 115, 104, 80, 105, 101, 99, 101, 115], [113, 117, 111, 114, 97, 116, 101, 47, 113, 117, 111, 114, 97, 116, 101, 108, 97, 119, 48, 50, 46, 72, 97, 115, 104, 75, 110, 111, 119, 110], [113, 117, 111, 114, 97, 116, 101, 47, 113, 117, 111, 114, 97, 116, 101, 108, 97, 119, 48, 50, 46, 72, 97, 115, 104, 66, 121, 116, 101, 115], [113, 117, 111, 114, 97, 116, 101, 47, 113, 117, 111, 114, 97, 116, 101, 108, 97, 119, 48, 50, 46, 72, 97, 115, 104, 79, 102], [113, 117, 111, 114, 97, 116, 101, 47, 113, 117, 111, 114, 97, 116, 101, 108, 97, 119, 48, 50, 46, 72, 97, 115, 104, 90, 101, 114, 111], [113, 117, 111, 114, 97, 116, 101, 47, 113, 117, 111, 114, 97, 116, 101, 108, 97, 119, 48, 51, 46, 67, 104, 97, 105, 110, 115, 71, 111], [113, 117, 111, 114, 97, 116, 101, 47, 113, 117, 111, 114, 97, 116, 101, 108, 97, 119, 48, 51, 46, 67, 104, 97, 105, 110, 115, 82, 117, 110, 115], [113, 117, 111, 114, 97, 116, 101, 47, 113, 117, 111, 114, 97, 116, 101, 108, 97, 119, 48, 52, 46, 84, 114, 101, 101, 115, 87, 97, 121, 115], [113, 117, 111, 114, 97, 116, 101, 47, 113, 117, 111, 114, 97, 116, 101, 108, 97, 119, 48, 52, 46, 84, 114, 101, 101, 115, 67, 108, 105, 109, 98, 115], [113, 117, 111, 114, 97, 116, 101, 47, 113, 117, 111, 114, 97, 116, 101, 108, 97, 119, 48, 51, 46, 67, 104, 97, 105, 110, 115, 75, 101, 112, 116], [113, 117, 111, 114, 97, 116, 101, 47, 113, 117, 111, 114, 97, 116, 101, 108, 97, 119, 48, 51, 46, 67, 104, 97, 105, 110, 115, 80, 117, 98, 108, 105, 99], [113, 117, 111, 114, 97, 116, 101, 47, 113, 117, 111, 114, 97, 116, 101, 108, 97, 119, 48, 52, 46, 84, 114, 101, 101, 115, 65, 108, 108], [113, 117, 111, 114, 97, 116, 101, 47, 113, 117, 111, 114, 97, 116, 101, 108, 97, 119, 48, 52, 46, 84, 114, 101, 101, 115, 75, 101, 112, 116], [113, 117, 111, 114, 97, 116, 101, 47, 113, 117, 111, 114, 97, 116, 101, 108, 97, 119, 48, 51, 46, 67, 104, 97, 105, 110, 115, 82, 101, 99, 111, 118, 101, 114, 115], [113, 117, 111, 114, 97, 116, 101, 47, 113, 117, 111, 114, 97, 116, 101, 108, 97, 119, 48, 51, 46, 67, 104, 97, 105, 110, 115, 83, 105, 103, 110, 115], [113, 117, 111, 114, 97, 116, 101, 47, 113, 117, 111, 114, 97, 116, 101, 108, 97, 119, 48, 52, 46, 84, 114, 101, 101, 115, 82, 111, 111, 116, 115], [113, 117, 111, 114, 97, 116, 101, 47, 113, 117, 111, 114, 97, 116, 101, 108, 97, 119, 48, 53, 46, 75, 101, 121, 115, 65, 112, 97, 114, 116], [113, 117, 111, 114, 97, 116, 101, 47, 113, 117, 111, 114, 97, 116, 101, 108, 97, 119, 48, 53, 46, 75, 101, 121, 115, 83, 105, 103, 110, 115], [113, 117, 111, 114, 97, 116, 101, 47, 113, 117, 111, 114, 97, 116, 101, 108, 97, 119, 48, 53, 46, 75, 101, 121, 115, 86, 101, 114, 105, 102, 105, 101, 115], [113, 117, 111, 114, 97, 116, 101, 47, 113, 117, 111, 114, 97, 116, 101, 108, 97, 119, 48, 53, 46, 75, 101, 121, 115, 83, 112, 111, 105, 108, 116], [113, 117, 111, 114, 97, 116, 101, 47, 113, 117, 111, 114, 97, 116, 101, 108, 97, 119, 48, 53, 46, 75, 101, 121, 115, 77, 97, 110, 121]]
def initRest : List (List Nat) := [[99, 117, 116], [97, 116], [113, 117, 111, 114, 97, 116, 101, 47, 113, 117, 111, 114, 97, 116, 101, 108, 97, 119, 48, 50, 46, 72, 97, 115, 104, 83, 117, 109, 115], [113, 117, 111, 114, 97, 116, 101, 47, 113, 117, 111, 114, 97, 116, 101, 108, 97, 119, 48, 50, 46, 72, 97, 115, 104, 80, 105, 101, 99, 101, 115], [113, 117, 111, 114, 97, 116, 101, 47, 113, 117, 111, 114, 97, 116, 101, 108, 97, 119, 48, 50, 46, 72, 97, 115, 104, 75, 110, 111, 119, 110], [113, 117, 111, 114, 97, 116, 101, 47, 113, 117, 111, 114, 97, 116, 101, 108, 97, 119, 48, 50, 46, 72, 97, 115, 104, 66, 121, 116, 101, 115], [113, 117, 111, 114, 97, 116, 101, 47, 113, 117, 111, 114, 97, 116, 101, 108, 97, 119, 48, 50, 46, 72, 97, 115, 104, 79, 102], [113, 117, 111, 114, 97, 116, 101, 47, 113, 117, 111, 114, 97, 116, 101, 108, 97, 119, 48, 50, 46, 72, 97, 115, 104, 90, 101, 114, 111], [113, 117, 111, 114, 97, 116, 101, 47, 113, 117, 111, 114, 97, 116, 101, 108, 97, 119, 48, 51, 46, 67, 104, 97, 105, 110, 115, 71, 111], [113, 117, 111, 114, 97, 116, 101, 47, 113, 117, 111, 114, 97, 116, 101, 108, 97, 119, 48, 51, 46, 67, 104, 97, 105, 110, 115, 82, 117, 110, 115], [113, 117, 111, 114, 97, 116, 101, 47, 113, 117, 111, 114, 97, 116, 101, 108, 97, 119, 48, 52, 46, 84, 114, 101, 101, 115, 87, 97, 121, 115], [113, 117, 111, 114, 97, 116, 101, 47, 113, 117, 111, 114, 97, 116, 101, 108, 97, 119, 48, 52, 46, 84, 114, 101, 101, 115, 67, 108, 105, 109, 98, 115], [113, 117, 111, 114, 97, 116, 101, 47, 113, 117, 111, 114, 97, 116, 101, 108, 97, 119, 48, 51, 46, 67, 104, 97, 105, 110, 115, 75, 101, 112, 116], [113, 117, 111, 114, 97, 116, 101, 47, 113, 117, 111, 114, 97, 116, 101, 108, 97, 119, 48, 51, 46, 67, 104, 97, 105, 110, 115, 80, 117, 98, 108, 105, 99], [113, 117, 111, 114, 97, 116, 101, 47, 113, 117, 111, 114, 97, 116, 101, 108, 97, 119, 48, 52, 46, 84, 114, 101, 101, 115, 65, 108, 108], [113, 117, 111, 114, 97, 116, 101, 47, 113, 117, 111, 114, 97, 116, 101, 108, 97, 119, 48, 52, 46, 84, 114, 101, 101, 115, 75, 101, 112, 116], [113, 117, 111, 114, 97, 116, 101, 47, 113, 117, 111, 114, 97, 116, 101, 108, 97, 119, 48, 51, 46, 67, 104, 97, 105, 110, 115, 82, 101, 99, 111, 118, 101, 114, 115], [113, 117, 111, 114, 97, 116, 101, 47, 113, 117, 111, 114, 97, 116, 101, 108, 97, 119, 48, 51, 46, 67, 104, 97, 105, 110, 115, 83, 105, 103, 110, 115], [113, 117, 111, 114, 97, 116, 101, 47, 113, 117, 111, 114, 97, 116, 101, 108, 97, 119, 48, 52, 46, 84, 114, 101, 101, 115, 82, 111, 111, 116, 115], [113, 117, 111, 114, 97, 116, 101, 47, 113, 117, 111, 114, 97, 116, 101, 108, 97, 119, 48, 53, 46, 75, 101, 121, 115, 65, 112, 97, 114, 116], [113, 117, 111, 114, 97, 116, 101, 47, 113, 117, 111, 114, 97, 116, 101, 108, 97, 119, 48, 53, 46, 75, 101, 121, 115, 83, 105, 103, 110, 115], [113, 117, 111, 114, 97, 116, 101, 47, 113, 117, 111, 114, 97, 116, 101, 108, 97, 119, 48, 53, 46, 75, 101, 121, 115, 86, 101, 114, 105, 102, 105, 101, 115], [113, 117, 111, 114, 97, 116, 101, 47, 113, 117, 111, 114, 97, 116, 101, 108, 97, 119, 48, 53, 46, 75, 101, 121, 115, 83, 112, 111, 105, 108, 116], [113, 117, 111, 114, 97, 116, 101, 47, 113, 117, 111, 114, 97, 116, 101, 108, 97, 119, 48, 53, 46, 75, 101, 121, 115, 77, 97, 110, 121]]
def initTail : List (List Nat) := [[97, 116], [113, 117, 111, 114, 97, 116, 101, 47, 113, 117, 111, 114, 97, 116, 101, 108, 97, 119, 48, 50, 46, 72, 97, 115, 104, 83, 117, 109, 115], [113, 117, 111, 114, 97, 116, 101, 47, 113, 117, 111, 114, 97, 116, 101, 108, 97, 119, 48, 50, 46, 72, 97, 115, 104, 80, 105, 101, 99, 101, 115], [113, 117, 111, 114, 97, 116, 101, 47, 113, 117, 111, 114, 97, 116, 101, 108, 97, 119, 48, 50, 46, 72, 97, 115, 104, 75, 110, 111, 119, 110], [113, 117, 111, 114, 97, 116, 101, 47, 113, 117, 111, 114, 97, 116, 101, 108, 97, 119, 48, 50, 46, 72, 97, 115, 104, 66, 121, 116, 101, 115], [113, 117, 111, 114, 97, 116, 101, 47, 113, 117, 111, 114, 97, 116, 101, 108, 97, 119, 48, 50, 46, 72, 97, 115, 104, 79, 102], [113, 117, 111, 114, 97, 116, 101, 47, 113, 117, 111, 114, 97, 116, 101, 108, 97, 119, 48, 50, 46, 72, 97, 115, 104, 90, 101, 114, 111], [113, 117, 111, 114, 97, 116, 101, 47, 113, 117, 111, 114, 97, 116, 101, 108, 97, 119, 48, 51, 46, 67, 104, 97, 105, 110, 115, 71, 111], [113, 117, 111, 114, 97, 116, 101, 47, 113, 117, 111, 114, 97, 116, 101, 108, 97, 119, 48, 51, 46, 67, 104, 97, 105, 110, 115, 82, 117, 110, 115], [113, 117, 111, 114, 97, 116, 101, 47, 113, 117, 111, 114, 97, 116, 101, 108, 97, 119, 48, 52, 46, 84, 114, 101, 101, 115, 87, 97, 121, 115], [113, 117, 111, 114, 97, 116, 101, 47, 113, 117, 111, 114, 97, 116, 101, 108, 97, 119, 48, 52, 46, 84, 114, 101, 101, 115, 67, 108, 105, 109, 98, 115], [113, 117, 111, 114, 97, 116, 101, 47, 113, 117, 111, 114, 97, 116, 101, 108, 97, 119, 48, 51, 46, 67, 104, 97, 105, 110, 115, 75, 101, 112, 116], [113, 117, 111, 114, 97, 116, 101, 47, 113, 117, 111, 114, 97, 116, 101, 108, 97, 119, 48, 51, 46, 67, 104, 97, 105, 110, 115, 80, 117, 98, 108, 105, 99], [113, 117, 111, 114, 97, 116, 101, 47, 113, 117, 111, 114, 97, 116, 101, 108, 97, 119, 48, 52, 46, 84, 114, 101, 101, 115, 65, 108, 108], [113, 117, 111, 114, 97, 116, 101, 47, 113, 117, 111, 114, 97, 116, 101, 108, 97, 119, 48, 52, 46, 84, 114, 101, 101, 115, 75, 101, 112, 116], [113, 117, 111, 114, 97, 116, 101, 47, 113, 117, 111, 114, 97, 116, 101, 108, 97, 119, 48, 51, 46, 67, 104, 97, 105, 110, 115, 82, 101, 99, 111, 118, 101, 114, 115], [113, 117, 111, 114, 97, 116, 101, 47, 113, 117, 111, 114, 97, 116, 101, 108, 97, 119, 48, 51, 46, 67, 104, 97, 105, 110, 115, 83, 105, 103, 110, 115], [113, 117, 111, 114, 97, 116, 101, 47, 113, 117, 111, 114, 97, 116, 101, 108, 97, 119, 48, 52, 46, 84, 114, 101, 101, 115, 82, 111, 111, 116, 115], [113, 117, 111, 114, 97, 116, 101, 47, 113, 117, 111, 114, 97, 116, 101, 108, 97, 119, 48, 53, 46, 75, 101, 121, 115, 65, 112, 97, 114, 116], [113, 117, 111, 114, 97, 116, 101, 47, 113, 117, 111, 114, 97, 116, 101, 108, 97, 119, 48, 53, 46, 75, 101, 121, 115, 83, 105, 103, 110, 115], [113, 117, 111, 114, 97, 116, 101, 47, 113, 117, 111, 114, 97, 116, 101, 108, 97, 119, 48, 53, 46, 75, 101, 121, 115, 86, 101, 114, 105, 102, 105, 101, 115], [113, 117, 111, 114, 97, 116, 101, 47, 113, 117, 111, 114, 97, 116, 101, 108, 97, 119, 48, 53, 46, 75, 101, 121, 115, 83, 112, 111, 105, 108, 116], [113, 117, 111, 114, 97, 116, 101, 47, 113, 117, 111, 114, 97, 116, 101, 108, 97, 119, 48, 53, 46, 75, 101, 121, 115, 77, 97, 110, 121]]
theorem initL : ("harness 3ebc234e78820a6c3663f2ca88585805a99a1b02e22e4e7f501b54a0bb52bb39 cut at quorate/quoratelaw02.HashSums quorate/quoratelaw02.HashPieces quorate/quoratelaw02.HashKnown quorate/quoratelaw02.HashBytes quorate/quoratelaw02.HashOf quorate/quoratelaw02.HashZero quorate/quoratelaw03.ChainsGo quorate/quoratelaw03.ChainsRuns quorate/quoratelaw04.TreesWays quorate/quoratelaw04.TreesClimbs quorate/quoratelaw03.ChainsKept quorate/quoratelaw03.ChainsPublic quorate/quoratelaw04.TreesAll quorate/quoratelaw04.TreesKept quorate/quoratelaw03.ChainsRecovers quorate/quoratelaw03.ChainsSigns quorate/quoratelaw04.TreesRoots quorate/quoratelaw05.KeysApart quorate/quoratelaw05.KeysSigns quorate/quoratelaw05.KeysVerifies quorate/quoratelaw05.KeysSpoilt quorate/quoratelaw05.KeysMany" : String) = String.ofList (initCodes.map Char.ofNat) := by kernel_rfl
theorem initSigns : Tryd.prog.initOrder.toList = initCodes.map Char.ofNat := by rw [initIs, initL, String.toList_ofList]
theorem initW : wordsSigns (initCodes.map Char.ofNat) = initWords.map (fun l => l.map Char.ofNat) := by kernel_rfl
theorem initIn : wordsSigns Tryd.prog.initOrder.toList = initWords.map (fun l => l.map Char.ofNat) := by rw [initSigns, initW]

theorem behindIn : behindMainWord (wordsSigns Tryd.prog.initOrder.toList) = initRest.map (fun l => l.map Char.ofNat) := by rw [initIn]; kernel_rfl
theorem stripIn : stripLifts liftWords (initRest.map (fun l => l.map Char.ofNat)) = ([], initRest.map (fun l => l.map Char.ofNat)) := by kernel_rfl
theorem restIn : initRest.map (fun l => l.map Char.ofNat) = [99, 117, 116].map Char.ofNat :: initTail.map (fun l => l.map Char.ofNat) := by kernel_rfl
theorem noLater : Tryd.prog.laysLater = false := by kernel_rfl
theorem noReflect : Tryd.prog.bearsReflect = false := by kernel_rfl
theorem doorFits_ok : Tryd.prog.doorFits [] = true := by kernel_rfl
theorem isCut : (([99, 117, 116] : List Nat).map Char.ofNat == "cut".toList) = true := by kernel_rfl
theorem noGc : (([99, 117, 116] : List Nat).map Char.ofNat == "gc".toList) = false := by kernel_rfl
theorem noSpec : (([99, 117, 116] : List Nat).map Char.ofNat == "spec".toList) = false := by kernel_rfl
theorem noCarried : (([99, 117, 116] : List Nat).map Char.ofNat == "carried".toList) = false := by kernel_rfl
theorem mayEnter_of {P : Program} {c : List Char} {rest : List (List Char)} (h : behindMainWord (wordsSigns P.initOrder.toList) = c :: rest) (hs : stripLifts liftWords (c :: rest) = ([], c :: rest)) (hc : (c == "cut".toList) = true)
    (h1 : P.laysLater = false) (h2 : P.bearsReflect = false) (h3 : P.doorFits [] = true) : P.mayEnter = true := by
  unfold Program.mayEnter
  rw [h]
  have e : (some c == some "cut".toList) = true := hc
  dsimp only
  rw [hs, h1, h2]
  dsimp only
  rw [h3, List.head?_cons, e]
  simp
theorem mayEnter_ok : Tryd.prog.mayEnter = true := mayEnter_of (behindIn.trans restIn) (by rw [← restIn]; exact stripIn) isCut noLater noReflect doorFits_ok
theorem headLifts_ok : Tryd.prog.headLifts = [] := by
  unfold Program.headLifts
  rw [behindIn, stripIn]
  exact ite_self []
theorem liftsFinal_ok : Tryd.prog.liftsFinal = false := by
  unfold Program.liftsFinal
  rw [behindIn, restIn, headLifts_ok]
  have e : (some (([99, 117, 116] : List Nat).map Char.ofNat) == some "carried".toList) = false := noCarried
  simp only [List.head?_cons, e, Bool.false_and, List.contains_nil, Bool.or_false]
theorem make_of {P : Program} {c : List Char} {rest : List (List Char)} (h : behindMainWord (wordsSigns P.initOrder.toList) = c :: rest) (h1 : (c == "gc".toList) = false) (h2 : (c == "spec".toList) = false) (hc : (c == "cut".toList) = true) : P.make = some .cut := by
  unfold Program.make
  rw [h]
  dsimp only
  rw [h1, h2, hc]
  rfl
theorem make_ok : Tryd.prog.make = some .cut := make_of (behindIn.trans restIn) noGc noSpec isCut
theorem mainIs_of {P : Program} {h s : List Char} {rest : List (List Char)} (hw : wordsSigns P.initOrder.toList = h :: s :: rest) (h1 : isSumSigns s = true) (h2 : (h == "harness".toList) = true) : P.mainIs = some (true, s) := by
  unfold Program.mainIs
  rw [hw]
  dsimp only
  rw [h1, h2]
  rfl
theorem wordsIn2 : initWords.map (fun l => l.map Char.ofNat) = ([104, 97, 114, 110, 101, 115, 115] : List Nat).map Char.ofNat :: ([51, 101, 98, 99, 50, 51, 52, 101, 55, 56, 56, 50, 48, 97, 54, 99, 51, 54, 54, 51, 102, 50, 99, 97, 56, 56, 53, 56, 53, 56, 48, 53, 97, 57, 57, 97, 49, 98, 48, 50, 101, 50, 50, 101, 52, 101, 55, 102, 53, 48, 49, 98, 53, 52, 97, 48, 98, 98, 53, 50, 98, 98, 51, 57] : List Nat).map Char.ofNat :: initRest.map (fun l => l.map Char.ofNat) := by kernel_rfl
theorem sumL : ("3ebc234e78820a6c3663f2ca88585805a99a1b02e22e4e7f501b54a0bb52bb39" : String) = String.ofList (([51, 101, 98, 99, 50, 51, 52, 101, 55, 56, 56, 50, 48, 97, 54, 99, 51, 54, 54, 51, 102, 50, 99, 97, 56, 56, 53, 56, 53, 56, 48, 53, 97, 57, 57, 97, 49, 98, 48, 50, 101, 50, 50, 101, 52, 101, 55, 102, 53, 48, 49, 98, 53, 52, 97, 48, 98, 98, 53, 50, 98, 98, 51, 57] : List Nat).map Char.ofNat) := by kernel_rfl
theorem isSum : isSumSigns (([51, 101, 98, 99, 50, 51, 52, 101, 55, 56, 56, 50, 48, 97, 54, 99, 51, 54, 54, 51, 102, 50, 99, 97, 56, 56, 53, 56, 53, 56, 48, 53, 97, 57, 57, 97, 49, 98, 48, 50, 101, 50, 50, 101, 52, 101, 55, 102, 53, 48, 49, 98, 53, 52, 97, 48, 98, 98, 53, 50, 98, 98, 51, 57] : List Nat).map Char.ofNat) = true := by kernel_rfl
theorem isHarness : (([104, 97, 114, 110, 101, 115, 115] : List Nat).map Char.ofNat == "harness".toList) = true := by kernel_rfl
theorem mainIs_ok : Tryd.prog.mainIs = some (true, "3ebc234e78820a6c3663f2ca88585805a99a1b02e22e4e7f501b54a0bb52bb39".toList) := by
  rw [mainIs_of (initIn.trans wordsIn2) isSum isHarness, sumL, String.toList_ofList]
theorem looks_ok : Tryd.prog.looks [] = true := by kernel_rfl
theorem andB {a b : Bool} (h : a = true) (k : b = true) : (a && b) = true := by rw [h, k]; rfl
end Go.Proofs.YtdedphhohiioiaaDoor
/- ChainsPublic: what the law does. -/
namespace Go.Proofs.YtdedphhohiioiaaDoor
open Go.RowKit Go.Shelf

theorem Tryd.size73 : (Tryd.prog.info? 73).map (·.size) = some 32 := by kernel_rfl
theorem wrap32 (l : Int) : IntKind.i64.wrap (IntKind.u64.wrap l % 32) = l % 32 := by
  rw [IntKind.wrap_u64, IntKind.wrap_i64]
  omega
theorem wpList_index_row {P : Program} {ops : Array Oper} {rest : List Oper} {o : Oper} {a : Act} {w : World} {Q : Exit → Act → World → Prop} (hgd : o.guard = none) (t e n m e2 sz : Nat) (x ix : Operand) (ho : o.op = .index t x ix) (cs V : Array Value) (k : IntKind) (i : Int)
    (hx : a.eval x = .agg cs) (hi : a.eval ix = .int k i) (ht : P.underlying t = some (.array n e)) (hu : P.underlying e = some (.array m e2))
    (hs : (P.info? e).map (·.size) = some sz) (h0 : 0 ≤ i) (h1 : i < n) (hv : cs.extract (i.toNat * sz) (i.toNat * sz + sz) = V)
    (h : wpList P ops Q rest (a.put o.dst (.agg V)) w) : wpList P ops Q (o :: rest) a w := by
  refine wpList_plain hgd fun K hK => ?_
  unfold Oper.wp execOp
  cases hq : P.info? e with
  | none => simp [hq] at hs
  | some inf =>
    have hsz : inf.size = sz := by simpa [hq] using hs
    have h01 : 0 ≤ i ∧ i < (n : Int) := ⟨h0, h1⟩
    have hru := run_underlying ht w
    have hag : (isAgg e).run P w = .ok true w := by
      unfold isAgg
      rw [Sem.run_bind, run_underlying hu w]
      rfl
    simp only [ho, hx, hi, Instr.index, asIntOf, Sem.run_bind, Sem.run_pure, Result.andThen_ok, hru, if_pos h01, sizeOf, typeInfo, program, Sem.run, hq, hsz, part, hag, if_true, hv]
    exact hK _ _ h
/-- The i-th of two. -/
def twoAt (d0 d1 : List Int) (i : Nat) : List Int := if i = 0 then d0 else d1
theorem two_cells (d0 d1 : List Int) (g0 : d0.length = 16) (g1 : d1.length = 16) (i : Nat) (hi : i < 2) : (u8s d0 ++ u8s d1).toArray.extract (i * 16) (i * 16 + 16) = (u8s (twoAt d0 d1 i)).toArray := by
  have l0 : (u8s d0).length = 16 := by rw [u8s_len', g0]
  have l1 : (u8s d1).length = 16 := by rw [u8s_len', g1]
  rw [List.extract_toArray]
  congr 1
  rcases (show i = 0 ∨ i = 1 by omega) with rfl | rfl
  · simp [List.extract, twoAt, l0]
  · simp [List.extract, twoAt, l0, List.take_of_length_le (Nat.le_of_eq l1)]
theorem zero_digits (i : Nat) (h : i < 64) : (digits zero16).getD i 0 = 0 := by
  have : (List.range 64).all (fun i => (digits zero16).getD i 0 == 0) = true := by decide +kernel
  rw [List.all_eq_true] at this
  simpa using this i (by simpa using h)
theorem zero_sig (l : Int) (x : List Int) (i : Nat) (h : i < 64) : (sigC l x zero16 68).getD i [] = secretC l i x := by
  rw [List.getD_eq_getElem?_getD]
  simp only [sigC, List.getElem?_map, List.getElem?_range (show i < 68 by omega), Option.map_some, Option.getD_some]
  unfold sigAt
  rw [zero_digits i h]
  exact walk_none l i _ _ _ (by omega)

set_option maxHeartbeats 8000000 in
set_option maxRecDepth 100000 in
theorem chainsPublic_any (x : List Int) (hl : x.length = 16) (hx : u8s_ok x) (l0 : Int) (d0 d1 : List Int) (g0 : d0.length = 16 ∧ u8s_ok d0) (g1 : d1.length = 16 ∧ u8s_ok d1) (w : World) (hk : w.rangeAt 18 0 (u32s kk)) (h18 : 18 < w.heap.size) :
    Calls Tryd.prog 14 #[.agg (u8s x).toArray, .int .i64 l0, .agg (u8s d0 ++ u8s d1).toArray] w fun e w' => e = .returned (.bool true) ∧ Below w.heap.size w w' := by
  have hi43 : ∀ V : List Int, V.length = 16 → (Tryd.prog.info? 43).map (·.size) = some (u8s V).length := fun V h => by rw [u8s_len', h]; exact Tryd.size43
  have hi73 : (Tryd.prog.info? 73).map (·.size) = some (u8s d0 ++ u8s d1).length := by rw [List.length_append, u8s_len', u8s_len', g0.1, g1.1]; exact Tryd.size73
  obtain ⟨W0, hW0⟩ : ∃ W0, W0 = (w.alloc (.cells (u8s x).toArray 43)).alloc (.cells (u8s d0 ++ u8s d1).toArray 73) := ⟨_, rfl⟩
  have b0 : Below w.heap.size w W0 := by rw [hW0]; exact ((Below.refl _ _).alloc (Nat.le_refl _) _).alloc (by simp) _
  have q0 : W0.rangeAt w.heap.size 0 (u8s x) := by rw [hW0]; exact World.rangeAt_alloc (range_new w (u8s x) 43) _
  have q1 : W0.rangeAt (w.heap.size + 1) 0 (u8s d0 ++ u8s d1) := by
    rw [hW0]
    have := range_new (w.alloc (.cells (u8s x).toArray 43)) (u8s d0 ++ u8s d1) 73
    rwa [World.size_alloc] at this
  have B0 := Lib.hid b0
  have Q0 := Lib.hid q0
  have Q1 := Lib.hid q1
  have HL := Lib.hid hl
  have HX := Lib.hid hx
  have HG0 := Lib.hid g0
  have HG1 := Lib.hid g1
  have HK := Lib.hid hk
  have HI73 := Lib.hid hi73
  clear b0 q0 q1 hl hx g0 g1 hk hi73
  go_enter Tryd.func14, Tryd.ntmps14
  go_wp2_with fail
  change Calls _ _ _ ((w.alloc (.cells (u8s x).toArray 43)).alloc (.cells (u8s d0 ++ u8s d1).toArray 73)) _
  rw [← hW0]
  clear hW0
  refine (alive_chains W0).mono ?_
  rintro e w1 ⟨rfl, hb1⟩
  have B1 := Lib.hid (B0.out.trans (hb1.mono B0.out.size))
  have X1 := Lib.hid (range_below Q0.out hb1)
  have M1 := Lib.hid (range_below Q1.out hb1)
  have K1 := Lib.hid (range_below HK.out B1.out)
  have h181 : 18 < w1.heap.size := Nat.lt_of_lt_of_le h18 B1.out.size
  clear hb1 B0 Q0 Q1
  obtain ⟨u, hu⟩ : ∃ u, IntKind.u64.wrap l0 = u := ⟨_, rfl⟩
  have hu0 : 0 ≤ u ∧ u < 18446744073709551616 := by rw [← hu, IntKind.wrap_u64]; omega
  obtain ⟨hu1, hu2⟩ := hu0
  have h0 : 0 ≤ u % 32 := by omega
  have h1 : u % 32 < 32 := by omega
  go_wp2_with (refine wpList_load_g rfl 43 (.tmp 3) rfl w.heap.size 0 rfl (u8s x) _ X1.out Tryd.underlying43 rfl (hi43 x HL.out) ?_)
  refine (public_ok x HL.out HX.out (u % 32) h0 h1 w1 K1.out h181).mono ?_
  rintro e w2 ⟨rfl, hb2⟩
  obtain ⟨ST, hST⟩ : ∃ s, s = publicC (u % 32) (pubE (u % 32) x 68) := ⟨_, rfl⟩
  have hsl : ST.length = 16 := by rw [hST]; exact (publicC_good _ _).1
  rw [← hST]
  have HST := Lib.hid hST
  have HSL := Lib.hid hsl
  have HHN := Lib.hid (has_new w2 (Array.replicate 16 (Value.int .u8 0)) 43 (u8s ST).length (by rw [u8s_len', hsl]; rfl))
  have B2 := Lib.hid (B1.out.trans (hb2.mono B1.out.size))
  have X2 := Lib.hid (range_below X1.out hb2)
  have M2 := Lib.hid (range_below M1.out hb2)
  clear hST hsl hb2
  go_wp2_with (first | (refine wpList_store_row rfl 43 (.tmp 7) (.tmp 28) rfl w2.heap.size rfl (u8s ST) rfl 43 HHN.out (hi43 ST HSL.out) (one_u8s _) ?_; intro w3 hp3; have L3 : Below w2.heap.size w2 w3 := (hp3.below ((Below.refl _ _).alloc (Nat.le_refl _) _) (Nat.le_refl _)); have RP3 := Lib.hid (blk_range hp3.blk); have B3 := Lib.hid (B2.out.trans (L3.mono B2.out.size)); have X3 := Lib.hid (range_below X2.out L3); have M3 := Lib.hid (range_below M2.out L3); clear hp3 L3) | (refine wpList_load_g rfl 73 (.tmp 5) rfl (w.heap.size + 1) 0 rfl (u8s d0 ++ u8s d1) _ M3.out Tryd.underlying73 rfl HI73.out ?_))
  have HG : Hid (∀ i, i < 2 → (twoAt d0 d1 i).length = 16 ∧ u8s_ok (twoAt d0 d1 i)) := Lib.hid fun i _ => by unfold twoAt; split <;> first | exact HG0.out | exact HG1.out
  have HC2 : Hid (∀ i, i < 2 → (u8s d0 ++ u8s d1).toArray.extract (i * 16) (i * 16 + 16) = (u8s (twoAt d0 d1 i)).toArray) := Lib.hid (two_cells d0 d1 HG0.out.1 HG1.out.1)
  clear HG0 HG1
  go_loopw [33] (fun k wr => ∃ (i : Nat), i ≤ 2 ∧ k = .int .i64 i ∧ Hid (Below w3.heap.size w3 wr))
    (fun k _ => 2 - (intOf k).toNat)
  case atStart => exact ⟨0, by omega, rfl, Lib.hid (Below.refl _ _)⟩
  case round =>
    obtain ⟨i, hi, rfl, hbel⟩ := hrel
    have BR := Lib.hid (B3.out.trans (hbel.out.mono B3.out.size))
    have XR := Lib.hid (range_below X3.out hbel.out)
    have RPR := Lib.hid (range_below RP3.out hbel.out)
    by_cases hlt : i < 2
    · have hil : (i : Int) < 2 := by omega
      obtain ⟨D, hD⟩ : ∃ d, d = twoAt d0 d1 i := ⟨_, rfl⟩
      have hdg := HG.out i hlt
      have hdc := HC2.out i hlt
      rw [← hD] at hdg hdc
      have HDG := Lib.hid hdg
      have HDC := Lib.hid hdc
      have HHR := Lib.hid (has_new wr (Array.replicate 16 (Value.int .u8 0)) 43 (u8s D).length (by rw [u8s_len', hdg.1]; rfl))
      clear hdg hdc hD
      go_wp2_with (first | (refine wpList_index_row rfl 73 43 2 16 5 16 (.tmp 32) (.tmp 33) rfl _ (u8s D).toArray .i64 i rfl rfl Tryd.underlying73 Tryd.underlying43 Tryd.size43 (by omega) (by omega) HDC.out ?_) | (refine wpList_store_row rfl 43 (.tmp 10) (.tmp 35) rfl wr.heap.size rfl (u8s D) rfl 43 HHR.out (hi43 D HDG.out.1) (one_u8s _) ?_; intro w4 hp4; have L4 : Below wr.heap.size wr w4 := (hp4.below ((Below.refl _ _).alloc (Nat.le_refl _) _) (Nat.le_refl _)); have D4 := Lib.hid (blk_range hp4.blk); have B4 := Lib.hid (BR.out.trans (L4.mono BR.out.size)); have E4 := Lib.hid (hbel.out.trans (L4.mono hbel.out.size)); have X4 := Lib.hid (range_below XR.out L4); have RP4 := Lib.hid (range_below RPR.out L4); clear hp4 L4) | (refine wpList_load_g rfl 43 (.tmp 3) rfl w.heap.size 0 rfl (u8s x) _ X4.out Tryd.underlying43 rfl (hi43 x HL.out) ?_) | (refine wpList_load_g rfl 43 (.tmp 10) rfl wr.heap.size 0 rfl (u8s D) _ D4.out Tryd.underlying43 rfl (hi43 D HDG.out.1) ?_))
      refine (sign_any x HL.out HX.out (u % 32) h0 h1 D HDG.out.1 HDG.out.2 w4 (range_below HK.out B4.out) (Nat.lt_of_lt_of_le h18 B4.out.size)).mono ?_
      rintro e w5 ⟨v9, rfl, ro, hb5⟩
      have dg := sig_dgs ro
      obtain ⟨A9, c9, rfl⟩ := own_form ro
      have B5 := Lib.hid (B4.out.trans (hb5.mono B4.out.size))
      have E5 := Lib.hid (E4.out.trans (hb5.mono E4.out.size))
      have D5 := Lib.hid (range_below D4.out hb5)
      have RP5 := Lib.hid (range_below RP4.out hb5)
      have DG5 := Lib.hid dg
      clear hb5 ro dg
      go_wp2_with (refine wpList_load_g rfl 43 (.tmp 10) rfl wr.heap.size 0 rfl (u8s D) _ D5.out Tryd.underlying43 rfl (hi43 D HDG.out.1) ?_)
      refine (recover_ok (u % 32) A9 68 c9 (sigC (u % 32) x D 68) D w5 h0 h1 (fun W h => DG5.out.below h) (sigC_len (u % 32) x D 68).symm rfl HDG.out.1 HDG.out.2 (range_below HK.out B5.out) (Nat.lt_of_lt_of_le h18 B5.out.size)).mono ?_
      rintro e w6 ⟨rfl, hb6⟩
      rw [rec_sig (u % 32) x D 68 68 (Nat.le_refl _), ← HST.out]
      have HHN6 := Lib.hid (has_new w6 (Array.replicate 16 (Value.int .u8 0)) 43 (u8s ST).length (by rw [u8s_len', HSL.out]; rfl))
      have B6 := Lib.hid (B5.out.trans (hb6.mono B5.out.size))
      have E6 := Lib.hid (E5.out.trans (hb6.mono E5.out.size))
      have RP6 := Lib.hid (range_below RP5.out hb6)
      have hsame := run_same16 ST HSL.out
      clear hb6
      go_wp2_with (first | (refine wpList_store_row rfl 43 (.tmp 13) (.tmp 48) rfl w6.heap.size rfl (u8s ST) rfl 43 HHN6.out (hi43 ST HSL.out) (one_u8s _) ?_; intro w7 hp7; have L7 : Below w6.heap.size w6 w7 := (hp7.below ((Below.refl _ _).alloc (Nat.le_refl _) _) (Nat.le_refl _)); have RB7 := Lib.hid (blk_range hp7.blk); have E7 := Lib.hid (E6.out.trans (L7.mono E6.out.size)); have RP7 := Lib.hid (range_below RP6.out L7); clear hp7 L7) | (refine wpList_load_g rfl 43 (.tmp 13) rfl w6.heap.size 0 rfl (u8s ST) _ RB7.out Tryd.underlying43 rfl (hi43 ST HSL.out) ?_) | (refine wpList_load_g rfl 43 (.tmp 7) rfl w2.heap.size 0 rfl (u8s ST) _ RP7.out Tryd.underlying43 rfl (hi43 ST HSL.out) ?_))
      go_roundw
      case rel => exact ⟨i + 1, by omega, by go_num, E7⟩
      case measure => simp [intOf]; omega
    · obtain rfl : i = 2 := by omega
      clear HG HC2
      go_wp2_with (refine wpList_load_g rfl 43 (.tmp 3) rfl w.heap.size 0 rfl (u8s x) _ XR.out Tryd.underlying43 rfl (hi43 x HL.out) ?_)
      refine (sign_any x HL.out HX.out (u % 32) h0 h1 zero16 zero16_len zero_ok wr (range_below HK.out BR.out) (Nat.lt_of_lt_of_le h18 BR.out.size)).mono ?_
      rintro e w5 ⟨v9, rfl, ro, hb5⟩
      have dg := sig_dgs ro
      obtain ⟨A9, c9, rfl⟩ := own_form ro
      have hl68 := sigC_len (u % 32) x zero16 68
      obtain ⟨b, off, c', he, _, _, _, hrow⟩ := dg.cells (by intro e; rw [e] at hl68; simp at hl68)
      simp only [Value.slice.injEq] at he
      obtain ⟨rfl, -, rfl⟩ := he
      rw [hl68] at hrow
      have B5 := Lib.hid (BR.out.trans (hb5.mono BR.out.size))
      have X5 := Lib.hid (range_below XR.out hb5)
      have HROW := Lib.hid hrow
      clear hb5 ro dg hrow hl68 hi hbel RPR
      go_wp2_with fail
      go_loopw [74] (fun k wq => ∃ (i : Nat), i ≤ 64 ∧ k = .int .i64 i ∧ Hid (Below w5.heap.size w5 wq))
        (fun k _ => 64 - (intOf k).toNat)
      case atStart => exact ⟨0, by omega, rfl, Lib.hid (Below.refl _ _)⟩
      case round =>
        obtain ⟨i, hi, rfl, hbel⟩ := hrel
        rename_i wq
        have BQ := Lib.hid (B5.out.trans (hbel.out.mono B5.out.size))
        by_cases hlt : i < 64
        · have hil : (i : Int) < 64 := by omega
          have hil8 : (i : Int) < 68 := by omega
          have XQ := Lib.hid (range_below X5.out hbel.out)
          have hra := range_below (HROW.out i (by omega)) hbel.out
          rw [zero_sig (u % 32) x i hlt] at hra
          obtain ⟨SE, hSE⟩ : ∃ s, s = secretC (u % 32) i x := ⟨_, rfl⟩
          have hsg := secret_good (u % 32) i x
          rw [← hSE] at hra hsg
          have RS := Lib.hid hra
          have HSE := Lib.hid hSE
          have HSG := Lib.hid hsg.1
          clear hra hsg hSE
          go_wp2_with fail
          refine wp_region_rely (by kernel_rfl) 9 (by kernel_rfl) (by kernel_rfl) Ext Ext.refl Ext.trans (fun ix => match ix with
            | 0 => fun _ v => v = .slice (some ⟨b, off, none⟩) 68 c9
            | 1 => fun _ v => v = .int .i64 i
            | 2 => fun _ v => v = .pointer (some ⟨b, off + i * 16, none⟩)
            | 3 => fun _ v => v = .agg (u8s SE).toArray
            | 4 => fun _ v => v = .agg (u8s x).toArray
            | 5 => fun _ v => v = .int .i64 (u % 32)
            | 6 => fun _ v => v = .int .i64 i
            | 7 => fun _ v => v = .agg (u8s SE).toArray
            | 8 => fun _ v => v = .bool false
            | _ => fun _ _ => False) ?_
          simp (maxSteps := 10000000) only [Rely, List.take_succ_cons, List.take_zero, List.drop_succ_cons, List.drop_zero, Nat.reduceAdd, Nat.zero_add, Act.put, List.setIfInBounds_toArray, List.set_cons_succ, List.set_cons_zero]
          refine ⟨?_, ?_, ?_, ?_, ?_, ?_, ?_, ?_, ?_, ?_⟩
          · refine step_plain rfl fun vs wy hE hd => ?_
            exact gives_move _ (.slice (some ⟨b, off, none⟩) 68 c9) (.inl rfl) rfl ⟨Ext.refl _, fun _ _ => rfl⟩
          · refine step_plain rfl fun vs wy hE hd => ?_
            exact gives_move _ (.int .i64 i) (.inl rfl) rfl ⟨Ext.refl _, fun _ _ => rfl⟩
          · refine step_plain rfl fun vs wy hE hd => ?_
            exact gives_indexAt 55 _ _ rfl (.slice (some ⟨b, off, none⟩) 68 c9) (.int .i64 i) (.pointer (some ⟨b, off + i * 16, none⟩)) (show vs 0 = _ from hd.1) (show vs 1 = _ from hd.2.1) (by go_simp) ⟨Ext.refl _, fun _ _ => rfl⟩
          · refine step_plain rfl fun vs wy hE hd => ?_
            exact gives_load_row 43 _ rfl b (off + i * 16) (show vs 2 = _ from (hd.1)) (u8s SE) _ (range_below RS.out (ext_of_drew hE)) Tryd.underlying43 rfl (hi43 SE HSG.out) ⟨Ext.refl _, fun _ _ => rfl⟩
          · refine step_plain rfl fun vs wy hE hd => ?_
            exact gives_load_row 43 _ rfl w.heap.size 0 rfl (u8s x) _ (range_below XQ.out (ext_of_drew hE)) Tryd.underlying43 rfl (hi43 x HL.out) ⟨Ext.refl _, fun _ _ => rfl⟩
          · refine step_plain rfl fun vs wy hE hd => ?_
            exact gives_move _ (.int .i64 (u % 32)) (.inl rfl) rfl ⟨Ext.refl _, fun _ _ => rfl⟩
          · refine step_plain rfl fun vs wy hE hd => ?_
            exact gives_move _ (.int .i64 i) (.inl rfl) rfl ⟨Ext.refl _, fun _ _ => rfl⟩
          · refine step_plain rfl fun vs wy hE hd => ?_
            refine gives_call 38 (enters_of Tryd.func38 (by kernel_rfl) rfl) _ _ rfl rfl [.agg (u8s x).toArray, .int .i64 (u % 32), .int .i64 i] ?_ ?_
            · show [vs 4, vs 5, vs 6] = _
              rw [show vs 4 = _ from (hd.1), show vs 5 = _ from (hd.2.1), show vs 6 = _ from (hd.2.2.1)]
            · have hbq := BQ.out.trans ((ext_of_drew hE).mono BQ.out.size)
              refine (secret_any x HL.out HX.out (u % 32) i wy (range_below HK.out hbq) (Nat.lt_of_lt_of_le h18 hbq.size)).mono ?_
              rintro _ w'' ⟨rfl, hb⟩
              exact ⟨_, rfl, hb, fun _ _ => by rw [HSE.out]; rfl⟩
          · refine step_plain rfl fun vs wy hE hd => ?_
            have hsame := run_same16 SE HSG.out
            exact gives_binOp .neq 43 _ _ _ rfl (.agg (u8s SE).toArray) (.agg (u8s SE).toArray) (.bool false) (show vs 3 = _ from (hd.1)) (show vs 7 = _ from (hd.2.1)) (by go_simp) (by go_simp) ⟨Ext.refl _, fun _ _ => rfl⟩
          · intro vs wz hE hR
            have h8 : vs 8 = .bool false := hR 8 (by omega)
            have hb := hbel.out.trans ((ext_of_drew hE).mono hbel.out.size)
            have HB := Lib.hid hb
            rw [h8]
            clear hR hE h8 hb
            go_wp2
            go_roundw
            case rel => exact ⟨i + 1, by omega, by go_num, HB⟩
            case measure => simp [intOf]; omega
        · obtain rfl : i = 64 := by omega
          go_wp2
          go_ret
          exact ⟨rfl, BQ.out⟩
end Go.Proofs.YtdedphhohiioiaaDoor
