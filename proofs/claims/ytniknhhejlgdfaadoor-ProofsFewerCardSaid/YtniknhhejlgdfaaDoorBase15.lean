/- Lemmas that laws of this seat rest on, part 15; each says its own conditions: Gnd2, Cmp, Al20, EpochsApartW, KitE. -/
import Derived.Test.YtniknhhejlgdfaaDoorBase5
import Derived.Test.YtniknhhejlgdfaaDoorBase6
import Derived.Test.YtniknhhejlgdfaaDoorBase7
import Derived.Test.YtniknhhejlgdfaaDoorBase10
import Derived.Test.YtniknhhejlgdfaaDoorBase13
import Derived.Test.YtniknhhejlgdfaaDoorBase14
/- Grounds: the first and the next. -/
namespace Go.Proofs.YtniknhhejlgdfaaDoor
open Go.RowKit

def OutE (e : Int) : Prop := e < 0 ∨ 1073741824 ≤ e
def InE (e : Int) : Prop := 0 ≤ e ∧ e < 1073741824
theorem GrR.mono {base base' : Nat} {vs : List Va} {n : Nat} {e : Int} {p : List Int} {x : Ending} {w' : World} (h : GrR base vs n e p x w') (hb : base' ≤ base) : GrR base' vs n e p x w' := by
  obtain ⟨A, c, h1, h2⟩ := h
  exact ⟨A, c, h1, own_mono h2 hb⟩
set_option maxRecDepth 100000 in
theorem build27z (W : World) : (Instr.build 27 #[]).run Tryd.prog W = .ok noG W := run_build W 27 _ _ (by kernel_rfl)
set_option maxHeartbeats 8000000 in
set_option maxRecDepth 100000 in
theorem first_any (vs : List Va) (A : Option Addr) (n c : Nat) (aR aS aE : Addr) (w : World) (hv : Vals w (.slice A n c) vs) (hs : Em w aR aS aE) :
    Calls Tryd.prog 10 #[.slice A n c] w fun x w' => Below w.heap.size w w' ∧ ((validB vs = false ∧ x = .returned (.tuple #[noG, errV aS])) ∨ (validB vs = true ∧ GrR w.heap.size vs n 1 zero16 x w')) := by
  obtain ⟨X0, hX0⟩ : ∃ X, X = w.alloc (.cells #[.int .i64 0, .slice none 0 0, .int .u8 0, .int .u8 0, .int .u8 0, .int .u8 0, .int .u8 0, .int .u8 0, .int .u8 0, .int .u8 0, .int .u8 0, .int .u8 0, .int .u8 0, .int .u8 0, .int .u8 0, .int .u8 0, .int .u8 0, .int .u8 0] 27) := ⟨_, rfl⟩
  have b0 : Below w.heap.size w X0 := by rw [hX0]; exact (Below.refl _ _).alloc (Nat.le_refl _) _
  have HH := Lib.hid (show Has X0 w.heap.size 27 18 by rw [hX0]; exact has_new w _ _ _ rfl)
  have HX := Lib.hid hX0
  have HV := Lib.hid (hv.below b0)
  have HS := Lib.hid (hs.below b0)
  have B0 := Lib.hid b0
  clear b0 hv hs hX0
  go_enter Tryd.func10, Tryd.ntmps10
  go_wp2_with fail
  rw [show w.alloc (.cells #[.int .i64 0, .slice none 0 0, .int .u8 0, .int .u8 0, .int .u8 0, .int .u8 0, .int .u8 0, .int .u8 0, .int .u8 0, .int .u8 0, .int .u8 0, .int .u8 0, .int .u8 0, .int .u8 0, .int .u8 0, .int .u8 0, .int .u8 0, .int .u8 0] 27) = X0 from HX.out.symm]
  refine (ground_any 1 zero16 zero16_len zero16_ok (by omega) (by omega) vs A n c aR aS aE X0 HV.out HS.out).mono ?_
  rintro _ w2 ⟨hb2, hr⟩
  have B2 := Lib.hid (B0.out.trans (hb2.mono B0.out.size))
  have H2 := Lib.hid (HH.out.below hb2)
  clear hb2 HX
  rcases hr with ⟨hv, rfl⟩ | ⟨hv, A2, c2, rfl, ho⟩
  · have HVF := Lib.hid hv
    clear hv
    go_wp2_with (refine wpList_store_row rfl 27 (.tmp 2) (.tmp 7) rfl (w.heap.size) rfl (gndC 0 (.slice none 0 0) zero16) rfl 27 (by rw [zgnd_len]; exact H2.out) (by rw [zgnd_len]; exact Tryd.size27) (one_gnd _ _ _ rfl) ?_; intro w5 hp5; have K5 := Lib.hid hp5.blk; have B5 := Lib.hid (hp5.below B2.out (by omega)); clear hp5)
    refine bodyPost_ret (v := .tuple #[noG, errV aS]) (results_cell_row_tmp rfl _ _ (w.heap.size) 27 _ (0, 0) _ rfl K5.out Tryd.underlying27 rfl (by simp only [List.size_toArray]; rw [zgnd_len]; exact Tryd.size27) rfl) rfl ⟨B5.out, .inl ⟨HVF.out, rfl⟩⟩
  · have HVT := Lib.hid hv
    have OW := Lib.hid ho
    clear hv ho
    obtain ⟨ID, hID⟩ : ∃ x, x = idB (GEN 1 zero16) := ⟨_, rfl⟩
    have hidg : ID.length = 16 ∧ u8s_ok ID := hID ▸ idB_good _
    rw [← hID]
    have HID := Lib.hid hID
    have hgl := gnd_len (1) (.slice A2 n c2) ID hidg.1
    clear hID
    go_wp2_with (refine wpList_store_row rfl 27 (.tmp 2) (.tmp 7) rfl (w.heap.size) rfl (gndC (1) (.slice A2 n c2) ID) rfl 27 (by rw [hgl]; exact H2.out) (by rw [hgl]; exact Tryd.size27) (one_gnd _ _ _ rfl) ?_; intro w9 hp9; have K9 := Lib.hid hp9.blk; have B9 := Lib.hid (hp9.below B2.out (by omega)); have O9 := Lib.hid (own_other OW.out H2.out (by decide) hp9); clear hp9)
    refine bodyPost_ret (v := .tuple #[gndV (1) (.slice A2 n c2) ID, .nilIface]) (results_cell_row_tmp rfl _ _ (w.heap.size) 27 _ (0, 0) _ rfl K9.out Tryd.underlying27 rfl (by simp only [List.size_toArray]; rw [hgl]; exact Tryd.size27) rfl) rfl ⟨B9.out, .inr ⟨HVT.out, A2, c2, by rw [HID.out], own_mono O9.out B0.out.size⟩⟩
set_option maxHeartbeats 8000000 in
set_option maxRecDepth 100000 in
theorem next_any (e : Int) (v0 : Value) (gen p : List Int) (hgen : gen.length = 16) (hp : p.length = 16) (hpo : u8s_ok p) (vs : List Va) (A : Option Addr) (n c : Nat) (aR aS aE : Addr) (w : World) (hv : Vals w (.slice A n c) vs) (hs : Em w aR aS aE) :
    Calls Tryd.prog 11 #[.agg (gndC e v0 gen).toArray, .agg (u8s p).toArray, .slice A n c] w fun x w' => Below w.heap.size w w' ∧ ((validB vs = false ∧ x = .returned (.tuple #[noG, errV aS])) ∨ (validB vs = true ∧ OutE e ∧ x = .returned (.tuple #[noG, errV aE])) ∨ (validB vs = true ∧ InE e ∧ GrR w.heap.size vs n (e + 1) p x w')) := by
  have HP := Lib.hid hp
  have HPO := Lib.hid hpo
  obtain ⟨X0, hX0⟩ : ∃ X, X = ((w.alloc (.cells (gndC e v0 gen).toArray 27)).alloc (.cells (u8s p).toArray 24)).alloc (.cells #[.int .i64 0, .slice none 0 0, .int .u8 0, .int .u8 0, .int .u8 0, .int .u8 0, .int .u8 0, .int .u8 0, .int .u8 0, .int .u8 0, .int .u8 0, .int .u8 0, .int .u8 0, .int .u8 0, .int .u8 0, .int .u8 0, .int .u8 0, .int .u8 0] 27) := ⟨_, rfl⟩
  have b0 : Below w.heap.size w X0 := by rw [hX0]; exact (((Below.refl _ _).alloc (Nat.le_refl _) _).alloc (by simp) _).alloc (by simp; omega) _
  have k2 : Below (w.heap.size + 2) ((w.alloc (.cells (gndC e v0 gen).toArray 27)).alloc (.cells (u8s p).toArray 24)) X0 := by rw [hX0]; exact (Below.refl _ _).alloc (by simp) _
  have k0 := heap_alloc2_old w (.cells (gndC e v0 gen).toArray 27) (.cells (u8s p).toArray 24)
  have k1 : ((w.alloc (.cells (gndC e v0 gen).toArray 27)).alloc (.cells (u8s p).toArray 24)).heap[w.heap.size + 1]? = some (.cells (u8s p).toArray 24 (0, 0)) := by
    have := heap_alloc_new (w.alloc (.cells (gndC e v0 gen).toArray 27)) (.cells (u8s p).toArray 24)
    rwa [World.size_alloc] at this
  have hz2 : ((w.alloc (.cells (gndC e v0 gen).toArray 27)).alloc (.cells (u8s p).toArray 24)).heap.size = w.heap.size + 2 := by simp
  rw [← hz2] at k2
  have K0 := Lib.hid (blk_below k0 k2)
  have K1 := Lib.hid (blk_below k1 k2)
  have HH := Lib.hid (show Has X0 (w.heap.size + 2) 27 18 by rw [hX0, ← hz2]; exact has_new _ _ _ _ rfl)
  have HX := Lib.hid hX0
  have HV := Lib.hid (hv.below b0)
  have HS := Lib.hid (hs.below b0)
  have B0 := Lib.hid b0
  clear b0 hv hs hX0 k0 k1 k2 hz2 hp hpo
  go_enter Tryd.func11, Tryd.ntmps11
  go_wp2_with fail
  rw [show ((w.alloc (.cells (gndC e v0 gen).toArray 27)).alloc (.cells (u8s p).toArray 24)).alloc (.cells #[.int .i64 0, .slice none 0 0, .int .u8 0, .int .u8 0, .int .u8 0, .int .u8 0, .int .u8 0, .int .u8 0, .int .u8 0, .int .u8 0, .int .u8 0, .int .u8 0, .int .u8 0, .int .u8 0, .int .u8 0, .int .u8 0, .int .u8 0, .int .u8 0] 27) = X0 from HX.out.symm]
  refine (check1_any vs A n c aS X0 HV.out HS.out.s).mono ?_
  rintro _ w1 ⟨rfl, hb1⟩
  have B1 := Lib.hid (B0.out.trans (hb1.mono B0.out.size))
  have H1 := Lib.hid (HH.out.below hb1)
  have V1 := Lib.hid (HV.out.below hb1)
  have S1 := Lib.hid (HS.out.below hb1)
  have k0 := blk_below K0.out hb1
  have c0 := gnd_0 k0
  have RP := Lib.hid (blk_range (blk_below K1.out hb1))
  clear hb1 HX k0
  by_cases hval : validB vs = true
  case neg =>
    have hc : checkV vs aS = errV aS := by unfold checkV; rw [if_neg hval]
    have hvf : validB vs = false := by simpa using hval
    have HVF := Lib.hid hvf
    rw [hc]
    clear hc hval hvf
    go_wp2_with (refine wpList_store_row rfl 27 (.tmp 6) (.tmp 13) rfl (w.heap.size + 2) rfl (gndC 0 (.slice none 0 0) zero16) rfl 27 (by rw [zgnd_len]; exact H1.out) (by rw [zgnd_len]; exact Tryd.size27) (one_gnd _ _ _ rfl) ?_; intro w5 hp5; have K5 := Lib.hid hp5.blk; have B5 := Lib.hid (hp5.below B1.out (by omega)); clear hp5)
    refine bodyPost_ret (v := .tuple #[noG, errV aS]) (results_cell_row_tmp rfl _ _ (w.heap.size + 2) 27 _ (0, 0) _ rfl K5.out Tryd.underlying27 rfl (by simp only [List.size_toArray]; rw [zgnd_len]; exact Tryd.size27) rfl) rfl ⟨B5.out, .inl ⟨HVF.out, rfl⟩⟩
  have hc : checkV vs aS = .nilIface := by unfold checkV; rw [if_pos hval]
  rw [hc]
  have HVT := Lib.hid hval
  clear hc hval
  by_cases hin : 0 ≤ e ∧ e < 1073741824
  case neg =>
    have HOUT := Lib.hid (show OutE e by unfold OutE; omega)
    by_cases hlt : e < 0
    · clear hin
      go_wp2_with fail
      refine wp_region_rely4 (by kernel_rfl) 3 (by kernel_rfl) (by kernel_rfl) (But (fun t => t = w.heap.size + 2)) Ext 2 (But.refl _) Ext.refl Ext.trans But.trans (fun ix => match ix with
        | 0 => fun _ v => v = noG
        | 1 => fun _ v => v = errV aE
        | 2 => fun W _ => W.heap[w.heap.size + 2]? = some (.cells (gndC 0 (.slice none 0 0) zero16).toArray 27 (0, 0))
        | _ => fun _ _ => False) ?_
      simp (maxSteps := 10000000) only [Rely4, List.take_succ_cons, List.take_zero, List.drop_succ_cons, List.drop_zero, Nat.reduceAdd, Nat.zero_add, Act.put, List.setIfInBounds_toArray, List.set_cons_succ, List.set_cons_zero]
      refine ⟨?_, ?_, ?_, ?_⟩
      · refine step4o rfl (by decide) fun rv wq hE hd => ?_
        exact gives_bld 27 _ rfl #[] (by simp) _ (build27z _) ⟨⟨But.refl _ _, Ext.refl _⟩, fun _ _ => rfl⟩
      · refine step4o rfl (by decide) fun rv wq hE hd => ?_
        have hc := (but_drewT hE).cellT S1.out.e (by show ¬ (0 = w.heap.size + 2); omega)
        exact gives_loadAt 29 _ rfl (.pointer (some ⟨0, 0, none⟩)) (errV aE) rfl (by go_simp) ⟨⟨But.refl _ _, Ext.refl _⟩, fun _ _ => rfl⟩
      · refine step4m rfl fun rv wq hE hZ hd => ?_
        refine gives_store_row 27 _ _ rfl (w.heap.size + 2) rfl (gndC 0 (.slice none 0 0) zero16) (show rv 0 = _ from hd.1) 27 (by rw [zgnd_len]; exact H1.out.below (ext_of_drew hZ)) (by rw [zgnd_len]; exact Tryd.size27) (one_gnd _ _ _ rfl) ?_
        intro w5 hp
        exact ⟨⟨hp.os, hp.tape, hp.output, by rw [hp.size]; exact Nat.le_refl _, fun k _ hs => hp.other k hs⟩, fun W hW => blk_below hp.blk hW⟩
      · intro rv wq hE hR
        have h1 : rv 1 = errV aE := hR 1 (by omega)
        have h2 := hR 2 (by omega)
        rw [h1]
        have K5 := Lib.hid h2
        have hbt := but_drewT hE
        have B5 := Lib.hid (show Below w.heap.size w wq from B1.out.trans ⟨hbt.os, hbt.tape, hbt.output, hbt.size, fun k hk => hbt.same k (Nat.lt_of_lt_of_le hk B1.out.size) (by show ¬ (k = w.heap.size + 2); omega)⟩)
        clear hR hE h1 h2 hbt
        go_wp2_with fail
        refine bodyPost_ret (v := .tuple #[noG, errV aE]) (results_cell_row_tmp rfl _ _ (w.heap.size + 2) 27 _ (0, 0) _ rfl K5.out Tryd.underlying27 rfl (by simp only [List.size_toArray]; rw [zgnd_len]; exact Tryd.size27) rfl) rfl ⟨B5.out, .inr (.inl ⟨HVT.out, HOUT.out, rfl⟩)⟩

    · have hge : (1073741824 : Int) ≤ e := by omega
      clear hin
      go_wp2_with fail
      refine wp_region_rely4 (by kernel_rfl) 3 (by kernel_rfl) (by kernel_rfl) (But (fun t => t = w.heap.size + 2)) Ext 2 (But.refl _) Ext.refl Ext.trans But.trans (fun ix => match ix with
        | 0 => fun _ v => v = noG
        | 1 => fun _ v => v = errV aE
        | 2 => fun W _ => W.heap[w.heap.size + 2]? = some (.cells (gndC 0 (.slice none 0 0) zero16).toArray 27 (0, 0))
        | _ => fun _ _ => False) ?_
      simp (maxSteps := 10000000) only [Rely4, List.take_succ_cons, List.take_zero, List.drop_succ_cons, List.drop_zero, Nat.reduceAdd, Nat.zero_add, Act.put, List.setIfInBounds_toArray, List.set_cons_succ, List.set_cons_zero]
      refine ⟨?_, ?_, ?_, ?_⟩
      · refine step4o rfl (by decide) fun rv wq hE hd => ?_
        exact gives_bld 27 _ rfl #[] (by simp) _ (build27z _) ⟨⟨But.refl _ _, Ext.refl _⟩, fun _ _ => rfl⟩
      · refine step4o rfl (by decide) fun rv wq hE hd => ?_
        have hc := (but_drewT hE).cellT S1.out.e (by show ¬ (0 = w.heap.size + 2); omega)
        exact gives_loadAt 29 _ rfl (.pointer (some ⟨0, 0, none⟩)) (errV aE) rfl (by go_simp) ⟨⟨But.refl _ _, Ext.refl _⟩, fun _ _ => rfl⟩
      · refine step4m rfl fun rv wq hE hZ hd => ?_
        refine gives_store_row 27 _ _ rfl (w.heap.size + 2) rfl (gndC 0 (.slice none 0 0) zero16) (show rv 0 = _ from hd.1) 27 (by rw [zgnd_len]; exact H1.out.below (ext_of_drew hZ)) (by rw [zgnd_len]; exact Tryd.size27) (one_gnd _ _ _ rfl) ?_
        intro w5 hp
        exact ⟨⟨hp.os, hp.tape, hp.output, by rw [hp.size]; exact Nat.le_refl _, fun k _ hs => hp.other k hs⟩, fun W hW => blk_below hp.blk hW⟩
      · intro rv wq hE hR
        have h1 : rv 1 = errV aE := hR 1 (by omega)
        have h2 := hR 2 (by omega)
        rw [h1]
        have K5 := Lib.hid h2
        have hbt := but_drewT hE
        have B5 := Lib.hid (show Below w.heap.size w wq from B1.out.trans ⟨hbt.os, hbt.tape, hbt.output, hbt.size, fun k hk => hbt.same k (Nat.lt_of_lt_of_le hk B1.out.size) (by show ¬ (k = w.heap.size + 2); omega)⟩)
        clear hR hE h1 h2 hbt
        go_wp2_with fail
        refine bodyPost_ret (v := .tuple #[noG, errV aE]) (results_cell_row_tmp rfl _ _ (w.heap.size + 2) 27 _ (0, 0) _ rfl K5.out Tryd.underlying27 rfl (by simp only [List.size_toArray]; rw [zgnd_len]; exact Tryd.size27) rfl) rfl ⟨B5.out, .inr (.inl ⟨HVT.out, HOUT.out, rfl⟩)⟩

  obtain ⟨hin1, hin2⟩ := hin
  have hn1 : ¬ e < 0 := by omega
  have hn2 : ¬ (1073741824 : Int) ≤ e := by omega
  have HIN := Lib.hid (show InE e from ⟨hin1, hin2⟩)
  go_wp2_with (refine wpList_load_g rfl 24 (.tmp 4) rfl (w.heap.size + 1) 0 rfl (u8s p) _ RP.out Tryd.underlying24 rfl (hi24 p HP.out) ?_)
  clear hn1 hn2
  refine (ground_any (e + 1) p HP.out HPO.out (by omega) (by omega) vs A n c aR aS aE w1 V1.out S1.out).mono ?_
  rintro _ w2 ⟨hb2, hr⟩
  have B2 := Lib.hid (B1.out.trans (hb2.mono B1.out.size))
  have H2 := Lib.hid (H1.out.below hb2)
  clear hb2 c0 RP
  rcases hr with ⟨hv, rfl⟩ | ⟨hv, A2, c2, rfl, ho⟩
  · have HVF := Lib.hid hv
    clear hv
    go_wp2_with (refine wpList_store_row rfl 27 (.tmp 6) (.tmp 31) rfl (w.heap.size + 2) rfl (gndC 0 (.slice none 0 0) zero16) rfl 27 (by rw [zgnd_len]; exact H2.out) (by rw [zgnd_len]; exact Tryd.size27) (one_gnd _ _ _ rfl) ?_; intro w5 hp5; have K5 := Lib.hid hp5.blk; have B5 := Lib.hid (hp5.below B2.out (by omega)); clear hp5)
    refine bodyPost_ret (v := .tuple #[noG, errV aS]) (results_cell_row_tmp rfl _ _ (w.heap.size + 2) 27 _ (0, 0) _ rfl K5.out Tryd.underlying27 rfl (by simp only [List.size_toArray]; rw [zgnd_len]; exact Tryd.size27) rfl) rfl ⟨B5.out, .inl ⟨HVF.out, rfl⟩⟩
  · have HVT := Lib.hid hv
    have OW := Lib.hid ho
    clear hv ho
    obtain ⟨ID, hID⟩ : ∃ x, x = idB (GEN (e + 1) p) := ⟨_, rfl⟩
    have hidg : ID.length = 16 ∧ u8s_ok ID := hID ▸ idB_good _
    rw [← hID]
    have HID := Lib.hid hID
    have hgl := gnd_len ((e + 1)) (.slice A2 n c2) ID hidg.1
    clear hID
    go_wp2_with (refine wpList_store_row rfl 27 (.tmp 6) (.tmp 31) rfl (w.heap.size + 2) rfl (gndC ((e + 1)) (.slice A2 n c2) ID) rfl 27 (by rw [hgl]; exact H2.out) (by rw [hgl]; exact Tryd.size27) (one_gnd _ _ _ rfl) ?_; intro w9 hp9; have K9 := Lib.hid hp9.blk; have B9 := Lib.hid (hp9.below B2.out (by omega)); have O9 := Lib.hid (own_other OW.out H2.out (by decide) hp9); clear hp9)
    refine bodyPost_ret (v := .tuple #[gndV ((e + 1)) (.slice A2 n c2) ID, .nilIface]) (results_cell_row_tmp rfl _ _ (w.heap.size + 2) 27 _ (0, 0) _ rfl K9.out Tryd.underlying27 rfl (by simp only [List.size_toArray]; rw [hgl]; exact Tryd.size27) rfl) rfl ⟨B9.out, .inr (.inr ⟨HVT.out, HIN.out, A2, c2, by rw [HID.out], own_mono O9.out B1.out.size⟩)⟩
end Go.Proofs.YtniknhhejlgdfaaDoor
/- A comparison whose answer is known; the plain step and the one within a round. -/
namespace Go.Proofs.YtniknhhejlgdfaaDoor
open Go.RowKit

section
variable {P : Program} {ops : Array Oper} {rest : List Oper} {o : Oper} {a : Act} {w : World} {Q : Exit → Act → World → Prop}
theorem wp_binG {K : Act → World → Prop} (op : BinOp) (t t2 : TypeId) (x y : Operand) (ho : o.op = .binOp op t x y t2) (a1 b1 v : Value) (hx : a.eval x = a1) (hy : a.eval y = b1) (hg : (eqGuard op t x y a1 b1).run P w = .ok () w) (hr : (binOp op t a1 b1).run P w = .ok v w)
    (h : K (a.put o.dst v) w) : o.wp P a w K Q := by
  unfold Oper.wp execOp
  simp only [ho, hx, hy, Sem.run_bind, hg, hr, Result.andThen_ok, Sem.run_pure]
  exact h
theorem wpList_binG (hw : Region.wanted o (yielded ops a.tmps) = true) (op : BinOp) (t t2 : TypeId) (x y : Operand) (ho : o.op = .binOp op t x y t2) (a1 b1 v : Value) (hx : a.eval x = a1) (hy : a.eval y = b1) (hg : (eqGuard op t x y a1 b1).run P w = .ok () w) (hr : (binOp op t a1 b1).run P w = .ok v w)
    (h : wpList P ops Q rest (a.put o.dst v) w) : wpList P ops Q (o :: rest) a w := by
  refine wpList_step fun K hK => ?_
  rw [if_pos hw]
  exact wp_binG op t t2 x y ho a1 b1 v hx hy hg hr (hK _ _ h)
theorem wpListIn_binG {n : Nat} {F : Fence} (hF : ∃ ro, F = AtRound ro) (hw : Region.wanted o (yielded ops a.tmps) = true) (op : BinOp) (t t2 : TypeId) (x y : Operand) (ho : o.op = .binOp op t x y t2) (a1 b1 v : Value) (hx : a.eval x = a1) (hy : a.eval y = b1) (hg : (eqGuard op t x y a1 b1).run P w = .ok () w) (hr : (binOp op t a1 b1).run P w = .ok v w)
    (h : wpListIn F n P ops Q rest (a.put o.dst v) w) : wpListIn F n P ops Q (o :: rest) a w := by
  obtain ⟨ro, rfl⟩ := hF
  exact wpListIn_op ro hw (fun c e => by rw [ho] at e; cases e) fun _ hK => wp_binG op t t2 x y ho a1 b1 v hx hy hg hr (hK _ _ h)
end
theorem guard24 (op : BinOp) (x y : Operand) (a b : List Int) (W : World) : (eqGuard op 24 x y (.agg (u8s a).toArray) (.agg (u8s b).toArray)).run Tryd.prog W = .ok () W := by
  cases op <;> go_simp
end Go.Proofs.YtniknhhejlgdfaaDoor
/- quoratelaw20.alive. -/
namespace Go.Proofs.YtniknhhejlgdfaaDoor
open Go.RowKit

theorem one_valid : validB oneV = true := by kernel_rfl
set_option maxHeartbeats 8000000 in
set_option maxRecDepth 100000 in
theorem alive20_any (aR aS aE : Addr) (w : World) (hs : Em w aR aS aE) :
    Calls Tryd.prog 9 #[] w fun e w' => e = .returned (.bool true) ∧ Below w.heap.size w w' := by
  obtain ⟨X0, hX0⟩ : ∃ X, X = w.alloc (.cells (rcells oneV).toArray 45) := ⟨_, rfl⟩
  have b0 : Below w.heap.size w X0 := by rw [hX0]; exact (Below.refl _ _).alloc (Nat.le_refl _) _
  have HV : Hid (Vals X0 (.slice (some ⟨w.heap.size, 0, none⟩) 1 1) oneV) := Lib.hid (by rw [hX0]; exact Vals.new w oneV 45 oneV_good (by decide))
  have HS := Lib.hid (hs.below b0)
  have B0 := Lib.hid b0
  have HX := Lib.hid hX0
  clear hs b0 hX0
  go_enter Tryd.func9, Tryd.ntmps9
  go_wp2_with fail
  rw [show w.alloc (.cells #[.int .u8 1, .int .u8 0, .int .u8 0, .int .u8 0, .int .u8 0, .int .u8 0, .int .u8 0, .int .u8 0, .int .u8 0, .int .u8 0, .int .u8 0, .int .u8 0, .int .u8 0, .int .u8 0, .int .u8 0, .int .u8 0, .int .i64 1] 45) = X0 from HX.out.symm]
  refine (first_any oneV _ 1 1 aR aS aE X0 HV.out HS.out).mono ?_
  rintro _ w1 ⟨hb1, hr⟩
  rcases hr with ⟨hv, _⟩ | ⟨_, A2, c2, rfl, ho⟩
  · rw [one_valid] at hv; cases hv
  have B1 := Lib.hid (B0.out.trans (hb1.mono B0.out.size))
  clear hb1 ho HX HV HS
  obtain ⟨ID, hID⟩ : ∃ x, x = idB (GEN 1 zero16) := ⟨_, rfl⟩
  have hidg : ID.length = 16 ∧ u8s_ok ID := hID ▸ idB_good _
  rw [← hID]
  have HID := Lib.hid hID
  have HIG := Lib.hid hidg
  have hgl := gnd_len 1 (.slice A2 1 c2) ID hidg.1
  clear hID hidg
  go_wp2_with (refine wpList_store_row rfl 27 (.tmp 1) (.tmp 10) rfl w1.heap.size rfl (gndC 1 (.slice A2 1 c2) ID) rfl 27 (has_new w1 _ _ _ (by rw [hgl]; rfl)) (by rw [hgl]; exact Tryd.size27) (one_gnd _ _ _ rfl) ?_; intro w2 hp2; have L2 : Below w1.heap.size w1 w2 := hp2.below ((Below.refl _ _).alloc (Nat.le_refl _) _) (Nat.le_refl _); have B2 := Lib.hid (B1.out.trans (L2.mono B1.out.size)); have K2 := Lib.hid hp2.blk; clear hp2 L2)
  refine (rgenesis_any 1 zero16 zero16_len w2).mono ?_
  rintro _ w3 ⟨rfl, hb3⟩
  have B3 := Lib.hid (B2.out.trans (hb3.mono B2.out.size))
  have K3 := Lib.hid (blk_below K2.out hb3)
  clear hb3 K2
  go_wp2_with fail
  refine (refid_any w3 (genC 1 zero16) (GEN 1 zero16) (genAt w3 1 zero16 zero16_len zero16_ok) (genI 1 zero16 (by omega) (by omega))).mono ?_
  rintro _ w4 ⟨rfl, hb4⟩
  rw [(idGen 1 zero16 (by omega) (by omega) aR).2, ← HID.out]
  have B4 := Lib.hid (B3.out.trans (hb4.mono B3.out.size))
  have K4 := Lib.hid (blk_below K3.out hb4)
  clear hb4 K3
  go_wp2_with (first | (refine wpList_store_row rfl 24 (.tmp 3) (.tmp 16) rfl w4.heap.size rfl (u8s ID) rfl 24 (has_new w4 _ _ _ (by rw [u8s_len', HIG.out.1]; rfl)) (hi24 ID HIG.out.1) (one_u8s _) ?_; intro w5 hp5; have L5 : Below w4.heap.size w4 w5 := hp5.below ((Below.refl _ _).alloc (Nat.le_refl _) _) (Nat.le_refl _); have B5 := Lib.hid (B4.out.trans (L5.mono B4.out.size)); have k5 := blk_below K4.out L5; have c0 := gnd_0 k5; have c1 := gnd_1 k5; have G5 := Lib.hid (gnd_2 k5); have I5 := Lib.hid (blk_range hp5.blk); clear hp5 L5 k5) | (refine wpList_load_g rfl 24 (.tmp 26) rfl w1.heap.size 2 rfl (u8s ID) _ G5.out Tryd.underlying24 rfl (hi24 ID HIG.out.1) ?_) | (refine wpList_load_g rfl 24 (.tmp 3) rfl w4.heap.size 0 rfl (u8s ID) _ I5.out Tryd.underlying24 rfl (hi24 ID HIG.out.1) ?_) | (refine wpList_binG rfl .eql 24 24 (.tmp 27) (.tmp 28) rfl (.agg (u8s ID).toArray) (.agg (u8s ID).toArray) (.bool true) rfl rfl (guard24 _ _ _ _ _ _) ((run_eql24 ID ID HIG.out.1 HIG.out.1 _).trans (by rw [decide_eq_true rfl])) ?_))
  go_ret
  exact ⟨rfl, B5.out⟩
end Go.Proofs.YtniknhhejlgdfaaDoor
/- EpochsApart: what the law does. -/
namespace Go.Proofs.YtniknhhejlgdfaaDoor
open Go.RowKit
set_option maxHeartbeats 16000000 in
set_option maxRecDepth 100000 in
theorem epochsApart_any (vs : List Va) (A : Option Addr) (n c : Nat) (p q : List Int) (hp : p.length = 16) (hpo : u8s_ok p) (hq : q.length = 16) (hqo : u8s_ok q) (aR aS aE : Addr) (w : World) (hv : Vals w (.slice A n c) vs) (hs : Em w aR aS aE) :
    Calls Tryd.prog 3 #[.slice A n c, .agg (u8s p).toArray, .agg (u8s q).toArray] w fun x w' => x = .returned (.bool true) ∧ Below w.heap.size w w' := by
  have b0 : Below w.heap.size w ((w.alloc (.cells (u8s p).toArray 24)).alloc (.cells (u8s q).toArray 24)) := ((Below.refl _ _).alloc (Nat.le_refl _) _).alloc (by simp) _
  have k1 : ((w.alloc (.cells (u8s p).toArray 24)).alloc (.cells (u8s q).toArray 24)).heap[w.heap.size + 1]? = some (.cells (u8s q).toArray 24 (0, 0)) := by
    have := heap_alloc_new (w.alloc (.cells (u8s p).toArray 24)) (.cells (u8s q).toArray 24)
    rwa [World.size_alloc] at this
  have HP := Lib.hid hp
  have HQ := Lib.hid hq
  have HPO := Lib.hid hpo
  have HQO := Lib.hid hqo
  have V0 := Lib.hid (hv.below b0)
  have S0 := Lib.hid (hs.below b0)
  have P0 := Lib.hid (heap_alloc2_old w (.cells (u8s p).toArray 24) (.cells (u8s q).toArray 24))
  have Q0 := Lib.hid k1
  have B0 := Lib.hid b0
  clear b0 hv hs k1 hp hq hpo hqo
  go_enter Tryd.func3, Tryd.ntmps3
  go_wp2_with fail
  refine (alive20_any aR aS aE _ S0.out).mono ?_
  rintro _ w1 ⟨rfl, hb1⟩
  have V1 := Lib.hid (V0.out.below hb1)
  have S1 := Lib.hid (S0.out.below hb1)
  have P1 := Lib.hid (blk_below P0.out hb1)
  have Q1 := Lib.hid (blk_below Q0.out hb1)
  have B1 := Lib.hid (B0.out.trans (hb1.mono B0.out.size))
  clear hb1
  clear V0 S0 P0 Q0 B0
  by_cases h7 : 7 < n
  · have h7' : (7 : Int) < n := by omega
    go_wp2_with fail
    go_ret
    exact ⟨rfl, B1.out⟩
  have h7' : ¬ (7 : Int) < n := by omega
  go_wp2_with fail
  clear h7 h7'
  refine (first_any vs A n c aR aS aE w1 V1.out S1.out).mono ?_
  rintro _ w2 ⟨hb2, hr⟩
  have V2 := Lib.hid (V1.out.below hb2)
  have S2 := Lib.hid (S1.out.below hb2)
  have P2 := Lib.hid (blk_below P1.out hb2)
  have Q2 := Lib.hid (blk_below Q1.out hb2)
  have B2 := Lib.hid (B1.out.trans (hb2.mono B1.out.size))
  clear hb2
  clear V1 S1 P1 Q1 B1
  rcases hr with ⟨_, rfl⟩ | ⟨hval, A1, c1, rfl, ho⟩
  · go_wp2_with (refine wpList_store_row rfl 27 (.tmp 7) (.tmp 25) rfl w2.heap.size rfl (gndC 0 (.slice none 0 0) zero16) rfl 27 (has_new w2 _ _ _ (by rw [zgnd_len]; rfl)) (by rw [zgnd_len]; exact Tryd.size27) (one_gnd _ _ _ rfl) ?_; intro w3 hp3; have L3 : Below w2.heap.size w2 w3 := hp3.below ((Below.refl _ _).alloc (Nat.le_refl _) _) (Nat.le_refl _); have B3 := Lib.hid (B2.out.trans (L3.mono B2.out.size)); have G3 := Lib.hid hp3.blk; clear hp3 L3)
    go_ret
    exact ⟨rfl, B3.out⟩
  clear ho
  have HVAL := Lib.hid hval
  clear hval
  obtain ⟨IZ, hIZ⟩ : ∃ x, x = idB (GEN 1 zero16) := ⟨_, rfl⟩
  have hz : IZ.length = 16 := hIZ ▸ (idB_good _).1
  rw [← hIZ]
  have HZ := Lib.hid hz
  have hg1 := Lib.hid (gnd_len 1 (.slice A1 n c1) IZ hz)
  clear hIZ hz
  go_wp2_with (first | (refine wpList_store_row rfl 27 (.tmp 7) (.tmp 25) rfl w2.heap.size rfl (gndC 1 (.slice A1 n c1) IZ) rfl 27 (has_new w2 _ _ _ (by rw [hg1.out]; rfl)) (by rw [hg1.out]; exact Tryd.size27) (one_gnd _ _ _ rfl) ?_; intro w3 hp3; have L3 : Below w2.heap.size w2 w3 := hp3.below ((Below.refl _ _).alloc (Nat.le_refl _) _) (Nat.le_refl _); have V3 := Lib.hid (V2.out.below L3); have S3 := Lib.hid (S2.out.below L3); have P3 := Lib.hid (blk_below P2.out L3); have Q3 := Lib.hid (blk_below Q2.out L3); have B3 := Lib.hid (B2.out.trans (L3.mono B2.out.size)); have G3 := Lib.hid hp3.blk; clear hp3 L3) | (refine wpList_load_g rfl 27 (.tmp 7) rfl (w2.heap.size) 0 rfl (gndC 1 (.slice A1 n c1) IZ) _ (blk_range G3.out) Tryd.underlying27 rfl (by rw [hg1.out]; exact Tryd.size27) ?_) | (refine wpList_load_g rfl 24 (.tmp 4) rfl (w.heap.size) 0 rfl (u8s p) _ (blk_range P3.out) Tryd.underlying24 rfl ((hi24 p HP.out)) ?_))
  refine (next_any 1 (.slice A1 n c1) IZ p HZ.out HP.out HPO.out vs A n c aR aS aE w3 V3.out S3.out).mono ?_
  rintro _ w4 ⟨hb4, hr⟩
  obtain ⟨A2, c2, rfl⟩ : ∃ A2 c2, _ = Ending.returned (.tuple #[gndV 2 (.slice A2 n c2) (idB (GEN 2 p)), .nilIface]) := by
    rcases hr with ⟨hv, _⟩ | ⟨_, ho, _⟩ | ⟨_, _, A2, c2, hx, _⟩
    · rw [HVAL.out] at hv; cases hv
    · exfalso; unfold OutE at ho; omega
    · exact ⟨A2, c2, hx⟩
  clear hr
  obtain ⟨IP, hIP⟩ : ∃ x, x = idB (GEN 2 p) := ⟨_, rfl⟩
  have hg : IP.length = 16 := hIP ▸ (idB_good _).1
  rw [← hIP]
  have HIP := Lib.hid hIP
  have LIP := Lib.hid hg
  have hlIP := Lib.hid (gnd_len 2 (.slice A2 n c2) IP hg)
  clear hIP hg
  have V4 := Lib.hid (V3.out.below hb4)
  have S4 := Lib.hid (S3.out.below hb4)
  have P4 := Lib.hid (blk_below P3.out hb4)
  have Q4 := Lib.hid (blk_below Q3.out hb4)
  have G4 := Lib.hid (blk_below G3.out hb4)
  have B4 := Lib.hid (B3.out.trans (hb4.mono B3.out.size))
  clear hb4
  clear V3 S3 P3 Q3 G3 B3
  go_wp2_with (first | (refine wpList_store_row rfl 27 (.tmp 9) (.tmp 34) rfl w4.heap.size rfl (gndC 2 (.slice A2 n c2) IP) rfl 27 (has_new w4 _ _ _ (by rw [hlIP.out]; rfl)) (by rw [hlIP.out]; exact Tryd.size27) (one_gnd _ _ _ rfl) ?_; intro w5 hp5; have L5 : Below w4.heap.size w4 w5 := hp5.below ((Below.refl _ _).alloc (Nat.le_refl _) _) (Nat.le_refl _); have V5 := Lib.hid (V4.out.below L5); have S5 := Lib.hid (S4.out.below L5); have P5 := Lib.hid (blk_below P4.out L5); have Q5 := Lib.hid (blk_below Q4.out L5); have G5 := Lib.hid (blk_below G4.out L5); have B5 := Lib.hid (B4.out.trans (L5.mono B4.out.size)); have U5 := Lib.hid hp5.blk; clear hp5 L5) | (refine wpList_load_g rfl 27 (.tmp 7) rfl (w2.heap.size) 0 rfl (gndC 1 (.slice A1 n c1) IZ) _ (blk_range G5.out) Tryd.underlying27 rfl (by rw [hg1.out]; exact Tryd.size27) ?_) | (refine wpList_load_g rfl 24 (.tmp 5) rfl (w.heap.size + 1) 0 rfl (u8s q) _ (blk_range Q5.out) Tryd.underlying24 rfl ((hi24 q HQ.out)) ?_))
  refine (next_any 1 (.slice A1 n c1) IZ q HZ.out HQ.out HQO.out vs A n c aR aS aE w5 V5.out S5.out).mono ?_
  rintro _ w6 ⟨hb6, hr⟩
  obtain ⟨A3, c3, rfl⟩ : ∃ A2 c2, _ = Ending.returned (.tuple #[gndV 2 (.slice A2 n c2) (idB (GEN 2 q)), .nilIface]) := by
    rcases hr with ⟨hv, _⟩ | ⟨_, ho, _⟩ | ⟨_, _, A2, c2, hx, _⟩
    · rw [HVAL.out] at hv; cases hv
    · exfalso; unfold OutE at ho; omega
    · exact ⟨A2, c2, hx⟩
  clear hr
  obtain ⟨IQ, hIQ⟩ : ∃ x, x = idB (GEN 2 q) := ⟨_, rfl⟩
  have hg : IQ.length = 16 := hIQ ▸ (idB_good _).1
  rw [← hIQ]
  have HIQ := Lib.hid hIQ
  have LIQ := Lib.hid hg
  have hlIQ := Lib.hid (gnd_len 2 (.slice A3 n c3) IQ hg)
  clear hIQ hg
  have V6 := Lib.hid (V5.out.below hb6)
  have S6 := Lib.hid (S5.out.below hb6)
  have P6 := Lib.hid (blk_below P5.out hb6)
  have Q6 := Lib.hid (blk_below Q5.out hb6)
  have G6 := Lib.hid (blk_below G5.out hb6)
  have U6 := Lib.hid (blk_below U5.out hb6)
  have B6 := Lib.hid (B5.out.trans (hb6.mono B5.out.size))
  clear hb6
  clear V5 S5 P5 Q5 G5 U5 B5
  go_wp2_with (first | (refine wpList_store_row rfl 27 (.tmp 11) (.tmp 41) rfl w6.heap.size rfl (gndC 2 (.slice A3 n c3) IQ) rfl 27 (has_new w6 _ _ _ (by rw [hlIQ.out]; rfl)) (by rw [hlIQ.out]; exact Tryd.size27) (one_gnd _ _ _ rfl) ?_; intro w7 hp7; have L7 : Below w6.heap.size w6 w7 := hp7.below ((Below.refl _ _).alloc (Nat.le_refl _) _) (Nat.le_refl _); have P7 := Lib.hid (blk_below P6.out L7); have Q7 := Lib.hid (blk_below Q6.out L7); have U7 := Lib.hid (blk_below U6.out L7); have B7 := Lib.hid (B6.out.trans (L7.mono B6.out.size)); have W7 := Lib.hid hp7.blk; clear hp7 L7; have cU := gnd_0 U7.out; have cW := gnd_0 W7.out) | (refine wpList_load_g rfl 24 (.tmp 4) rfl (w.heap.size) 0 rfl (u8s p) _ (blk_range P7.out) Tryd.underlying24 rfl ((hi24 p HP.out)) ?_))
  clear cU cW
  refine (genesis_any 2 p HP.out w7).mono ?_
  rintro _ w8 ⟨rfl, hb8⟩
  have P8 := Lib.hid (blk_below P7.out hb8)
  have Q8 := Lib.hid (blk_below Q7.out hb8)
  have U8 := Lib.hid (blk_below U7.out hb8)
  have W8 := Lib.hid (blk_below W7.out hb8)
  have B8 := Lib.hid (B7.out.trans (hb8.mono B7.out.size))
  clear hb8
  clear P7 Q7 U7 W7 B7
  go_wp2_with fail
  refine (refid_any w8 (genC 2 p) (GEN 2 p) (genAt w8 2 p HP.out HPO.out) (genI 2 p (by omega) (by omega))).mono ?_
  rintro _ w9 ⟨rfl, hb9⟩
  rw [(idGen 2 p (by omega) (by omega) aR).2, ← HIP.out]
  have P9 := Lib.hid (blk_below P8.out hb9)
  have Q9 := Lib.hid (blk_below Q8.out hb9)
  have U9 := Lib.hid (blk_below U8.out hb9)
  have W9 := Lib.hid (blk_below W8.out hb9)
  have B9 := Lib.hid (B8.out.trans (hb9.mono B8.out.size))
  clear hb9
  clear P8 Q8 U8 W8 B8
  go_wp2_with (first | (refine wpList_store_row rfl 24 (.tmp 13) (.tmp 63) rfl w9.heap.size rfl (u8s IP) rfl 24 (has_new w9 _ _ _ (by rw [u8s_len', LIP.out]; rfl)) (by rw [u8s_len', LIP.out]; exact Tryd.size24) (one_u8s _) ?_; intro w10 hp10; have L10 : Below w9.heap.size w9 w10 := hp10.below ((Below.refl _ _).alloc (Nat.le_refl _) _) (Nat.le_refl _); have P10 := Lib.hid (blk_below P9.out L10); have Q10 := Lib.hid (blk_below Q9.out L10); have U10 := Lib.hid (blk_below U9.out L10); have W10 := Lib.hid (blk_below W9.out L10); have B10 := Lib.hid (B9.out.trans (L10.mono B9.out.size)); have X10 := Lib.hid hp10.blk; clear hp10 L10) | (refine wpList_load_g rfl 24 (.tmp 5) rfl (w.heap.size + 1) 0 rfl (u8s q) _ (blk_range Q10.out) Tryd.underlying24 rfl ((hi24 q HQ.out)) ?_))
  refine (genesis_any 2 q HQ.out w10).mono ?_
  rintro _ w11 ⟨rfl, hb11⟩
  have P11 := Lib.hid (blk_below P10.out hb11)
  have Q11 := Lib.hid (blk_below Q10.out hb11)
  have U11 := Lib.hid (blk_below U10.out hb11)
  have W11 := Lib.hid (blk_below W10.out hb11)
  have X11 := Lib.hid (blk_below X10.out hb11)
  have B11 := Lib.hid (B10.out.trans (hb11.mono B10.out.size))
  clear hb11
  clear P10 Q10 U10 W10 X10 B10
  go_wp2_with fail
  refine (refid_any w11 (genC 2 q) (GEN 2 q) (genAt w11 2 q HQ.out HQO.out) (genI 2 q (by omega) (by omega))).mono ?_
  rintro _ w12 ⟨rfl, hb12⟩
  rw [(idGen 2 q (by omega) (by omega) aR).2, ← HIQ.out]
  have P12 := Lib.hid (blk_below P11.out hb12)
  have Q12 := Lib.hid (blk_below Q11.out hb12)
  have U12 := Lib.hid (blk_below U11.out hb12)
  have W12 := Lib.hid (blk_below W11.out hb12)
  have X12 := Lib.hid (blk_below X11.out hb12)
  have B12 := Lib.hid (B11.out.trans (hb12.mono B11.out.size))
  clear hb12
  clear P11 Q11 U11 W11 X11 B11
  go_wp2_with (first | (refine wpList_store_row rfl 24 (.tmp 15) (.tmp 69) rfl w12.heap.size rfl (u8s IQ) rfl 24 (has_new w12 _ _ _ (by rw [u8s_len', LIQ.out]; rfl)) (by rw [u8s_len', LIQ.out]; exact Tryd.size24) (one_u8s _) ?_; intro w13 hp13; have L13 : Below w12.heap.size w12 w13 := hp13.below ((Below.refl _ _).alloc (Nat.le_refl _) _) (Nat.le_refl _); have P13 := Lib.hid (blk_below P12.out L13); have Q13 := Lib.hid (blk_below Q12.out L13); have U13 := Lib.hid (blk_below U12.out L13); have W13 := Lib.hid (blk_below W12.out L13); have X13 := Lib.hid (blk_below X12.out L13); have B13 := Lib.hid (B12.out.trans (L13.mono B12.out.size)); have Y13 := Lib.hid hp13.blk; clear hp13 L13))
  have UR := Lib.hid (gnd_2 U13.out)
  have WR := Lib.hid (gnd_2 W13.out)
  have XR := Lib.hid (blk_range X13.out)
  have YR := Lib.hid (blk_range Y13.out)
  have PR := Lib.hid (blk_range P13.out)
  have QR := Lib.hid (blk_range Q13.out)
  by_cases hpq : p = q
  · have heq : (!decide (p = q)) = false := by rw [decide_eq_true hpq]; rfl
    have HEQ := Lib.hid heq
    have hii : decide (IP = IQ) = true := by rw [HIP.out, HIQ.out, hpq]; exact decide_eq_true rfl
    have HII := Lib.hid hii
    clear heq hii hpq
    refine wp_region_rely3 (by kernel_rfl) 19 (by kernel_rfl) (by kernel_rfl) Ext Ext.refl Ext.trans (fun ix => match ix with
      | 0 => fun _ v => v = .pointer (some ⟨w4.heap.size, 2, none⟩)
      | 1 => fun _ v => v = .agg (u8s IP).toArray
      | 2 => fun _ v => v = .pointer (some ⟨w6.heap.size, 2, none⟩)
      | 3 => fun _ v => v = .agg (u8s IQ).toArray
      | 4 => fun _ v => v = .bool (decide (IP = IQ))
      | 5 => fun _ v => v = .agg (u8s IP).toArray
      | 6 => fun _ v => v = .agg (u8s IQ).toArray
      | 7 => fun _ v => v = .bool (decide (IP = IQ))
      | 8 => fun _ v => v = .bool true
      | 9 => fun _ v => v = .bool true
      | 10 => fun _ v => v = .agg (u8s p).toArray
      | 11 => fun _ v => v = .agg (u8s q).toArray
      | 12 => fun _ v => v = .bool false
      | 13 => fun _ v => v = .bool false
      | 14 => fun _ v => v = .agg (u8s IP).toArray
      | 15 => fun _ v => v = .agg (u8s IQ).toArray
      | 16 => fun _ v => v = .bool true
      | 17 => fun _ v => v = .bool true
      | 18 => fun _ v => v = .bool true
      | _ => fun _ _ => False) ?_
    simp (maxSteps := 10000000) only [Rely, List.take_succ_cons, List.take_zero, List.drop_succ_cons, List.drop_zero, Nat.reduceAdd, Nat.zero_add, Act.put, List.setIfInBounds_toArray, List.set_cons_succ, List.set_cons_zero]
    refine ⟨?_, ?_, ?_, ?_, ?_, ?_, ?_, ?_, ?_, ?_, ?_, ?_, ?_, ?_, ?_, ?_, ?_, ?_, ?_, ?_⟩
    · refine step_plain rfl fun rv wq hE hd => ?_
      exact gives_fieldAddr' 27 _ 2 rfl (.pointer (some ⟨w4.heap.size, 0, none⟩)) _ rfl (by go_simp) ⟨Ext.refl _, fun _ _ => rfl⟩
    · refine step_plain rfl fun rv wq hE hd => ?_
      exact gives_load_row 24 _ rfl (w4.heap.size) (2) (show rv 0 = _ from hd.1) (u8s IP) _ (range_below UR.out (ext_of_drew hE)) Tryd.underlying24 rfl (hi24 IP LIP.out) ⟨Ext.refl _, fun _ _ => rfl⟩
    · refine step_plain rfl fun rv wq hE hd => ?_
      exact gives_fieldAddr' 27 _ 2 rfl (.pointer (some ⟨w6.heap.size, 0, none⟩)) _ rfl (by go_simp) ⟨Ext.refl _, fun _ _ => rfl⟩
    · refine step_plain rfl fun rv wq hE hd => ?_
      exact gives_load_row 24 _ rfl (w6.heap.size) (2) (show rv 2 = _ from hd.1) (u8s IQ) _ (range_below WR.out (ext_of_drew hE)) Tryd.underlying24 rfl (hi24 IQ LIQ.out) ⟨Ext.refl _, fun _ _ => rfl⟩
    · refine step_plain rfl fun rv wq hE hd => ?_
      exact gives_binOp .eql 24 _ _ _ rfl (.agg (u8s IP).toArray) (.agg (u8s IQ).toArray) (.bool (decide (IP = IQ))) (show rv 1 = _ from hd.1) (show rv 3 = _ from hd.2.1) (guard24 _ _ _ _ _ _) (run_eql24 IP IQ LIP.out LIQ.out _) ⟨Ext.refl _, fun _ _ => rfl⟩
    · refine step_plain rfl fun rv wq hE hd => ?_
      exact gives_load_row 24 _ rfl (w9.heap.size) (0) rfl (u8s IP) _ (range_below XR.out (ext_of_drew hE)) Tryd.underlying24 rfl (hi24 IP LIP.out) ⟨Ext.refl _, fun _ _ => rfl⟩
    · refine step_plain rfl fun rv wq hE hd => ?_
      exact gives_load_row 24 _ rfl (w12.heap.size) (0) rfl (u8s IQ) _ (range_below YR.out (ext_of_drew hE)) Tryd.underlying24 rfl (hi24 IQ LIQ.out) ⟨Ext.refl _, fun _ _ => rfl⟩
    · refine step_plain rfl fun rv wq hE hd => ?_
      exact gives_binOp .eql 24 _ _ _ rfl (.agg (u8s IP).toArray) (.agg (u8s IQ).toArray) (.bool (decide (IP = IQ))) (show rv 5 = _ from hd.1) (show rv 6 = _ from hd.2.1) (guard24 _ _ _ _ _ _) (run_eql24 IP IQ LIP.out LIQ.out _) ⟨Ext.refl _, fun _ _ => rfl⟩
    · refine step_plain rfl fun rv wq hE hd => ?_
      exact gives_binOp .eql 4 _ _ _ rfl (.bool (decide (IP = IQ))) (.bool (decide (IP = IQ))) (.bool true) (show rv 4 = _ from hd.1) (show rv 7 = _ from hd.2.1) (by go_simp) (by cases decide (IP = IQ) <;> go_simp) ⟨Ext.refl _, fun _ _ => rfl⟩
    · refine step_plain rfl fun rv wq hE hd => ?_
      exact gives_move _ (.bool true) (.inl rfl) (show rv 8 = _ from hd.1) ⟨Ext.refl _, fun _ _ => rfl⟩
    · refine step_guard 9 true 80 rfl rfl (fun _ => rfl) fun rv wq hE hd => ⟨hd.1, ?_⟩
      exact gives_load_row 24 _ rfl (w.heap.size) (0) rfl (u8s p) _ (range_below PR.out (ext_of_drew hE)) Tryd.underlying24 rfl (hi24 p HP.out) ⟨Ext.refl _, fun _ _ => rfl⟩
    · refine step_guard 9 true 80 rfl rfl (fun _ => rfl) fun rv wq hE hd => ⟨hd.1, ?_⟩
      exact gives_load_row 24 _ rfl (w.heap.size + 1) (0) rfl (u8s q) _ (range_below QR.out (ext_of_drew hE)) Tryd.underlying24 rfl (hi24 q HQ.out) ⟨Ext.refl _, fun _ _ => rfl⟩
    · refine step_guard 9 true 80 rfl rfl (fun _ => rfl) fun rv wq hE hd => ⟨hd.2.2.1, ?_⟩
      exact gives_binOp .neq 24 _ _ _ rfl (.agg (u8s p).toArray) (.agg (u8s q).toArray) (.bool false) (show rv 10 = _ from hd.1) (show rv 11 = _ from hd.2.1) (guard24 _ _ _ _ _ _) ((run_neq24 p q HP.out HQ.out _).trans (by rw [HEQ.out])) ⟨Ext.refl _, fun _ _ => rfl⟩
    · refine step_guard 9 true 80 rfl rfl (fun _ => rfl) fun rv wq hE hd => ⟨hd.2.2.1, ?_⟩
      exact gives_move _ (.bool false) (.inl rfl) (show rv 12 = _ from hd.1) ⟨Ext.refl _, fun _ _ => rfl⟩
    · refine step_guard 13 false 84 rfl rfl (fun _ => rfl) fun rv wq hE hd => ⟨hd.1, ?_⟩
      exact gives_load_row 24 _ rfl (w9.heap.size) (0) rfl (u8s IP) _ (range_below XR.out (ext_of_drew hE)) Tryd.underlying24 rfl (hi24 IP LIP.out) ⟨Ext.refl _, fun _ _ => rfl⟩
    · refine step_guard 13 false 84 rfl rfl (fun _ => rfl) fun rv wq hE hd => ⟨hd.1, ?_⟩
      exact gives_load_row 24 _ rfl (w12.heap.size) (0) rfl (u8s IQ) _ (range_below YR.out (ext_of_drew hE)) Tryd.underlying24 rfl (hi24 IQ LIQ.out) ⟨Ext.refl _, fun _ _ => rfl⟩
    · refine step_guard 13 false 84 rfl rfl (fun _ => rfl) fun rv wq hE hd => ⟨hd.2.2.1, ?_⟩
      exact gives_binOp .eql 24 _ _ _ rfl (.agg (u8s IP).toArray) (.agg (u8s IQ).toArray) (.bool true) (show rv 14 = _ from hd.1) (show rv 15 = _ from hd.2.1) (guard24 _ _ _ _ _ _) ((run_eql24 IP IQ LIP.out LIQ.out _).trans (by rw [HII.out])) ⟨Ext.refl _, fun _ _ => rfl⟩
    · refine step_guard 9 true 80 rfl rfl (fun _ => rfl) fun rv wq hE hd => ⟨hd.2.2.1, ?_⟩
      exact gives_pick _ _ _ (.bool true) false rfl (show rv 13 = _ from hd.1) (show rv 16 = _ from hd.2.1) ⟨Ext.refl _, fun _ _ => rfl⟩
    · refine step_plain rfl fun rv wq hE hd => ?_
      exact gives_pick _ _ _ (.bool true) true rfl (show rv 9 = _ from hd.1) (show rv 17 = _ from hd.2.1) ⟨Ext.refl _, fun _ _ => rfl⟩
    · intro rv wq hE hR
      have h18 : rv 18 = .bool true := hR 18 (by omega)
      rw [h18]
      have B8 := Lib.hid (B13.out.trans ((ext_of_drew hE).mono B13.out.size))
      clear hR hE h18
      go_wp2_with fail
      go_ret
      exact ⟨rfl, B8.out⟩
  · have heq : (!decide (p = q)) = true := by rw [decide_eq_false hpq]; rfl
    have HEQ := Lib.hid heq
    clear heq hpq
    refine wp_region_rely3 (by kernel_rfl) 19 (by kernel_rfl) (by kernel_rfl) Ext Ext.refl Ext.trans (fun ix => match ix with
      | 0 => fun _ v => v = .pointer (some ⟨w4.heap.size, 2, none⟩)
      | 1 => fun _ v => v = .agg (u8s IP).toArray
      | 2 => fun _ v => v = .pointer (some ⟨w6.heap.size, 2, none⟩)
      | 3 => fun _ v => v = .agg (u8s IQ).toArray
      | 4 => fun _ v => v = .bool (decide (IP = IQ))
      | 5 => fun _ v => v = .agg (u8s IP).toArray
      | 6 => fun _ v => v = .agg (u8s IQ).toArray
      | 7 => fun _ v => v = .bool (decide (IP = IQ))
      | 8 => fun _ v => v = .bool true
      | 9 => fun _ v => v = .bool true
      | 10 => fun _ v => v = .agg (u8s p).toArray
      | 11 => fun _ v => v = .agg (u8s q).toArray
      | 12 => fun _ v => v = .bool true
      | 13 => fun _ v => v = .bool true
      | 14 => fun _ v => v = undef
      | 15 => fun _ v => v = undef
      | 16 => fun _ v => v = undef
      | 17 => fun _ v => v = .bool true
      | 18 => fun _ v => v = .bool true
      | _ => fun _ _ => False) ?_
    simp (maxSteps := 10000000) only [Rely, List.take_succ_cons, List.take_zero, List.drop_succ_cons, List.drop_zero, Nat.reduceAdd, Nat.zero_add, Act.put, List.setIfInBounds_toArray, List.set_cons_succ, List.set_cons_zero]
    refine ⟨?_, ?_, ?_, ?_, ?_, ?_, ?_, ?_, ?_, ?_, ?_, ?_, ?_, ?_, ?_, ?_, ?_, ?_, ?_, ?_⟩
    · refine step_plain rfl fun rv wq hE hd => ?_
      exact gives_fieldAddr' 27 _ 2 rfl (.pointer (some ⟨w4.heap.size, 0, none⟩)) _ rfl (by go_simp) ⟨Ext.refl _, fun _ _ => rfl⟩
    · refine step_plain rfl fun rv wq hE hd => ?_
      exact gives_load_row 24 _ rfl (w4.heap.size) (2) (show rv 0 = _ from hd.1) (u8s IP) _ (range_below UR.out (ext_of_drew hE)) Tryd.underlying24 rfl (hi24 IP LIP.out) ⟨Ext.refl _, fun _ _ => rfl⟩
    · refine step_plain rfl fun rv wq hE hd => ?_
      exact gives_fieldAddr' 27 _ 2 rfl (.pointer (some ⟨w6.heap.size, 0, none⟩)) _ rfl (by go_simp) ⟨Ext.refl _, fun _ _ => rfl⟩
    · refine step_plain rfl fun rv wq hE hd => ?_
      exact gives_load_row 24 _ rfl (w6.heap.size) (2) (show rv 2 = _ from hd.1) (u8s IQ) _ (range_below WR.out (ext_of_drew hE)) Tryd.underlying24 rfl (hi24 IQ LIQ.out) ⟨Ext.refl _, fun _ _ => rfl⟩
    · refine step_plain rfl fun rv wq hE hd => ?_
      exact gives_binOp .eql 24 _ _ _ rfl (.agg (u8s IP).toArray) (.agg (u8s IQ).toArray) (.bool (decide (IP = IQ))) (show rv 1 = _ from hd.1) (show rv 3 = _ from hd.2.1) (guard24 _ _ _ _ _ _) (run_eql24 IP IQ LIP.out LIQ.out _) ⟨Ext.refl _, fun _ _ => rfl⟩
    · refine step_plain rfl fun rv wq hE hd => ?_
      exact gives_load_row 24 _ rfl (w9.heap.size) (0) rfl (u8s IP) _ (range_below XR.out (ext_of_drew hE)) Tryd.underlying24 rfl (hi24 IP LIP.out) ⟨Ext.refl _, fun _ _ => rfl⟩
    · refine step_plain rfl fun rv wq hE hd => ?_
      exact gives_load_row 24 _ rfl (w12.heap.size) (0) rfl (u8s IQ) _ (range_below YR.out (ext_of_drew hE)) Tryd.underlying24 rfl (hi24 IQ LIQ.out) ⟨Ext.refl _, fun _ _ => rfl⟩
    · refine step_plain rfl fun rv wq hE hd => ?_
      exact gives_binOp .eql 24 _ _ _ rfl (.agg (u8s IP).toArray) (.agg (u8s IQ).toArray) (.bool (decide (IP = IQ))) (show rv 5 = _ from hd.1) (show rv 6 = _ from hd.2.1) (guard24 _ _ _ _ _ _) (run_eql24 IP IQ LIP.out LIQ.out _) ⟨Ext.refl _, fun _ _ => rfl⟩
    · refine step_plain rfl fun rv wq hE hd => ?_
      exact gives_binOp .eql 4 _ _ _ rfl (.bool (decide (IP = IQ))) (.bool (decide (IP = IQ))) (.bool true) (show rv 4 = _ from hd.1) (show rv 7 = _ from hd.2.1) (by go_simp) (by cases decide (IP = IQ) <;> go_simp) ⟨Ext.refl _, fun _ _ => rfl⟩
    · refine step_plain rfl fun rv wq hE hd => ?_
      exact gives_move _ (.bool true) (.inl rfl) (show rv 8 = _ from hd.1) ⟨Ext.refl _, fun _ _ => rfl⟩
    · refine step_guard 9 true 80 rfl rfl (fun _ => rfl) fun rv wq hE hd => ⟨hd.1, ?_⟩
      exact gives_load_row 24 _ rfl (w.heap.size) (0) rfl (u8s p) _ (range_below PR.out (ext_of_drew hE)) Tryd.underlying24 rfl (hi24 p HP.out) ⟨Ext.refl _, fun _ _ => rfl⟩
    · refine step_guard 9 true 80 rfl rfl (fun _ => rfl) fun rv wq hE hd => ⟨hd.1, ?_⟩
      exact gives_load_row 24 _ rfl (w.heap.size + 1) (0) rfl (u8s q) _ (range_below QR.out (ext_of_drew hE)) Tryd.underlying24 rfl (hi24 q HQ.out) ⟨Ext.refl _, fun _ _ => rfl⟩
    · refine step_guard 9 true 80 rfl rfl (fun _ => rfl) fun rv wq hE hd => ⟨hd.2.2.1, ?_⟩
      exact gives_binOp .neq 24 _ _ _ rfl (.agg (u8s p).toArray) (.agg (u8s q).toArray) (.bool true) (show rv 10 = _ from hd.1) (show rv 11 = _ from hd.2.1) (guard24 _ _ _ _ _ _) ((run_neq24 p q HP.out HQ.out _).trans (by rw [HEQ.out])) ⟨Ext.refl _, fun _ _ => rfl⟩
    · refine step_guard 9 true 80 rfl rfl (fun _ => rfl) fun rv wq hE hd => ⟨hd.2.2.1, ?_⟩
      exact gives_move _ (.bool true) (.inl rfl) (show rv 12 = _ from hd.1) ⟨Ext.refl _, fun _ _ => rfl⟩
    · refine step_skip 13 false 84 rfl rfl (fun _ => rfl) fun vs wv hE hd => ⟨.inl hd.1, fun _ => rfl⟩
    · refine step_skip 13 false 84 rfl rfl (fun _ => rfl) fun vs wv hE hd => ⟨.inl hd.1, fun _ => rfl⟩
    · refine step_skip 13 false 84 rfl rfl (fun _ => rfl) fun vs wv hE hd => ⟨.inl hd.2.2.1, fun _ => rfl⟩
    · refine step_guard 9 true 80 rfl rfl (fun _ => rfl) fun rv wq hE hd => ⟨hd.2.2.1, ?_⟩
      exact gives_pick _ _ _ (.bool true) true rfl (show rv 13 = _ from hd.1) rfl ⟨Ext.refl _, fun _ _ => rfl⟩
    · refine step_plain rfl fun rv wq hE hd => ?_
      exact gives_pick _ _ _ (.bool true) true rfl (show rv 9 = _ from hd.1) (show rv 17 = _ from hd.2.1) ⟨Ext.refl _, fun _ _ => rfl⟩
    · intro rv wq hE hR
      have h18 : rv 18 = .bool true := hR 18 (by omega)
      rw [h18]
      have B8 := Lib.hid (B13.out.trans ((ext_of_drew hE).mono B13.out.size))
      clear hR hE h18
      go_wp2_with fail
      go_ret
      exact ⟨rfl, B8.out⟩
end Go.Proofs.YtniknhhejlgdfaaDoor
/- Three sentinels and the constants as they are laid. -/
namespace Go.Proofs.YtniknhhejlgdfaaDoor
open Go.ChangeShapes Go.WideShapes Go.ChangeAt Go.RowKit

abbrev laidES : List (String × DataW Unit) := [("quorate/api.ErrRange", Rows.laid_quorate_api_ErrRange), ("quorate/api.ErrSet", Rows.laid_quorate_api_ErrSet), ("quorate/api.ErrEpoch", Rows.laid_quorate_api_ErrEpoch)]
abbrev laidE : List (String × DataW Unit) := [("quorate/api.ErrRange", Rows.laid_quorate_api_ErrRange), ("quorate/api.ErrSet", Rows.laid_quorate_api_ErrSet), ("quorate/api.ErrEpoch", Rows.laid_quorate_api_ErrEpoch), ("quorate/hash.constants", Rows.laid_quorate_hash_constants)]
def senE : List Nat := [1, 11, 0]
def laidEL : List (String × List UInt8) := laidES.map fun x => (x.1, textOf x.2)
theorem laidE_eq : laidE = sentL "*errors.errorString" laidEL ++ [("quorate/hash.constants", Rows.laid_quorate_hash_constants)] := rfl
theorem laidE_named : laidEL.map (fun x => Tryd.prog.globalNamed x.1) = senE.map some := by kernel_rfl
theorem laidE_types : ∀ g ∈ senE, (Tryd.prog.globals[g]?).map (·.type) = some 29 := by
  intro g hg
  have : senE.all (fun g => decide ((Tryd.prog.globals[g]?).map (·.type) = some 29)) = true := by kernel_rfl
  rw [List.all_eq_true] at this
  exact of_decide_eq_true (this g hg)
set_option maxRecDepth 100000 in
theorem kk_of_laidE {W : World} (h : laidMetH Tryd.prog laidE W) : W.rangeAt 18 0 (u32s kk) := by
  rw [MakeChecks.laidMetH_plain _ _ _ (by kernel_rfl)] at h
  have h2 := h.tail.tail.tail
  rw [kk_datum] at h2
  exact kk_range_of (Lib.tabIs_of_head Tryd.gK Tryd.gKType Tryd.underlying143 Tryd.underlying142 Tryd.cells142 Tryd.cells143 h2)
set_option maxRecDepth 100000 in
theorem kk_lt {W : World} (h : W.rangeAt 18 0 (u32s kk)) : 18 < W.heap.size := by
  obtain ⟨u, hu⟩ : ∃ u, (u32s kk)[0]? = some u := ⟨_, rfl⟩
  exact World.block_lt_of_cell? W _ (h 0 u hu)
set_option maxRecDepth 100000 in
theorem em_of_laidE {W : World} (h : laidMetH Tryd.prog laidE W) : ∃ aR aS aE, Em W aR aS aE := by
  have hk := kk_of_laidE h
  rw [MakeChecks.laidMetH_plain _ _ _ (by kernel_rfl)] at h
  obtain ⟨ps, hv, hnd, hrows⟩ := h
  rw [laidE_eq] at hv
  obtain ⟨al, h1, h2, h3⟩ := laid_all Tryd.underlying29 Tryd.row216 Tryd.underlying216 Tryd.underlying243 rfl rfl Tryd.underlying9 Tryd.cells243 Tryd.cells9 laidEL _ senE ps laidE_named laidE_types hv (fun b off hb => (hrows b off hb).2)
  match al, h1 with
  | [a, b, c], _ => exact ⟨a, b, c, h2 0 1 a rfl rfl, h2 1 11 b rfl rfl, h2 2 0 c rfl rfl, hk, kk_lt hk⟩
set_option maxRecDepth 100000 in
theorem door_metE (os : Os) (args : Array Value) : laidMetH Tryd.prog laidE ((World.doorLaid Tryd.prog 356 os).forCall (fun _ _ => 0) ⟨#[], args, []⟩).memory :=
  laidMetH_of_parts3 (fuel := 8) (laidMet_of_run' 8 (by kernel_rfl) (by kernel_rfl)) (by kernel_rfl) (by kernel_rfl)
end Go.Proofs.YtniknhhejlgdfaaDoor
