/- Lemmas that laws of this seat rest on, part 11; each says its own conditions: WSgn, WBk, WBlk, WDone, WId, SAll, STalV, Ot, OFit. -/
import Derived.RangeFuncNested
import Derived.RangeFuncBound
import Derived.RangeFuncCalls
import Derived.RangeFuncLeaves
import Derived.Shelf.Abstract
import Derived.Shelf.RegionOpen
import Derived.WalkKit
import Derived.OwnWalkIn
import Derived.TacticsInMore
import Derived.LoopNIn
import Derived.LoopIn
import Derived.WalkSpells
import Derived.Maps.AppendAt
import Derived.Deep.MidRow
import Derived.Deep.AppendSrc
import Derived.Lib.Hide
import Derived.Orders
import Derived.Test.YtniknhhejlgdfaaGreatDoorProg
import Derived.Laws.BytesArg
import Derived.Lib.ConvBytes
import Derived.Lib.SlBytesRow
import Derived.Laws.Cover3
import Derived.Deep.QuietTactic
import Derived.BigQuiet
import Derived.Laws.Bits64b
import Derived.Laws.Bits64
import Derived.Maps.OwnIn
import Derived.StillTactics
import Derived.OwnWalk
import Derived.Laws.Pointers
import Derived.Test.YtniknhhejlgdfaaGreatDoorBase6
import Derived.Test.YtniknhhejlgdfaaGreatDoorBase8
import Derived.Test.YtniknhhejlgdfaaGreatDoorBase9
import Derived.Test.YtniknhhejlgdfaaGreatDoorBase10
/- Signed words and QCs are written. -/
namespace Go.Proofs.YtniknhhejlgdfaaGreatDoor
open Go.RowKit

theorem Tryz.size192 : (Tryz.prog.info? 192).map (·.size) = some 1 := by kernel_rfl
theorem Lim.foldP {α : Type} {one : α → WS → WS} {c : Nat} {P : α → Prop} (h1 : ∀ x, P x → ∀ s m, Lim s m → Lim (one x s) (m + c)) : ∀ (xs : List α), (∀ x ∈ xs, P x) → ∀ (s : WS) (m : Nat), Lim s m → Lim (xs.foldl (fun s x => one x s) s) (m + xs.length * c)
  | [], _, s, m, h => by simpa using h
  | x :: xs, hp, s, m, h => by
    refine (Lim.foldP h1 xs (fun y hy => hp y (List.mem_cons_of_mem _ hy)) (one x s) (m + c) (h1 x (hp x (by simp)) s m h)).mono ?_
    simp only [List.length_cons, Nat.add_mul, Nat.one_mul]
    omega
theorem Lim.putP {α : Type} {one : α → WS → WS} {c most : Nat} {P : α → Prop} (h1 : ∀ x, P x → ∀ s m, Lim s m → Lim (one x s) (m + c)) {xs : List α} (hp : ∀ x ∈ xs, P x) {s : WS} {m : Nat} (h : Lim s m) : Lim (putS most one xs s) (m + 1 + most * c) := by
  unfold putS
  split
  · intro b hb; cases hb
  · refine (Lim.foldP h1 xs hp _ _ (h.num _ 1)).mono ?_
    have : xs.length * c ≤ most * c := Nat.mul_le_mul_right _ (by omega)
    omega
def SdOk (x : Sd) : Prop := (∀ d ∈ x.ch, d.length = 16) ∧ ∀ d ∈ x.pa, d.length = 16
theorem Lim.sd (x : Sd) (hx : SdOk x) (s : WS) (m : Nat) (h : Lim s m) : Lim (sdS x s) (m + 1172) := by
  unfold sdS
  exact (Lim.sig hx.1 hx.2 (h.num x.who 1)).mono (by omega)
theorem SdAt.ok {w : World} {cs : List Value} {x : Sd} (h : SdAt w cs x) : SdOk x := by
  obtain ⟨A, c, B, d, _, h1, h2⟩ := h.ex
  exact ⟨fun d hd => (h1.good d hd).1, fun d hd => (h2.good d hd).1⟩
theorem Sgs.ok {w : World} {A : Option Addr} {n c : Nat} {xs : List Sd} (h : Sgs w (.slice A n c) xs) : ∀ x ∈ xs, SdOk x := by
  intro x hx
  obtain ⟨i, hi, rfl⟩ := List.getElem_of_mem hx
  obtain ⟨_, _, cs, _, _, _, hs⟩ := h.el i (by rw [h.len]; exact hi)
  have := hs.ok
  rwa [List.getD_eq_getElem?_getD, List.getElem?_eq_getElem hi] at this
theorem one_sd (z l : Int) (A B : Option Addr) (n c k d : Nat) : ∀ v ∈ [Value.int .i64 z, .int .i64 l, .slice A n c, .slice B k d], v.oneCell' = true := by
  intro v hv
  simp only [List.mem_cons, List.not_mem_nil, or_false] at hv
  rcases hv with rfl | rfl | rfl | rfl <;> rfl

set_option maxHeartbeats 8000000 in
set_option maxRecDepth 100000 in
theorem signed_any (w0 : World) (q : Nat) (aR : Addr) (s : WS) (r : Option Nat) (z l : Int) (ch pa : List (List Int)) (A B : Option Addr) (n c k d : Nat) (hx : Dgs w0 (.slice A n c) ch) (hp : Dgs w0 (.slice B k d) pa) (hn : n = ch.length) (hk : k = pa.length) (w : World) (H : WrAt w0.heap.size w q aR s r) (hb : Below w0.heap.size w0 w) (hR : w0.cell? ⟨0, 0, none⟩ = some (errV aR)) (h1 : 0 < w0.heap.size) (hlim : Lim s (maxW - 1172)) :
    Calls Tryz.prog 151 #[wrV q, .agg #[.int .i64 z, .int .i64 l, .slice A n c, .slice B k d]] w fun ret w' => ret = .returned (.tuple #[]) ∧ WStep w0.heap.size q aR (sdS ⟨z, l, ch, pa⟩ s) r w w' := by
  have b0 : Below w.heap.size w ((w.alloc (.cells #[.pointer (some ⟨q, 0, none⟩)] 192)).alloc (.cells #[.int .i64 z, .int .i64 l, .slice A n c, .slice B k d] 58)) := (((Below.refl _ _).alloc (Nat.le_refl _) _).alloc (by simp) _)
  have k0 : ((w.alloc (.cells #[.pointer (some ⟨q, 0, none⟩)] 192)).alloc (.cells #[.int .i64 z, .int .i64 l, .slice A n c, .slice B k d] 58)).heap[w.heap.size]? = some (.cells #[.pointer (some ⟨q, 0, none⟩)] 192 (0, 0)) := by
    have := heap_alloc_new w (.cells #[.pointer (some ⟨q, 0, none⟩)] 192)
    have := (Below.heap_alloc (w.alloc (.cells #[.pointer (some ⟨q, 0, none⟩)] 192)) (.cells #[.int .i64 z, .int .i64 l, .slice A n c, .slice B k d] 58) _ (blk_lt this)).trans this
    exact this
  have k1 : ((w.alloc (.cells #[.pointer (some ⟨q, 0, none⟩)] 192)).alloc (.cells #[.int .i64 z, .int .i64 l, .slice A n c, .slice B k d] 58)).heap[w.heap.size + 1]? = some (.cells #[.int .i64 z, .int .i64 l, .slice A n c, .slice B k d] 58 (0, 0)) := by
    have := heap_alloc_new (w.alloc (.cells #[.pointer (some ⟨q, 0, none⟩)] 192)) (.cells #[.int .i64 z, .int .i64 l, .slice A n c, .slice B k d] 58)
    rw [World.size_alloc] at this
    exact this
  have HH := Lib.hid H
  have H0 := Lib.hid (H.below b0)
  have B0 := Lib.hid b0
  have HB := Lib.hid hb
  have RC := Lib.hid hR
  have BB0 := Lib.hid (hb.trans (b0.mono hb.size))
  have K0_0 := Lib.hid k0
  have K1_0 := Lib.hid k1
  have HN := Lib.hid hn
  have HK := Lib.hid hk
  have HX := Lib.hid hx
  have HP := Lib.hid hp
  have HL := Lib.hid hlim
  have cp0 := blk_cell (xs := [.pointer (some ⟨q, 0, none⟩)]) K0_0.out 0 _ rfl
  have c1_0_0 := blk_cell (xs := [.int .i64 z, .int .i64 l, .slice A n c, .slice B k d]) K1_0.out 0 _ rfl
  clear H b0 hb hR k0 k1 hn hk hx hp hlim
  go_enter Tryz.func151, Tryz.ntmps151
  go_wp2_with fail
  refine (number_any w0.heap.size q aR s r z 1 (by omega) _ H0.out (cell_base RC.out BB0.out h1) (by have := BB0.out.size; omega) (HL.out.mono (by unfold maxW; omega))).mono ?_
  rintro _ w1 ⟨rfl, hst1⟩
  have ST1 := Lib.hid hst1
  clear hst1
  obtain ⟨r1, a1, j1⟩ := ST1.out.next
  have A1 := Lib.hid a1
  have J1 := Lib.hid j1
  have BB1 := Lib.hid (BB0.out.trans (ST1.out.below H0.out))
  have K0_1 := Lib.hid (ST1.out.keep HH.out K0_0.out (by omega))
  have K1_1 := Lib.hid (ST1.out.keep HH.out K1_0.out (by omega))
  have RW1 := Lib.hid (blk_range (xs := [.pointer (some ⟨q, 0, none⟩)]) K0_1.out)
  have RS1 := Lib.hid (blk_mid (pre := [.int .i64 z]) (ys := [.int .i64 l, .slice A n c, .slice B k d]) (post := []) K1_1.out rfl)
  clear a1 j1 cp0 c1_0_0
  go_wp2_with (first | (refine wpList_load_g rfl 192 (.tmp 2) rfl w.heap.size 0 rfl [.pointer (some ⟨q, 0, none⟩)] _ RW1.out Tryz.underlying192 rfl Tryz.size192 ?_) | (refine wpList_load_g rfl 56 (.tmp 10) rfl (w.heap.size + 1) 1 rfl [.int .i64 l, .slice A n c, .slice B k d] _ RS1.out Tryz.underlying56 rfl Tryz.size56 ?_))
  refine (sig_any w0 q aR (numS z 1 s) r1 l ch pa A B n c k d HX.out HP.out HN.out HK.out _ A1.out BB1.out RC.out h1 ((HL.out.num z 1).mono (by unfold maxW; omega))).mono ?_
  rintro _ w2 ⟨rfl, hst2⟩
  have ST2 := Lib.hid (J1.out _ _ hst2)
  clear hst2
  go_wp2_with fail
  go_end0
  exact ⟨rfl, WStep.then_ (Only.of_below B0.out) (.inl rfl) ST2.out⟩

set_option maxHeartbeats 8000000 in
set_option maxRecDepth 100000 in
theorem qc1_any (w0 : World) (q : Nat) (aR : Addr) (s : WS) (r : Option Nat) (z l : Int) (ch pa : List (List Int)) (A B : Option Addr) (n c k d : Nat) (hx : Dgs w0 (.slice A n c) ch) (hp : Dgs w0 (.slice B k d) pa) (hn : n = ch.length) (hk : k = pa.length) (w : World) (H : WrAt w0.heap.size w q aR s r) (hb : Below w0.heap.size w0 w) (hR : w0.cell? ⟨0, 0, none⟩ = some (errV aR)) (h1 : 0 < w0.heap.size) (hlim : Lim s (maxW - 1172)) :
    Calls Tryz.prog 150 #[.pointer (some ⟨q, 0, none⟩), .agg #[.int .i64 z, .int .i64 l, .slice A n c, .slice B k d]] w fun ret w' => ret = .returned (.tuple #[]) ∧ WStep w0.heap.size q aR (sdS ⟨z, l, ch, pa⟩ s) r w w' := by
  have b0 : Below w.heap.size w (w.alloc (.cells #[.int .i64 z, .int .i64 l, .slice A n c, .slice B k d] 58)) := ((Below.refl _ _).alloc (Nat.le_refl _) _)
  have k0 : (w.alloc (.cells #[.int .i64 z, .int .i64 l, .slice A n c, .slice B k d] 58)).heap[w.heap.size]? = some (.cells #[.int .i64 z, .int .i64 l, .slice A n c, .slice B k d] 58 (0, 0)) := by
    have := heap_alloc_new w (.cells #[.int .i64 z, .int .i64 l, .slice A n c, .slice B k d] 58)
    exact this
  have HH := Lib.hid H
  have H0 := Lib.hid (H.below b0)
  have B0 := Lib.hid b0
  have HB := Lib.hid hb
  have RC := Lib.hid hR
  have BB0 := Lib.hid (hb.trans (b0.mono hb.size))
  have K0_0 := Lib.hid k0
  have HN := Lib.hid hn
  have HK := Lib.hid hk
  have HX := Lib.hid hx
  have HP := Lib.hid hp
  have HL := Lib.hid hlim
  have RS0 := Lib.hid (blk_range (xs := [.int .i64 z, .int .i64 l, .slice A n c, .slice B k d]) K0_0.out)
  clear H b0 hb hR k0 hn hk hx hp hlim
  go_enter Tryz.func150, Tryz.ntmps150
  go_wp2_with (refine wpList_load_g rfl 58 (.tmp 3) rfl w.heap.size 0 rfl [.int .i64 z, .int .i64 l, .slice A n c, .slice B k d] _ RS0.out Tryz.underlying58 rfl Tryz.size58 ?_)
  refine (signed_any w0 q aR s r z l ch pa A B n c k d HX.out HP.out HN.out HK.out _ H0.out BB0.out RC.out h1 HL.out).mono ?_
  rintro _ w1 ⟨rfl, hst1⟩
  have ST1 := Lib.hid hst1
  clear hst1
  go_wp2_with fail
  go_end0
  exact ⟨rfl, WStep.then_ (Only.of_below B0.out) (.inl rfl) ST1.out⟩

set_option maxHeartbeats 8000000 in
set_option maxRecDepth 100000 in
theorem put125_any (w0 : World) (q : Nat) (aR : Addr) (s : WS) (r : Option Nat) (most : Nat) (hmost : most ≤ 255) (xs : List Sd) (A : Option Addr) (n c : Nat) (hx : Sgs w0 (.slice A n c) xs) (hn : n = xs.length) (w : World) (H : WrAt w0.heap.size w q aR s r) (hb : Below w0.heap.size w0 w) (hR : w0.cell? ⟨0, 0, none⟩ = some (errV aR)) (h1 : 0 < w0.heap.size) (hlim : Lim s (maxW - (1 + most * 1172))) (hmx : most * 1172 ≤ 10000000) :
    Calls Tryz.prog 149 #[.pointer (some ⟨q, 0, none⟩), .slice A n c, .int .i64 most, .func (.func 150) #[] #[]] w fun e w' => e = .returned (.tuple #[]) ∧ WStep w0.heap.size q aR (putS most sdS xs s) r w w' := by
  have H0 := Lib.hid H
  have HX := Lib.hid hx
  have HN := Lib.hid hn
  have HB := Lib.hid hb
  have RE := Lib.hid (cell_base hR hb h1)
  have RC := Lib.hid hR
  have HL := Lib.hid hlim
  clear H hx hn hb hR hlim
  by_cases hmn : most < n
  · have hmi : (most : Int) < n := by omega
    have PB : Hid (putS most sdS xs s = none) := Lib.hid (by unfold putS; rw [if_pos (by rw [← HN.out]; exact hmn)])
    go_enter Tryz.func149, Tryz.ntmps149
    go_wp2_with fail
    refine wp_region_rely3 (by kernel_rfl) 4 (by kernel_rfl) (by kernel_rfl) Ext Ext.refl Ext.trans (fun ix => match ix with
      | 0 => fun _ v => v = .pointer (some ⟨q, 0, none⟩)
      | 1 => fun _ v => v = .pointer (some ⟨q, 0, none⟩)
      | 2 => fun _ v => v = .pointer (some ⟨q, 0, none⟩)
      | 3 => fun _ v => v = errV aR
      | _ => fun _ _ => False) ?_
    simp (maxSteps := 10000000) only [Rely, List.take_succ_cons, List.take_zero, List.drop_succ_cons, List.drop_zero, Nat.reduceAdd, Nat.zero_add, Act.put, List.setIfInBounds_toArray, List.set_cons_succ, List.set_cons_zero]
    refine ⟨?_, ?_, ?_, ?_, ?_⟩
    · refine step_plain rfl fun rv wq hE hd => ?_
      exact gives_move _ (.pointer (some ⟨q, 0, none⟩)) (.inl rfl) rfl ⟨Ext.refl _, fun _ _ => rfl⟩
    · refine step_plain rfl fun rv wq hE hd => ?_
      exact gives_nilCheck _ rfl ⟨q, 0, none⟩ (show rv 0 = _ from hd.1) ⟨Ext.refl _, fun _ _ => rfl⟩
    · refine step_plain rfl fun rv wq hE hd => ?_
      exact gives_fieldAddr' 243 _ 0 rfl (.pointer (some ⟨q, 0, none⟩)) _ (show rv 1 = _ from hd.1) (by go_simp) ⟨Ext.refl _, fun _ _ => rfl⟩
    · refine step_plain rfl fun rv wq hE hd => ?_
      have hc := cell_on (ext_of_drew hE) RE.out
      exact gives_loadAt 40 _ rfl (.pointer (some ⟨0, 0, none⟩)) (errV aR) rfl (by go_simp) ⟨Ext.refl _, fun _ _ => rfl⟩
    · intro rv wq hE hR
      have h0 : rv 2 = .pointer (some ⟨q, 0, none⟩) := hR 2 (by omega)
      have h3 : rv 3 = errV aR := hR 3 (by omega)
      rw [h0, h3]
      have BE := Lib.hid (ext_of_drew hE)
      clear hR hE h0 h3
      go_wp2_with fail
      refine (fail_any w0.heap.size q aR s r wq (H0.out.below BE.out)).mono ?_
      rintro _ w2 ⟨rfl, hst⟩
      go_wp2_with fail
      refine bodyPost_ret (results_none rfl _ _ _) rfl ⟨rfl, ?_⟩
      rw [PB.out]
      exact WStep.then_ (Only.of_below BE.out) (.inl rfl) hst
  have hmi : ¬ (most : Int) < n := by omega
  have hmj : ¬ (255 : Int) < n := by omega
  go_enter Tryz.func149, Tryz.ntmps149
  go_wp2_with fail
  refine (number_any w0.heap.size q aR s r n 1 (by omega) w H0.out RE.out (by have := HB.out.size; omega) (HL.out.mono (by unfold maxW; omega))).mono ?_
  rintro _ w1 ⟨rfl, hst1⟩
  have HS1 := Lib.hid hst1
  obtain ⟨st, hst⟩ : ∃ st : Nat → WS, st = fun i => (xs.take i).foldl (fun s x => sdS x s) (numS n 1 s) := ⟨_, rfl⟩
  have hs0 : numS n 1 s = st 0 := by rw [hst]; rfl
  have hsn : putS most sdS xs s = st n := by
    rw [hst]
    unfold putS
    rw [if_neg (by rw [← HN.out]; exact hmn)]
    dsimp only
    rw [HN.out, List.take_length]
  have hlm : ∀ i, i ≤ n → Lim (st i) (maxW - (most - i) * 1172) := fun i hi => by
    rw [hst]
    dsimp only
    refine (Lim.foldP (c := 1172) Lim.sd (xs.take i) (fun x hx => HX.out.ok x (List.mem_of_mem_take hx)) _ _ (HL.out.num n 1)).mono ?_
    rw [List.length_take, ← HN.out, Nat.min_eq_left hi]
    have e1 : most * 1172 = i * 1172 + (most - i) * 1172 := by rw [← Nat.add_mul]; congr 1; omega
    unfold maxW at *
    omega
  have hss : ∀ i (hi : i < xs.length), st (i + 1) = sdS (xs.getD i Sd.none) (st i) := fun i hi => by
    rw [hst]
    dsimp only
    rw [List.take_succ_eq_append_getElem hi, List.foldl_append, List.getD_eq_getElem?_getD, List.getElem?_eq_getElem hi]
    rfl
  rw [hs0] at HS1
  have HSN := Lib.hid hsn
  have HLM := Lib.hid hlm
  have HSS := Lib.hid hss
  clear hst1 hs0 hsn hlm hss hst
  go_wp2_with fail
  go_loopw [9, 30] (fun _ k wr => ∃ (i : Nat), i ≤ n ∧ k = .int .i64 i ∧ Hid (WStep w0.heap.size q aR (st i) r w wr))
    (fun _ k _ => n - (intOf k).toNat)
  case atStart => exact ⟨0, by omega, rfl, HS1⟩
  case round =>
    obtain ⟨i, hi, rfl, hstp⟩ := hrel
    by_cases hlt : i < n
    · have hil : (i : Int) < n := by omega
      have hix : i < xs.length := by rw [← HN.out]; exact hlt
      have hbel := hstp.out.below H0.out
      have BR := Lib.hid (HB.out.trans hbel)
      obtain ⟨r1, hw1, hk1⟩ := hstp.out.next
      have HW1 := Lib.hid hw1
      have HK1 := Lib.hid hk1
      have HSI := Lib.hid (HSS.out i hix)
      have HLI := Lib.hid ((HLM.out i hi).mono (show maxW - (most - i) * 1172 ≤ maxW - 1172 by have : 1172 ≤ (most - i) * 1172 := Nat.le_mul_of_pos_left _ (by omega); omega))
      clear hw1 hk1 hbel
      obtain ⟨bb, oo, cs, rfl, _, hrg, hsd⟩ := HX.out.el i hlt
      obtain ⟨X, hX⟩ : ∃ X, X = xs.getD i Sd.none := ⟨_, rfl⟩
      rw [← hX] at hsd HSI
      obtain ⟨z, l, ch, pa⟩ := X
      obtain ⟨A1, c1, B1, d1, rfl, hch, hpa⟩ := hsd.ex
      dsimp only at hch hpa hrg
      have RG := Lib.hid (range_below hrg BR.out)
      have HCL : Hid ([Value.int .i64 z, .int .i64 l, .slice A1 ch.length c1, .slice B1 pa.length d1].length = 4) := Lib.hid rfl
      have HCH := Lib.hid hch
      have HPA := Lib.hid hpa
      clear hrg hX hsd hch hpa
      have hh : ∀ Z : Array Value, Z.size = 4 → Has (wr.alloc (.cells Z 58)) wr.heap.size 58 ([Value.int .i64 z, .int .i64 l, .slice A1 ch.length c1, .slice B1 pa.length d1]).length := fun Z hZ => has_new wr _ _ _ (by rw [hZ]; exact HCL.out.symm)
      have HH := Lib.hid hh
      clear hh
      go_wp2_with (first | (refine wpList_load_g rfl 58 (.tmp 32) rfl bb (oo + i * 4) rfl ([Value.int .i64 z, .int .i64 l, .slice A1 ch.length c1, .slice B1 pa.length d1]) _ RG.out Tryz.underlying58 rfl (by rw [HCL.out]; exact Tryz.size58) ?_) | (refine wpList_store_row rfl 58 (.tmp 9) (.tmp 33) rfl wr.heap.size rfl ([Value.int .i64 z, .int .i64 l, .slice A1 ch.length c1, .slice B1 pa.length d1]) rfl 58 (HH.out _ rfl) (by rw [HCL.out]; exact Tryz.size58) (one_sd _ _ _ _ _ _ _ _) ?_; intro w2 hp2; have BL := Lib.hid (show Below wr.heap.size wr w2 from hp2.below ((Below.refl _ _).alloc (Nat.le_refl _) _) (Nat.le_refl _)); have RG2 := Lib.hid (blk_range hp2.blk); clear hp2) | (refine wpList_load_g rfl 58 (.tmp 9) rfl wr.heap.size 0 rfl ([Value.int .i64 z, .int .i64 l, .slice A1 ch.length c1, .slice B1 pa.length d1]) _ RG2.out Tryz.underlying58 rfl (by rw [HCL.out]; exact Tryz.size58) ?_))
      refine (qc1_any w0 q aR (st i) r1 z l ch pa A1 B1 ch.length c1 pa.length d1 HCH.out HPA.out rfl rfl w2 (HW1.out.below BL.out) (BR.out.trans (BL.out.mono BR.out.size)) RC.out h1 HLI.out).mono ?_
      rintro _ w3 ⟨rfl, hst3⟩
      have HST := Lib.hid hst3
      clear hst3
      go_wp2_with fail
      go_roundw
      case rel => exact ⟨i + 1, by omega, by go_num, Lib.hid (by rw [HSI.out]; exact HK1.out _ _ (WStep.then_ (Only.of_below BL.out) (.inl rfl) HST.out))⟩
      case measure => simp [intOf]; omega
    · obtain rfl : i = n := by omega
      go_wp2
      go_end0
      exact ⟨rfl, by rw [HSN.out]; exact hstp.out⟩
end Go.Proofs.YtniknhhejlgdfaaGreatDoor
/- Blocks are written. -/
namespace Go.Proofs.YtniknhhejlgdfaaGreatDoor
open Go.RowKit

theorem Lim.qc {q : Qc} (h : ∀ x ∈ q.votes, SdOk x) (hb : q.block.length = 16) {s : WS} {m : Nat} (hs : Lim s m) : Lim (qcS q s) (m + 8231) := by
  unfold qcS
  exact (Lim.putP Lim.sd h (Lim.dg _ hb _ _ ((hs.num q.epoch 4).num q.round 6))).mono (by omega)
theorem Lim.va (x : Va) (hx : x.1.length = 16) (s : WS) (m : Nat) (h : Lim s m) : Lim (vaS x s) (m + 22) := by
  unfold vaS
  exact ((Lim.dg _ hx _ _ h).num x.2 6).mono (by omega)

set_option maxHeartbeats 8000000 in
set_option maxRecDepth 100000 in
theorem wqc_any (w0 : World) (q : Nat) (aR : Addr) (s : WS) (r : Option Nat) (e n : Int) (bl : List Int) (hbl : bl.length = 16) (hbo : u8s_ok bl) (xs : List Sd) (A : Option Addr) (k c : Nat) (hx : Sgs w0 (.slice A k c) xs) (hk : k = xs.length) (w : World) (H : WrAt w0.heap.size w q aR s r) (hb : Below w0.heap.size w0 w) (hR : w0.cell? ⟨0, 0, none⟩ = some (errV aR)) (h1 : 0 < w0.heap.size) (hlim : Lim s (maxW - 8231)) :
    Calls Tryz.prog 120 #[wrV q, .agg (qcC e n bl (.slice A k c)).toArray] w fun ret w' => ret = .returned (.tuple #[]) ∧ WStep w0.heap.size q aR (qcS ⟨e, n, bl, xs⟩ s) r w w' := by
  have b0 : Below w.heap.size w ((w.alloc (.cells #[.pointer (some ⟨q, 0, none⟩)] 192)).alloc (.cells (qcC e n bl (.slice A k c)).toArray 29)) := (((Below.refl _ _).alloc (Nat.le_refl _) _).alloc (by simp) _)
  have k0 : ((w.alloc (.cells #[.pointer (some ⟨q, 0, none⟩)] 192)).alloc (.cells (qcC e n bl (.slice A k c)).toArray 29)).heap[w.heap.size]? = some (.cells #[.pointer (some ⟨q, 0, none⟩)] 192 (0, 0)) := by
    have := heap_alloc_new w (.cells #[.pointer (some ⟨q, 0, none⟩)] 192)
    have := (Below.heap_alloc (w.alloc (.cells #[.pointer (some ⟨q, 0, none⟩)] 192)) (.cells (qcC e n bl (.slice A k c)).toArray 29) _ (blk_lt this)).trans this
    exact this
  have k1 : ((w.alloc (.cells #[.pointer (some ⟨q, 0, none⟩)] 192)).alloc (.cells (qcC e n bl (.slice A k c)).toArray 29)).heap[w.heap.size + 1]? = some (.cells (qcC e n bl (.slice A k c)).toArray 29 (0, 0)) := by
    have := heap_alloc_new (w.alloc (.cells #[.pointer (some ⟨q, 0, none⟩)] 192)) (.cells (qcC e n bl (.slice A k c)).toArray 29)
    rw [World.size_alloc] at this
    exact this
  have HH := Lib.hid H
  have H0 := Lib.hid (H.below b0)
  have B0 := Lib.hid b0
  have HB := Lib.hid hb
  have RC := Lib.hid hR
  have BB0 := Lib.hid (hb.trans (b0.mono hb.size))
  have K0_0 := Lib.hid k0
  have K1_0 := Lib.hid k1
  have HK := Lib.hid hk
  have HX := Lib.hid hx
  have HL := Lib.hid hlim
  have HBL := Lib.hid hbl
  have HBO := Lib.hid hbo
  have RW0 := Lib.hid (blk_range (xs := [.pointer (some ⟨q, 0, none⟩)]) K0_0.out)
  have c1_0_0 := blk_cell (xs := (qcC e n bl (.slice A k c))) K1_0.out 0 _ rfl
  have c1_1_0 := blk_cell (xs := (qcC e n bl (.slice A k c))) K1_0.out 1 _ rfl
  clear H b0 hb hR k0 k1 hx hk hlim hbl hbo
  go_enter Tryz.func120, Tryz.ntmps120
  go_wp2_with (refine wpList_load_g rfl 192 (.tmp 2) rfl w.heap.size 0 rfl [.pointer (some ⟨q, 0, none⟩)] _ RW0.out Tryz.underlying192 rfl Tryz.size192 ?_)
  refine (wat_any w0.heap.size q aR s r e n _ H0.out (cell_base RC.out BB0.out h1) h1 (HL.out.mono (by unfold maxW; omega))).mono ?_
  rintro _ w1 ⟨rfl, hst1⟩
  have ST1 := Lib.hid hst1
  clear hst1
  obtain ⟨r1, a1, j1⟩ := ST1.out.next
  have A1 := Lib.hid a1
  have J1 := Lib.hid j1
  have BB1 := Lib.hid (BB0.out.trans (ST1.out.below H0.out))
  have K0_1 := Lib.hid (ST1.out.keep HH.out K0_0.out (by omega))
  have K1_1 := Lib.hid (ST1.out.keep HH.out K1_0.out (by omega))
  have RW1 := Lib.hid (blk_range (xs := [.pointer (some ⟨q, 0, none⟩)]) K0_1.out)
  have RQ1 := Lib.hid (qc_2 K1_1.out)
  clear a1 j1 c1_0_0 c1_1_0
  go_wp2_with (first | (refine wpList_load_g rfl 192 (.tmp 2) rfl w.heap.size 0 rfl [.pointer (some ⟨q, 0, none⟩)] _ RW1.out Tryz.underlying192 rfl Tryz.size192 ?_) | (refine wpList_load_g rfl 24 (.tmp 11) rfl (w.heap.size + 1) 2 rfl (u8s bl) _ RQ1.out Tryz.underlying24 rfl (by rw [u8s_len', HBL.out]; exact Tryz.size24) ?_))
  refine (digest_any w0.heap.size q aR (numS n 6 (numS e 4 s)) r1 bl HBL.out HBO.out _ A1.out (((HL.out.num e 4).num n 6).mono (by unfold maxW; omega))).mono ?_
  rintro _ w2 ⟨rfl, hst2⟩
  have ST2 := Lib.hid (J1.out _ _ hst2)
  clear hst2
  obtain ⟨r2, a2, j2⟩ := ST2.out.next
  have A2 := Lib.hid a2
  have J2 := Lib.hid j2
  have BB2 := Lib.hid (BB0.out.trans (ST2.out.below H0.out))
  have K0_2 := Lib.hid (ST2.out.keep HH.out K0_0.out (by omega))
  have K1_2 := Lib.hid (ST2.out.keep HH.out K1_0.out (by omega))
  have cp2 := blk_cell (xs := [.pointer (some ⟨q, 0, none⟩)]) K0_2.out 0 _ rfl
  have c18_2 := qc_3 HBL.out K1_2.out
  clear a2 j2 
  go_wp2_with fail
  refine (put125_any w0 q aR (fixS bl (numS n 6 (numS e 4 s))) r2 7 (by omega) xs A k c HX.out HK.out _ A2.out BB2.out RC.out h1 ((Lim.dg _ HBL.out _ _ ((HL.out.num e 4).num n 6)).mono (by unfold maxW; omega)) (by omega)).mono ?_
  rintro _ w3 ⟨rfl, hst3⟩
  have ST3 := Lib.hid (J2.out _ _ hst3)
  clear hst3
  go_wp2_with fail
  go_end0
  exact ⟨rfl, WStep.then_ (Only.of_below B0.out) (.inl rfl) ST3.out⟩

set_option maxHeartbeats 8000000 in
set_option maxRecDepth 100000 in
theorem wbytes_any (w0 : World) (q : Nat) (aR : Addr) (s : WS) (r : Option Nat) (t : List Int) (A : Option Addr) (n c : Nat) (hx : Bs w0 (.slice A n c) t) (w : World) (H : WrAt w0.heap.size w q aR s r) (hb : Below w0.heap.size w0 w) (hR : w0.cell? ⟨0, 0, none⟩ = some (errV aR)) (h1 : 0 < w0.heap.size) (hlim : Lim s (maxW - 18)) :
    Calls Tryz.prog 123 #[.pointer (some ⟨q, 0, none⟩), .slice A n c, .int .i64 16] w fun e w' => e = .returned (.tuple #[]) ∧ WStep w0.heap.size q aR (txS t s) r w w' := by
  have H0 := Lib.hid H
  have HX := Lib.hid hx
  have HN := Lib.hid hx.len
  have HB := Lib.hid hb
  have RE := Lib.hid (cell_base hR hb h1)
  have HL := Lib.hid hlim
  clear H hx hb hR hlim
  by_cases hmn : 16 < n
  · have hmi : (16 : Int) < n := by omega
    have PB : Hid (txS t s = none) := Lib.hid (by unfold txS; rw [if_pos (by rw [← HN.out]; exact hmn)])
    go_enter Tryz.func123, Tryz.ntmps123
    go_wp2_with fail
    refine wp_region_rely3 (by kernel_rfl) 4 (by kernel_rfl) (by kernel_rfl) Ext Ext.refl Ext.trans (fun ix => match ix with
      | 0 => fun _ v => v = .pointer (some ⟨q, 0, none⟩)
      | 1 => fun _ v => v = .pointer (some ⟨q, 0, none⟩)
      | 2 => fun _ v => v = .pointer (some ⟨q, 0, none⟩)
      | 3 => fun _ v => v = errV aR
      | _ => fun _ _ => False) ?_
    simp (maxSteps := 10000000) only [Rely, List.take_succ_cons, List.take_zero, List.drop_succ_cons, List.drop_zero, Nat.reduceAdd, Nat.zero_add, Act.put, List.setIfInBounds_toArray, List.set_cons_succ, List.set_cons_zero]
    refine ⟨?_, ?_, ?_, ?_, ?_⟩
    · refine step_plain rfl fun rv wq hE hd => ?_
      exact gives_move _ (.pointer (some ⟨q, 0, none⟩)) (.inl rfl) rfl ⟨Ext.refl _, fun _ _ => rfl⟩
    · refine step_plain rfl fun rv wq hE hd => ?_
      exact gives_nilCheck _ rfl ⟨q, 0, none⟩ (show rv 0 = _ from hd.1) ⟨Ext.refl _, fun _ _ => rfl⟩
    · refine step_plain rfl fun rv wq hE hd => ?_
      exact gives_fieldAddr' 243 _ 0 rfl (.pointer (some ⟨q, 0, none⟩)) _ (show rv 1 = _ from hd.1) (by go_simp) ⟨Ext.refl _, fun _ _ => rfl⟩
    · refine step_plain rfl fun rv wq hE hd => ?_
      have hc := cell_on (ext_of_drew hE) RE.out
      exact gives_loadAt 40 _ rfl (.pointer (some ⟨0, 0, none⟩)) (errV aR) rfl (by go_simp) ⟨Ext.refl _, fun _ _ => rfl⟩
    · intro rv wq hE hR
      have h0 : rv 2 = .pointer (some ⟨q, 0, none⟩) := hR 2 (by omega)
      have h3 : rv 3 = errV aR := hR 3 (by omega)
      rw [h0, h3]
      have BE := Lib.hid (ext_of_drew hE)
      clear hR hE h0 h3
      go_wp2_with fail
      refine (fail_any w0.heap.size q aR s r wq (H0.out.below BE.out)).mono ?_
      rintro _ w2 ⟨rfl, hst⟩
      go_wp2_with fail
      refine bodyPost_ret (results_none rfl _ _ _) rfl ⟨rfl, ?_⟩
      rw [PB.out]
      exact WStep.then_ (Only.of_below BE.out) (.inl rfl) hst
  have hmi : ¬ (16 : Int) < n := by omega
  have hmj : ¬ (65535 : Int) < n := by omega
  have PB : Hid (txS t s = fixS t (numS n 2 s)) := Lib.hid (by unfold txS; rw [if_neg (by rw [← HN.out]; exact hmn), HN.out])
  go_enter Tryz.func123, Tryz.ntmps123
  go_wp2_with fail
  refine (number_any w0.heap.size q aR s r n 2 (by omega) w H0.out RE.out (by have := HB.out.size; omega) (HL.out.mono (by unfold maxW; omega))).mono ?_
  rintro _ w1 ⟨rfl, hst1⟩
  have HS1 := Lib.hid hst1
  obtain ⟨r1, a1, j1⟩ := hst1.next
  have A1 := Lib.hid a1
  have J1 := Lib.hid j1
  have BR := Lib.hid (HB.out.trans (hst1.below H0.out))
  clear hst1 a1 j1
  go_wp2_with fail
  refine (fixed_any w0.heap.size q aR (numS n 2 s) r1 _ t w1 A1.out (HX.out.below BR.out) ((HL.out.num n 2).mono (by rw [← HN.out]; unfold maxW; omega)) (by rw [← HN.out]; unfold maxW; omega)).mono ?_
  rintro _ w2 ⟨rfl, hst2⟩
  go_wp2_with fail
  go_end0
  exact ⟨rfl, by rw [PB.out]; exact J1.out _ _ hst2⟩

set_option maxHeartbeats 8000000 in
set_option maxRecDepth 100000 in
theorem block1_any (w0 : World) (q : Nat) (aR : Addr) (s : WS) (r : Option Nat) (t : List Int) (A : Option Addr) (n c : Nat) (hx : Bs w0 (.slice A n c) t) (w : World) (H : WrAt w0.heap.size w q aR s r) (hb : Below w0.heap.size w0 w) (hR : w0.cell? ⟨0, 0, none⟩ = some (errV aR)) (h1 : 0 < w0.heap.size) (hlim : Lim s (maxW - 18)) :
    Calls Tryz.prog 122 #[.pointer (some ⟨q, 0, none⟩), .slice A n c] w fun e w' => e = .returned (.tuple #[]) ∧ WStep w0.heap.size q aR (txS t s) r w w' := by
  have HH := Lib.hid (wbytes_any w0 q aR s r t A n c hx w H hb hR h1 hlim)
  clear hx H hb hR hlim
  go_enter Tryz.func122, Tryz.ntmps122
  go_wp2_with fail
  refine HH.out.mono ?_
  rintro _ w2 ⟨rfl, hst2⟩
  go_wp2_with fail
  go_end0
  exact ⟨rfl, hst2⟩

set_option maxHeartbeats 8000000 in
set_option maxRecDepth 100000 in
theorem put110_any (w0 : World) (q : Nat) (aR : Addr) (s : WS) (r : Option Nat) (most : Nat) (hmost : most ≤ 255) (xs : List (List Int)) (A : Option Addr) (n c : Nat) (hx : Bss w0 (.slice A n c) xs) (hn : n = xs.length) (w : World) (H : WrAt w0.heap.size w q aR s r) (hb : Below w0.heap.size w0 w) (hR : w0.cell? ⟨0, 0, none⟩ = some (errV aR)) (h1 : 0 < w0.heap.size) (hlim : Lim s (maxW - (1 + most * 18))) (hmx : most * 18 ≤ 10000000) :
    Calls Tryz.prog 121 #[.pointer (some ⟨q, 0, none⟩), .slice A n c, .int .i64 most, .func (.func 122) #[] #[]] w fun e w' => e = .returned (.tuple #[]) ∧ WStep w0.heap.size q aR (putS most txS xs s) r w w' := by
  have H0 := Lib.hid H
  have HX := Lib.hid hx
  have HN := Lib.hid hn
  have HB := Lib.hid hb
  have RE := Lib.hid (cell_base hR hb h1)
  have RC := Lib.hid hR
  have HL := Lib.hid hlim
  clear H hx hn hb hR hlim
  by_cases hmn : most < n
  · have hmi : (most : Int) < n := by omega
    have PB : Hid (putS most txS xs s = none) := Lib.hid (by unfold putS; rw [if_pos (by rw [← HN.out]; exact hmn)])
    go_enter Tryz.func121, Tryz.ntmps121
    go_wp2_with fail
    refine wp_region_rely3 (by kernel_rfl) 4 (by kernel_rfl) (by kernel_rfl) Ext Ext.refl Ext.trans (fun ix => match ix with
      | 0 => fun _ v => v = .pointer (some ⟨q, 0, none⟩)
      | 1 => fun _ v => v = .pointer (some ⟨q, 0, none⟩)
      | 2 => fun _ v => v = .pointer (some ⟨q, 0, none⟩)
      | 3 => fun _ v => v = errV aR
      | _ => fun _ _ => False) ?_
    simp (maxSteps := 10000000) only [Rely, List.take_succ_cons, List.take_zero, List.drop_succ_cons, List.drop_zero, Nat.reduceAdd, Nat.zero_add, Act.put, List.setIfInBounds_toArray, List.set_cons_succ, List.set_cons_zero]
    refine ⟨?_, ?_, ?_, ?_, ?_⟩
    · refine step_plain rfl fun rv wq hE hd => ?_
      exact gives_move _ (.pointer (some ⟨q, 0, none⟩)) (.inl rfl) rfl ⟨Ext.refl _, fun _ _ => rfl⟩
    · refine step_plain rfl fun rv wq hE hd => ?_
      exact gives_nilCheck _ rfl ⟨q, 0, none⟩ (show rv 0 = _ from hd.1) ⟨Ext.refl _, fun _ _ => rfl⟩
    · refine step_plain rfl fun rv wq hE hd => ?_
      exact gives_fieldAddr' 243 _ 0 rfl (.pointer (some ⟨q, 0, none⟩)) _ (show rv 1 = _ from hd.1) (by go_simp) ⟨Ext.refl _, fun _ _ => rfl⟩
    · refine step_plain rfl fun rv wq hE hd => ?_
      have hc := cell_on (ext_of_drew hE) RE.out
      exact gives_loadAt 40 _ rfl (.pointer (some ⟨0, 0, none⟩)) (errV aR) rfl (by go_simp) ⟨Ext.refl _, fun _ _ => rfl⟩
    · intro rv wq hE hR
      have h0 : rv 2 = .pointer (some ⟨q, 0, none⟩) := hR 2 (by omega)
      have h3 : rv 3 = errV aR := hR 3 (by omega)
      rw [h0, h3]
      have BE := Lib.hid (ext_of_drew hE)
      clear hR hE h0 h3
      go_wp2_with fail
      refine (fail_any w0.heap.size q aR s r wq (H0.out.below BE.out)).mono ?_
      rintro _ w2 ⟨rfl, hst⟩
      go_wp2_with fail
      refine bodyPost_ret (results_none rfl _ _ _) rfl ⟨rfl, ?_⟩
      rw [PB.out]
      exact WStep.then_ (Only.of_below BE.out) (.inl rfl) hst
  have hmi : ¬ (most : Int) < n := by omega
  have hmj : ¬ (255 : Int) < n := by omega
  go_enter Tryz.func121, Tryz.ntmps121
  go_wp2_with fail
  refine (number_any w0.heap.size q aR s r n 1 (by omega) w H0.out RE.out (by have := HB.out.size; omega) (HL.out.mono (by unfold maxW; omega))).mono ?_
  rintro _ w1 ⟨rfl, hst1⟩
  have HS1 := Lib.hid hst1
  obtain ⟨st, hst⟩ : ∃ st : Nat → WS, st = fun i => (xs.take i).foldl (fun s x => txS x s) (numS n 1 s) := ⟨_, rfl⟩
  have hs0 : numS n 1 s = st 0 := by rw [hst]; rfl
  have hsn : putS most txS xs s = st n := by
    rw [hst]
    unfold putS
    rw [if_neg (by rw [← HN.out]; exact hmn)]
    dsimp only
    rw [HN.out, List.take_length]
  have hlm : ∀ i, i ≤ n → Lim (st i) (maxW - (most - i) * 18) := fun i hi => by
    rw [hst]
    dsimp only
    refine (Lim.fold (c := 18) Lim.tx (xs.take i) _ _ (HL.out.num n 1)).mono ?_
    rw [List.length_take, ← HN.out, Nat.min_eq_left hi]
    have e1 : most * 18 = i * 18 + (most - i) * 18 := by rw [← Nat.add_mul]; congr 1; omega
    unfold maxW at *
    omega
  have hss : ∀ i (hi : i < xs.length), st (i + 1) = txS (xs.getD i []) (st i) := fun i hi => by
    rw [hst]
    dsimp only
    rw [List.take_succ_eq_append_getElem hi, List.foldl_append, List.getD_eq_getElem?_getD, List.getElem?_eq_getElem hi]
    rfl
  rw [hs0] at HS1
  have HSN := Lib.hid hsn
  have HLM := Lib.hid hlm
  have HSS := Lib.hid hss
  clear hst1 hs0 hsn hlm hss hst
  go_wp2_with fail
  go_loopw [9, 30] (fun _ k wr => ∃ (i : Nat), i ≤ n ∧ k = .int .i64 i ∧ Hid (WStep w0.heap.size q aR (st i) r w wr))
    (fun _ k _ => n - (intOf k).toNat)
  case atStart => exact ⟨0, by omega, rfl, HS1⟩
  case round =>
    obtain ⟨i, hi, rfl, hstp⟩ := hrel
    by_cases hlt : i < n
    · have hil : (i : Int) < n := by omega
      have hix : i < xs.length := by rw [← HN.out]; exact hlt
      have hbel := hstp.out.below H0.out
      have BR := Lib.hid (HB.out.trans hbel)
      obtain ⟨r1, hw1, hk1⟩ := hstp.out.next
      have HW1 := Lib.hid hw1
      have HK1 := Lib.hid hk1
      have HSI := Lib.hid (HSS.out i hix)
      have HLI := Lib.hid ((HLM.out i hi).mono (show maxW - (most - i) * 18 ≤ maxW - 18 by have : 18 ≤ (most - i) * 18 := Nat.le_mul_of_pos_left _ (by omega); omega))
      clear hw1 hk1 hbel
      obtain ⟨bb, oo, B1, m1, d1, rfl, hrg, hbs⟩ := HX.out.el i hlt
      obtain ⟨X, hX⟩ : ∃ X, X = xs.getD i [] := ⟨_, rfl⟩
      rw [← hX] at hbs HSI
      have HBS := Lib.hid hbs
      have hrg2 := cell_on BR.out hrg
      clear hrg hX hbs
      go_wp2_with fail
      refine (block1_any w0 q aR (st i) r1 X B1 m1 d1 HBS.out wr HW1.out BR.out RC.out h1 HLI.out).mono ?_
      rintro _ w3 ⟨rfl, hst3⟩
      have HST := Lib.hid hst3
      clear hst3
      go_wp2_with fail
      go_roundw
      case rel => exact ⟨i + 1, by omega, by go_num, Lib.hid (by rw [HSI.out]; exact HK1.out _ _ HST.out)⟩
      case measure => simp [intOf]; omega
    · obtain rfl : i = n := by omega
      go_wp2
      go_end0
      exact ⟨rfl, by rw [HSN.out]; exact hstp.out⟩

set_option maxHeartbeats 8000000 in
set_option maxRecDepth 100000 in
theorem block2_any (w0 : World) (q : Nat) (aR : Addr) (s : WS) (r : Option Nat) (x : Va) (hk : x.1.length = 16) (ho : u8s_ok x.1) (w : World) (H : WrAt w0.heap.size w q aR s r) (hb : Below w0.heap.size w0 w) (hR : w0.cell? ⟨0, 0, none⟩ = some (errV aR)) (h1 : 0 < w0.heap.size) (hlim : Lim s (maxW - 22)) :
    Calls Tryz.prog 125 #[.pointer (some ⟨q, 0, none⟩), .agg (vcells x).toArray] w fun ret w' => ret = .returned (.tuple #[]) ∧ WStep w0.heap.size q aR (vaS x s) r w w' := by
  have b0 : Below w.heap.size w (w.alloc (.cells (vcells x).toArray 90)) := ((Below.refl _ _).alloc (Nat.le_refl _) _)
  have k0 : (w.alloc (.cells (vcells x).toArray 90)).heap[w.heap.size]? = some (.cells (vcells x).toArray 90 (0, 0)) := by
    have := heap_alloc_new w (.cells (vcells x).toArray 90)
    exact this
  have HH := Lib.hid H
  have H0 := Lib.hid (H.below b0)
  have B0 := Lib.hid b0
  have HB := Lib.hid hb
  have RC := Lib.hid hR
  have BB0 := Lib.hid (hb.trans (b0.mono hb.size))
  have K0_0 := Lib.hid k0
  have HL := Lib.hid hlim
  have HK := Lib.hid hk
  have HO := Lib.hid ho
  have RV0 := Lib.hid (vcells_key (blk_range (xs := (vcells x)) K0_0.out))
  clear H b0 hb hR k0 hlim hk ho
  go_enter Tryz.func125, Tryz.ntmps125
  go_wp2_with (refine wpList_load_g rfl 24 (.tmp 5) rfl w.heap.size 0 rfl (u8s x.1) _ RV0.out Tryz.underlying24 rfl (by rw [u8s_len', HK.out]; exact Tryz.size24) ?_)
  refine (putDigest_any w0.heap.size q aR s r x.1 HK.out HO.out _ H0.out (HL.out.mono (by unfold maxW; omega))).mono ?_
  rintro _ w1 ⟨rfl, hst1⟩
  have ST1 := Lib.hid hst1
  clear hst1
  obtain ⟨r1, a1, j1⟩ := ST1.out.next
  have A1 := Lib.hid a1
  have J1 := Lib.hid j1
  have BB1 := Lib.hid (BB0.out.trans (ST1.out.below H0.out))
  have K0_1 := Lib.hid (ST1.out.keep HH.out K0_0.out (by omega))
  have c16_1 := vcells_pow HK.out (blk_range (xs := (vcells x)) K0_1.out)
  clear a1 j1 
  go_wp2_with fail
  refine (number_any w0.heap.size q aR (fixS x.1 s) r1 x.2 6 (by omega) _ A1.out (cell_base RC.out BB1.out h1) (by have := BB1.out.size; omega) ((Lim.dg _ HK.out _ _ HL.out).mono (by unfold maxW; omega))).mono ?_
  rintro _ w2 ⟨rfl, hst2⟩
  have ST2 := Lib.hid (J1.out _ _ hst2)
  clear hst2
  go_wp2_with fail
  go_end0
  exact ⟨rfl, WStep.then_ (Only.of_below B0.out) (.inl rfl) ST2.out⟩

set_option maxHeartbeats 8000000 in
set_option maxRecDepth 100000 in
theorem put113_any (w0 : World) (q : Nat) (aR : Addr) (s : WS) (r : Option Nat) (most : Nat) (hmost : most ≤ 255) (xs : List Va) (A : Option Addr) (n c : Nat) (hx : Vals w0 (.slice A n c) xs) (hn : n = xs.length) (hg : ∀ x ∈ xs, u8s_ok x.1) (w : World) (H : WrAt w0.heap.size w q aR s r) (hb : Below w0.heap.size w0 w) (hR : w0.cell? ⟨0, 0, none⟩ = some (errV aR)) (h1 : 0 < w0.heap.size) (hlim : Lim s (maxW - (1 + most * 22))) (hmx : most * 22 ≤ 10000000) :
    Calls Tryz.prog 124 #[.pointer (some ⟨q, 0, none⟩), .slice A n c, .int .i64 most, .func (.func 125) #[] #[]] w fun e w' => e = .returned (.tuple #[]) ∧ WStep w0.heap.size q aR (putS most vaS xs s) r w w' := by
  have H0 := Lib.hid H
  have HX := Lib.hid hx
  have HG := Lib.hid hg
  have HN := Lib.hid hn
  have HB := Lib.hid hb
  have RE := Lib.hid (cell_base hR hb h1)
  have RC := Lib.hid hR
  have HL := Lib.hid hlim
  clear H hx hn hb hR hlim hg
  by_cases hmn : most < n
  · have hmi : (most : Int) < n := by omega
    have PB : Hid (putS most vaS xs s = none) := Lib.hid (by unfold putS; rw [if_pos (by rw [← HN.out]; exact hmn)])
    go_enter Tryz.func124, Tryz.ntmps124
    go_wp2_with fail
    refine wp_region_rely3 (by kernel_rfl) 4 (by kernel_rfl) (by kernel_rfl) Ext Ext.refl Ext.trans (fun ix => match ix with
      | 0 => fun _ v => v = .pointer (some ⟨q, 0, none⟩)
      | 1 => fun _ v => v = .pointer (some ⟨q, 0, none⟩)
      | 2 => fun _ v => v = .pointer (some ⟨q, 0, none⟩)
      | 3 => fun _ v => v = errV aR
      | _ => fun _ _ => False) ?_
    simp (maxSteps := 10000000) only [Rely, List.take_succ_cons, List.take_zero, List.drop_succ_cons, List.drop_zero, Nat.reduceAdd, Nat.zero_add, Act.put, List.setIfInBounds_toArray, List.set_cons_succ, List.set_cons_zero]
    refine ⟨?_, ?_, ?_, ?_, ?_⟩
    · refine step_plain rfl fun rv wq hE hd => ?_
      exact gives_move _ (.pointer (some ⟨q, 0, none⟩)) (.inl rfl) rfl ⟨Ext.refl _, fun _ _ => rfl⟩
    · refine step_plain rfl fun rv wq hE hd => ?_
      exact gives_nilCheck _ rfl ⟨q, 0, none⟩ (show rv 0 = _ from hd.1) ⟨Ext.refl _, fun _ _ => rfl⟩
    · refine step_plain rfl fun rv wq hE hd => ?_
      exact gives_fieldAddr' 243 _ 0 rfl (.pointer (some ⟨q, 0, none⟩)) _ (show rv 1 = _ from hd.1) (by go_simp) ⟨Ext.refl _, fun _ _ => rfl⟩
    · refine step_plain rfl fun rv wq hE hd => ?_
      have hc := cell_on (ext_of_drew hE) RE.out
      exact gives_loadAt 40 _ rfl (.pointer (some ⟨0, 0, none⟩)) (errV aR) rfl (by go_simp) ⟨Ext.refl _, fun _ _ => rfl⟩
    · intro rv wq hE hR
      have h0 : rv 2 = .pointer (some ⟨q, 0, none⟩) := hR 2 (by omega)
      have h3 : rv 3 = errV aR := hR 3 (by omega)
      rw [h0, h3]
      have BE := Lib.hid (ext_of_drew hE)
      clear hR hE h0 h3
      go_wp2_with fail
      refine (fail_any w0.heap.size q aR s r wq (H0.out.below BE.out)).mono ?_
      rintro _ w2 ⟨rfl, hst⟩
      go_wp2_with fail
      refine bodyPost_ret (results_none rfl _ _ _) rfl ⟨rfl, ?_⟩
      rw [PB.out]
      exact WStep.then_ (Only.of_below BE.out) (.inl rfl) hst
  have hmi : ¬ (most : Int) < n := by omega
  have hmj : ¬ (255 : Int) < n := by omega
  go_enter Tryz.func124, Tryz.ntmps124
  go_wp2_with fail
  refine (number_any w0.heap.size q aR s r n 1 (by omega) w H0.out RE.out (by have := HB.out.size; omega) (HL.out.mono (by unfold maxW; omega))).mono ?_
  rintro _ w1 ⟨rfl, hst1⟩
  have HS1 := Lib.hid hst1
  obtain ⟨st, hst⟩ : ∃ st : Nat → WS, st = fun i => (xs.take i).foldl (fun s x => vaS x s) (numS n 1 s) := ⟨_, rfl⟩
  have hs0 : numS n 1 s = st 0 := by rw [hst]; rfl
  have hsn : putS most vaS xs s = st n := by
    rw [hst]
    unfold putS
    rw [if_neg (by rw [← HN.out]; exact hmn)]
    dsimp only
    rw [HN.out, List.take_length]
  have hlm : ∀ i, i ≤ n → Lim (st i) (maxW - (most - i) * 22) := fun i hi => by
    rw [hst]
    dsimp only
    refine (Lim.foldP (c := 22) Lim.va (xs.take i) (fun x hx => HX.out.good x (List.mem_of_mem_take hx)) _ _ (HL.out.num n 1)).mono ?_
    rw [List.length_take, ← HN.out, Nat.min_eq_left hi]
    have e1 : most * 22 = i * 22 + (most - i) * 22 := by rw [← Nat.add_mul]; congr 1; omega
    unfold maxW at *
    omega
  have hss : ∀ i (hi : i < xs.length), st (i + 1) = vaS (xs.getD i ([], 0)) (st i) := fun i hi => by
    rw [hst]
    dsimp only
    rw [List.take_succ_eq_append_getElem hi, List.foldl_append, List.getD_eq_getElem?_getD, List.getElem?_eq_getElem hi]
    rfl
  rw [hs0] at HS1
  have HSN := Lib.hid hsn
  have HLM := Lib.hid hlm
  have HSS := Lib.hid hss
  clear hst1 hs0 hsn hlm hss hst
  go_wp2_with fail
  go_loopw [9, 30] (fun _ k wr => ∃ (i : Nat), i ≤ n ∧ k = .int .i64 i ∧ Hid (WStep w0.heap.size q aR (st i) r w wr))
    (fun _ k _ => n - (intOf k).toNat)
  case atStart => exact ⟨0, by omega, rfl, HS1⟩
  case round =>
    obtain ⟨i, hi, rfl, hstp⟩ := hrel
    by_cases hlt : i < n
    · have hil : (i : Int) < n := by omega
      have hix : i < xs.length := by rw [← HN.out]; exact hlt
      have hbel := hstp.out.below H0.out
      have BR := Lib.hid (HB.out.trans hbel)
      obtain ⟨r1, hw1, hk1⟩ := hstp.out.next
      have HW1 := Lib.hid hw1
      have HK1 := Lib.hid hk1
      have HSI := Lib.hid (HSS.out i hix)
      have HLI := Lib.hid ((HLM.out i hi).mono (show maxW - (most - i) * 22 ≤ maxW - 22 by have : 22 ≤ (most - i) * 22 := Nat.le_mul_of_pos_left _ (by omega); omega))
      clear hw1 hk1 hbel
      obtain ⟨bb, oo, rfl, _, hrg⟩ := HX.out.el i hlt
      have hl16 := HX.out.at i hix
      have hok := HG.out (xs.getD i ([], 0)) (by rw [List.getD_eq_getElem?_getD, List.getElem?_eq_getElem hix]; exact List.getElem_mem _)
      obtain ⟨X, hX⟩ : ∃ X, X = xs.getD i ([], 0) := ⟨_, rfl⟩
      rw [← hX] at hrg hl16 hok HSI
      have RG := Lib.hid (range_below hrg BR.out)
      have HCL := Lib.hid (vcells_len X hl16)
      have HOK := Lib.hid hok
      have HL16 := Lib.hid hl16
      clear hrg hX hok hl16
      have hh : ∀ Z : Array Value, Z.size = 17 → Has (wr.alloc (.cells Z 90)) wr.heap.size 90 (vcells X).length := fun Z hZ => has_new wr _ _ _ (by rw [hZ]; exact HCL.out.symm)
      have HH := Lib.hid hh
      clear hh
      go_wp2_with (first | (refine wpList_load_g rfl 90 (.tmp 32) rfl bb (oo + i * 17) rfl (vcells X) _ RG.out Tryz.underlying90 rfl (by rw [HCL.out]; exact Tryz.size90) ?_) | (refine wpList_store_row rfl 90 (.tmp 9) (.tmp 33) rfl wr.heap.size rfl (vcells X) rfl 90 (HH.out _ rfl) (by rw [HCL.out]; exact Tryz.size90) (one_vcells X) ?_; intro w2 hp2; have BL := Lib.hid (show Below wr.heap.size wr w2 from hp2.below ((Below.refl _ _).alloc (Nat.le_refl _) _) (Nat.le_refl _)); have RG2 := Lib.hid (blk_range hp2.blk); clear hp2) | (refine wpList_load_g rfl 90 (.tmp 9) rfl wr.heap.size 0 rfl (vcells X) _ RG2.out Tryz.underlying90 rfl (by rw [HCL.out]; exact Tryz.size90) ?_))
      refine (block2_any w0 q aR (st i) r1 X HL16.out HOK.out w2 (HW1.out.below BL.out) (BR.out.trans (BL.out.mono BR.out.size)) RC.out h1 HLI.out).mono ?_
      rintro _ w3 ⟨rfl, hst3⟩
      have HST := Lib.hid hst3
      clear hst3
      go_wp2_with fail
      go_roundw
      case rel => exact ⟨i + 1, by omega, by go_num, Lib.hid (by rw [HSI.out]; exact HK1.out _ _ (WStep.then_ (Only.of_below BL.out) (.inl rfl) HST.out))⟩
      case measure => simp [intOf]; omega
    · obtain rfl : i = n := by omega
      go_wp2
      go_end0
      exact ⟨rfl, by rw [HSN.out]; exact hstp.out⟩
end Go.Proofs.YtniknhhejlgdfaaGreatDoor
/- A whole block is written. -/
namespace Go.Proofs.YtniknhhejlgdfaaGreatDoor
open Go.RowKit

theorem bk_pay {w : World} {b t : Nat} {e r : Int} {p : List Int} {q : List Value} {x y : Value} (hp : p.length = 16) (hq : q.length = 19) (h : w.heap[b]? = some (.cells (bkC e r p q x y).toArray t (0, 0))) : w.cell? ⟨b, 37, none⟩ = some x := blk_cell h 37 _ (by
  unfold bkC
  rw [List.getElem?_append_right (by simp), List.getElem?_append_right (by simp [u8s_len', hp]), List.getElem?_append_right (by simp [u8s_len', hp, hq])]
  simp [u8s_len', hp, hq])
theorem bk_nxt {w : World} {b t : Nat} {e r : Int} {p : List Int} {q : List Value} {x y : Value} (hp : p.length = 16) (hq : q.length = 19) (h : w.heap[b]? = some (.cells (bkC e r p q x y).toArray t (0, 0))) : w.cell? ⟨b, 38, none⟩ = some y := blk_cell h 38 _ (by
  unfold bkC
  rw [List.getElem?_append_right (by simp), List.getElem?_append_right (by simp [u8s_len', hp]), List.getElem?_append_right (by simp [u8s_len', hp, hq])]
  simp [u8s_len', hp, hq])
theorem bk_par {w : World} {b t : Nat} {e r : Int} {p : List Int} {q : List Value} {x y : Value} (h : w.heap[b]? = some (.cells (bkC e r p q x y).toArray t (0, 0))) : w.rangeAt b 2 (u8s p) := blk_mid (pre := [.int .i64 e, .int .i64 r]) (ys := u8s p) (post := q ++ [x, y]) h rfl
theorem bk_jus {w : World} {b t : Nat} {e r : Int} {p : List Int} {q : List Value} {x y : Value} (hp : p.length = 16) (h : w.heap[b]? = some (.cells (bkC e r p q x y).toArray t (0, 0))) : w.rangeAt b 18 q := by
  have := blk_mid (pre := [.int .i64 e, .int .i64 r] ++ u8s p) (ys := q) (post := [x, y]) h (by simp [bkC])
  rwa [List.length_append, u8s_len', hp] at this
theorem bk_len (e r : Int) (p : List Int) (q : List Value) (x y : Value) (hp : p.length = 16) (hq : q.length = 19) : (bkC e r p q x y).length = 39 := by simp [bkC, u8s_len', hp, hq]
theorem Lim.pay {ps : List (List Int)} {s : WS} {m : Nat} (h : Lim s m) : Lim (putS 4 txS ps s) (m + 73) := (Lim.put Lim.tx ps h).mono (by omega)

set_option maxHeartbeats 8000000 in
set_option maxRecDepth 100000 in
theorem wblock_any (w0 : World) (q : Nat) (aR : Addr) (s : WS) (r : Option Nat) (e n e2 n2 : Int) (p bl : List Int) (hp : p.length = 16) (hpo : u8s_ok p) (hbl : bl.length = 16) (hbo : u8s_ok bl) (xs : List Sd) (ps : List (List Int)) (vs : List Va) (A B D : Option Addr) (k c kp cp kn cn : Nat) (hx : Sgs w0 (.slice A k c) xs) (hk : k = xs.length) (hpy : Bss w0 (.slice B kp cp) ps) (hkp : kp = ps.length) (hvs : Vals w0 (.slice D kn cn) vs) (hkn : kn = vs.length) (hg : ∀ x ∈ vs, u8s_ok x.1) (w : World) (H : WrAt w0.heap.size w q aR s r) (hb : Below w0.heap.size w0 w) (hR : w0.cell? ⟨0, 0, none⟩ = some (errV aR)) (h1 : 0 < w0.heap.size) (hlim : Lim s (maxW - 10000)) :
    Calls Tryz.prog 98 #[wrV q, .agg (bkC e n p (qcC e2 n2 bl (.slice A k c)) (.slice B kp cp) (.slice D kn cn)).toArray] w fun ret w' => ret = .returned (.tuple #[]) ∧ WStep w0.heap.size q aR (bkS ⟨e, n, p, ⟨e2, n2, bl, xs⟩, ps, vs⟩ s) r w w' := by
  have b0 : Below w.heap.size w ((w.alloc (.cells #[.pointer (some ⟨q, 0, none⟩)] 192)).alloc (.cells (bkC e n p (qcC e2 n2 bl (.slice A k c)) (.slice B kp cp) (.slice D kn cn)).toArray 32)) := (((Below.refl _ _).alloc (Nat.le_refl _) _).alloc (by simp) _)
  have k0 : ((w.alloc (.cells #[.pointer (some ⟨q, 0, none⟩)] 192)).alloc (.cells (bkC e n p (qcC e2 n2 bl (.slice A k c)) (.slice B kp cp) (.slice D kn cn)).toArray 32)).heap[w.heap.size]? = some (.cells #[.pointer (some ⟨q, 0, none⟩)] 192 (0, 0)) := by
    have := heap_alloc_new w (.cells #[.pointer (some ⟨q, 0, none⟩)] 192)
    have := (Below.heap_alloc (w.alloc (.cells #[.pointer (some ⟨q, 0, none⟩)] 192)) (.cells (bkC e n p (qcC e2 n2 bl (.slice A k c)) (.slice B kp cp) (.slice D kn cn)).toArray 32) _ (blk_lt this)).trans this
    exact this
  have k1 : ((w.alloc (.cells #[.pointer (some ⟨q, 0, none⟩)] 192)).alloc (.cells (bkC e n p (qcC e2 n2 bl (.slice A k c)) (.slice B kp cp) (.slice D kn cn)).toArray 32)).heap[w.heap.size + 1]? = some (.cells (bkC e n p (qcC e2 n2 bl (.slice A k c)) (.slice B kp cp) (.slice D kn cn)).toArray 32 (0, 0)) := by
    have := heap_alloc_new (w.alloc (.cells #[.pointer (some ⟨q, 0, none⟩)] 192)) (.cells (bkC e n p (qcC e2 n2 bl (.slice A k c)) (.slice B kp cp) (.slice D kn cn)).toArray 32)
    rw [World.size_alloc] at this
    exact this
  have HH := Lib.hid H
  have H0 := Lib.hid (H.below b0)
  have B0 := Lib.hid b0
  have HB := Lib.hid hb
  have RC := Lib.hid hR
  have BB0 := Lib.hid (hb.trans (b0.mono hb.size))
  have K0_0 := Lib.hid k0
  have K1_0 := Lib.hid k1
  have HK := Lib.hid hk
  have HX := Lib.hid hx
  have HL := Lib.hid hlim
  have HBL := Lib.hid hbl
  have HBO := Lib.hid hbo
  have HP := Lib.hid hp
  have HPO := Lib.hid hpo
  have HPY := Lib.hid hpy
  have HKP := Lib.hid hkp
  have HVS := Lib.hid hvs
  have HKN := Lib.hid hkn
  have HG := Lib.hid hg
  have RW0 := Lib.hid (blk_range (xs := [.pointer (some ⟨q, 0, none⟩)]) K0_0.out)
  have c1_0_0 := blk_cell (xs := (bkC e n p (qcC e2 n2 bl (.slice A k c)) (.slice B kp cp) (.slice D kn cn))) K1_0.out 0 _ rfl
  have c1_1_0 := blk_cell (xs := (bkC e n p (qcC e2 n2 bl (.slice A k c)) (.slice B kp cp) (.slice D kn cn))) K1_0.out 1 _ rfl
  clear H b0 hb hR k0 k1 hx hk hlim hbl hbo hp hpo hpy hkp hvs hkn hg
  go_enter Tryz.func98, Tryz.ntmps98
  go_wp2_with (refine wpList_load_g rfl 192 (.tmp 2) rfl w.heap.size 0 rfl [.pointer (some ⟨q, 0, none⟩)] _ RW0.out Tryz.underlying192 rfl Tryz.size192 ?_)
  refine (wat_any w0.heap.size q aR s r e n _ H0.out (cell_base RC.out BB0.out h1) h1 (HL.out.mono (by unfold maxW; omega))).mono ?_
  rintro _ w1 ⟨rfl, hst1⟩
  have ST1 := Lib.hid hst1
  clear hst1
  obtain ⟨r1, a1, j1⟩ := ST1.out.next
  have A1 := Lib.hid a1
  have J1 := Lib.hid j1
  have BB1 := Lib.hid (BB0.out.trans (ST1.out.below H0.out))
  have K0_1 := Lib.hid (ST1.out.keep HH.out K0_0.out (by omega))
  have K1_1 := Lib.hid (ST1.out.keep HH.out K1_0.out (by omega))
  have RW1 := Lib.hid (blk_range (xs := [.pointer (some ⟨q, 0, none⟩)]) K0_1.out)
  have RQ1 := Lib.hid (bk_par K1_1.out)
  clear a1 j1 c1_0_0 c1_1_0
  go_wp2_with (first | (refine wpList_load_g rfl 192 (.tmp 2) rfl w.heap.size 0 rfl [.pointer (some ⟨q, 0, none⟩)] _ RW1.out Tryz.underlying192 rfl Tryz.size192 ?_) | (refine wpList_load_g rfl 24 (.tmp 11) rfl (w.heap.size + 1) 2 rfl (u8s p) _ RQ1.out Tryz.underlying24 rfl (by rw [u8s_len', HP.out]; exact Tryz.size24) ?_))
  refine (digest_any w0.heap.size q aR (numS n 6 (numS e 4 s)) r1 p HP.out HPO.out _ A1.out (((HL.out.num e 4).num n 6).mono (by unfold maxW; omega))).mono ?_
  rintro _ w2 ⟨rfl, hst2⟩
  have ST2 := Lib.hid (J1.out _ _ hst2)
  clear hst2
  obtain ⟨r2, a2, j2⟩ := ST2.out.next
  have A2 := Lib.hid a2
  have J2 := Lib.hid j2
  have BB2 := Lib.hid (BB0.out.trans (ST2.out.below H0.out))
  have K0_2 := Lib.hid (ST2.out.keep HH.out K0_0.out (by omega))
  have K1_2 := Lib.hid (ST2.out.keep HH.out K1_0.out (by omega))
  have RW2 := Lib.hid (blk_range (xs := [.pointer (some ⟨q, 0, none⟩)]) K0_2.out)
  have RJ2 := Lib.hid (bk_jus HP.out K1_2.out)
  clear a2 j2 
  go_wp2_with (first | (refine wpList_load_g rfl 192 (.tmp 2) rfl w.heap.size 0 rfl [.pointer (some ⟨q, 0, none⟩)] _ RW2.out Tryz.underlying192 rfl Tryz.size192 ?_) | (refine wpList_load_g rfl 29 (.tmp 15) rfl (w.heap.size + 1) 18 rfl (qcC e2 n2 bl (.slice A k c)) _ RJ2.out Tryz.underlying29 rfl (by rw [qc_len _ _ _ _ HBL.out]; exact Tryz.size29) ?_))
  refine (wqc_any w0 q aR (fixS p (numS n 6 (numS e 4 s))) r2 e2 n2 bl HBL.out HBO.out xs A k c HX.out HK.out _ A2.out BB2.out RC.out h1 ((Lim.dg _ HP.out _ _ ((HL.out.num e 4).num n 6)).mono (by unfold maxW; omega))).mono ?_
  rintro _ w3 ⟨rfl, hst3⟩
  have ST3 := Lib.hid (J2.out _ _ hst3)
  clear hst3
  obtain ⟨r3, a3, j3⟩ := ST3.out.next
  have A3 := Lib.hid a3
  have J3 := Lib.hid j3
  have BB3 := Lib.hid (BB0.out.trans (ST3.out.below H0.out))
  have K0_3 := Lib.hid (ST3.out.keep HH.out K0_0.out (by omega))
  have K1_3 := Lib.hid (ST3.out.keep HH.out K1_0.out (by omega))
  have cp3 := blk_cell (xs := [.pointer (some ⟨q, 0, none⟩)]) K0_3.out 0 _ rfl
  have c37_3 := bk_pay HP.out (qc_len _ _ _ _ HBL.out) K1_3.out
  clear a3 j3 
  go_wp2_with fail
  refine (put110_any w0 q aR (qcS ⟨e2, n2, bl, xs⟩ (fixS p (numS n 6 (numS e 4 s)))) r3 4 (by omega) ps B kp cp HPY.out HKP.out _ A3.out BB3.out RC.out h1 ((Lim.qc (q := ⟨e2, n2, bl, xs⟩) HX.out.ok HBL.out (Lim.dg _ HP.out _ _ ((HL.out.num e 4).num n 6))).mono (by unfold maxW; omega)) (by omega)).mono ?_
  rintro _ w4 ⟨rfl, hst4⟩
  have ST4 := Lib.hid (J3.out _ _ hst4)
  clear hst4
  obtain ⟨r4, a4, j4⟩ := ST4.out.next
  have A4 := Lib.hid a4
  have J4 := Lib.hid j4
  have BB4 := Lib.hid (BB0.out.trans (ST4.out.below H0.out))
  have K0_4 := Lib.hid (ST4.out.keep HH.out K0_0.out (by omega))
  have K1_4 := Lib.hid (ST4.out.keep HH.out K1_0.out (by omega))
  have cp4 := blk_cell (xs := [.pointer (some ⟨q, 0, none⟩)]) K0_4.out 0 _ rfl
  have c38_4 := bk_nxt HP.out (qc_len _ _ _ _ HBL.out) K1_4.out
  clear a4 j4 cp3 c37_3
  go_wp2_with fail
  refine (put113_any w0 q aR (putS 4 txS ps (qcS ⟨e2, n2, bl, xs⟩ (fixS p (numS n 6 (numS e 4 s))))) r4 7 (by omega) vs D kn cn HVS.out HKN.out HG.out _ A4.out BB4.out RC.out h1 ((Lim.pay (ps := ps) (Lim.qc (q := ⟨e2, n2, bl, xs⟩) HX.out.ok HBL.out (Lim.dg _ HP.out _ _ ((HL.out.num e 4).num n 6)))).mono (by unfold maxW; omega)) (by omega)).mono ?_
  rintro _ w5 ⟨rfl, hst5⟩
  have ST5 := Lib.hid (J4.out _ _ hst5)
  clear hst5
  go_wp2_with fail
  go_end0
  exact ⟨rfl, WStep.then_ (Only.of_below B0.out) (.inl rfl) ST5.out⟩
end Go.Proofs.YtniknhhejlgdfaaGreatDoor
/- A writer begins and ends: NewWriter, Done. -/
namespace Go.Proofs.YtniknhhejlgdfaaGreatDoor
open Go.RowKit

theorem eql71_nil (a : Option Addr) (l c : Nat) (W : World) : (binOp .eql 137 (.slice a l c) (.slice none 0 0)).run Tryz.prog W = .ok (.bool a.isNone) W := by
  simp only [binOp]
  simp [run_equal_slice_nil W 137 5 a l c Tryz.underlying137]
set_option maxHeartbeats 4000000 in
set_option maxRecDepth 100000 in
theorem clone123_any (xs : List Int) (A : Option Addr) (n c : Nat) (w : World) (hx : Bs w (.slice A n c) xs) (hl : n ≤ maxW) :
    Calls Tryz.prog 147 #[.slice A n c] w fun e w' => ∃ v, e = .returned v ∧ Bs w' v xs ∧ Below w.heap.size w w' := by
  have HX := Lib.hid hx
  have HN := Lib.hid hx.len
  clear hx
  cases A with
  | none =>
    have h0 : n = 0 := by
      rcases Nat.eq_zero_or_pos n with h | h
      · exact h
      · obtain ⟨b, off, c', e, _⟩ := HX.out.cells (by intro e; have := HN.out; rw [e] at this; simp at this; omega)
        cases e
    subst h0
    have hxs : xs = [] := List.eq_nil_of_length_eq_zero HN.out.symm
    have HXS := Lib.hid hxs
    have hnil := eql71_nil none 0 c w
    clear hxs
    go_enter Tryz.func147, Tryz.ntmps147
    go_wp2
    go_ret
    exact ⟨_, rfl, by rw [HXS.out]; exact Bs.nil, Below.refl _ _⟩
  | some a =>
    have b0 : Below w.heap.size w (w.alloc (.cells #[] 5)) := (Below.refl _ _).alloc (Nat.le_refl _) _
    have HO := Lib.hid (OwnO.of_own (World.ownsRow_made (e := 5) (base := w.heap.size) w #[] 0 (Nat.le_refl _) (by simp) rfl))
    have HS := Lib.hid (HX.out.below b0).src
    have B0 := Lib.hid b0
    rw [← HN.out] at HS
    have hnil := eql71_nil (some a) n c w
    clear b0
    go_enter Tryz.func147, Tryz.ntmps147
    go_wp2_with (at_builtin; refine appO (w0 := w) w.heap.size rfl (.tmp 5) (.tmp 6) 137 137 5 (.int .u8 0) 1 rfl Tryz.underlying137 Tryz.info5 rfl (by omega) (.slice (some ⟨w.heap.size, 0, none⟩) 0 0) [] rfl _ n (u8s xs) rfl HS.out HO.out B0.out (by simp) (by simp; unfold maxW at hl; omega) ?_; intro v1 w1 ap; have AP := Lib.hid ap; clear ap)
    go_ret
    have := AP.out.own
    rw [List.nil_append] at this
    exact ⟨_, rfl, Bs.of_own this HX.out.ok, AP.out.below⟩

set_option maxHeartbeats 4000000 in
set_option maxRecDepth 100000 in
theorem newWriter_any (aR : Addr) (w : World) : Calls Tryz.prog 116 #[] w fun e w' => ∃ q, e = .returned (.pointer (some ⟨q, 0, none⟩)) ∧ WrAt w.heap.size w' q aR (some []) none ∧ Below w.heap.size w w' := by
  go_enter Tryz.func116, Tryz.ntmps116
  go_wp2
  go_ret
  exact ⟨_, rfl, ⟨Nat.le_refl _, ⟨.nilIface, .slice none 0 0, [], heap_alloc_new w _, OwnO.nil, rfl, (fun b hb => by cases hb), (by simp), .inl ⟨rfl, rfl⟩⟩, by simp⟩, (Below.refl _ _).alloc (Nat.le_refl _) _⟩

set_option maxHeartbeats 4000000 in
set_option maxRecDepth 100000 in
theorem done_any (base q : Nat) (aR : Addr) (s : WS) (r : Option Nat) (w : World) (H : WrAt base w q aR s r) :
    Calls Tryz.prog 117 #[.pointer (some ⟨q, 0, none⟩)] w fun e w' => Below w.heap.size w w' ∧ ((s = none ∧ e = .returned (.tuple #[.slice none 0 0, errV aR])) ∨ ∃ b v, s = some b ∧ e = .returned (.tuple #[v, .nilIface]) ∧ Bs w' v b) := by
  obtain ⟨ev, sv, bs, hb, ho, hr, h1, h2, h3⟩ := H.at_
  have hc := blk_cell (xs := [ev, sv]) hb 0 _ rfl
  have hc1 := blk_cell (xs := [ev, sv]) hb 1 _ rfl
  clear H
  rcases h3 with ⟨rfl, rfl⟩ | ⟨rfl, rfl⟩
  · have HB := Lib.hid (Bs.of_own ho h1)
    have hl := Lib.hid h2
    clear hb ho hr h1 h2
    obtain ⟨A, c, rfl⟩ := HB.out.form
    go_enter Tryz.func117, Tryz.ntmps117
    go_wp2_with fail
    refine (clone123_any bs A bs.length c w HB.out hl.out).mono ?_
    rintro _ w1 ⟨v, rfl, hv, hbl⟩
    obtain ⟨A2, c2, rfl⟩ := hv.form
    have HV := Lib.hid hv
    have BL := Lib.hid hbl
    clear hv hbl
    go_wp2_with fail
    go_ret2
    exact ⟨BL.out, .inr ⟨bs, _, rfl, rfl, HV.out⟩⟩
  · have C0 := Lib.hid hc
    clear hb ho hr h1 h2
    go_enter Tryz.func117, Tryz.ntmps117
    go_wp2_with fail
    refine wp_region_rely3 (by kernel_rfl) 7 (by kernel_rfl) (by kernel_rfl) Ext Ext.refl Ext.trans (fun ix => match ix with
      | 0 => fun _ v => v = .pointer (some ⟨q, 0, none⟩)
      | 1 => fun _ v => v = .pointer (some ⟨q, 0, none⟩)
      | 2 => fun _ v => v = .pointer (some ⟨q, 0, none⟩)
      | 3 => fun _ v => v = .pointer (some ⟨q, 0, none⟩)
      | 4 => fun _ v => v = errV aR
      | 5 => fun _ v => v = .slice none 0 0
      | 6 => fun _ v => v = errV aR
      | _ => fun _ _ => False) ?_
    simp (maxSteps := 10000000) only [Rely, List.take_succ_cons, List.take_zero, List.drop_succ_cons, List.drop_zero, Nat.reduceAdd, Nat.zero_add, Act.put, List.setIfInBounds_toArray, List.set_cons_succ, List.set_cons_zero]
    refine ⟨?_, ?_, ?_, ?_, ?_, ?_, ?_, ?_⟩
    · refine step_plain rfl fun rv wq hE hd => ?_
      exact gives_move _ (.pointer (some ⟨q, 0, none⟩)) (.inl rfl) rfl ⟨Ext.refl _, fun _ _ => rfl⟩
    · refine step_plain rfl fun rv wq hE hd => ?_
      exact gives_nilCheck _ rfl ⟨q, 0, none⟩ (show rv 0 = _ from hd.1) ⟨Ext.refl _, fun _ _ => rfl⟩
    · refine step_plain rfl fun rv wq hE hd => ?_
      exact gives_fieldAddr' 243 _ 0 rfl (.pointer (some ⟨q, 0, none⟩)) _ (show rv 1 = _ from hd.1) (by go_simp) ⟨Ext.refl _, fun _ _ => rfl⟩
    · refine step_plain rfl fun rv wq hE hd => ?_
      exact gives_fieldAddr' 241 _ 0 rfl (.pointer (some ⟨q, 0, none⟩)) _ (show rv 2 = _ from hd.1) (by go_simp) ⟨Ext.refl _, fun _ _ => rfl⟩
    · refine step_plain rfl fun rv wq hE hd => ?_
      have hc := cell_on (ext_of_drew hE) C0.out
      exact gives_loadAt 40 _ rfl (.pointer (some ⟨q, 0, none⟩)) (errV aR) (show rv 3 = _ from hd.1) (by go_simp) ⟨Ext.refl _, fun _ _ => rfl⟩
    · refine step_plain rfl fun rv wq hE hd => ?_
      exact gives_move _ (.slice none 0 0) (.inr rfl) rfl ⟨Ext.refl _, fun _ _ => rfl⟩
    · refine step_plain rfl fun rv wq hE hd => ?_
      exact gives_move _ (errV aR) (.inr rfl) (show rv 4 = _ from hd.1) ⟨Ext.refl _, fun _ _ => rfl⟩
    · intro rv wq hE hR
      have h5 : rv 5 = .slice none 0 0 := hR 5 (by omega)
      have h6 : rv 6 = errV aR := hR 6 (by omega)
      rw [h5, h6]
      have BE := Lib.hid (ext_of_drew hE)
      clear hR hE h5 h6
      go_wp2_with fail
      go_ret2
      exact ⟨BE.out, .inl ⟨trivial, rfl⟩⟩
end Go.Proofs.YtniknhhejlgdfaaGreatDoor
/- A block's bytes and its id. -/
namespace Go.Proofs.YtniknhhejlgdfaaGreatDoor
open Go.RowKit

/-- A block's bytes; none: an error. -/
def encB (b : Bk) : WS := bkS b (some [])
theorem Tryz.size32 : (Tryz.prog.info? 32).map (·.size) = some 39 := by kernel_rfl
theorem Lim.bk {b : Bk} (h1 : ∀ x ∈ b.justify.votes, SdOk x) (h2 : b.justify.block.length = 16) (h3 : b.parent.length = 16) (h4 : ∀ x ∈ b.next, x.1.length = 16) {s : WS} {m : Nat} (hs : Lim s m) : Lim (bkS b s) (m + 10000) := by
  unfold bkS
  exact (Lim.putP Lim.va h4 (Lim.pay (Lim.qc h1 h2 (Lim.dg _ h3 _ _ ((hs.num b.epoch 4).num b.round 6))))).mono (by omega)
theorem BkAt.lim {w : World} {cs : List Value} {b : Bk} (h : BkAt w cs b) : Lim (encB b) 10000 := by
  obtain ⟨q, A, c, B, d, e, h1, h2, h3⟩ := h.ex
  obtain ⟨A', c', _, hs⟩ := h1.ex
  have := Lim.bk (b := b) hs.ok h1.blk.1 h.par.1 h3.good (s := some []) (m := 0) (fun b hb => by cases hb; simp)
  simpa [encB] using this
/-- What codec.ID answers: the id and the error. -/
def idB (b : Bk) : List Int := match encB b with
  | some bs => short 6 [bs]
  | none => zero16
def idE (b : Bk) (aR : Addr) : Value := match encB b with
  | some _ => .nilIface
  | none => errV aR
theorem idB_good (b : Bk) : (idB b).length = 16 ∧ u8s_ok (idB b) := by
  unfold idB
  split
  · exact ⟨short_len _ _, short_ok _ _⟩
  · exact ⟨zero16_len, by intro x hx; simp only [zero16, List.mem_replicate] at hx; obtain ⟨_, rfl⟩ := hx; unfold B8; omega⟩

set_option maxHeartbeats 8000000 in
set_option maxRecDepth 100000 in
theorem bytes1_any (w0 : World) (q bb : Nat) (aR : Addr) (r : Option Nat) (cs : List Value) (b : Bk) (hc : w0.heap[bb]? = some (.cells cs.toArray 32 (0, 0))) (hB : BkAt w0 cs b) (w : World) (H : WrAt w0.heap.size w q aR (some []) r) (hb : Below w0.heap.size w0 w) (hR : w0.cell? ⟨0, 0, none⟩ = some (errV aR)) (h1 : 0 < w0.heap.size) :
    Calls Tryz.prog 97 #[wrV q, .pointer (some ⟨bb, 0, none⟩)] w fun e w' => e = .returned (.tuple #[]) ∧ WStep w0.heap.size q aR (encB b) r w w' := by
  have b0 : Below w.heap.size w (w.alloc (.cells #[.pointer (some ⟨q, 0, none⟩)] 192)) := (Below.refl _ _).alloc (Nat.le_refl _) _
  have H0 := Lib.hid (H.below b0)
  have B0 := Lib.hid b0
  have HB := Lib.hid (hb.trans (b0.mono hb.size))
  have RW := Lib.hid (blk_range (xs := [.pointer (some ⟨q, 0, none⟩)]) (heap_alloc_new w (.cells #[.pointer (some ⟨q, 0, none⟩)] 192)))
  have RB := Lib.hid (blk_range (blk_below hc HB.out))
  obtain ⟨⟨qs, A, c, B, d, rfl, hq, hp, hv⟩, hpar, hkeys⟩ := hB
  obtain ⟨⟨A', c', rfl, hs⟩, hblk⟩ := hq
  have hl := bk_len b.epoch b.round b.parent (qcC b.justify.epoch b.justify.round b.justify.block (.slice A' b.justify.votes.length c')) (.slice A b.payload.length c) (.slice B b.next.length d) hpar.1 (qc_len _ _ _ _ hblk.1)
  have HW := Lib.hid (fun W => wblock_any w0 q aR (some []) r b.epoch b.round b.justify.epoch b.justify.round b.parent b.justify.block hpar.1 hpar.2 hblk.1 hblk.2 b.justify.votes b.payload b.next A' A B b.justify.votes.length c' b.payload.length c b.next.length d hs rfl hp rfl hv rfl hkeys W)
  clear b0 H hb hc hs hp hv hpar hkeys hblk
  go_enter Tryz.func97, Tryz.ntmps97
  go_wp2_with (first | (refine wpList_load_g rfl 192 (.tmp 2) rfl w.heap.size 0 rfl [.pointer (some ⟨q, 0, none⟩)] _ RW.out Tryz.underlying192 rfl Tryz.size192 ?_) | (refine wpList_load_g rfl 32 (.tmp 1) rfl bb 0 rfl _ _ RB.out Tryz.underlying32 rfl (by rw [hl]; exact Tryz.size32) ?_))
  refine (HW.out _ H0.out HB.out hR h1 (fun b hb => by cases hb; simp)).mono ?_
  rintro _ w2 ⟨rfl, hst⟩
  go_wp2_with fail
  go_end0
  exact ⟨rfl, WStep.then_ (Only.of_below B0.out) (.inl rfl) hst⟩

set_option maxHeartbeats 8000000 in
set_option maxRecDepth 100000 in
theorem written_any (w : World) (bb : Nat) (aR : Addr) (cs : List Value) (b : Bk) (hc : w.heap[bb]? = some (.cells cs.toArray 32 (0, 0))) (hB : BkAt w cs b) (hR : w.cell? ⟨0, 0, none⟩ = some (errV aR)) (h1 : 0 < w.heap.size) :
    Calls Tryz.prog 96 #[.func (.func 97) #[] #[.pointer (some ⟨bb, 0, none⟩)]] w fun e w' => Below w.heap.size w w' ∧ ((encB b = none ∧ e = .returned (.tuple #[.slice none 0 0, errV aR])) ∨ ∃ bs v, encB b = some bs ∧ e = .returned (.tuple #[v, .nilIface]) ∧ Bs w' v bs) := by
  have HC := Lib.hid hc
  have HBK := Lib.hid hB
  have HR := Lib.hid hR
  clear hc hB hR
  go_enter Tryz.func96, Tryz.ntmps96
  go_wp2_with fail
  refine (newWriter_any aR w).mono ?_
  rintro _ w1 ⟨q, rfl, hw1, hb1⟩
  have A1 := Lib.hid hw1
  have B1 := Lib.hid hb1
  clear hw1 hb1
  go_wp2_with (first | (refine wpList_store_row rfl 192 (.tmp 4) (.tmp 6) rfl w1.heap.size rfl [.pointer (some ⟨q, 0, none⟩)] rfl 192 (has_new _ _ _ _ rfl) Tryz.size192 (by simp [Value.oneCell']) ?_; intro w2 hp2; have L2 : Below w1.heap.size w1 w2 := (hp2.below ((Below.refl _ _).alloc (Nat.le_refl _) _) (Nat.le_refl _)); have A2 := Lib.hid (A1.out.below L2); have B2 := Lib.hid (B1.out.trans (L2.mono B1.out.size)); have K2 := Lib.hid hp2.blk; have R2 := Lib.hid (blk_range K2.out); clear hp2 L2) | (refine wpList_load_g rfl 192 (.tmp 4) rfl w1.heap.size 0 rfl [.pointer (some ⟨q, 0, none⟩)] _ R2.out Tryz.underlying192 rfl Tryz.size192 ?_))
  refine (bytes1_any w q bb aR none cs b HC.out HBK.out w2 A2.out B2.out HR.out h1).mono ?_
  rintro _ w3 ⟨rfl, hst⟩
  obtain ⟨r3, a3, _⟩ := hst.next
  have A3 := Lib.hid a3
  have B3 := Lib.hid (B2.out.trans (hst.below A2.out))
  have K3 := Lib.hid (hst.keep A1.out K2.out (Nat.le_refl _))
  have c3 := blk_cell (xs := [.pointer (some ⟨q, 0, none⟩)]) K3.out 0 _ rfl
  clear hst a3
  go_wp2_with fail
  refine (done_any w.heap.size q aR (encB b) r3 w3 A3.out).mono ?_
  rintro e4 w4 ⟨hb4, (⟨hn, rfl⟩ | ⟨bs, v, hs, rfl, hv⟩)⟩
  · have B4 := Lib.hid (B3.out.trans (hb4.mono B3.out.size))
    have HN := Lib.hid hn
    clear hb4 hn
    go_wp2_with fail
    go_ret2
    exact ⟨B4.out, .inl ⟨HN.out, by first | rfl | trivial⟩⟩
  · have B4 := Lib.hid (B3.out.trans (hb4.mono B3.out.size))
    have HS := Lib.hid hs
    obtain ⟨A5, c5, rfl⟩ := hv.form
    have HV := Lib.hid hv
    clear hb4 hs hv
    go_wp2_with fail
    go_ret2
    exact ⟨B4.out, .inr ⟨bs, _, HS.out, by first | rfl | trivial, HV.out⟩⟩

set_option maxHeartbeats 8000000 in
set_option maxRecDepth 100000 in
theorem bytesB_any (w : World) (aR : Addr) (cs : List Value) (b : Bk) (hB : BkAt w cs b) (hR : w.cell? ⟨0, 0, none⟩ = some (errV aR)) (h1 : 0 < w.heap.size) :
    Calls Tryz.prog 72 #[.agg cs.toArray] w fun e w' => Below w.heap.size w w' ∧ ((encB b = none ∧ e = .returned (.tuple #[.slice none 0 0, errV aR])) ∨ ∃ bs v, encB b = some bs ∧ e = .returned (.tuple #[v, .nilIface]) ∧ Bs w' v bs) := by
  have b0 : Below w.heap.size w (w.alloc (.cells cs.toArray 32)) := (Below.refl _ _).alloc (Nat.le_refl _) _
  have HW := Lib.hid (written_any (w.alloc (.cells cs.toArray 32)) w.heap.size aR cs b (heap_alloc_new w _) (hB.below b0) (cell_on b0 hR) (by first | omega | (simp; done) | (simp; omega)))
  have B0 := Lib.hid b0
  clear b0 hB hR
  go_enter Tryz.func72, Tryz.ntmps72
  go_wp2_with fail
  refine HW.out.mono ?_
  rintro e4 w4 ⟨hb4, (⟨hn, rfl⟩ | ⟨bs, v, hs, rfl, hv⟩)⟩
  · have B4 := Lib.hid (B0.out.trans (hb4.mono B0.out.size))
    have HN := Lib.hid hn
    clear hb4 hn
    go_wp2_with fail
    go_ret2
    exact ⟨B4.out, .inl ⟨HN.out, by first | rfl | trivial⟩⟩
  · have B4 := Lib.hid (B0.out.trans (hb4.mono B0.out.size))
    have HS := Lib.hid hs
    obtain ⟨A5, c5, rfl⟩ := hv.form
    have HV := Lib.hid hv
    clear hb4 hs hv
    go_wp2_with fail
    go_ret2
    exact ⟨B4.out, .inr ⟨bs, _, HS.out, by first | rfl | trivial, HV.out⟩⟩

set_option maxHeartbeats 8000000 in
set_option maxRecDepth 100000 in
theorem id_any (w : World) (aR : Addr) (cs : List Value) (b : Bk) (hB : BkAt w cs b) (hR : w.cell? ⟨0, 0, none⟩ = some (errV aR)) (hk : w.rangeAt 18 0 (u32s kk)) (h18 : 18 < w.heap.size) :
    Calls Tryz.prog 40 #[.agg cs.toArray] w fun e w' => e = .returned (.tuple #[.agg (u8s (idB b)).toArray, idE b aR]) ∧ Below w.heap.size w w' := by
  have hl39 : cs.length = 39 := by
    obtain ⟨⟨qs, A, c, B, d, rfl, hq, _⟩, hpar, _⟩ := hB
    obtain ⟨⟨A', c', rfl, _⟩, hblk⟩ := hq
    exact bk_len _ _ _ _ _ _ hpar.1 (qc_len _ _ _ _ hblk.1)
  have b0 : Below w.heap.size w ((w.alloc (.cells cs.toArray 32)).alloc (.cells (Array.replicate 16 (.int .u8 0)) 24)) := ((Below.refl _ _).alloc (Nat.le_refl _) _).alloc (by simp) _
  have HL := Lib.hid hB.lim
  have HBK := Lib.hid (hB.below b0)
  have HR := Lib.hid (cell_on b0 hR)
  have HK := Lib.hid hk
  have B0 := Lib.hid b0
  have RB := Lib.hid (blk_range (heap_alloc2_old w (.cells cs.toArray 32) (.cells (Array.replicate 16 (.int .u8 0)) 24)))
  have HH := Lib.hid (has_new2 w (.cells cs.toArray 32) (Array.replicate 16 (.int .u8 0)) 24 16 (by simp))
  clear b0 hB hR hk
  have hsz : ∀ V : List Int, V.length = 16 → (Tryz.prog.info? 24).map (·.size) = some (u8s V).length := fun V h => by rw [u8s_len', h]; exact Tryz.size24
  go_enter Tryz.func40, Tryz.ntmps40
  go_wp2_with (refine wpList_load_g rfl 32 (.tmp 1) rfl w.heap.size 0 rfl cs _ RB.out Tryz.underlying32 rfl (by rw [hl39]; exact Tryz.size32) ?_)
  refine (bytesB_any _ aR cs b HBK.out HR.out (by have := B0.out.size; omega)).mono ?_
  rintro e4 w4 ⟨hb4, (⟨hn, rfl⟩ | ⟨bs, v, hs, rfl, hv⟩)⟩
  · have B4 := Lib.hid (B0.out.trans (hb4.mono B0.out.size))
    have H4 := Lib.hid (HH.out.below hb4)
    have hi : idB b = zero16 := by unfold idB; rw [hn]
    have he : idE b aR = errV aR := by unfold idE; rw [hn]
    have HI := Lib.hid hi
    have HE := Lib.hid he
    clear hb4 hn hi he
    go_wp2_with (refine wpList_store_row rfl 24 (.tmp 2) (.tmp 13) rfl (w.heap.size + 1) rfl (u8s zero16) rfl 24 H4.out (hsz zero16 zero16_len) (one_u8s _) ?_; intro w5 hp5; have K5 := Lib.hid hp5.blk; have B5 := Lib.hid (hp5.below B4.out (by omega)); clear hp5)
    refine bodyPost_ret (v := .tuple #[.agg (u8s zero16).toArray, errV aR]) (results_cell_row_tmp rfl _ _ (w.heap.size + 1) 24 _ (0, 0) _ rfl K5.out Tryz.underlying24 rfl (by simpa using hsz zero16 zero16_len) rfl) rfl ⟨by rw [HI.out, HE.out], B5.out⟩
  · have B4 := Lib.hid (B0.out.trans (hb4.mono B0.out.size))
    have H4 := Lib.hid (HH.out.below hb4)
    have hi : idB b = short 6 [bs] := by unfold idB; rw [hs]
    have he : idE b aR = .nilIface := by unfold idE; rw [hs]
    have hbl : bs.length ≤ 10000 := HL.out bs hs
    have HI := Lib.hid hi
    have HE := Lib.hid he
    obtain ⟨A5, c5, rfl⟩ := hv.form
    have L5 : Below w4.heap.size w4 (w4.alloc (.cells #[.slice A5 bs.length c5] 137)) := (Below.refl _ _).alloc (Nat.le_refl _) _
    have HS := Lib.hid (Bss.new w4 [.slice A5 bs.length c5] [bs] rfl (fun i hi => by
      have : i = 0 := by simp at hi; omega
      subst this
      exact hv) (by simp))
    have B5 := Lib.hid (B4.out.trans (L5.mono B4.out.size))
    have H5 := Lib.hid (H4.out.below L5)
    clear hb4 hs hv hi he L5
    go_wp2_with fail
    refine (of_any 6 [bs] _ 1 1 _ HS.out rfl (by simp [framed, be4]; omega) (range_below HK.out B5.out) (Nat.lt_of_lt_of_le h18 B5.out.size)).mono ?_
    rintro _ w6 ⟨rfl, hb6⟩
    have B6 := Lib.hid (B5.out.trans (hb6.mono B5.out.size))
    have H6 := Lib.hid (H5.out.below hb6)
    have hsl := short_len 6 [bs]
    obtain ⟨SH, hSH⟩ : ∃ x, x = short 6 [bs] := ⟨_, rfl⟩
    rw [← hSH] at hsl ⊢
    have HSH := Lib.hid hSH
    clear hSH hb6
    go_wp2_with (refine wpList_store_row rfl 24 (.tmp 2) (.tmp 17) rfl (w.heap.size + 1) rfl (u8s SH) rfl 24 (by rw [u8s_len', hsl]; exact H6.out) (hsz SH hsl) (one_u8s _) ?_; intro w7 hp7; have K7 := Lib.hid hp7.blk; have B7 := Lib.hid (hp7.below B6.out (by omega)); clear hp7)
    refine bodyPost_ret (v := .tuple #[.agg (u8s SH).toArray, .nilIface]) (results_cell_row_tmp rfl _ _ (w.heap.size + 1) 24 _ (0, 0) _ rfl K7.out Tryz.underlying24 rfl (by simpa using hsz SH hsl) rfl) rfl ⟨by rw [HI.out, HE.out, HSH.out], B7.out⟩
end Go.Proofs.YtniknhhejlgdfaaGreatDoor
/- slices.Clone at texts; the iterator over the pool. -/
namespace Go.Proofs.YtniknhhejlgdfaaGreatDoor
open Go.RowKit Go.Shelf
attribute [local go_sem] Oper.semAt_some

theorem OwnO.same {w w' : World} {base e : Nat} {v : Value} {xs : List Value} (h : OwnO w base e v xs) (hs : ∀ k, v.ownBlock = some k → k < w.heap.size → w'.heap[k]? = w.heap[k]?) : OwnO w' base e v xs := by
  rcases h with h | ⟨g, off, cap, cur, fr, rfl, hb, hgg, rest⟩
  · exact .inl h
  · exact .inr ⟨g, off, cap, cur, fr, rfl, hb, (hs g rfl (blk_lt hgg)).trans hgg, rest⟩
end Go.Proofs.YtniknhhejlgdfaaGreatDoor
/- The reference's tally: Enough, Put. -/
namespace Go.Proofs.YtniknhhejlgdfaaGreatDoor
section
open Go.RowKit Go.Shelf
attribute [local go_sem] Oper.semAt_some

section
variable {P : Program} {ops : Array Oper} {E Z : World → World → Prop} {mu : Nat} {R : Nat → World → Value → Prop} {w0 : World}
theorem step4o {f : (Nat → Value) → Act} {i : Nat} {o : Oper} (hg : o.guard = none) (hi : i ≠ mu) (h : ∀ vs w, E w0 w → Deps R vs w o.after.toList → Gives P o (f vs).eval w (fun v w' => (E w w' ∧ Z w w') ∧ ∀ w'', E w' w'' → R i w'' v)) : StepOk4 P ops E Z mu R w0 f i o := by
  intro vs w h1 _ h3
  rw [if_pos (by simp [Region.wanted, hg])]
  exact (h vs w h1 h3).mono4 fun v w' hh => ⟨hh.1.1, fun _ => hh.1.2, fun w'' h4 => hh.2 w'' (by rwa [if_neg hi] at h4)⟩
theorem step4m {f : (Nat → Value) → Act} {o : Oper} (hg : o.guard = none) (h : ∀ vs w, E w0 w → Z w0 w → Deps R vs w o.after.toList → Gives P o (f vs).eval w (fun v w' => E w w' ∧ ∀ w'', Z w' w'' → R mu w'' v)) : StepOk4 P ops E Z mu R w0 f mu o := by
  intro vs w h1 h2 h3
  rw [if_pos (by simp [Region.wanted, hg])]
  exact (h vs w h1 (h2 rfl) h3).mono4 fun v w' hh => ⟨hh.1, fun hn => absurd rfl hn, fun w'' h4 => hh.2 w'' (by rwa [if_pos rfl] at h4)⟩
end
theorem but_drewT {S : Nat → Prop} {w W : World} (h : But S w.drew W) : But S w W := ⟨h.os, h.tape, h.output, h.size, h.same⟩

end
section
open Go.RowKit Go.Shelf
attribute [local go_sem] Oper.semAt_some

end
end Go.Proofs.YtniknhhejlgdfaaGreatDoor
/- The document's writer in memory. -/
namespace Go.Proofs.YtniknhhejlgdfaaGreatDoor
open Go.RowKit

/-- A writer of what was written so far in block q; r: the block of its bytes. -/
structure OtAt (base : Nat) (w : World) (q : Nat) (s : WS) (r : Option Nat) : Prop where
  low : base ≤ q
  at_ : ∃ ev sv bs, w.heap[q]? = some (.cells #[sv, ev] 167 (0, 0)) ∧ OwnO w base 5 sv (u8s bs) ∧ sv.ownBlock = r ∧ u8s_ok bs ∧ bs.length ≤ maxW ∧ ((s = some bs ∧ ev = .int .i64 0) ∨ (s = none ∧ ev = .int .i64 1))
  ne : r ≠ some q
theorem OtAt.lt {base : Nat} {w : World} {q : Nat} {s : WS} {r : Option Nat} (h : OtAt base w q s r) : q < w.heap.size := by
  obtain ⟨_, _, _, hb, _⟩ := h.at_
  exact blk_lt hb
theorem OtAt.row {base : Nat} {w : World} {q : Nat} {s : WS} {r : Option Nat} (h : OtAt base w q s r) : ∀ k, r = some k → base ≤ k ∧ k < w.heap.size := by
  obtain ⟨_, _, _, _, ho, hr, _⟩ := h.at_
  exact fun k hk => ho.lt k (hr.trans hk)
theorem OtAt.same {base : Nat} {w w' : World} {q : Nat} {s : WS} {r : Option Nat} (h : OtAt base w q s r) (hg : w.grownBy w' none) : OtAt base w' q s r := by
  obtain ⟨ev, sv, bs, hb, ho, hr, h1, h2, h3⟩ := h.at_
  exact ⟨h.low, ⟨ev, sv, bs, (hg.block q (blk_lt hb) (by simp)).trans hb, ho.kept hg (by simp), hr, h1, h2, h3⟩, h.ne⟩
theorem OtAt.below {base : Nat} {w w' : World} {q : Nat} {s : WS} {r : Option Nat} (h : OtAt base w q s r) (hb : Below w.heap.size w w') : OtAt base w' q s r :=
  h.same ⟨hb.os, hb.tape, hb.output, hb.size, fun k hk _ => hb.block k hk⟩

/-- What a step of a writer leaves. -/
structure OStep (base q : Nat) (s' : WS) (r : Option Nat) (w w' : World) : Prop where
  at_ : ∃ r', OtAt base w' q s' r' ∧ (r' = r ∨ ∃ b, r' = some b ∧ w.heap.size ≤ b)
  only : Only q r w w'
theorem OStep.refl {base q : Nat} {s : WS} {r : Option Nat} {w : World} (h : OtAt base w q s r) : OStep base q s r w w := ⟨⟨r, h, .inl rfl⟩, Only.refl _ _ _⟩
theorem OStep.of_below {base q : Nat} {s : WS} {r : Option Nat} {w w' : World} (h : OtAt base w q s r) (hb : Below w.heap.size w w') : OStep base q s r w w' := ⟨⟨r, h.below hb, .inl rfl⟩, Only.of_below hb⟩
theorem OStep.then_ {base q : Nat} {s2 : WS} {r r1 : Option Nat} {w w1 w2 : World} (h : Only q r w w1) (hr : r1 = r ∨ ∃ b, r1 = some b ∧ w.heap.size ≤ b) (h2 : OStep base q s2 r1 w1 w2) : OStep base q s2 r w w2 := by
  obtain ⟨⟨r2, a2, p2⟩, o2⟩ := h2
  refine ⟨⟨r2, a2, ?_⟩, h.trans o2 hr⟩
  rcases p2 with rfl | ⟨b, rfl, hb⟩
  · exact hr
  · exact .inr ⟨b, rfl, Nat.le_trans h.size hb⟩
/-- What lay before the writer stays. -/
theorem OStep.below {base q : Nat} {s s' : WS} {r : Option Nat} {w w' : World} (h : OStep base q s' r w w') (h0 : OtAt base w q s r) : Below base w w' :=
  h.only.below h0.low (fun k hk => (h0.row k hk).1) (by have := h0.low; have := h0.lt; omega)
/-- Blocks that the writer does not own stay. -/
theorem OStep.blk {base q b : Nat} {s' : WS} {r : Option Nat} {w w' : World} {o : Obj} (h : OStep base q s' r w w') (hb : w.heap[b]? = some o) (h1 : b ≠ q) (h2 : some b ≠ r) : w'.heap[b]? = some o := h.only.blk hb h1 h2

theorem OStep.next {base q : Nat} {s : WS} {r : Option Nat} {w w1 : World} (h : OStep base q s r w w1) : ∃ r1, OtAt base w1 q s r1 ∧ ∀ s' w2, OStep base q s' r1 w1 w2 → OStep base q s' r w w2 := by
  obtain ⟨r1, a, p⟩ := h.at_
  exact ⟨r1, a, fun s' w2 h2 => OStep.then_ h.only p h2⟩
/-- A block that was made behind the writer's bytes. -/
theorem OStep.keep {base q : Nat} {s s0 : WS} {r : Option Nat} {w w1 : World} {b : Nat} {o : Obj} {w00 : World} (h : OStep base q s r w w1) (h0 : OtAt base w00 q s0 r) (hb : w.heap[b]? = some o) (hge : w00.heap.size ≤ b) : w1.heap[b]? = some o :=
  h.blk hb (by have := h0.lt; omega) (fun e => by have := (h0.row _ e.symm).2; omega)

theorem gives_appendO {o : Oper} {ρ : Operand → Value} {w : World} {S : Value → World → Prop} (s x : Operand) (ho : o.op = .call { callee := .builtin .append, args := #[s, x], argTypes := #[137, 137] })
    (base : Nat) (v : Value) (xs : List Value) (hs : ρ s = v) (hown : OwnO w base 5 v xs) (xv : Value) (n : Nat) (news : List Value) (hx : ρ x = xv) (hsrc : Src Tryz.prog 1 137 xv n news w) (hbytes : (xs.length + n) * 1 ≤ 140737488355328) (hbase : base ≤ w.heap.size)
    (h : ∀ v' w', OwnO w' base 5 v' (xs ++ news) → w.grownBy w' v.ownBlock → (v'.ownBlock = v.ownBlock ∨ v'.ownBlock = some w.heap.size) → S v' w') : Gives Tryz.prog o ρ w S := by
  obtain ⟨v', w', hr, h1, h2, h3⟩ := run_append_off (P := Tryz.prog) base 137 137 o.type 5 (.int .u8 0) 1 Tryz.underlying137 Tryz.info5 rfl (by omega) v xs hown xv n news hsrc hbytes hbase
  refine gives_val v' (w' := w') ?_ (h v' w' h1 h2 h3)
  unfold execOp
  simp only [ho, resolve, invoke, builtin, Sem.run_bind, Sem.run_pure, Result.andThen_ok, List.map_toArray, List.map_cons, List.map_nil, hs, hx, hr]
end Go.Proofs.YtniknhhejlgdfaaGreatDoor
/- Numbers in the document's way: Fits and Number. -/
namespace Go.Proofs.YtniknhhejlgdfaaGreatDoor
open Go.RowKit

theorem quo256 (n : Int) (i : Nat) : n / (256 : Int) ^ i / 256 = n / (256 : Int) ^ (i + 1) := by
  rw [Int.pow_succ, Int.ediv_ediv_of_nonneg (Int.pow_nonneg (by omega))]
def fitB (n : Int) (k : Nat) : Bool := decide (0 ≤ n ∧ n < (256 : Int) ^ k)
theorem fits_iff (n : Int) (k : Nat) (h : 0 ≤ n) : n / (256 : Int) ^ k = 0 ↔ n < (256 : Int) ^ k := by
  have hp : (0 : Int) < (256 : Int) ^ k := Int.pow_pos (by omega)
  constructor
  · intro h0
    by_cases h1 : n < (256 : Int) ^ k
    · exact h1
    · have := Int.le_ediv_of_mul_le hp (show (1 : Int) * (256 : Int) ^ k ≤ n by omega)
      omega
  · intro h1
    exact Int.ediv_eq_zero_of_lt h h1
set_option maxHeartbeats 4000000 in
set_option maxRecDepth 100000 in
theorem fits_any (n : Int) (k : Nat) (hk : k = 1 ∨ k = 2 ∨ k = 4 ∨ k = 6) (hn : -9223372036854775808 ≤ n ∧ n ≤ 9223372036854775807) (w : World) :
    Calls Tryz.prog 144 #[.int .i64 n, .int .i64 k] w fun e w' => e = .returned (.bool (fitB n k)) ∧ w' = w := by
  have k1 : ¬ (k : Int) < 1 := by omega
  have k2 : ¬ (8 : Int) < k := by omega
  by_cases hneg : n < 0
  · have HD : Hid (fitB n k = false) := Lib.hid (decide_eq_false (by omega))
    go_enter Tryz.func144, Tryz.ntmps144
    go_wp2
    go_ret
    exact ⟨by rw [HD.out]; rfl, rfl⟩
  have h0 : 0 ≤ n := by omega
  have HD : Hid (fitB n k = decide (n / (256 : Int) ^ k = 0)) := Lib.hid (by unfold fitB; rw [decide_eq_decide, fits_iff n k h0]; exact ⟨fun h => h.2, fun h => ⟨h0, h⟩⟩)
  have HN := Lib.hid hn
  clear hk hn
  go_enter Tryz.func144, Tryz.ntmps144
  go_wp2
  go_loopw [0, 5] (fun x j wr => ∃ (i : Nat) (X : Int), i ≤ k ∧ x = .int .i64 X ∧ j = .int .i64 i ∧ Hid (X = n / (256 : Int) ^ i) ∧ 0 ≤ X ∧ w = wr)
    (fun _ j _ => k - (intOf j).toNat)
  case atStart => exact ⟨0, n, by omega, rfl, rfl, Lib.hid (by simp), h0, rfl⟩
  case round =>
    obtain ⟨i, X, hi, rfl, rfl, hX, hX0, rfl⟩ := hrel
    by_cases hlt : i < k
    · have hil : (i : Int) < k := by omega
      have htd : X.tdiv 256 = X / 256 := Int.tdiv_eq_ediv_of_nonneg hX0
      have hXle : X ≤ n := by rw [hX.out]; exact Int.ediv_le_self _ h0
      have hXb : X / 256 ≤ X := by omega
      have hwr : IntKind.i64.wrap (X / 256) = X / 256 := by have := HN.out; rw [IntKind.wrap_i64]; omega
      have HX2 := Lib.hid (show X / 256 = n / (256 : Int) ^ (i + 1) by rw [hX.out, quo256])
      obtain ⟨Y, hY⟩ : ∃ Y, X / 256 = Y := ⟨_, rfl⟩
      have hY0 : 0 ≤ Y := by omega
      rw [hY] at htd hwr HX2 hXb
      clear hXle
      have HH := Lib.hid hXb
      clear hXb
      go_wp2
      go_roundw
      case rel => exact ⟨i + 1, Y, by omega, by go_num, by go_num, HX2, hY0, trivial⟩
      case measure => simp [intOf]; omega
    · obtain rfl : i = k := by omega
      rw [← hX.out] at HD
      go_wp2
      go_ret
      exact ⟨by rw [HD.out]; rfl, rfl⟩
end Go.Proofs.YtniknhhejlgdfaaGreatDoor
