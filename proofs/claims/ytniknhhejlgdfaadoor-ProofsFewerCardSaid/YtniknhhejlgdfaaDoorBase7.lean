/- Lemmas that laws of this seat rest on, part 7; each says its own conditions: KeyVer, Open, Kit, Sents, KitN, KitB, KitD, KitS, VOps, VRely, VRelyMore, VVal, VSeq, VIns, VFind, VCheck, VTot. -/
import Derived.ProofKit
import Derived.OpenShut
import Derived.Test.YtniknhhejlgdfaaDoorTie
import Derived.Test.YtniknhhejlgdfaaDoorCards
import Derived.LaidMore
import Derived.Stop.Joined
import Derived.Lib.LaidTab
import Derived.Lib.LaidU8
import Derived.SevenTiedAt
import Derived.Stop.LaidTwo
import Derived.Stop.LaidErr
import Derived.Deep.Strs
import Derived.WalkKit
import Derived.WalkSpells
import Derived.Maps.AppendAt
import Derived.Deep.MidRow
import Derived.Deep.AppendSrc
import Derived.Lib.Hide
import Derived.Orders
import Derived.Test.YtniknhhejlgdfaaDoorProg
import Derived.RangeFuncNested
import Derived.RangeFuncBound
import Derived.RangeFuncCalls
import Derived.RangeFuncLeaves
import Derived.Shelf.Abstract
import Derived.Shelf.RegionOpen
import Derived.OwnWalkIn
import Derived.TacticsInMore
import Derived.LoopNIn
import Derived.LoopIn
import Derived.Test.YtniknhhejlgdfaaDoorBase1
import Derived.Test.YtniknhhejlgdfaaDoorBase2
import Derived.Test.YtniknhhejlgdfaaDoorBase5
import Derived.Test.YtniknhhejlgdfaaDoorBase6
/- What keys.Verify does. -/
namespace Go.Proofs.YtniknhhejlgdfaaDoor
open Go.RowKit

/-- Whether a signature is right. -/
def rightC (rt m : List Int) (l : Int) (ds ps : List (List Int)) : Bool :=
  decide ((0 ≤ l ∧ l < 32) ∧ ds.length = 68 ∧ ps.length = 5 ∧ climbAt (publicC l (recE l ds m 68)) l.toNat ps 5 = rt)
theorem run_eql43 (a b : List Int) (ha : a.length = 16) (hb : b.length = 16) (W : World) : (binOp .eql 24 (.agg (u8s a).toArray) (.agg (u8s b).toArray)).run Tryd.prog W = .ok (.bool (decide (a = b))) W :=
  run_eql_bytes 24 5 16 a b Tryd.underlying24 Tryd.underlying5 (by kernel_rfl) ha hb

set_option maxHeartbeats 8000000 in
set_option maxRecDepth 100000 in
theorem verify_any (rt m : List Int) (hrl : rt.length = 16) (hlm : m.length = 16) (hm : u8s_ok m) (l : Int) (ds ps : List (List Int)) (A B : Option Addr) (n c k d : Nat) (aR aF : Addr) (w : World)
    (hx : Dgs w (.slice A n c) ds) (hp : Dgs w (.slice B k d) ps) (hn : n = ds.length ∧ k = ps.length) (hr : w.cell? ⟨1, 0, none⟩ = some (errV aR)) (hf : w.cell? ⟨4, 0, none⟩ = some (errV aF))
    (hk : w.rangeAt 18 0 (u32s kk)) (h18 : 18 < w.heap.size) :
    Calls Tryd.prog 66 #[.agg (u8s rt).toArray, .agg (u8s m).toArray, sigV l (.slice A n c) (.slice B k d)] w fun e w' => e = .returned (.bool (rightC rt m l ds ps)) ∧ Below w.heap.size w w' := by
  have hi43 : ∀ V : List Int, V.length = 16 → (Tryd.prog.info? 24).map (·.size) = some (u8s V).length := fun V h => by rw [u8s_len', h]; exact Tryd.size24
  have b0 : Below w.heap.size w (((w.alloc (.cells (u8s rt).toArray 24)).alloc (.cells (u8s m).toArray 24)).alloc (.cells #[.int .i64 l, .slice A n c, .slice B k d] 66)) := by exact (((Below.refl _ _).alloc (Nat.le_refl _) _).alloc (by simp) _).alloc (by simp; omega) _
  have r0 : (((w.alloc (.cells (u8s rt).toArray 24)).alloc (.cells (u8s m).toArray 24)).alloc (.cells #[.int .i64 l, .slice A n c, .slice B k d] 66)).rangeAt w.heap.size 0 (u8s rt) := by exact World.rangeAt_alloc (World.rangeAt_alloc (range_new w (u8s rt) 24) _) _
  have m0 : (((w.alloc (.cells (u8s rt).toArray 24)).alloc (.cells (u8s m).toArray 24)).alloc (.cells #[.int .i64 l, .slice A n c, .slice B k d] 66)).rangeAt (w.heap.size + 1) 0 (u8s m) := by
    have := range_new (w.alloc (.cells (u8s rt).toArray 24)) (u8s m) 24
    rw [World.size_alloc] at this
    exact World.rangeAt_alloc this _
  have s0 : (((w.alloc (.cells (u8s rt).toArray 24)).alloc (.cells (u8s m).toArray 24)).alloc (.cells #[.int .i64 l, .slice A n c, .slice B k d] 66)).heap[w.heap.size + 2]? = some (.cells #[.int .i64 l, .slice A n c, .slice B k d] 66 (0, 0)) := by
    have := heap_alloc_new ((w.alloc (.cells (u8s rt).toArray 24)).alloc (.cells (u8s m).toArray 24)) (.cells #[.int .i64 l, .slice A n c, .slice B k d] 66)
    rwa [World.size_alloc, World.size_alloc] at this
  have B0 := Lib.hid b0
  have R0 := Lib.hid r0
  have M0 := Lib.hid m0
  have S0 := Lib.hid s0
  have X0 := Lib.hid (hx.below b0)
  have P0 := Lib.hid (hp.below b0)
  have CR := Lib.hid (cell_on b0 hr)
  have CF := Lib.hid (cell_on b0 hf)
  have HK := Lib.hid hk
  have HM := Lib.hid hm
  have HLM := Lib.hid hlm
  have HRL := Lib.hid hrl
  have HN := Lib.hid hn
  have c0 : (((w.alloc (.cells (u8s rt).toArray 24)).alloc (.cells (u8s m).toArray 24)).alloc (.cells #[.int .i64 l, .slice A n c, .slice B k d] 66)).cell? ⟨w.heap.size + 2, 0, none⟩ = some (.int .i64 l) := by rw [cell_of_row _ _ _ _ _ _ s0]; rfl
  have c1 : (((w.alloc (.cells (u8s rt).toArray 24)).alloc (.cells (u8s m).toArray 24)).alloc (.cells #[.int .i64 l, .slice A n c, .slice B k d] 66)).cell? ⟨w.heap.size + 2, 1, none⟩ = some (.slice A n c) := by rw [cell_of_row _ _ _ _ _ _ s0]; rfl
  clear b0 r0 m0 s0 hx hp hr hf hk hm hlm hrl hn
  go_enter Tryd.func66, Tryd.ntmps66
  go_wp2_with (refine wpList_load_g rfl 24 (.tmp 4) rfl (w.heap.size + 1) 0 rfl (u8s m) _ M0.out Tryd.underlying24 rfl (hi43 m HLM.out) ?_)
  change Calls _ _ _ (((w.alloc (.cells (u8s rt).toArray 24)).alloc (.cells (u8s m).toArray 24)).alloc (.cells #[.int .i64 l, .slice A n c, .slice B k d] 66)) _
  generalize (((w.alloc (.cells (u8s rt).toArray 24)).alloc (.cells (u8s m).toArray 24)).alloc (.cells #[.int .i64 l, .slice A n c, .slice B k d] 66)) = W0 at *
  clear c0 c1
  by_cases hin : 0 ≤ l ∧ l < 32
  case neg =>
    refine (recover_range l A n c m aR W0 hin CR.out).mono ?_
    rintro e w2 ⟨rfl, hb2⟩
    have B2 := Lib.hid (B0.out.trans (hb2.mono B0.out.size))
    have HIN := Lib.hid hin
    clear hb2 hin
    go_wp2_with (refine wpList_store_row rfl 24 (.tmp 7) (.tmp 17) rfl w2.heap.size rfl (u8s zero16) rfl 24 (has_new w2 (Array.replicate 16 (Value.int .u8 0)) 24 (u8s zero16).length (by rw [u8s_len', zero16_len]; rfl)) (hi43 zero16 zero16_len) (one_u8s _) ?_; intro w3 hp3; have L3 : Below w2.heap.size w2 w3 := (hp3.below ((Below.refl _ _).alloc (Nat.le_refl _) _) (Nat.le_refl _)); have T3 := Lib.hid (blk_range hp3.blk); have B3 := Lib.hid (B2.out.trans (L3.mono B2.out.size)); clear hp3)
    go_ret
    exact ⟨by unfold rightC; rw [decide_eq_false fun h => HIN.out h.1]; rfl, B3.out⟩
  by_cases h68 : n = 68
  case neg =>
    refine (recover_form l A n c m aF W0 hin.1 hin.2 h68 CF.out).mono ?_
    rintro e w2 ⟨rfl, hb2⟩
    have B2 := Lib.hid (B0.out.trans (hb2.mono B0.out.size))
    have H68 := Lib.hid h68
    clear hb2 hin h68
    go_wp2_with (refine wpList_store_row rfl 24 (.tmp 7) (.tmp 17) rfl w2.heap.size rfl (u8s zero16) rfl 24 (has_new w2 (Array.replicate 16 (Value.int .u8 0)) 24 (u8s zero16).length (by rw [u8s_len', zero16_len]; rfl)) (hi43 zero16 zero16_len) (one_u8s _) ?_; intro w3 hp3; have L3 : Below w2.heap.size w2 w3 := (hp3.below ((Below.refl _ _).alloc (Nat.le_refl _) _) (Nat.le_refl _)); have T3 := Lib.hid (blk_range hp3.blk); have B3 := Lib.hid (B2.out.trans (L3.mono B2.out.size)); clear hp3)
    go_ret
    exact ⟨by unfold rightC; rw [decide_eq_false fun h => H68.out (HN.out.1.trans h.2.1)]; rfl, B3.out⟩
  obtain ⟨i, rfl⟩ : ∃ i : Nat, l = i := ⟨l.toNat, by omega⟩
  have hi32 : i < 32 := by omega
  refine (recover_ok i A n c ds m W0 hin.1 hin.2 (fun W hW => X0.out.below hW) HN.out.1 h68 HLM.out HM.out (range_below HK.out B0.out) (Nat.lt_of_lt_of_le h18 B0.out.size)).mono ?_
  rintro e w2 ⟨rfl, hb2⟩
  obtain ⟨PD, hPD⟩ : ∃ p, p = publicC (i : Int) (recE (i : Int) ds m 68) := ⟨_, rfl⟩
  have hpl : PD.length = 16 ∧ u8s_ok PD := by rw [hPD]; exact ⟨short_len _ _, short_ok _ _⟩
  have PDL := Lib.hid hpl
  have HPD := Lib.hid hPD
  rw [← hPD]
  have B2 := Lib.hid (B0.out.trans (hb2.mono B0.out.size))
  have S2 := Lib.hid (blk_below S0.out hb2)
  have R2 := Lib.hid (range_below R0.out hb2)
  have P2 := Lib.hid (P0.out.below hb2)
  have CF2 := Lib.hid (cell_on hb2 CF.out)
  have H68 := Lib.hid h68
  clear hb2 hPD hpl hin h68
  have hil : (i : Int) < 32 := by omega
  go_wp2_with (first | (refine wpList_store_row rfl 24 (.tmp 7) (.tmp 17) rfl w2.heap.size rfl (u8s PD) rfl 24 (has_new w2 (Array.replicate 16 (Value.int .u8 0)) 24 (u8s PD).length (by rw [u8s_len', PDL.out.1]; rfl)) (hi43 PD PDL.out.1) (one_u8s _) ?_; intro w3 hp3; have L3 : Below w2.heap.size w2 w3 := (hp3.below ((Below.refl _ _).alloc (Nat.le_refl _) _) (Nat.le_refl _)); have T3 := Lib.hid (blk_range hp3.blk); have B3 := Lib.hid (B2.out.trans (L3.mono B2.out.size)); clear hp3; have S3 := Lib.hid (blk_below S2.out L3); have R3 := Lib.hid (range_below R2.out L3); have P3 := Lib.hid (P2.out.below L3); have CF3 := Lib.hid (cell_on L3 CF2.out); have c0 : w3.cell? ⟨w.heap.size + 2, 0, none⟩ = some (.int .i64 (i : Int)) := (by rw [cell_of_row _ _ _ _ _ _ S3.out]; rfl); have c2 : w3.cell? ⟨w.heap.size + 2, 2, none⟩ = some (.slice B k d) := (by rw [cell_of_row _ _ _ _ _ _ S3.out]; rfl)) | (refine wpList_load_g rfl 24 (.tmp 7) rfl w2.heap.size 0 rfl (u8s PD) _ T3.out Tryd.underlying24 rfl (hi43 PD PDL.out.1) ?_))
  clear c0 c2
  by_cases h5 : k = 5
  case neg =>
    refine (climb_form PD i B k d aF w3 (by omega) hil h5 CF3.out).mono ?_
    rintro e w4 ⟨rfl, hb4⟩
    have B4 := Lib.hid (B3.out.trans (hb4.mono B3.out.size))
    have H5 := Lib.hid h5
    clear hb4 h5
    go_wp2_with (refine wpList_store_row rfl 24 (.tmp 9) (.tmp 28) rfl w4.heap.size rfl (u8s zero16) rfl 24 (has_new w4 (Array.replicate 16 (Value.int .u8 0)) 24 (u8s zero16).length (by rw [u8s_len', zero16_len]; rfl)) (hi43 zero16 zero16_len) (one_u8s _) ?_; intro w5 hp5; have L5 : Below w4.heap.size w4 w5 := (hp5.below ((Below.refl _ _).alloc (Nat.le_refl _) _) (Nat.le_refl _)); have T5 := Lib.hid (blk_range hp5.blk); have B5 := Lib.hid (B4.out.trans (L5.mono B4.out.size)); clear hp5)
    go_ret
    exact ⟨by unfold rightC; rw [decide_eq_false fun h => H5.out (HN.out.2.trans h.2.2.1)]; rfl, B5.out⟩
  refine (climb_in PD PDL.out.1 PDL.out.2 i hi32 ps B k d w3 P3.out HN.out.2 h5 (range_below HK.out B3.out) (Nat.lt_of_lt_of_le h18 B3.out.size)).mono ?_
  rintro e w4 ⟨rfl, hb4⟩
  have hcg := climb_good PD i ps PDL.out.1 PDL.out.2 k
  obtain ⟨TP, hTP⟩ : ∃ t, t = climbAt PD i ps k := ⟨_, rfl⟩
  rw [← hTP] at hcg ⊢
  have HTP := Lib.hid hTP
  have TPL := Lib.hid hcg.1
  have H5 := Lib.hid h5
  have B4 := Lib.hid (B3.out.trans (hb4.mono B3.out.size))
  have R4 := Lib.hid (range_below R3.out hb4)
  clear hb4 hcg hTP h5
  have hfin : rightC rt m i ds ps = decide (TP = rt) := by
    unfold rightC
    rw [decide_eq_decide]
    rw [HTP.out, H5.out, HPD.out]
    constructor
    · exact fun h => h.2.2.2
    · exact fun h => ⟨⟨by omega, hil⟩, by rw [← HN.out.1, H68.out], by rw [← HN.out.2, H5.out], h⟩
  have HF := Lib.hid hfin
  have hrun := run_eql43 TP rt TPL.out HRL.out
  clear hfin
  go_wp2_with (first | (refine wpList_store_row rfl 24 (.tmp 9) (.tmp 28) rfl w4.heap.size rfl (u8s TP) rfl 24 (has_new w4 (Array.replicate 16 (Value.int .u8 0)) 24 (u8s TP).length (by rw [u8s_len', TPL.out]; rfl)) (hi43 TP TPL.out) (one_u8s _) ?_; intro w5 hp5; have L5 : Below w4.heap.size w4 w5 := (hp5.below ((Below.refl _ _).alloc (Nat.le_refl _) _) (Nat.le_refl _)); have T5 := Lib.hid (blk_range hp5.blk); have B5 := Lib.hid (B4.out.trans (L5.mono B4.out.size)); clear hp5; have R5 := Lib.hid (range_below R4.out L5)) | (refine wpList_load_g rfl 24 (.tmp 9) rfl w4.heap.size 0 rfl (u8s TP) _ T5.out Tryd.underlying24 rfl (hi43 TP TPL.out) ?_) | (refine wpList_load_g rfl 24 (.tmp 3) rfl w.heap.size 0 rfl (u8s rt) _ R5.out Tryd.underlying24 rfl (hi43 rt HRL.out) ?_))
  go_ret
  exact ⟨by rw [HF.out]; rfl, B5.out⟩
end Go.Proofs.YtniknhhejlgdfaaDoor
/- Arguments that came in, opened. -/
namespace Go.Proofs.YtniknhhejlgdfaaDoor
open Go.ChangeShapes Go.WideShapes Go.ChangeAt Go.RowKit

def numOf : Value → Int
  | .int _ n => n
  | _ => 0

theorem open_bytes {P : Program} {H : Type} {enc : TypeId × Value → H} {w : World} {base : Nat} {spare : Nat → Bool} {held : Bool} {t e n : Nat} {v : Value} {d : DataW H} {ps : List MemPlace}
    (ht : P.underlying t = some (.array n e)) (he : P.underlying e = some (.int .u8)) (hc : P.cellsOf e = 1) (hct : P.cellsOf t = n) (hn : n ≠ 1)
    (h : DataW.Trod enc P w base spare held t v d ps) : ∃ bs : List Int, v = .agg (u8s bs).toArray ∧ bs.length = n ∧ ∀ b ∈ bs, 0 ≤ b ∧ b ≤ 255 := by
  obtain ⟨fuel, hf⟩ := h
  obtain ⟨xs, m, _, _, hlen, hl, hel⟩ := DataW.trod_array ht hf
  rw [hct] at hlen
  have hv : ∃ cs, v = .agg cs := by
    cases v with
    | agg cs => exact ⟨cs, rfl⟩
    | _ => simp [Value.cells] at hlen; omega
  obtain ⟨cs, rfl⟩ := hv
  simp only [Value.cells] at hlen hel
  have hcell : ∀ i, i < n → ∃ z, cs.toList[i]? = some (.int .u8 z) ∧ 0 ≤ z ∧ z ≤ 255 := by
    intro i hi
    have hE := hel i hi
    rw [hc, Nat.mul_one, List.getElem?_eq_getElem (by omega)] at hE
    obtain ⟨z, e1, _, wz⟩ := DataW.trod_int he hE
    refine ⟨z, ?_, ?_⟩
    · have h0 : ((cs.toList.drop i).take 1)[0]? = some (.int .u8 z) := by rw [e1]; rfl
      simpa using h0
    · simp only [Lit.wf, IntKind.min, IntKind.max, IntKind.signed, IntKind.bits] at wz
      simp at wz
      omega
  refine ⟨cs.toList.map numOf, ?_, by simpa using hlen, ?_⟩
  · congr 1
    apply Array.ext'
    apply List.ext_getElem?
    intro i
    by_cases hi : i < n
    · obtain ⟨z, hz, _⟩ := hcell i hi
      rw [hz]
      simp [u8s, numOf, hz]
    · rw [List.getElem?_eq_none (by omega), List.getElem?_eq_none (by simp [u8s]; simp at hlen; omega)]
  · intro b hb
    obtain ⟨v, hv, rfl⟩ := List.mem_map.1 hb
    obtain ⟨i, hi⟩ := List.getElem?_of_mem hv
    have hlt : i < n := by rw [← hlen]; exact (List.getElem?_eq_some_iff.1 hi).1
    obtain ⟨z, hz, h0, h1⟩ := hcell i hlt
    rw [hi] at hz
    obtain rfl := Option.some.inj hz
    exact ⟨h0, h1⟩
end Go.Proofs.YtniknhhejlgdfaaDoor
/- What all cards of this seat share: the constants as they are laid, slices of bytes that came in. -/
namespace Go.Proofs.YtniknhhejlgdfaaDoor
open Go.ChangeShapes Go.WideShapes Go.ChangeAt Go.RowKit

theorem own : ownKnob Tryd.prog.godebug = none := by kernel_rfl
theorem laidOut : laidOutB Tryd.prog = true := by kernel_rfl
theorem Tryd.gK : Tryd.prog.globalNamed "quorate/hash.constants" = some 18 := by kernel_rfl
theorem Tryd.gKType : (Tryd.prog.globals[18]?).map (·.type) = some 143 := by kernel_rfl
theorem Tryd.cells142 : Tryd.prog.cellsOf 142 = 1 := by kernel_rfl
theorem Tryd.cells143 : Tryd.prog.cellsOf 143 = 64 := by kernel_rfl
theorem kk_datum : (Rows.laid_quorate_hash_constants : DataW Unit) = Lib.tabData .u32 kk := by kernel_rfl

/-- The constants lie in their block. -/
theorem kk_range_of {W : World} (h : W.var? Tryd.prog "quorate/hash.constants" = some (kk.map fun z => Value.int .u32 z).toArray) : W.rangeAt 18 0 (u32s kk) := fun j v hv => by
  have := World.var?_cell Tryd.gK h j
  rw [Nat.zero_add, this]
  simpa [u32s] using hv
set_option maxRecDepth 100000 in
/-- A slice of bytes that came in. -/
theorem open_bs {H : Type} {enc : TypeId × Value → H} {W : World} {base b0 : Nat} {r : Reach} {spare : Nat → Bool} {held : Bool} {v : Value} {d : DataW H} {ps : List MemPlace} (hval : Value.okWide Tryd.prog W r b0 71 v)
    (h : DataW.Trod enc Tryd.prog W base spare held 71 v d ps) : ∃ bs A n c, v = .slice A n c ∧ n = bs.length ∧ Bs W (.slice A n c) bs := by
  obtain ⟨fuel, hf⟩ := h
  obtain ⟨A, n, c, rfl⟩ := okWide_slice Tryd.underlying71 hval
  rcases open_ints Tryd.underlying71 Tryd.underlying5 (by kernel_rfl) hf with ⟨hc, _⟩ | ⟨a, len, cap, zs, hc, _, h1, h2, h3, _, h4, h5⟩
  · simp only [Value.cells, List.cons.injEq, Value.slice.injEq, and_true] at hc
    obtain ⟨rfl, rfl, rfl⟩ := hc
    exact ⟨[], none, 0, 0, rfl, rfl, Bs.nil⟩
  · simp only [Value.cells, List.cons.injEq, Value.slice.injEq, and_true] at hc
    obtain ⟨rfl, rfl, rfl⟩ := hc
    have hzl : n ≤ zs.length := by rw [h3]; split <;> omega
    have hl : (zs.take n).length = n := by rw [List.length_take]; omega
    refine ⟨zs.take n, _, n, c, rfl, hl.symm, ⟨⟨_, c, by rw [hl]⟩, fun hne => ?_, fun b hb => ?_⟩⟩
    · have hn : 0 < n := by
        cases n with
        | zero => exact absurd rfl hne
        | succ => omega
      obtain ⟨b, off, sp⟩ := a
      have h0 := h4 0 (by omega)
      have hsp : sp = none := by
        simp only [Addr.add, if_true, World.cell?] at h0
        split at h0
        · cases sp with
          | none => rfl
          | some x => simp at h0
        · cases h0
      subst hsp
      refine ⟨b, off, c, by rw [hl], by rw [hl]; exact h1, h2, World.block_lt_of_cell? W _ h0, fun i hi => ?_⟩
      rw [hl] at hi
      have := h4 i (by omega)
      rw [show (⟨b, off, none⟩ : Addr).add i = ⟨b, off + i, none⟩ by unfold Addr.add; split <;> simp_all] at this
      rw [this]
      simp [List.getD_eq_getElem?_getD, hi]
    · have := h5 b (List.mem_of_mem_take hb)
      simp only [Lit.wf, IntKind.min, IntKind.max, IntKind.signed, IntKind.bits] at this
      simp at this
      unfold B8
      omega

end Go.Proofs.YtniknhhejlgdfaaDoor
/- All sentinels of a list that is laid: where they lie, and that no two are one. -/
namespace Go.Proofs.YtniknhhejlgdfaaDoor
open Go.RowKit

def sentL (nm : String) (L : List (String × List UInt8)) : List (String × DataW Unit) := L.map fun x => (x.1, .iface nm (.ptr (.agg [.lit (.string x.2)])))
theorem laid_all {P : Program} {nm : String} {W : World} {ti tp te ts : TypeId} {ms : Array (String × TypeId)} {f : Field}
    (hi : P.underlying ti = some (.interface ms)) (hrow : ∀ u, P.typeName? 3 u = some nm → u = tp)
    (hp : P.underlying tp = some (.pointer te)) (he : P.underlying te = some (.struct #[f])) (hft : f.type = ts) (hfo : f.offset = 0) (hs : P.underlying ts = some .string) (hc : P.cellsOf te = 1) (hcs : P.cellsOf ts = 1) :
    ∀ (L : List (String × List UInt8)) (T : List (String × DataW Unit)) (gs : List Nat) (ps : List MemPlace), L.map (fun x => P.globalNamed x.1) = gs.map some → (∀ g ∈ gs, (P.globals[g]?).map (·.type) = some ti) →
      DataW.LaidVars P W (sentL nm L ++ T) ps → (∀ b off, MemPlace.cell b off ∈ ps → ∀ u v, W.cell? ⟨b, off, none⟩ = some (.iface u v) → Value.okWide P W .any 0 u v) →
      ∃ al : List Addr, al.length = gs.length ∧ (∀ (i g : Nat) (a : Addr), gs[i]? = some g → al[i]? = some a → W.cell? ⟨g, 0, none⟩ = some (.iface tp (.pointer (some a)))) ∧ (al.map fun a => MemPlace.cell a.block a.off).Sublist ps
  | [], T, gs, ps, hg, _, _, _ => by
    have : gs = [] := by cases gs with | nil => rfl | cons => simp at hg
    subst this
    exact ⟨[], rfl, fun i g a h => by simp at h, List.nil_sublist _⟩
  | (n, text) :: L, T, gs, ps, hg, ht, hl, hok => by
    cases gs with
    | nil => simp at hg
    | cons g gs =>
      simp only [List.map_cons, List.cons.injEq] at hg
      obtain ⟨hg0, hg1⟩ := hg
      obtain ⟨g', t', cs, fu, p, q, hg', ht', hv, hd, hrest, e⟩ := hl
      obtain rfl := Option.some.inj (hg0.symm.trans hg')
      obtain rfl := Option.some.inj ((ht g (by simp)).symm.trans ht')
      subst e
      obtain ⟨l⟩ := cs
      have ok0 : ∀ u v, l = [.iface u v] → Value.okWide P W .any 0 u v := fun u v e => by
        subst e
        exact hok g 0 (by simp [MemPlace.row]) u v (by simpa using World.var?_cell hg' hv 0)
      obtain ⟨a, s, rfl, hca, hsa, hza, rfl⟩ := errorString_of_trod hi hrow hp he hft hfo hs hc hcs hd ok0
      obtain ⟨al, h1, h2, h3⟩ := laid_all hi hrow hp he hft hfo hs hc hcs L T gs q hg1 (fun x hx => ht x (List.mem_cons_of_mem _ hx)) hrest (fun b off hb => hok b off (List.mem_append_right _ hb))
      refine ⟨a :: al, by simp [h1], fun i g2 a2 hg2 ha2 => ?_, ?_⟩
      · cases i with
        | zero =>
          simp only [List.getElem?_cons_zero, Option.some.injEq] at hg2 ha2
          subst hg2 ha2
          exact World.var?_cell hg' hv 0
        | succ i => exact h2 i g2 a2 (by simpa using hg2) (by simpa using ha2)
      · rw [List.map_cons]
        have hsub : [MemPlace.cell a.block a.off].Sublist (MemPlace.row ⟨g, 0, none⟩ 1 ++ MemPlace.row a 1) := by simp [MemPlace.row]
        first
          | exact hsub.append h3
          | (rw [List.append_assoc]; exact hsub.append h3)
end Go.Proofs.YtniknhhejlgdfaaDoor
/- All sentinels and the constants as they are laid. -/
namespace Go.Proofs.YtniknhhejlgdfaaDoor
open Go.ChangeShapes Go.WideShapes Go.ChangeAt Go.RowKit

theorem Tryd.cells243 : Tryd.prog.cellsOf 243 = 1 := by kernel_rfl
theorem Tryd.cells9 : Tryd.prog.cellsOf 9 = 1 := by kernel_rfl
theorem Tryd.star : "*" ++ "errors.errorString" = "*errors.errorString" := by decide
set_option maxRecDepth 100000 in
theorem Tryd.row216 (u : TypeId) (h : Tryd.prog.typeName? 3 u = some "*errors.errorString") : u = 216 :=
  typeName_ptr_named (nm := "errors.errorString") (by rw [Tryd.star]; kernel_rfl) (by kernel_rfl) (by decide) u (by rw [Tryd.star]; exact h)

abbrev laidS : List (String × DataW Unit) := [("quorate/api.ErrRange", Rows.laid_quorate_api_ErrRange), ("quorate/api.ErrShort", Rows.laid_quorate_api_ErrShort), ("quorate/api.ErrLong", Rows.laid_quorate_api_ErrLong), ("quorate/api.ErrForm", Rows.laid_quorate_api_ErrForm), ("quorate/api.ErrSpent", Rows.laid_quorate_api_ErrSpent), ("quorate/api.ErrPower", Rows.laid_quorate_api_ErrPower), ("quorate/api.ErrDisk", Rows.laid_quorate_api_ErrDisk), ("quorate/api.ErrFull", Rows.laid_quorate_api_ErrFull), ("quorate/api.ErrNone", Rows.laid_quorate_api_ErrNone), ("quorate/api.ErrOld", Rows.laid_quorate_api_ErrOld), ("quorate/api.ErrSet", Rows.laid_quorate_api_ErrSet), ("quorate/api.ErrProof", Rows.laid_quorate_api_ErrProof), ("quorate/api.ErrLeader", Rows.laid_quorate_api_ErrLeader), ("quorate/api.ErrRound", Rows.laid_quorate_api_ErrRound), ("quorate/api.ErrUnsafe", Rows.laid_quorate_api_ErrUnsafe), ("quorate/api.ErrParent", Rows.laid_quorate_api_ErrParent), ("quorate/api.ErrTwice", Rows.laid_quorate_api_ErrTwice), ("quorate/api.ErrEpoch", Rows.laid_quorate_api_ErrEpoch)]
abbrev laidN : List (String × DataW Unit) := [("quorate/api.ErrRange", Rows.laid_quorate_api_ErrRange), ("quorate/api.ErrShort", Rows.laid_quorate_api_ErrShort), ("quorate/api.ErrLong", Rows.laid_quorate_api_ErrLong), ("quorate/api.ErrForm", Rows.laid_quorate_api_ErrForm), ("quorate/api.ErrSpent", Rows.laid_quorate_api_ErrSpent), ("quorate/api.ErrPower", Rows.laid_quorate_api_ErrPower), ("quorate/api.ErrDisk", Rows.laid_quorate_api_ErrDisk), ("quorate/api.ErrFull", Rows.laid_quorate_api_ErrFull), ("quorate/api.ErrNone", Rows.laid_quorate_api_ErrNone), ("quorate/api.ErrOld", Rows.laid_quorate_api_ErrOld), ("quorate/api.ErrSet", Rows.laid_quorate_api_ErrSet), ("quorate/api.ErrProof", Rows.laid_quorate_api_ErrProof), ("quorate/api.ErrLeader", Rows.laid_quorate_api_ErrLeader), ("quorate/api.ErrRound", Rows.laid_quorate_api_ErrRound), ("quorate/api.ErrUnsafe", Rows.laid_quorate_api_ErrUnsafe), ("quorate/api.ErrParent", Rows.laid_quorate_api_ErrParent), ("quorate/api.ErrTwice", Rows.laid_quorate_api_ErrTwice), ("quorate/api.ErrEpoch", Rows.laid_quorate_api_ErrEpoch), ("quorate/hash.constants", Rows.laid_quorate_hash_constants)]
def textOf : DataW Unit → List UInt8
  | .iface _ (.ptr (.agg [.lit (.string t)])) => t
  | _ => []
def laidNL : List (String × List UInt8) := laidS.map fun x => (x.1, textOf x.2)
theorem laidN_eq : laidN = sentL "*errors.errorString" laidNL ++ [("quorate/hash.constants", Rows.laid_quorate_hash_constants)] := rfl
theorem laidN_named : laidNL.map (fun x => Tryd.prog.globalNamed x.1) = senG.map some := by kernel_rfl
theorem laidN_types : ∀ g ∈ senG, (Tryd.prog.globals[g]?).map (·.type) = some 29 := by
  intro g hg
  have : senG.all (fun g => decide ((Tryd.prog.globals[g]?).map (·.type) = some 29)) = true := by kernel_rfl
  rw [List.all_eq_true] at this
  exact of_decide_eq_true (this g hg)
set_option maxRecDepth 100000 in
theorem sen_of_laidN {W : World} (h : laidMetH Tryd.prog laidN W) : ∃ al, SenN W al := by
  rw [MakeChecks.laidMetH_plain _ _ _ (by kernel_rfl)] at h
  obtain ⟨ps, hv, hnd, hrows⟩ := h
  rw [laidN_eq] at hv
  obtain ⟨al, h1, h2, h3⟩ := laid_all Tryd.underlying29 Tryd.row216 Tryd.underlying216 Tryd.underlying243 rfl rfl Tryd.underlying9 Tryd.cells243 Tryd.cells9 laidNL _ senG ps laidN_named laidN_types hv (fun b off hb => (hrows b off hb).2)
  refine ⟨al, h1, h2, List.Pairwise.of_map _ (fun a b hab e => hab (by rw [e])) (h3.nodup hnd), fun a ha => ?_⟩
  exact (hrows a.block a.off (h3.subset (List.mem_map.2 ⟨a, ha, rfl⟩))).1
set_option maxRecDepth 100000 in
theorem kk_of_laidN {W : World} (h : laidMetH Tryd.prog laidN W) : W.rangeAt 18 0 (u32s kk) := by
  rw [MakeChecks.laidMetH_plain _ _ _ (by kernel_rfl)] at h
  have h2 := h.tail.tail.tail.tail.tail.tail.tail.tail.tail.tail.tail.tail.tail.tail.tail.tail.tail.tail
  rw [kk_datum] at h2
  exact kk_range_of (Lib.tabIs_of_head Tryd.gK Tryd.gKType Tryd.underlying143 Tryd.underlying142 Tryd.cells142 Tryd.cells143 h2)
set_option maxRecDepth 100000 in
theorem door_metN (os : Os) (args : Array Value) : laidMetH Tryd.prog laidN ((World.doorLaid Tryd.prog 356 os).forCall (fun _ _ => 0) ⟨#[], args, []⟩).memory :=
  laidMetH_of_parts3 (fuel := 8) (laidMet_of_run' 8 (by kernel_rfl) (by kernel_rfl)) (by kernel_rfl) (by kernel_rfl)
end Go.Proofs.YtniknhhejlgdfaaDoor
/- Slices of slices of bytes that came in. -/
namespace Go.Proofs.YtniknhhejlgdfaaDoor
open Go.ChangeShapes Go.WideShapes Go.ChangeAt Go.RowKit

theorem spot_none {W : World} {b off : Nat} {sp} {u : Value} (h : W.cell? ((⟨b, off, sp⟩ : Addr).add 0) = some u) : sp = none := by
  simp only [Addr.add, if_true, World.cell?] at h
  split at h
  · cases sp with
    | none => rfl
    | some x => simp at h
  · cases h
theorem add_none (b off i : Nat) : (⟨b, off, none⟩ : Addr).add i = ⟨b, off + i, none⟩ := by unfold Addr.add; split <;> simp_all

set_option maxRecDepth 100000 in
theorem open_bs_cells {H : Type} {enc : TypeId × Value → H} {W : World} {base : Nat} {spare : Nat → Bool} {held : Bool} {fuel : Nat} {cs : List Value} {x : DataW H × List MemPlace}
    (h : DataW.trod enc Tryd.prog W base spare held fuel 71 cs = some x) : ∃ bs A c, cs = [.slice A bs.length c] ∧ Bs W (.slice A bs.length c) bs := by
  rcases open_ints Tryd.underlying71 Tryd.underlying5 (by kernel_rfl) h with ⟨rfl, _⟩ | ⟨a, n, c, zs, rfl, _, h1, h2, h3, _, h4, h5⟩
  · exact ⟨[], none, 0, rfl, Bs.nil⟩
  · have hzl : n ≤ zs.length := by rw [h3]; split <;> omega
    have hl : (zs.take n).length = n := by rw [List.length_take]; omega
    refine ⟨zs.take n, _, c, by rw [hl], ⟨⟨_, c, rfl⟩, fun hne => ?_, fun b hb => ?_⟩⟩
    · have hn : 0 < n := by
        cases n with
        | zero => exact absurd rfl hne
        | succ => omega
      obtain ⟨b, off, sp⟩ := a
      have h0 := h4 0 (by omega)
      obtain rfl := spot_none h0
      refine ⟨b, off, c, rfl, by rw [hl]; exact h1, h2, World.block_lt_of_cell? W _ h0, fun i hi => ?_⟩
      rw [hl] at hi
      have := h4 i (by omega)
      rw [add_none] at this
      rw [this]
      simp [List.getD_eq_getElem?_getD, hi]
    · have := h5 b (List.mem_of_mem_take hb)
      simp only [Lit.wf, IntKind.min, IntKind.max, IntKind.signed, IntKind.bits] at this
      simp at this
      unfold B8
      omega

set_option maxRecDepth 100000 in
/-- A slice of slices of bytes that came in. -/
theorem open_bss {H : Type} {enc : TypeId × Value → H} {W : World} {base b0 : Nat} {r : Reach} {spare : Nat → Bool} {held : Bool} {v : Value} {d : DataW H} {ps : List MemPlace} (hval : Value.okWide Tryd.prog W r b0 38 v)
    (h : DataW.Trod enc Tryd.prog W base spare held 38 v d ps) : ∃ bss A n c, v = .slice A n c ∧ n = bss.length ∧ Bss W (.slice A n c) bss := by
  obtain ⟨fuel, hf⟩ := h
  obtain ⟨A, n, c, rfl⟩ := okWide_slice Tryd.underlying38 hval
  have c22 : Tryd.prog.cellsOf 71 = 1 := by kernel_rfl
  rcases DataW.trod_slice Tryd.underlying38 hf with ⟨hc, _⟩ | ⟨a, len, cap, elems, rest, k, _, hc, _, _, hl, hm, hlen, hel, _, _⟩
  · simp only [Value.cells, List.cons.injEq, Value.slice.injEq, and_true] at hc
    obtain ⟨rfl, rfl, rfl⟩ := hc
    exact ⟨[], none, 0, 0, rfl, rfl, ⟨_, _, rfl⟩, fun h => absurd rfl h⟩
  · simp only [Value.cells, List.cons.injEq, Value.slice.injEq, and_true] at hc
    obtain ⟨rfl, rfl, rfl⟩ := hc
    have each : ∀ i, ∃ ub : Value × List Int, i < n → W.cell? (a.add i) = some ub.1 ∧ Bs W ub.1 ub.2 := by
      intro i
      by_cases hi : i < n
      · have he := hel i hi
        rw [c22, Nat.mul_one, List.getElem?_eq_getElem (by omega), Option.bind_eq_some_iff] at he
        obtain ⟨cs', hcs, hy'⟩ := he
        obtain ⟨bs, A', c', rfl, hb⟩ := open_bs_cells hy'
        exact ⟨(_, bs), fun _ => ⟨cell_of_cells?_one hcs, hb⟩⟩
      · exact ⟨(undef, []), fun h => absurd h hi⟩
    obtain ⟨f, hff⟩ := Classical.axiomOfChoice each
    refine ⟨(List.range n).map fun i => (f i).2, some a, n, c, rfl, by simp, ⟨some a, c, by simp⟩, fun hne => ?_⟩
    have hn : 0 < n := by
      cases n with
      | zero => exact absurd rfl hne
      | succ => omega
    obtain ⟨b, off, sp⟩ := a
    obtain ⟨h0, _⟩ := hff 0 hn
    obtain rfl := spot_none h0
    refine ⟨b, off, c, by simp, by simpa using hl, hm, World.block_lt_of_cell? W _ h0, fun i hi => ?_⟩
    have hi : i < n := by simpa using hi
    obtain ⟨hi1, hi2⟩ := hff i hi
    rw [add_none] at hi1
    refine ⟨_, hi1, ?_⟩
    rw [List.getD_eq_getElem?_getD, List.getElem?_map, List.getElem?_range hi]
    exact hi2
end Go.Proofs.YtniknhhejlgdfaaDoor
/- Digests that came in: slices of them, pairs of them. -/
namespace Go.Proofs.YtniknhhejlgdfaaDoor
open Go.ChangeShapes Go.WideShapes Go.ChangeAt Go.RowKit

theorem c43 : Tryd.prog.cellsOf 24 = 16 := by kernel_rfl
set_option maxRecDepth 100000 in
/-- The cells of a digest that came in. -/
theorem open_dg_cells {H : Type} {enc : TypeId × Value → H} {W : World} {base : Nat} {spare : Nat → Bool} {held : Bool} {fuel : Nat} {cs : List Value} {x : DataW H × List MemPlace}
    (h : DataW.trod enc Tryd.prog W base spare held fuel 24 cs = some x) : ∃ d : List Int, cs = u8s d ∧ d.length = 16 ∧ u8s_ok d := by
  have c5 : Tryd.prog.cellsOf 5 = 1 := by kernel_rfl
  obtain ⟨xs, m, _, _, hl16, hxl, hel⟩ := DataW.trod_array Tryd.underlying24 h
  rw [c43] at hl16
  have hcell : ∀ i, i < 16 → ∃ z, cs[i]? = some (.int .u8 z) ∧ 0 ≤ z ∧ z ≤ 255 := by
    intro i hi
    have hE := hel i hi
    rw [c5, Nat.mul_one, List.getElem?_eq_getElem (by omega)] at hE
    obtain ⟨z, e1, _, wz⟩ := DataW.trod_int Tryd.underlying5 hE
    refine ⟨z, ?_, ?_⟩
    · have h0 : ((cs.drop i).take 1)[0]? = some (.int .u8 z) := by rw [e1]; rfl
      simpa using h0
    · simp only [Lit.wf, IntKind.min, IntKind.max, IntKind.signed, IntKind.bits] at wz
      simp at wz
      omega
  refine ⟨cs.map fun v => match v with | .int _ z => z | _ => 0, ?_, by simp [hl16], ?_⟩
  · apply List.ext_getElem?
    intro i
    by_cases hi : i < 16
    · obtain ⟨z, hz, _⟩ := hcell i hi
      rw [hz]
      simp [u8s, hz]
    · rw [List.getElem?_eq_none (by omega), List.getElem?_eq_none (by simp [u8s]; omega)]
  · intro b hb
    obtain ⟨v, hv, rfl⟩ := List.mem_map.1 hb
    obtain ⟨i, hi, hiv⟩ := List.mem_iff_getElem.1 hv
    obtain ⟨z, hz, h1, h2⟩ := hcell i (by omega)
    rw [List.getElem?_eq_getElem hi, hiv] at hz
    cases hz
    exact ⟨h1, h2⟩

set_option maxRecDepth 100000 in
theorem open_dgs_cells {H : Type} {enc : TypeId × Value → H} {W : World} {base : Nat} {spare : Nat → Bool} {held : Bool} {fuel : Nat} {cs : List Value} {x : DataW H × List MemPlace}
    (h : DataW.trod enc Tryd.prog W base spare held fuel 43 cs = some x) : ∃ ds A c, cs = [.slice A ds.length c] ∧ Dgs W (.slice A ds.length c) ds := by
  rcases DataW.trod_slice Tryd.underlying43 h with ⟨rfl, _⟩ | ⟨a, n, c, elems, rest, k, _, rfl, _, _, hl, hm, hlen, hel, _, _⟩
  · exact ⟨[], none, 0, rfl, ⟨_, _, rfl⟩, fun h => absurd rfl h, fun d hd => by simp at hd⟩
  · have each : ∀ i, ∃ X : List Int, i < n → (X.length = 16 ∧ u8s_ok X) ∧ ∀ j u, (u8s X)[j]? = some u → W.cell? ((a.add (i * 16)).add j) = some u := by
      intro i
      by_cases hi : i < n
      · have he := hel i hi
        rw [c43, List.getElem?_eq_getElem (by omega), Option.bind_eq_some_iff] at he
        obtain ⟨cs', hcs, hy'⟩ := he
        obtain ⟨X, rfl, hX, hok⟩ := open_dg_cells hy'
        refine ⟨X, fun _ => ⟨⟨hX, hok⟩, fun j u hu => ?_⟩⟩
        have := (World.cells?_some hcs).2
        have hj : j < 16 := by have := (List.getElem?_eq_some_iff.1 hu).1; rwa [u8s_len', hX] at this
        first
          | exact (this j hj).trans hu
          | exact (this.2 j hj).trans hu
      · exact ⟨[], fun h => absurd h hi⟩
    obtain ⟨f, hff⟩ := Classical.axiomOfChoice each
    refine ⟨(List.range n).map f, some a, c, by simp, ⟨some a, c, by simp⟩, fun hne => ?_, fun x hx => ?_⟩
    · have hn : 0 < n := by
        cases n with
        | zero => exact absurd rfl hne
        | succ => omega
      obtain ⟨b, off, sp⟩ := a
      obtain ⟨⟨hl0, _⟩, h0⟩ := hff 0 hn
      have h00 : ∃ u, (u8s (f 0))[0]? = some u := ⟨_, List.getElem?_eq_getElem (by rw [u8s_len', hl0]; omega)⟩
      obtain ⟨u, hu⟩ := h00
      have hc0 := h0 0 u hu
      have hadd0 : (⟨b, off, sp⟩ : Addr).add (0 * 16) = ⟨b, off, sp⟩ := by simp [Addr.add]
      rw [hadd0] at hc0
      obtain rfl := spot_none hc0
      refine ⟨b, off, c, by simp, by simpa using hl, hm, World.block_lt_of_cell? W _ hc0, fun i hi j u hu => ?_⟩
      have hi : i < n := by simpa using hi
      rw [List.getD_eq_getElem?_getD, List.getElem?_map, List.getElem?_range hi] at hu
      have := (hff i hi).2 j u hu
      rw [add_none, add_none] at this
      exact this
    · rw [List.mem_map] at hx
      obtain ⟨i, hi, rfl⟩ := hx
      exact (hff i (by simpa using hi)).1
set_option maxRecDepth 100000 in
/-- A slice of digests that came in. -/
theorem open_dgs {H : Type} {enc : TypeId × Value → H} {W : World} {base b0 : Nat} {r : Reach} {spare : Nat → Bool} {held : Bool} {v : Value} {d : DataW H} {ps : List MemPlace} (hval : Value.okWide Tryd.prog W r b0 43 v)
    (h : DataW.Trod enc Tryd.prog W base spare held 43 v d ps) : ∃ ds A n c, v = .slice A n c ∧ n = ds.length ∧ Dgs W (.slice A n c) ds := by
  obtain ⟨fuel, hf⟩ := h
  obtain ⟨A, n, c, rfl⟩ := okWide_slice Tryd.underlying43 hval
  obtain ⟨ds, A', c', hc, hd⟩ := open_dgs_cells hf
  simp only [Value.cells, List.cons.injEq, Value.slice.injEq, and_true] at hc
  obtain ⟨rfl, rfl, rfl⟩ := hc
  exact ⟨ds, A, _, c, rfl, rfl, hd⟩
end Go.Proofs.YtniknhhejlgdfaaDoor
/- Signatures that came in. -/
namespace Go.Proofs.YtniknhhejlgdfaaDoor
open Go.ChangeShapes Go.WideShapes Go.ChangeAt Go.RowKit

set_option maxRecDepth 100000 in
theorem open_sig {H : Type} {enc : TypeId × Value → H} {W : World} {base : Nat} {spare : Nat → Bool} {held : Bool} {v : Value} {d : DataW H} {ps : List MemPlace}
    (h : DataW.Trod enc Tryd.prog W base spare held 66 v d ps) : ∃ l ds qs A B n c k e, v = sigV l (.slice A n c) (.slice B k e) ∧ n = ds.length ∧ k = qs.length ∧ Dgs W (.slice A n c) ds ∧ Dgs W (.slice B k e) qs := by
  obtain ⟨fuel, hf⟩ := h
  obtain ⟨y0, y1, y2, m, _, hl, h0, h1, h2⟩ := Go.Deep.trod_struct3 Tryd.underlying66 hf
  have c88 : Tryd.prog.cellsOf 66 = 3 := by kernel_rfl
  have c3 : Tryd.prog.cellsOf 3 = 1 := by kernel_rfl
  have c55 : Tryd.prog.cellsOf 43 = 1 := by kernel_rfl
  rw [c88] at hl
  have hv : ∃ cs, v = .agg cs := by
    cases v with
    | agg cs => exact ⟨cs, rfl⟩
    | _ => simp [Value.cells] at hl
  obtain ⟨cs, rfl⟩ := hv
  obtain ⟨cs⟩ := cs
  simp only [Value.cells] at hl h0 h1 h2
  obtain ⟨a0, a1, a2, rfl⟩ : ∃ a0 a1 a2, cs = [a0, a1, a2] := by
    match cs, hl with
    | [a0, a1, a2], _ => exact ⟨a0, a1, a2, rfl⟩
  simp only [c3, List.drop_zero, List.take_succ_cons, List.take_zero] at h0
  simp only [c55, List.drop_succ_cons, List.drop_zero, List.take_succ_cons, List.take_zero] at h1
  simp only [c55, List.drop_succ_cons, List.drop_zero, List.take_succ_cons, List.take_zero] at h2
  obtain ⟨z0, e0, _, _⟩ := DataW.trod_int Tryd.underlying3 h0
  obtain ⟨ds, A, c, e1, hd⟩ := open_dgs_cells h1
  obtain ⟨qs, B, e, e2, hq⟩ := open_dgs_cells h2
  simp only [List.cons.injEq, and_true] at e0 e1 e2
  subst e0 e1 e2
  exact ⟨z0, ds, qs, A, B, _, c, _, e, rfl, rfl, rfl, hd, hq⟩
end Go.Proofs.YtniknhhejlgdfaaDoor
/- Laws on single operations. -/
namespace Go.Proofs.YtniknhhejlgdfaaDoor
open Go.RowKit

section
variable {P : Program} {ops : Array Oper} {Q : Exit → Act → World → Prop} {a : Act} {w : World} {rest : List Oper} {o : Oper}

theorem run_neq_bytes (t e n : Nat) (a b : List Int) (ht : P.underlying t = some (.array n e)) (he : P.underlying e = some (.int .u8)) (hs : (P.info? e).map (·.size) = some 1)
    (ha : a.length = n) (hb : b.length = n) : (binOp .neq t (.agg (u8s a).toArray) (.agg (u8s b).toArray)).run P w = .ok (.bool (!decide (a = b))) w := by
  rw [run_neq_struct, run_equalIn_bytes 9998 t e n a b ht he hs ha hb]
  rfl
end
end Go.Proofs.YtniknhhejlgdfaaDoor
/- A region that draws its order, by what each operation may rely on. -/
namespace Go.Proofs.YtniknhhejlgdfaaDoor
open Go.RowKit

section
variable (P : Program) (ops : Array Oper) (E : World → World → Prop) (R : Nat → World → Value → Prop) (w0 : World) (Q : Exit → Act → World → Prop)

end

section
variable {P : Program} {ops : Array Oper} {E : World → World → Prop} {R : Nat → World → Value → Prop} {w0 : World} {Q : Exit → Act → World → Prop} {a0 : Act}

section
variable {f : (Nat → Value) → Act} {i : Nat} {o : Oper}

theorem step_guard (j : Nat) (b : Bool) (d : Nat) (hg : o.guard = some (j, b)) (hd : (ops[j]?).bind (·.dst) = some d) (hs : ∀ vs, (f vs).tmps[d]? = some (vs j))
    (h : ∀ vs w, E w0 w → Deps R vs w o.after.toList → vs j = .bool b ∧ Gives P o (f vs).eval w (fun v w' => E w w' ∧ ∀ w'', E w' w'' → R i w'' v)) :
    StepOk P ops E R w0 f i o := fun vs w hE hdp => by
  obtain ⟨h1, h2⟩ := h vs w hE hdp
  have hw : Region.wanted o (yielded ops (f vs).tmps) = true := by
    simp only [Region.wanted, hg, yielded, hd, Option.bind_some, hs, h1]
    simp
  rw [if_pos hw]
  exact h2

theorem step_skip (j : Nat) (b : Bool) (d : Nat) (hg : o.guard = some (j, b)) (hd : (ops[j]?).bind (·.dst) = some d) (hs : ∀ vs, (f vs).tmps[d]? = some (vs j))
    (h : ∀ vs w, E w0 w → Deps R vs w o.after.toList → (vs j = .bool (!b) ∨ vs j = undef) ∧ ∀ w'', R i w'' undef) :
    StepOk P ops E R w0 f i o := fun vs w hE hdp => by
  obtain ⟨h1, h2⟩ := h vs w hE hdp
  have hw : ¬ Region.wanted o (yielded ops (f vs).tmps) = true := by
    simp only [Region.wanted, hg, yielded, hd, Option.bind_some, hs]
    rcases h1 with h1 | h1
    · rw [h1]; cases b <;> simp
    · rw [h1]; cases b <;> simp [undef]
  rw [if_neg hw]
  exact fun w'' _ => h2 w''
end

theorem gives_pick {o : Oper} {ρ : Operand → Value} {w : World} {S : Value → World → Prop} (c x y : Operand) (v : Value) (b : Bool) (ho : o.op = .pick c x y) (hc : ρ c = .bool b)
    (hv : ρ (match b with | true => x | false => y) = v) (h : S v w) : Gives P o ρ w S := by
  refine gives_val v (w' := w) ?_ h
  unfold execOp
  subst hv
  cases b <;> simp [ho, hc, asBool]
end
end Go.Proofs.YtniknhhejlgdfaaDoor
/- Single operations of a region that draws its order. -/
namespace Go.Proofs.YtniknhhejlgdfaaDoor
open Go.RowKit
variable {P : Program} {o : Oper} {ρ : Operand → Value} {w w' : World} {S : Value → World → Prop}

theorem gives_binOp (op : BinOp) (t t2 : TypeId) (x y : Operand) (ho : o.op = .binOp op t x y t2) (a b v : Value) (hx : ρ x = a) (hy : ρ y = b) (hg : (eqGuard op t x y a b).run P w = .ok () w) (hr : (binOp op t a b).run P w = .ok v w') (h : S v w') : Gives P o ρ w S := by
  refine gives_val v (w' := w') ?_ h
  unfold execOp
  simp only [ho, hx, hy, Sem.run_bind, hg, hr, Result.andThen_ok, Sem.run_pure]
end Go.Proofs.YtniknhhejlgdfaaDoor
/- Validators as they lie; where a key is. -/
namespace Go.Proofs.YtniknhhejlgdfaaDoor
open Go.RowKit

/-- A validator: the key's bytes, the power. -/
abbrev Va := List Int × Int
def vcells (x : Va) : List Value := u8s x.1 ++ [.int .i64 x.2]
theorem vcells_len (x : Va) (h : x.1.length = 16) : (vcells x).length = 17 := by simp [vcells, u8s_len', h]
theorem one_vcells (x : Va) : ∀ v ∈ vcells x, v.oneCell' = true := fun v hv => by
  rcases List.mem_append.1 hv with h | h
  · exact one_u8s _ v h
  · simp at h; subst h; rfl

/-- A slice of validators. -/
structure Vals (w : World) (v : Value) (vs : List Va) : Prop where
  form : ∃ A c, v = .slice A vs.length c
  cells : vs ≠ [] → ∃ b off c, v = .slice (some ⟨b, off, none⟩) vs.length c ∧ vs.length ≤ c ∧ c ≤ maxLen ∧ b < w.heap.size ∧ ∀ i, i < vs.length → w.rangeAt b (off + i * 17) (vcells (vs.getD i ([], 0)))
  good : ∀ x ∈ vs, x.1.length = 16
theorem Vals.below {w w' : World} {v : Value} {vs : List Va} (h : Vals w v vs) (hb : Below w.heap.size w w') : Vals w' v vs := by
  refine ⟨h.form, fun hne => ?_, h.good⟩
  obtain ⟨b, off, c, e, h1, h2, h3, h4⟩ := h.cells hne
  exact ⟨b, off, c, e, h1, h2, Nat.lt_of_lt_of_le h3 hb.size, fun i hi => range_below (h4 i hi) hb⟩
theorem Vals.at {w : World} {v : Value} {vs : List Va} (h : Vals w v vs) (i : Nat) (hi : i < vs.length) : (vs.getD i ([], 0)).1.length = 16 := by
  rw [List.getD_eq_getElem?_getD, List.getElem?_eq_getElem hi]
  exact h.good _ (List.getElem_mem _)
theorem Vals.len {w : World} {A : Option Addr} {n c : Nat} {vs : List Va} (h : Vals w (.slice A n c) vs) : n = vs.length := by
  obtain ⟨A', c', e⟩ := h.form
  simp only [Value.slice.injEq] at e
  exact e.2.1
/-- What there is of the element at i. -/
theorem Vals.el {w : World} {A : Option Addr} {n c : Nat} {vs : List Va} (h : Vals w (.slice A n c) vs) (i : Nat) (hi : i < n) :
    ∃ b off, A = some ⟨b, off, none⟩ ∧ b < w.heap.size ∧ w.rangeAt b (off + i * 17) (vcells (vs.getD i ([], 0))) := by
  have hl := h.len
  obtain ⟨b, off, c', e, _, _, h3, h4⟩ := h.cells (by intro e; subst e; simp at hl; omega)
  simp only [Value.slice.injEq] at e
  exact ⟨b, off, e.1, h3, h4 i (by omega)⟩
theorem vcells_key {w : World} {b o : Nat} {x : Va} (h : w.rangeAt b o (vcells x)) : w.rangeAt b o (u8s x.1) := fun j v hv => by
  refine h j v ?_
  unfold vcells
  rw [List.getElem?_append_left (List.getElem?_eq_some_iff.1 hv).1]
  exact hv
theorem vcells_pow {w : World} {b o : Nat} {x : Va} (hl : x.1.length = 16) (h : w.rangeAt b o (vcells x)) : w.cell? ⟨b, o + 16, none⟩ = some (.int .i64 x.2) := by
  refine h 16 _ ?_
  unfold vcells
  rw [List.getElem?_append_right (by rw [u8s_len', hl]; exact Nat.le_refl _), u8s_len', hl]
  rfl

theorem Tryd.size45 : (Tryd.prog.info? 45).map (·.size) = some 17 := by kernel_rfl
theorem run_eql37 (a b : List Int) (ha : a.length = 16) (hb : b.length = 16) (W : World) : (Op.equalIn 10000 24 (.agg (u8s a).toArray) (.agg (u8s b).toArray)).run Tryd.prog W = .ok (decide (a = b)) W :=
  run_equalIn_bytes 9998 24 5 16 a b Tryd.underlying24 Tryd.underlying5 (by kernel_rfl) ha hb

set_option maxHeartbeats 4000000 in
set_option maxRecDepth 100000 in
/-- Find's closure. -/
theorem find1_any (x : Va) (key : List Int) (hl : x.1.length = 16) (hk : key.length = 16) (bx : Nat) (w : World) (hx : w.rangeAt bx 0 (u8s key)) :
    Calls Tryd.prog 69 #[.agg (vcells x).toArray, .pointer (some ⟨bx, 0, none⟩)] w fun e w' => e = .returned (.bool (decide (x.1 = key))) ∧ Below w.heap.size w w' := by
  have hcell : (w.alloc (.cells (vcells x).toArray 45)).rangeAt w.heap.size 0 (u8s x.1) := vcells_key (range_new w (vcells x) 45)
  have hkey : (w.alloc (.cells (vcells x).toArray 45)).rangeAt bx 0 (u8s key) := range_below hx ((Below.refl _ _).alloc (Nat.le_refl _) _)
  have hi37 : (Tryd.prog.info? 24).map (·.size) = some (u8s x.1).length := by rw [u8s_len', hl]; exact Tryd.size24
  have hi37' : (Tryd.prog.info? 24).map (·.size) = some (u8s key).length := by rw [u8s_len', hk]; exact Tryd.size24
  have hrun := run_eql37 x.1 key hl hk
  have HC := Lib.hid hcell
  have HK := Lib.hid hkey
  have HI := Lib.hid hi37
  have HI' := Lib.hid hi37'
  clear hcell hkey hi37 hi37' hx
  go_enter Tryd.func69, Tryd.ntmps69
  go_wp2_with (first | (refine wpList_load_g rfl 24 (.tmp 4) rfl w.heap.size 0 rfl (u8s x.1) _ HC.out Tryd.underlying24 rfl HI.out ?_) | (refine wpList_load_g rfl 24 (.tmp 1) rfl bx 0 rfl (u8s key) _ HK.out Tryd.underlying24 rfl HI'.out ?_))
  go_ret
  exact ⟨rfl, (Below.refl _ _).alloc (Nat.le_refl _) _⟩
end Go.Proofs.YtniknhhejlgdfaaDoor
/- The iterators of layer 8: all powers; some validators' powers. -/
namespace Go.Proofs.YtniknhhejlgdfaaDoor
open Go.RowKit Go.Shelf
attribute [local go_sem] Oper.semAt_some

/-- What a round of a loop over an iterator does, as the iterator sees it. -/
abbrev Rounds (n : Nat) (l : Nat) (n₀ N : Nat) (J Jx : List Int → World → Prop) : Prop :=
  ∀ pre x W1, J pre W1 → pre.length < N → YieldAt Fence.wide (n - 1) Tryd.prog l #[.int .i64 x] W1 fun e W' =>
    (e = .returned (.bool true) ∧ J (pre ++ [x]) W' ∧ Below n₀ W1 W') ∨ (e = .returned (.bool false) ∧ Jx (pre ++ [x]) W')

theorem powers_take (vs : List Va) (k : Nat) (hk : k < vs.length) : (vs.take (k + 1)).map (·.2) = (vs.take k).map (·.2) ++ [(vs.getD k ([], 0)).2] := by
  rw [List.take_succ_eq_append_getElem hk, List.map_append, List.getD_eq_getElem?_getD, List.getElem?_eq_getElem hk]
  rfl

set_option maxHeartbeats 4000000 in
set_option maxRecDepth 100000 in
theorem total1_in (n : Nat) (hn : 1 ≤ n) (l Bs : Nat) (A : Option Addr) (len cap : Nat) (vs : List Va) (w0 W : World) (J Jx : List Int → World → Prop)
    (hW : Below w0.heap.size w0 W) (hJ : AbidesFrom W.heap.size J) (hY : Rounds n l w0.heap.size len J Jx) (hBs : w0.cell? ⟨Bs, 0, none⟩ = some (.slice A len cap)) (hv : Vals w0 (.slice A len cap) vs) (hz : len ≤ 1000000) (h0 : J [] W) :
    CallsIn Fence.wide n Tryd.prog 121 #[.func (.yield l) #[] #[], .pointer (some ⟨Bs, 0, none⟩)] W fun e W' => (∃ v, e = .returned v) ∧
      ((∃ ys, ys = vs.map (·.2) ∧ J ys W') ∨ (∃ pre, True ∧ Jx pre W')) := by
  have hn1 := hv.len
  have hcell : W.cell? ⟨Bs, 0, none⟩ = some (.slice A len cap) := cell_on hW hBs
  have HV := Lib.hid hv
  have HN := Lib.hid hn1
  have HJ := Lib.hid hJ
  have HY := Lib.hid hY
  have J0 := Lib.hid h0
  clear hv hn1 hBs hY hJ h0
  refine callsIn_of_wp Tryd.func121 rfl trivial ?_ rfl
  simp only [Tryd.ntmps121, List.size_toArray, List.length_cons, List.length_nil, Nat.reduceAdd, Nat.reduceSub, Array.replicate_succ, Array.replicate_zero, List.push_toArray, List.append_toArray, List.nil_append, List.cons_append]
  gi_wp2
  clear hcell
  gi_loopw [7] (fun i wr => ∃ k : Nat, k ≤ len ∧ i = .int .i64 k ∧ Hid (J ((vs.take k).map (·.2)) wr) ∧ Hid (Below w0.heap.size w0 wr) ∧ Hid (W.heap.size ≤ wr.heap.size))
    (fun i _ => len - (intOf i).toNat)
  case atStart => exact ⟨0, Nat.zero_le _, rfl, J0, Lib.hid hW, Lib.hid (Nat.le_refl _)⟩
  case round =>
    obtain ⟨k, hk, rfl, hJs, hbel, hsz⟩ := hrel
    by_cases hlt : k < len
    · obtain ⟨b, off, rfl, hb, hr⟩ := (HV.out.below hbel.out).el k hlt
      have hlen : k < vs.length := by rw [← HN.out]; exact hlt
      have hl := HV.out.at k hlen
      have htk := powers_take vs k hlen
      obtain ⟨X, hX⟩ : ∃ X, X = vs.getD k ([], 0) := ⟨_, rfl⟩
      rw [← hX] at hr hl htk
      have hi39 : (Tryd.prog.info? 45).map (·.size) = some (vcells X).length := by rw [vcells_len X hl]; exact Tryd.size45
      have hh : ∀ Z : Array Value, Z.size = 17 → Has (wr.alloc (.cells Z 45)) wr.heap.size 45 (vcells X).length := fun Z hZ => has_new wr _ _ _ (by rw [hZ, vcells_len X hl])
      have hpl : ((vs.take k).map (·.2)).length < len := by rw [List.length_map, List.length_take]; omega
      have HR := Lib.hid hr
      have HL := Lib.hid hl
      have HI := Lib.hid hi39
      have HH := Lib.hid hh
      have HTK := Lib.hid htk
      have HPL := Lib.hid hpl
      clear hr hl hi39 hh hX hb htk hpl hlen
      have hil : (k : Int) < len := by omega
      gi_wp2_with (first | (refine wpListIn_load_g wideF rfl 45 (.tmp 9) rfl b (off + k * 17) rfl (vcells X) _ HR.out Tryd.underlying45 rfl HI.out ?_) | (refine wpListIn_store_row wideF rfl 45 (.tmp 4) (.tmp 10) rfl wr.heap.size rfl (vcells X) rfl 45 (HH.out _ rfl) HI.out (one_vcells X) ?_; intro w1 hp1; have L1 : Below wr.heap.size wr w1 := hp1.below ((Below.refl _ _).alloc (Nat.le_refl _) _) (Nat.le_refl _); have B1 := Lib.hid (hbel.out.trans (L1.mono hbel.out.size)); have S1 := Lib.hid (Nat.le_trans hsz.out L1.size); have hpw := vcells_pow HL.out (blk_range hp1.blk); rw [Nat.zero_add] at hpw; have J1 := abide_ext HJ.out hJs.out L1; obtain ⟨fn, tmps, assign, body, hy, hR⟩ := HY.out _ X.2 w1 J1 HPL.out; have HRR := Lib.hid hR; clear hp1 L1 J1 hR))
      refine HRR.out.mono ?_
      rintro e W3 (⟨rfl, hJ3, hk3⟩ | ⟨rfl, hJx3⟩)
      · have B3 := Lib.hid (B1.out.trans hk3)
        have S3 := Lib.hid (Nat.le_trans S1.out hk3.size)
        have J3 := Lib.hid hJ3
        clear hJ3 hk3 HRR hy hpw
        gi_wp2
        go_roundw
        case rel => exact ⟨k + 1, by omega, by go_num, Lib.hid (by rw [HTK.out]; exact J3.out), B3, S3⟩
        case measure => simp [intOf]; omega
      · clear HRR hy hpw
        gi_wp2
        refine bodyPost_ret (results_none rfl _ _ _) rfl ?_
        exact ⟨⟨_, rfl⟩, .inr ⟨_, trivial, hJx3⟩⟩
    · obtain rfl : k = len := by omega
      gi_wp2
      go_end0
      exact ⟨⟨_, rfl⟩, .inl ⟨_, rfl, by have := hJs.out; rwa [HN.out, List.take_length] at this⟩⟩

theorem total1_stops (n : Nat) (hn : 1 ≤ n) (Bs : Nat) (A : Option Addr) (len cap : Nat) (vs : List Va) (w0 : World) (hBs : w0.cell? ⟨Bs, 0, none⟩ = some (.slice A len cap)) (hv : Vals w0 (.slice A len cap) vs) (hz : len ≤ 1000000) :
    SeqStopsK Fence.wide n Tryd.prog 121 #[.pointer (some ⟨Bs, 0, none⟩)] (fun x : Int => #[Value.int .i64 x]) (Below w0.heap.size) (fun ys => ys = vs.map (·.2)) (fun _ => True) len w0 :=
  fun l J Jx W hW hJ _ hY h0 => total1_in n hn l Bs A len cap vs w0 W J Jx hW hJ hY hBs hv hz h0

def sumW : List Int → Int := List.foldl (fun s v => wrap64 (s + v)) 0
theorem sumW_snoc (pre : List Int) (x : Int) : sumW (pre ++ [x]) = wrap64 (sumW pre + x) := by simp [sumW]

set_option maxHeartbeats 4000000 in
set_option maxRecDepth 100000 in
theorem sum_any (gf : Nat) (lb : Array Value) (ps : List Int) (N : Nat) (w : World) (eg : ∀ args w, (callFunc gf args).run Tryd.prog w = .ok (.enter gf args) w)
    (hseq : SeqStopsK Fence.wide 3 Tryd.prog gf lb (fun x : Int => #[Value.int .i64 x]) (Below w.heap.size) (fun ys => ys = ps) (fun _ => True) N w) :
    Calls Tryd.prog 96 #[.func (.func gf) #[] lb] w fun e w' => e = .returned (.int .i64 (sumW ps)) ∧ Below w.heap.size w w' := by
  refine (callsIn_wide (n := 4)).1 ?_
  refine callsIn_of_wp_marks Tryd.func96 rfl trivial ?_ rfl
  simp only [Tryd.ntmps96, List.size_toArray, List.length_cons, List.length_nil, Nat.reduceAdd, Nat.reduceSub, Array.replicate_succ, Array.replicate_zero, List.push_toArray, List.append_toArray, List.nil_append, List.cons_append]
  gi_wp2
  have bS := Boxed.new w 3 (.int .i64 0)
  have hB0 : Below w.heap.size w (w.alloc (.cells #[.int .i64 0] 3)) := (Below.refl _ w).alloc (Nat.le_refl _) _
  refine wpIn_rangeFunc_ownG rfl (by omega) (gf := gf) (lb := lb) rfl trivial eg hseq belowK_t (belowK_b (by simp)) hB0 (fun _ => rfl)
    (fun pre W => (W.cell? ⟨w.heap.size, 0, none⟩ = some (.int .i64 (sumW pre)) ∧ W.frozen? ⟨w.heap.size, 0, none⟩ = false) ∧ Below w.heap.size w W)
    (fun _ _ _ => False)
    (OwnFrom.and (Own.from (fun s A B row hs hg hr => ⟨cell_kept hs.1 hg hr, (frozen_kept hs.1 hg hr).trans hs.2⟩) _) (ownFrom_below (Nat.le_refl _) (by simp)))
    (fun _ _ _ _ _ hs _ _ => hs)
    ⟨⟨bS.cell, bS.frozen⟩, hB0⟩
    (fun x => { tmps := #[.func (.func gf) #[] lb, undef, .int .i64 0, .pointer (some ⟨w.heap.size, 0, none⟩), .int .i64 x, .func (.func gf) #[] lb, .int .i64 x, undef, undef, undef, undef], defers := [] }) ?assign ?body ?done ?stop
  case assign =>
    intro l x W K hK
    gi_wp2
    exact hK
  case body =>
    rintro l pre x W ⟨⟨hc, hf⟩, hB⟩ _
    gi_wp2
    exact ⟨(KeepsOthers.setCell _ _ _).from _, (Below.refl w.heap.size W).setCell (p := ⟨w.heap.size, 0, none⟩) (Nat.le_refl _) _, ⟨by rw [sumW_snoc]; exact World.cell?_setCell_same' _ _ _ (by rw [hc]; rfl), by rw [World.frozen?_setCell]; exact hf⟩, hB.setCell (p := ⟨w.heap.size, 0, none⟩) (Nat.le_refl _) _⟩
  case done =>
    rintro D ys W hD rfl ⟨⟨hc, _⟩, hB⟩ hK
    gi_wp2
    refine ⟨by simp, .inl ⟨_, _, rfl, run_takeDeferred hK, ?_⟩⟩
    exact ⟨_, results_tmp rfl _ _ _, rfl, hB.trans (belowK_b (w := w) (Nat.le_refl _) W D _ _ (by simp at hD; omega) hK rfl rfl)⟩
  case stop =>
    rintro D c pre W _ _ h _
    exact h.elim
end Go.Proofs.YtniknhhejlgdfaaDoor
/- Slices of integers; slices.Index, slices.Contains at them; the iterator over some validators' powers. -/
namespace Go.Proofs.YtniknhhejlgdfaaDoor
open Go.RowKit Go.Shelf
attribute [local go_sem] Oper.semAt_some

/-- A slice of integers. -/
structure Ins (w : World) (v : Value) (xs : List Int) : Prop where
  form : ∃ A c, v = .slice A xs.length c
  cells : xs ≠ [] → ∃ b off c, v = .slice (some ⟨b, off, none⟩) xs.length c ∧ xs.length ≤ c ∧ c ≤ maxLen ∧ b < w.heap.size ∧ ∀ i, i < xs.length → w.cell? ⟨b, off + i, none⟩ = some (.int .i64 (xs.getD i 0))
theorem Ins.below {w w' : World} {v : Value} {xs : List Int} (h : Ins w v xs) (hb : Below w.heap.size w w') : Ins w' v xs := by
  refine ⟨h.form, fun hne => ?_⟩
  obtain ⟨b, off, c, e, h1, h2, h3, h4⟩ := h.cells hne
  exact ⟨b, off, c, e, h1, h2, Nat.lt_of_lt_of_le h3 hb.size, fun i hi => (hb.cell (p := ⟨b, off + i, none⟩) h3).trans (h4 i hi)⟩
theorem Ins.len {w : World} {A : Option Addr} {n c : Nat} {xs : List Int} (h : Ins w (.slice A n c) xs) : n = xs.length := by
  obtain ⟨A', c', e⟩ := h.form
  simp only [Value.slice.injEq] at e
  exact e.2.1
theorem Ins.el {w : World} {A : Option Addr} {n c : Nat} {xs : List Int} (h : Ins w (.slice A n c) xs) (i : Nat) (hi : i < n) :
    ∃ b off, A = some ⟨b, off, none⟩ ∧ b < w.heap.size ∧ w.cell? ⟨b, off + i, none⟩ = some (.int .i64 (xs.getD i 0)) := by
  have hl := h.len
  obtain ⟨b, off, c', e, _, _, h3, h4⟩ := h.cells (by intro e; subst e; simp at hl; omega)
  simp only [Value.slice.injEq] at e
  exact ⟨b, off, e.1, h3, h4 i (by omega)⟩
theorem Ins.take {w : World} {A : Option Addr} {n c : Nat} {xs : List Int} (h : Ins w (.slice A n c) xs) (k : Nat) (hk : k ≤ n) : Ins w (.slice A k c) (xs.take k) := by
  have hl := h.len
  have hkl : (xs.take k).length = k := by rw [List.length_take]; omega
  refine ⟨⟨A, c, by rw [hkl]⟩, fun hne => ?_⟩
  have hk0 : 0 < k := by
    cases k with
    | zero => exact absurd rfl hne
    | succ => omega
  obtain ⟨b, off, c', e, h1, h2, h3, h4⟩ := h.cells (by intro e; subst e; simp at hl; omega)
  simp only [Value.slice.injEq] at e
  obtain ⟨rfl, _, rfl⟩ := e
  refine ⟨b, off, c, by rw [hkl], by omega, h2, h3, fun i hi => ?_⟩
  rw [h4 i (by omega)]
  simp only [List.getD_eq_getElem?_getD, List.getElem?_take]
  rw [if_pos (by omega)]
/-- The place of a number, or -1. -/
def findI (xs : List Int) (z : Int) : Int :=
  match xs.findIdx? (fun x => decide (x = z)) with
  | some i => i
  | none => -1
theorem findI_at (xs : List Int) (z : Int) (i : Nat) (hi : i < xs.length) (he : xs.getD i 0 = z) (hb : ∀ j, j < i → xs.getD j 0 ≠ z) : findI xs z = i := by
  have : xs.findIdx? (fun x => decide (x = z)) = some i := by
    rw [List.findIdx?_eq_some_iff_getElem]
    refine ⟨hi, ?_, fun j hj => ?_⟩
    · rw [List.getD_eq_getElem?_getD, List.getElem?_eq_getElem hi] at he
      simpa using he
    · have h2 := hb j hj
      rw [List.getD_eq_getElem?_getD, List.getElem?_eq_getElem (Nat.lt_trans hj hi)] at h2
      simpa using h2
  unfold findI
  rw [this]
theorem findI_none (xs : List Int) (z : Int) (hb : ∀ j, j < xs.length → xs.getD j 0 ≠ z) : findI xs z = -1 := by
  have : xs.findIdx? (fun x => decide (x = z)) = none := by
    rw [List.findIdx?_eq_none_iff]
    intro x hx
    obtain ⟨j, hj, rfl⟩ := List.getElem_of_mem hx
    have h2 := hb j hj
    rw [List.getD_eq_getElem?_getD, List.getElem?_eq_getElem hj] at h2
    simpa using h2
  unfold findI
  rw [this]
theorem findI_ge (xs : List Int) (z : Int) : decide (0 ≤ findI xs z) = decide (z ∈ xs) := by
  rw [decide_eq_decide]
  unfold findI
  cases h : xs.findIdx? (fun x => decide (x = z)) with
  | some i =>
    rw [List.findIdx?_eq_some_iff_getElem] at h
    obtain ⟨hi, he, _⟩ := h
    have : xs[i] = z := by simpa using he
    exact ⟨fun _ => by rw [← this]; exact List.getElem_mem hi, fun _ => by simp⟩
  | none =>
    rw [List.findIdx?_eq_none_iff] at h
    constructor
    · intro hh; simp at hh
    · intro hm; have := h z hm; simp at this

set_option maxHeartbeats 4000000 in
set_option maxRecDepth 100000 in
theorem indexI_any (xs : List Int) (z : Int) (A : Option Addr) (n c : Nat) (w : World) (hv : Ins w (.slice A n c) xs) (hz : n ≤ 1000000) :
    Calls Tryd.prog 120 #[.slice A n c, .int .i64 z] w fun e w' => e = .returned (.int .i64 (findI xs z)) ∧ w' = w := by
  have hn := hv.len
  have HV := Lib.hid hv
  have HN := Lib.hid hn
  clear hv hn
  go_enter Tryd.func120, Tryd.ntmps120
  go_wp2
  go_loopw [5, 8] (fun _ k wr => ∃ (i : Nat), i ≤ n ∧ k = .int .i64 i ∧ Hid (∀ j, j < i → xs.getD j 0 ≠ z) ∧ wr = w)
    (fun _ k _ => n - (intOf k).toNat)
  case atStart => exact ⟨0, by omega, rfl, Lib.hid (fun j h => absurd h (by omega)), rfl⟩
  case round =>
    obtain ⟨i, hi, rfl, hne, rfl⟩ := hrel
    by_cases hlt : i < n
    · obtain ⟨b, off, rfl, hb, hr⟩ := HV.out.el i hlt
      obtain ⟨X, hX⟩ : ∃ X, X = xs.getD i 0 := ⟨_, rfl⟩
      rw [← hX] at hr
      have HXE := Lib.hid hX
      clear hX hb
      have hil : (i : Int) < n := by omega
      by_cases he : z = X
      · have hb1 : (z == X) = true := by simp [he]
        go_wp2
        go_ret
        rw [findI_at xs z i (by rw [← HN.out]; exact hlt) (by rw [← HXE.out]; exact he.symm) hne.out]
        exact ⟨rfl, rfl⟩
      · have hb1 : (z == X) = false := by simp [he]
        go_wp2
        go_roundw
        case rel => exact ⟨i + 1, by omega, by go_num, Lib.hid (fun j hj => by
          by_cases hji : j = i
          · subst hji; rw [← HXE.out]; exact fun h => he h.symm
          · exact hne.out j (by omega)), trivial⟩
        case measure => simp [intOf]; omega
    · obtain rfl : i = n := by omega
      go_wp2
      go_ret
      rw [findI_none xs z (by rw [← HN.out]; exact hne.out)]
      exact ⟨rfl, rfl⟩

set_option maxHeartbeats 4000000 in
set_option maxRecDepth 100000 in
theorem containsI_any (xs : List Int) (z : Int) (A : Option Addr) (n c : Nat) (w : World) (hv : Ins w (.slice A n c) xs) (hz : n ≤ 1000000) :
    Calls Tryd.prog 95 #[.slice A n c, .int .i64 z] w fun e w' => e = .returned (.bool (decide (z ∈ xs))) ∧ w' = w := by
  have HV := Lib.hid hv
  clear hv
  have hge := findI_ge xs z
  go_enter Tryd.func95, Tryd.ntmps95
  go_wp2_with (go_at_call 120; refine (indexI_any xs z A n c w HV.out hz).mono ?_; rintro _ w1 ⟨rfl, rfl⟩)
  go_ret
  exact ⟨by first | rfl | rw [← hge]; rfl, rfl⟩

/-- The powers of the places of a list. -/
def powAt (vs : List Va) (who : List Int) : List Int := who.map fun i => (vs.getD i.toNat ([], 0)).2
theorem powAt_take (vs : List Va) (who : List Int) (k : Nat) (hk : k < who.length) : powAt vs (who.take (k + 1)) = powAt vs (who.take k) ++ [(vs.getD (who.getD k 0).toNat ([], 0)).2] := by
  unfold powAt
  rw [List.take_succ_eq_append_getElem hk, List.map_append]
  simp [List.getD_eq_getElem?_getD, List.getElem?_eq_getElem hk]

set_option maxHeartbeats 4000000 in
set_option maxRecDepth 100000 in
theorem some1_in (n : Nat) (hn : 1 ≤ n) (l Bw Bs : Nat) (A A' : Option Addr) (len cap m c' : Nat) (vs : List Va) (who : List Int) (w0 W : World) (J Jx : List Int → World → Prop)
    (hW : Below w0.heap.size w0 W) (hY : Rounds n l w0.heap.size m J Jx) (hBw : w0.cell? ⟨Bw, 0, none⟩ = some (.slice A' m c')) (hBs : w0.cell? ⟨Bs, 0, none⟩ = some (.slice A len cap))
    (hv : Vals w0 (.slice A len cap) vs) (hw : Ins w0 (.slice A' m c') who) (hin : ∀ x ∈ who, 0 ≤ x ∧ x < len) (hz : m ≤ 1000000) (h0 : J [] W) :
    CallsIn Fence.wide n Tryd.prog 97 #[.func (.yield l) #[] #[], .pointer (some ⟨Bw, 0, none⟩), .pointer (some ⟨Bs, 0, none⟩)] W fun e W' => (∃ v, e = .returned v) ∧
      ((∃ ys, ys = powAt vs who ∧ J ys W') ∨ (∃ pre, True ∧ Jx pre W')) := by
  have hn1 := hv.len
  have hn2 := hw.len
  have hcell : W.cell? ⟨Bw, 0, none⟩ = some (.slice A' m c') := cell_on hW hBw
  have HV := Lib.hid hv
  have HW := Lib.hid hw
  have HN := Lib.hid hn1
  have HN2 := Lib.hid hn2
  have HY := Lib.hid hY
  have J0 := Lib.hid h0
  have HBS := Lib.hid hBs
  have HIN := Lib.hid hin
  clear hv hn1 hn2 hw hBs hBw hY h0 hin
  refine callsIn_of_wp Tryd.func97 rfl trivial ?_ rfl
  simp only [Tryd.ntmps97, List.size_toArray, List.length_cons, List.length_nil, Nat.reduceAdd, Nat.reduceSub, Array.replicate_succ, Array.replicate_zero, List.push_toArray, List.append_toArray, List.nil_append, List.cons_append]
  gi_wp2
  clear hcell
  gi_loopw [8] (fun i wr => ∃ k : Nat, k ≤ m ∧ i = .int .i64 k ∧ Hid (J (powAt vs (who.take k)) wr) ∧ Hid (Below w0.heap.size w0 wr))
    (fun i _ => m - (intOf i).toNat)
  case atStart => exact ⟨0, Nat.zero_le _, rfl, J0, Lib.hid hW⟩
  case round =>
    obtain ⟨k, hk, rfl, hJs, hbel⟩ := hrel
    by_cases hlt : k < m
    · obtain ⟨bw, ow, rfl, hbw, hrw⟩ := (HW.out.below hbel.out).el k hlt
      have hlen : k < who.length := by rw [← HN2.out]; exact hlt
      have hmem : who.getD k 0 ∈ who := by rw [List.getD_eq_getElem?_getD, List.getElem?_eq_getElem hlen]; exact List.getElem_mem _
      obtain ⟨hx0, hx1⟩ := HIN.out _ hmem
      have htk := powAt_take vs who k hlen
      obtain ⟨z, hzz⟩ : ∃ z, z = who.getD k 0 := ⟨_, rfl⟩
      rw [← hzz] at hrw hx0 hx1 htk
      clear hmem hzz
      obtain ⟨i, rfl⟩ : ∃ i : Nat, z = i := ⟨z.toNat, by omega⟩
      have hi : i < len := by omega
      obtain ⟨b, off, rfl, hb, hr⟩ := (HV.out.below hbel.out).el i hi
      have hl := HV.out.at i (by rw [← HN.out]; exact hi)
      rw [Int.toNat_natCast] at htk
      obtain ⟨X, hX⟩ : ∃ X, X = vs.getD i ([], 0) := ⟨_, rfl⟩
      rw [← hX] at hr hl htk
      have hpw := vcells_pow hl hr
      have hcs : wr.cell? ⟨Bs, 0, none⟩ = some (.slice (some ⟨b, off, none⟩) len cap) := cell_on hbel.out HBS.out
      have hpl : (powAt vs (who.take k)).length < m := by unfold powAt; rw [List.length_map, List.length_take]; omega
      obtain ⟨fn, tmps, assign, body, hy, hR⟩ := HY.out _ X.2 wr hJs.out hpl
      have HRR := Lib.hid hR
      have HTK := Lib.hid htk
      clear hr hl hX hb htk hpl hlen hbw hR
      have hil : (k : Int) < m := by omega
      have hil2 : (i : Int) < len := by omega
      gi_wp2
      refine HRR.out.mono ?_
      rintro e W3 (⟨rfl, hJ3, hk3⟩ | ⟨rfl, hJx3⟩)
      · have B3 := Lib.hid (hbel.out.trans hk3)
        have J3 := Lib.hid hJ3
        clear hJ3 hk3 HRR hy hpw hcs hrw
        gi_wp2
        go_roundw
        case rel => exact ⟨k + 1, by omega, by go_num, Lib.hid (by rw [HTK.out]; exact J3.out), B3⟩
        case measure => simp [intOf]; omega
      · clear HRR hy hpw hcs hrw
        gi_wp2
        refine bodyPost_ret (results_none rfl _ _ _) rfl ?_
        exact ⟨⟨_, rfl⟩, .inr ⟨_, trivial, hJx3⟩⟩
    · obtain rfl : k = m := by omega
      gi_wp2
      go_end0
      exact ⟨⟨_, rfl⟩, .inl ⟨_, rfl, by have := hJs.out; rwa [HN2.out, List.take_length] at this⟩⟩

theorem some1_stops (n : Nat) (hn : 1 ≤ n) (Bw Bs : Nat) (A A' : Option Addr) (len cap m c' : Nat) (vs : List Va) (who : List Int) (w0 : World)
    (hBw : w0.cell? ⟨Bw, 0, none⟩ = some (.slice A' m c')) (hBs : w0.cell? ⟨Bs, 0, none⟩ = some (.slice A len cap))
    (hv : Vals w0 (.slice A len cap) vs) (hw : Ins w0 (.slice A' m c') who) (hin : ∀ x ∈ who, 0 ≤ x ∧ x < len) (hz : m ≤ 1000000) :
    SeqStopsK Fence.wide n Tryd.prog 97 #[.pointer (some ⟨Bw, 0, none⟩), .pointer (some ⟨Bs, 0, none⟩)] (fun x : Int => #[Value.int .i64 x]) (Below w0.heap.size) (fun ys => ys = powAt vs who) (fun _ => True) m w0 :=
  fun l J Jx W hW _ _ hY h0 => some1_in n hn l Bw Bs A A' len cap m c' vs who w0 W J Jx hW hY hBw hBs hv hw hin hz h0
end Go.Proofs.YtniknhhejlgdfaaDoor
/- Where a key is: slices.IndexFunc at validators, Find. -/
namespace Go.Proofs.YtniknhhejlgdfaaDoor
open Go.RowKit

/-- The place of a key, or -1. -/
def findK (vs : List Va) (key : List Int) : Int :=
  match vs.findIdx? (fun x => decide (x.1 = key)) with
  | some i => i
  | none => -1
theorem findK_at (vs : List Va) (key : List Int) (i : Nat) (hi : i < vs.length) (he : (vs.getD i ([], 0)).1 = key) (hb : ∀ j, j < i → (vs.getD j ([], 0)).1 ≠ key) : findK vs key = i := by
  have : vs.findIdx? (fun x => decide (x.1 = key)) = some i := by
    rw [List.findIdx?_eq_some_iff_getElem]
    refine ⟨hi, ?_, fun j hj => ?_⟩
    · rw [List.getD_eq_getElem?_getD, List.getElem?_eq_getElem hi] at he
      simpa using he
    · have h2 := hb j hj
      rw [List.getD_eq_getElem?_getD, List.getElem?_eq_getElem (Nat.lt_trans hj hi)] at h2
      simpa using h2
  unfold findK
  rw [this]
theorem findK_none (vs : List Va) (key : List Int) (hb : ∀ j, j < vs.length → (vs.getD j ([], 0)).1 ≠ key) : findK vs key = -1 := by
  have : vs.findIdx? (fun x => decide (x.1 = key)) = none := by
    rw [List.findIdx?_eq_none_iff]
    intro x hx
    obtain ⟨j, hj, rfl⟩ := List.getElem_of_mem hx
    have h2 := hb j hj
    rw [List.getD_eq_getElem?_getD, List.getElem?_eq_getElem hj] at h2
    simpa using h2
  unfold findK
  rw [this]

set_option maxHeartbeats 4000000 in
set_option maxRecDepth 100000 in
theorem index_any (vs : List Va) (key : List Int) (A : Option Addr) (n c : Nat) (hk : key.length = 16) (bx : Nat) (w : World) (hv : Vals w (.slice A n c) vs) (hx : w.rangeAt bx 0 (u8s key)) (hz : n ≤ 1000000) :
    Calls Tryd.prog 68 #[.slice A n c, .func (.func 69) #[] #[.pointer (some ⟨bx, 0, none⟩)]] w fun e w' => e = .returned (.int .i64 (findK vs key)) ∧ Below w.heap.size w w' := by
  have hn := hv.len
  have HV := Lib.hid hv
  have HX := Lib.hid hx
  have HN := Lib.hid hn
  clear hv hx hn
  go_enter Tryd.func68, Tryd.ntmps68
  go_wp2
  go_loopw [5, 8] (fun _ k wr => ∃ (i : Nat), i ≤ n ∧ k = .int .i64 i ∧ Hid (∀ j, j < i → (vs.getD j ([], 0)).1 ≠ key) ∧ Hid (Below w.heap.size w wr))
    (fun _ k _ => n - (intOf k).toNat)
  case atStart => exact ⟨0, by omega, rfl, Lib.hid (fun j h => absurd h (by omega)), Lib.hid (Below.refl _ _)⟩
  case round =>
    obtain ⟨i, hi, rfl, hne, hbel⟩ := hrel
    by_cases hlt : i < n
    · obtain ⟨b, off, rfl, hb, hr⟩ := (HV.out.below hbel.out).el i hlt
      have hl := HV.out.at i (by rw [← HN.out]; exact hlt)
      obtain ⟨X, hX⟩ : ∃ X, X = vs.getD i ([], 0) := ⟨_, rfl⟩
      rw [← hX] at hr hl
      have hi39 : (Tryd.prog.info? 45).map (·.size) = some (vcells X).length := by rw [vcells_len X hl]; exact Tryd.size45
      have HR := Lib.hid hr
      have HL := Lib.hid hl
      have HI := Lib.hid hi39
      have HXE := Lib.hid hX
      have hkx := range_below HX.out hbel.out
      have HKX := Lib.hid hkx
      clear hr hl hi39 hX hkx hb
      have hil : (i : Int) < n := by omega
      go_wp2_with (first | (refine wpList_load_g rfl 45 (.tmp 14) rfl b (off + i * 17) rfl (vcells X) _ HR.out Tryd.underlying45 rfl HI.out ?_) | (go_at_call 69; refine (find1_any X key HL.out hk bx wr HKX.out).mono ?_; rintro _ w1 ⟨rfl, bel1⟩; have B1 := Lib.hid (hbel.out.trans (bel1.mono hbel.out.size)); clear bel1))
      · rename_i hc
        have he : X.1 = key := by simpa using hc
        go_ret
        refine ⟨?_, B1.out⟩
        rw [findK_at vs key i (by rw [← HN.out]; exact hlt) (by rw [← HXE.out]; exact he) hne.out]
        rfl
      · rename_i hc
        have he : X.1 ≠ key := by simpa using hc
        go_roundw
        case rel => exact ⟨i + 1, by omega, by go_num, Lib.hid (fun j hj => by
          by_cases hji : j = i
          · subst hji; rw [← HXE.out]; exact he
          · exact hne.out j (by omega)), B1⟩
        case measure => simp [intOf]; omega
    · obtain rfl : i = n := by omega
      go_wp2
      go_ret
      refine ⟨?_, hbel.out⟩
      rw [findK_none vs key (by rw [← HN.out]; exact hne.out)]
      rfl

set_option maxHeartbeats 4000000 in
set_option maxRecDepth 100000 in
theorem find_any (vs : List Va) (key : List Int) (A : Option Addr) (n c : Nat) (hk : key.length = 16) (w : World) (hv : Vals w (.slice A n c) vs) (hz : n ≤ 1000000) :
    Calls Tryd.prog 51 #[.slice A n c, .agg (u8s key).toArray] w fun e w' => e = .returned (.int .i64 (findK vs key)) ∧ Below w.heap.size w w' := by
  have hv1 : Vals (w.alloc (.cells (u8s key).toArray 24)) (.slice A n c) vs := hv.below ((Below.refl _ _).alloc (Nat.le_refl _) _)
  have hx1 : (w.alloc (.cells (u8s key).toArray 24)).rangeAt w.heap.size 0 (u8s key) := range_new w (u8s key) 24
  have HV := Lib.hid hv1
  have HX := Lib.hid hx1
  clear hv hv1 hx1
  go_enter Tryd.func51, Tryd.ntmps51
  go_wp2_with (go_at_call 68; refine (index_any vs key A n c hk w.heap.size _ HV.out HX.out hz).mono ?_; rintro _ w1 ⟨rfl, bel1⟩; have B1 := Lib.hid (((Below.refl w.heap.size w).alloc (Nat.le_refl _) (.cells (u8s key).toArray 24)).trans (bel1.mono (by simp))); clear bel1)
  go_ret
  exact ⟨rfl, B1.out⟩
end Go.Proofs.YtniknhhejlgdfaaDoor
/- Which validators are right: powers.Check. -/
namespace Go.Proofs.YtniknhhejlgdfaaDoor
open Go.RowKit

/-- The sentinels that layer 8 hands out, as they lie. -/
structure Sen (w : World) (aS aR aT : Addr) : Prop where
  s : w.cell? ⟨11, 0, none⟩ = some (.iface 216 (.pointer (some aS)))
  r : w.cell? ⟨1, 0, none⟩ = some (.iface 216 (.pointer (some aR)))
  t : w.cell? ⟨17, 0, none⟩ = some (.iface 216 (.pointer (some aT)))
theorem Sen.below {w w' : World} {aS aR aT : Addr} (h : Sen w aS aR aT) (hb : Below w.heap.size w w') : Sen w' aS aR aT :=
  ⟨cell_on hb h.s, cell_on hb h.r, cell_on hb h.t⟩
def okAt (vs : List Va) (i : Nat) : Bool := decide (1 ≤ (vs.getD i ([], 0)).2 ∧ (vs.getD i ([], 0)).2 ≤ 1099511627776 ∧ findK vs (vs.getD i ([], 0)).1 = i)
/-- Validators are right. -/
def validB (vs : List Va) : Bool := decide (1 ≤ vs.length ∧ vs.length ≤ 7) && (List.range vs.length).all (okAt vs)
theorem validB_no (vs : List Va) (i : Nat) (hi : i < vs.length) (h : okAt vs i = false) : validB vs = false := by
  unfold validB
  rw [show (List.range vs.length).all (okAt vs) = false from ?_, Bool.and_false]
  rw [List.all_eq_false]
  exact ⟨i, by simpa using hi, by simp [h]⟩
theorem validB_len (vs : List Va) (h : ¬ (1 ≤ vs.length ∧ vs.length ≤ 7)) : validB vs = false := by
  unfold validB
  rw [decide_eq_false h, Bool.false_and]
theorem validB_yes (vs : List Va) (h : 1 ≤ vs.length ∧ vs.length ≤ 7) (ha : ∀ i, i < vs.length → okAt vs i = true) : validB vs = true := by
  unfold validB
  rw [decide_eq_true h, Bool.true_and, List.all_eq_true]
  exact fun i hi => ha i (by simpa using hi)
def checkV (vs : List Va) (aS : Addr) : Value := if validB vs then .nilIface else errV aS

set_option maxHeartbeats 4000000 in
set_option maxRecDepth 100000 in
theorem check1_any (vs : List Va) (A : Option Addr) (n c : Nat) (aS : Addr) (w : World) (hv : Vals w (.slice A n c) vs) (hs : w.cell? ⟨11, 0, none⟩ = some (errV aS)) :
    Calls Tryd.prog 29 #[.slice A n c] w fun e w' => e = .returned (checkV vs aS) ∧ Below w.heap.size w w' := by
  have hn := hv.len
  have HV := Lib.hid hv
  have HS := Lib.hid hs
  have HN := Lib.hid hn
  have hc0 := hs
  clear hv hs hn
  go_enter Tryd.func29, Tryd.ntmps29
  by_cases h1 : n < 1
  · have e1 : checkV vs aS = errV aS := by unfold checkV; rw [validB_len vs (by rw [← HN.out]; omega)]; rfl
    have E1 := Lib.hid e1
    clear e1
    have h1' : (n : Int) < 1 := by omega
    go_wp2
    go_ret
    exact ⟨by rw [E1.out]; rfl, Below.refl _ _⟩
  by_cases h2 : 7 < n
  · have e1 : checkV vs aS = errV aS := by unfold checkV; rw [validB_len vs (by rw [← HN.out]; omega)]; rfl
    have E1 := Lib.hid e1
    clear e1
    have h1' : ¬ (n : Int) < 1 := by omega
    have h2' : (7 : Int) < n := by omega
    go_wp2
    go_ret
    exact ⟨by rw [E1.out]; rfl, Below.refl _ _⟩
  have h1' : ¬ (n : Int) < 1 := by omega
  have h2' : ¬ (7 : Int) < n := by omega
  go_wp2
  clear h1' h2'
  go_loopw [16] (fun k wr => ∃ (i : Nat), i ≤ n ∧ k = .int .i64 i ∧ Hid (∀ j, j < i → okAt vs j = true) ∧ Hid (Below w.heap.size w wr))
    (fun k _ => n - (intOf k).toNat)
  case atStart => exact ⟨0, by omega, rfl, Lib.hid (fun j h => absurd h (by omega)), Lib.hid (Below.refl _ _)⟩
  case round =>
    obtain ⟨i, hi, rfl, hok, hbel⟩ := hrel
    have hcw : wr.cell? ⟨11, 0, none⟩ = some (.iface 216 (.pointer (some aS))) := cell_on hbel.out hc0
    by_cases hlt : i < n
    · have hvr := HV.out.below hbel.out
      obtain ⟨b, off, rfl, hb, hr⟩ := hvr.el i hlt
      have hl := HV.out.at i (by rw [← HN.out]; exact hlt)
      obtain ⟨X, hX⟩ : ∃ X, X = vs.getD i ([], 0) := ⟨_, rfl⟩
      have hokx : okAt vs i = decide (1 ≤ X.2 ∧ X.2 ≤ 1099511627776 ∧ findK vs X.1 = i) := by rw [hX]; rfl
      rw [← hX] at hr hl
      have hi39 : (Tryd.prog.info? 45).map (·.size) = some (vcells X).length := by rw [vcells_len X hl]; exact Tryd.size45
      have hi37 : (Tryd.prog.info? 24).map (·.size) = some (u8s X.1).length := by rw [u8s_len', hl]; exact Tryd.size24
      have hh : ∀ Z : Array Value, Z.size = 17 → Has (wr.alloc (.cells Z 45)) wr.heap.size 45 (vcells X).length := fun Z hZ => has_new wr _ _ _ (by rw [hZ, vcells_len X hl])
      have hno : okAt vs i = false → checkV vs aS = errV aS := fun h => by unfold checkV; rw [validB_no vs i (by rw [← HN.out]; exact hlt) h]; rfl
      have HR := Lib.hid hr
      have HL := Lib.hid hl
      have HI := Lib.hid hi39
      have HI7 := Lib.hid hi37
      have HH := Lib.hid hh
      have HVR := Lib.hid hvr
      have HNO := Lib.hid hno
      have HOX := Lib.hid hokx
      clear hr hl hi39 hi37 hh hX hb hvr hno hokx hc0
      have hil : (i : Int) < n := by omega
      by_cases p1 : X.2 < 1
      · go_wp2_with (first | (refine wpList_load_g rfl 45 (.tmp 19) rfl b (off + i * 17) rfl (vcells X) _ HR.out Tryd.underlying45 rfl HI.out ?_) | (refine wpList_store_row rfl 45 (.tmp 4) (.tmp 20) rfl wr.heap.size rfl (vcells X) rfl 45 (HH.out _ rfl) HI.out (one_vcells X) ?_; intro w1 hp1; have L1 : Below wr.heap.size wr w1 := hp1.below ((Below.refl _ _).alloc (Nat.le_refl _) _) (Nat.le_refl _); have B1 := Lib.hid (hbel.out.trans (L1.mono hbel.out.size)); have hpw := vcells_pow HL.out (blk_range hp1.blk); rw [Nat.zero_add] at hpw; have hcw1 := cell_on L1 hcw; clear hp1 L1 hcw))
        go_ret
        refine ⟨?_, B1.out⟩
        rw [HNO.out (by rw [HOX.out]; exact decide_eq_false (fun h => by omega))]
        rfl
      by_cases p2 : 1099511627776 < X.2
      · go_wp2_with (first | (refine wpList_load_g rfl 45 (.tmp 19) rfl b (off + i * 17) rfl (vcells X) _ HR.out Tryd.underlying45 rfl HI.out ?_) | (refine wpList_store_row rfl 45 (.tmp 4) (.tmp 20) rfl wr.heap.size rfl (vcells X) rfl 45 (HH.out _ rfl) HI.out (one_vcells X) ?_; intro w1 hp1; have L1 : Below wr.heap.size wr w1 := hp1.below ((Below.refl _ _).alloc (Nat.le_refl _) _) (Nat.le_refl _); have B1 := Lib.hid (hbel.out.trans (L1.mono hbel.out.size)); have hpw := vcells_pow HL.out (blk_range hp1.blk); rw [Nat.zero_add] at hpw; have hcw1 := cell_on L1 hcw; clear hp1 L1 hcw))
        go_ret
        refine ⟨?_, B1.out⟩
        rw [HNO.out (by rw [HOX.out]; exact decide_eq_false (fun h => by omega))]
        rfl
      go_wp2_with (first | (refine wpList_load_g rfl 45 (.tmp 19) rfl b (off + i * 17) rfl (vcells X) _ HR.out Tryd.underlying45 rfl HI.out ?_) | (refine wpList_store_row rfl 45 (.tmp 4) (.tmp 20) rfl wr.heap.size rfl (vcells X) rfl 45 (HH.out _ rfl) HI.out (one_vcells X) ?_; intro w1 hp1; have L1 : Below wr.heap.size wr w1 := hp1.below ((Below.refl _ _).alloc (Nat.le_refl _) _) (Nat.le_refl _); have B1 := Lib.hid (hbel.out.trans (L1.mono hbel.out.size)); have hpw := vcells_pow HL.out (blk_range hp1.blk); rw [Nat.zero_add] at hpw; have hcw1 := cell_on L1 hcw; have RK := Lib.hid (vcells_key (blk_range hp1.blk)); have V1 := Lib.hid (HVR.out.below L1); clear hp1 L1 hcw) | (refine wpList_load_g rfl 24 (.tmp 31) rfl wr.heap.size 0 rfl (u8s X.1) _ RK.out Tryd.underlying24 rfl HI7.out ?_))
      refine (find_any vs X.1 _ n c HL.out w1 V1.out (by omega)).mono ?_
      rintro _ w2 ⟨rfl, bel2⟩
      have B2 := Lib.hid (B1.out.trans (bel2.mono B1.out.size))
      have hcw2 := cell_on bel2 hcw1
      clear bel2 hcw1 hpw RK V1 B1
      obtain ⟨K, hK⟩ : ∃ K, K = findK vs X.1 := ⟨_, rfl⟩
      rw [← hK] at HOX ⊢
      by_cases hKi : K = i
      · have hne : (K != (i : Int)) = false := by simp [hKi]
        clear hK
        go_wp2
        go_roundw
        case rel => exact ⟨i + 1, by omega, by go_num, Lib.hid (fun j hj => by
          by_cases hji : j = i
          · subst hji; rw [HOX.out]; exact decide_eq_true ⟨by omega, by omega, hKi⟩
          · exact hok.out j (by omega)), B2⟩
        case measure => simp [intOf]; omega
      · have hne : (K != (i : Int)) = true := by simp [hKi]
        clear hK
        go_wp2
        go_ret
        refine ⟨?_, B2.out⟩
        rw [HNO.out (by rw [HOX.out]; exact decide_eq_false (fun h => hKi h.2.2))]
        rfl
    · obtain rfl : i = n := by omega
      go_wp2
      go_ret
      refine ⟨?_, hbel.out⟩
      unfold checkV
      rw [validB_yes vs (by rw [← HN.out]; omega) (by rw [← HN.out]; exact hok.out)]
      rfl
theorem check_any (vs : List Va) (A : Option Addr) (n c : Nat) (aS aR aT : Addr) (w : World) (hv : Vals w (.slice A n c) vs) (hs : Sen w aS aR aT) :
    Calls Tryd.prog 29 #[.slice A n c] w fun e w' => e = .returned (checkV vs aS) ∧ Below w.heap.size w w' := check1_any vs A n c aS w hv hs.s
end Go.Proofs.YtniknhhejlgdfaaDoor
/- What all validators have, and how much is a quorum: powers.Total, powers.Quorum. -/
namespace Go.Proofs.YtniknhhejlgdfaaDoor
open Go.RowKit Go.Shelf

theorem sumW_fold : ∀ (ps : List Int) (s : Int), 0 ≤ s → (∀ p ∈ ps, 0 ≤ p ∧ p ≤ 1099511627776) → s + ps.length * 1099511627776 ≤ 9223372036854775807 →
    ps.foldl (fun s v => wrap64 (s + v)) s = s + ps.sum ∧ s ≤ s + ps.sum ∧ s + ps.sum ≤ s + ps.length * 1099511627776
  | [], s, _, _, _ => by simp
  | p :: ps, s, hs, hp, hb => by
    obtain ⟨h0, h1⟩ := hp p (by simp)
    simp only [List.length_cons, Int.natCast_add, Int.natCast_one, Int.add_mul] at hb
    have hw : wrap64 (s + p) = s + p := by unfold wrap64; omega
    obtain ⟨ih1, ih2, ih3⟩ := sumW_fold ps (s + p) (by omega) (fun q hq => hp q (List.mem_cons_of_mem _ hq)) (by omega)
    simp only [List.foldl_cons, hw, List.sum_cons, List.length_cons, Int.natCast_add, Int.natCast_one, Int.add_mul]
    refine ⟨by rw [ih1]; omega, by omega, by omega⟩
theorem sumW_eq (ps : List Int) (hp : ∀ p ∈ ps, 0 ≤ p ∧ p ≤ 1099511627776) (hl : ps.length ≤ 1000) : sumW ps = ps.sum ∧ 0 ≤ ps.sum ∧ ps.sum ≤ 1099511627776000 := by
  obtain ⟨h1, h2, h3⟩ := sumW_fold ps 0 (Int.le_refl _) hp (by omega)
  refine ⟨by unfold sumW; rw [h1]; omega, by omega, by omega⟩

theorem validB_iff (vs : List Va) : validB vs = true ↔ (1 ≤ vs.length ∧ vs.length ≤ 7) ∧ ∀ i, i < vs.length → (1 ≤ (vs.getD i ([], 0)).2 ∧ (vs.getD i ([], 0)).2 ≤ 1099511627776 ∧ findK vs (vs.getD i ([], 0)).1 = i) := by
  unfold validB okAt
  rw [Bool.and_eq_true, decide_eq_true_iff, List.all_eq_true]
  simp only [List.mem_range, decide_eq_true_iff]
theorem valid_pow {vs : List Va} (h : validB vs = true) : ∀ p ∈ vs.map (·.2), 1 ≤ p ∧ p ≤ 1099511627776 := by
  intro p hp
  rw [List.mem_map] at hp
  obtain ⟨x, hx, rfl⟩ := hp
  obtain ⟨i, hi, rfl⟩ := List.getElem_of_mem hx
  have := ((validB_iff vs).1 h).2 i hi
  rw [List.getD_eq_getElem?_getD, List.getElem?_eq_getElem hi] at this
  exact ⟨this.1, this.2.1⟩
theorem valid_len {vs : List Va} (h : validB vs = true) : 1 ≤ vs.length ∧ vs.length ≤ 7 := ((validB_iff vs).1 h).1

/-- All their power. -/
def total (vs : List Va) : Int := if validB vs then (vs.map (·.2)).sum else 0
theorem total_valid {vs : List Va} (h : validB vs = true) : total vs = (vs.map (·.2)).sum ∧ sumW (vs.map (·.2)) = total vs ∧ 1 ≤ total vs ∧ total vs ≤ 1099511627776000 := by
  have hp := valid_pow h
  obtain ⟨h1, h2, h3⟩ := sumW_eq (vs.map (·.2)) (fun p hp' => by have := hp p hp'; omega) (by have := valid_len h; simp; omega)
  have ht : total vs = (vs.map (·.2)).sum := by unfold total; rw [if_pos h]
  refine ⟨ht, by rw [h1, ht], ?_, by omega⟩
  rw [ht]
  cases hv : vs with
  | nil => have := valid_len h; rw [hv] at this; simp at this
  | cons x xs =>
    rw [hv] at hp
    have h0 : 0 ≤ (xs.map (·.2)).sum := (sumW_eq (xs.map (·.2)) (fun p hp' => by have := hp p (by simp only [List.map_cons, List.mem_cons]; exact .inr hp'); omega) (by have := valid_len h; rw [hv] at this; simp at this ⊢; omega)).2.1
    have := hp x.2 (by simp)
    simp only [List.map_cons, List.sum_cons]
    omega
theorem total_range (vs : List Va) : 0 ≤ total vs ∧ total vs ≤ 1099511627776000 := by
  by_cases h : validB vs = true
  · have := (total_valid h).2.2
    omega
  · unfold total
    rw [if_neg h]
    omega
def quorum (vs : List Va) : Int := if total vs = 0 then 0 else 2 * total vs / 3 + 1

set_option maxHeartbeats 4000000 in
set_option maxRecDepth 100000 in
theorem total_any (vs : List Va) (A : Option Addr) (n c : Nat) (aS aR aT : Addr) (w : World) (hv : Vals w (.slice A n c) vs) (hs : Sen w aS aR aT) (hz : n ≤ 1000000) :
    Calls Tryd.prog 98 #[.slice A n c] w fun e w' => e = .returned (.int .i64 (total vs)) ∧ Below w.heap.size w w' := by
  have bel0 : Below w.heap.size w (w.alloc (.cells #[.slice A n c] 22)) := (Below.refl _ _).alloc (Nat.le_refl _) _
  have hbox := (Boxed.new w 22 (.slice A n c)).cell
  have HV := Lib.hid (hv.below bel0)
  have HS := Lib.hid (hs.below bel0)
  have HB := Lib.hid bel0
  have HBX := Lib.hid hbox
  clear hv hs bel0 hbox
  go_enter Tryd.func98, Tryd.ntmps98
  go_wp2_with fail
  refine (check_any vs A n c aS aR aT _ HV.out HS.out).mono ?_
  rintro _ w1 ⟨rfl, bel1⟩
  have HV1 := Lib.hid (HV.out.below bel1)
  have HBX1 := Lib.hid (cell_on bel1 HBX.out)
  have B1 := Lib.hid (HB.out.trans (bel1.mono HB.out.size))
  clear bel1
  by_cases hval : validB vs = true
  · have hck : checkV vs aS = .nilIface := by unfold checkV; rw [if_pos hval]
    have HT := Lib.hid (total_valid hval).2.1
    rw [hck]
    clear hck
    go_wp2_with fail
    refine (sum_any 121 _ (vs.map (·.2)) n w1 (enters_of Tryd.func121 (by kernel_rfl) rfl) (total1_stops 3 (by omega) w.heap.size A n c vs w1 HBX1.out HV1.out hz)).mono ?_
    rintro _ w2 ⟨rfl, bel2⟩
    have B2 := Lib.hid (B1.out.trans (bel2.mono B1.out.size))
    rw [HT.out]
    clear bel2
    go_wp2
    go_ret
    exact ⟨rfl, B2.out⟩
  · have hck : checkV vs aS = errV aS := by unfold checkV; rw [if_neg hval]
    have HT : Hid (total vs = 0) := Lib.hid (by unfold total; rw [if_neg hval])
    rw [hck]
    clear hck
    go_wp2
    go_ret
    exact ⟨by rw [HT.out]; rfl, B1.out⟩

set_option maxHeartbeats 4000000 in
set_option maxRecDepth 100000 in
theorem quorum_any (vs : List Va) (A : Option Addr) (n c : Nat) (aS aR aT : Addr) (w : World) (hv : Vals w (.slice A n c) vs) (hs : Sen w aS aR aT) (hz : n ≤ 1000000) :
    Calls Tryd.prog 81 #[.slice A n c] w fun e w' => e = .returned (.int .i64 (quorum vs)) ∧ Below w.heap.size w w' := by
  have HV := Lib.hid hv
  have HS := Lib.hid hs
  clear hv hs
  go_enter Tryd.func81, Tryd.ntmps81
  go_wp2_with fail
  refine (total_any vs A n c aS aR aT w HV.out HS.out hz).mono ?_
  rintro _ w1 ⟨rfl, bel1⟩
  obtain ⟨h0, h1⟩ := total_range vs
  have hq : quorum vs = if total vs = 0 then 0 else 2 * total vs / 3 + 1 := rfl
  obtain ⟨T, hT⟩ : ∃ T, T = total vs := ⟨_, rfl⟩
  rw [← hT] at h0 h1 hq ⊢
  have HQ := Lib.hid hq
  have B1 := Lib.hid bel1
  clear hT hq bel1
  by_cases hz0 : T = 0
  · subst hz0
    go_wp2
    go_ret
    exact ⟨by rw [HQ.out]; rfl, B1.out⟩
  · have hb : (T == 0) = false := by simp [hz0]
    have hm : IntKind.i64.wrap (2 * T) = 2 * T := by rw [IntKind.wrap_i64]; omega
    go_wp2
    go_ret
    refine ⟨?_, B1.out⟩
    rw [HQ.out, if_neg hz0]
    rfl
end Go.Proofs.YtniknhhejlgdfaaDoor
