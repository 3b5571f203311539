/- Lemmas that laws of this seat rest on, part 7; each says its own conditions: KeyVer, Open, Kit, Sents, KitN, KitB, KitD, KitS, VOps, VRely, VRelyMore, VVal, VEqVa, VSameVa, YRelyMore, YAppD, ZRely2. -/
import Derived.ProofKit
import Derived.OpenShut
import Derived.Test.YtniknhhejlgdfaaGreatDoorTie
import Derived.Test.YtniknhhejlgdfaaGreatDoorCards
import Derived.LaidMore
import Derived.Stop.Joined
import Derived.Lib.LaidTab
import Derived.Lib.LaidU8
import Derived.SevenTiedAt
import Derived.Stop.LaidTwo
import Derived.Stop.LaidErr
import Derived.Deep.Strs
import Derived.WalkKit
import Derived.WalkSpells
import Derived.Maps.AppendAt
import Derived.Deep.MidRow
import Derived.Deep.AppendSrc
import Derived.Lib.Hide
import Derived.Orders
import Derived.Test.YtniknhhejlgdfaaGreatDoorProg
import Derived.Test.YtniknhhejlgdfaaGreatDoorRows
import Derived.StillTailTactics
import Derived.Deep.QuietTactic
import Derived.BigQuiet
import Derived.IntWalk
import Derived.Lib.ConvBytes
import Derived.Lib.SlBytesRow
import Derived.Lib.SlBytesConst
import Derived.Laws.Cover3
import Derived.OwnWalk
import Derived.Still
import Derived.StillTactics
import Derived.Laws.Pointers
import Derived.Test.YtniknhhejlgdfaaGreatDoorBase1
import Derived.Test.YtniknhhejlgdfaaGreatDoorBase2
import Derived.Test.YtniknhhejlgdfaaGreatDoorBase5
import Derived.Test.YtniknhhejlgdfaaGreatDoorBase6
/- What keys.Verify does. -/
namespace Go.Proofs.YtniknhhejlgdfaaGreatDoor
open Go.RowKit

/-- Whether a signature is right. -/
def rightC (rt m : List Int) (l : Int) (ds ps : List (List Int)) : Bool :=
  decide ((0 ≤ l ∧ l < 32) ∧ ds.length = 68 ∧ ps.length = 5 ∧ climbAt (publicC l (recE l ds m 68)) l.toNat ps 5 = rt)
theorem run_eql43 (a b : List Int) (ha : a.length = 16) (hb : b.length = 16) (W : World) : (binOp .eql 24 (.agg (u8s a).toArray) (.agg (u8s b).toArray)).run Tryz.prog W = .ok (.bool (decide (a = b))) W :=
  run_eql_bytes 24 5 16 a b Tryz.underlying24 Tryz.underlying5 (by kernel_rfl) ha hb

set_option maxHeartbeats 8000000 in
set_option maxRecDepth 100000 in
theorem verify_any (rt m : List Int) (hrl : rt.length = 16) (hlm : m.length = 16) (hm : u8s_ok m) (l : Int) (ds ps : List (List Int)) (A B : Option Addr) (n c k d : Nat) (aR aF : Addr) (w : World)
    (hx : Dgs w (.slice A n c) ds) (hp : Dgs w (.slice B k d) ps) (hn : n = ds.length ∧ k = ps.length) (hr : w.cell? ⟨0, 0, none⟩ = some (errV aR)) (hf : w.cell? ⟨3, 0, none⟩ = some (errV aF))
    (hk : w.rangeAt 18 0 (u32s kk)) (h18 : 18 < w.heap.size) :
    Calls Tryz.prog 74 #[.agg (u8s rt).toArray, .agg (u8s m).toArray, sigV l (.slice A n c) (.slice B k d)] w fun e w' => e = .returned (.bool (rightC rt m l ds ps)) ∧ Below w.heap.size w w' := by
  have hi43 : ∀ V : List Int, V.length = 16 → (Tryz.prog.info? 24).map (·.size) = some (u8s V).length := fun V h => by rw [u8s_len', h]; exact Tryz.size24
  have b0 : Below w.heap.size w (((w.alloc (.cells (u8s rt).toArray 24)).alloc (.cells (u8s m).toArray 24)).alloc (.cells #[.int .i64 l, .slice A n c, .slice B k d] 56)) := by exact (((Below.refl _ _).alloc (Nat.le_refl _) _).alloc (by simp) _).alloc (by simp; omega) _
  have r0 : (((w.alloc (.cells (u8s rt).toArray 24)).alloc (.cells (u8s m).toArray 24)).alloc (.cells #[.int .i64 l, .slice A n c, .slice B k d] 56)).rangeAt w.heap.size 0 (u8s rt) := by exact World.rangeAt_alloc (World.rangeAt_alloc (range_new w (u8s rt) 24) _) _
  have m0 : (((w.alloc (.cells (u8s rt).toArray 24)).alloc (.cells (u8s m).toArray 24)).alloc (.cells #[.int .i64 l, .slice A n c, .slice B k d] 56)).rangeAt (w.heap.size + 1) 0 (u8s m) := by
    have := range_new (w.alloc (.cells (u8s rt).toArray 24)) (u8s m) 24
    rw [World.size_alloc] at this
    exact World.rangeAt_alloc this _
  have s0 : (((w.alloc (.cells (u8s rt).toArray 24)).alloc (.cells (u8s m).toArray 24)).alloc (.cells #[.int .i64 l, .slice A n c, .slice B k d] 56)).heap[w.heap.size + 2]? = some (.cells #[.int .i64 l, .slice A n c, .slice B k d] 56 (0, 0)) := by
    have := heap_alloc_new ((w.alloc (.cells (u8s rt).toArray 24)).alloc (.cells (u8s m).toArray 24)) (.cells #[.int .i64 l, .slice A n c, .slice B k d] 56)
    rwa [World.size_alloc, World.size_alloc] at this
  have B0 := Lib.hid b0
  have R0 := Lib.hid r0
  have M0 := Lib.hid m0
  have S0 := Lib.hid s0
  have X0 := Lib.hid (hx.below b0)
  have P0 := Lib.hid (hp.below b0)
  have CR := Lib.hid (cell_on b0 hr)
  have CF := Lib.hid (cell_on b0 hf)
  have HK := Lib.hid hk
  have HM := Lib.hid hm
  have HLM := Lib.hid hlm
  have HRL := Lib.hid hrl
  have HN := Lib.hid hn
  have c0 : (((w.alloc (.cells (u8s rt).toArray 24)).alloc (.cells (u8s m).toArray 24)).alloc (.cells #[.int .i64 l, .slice A n c, .slice B k d] 56)).cell? ⟨w.heap.size + 2, 0, none⟩ = some (.int .i64 l) := by rw [cell_of_row _ _ _ _ _ _ s0]; rfl
  have c1 : (((w.alloc (.cells (u8s rt).toArray 24)).alloc (.cells (u8s m).toArray 24)).alloc (.cells #[.int .i64 l, .slice A n c, .slice B k d] 56)).cell? ⟨w.heap.size + 2, 1, none⟩ = some (.slice A n c) := by rw [cell_of_row _ _ _ _ _ _ s0]; rfl
  clear b0 r0 m0 s0 hx hp hr hf hk hm hlm hrl hn
  go_enter Tryz.func74, Tryz.ntmps74
  go_wp2_with (refine wpList_load_g rfl 24 (.tmp 4) rfl (w.heap.size + 1) 0 rfl (u8s m) _ M0.out Tryz.underlying24 rfl (hi43 m HLM.out) ?_)
  change Calls _ _ _ (((w.alloc (.cells (u8s rt).toArray 24)).alloc (.cells (u8s m).toArray 24)).alloc (.cells #[.int .i64 l, .slice A n c, .slice B k d] 56)) _
  generalize (((w.alloc (.cells (u8s rt).toArray 24)).alloc (.cells (u8s m).toArray 24)).alloc (.cells #[.int .i64 l, .slice A n c, .slice B k d] 56)) = W0 at *
  clear c0 c1
  by_cases hin : 0 ≤ l ∧ l < 32
  case neg =>
    refine (recover_range l A n c m aR W0 hin CR.out).mono ?_
    rintro e w2 ⟨rfl, hb2⟩
    have B2 := Lib.hid (B0.out.trans (hb2.mono B0.out.size))
    have HIN := Lib.hid hin
    clear hb2 hin
    go_wp2_with (refine wpList_store_row rfl 24 (.tmp 7) (.tmp 17) rfl w2.heap.size rfl (u8s zero16) rfl 24 (has_new w2 (Array.replicate 16 (Value.int .u8 0)) 24 (u8s zero16).length (by rw [u8s_len', zero16_len]; rfl)) (hi43 zero16 zero16_len) (one_u8s _) ?_; intro w3 hp3; have L3 : Below w2.heap.size w2 w3 := (hp3.below ((Below.refl _ _).alloc (Nat.le_refl _) _) (Nat.le_refl _)); have T3 := Lib.hid (blk_range hp3.blk); have B3 := Lib.hid (B2.out.trans (L3.mono B2.out.size)); clear hp3)
    go_ret
    exact ⟨by unfold rightC; rw [decide_eq_false fun h => HIN.out h.1]; rfl, B3.out⟩
  by_cases h68 : n = 68
  case neg =>
    refine (recover_form l A n c m aF W0 hin.1 hin.2 h68 CF.out).mono ?_
    rintro e w2 ⟨rfl, hb2⟩
    have B2 := Lib.hid (B0.out.trans (hb2.mono B0.out.size))
    have H68 := Lib.hid h68
    clear hb2 hin h68
    go_wp2_with (refine wpList_store_row rfl 24 (.tmp 7) (.tmp 17) rfl w2.heap.size rfl (u8s zero16) rfl 24 (has_new w2 (Array.replicate 16 (Value.int .u8 0)) 24 (u8s zero16).length (by rw [u8s_len', zero16_len]; rfl)) (hi43 zero16 zero16_len) (one_u8s _) ?_; intro w3 hp3; have L3 : Below w2.heap.size w2 w3 := (hp3.below ((Below.refl _ _).alloc (Nat.le_refl _) _) (Nat.le_refl _)); have T3 := Lib.hid (blk_range hp3.blk); have B3 := Lib.hid (B2.out.trans (L3.mono B2.out.size)); clear hp3)
    go_ret
    exact ⟨by unfold rightC; rw [decide_eq_false fun h => H68.out (HN.out.1.trans h.2.1)]; rfl, B3.out⟩
  obtain ⟨i, rfl⟩ : ∃ i : Nat, l = i := ⟨l.toNat, by omega⟩
  have hi32 : i < 32 := by omega
  refine (recover_ok i A n c ds m W0 hin.1 hin.2 (fun W hW => X0.out.below hW) HN.out.1 h68 HLM.out HM.out (range_below HK.out B0.out) (Nat.lt_of_lt_of_le h18 B0.out.size)).mono ?_
  rintro e w2 ⟨rfl, hb2⟩
  obtain ⟨PD, hPD⟩ : ∃ p, p = publicC (i : Int) (recE (i : Int) ds m 68) := ⟨_, rfl⟩
  have hpl : PD.length = 16 ∧ u8s_ok PD := by rw [hPD]; exact ⟨short_len _ _, short_ok _ _⟩
  have PDL := Lib.hid hpl
  have HPD := Lib.hid hPD
  rw [← hPD]
  have B2 := Lib.hid (B0.out.trans (hb2.mono B0.out.size))
  have S2 := Lib.hid (blk_below S0.out hb2)
  have R2 := Lib.hid (range_below R0.out hb2)
  have P2 := Lib.hid (P0.out.below hb2)
  have CF2 := Lib.hid (cell_on hb2 CF.out)
  have H68 := Lib.hid h68
  clear hb2 hPD hpl hin h68
  have hil : (i : Int) < 32 := by omega
  go_wp2_with (first | (refine wpList_store_row rfl 24 (.tmp 7) (.tmp 17) rfl w2.heap.size rfl (u8s PD) rfl 24 (has_new w2 (Array.replicate 16 (Value.int .u8 0)) 24 (u8s PD).length (by rw [u8s_len', PDL.out.1]; rfl)) (hi43 PD PDL.out.1) (one_u8s _) ?_; intro w3 hp3; have L3 : Below w2.heap.size w2 w3 := (hp3.below ((Below.refl _ _).alloc (Nat.le_refl _) _) (Nat.le_refl _)); have T3 := Lib.hid (blk_range hp3.blk); have B3 := Lib.hid (B2.out.trans (L3.mono B2.out.size)); clear hp3; have S3 := Lib.hid (blk_below S2.out L3); have R3 := Lib.hid (range_below R2.out L3); have P3 := Lib.hid (P2.out.below L3); have CF3 := Lib.hid (cell_on L3 CF2.out); have c0 : w3.cell? ⟨w.heap.size + 2, 0, none⟩ = some (.int .i64 (i : Int)) := (by rw [cell_of_row _ _ _ _ _ _ S3.out]; rfl); have c2 : w3.cell? ⟨w.heap.size + 2, 2, none⟩ = some (.slice B k d) := (by rw [cell_of_row _ _ _ _ _ _ S3.out]; rfl)) | (refine wpList_load_g rfl 24 (.tmp 7) rfl w2.heap.size 0 rfl (u8s PD) _ T3.out Tryz.underlying24 rfl (hi43 PD PDL.out.1) ?_))
  clear c0 c2
  by_cases h5 : k = 5
  case neg =>
    refine (climb_form PD i B k d aF w3 (by omega) hil h5 CF3.out).mono ?_
    rintro e w4 ⟨rfl, hb4⟩
    have B4 := Lib.hid (B3.out.trans (hb4.mono B3.out.size))
    have H5 := Lib.hid h5
    clear hb4 h5
    go_wp2_with (refine wpList_store_row rfl 24 (.tmp 9) (.tmp 28) rfl w4.heap.size rfl (u8s zero16) rfl 24 (has_new w4 (Array.replicate 16 (Value.int .u8 0)) 24 (u8s zero16).length (by rw [u8s_len', zero16_len]; rfl)) (hi43 zero16 zero16_len) (one_u8s _) ?_; intro w5 hp5; have L5 : Below w4.heap.size w4 w5 := (hp5.below ((Below.refl _ _).alloc (Nat.le_refl _) _) (Nat.le_refl _)); have T5 := Lib.hid (blk_range hp5.blk); have B5 := Lib.hid (B4.out.trans (L5.mono B4.out.size)); clear hp5)
    go_ret
    exact ⟨by unfold rightC; rw [decide_eq_false fun h => H5.out (HN.out.2.trans h.2.2.1)]; rfl, B5.out⟩
  refine (climb_in PD PDL.out.1 PDL.out.2 i hi32 ps B k d w3 P3.out HN.out.2 h5 (range_below HK.out B3.out) (Nat.lt_of_lt_of_le h18 B3.out.size)).mono ?_
  rintro e w4 ⟨rfl, hb4⟩
  have hcg := climb_good PD i ps PDL.out.1 PDL.out.2 k
  obtain ⟨TP, hTP⟩ : ∃ t, t = climbAt PD i ps k := ⟨_, rfl⟩
  rw [← hTP] at hcg ⊢
  have HTP := Lib.hid hTP
  have TPL := Lib.hid hcg.1
  have H5 := Lib.hid h5
  have B4 := Lib.hid (B3.out.trans (hb4.mono B3.out.size))
  have R4 := Lib.hid (range_below R3.out hb4)
  clear hb4 hcg hTP h5
  have hfin : rightC rt m i ds ps = decide (TP = rt) := by
    unfold rightC
    rw [decide_eq_decide]
    rw [HTP.out, H5.out, HPD.out]
    constructor
    · exact fun h => h.2.2.2
    · exact fun h => ⟨⟨by omega, hil⟩, by rw [← HN.out.1, H68.out], by rw [← HN.out.2, H5.out], h⟩
  have HF := Lib.hid hfin
  have hrun := run_eql43 TP rt TPL.out HRL.out
  clear hfin
  go_wp2_with (first | (refine wpList_store_row rfl 24 (.tmp 9) (.tmp 28) rfl w4.heap.size rfl (u8s TP) rfl 24 (has_new w4 (Array.replicate 16 (Value.int .u8 0)) 24 (u8s TP).length (by rw [u8s_len', TPL.out]; rfl)) (hi43 TP TPL.out) (one_u8s _) ?_; intro w5 hp5; have L5 : Below w4.heap.size w4 w5 := (hp5.below ((Below.refl _ _).alloc (Nat.le_refl _) _) (Nat.le_refl _)); have T5 := Lib.hid (blk_range hp5.blk); have B5 := Lib.hid (B4.out.trans (L5.mono B4.out.size)); clear hp5; have R5 := Lib.hid (range_below R4.out L5)) | (refine wpList_load_g rfl 24 (.tmp 9) rfl w4.heap.size 0 rfl (u8s TP) _ T5.out Tryz.underlying24 rfl (hi43 TP TPL.out) ?_) | (refine wpList_load_g rfl 24 (.tmp 3) rfl w.heap.size 0 rfl (u8s rt) _ R5.out Tryz.underlying24 rfl (hi43 rt HRL.out) ?_))
  go_ret
  exact ⟨by rw [HF.out]; rfl, B5.out⟩
end Go.Proofs.YtniknhhejlgdfaaGreatDoor
/- Arguments that came in, opened. -/
namespace Go.Proofs.YtniknhhejlgdfaaGreatDoor
open Go.ChangeShapes Go.WideShapes Go.ChangeAt Go.RowKit

def numOf : Value → Int
  | .int _ n => n
  | _ => 0

end Go.Proofs.YtniknhhejlgdfaaGreatDoor
/- What all cards of this seat share: the constants as they are laid, slices of bytes that came in. -/
namespace Go.Proofs.YtniknhhejlgdfaaGreatDoor
open Go.ChangeShapes Go.WideShapes Go.ChangeAt Go.RowKit

theorem own : ownKnob Tryz.prog.godebug = none := by kernel_rfl
theorem Tryz.gK : Tryz.prog.globalNamed "quorate/hash.constants" = some 18 := by kernel_rfl
theorem Tryz.gKType : (Tryz.prog.globals[18]?).map (·.type) = some 210 := by kernel_rfl
theorem Tryz.cells209 : Tryz.prog.cellsOf 209 = 1 := by kernel_rfl
theorem Tryz.cells210 : Tryz.prog.cellsOf 210 = 64 := by kernel_rfl
theorem kk_datum : (Rows.laid_quorate_hash_constants : DataW Unit) = Lib.tabData .u32 kk := by kernel_rfl

/-- The constants lie in their block. -/
theorem kk_range_of {W : World} (h : W.var? Tryz.prog "quorate/hash.constants" = some (kk.map fun z => Value.int .u32 z).toArray) : W.rangeAt 18 0 (u32s kk) := fun j v hv => by
  have := World.var?_cell Tryz.gK h j
  rw [Nat.zero_add, this]
  simpa [u32s] using hv
end Go.Proofs.YtniknhhejlgdfaaGreatDoor
/- All sentinels of a list that is laid: where they lie, and that no two are one. -/
namespace Go.Proofs.YtniknhhejlgdfaaGreatDoor
open Go.RowKit

def sentL (nm : String) (L : List (String × List UInt8)) : List (String × DataW Unit) := L.map fun x => (x.1, .iface nm (.ptr (.agg [.lit (.string x.2)])))
theorem laid_all {P : Program} {nm : String} {W : World} {ti tp te ts : TypeId} {ms : Array (String × TypeId)} {f : Field}
    (hi : P.underlying ti = some (.interface ms)) (hrow : ∀ u, P.typeName? 3 u = some nm → u = tp)
    (hp : P.underlying tp = some (.pointer te)) (he : P.underlying te = some (.struct #[f])) (hft : f.type = ts) (hfo : f.offset = 0) (hs : P.underlying ts = some .string) (hc : P.cellsOf te = 1) (hcs : P.cellsOf ts = 1) :
    ∀ (L : List (String × List UInt8)) (T : List (String × DataW Unit)) (gs : List Nat) (ps : List MemPlace), L.map (fun x => P.globalNamed x.1) = gs.map some → (∀ g ∈ gs, (P.globals[g]?).map (·.type) = some ti) →
      DataW.LaidVars P W (sentL nm L ++ T) ps → (∀ b off, MemPlace.cell b off ∈ ps → ∀ u v, W.cell? ⟨b, off, none⟩ = some (.iface u v) → Value.okWide P W .any 0 u v) →
      ∃ al : List Addr, al.length = gs.length ∧ (∀ (i g : Nat) (a : Addr), gs[i]? = some g → al[i]? = some a → W.cell? ⟨g, 0, none⟩ = some (.iface tp (.pointer (some a)))) ∧ (al.map fun a => MemPlace.cell a.block a.off).Sublist ps
  | [], T, gs, ps, hg, _, _, _ => by
    have : gs = [] := by cases gs with | nil => rfl | cons => simp at hg
    subst this
    exact ⟨[], rfl, fun i g a h => by simp at h, List.nil_sublist _⟩
  | (n, text) :: L, T, gs, ps, hg, ht, hl, hok => by
    cases gs with
    | nil => simp at hg
    | cons g gs =>
      simp only [List.map_cons, List.cons.injEq] at hg
      obtain ⟨hg0, hg1⟩ := hg
      obtain ⟨g', t', cs, fu, p, q, hg', ht', hv, hd, hrest, e⟩ := hl
      obtain rfl := Option.some.inj (hg0.symm.trans hg')
      obtain rfl := Option.some.inj ((ht g (by simp)).symm.trans ht')
      subst e
      obtain ⟨l⟩ := cs
      have ok0 : ∀ u v, l = [.iface u v] → Value.okWide P W .any 0 u v := fun u v e => by
        subst e
        exact hok g 0 (by simp [MemPlace.row]) u v (by simpa using World.var?_cell hg' hv 0)
      obtain ⟨a, s, rfl, hca, hsa, hza, rfl⟩ := errorString_of_trod hi hrow hp he hft hfo hs hc hcs hd ok0
      obtain ⟨al, h1, h2, h3⟩ := laid_all hi hrow hp he hft hfo hs hc hcs L T gs q hg1 (fun x hx => ht x (List.mem_cons_of_mem _ hx)) hrest (fun b off hb => hok b off (List.mem_append_right _ hb))
      refine ⟨a :: al, by simp [h1], fun i g2 a2 hg2 ha2 => ?_, ?_⟩
      · cases i with
        | zero =>
          simp only [List.getElem?_cons_zero, Option.some.injEq] at hg2 ha2
          subst hg2 ha2
          exact World.var?_cell hg' hv 0
        | succ i => exact h2 i g2 a2 (by simpa using hg2) (by simpa using ha2)
      · rw [List.map_cons]
        have hsub : [MemPlace.cell a.block a.off].Sublist (MemPlace.row ⟨g, 0, none⟩ 1 ++ MemPlace.row a 1) := by simp [MemPlace.row]
        first
          | exact hsub.append h3
          | (rw [List.append_assoc]; exact hsub.append h3)
end Go.Proofs.YtniknhhejlgdfaaGreatDoor
/- All sentinels and the constants as they are laid. -/
namespace Go.Proofs.YtniknhhejlgdfaaGreatDoor
open Go.ChangeShapes Go.WideShapes Go.ChangeAt Go.RowKit

theorem Tryz.cells284 : Tryz.prog.cellsOf 284 = 1 := by kernel_rfl
theorem Tryz.cells9 : Tryz.prog.cellsOf 9 = 1 := by kernel_rfl
theorem Tryz.star : "*" ++ "errors.errorString" = "*errors.errorString" := by decide
set_option maxRecDepth 100000 in
theorem Tryz.row258 (u : TypeId) (h : Tryz.prog.typeName? 3 u = some "*errors.errorString") : u = 258 :=
  typeName_ptr_named (nm := "errors.errorString") (by rw [Tryz.star]; kernel_rfl) (by kernel_rfl) (by decide) u (by rw [Tryz.star]; exact h)

abbrev laidS : List (String × DataW Unit) := [("quorate/api.ErrRange", Rows.laid_quorate_api_ErrRange), ("quorate/api.ErrShort", Rows.laid_quorate_api_ErrShort), ("quorate/api.ErrLong", Rows.laid_quorate_api_ErrLong), ("quorate/api.ErrForm", Rows.laid_quorate_api_ErrForm), ("quorate/api.ErrSpent", Rows.laid_quorate_api_ErrSpent), ("quorate/api.ErrPower", Rows.laid_quorate_api_ErrPower), ("quorate/api.ErrDisk", Rows.laid_quorate_api_ErrDisk), ("quorate/api.ErrFull", Rows.laid_quorate_api_ErrFull), ("quorate/api.ErrNone", Rows.laid_quorate_api_ErrNone), ("quorate/api.ErrOld", Rows.laid_quorate_api_ErrOld), ("quorate/api.ErrSet", Rows.laid_quorate_api_ErrSet), ("quorate/api.ErrProof", Rows.laid_quorate_api_ErrProof), ("quorate/api.ErrLeader", Rows.laid_quorate_api_ErrLeader), ("quorate/api.ErrRound", Rows.laid_quorate_api_ErrRound), ("quorate/api.ErrUnsafe", Rows.laid_quorate_api_ErrUnsafe), ("quorate/api.ErrParent", Rows.laid_quorate_api_ErrParent), ("quorate/api.ErrTwice", Rows.laid_quorate_api_ErrTwice), ("quorate/api.ErrEpoch", Rows.laid_quorate_api_ErrEpoch)]
abbrev laidN : List (String × DataW Unit) := [("quorate/api.ErrRange", Rows.laid_quorate_api_ErrRange), ("quorate/api.ErrShort", Rows.laid_quorate_api_ErrShort), ("quorate/api.ErrLong", Rows.laid_quorate_api_ErrLong), ("quorate/api.ErrForm", Rows.laid_quorate_api_ErrForm), ("quorate/api.ErrSpent", Rows.laid_quorate_api_ErrSpent), ("quorate/api.ErrPower", Rows.laid_quorate_api_ErrPower), ("quorate/api.ErrDisk", Rows.laid_quorate_api_ErrDisk), ("quorate/api.ErrFull", Rows.laid_quorate_api_ErrFull), ("quorate/api.ErrNone", Rows.laid_quorate_api_ErrNone), ("quorate/api.ErrOld", Rows.laid_quorate_api_ErrOld), ("quorate/api.ErrSet", Rows.laid_quorate_api_ErrSet), ("quorate/api.ErrProof", Rows.laid_quorate_api_ErrProof), ("quorate/api.ErrLeader", Rows.laid_quorate_api_ErrLeader), ("quorate/api.ErrRound", Rows.laid_quorate_api_ErrRound), ("quorate/api.ErrUnsafe", Rows.laid_quorate_api_ErrUnsafe), ("quorate/api.ErrParent", Rows.laid_quorate_api_ErrParent), ("quorate/api.ErrTwice", Rows.laid_quorate_api_ErrTwice), ("quorate/api.ErrEpoch", Rows.laid_quorate_api_ErrEpoch), ("quorate/hash.constants", Rows.laid_quorate_hash_constants)]
def textOf : DataW Unit → List UInt8
  | .iface _ (.ptr (.agg [.lit (.string t)])) => t
  | _ => []
def laidNL : List (String × List UInt8) := laidS.map fun x => (x.1, textOf x.2)
theorem laidN_eq : laidN = sentL "*errors.errorString" laidNL ++ [("quorate/hash.constants", Rows.laid_quorate_hash_constants)] := rfl
theorem laidN_named : laidNL.map (fun x => Tryz.prog.globalNamed x.1) = senG.map some := by kernel_rfl
theorem laidN_types : ∀ g ∈ senG, (Tryz.prog.globals[g]?).map (·.type) = some 40 := by
  intro g hg
  have : senG.all (fun g => decide ((Tryz.prog.globals[g]?).map (·.type) = some 40)) = true := by kernel_rfl
  rw [List.all_eq_true] at this
  exact of_decide_eq_true (this g hg)
set_option maxRecDepth 100000 in
theorem sen_of_laidN {W : World} (h : laidMetH Tryz.prog laidN W) : ∃ al, SenN W al := by
  rw [MakeChecks.laidMetH_plain _ _ _ (by kernel_rfl)] at h
  obtain ⟨ps, hv, hnd, hrows⟩ := h
  rw [laidN_eq] at hv
  obtain ⟨al, h1, h2, h3⟩ := laid_all Tryz.underlying40 Tryz.row258 Tryz.underlying258 Tryz.underlying284 rfl rfl Tryz.underlying9 Tryz.cells284 Tryz.cells9 laidNL _ senG ps laidN_named laidN_types hv (fun b off hb => (hrows b off hb).2)
  refine ⟨al, h1, h2, List.Pairwise.of_map _ (fun a b hab e => hab (by rw [e])) (h3.nodup hnd), fun a ha => ?_⟩
  exact (hrows a.block a.off (h3.subset (List.mem_map.2 ⟨a, ha, rfl⟩))).1
set_option maxRecDepth 100000 in
theorem kk_of_laidN {W : World} (h : laidMetH Tryz.prog laidN W) : W.rangeAt 18 0 (u32s kk) := by
  rw [MakeChecks.laidMetH_plain _ _ _ (by kernel_rfl)] at h
  have h2 := h.tail.tail.tail.tail.tail.tail.tail.tail.tail.tail.tail.tail.tail.tail.tail.tail.tail.tail
  rw [kk_datum] at h2
  exact kk_range_of (Lib.tabIs_of_head Tryz.gK Tryz.gKType Tryz.underlying210 Tryz.underlying209 Tryz.cells209 Tryz.cells210 h2)
set_option maxRecDepth 100000 in
theorem door_metN (os : Os) (args : Array Value) : laidMetH Tryz.prog laidN ((World.doorLaid Tryz.prog 356 os).forCall (fun _ _ => 0) ⟨#[], args, []⟩).memory :=
  laidMetH_of_parts3 (fuel := 8) (laidMet_of_run' 8 (by kernel_rfl) (by kernel_rfl)) (by kernel_rfl) (by kernel_rfl)
end Go.Proofs.YtniknhhejlgdfaaGreatDoor
/- Slices of slices of bytes that came in. -/
namespace Go.Proofs.YtniknhhejlgdfaaGreatDoor
open Go.ChangeShapes Go.WideShapes Go.ChangeAt Go.RowKit

theorem spot_none {W : World} {b off : Nat} {sp} {u : Value} (h : W.cell? ((⟨b, off, sp⟩ : Addr).add 0) = some u) : sp = none := by
  simp only [Addr.add, if_true, World.cell?] at h
  split at h
  · cases sp with
    | none => rfl
    | some x => simp at h
  · cases h
theorem add_none (b off i : Nat) : (⟨b, off, none⟩ : Addr).add i = ⟨b, off + i, none⟩ := by unfold Addr.add; split <;> simp_all

set_option maxRecDepth 100000 in
theorem open_bs_cells {H : Type} {enc : TypeId × Value → H} {W : World} {base : Nat} {spare : Nat → Bool} {held : Bool} {fuel : Nat} {cs : List Value} {x : DataW H × List MemPlace}
    (h : DataW.trod enc Tryz.prog W base spare held fuel 137 cs = some x) : ∃ bs A c, cs = [.slice A bs.length c] ∧ Bs W (.slice A bs.length c) bs := by
  rcases open_ints Tryz.underlying137 Tryz.underlying5 (by kernel_rfl) h with ⟨rfl, _⟩ | ⟨a, n, c, zs, rfl, _, h1, h2, h3, _, h4, h5⟩
  · exact ⟨[], none, 0, rfl, Bs.nil⟩
  · have hzl : n ≤ zs.length := by rw [h3]; split <;> omega
    have hl : (zs.take n).length = n := by rw [List.length_take]; omega
    refine ⟨zs.take n, _, c, by rw [hl], ⟨⟨_, c, rfl⟩, fun hne => ?_, fun b hb => ?_⟩⟩
    · have hn : 0 < n := by
        cases n with
        | zero => exact absurd rfl hne
        | succ => omega
      obtain ⟨b, off, sp⟩ := a
      have h0 := h4 0 (by omega)
      obtain rfl := spot_none h0
      refine ⟨b, off, c, rfl, by rw [hl]; exact h1, h2, World.block_lt_of_cell? W _ h0, fun i hi => ?_⟩
      rw [hl] at hi
      have := h4 i (by omega)
      rw [add_none] at this
      rw [this]
      simp [List.getD_eq_getElem?_getD, hi]
    · have := h5 b (List.mem_of_mem_take hb)
      simp only [Lit.wf, IntKind.min, IntKind.max, IntKind.signed, IntKind.bits] at this
      simp at this
      unfold B8
      omega

set_option maxRecDepth 100000 in
/-- A slice of slices of bytes that came in. -/
theorem open_bss {H : Type} {enc : TypeId × Value → H} {W : World} {base b0 : Nat} {r : Reach} {spare : Nat → Bool} {held : Bool} {v : Value} {d : DataW H} {ps : List MemPlace} (hval : Value.okWide Tryz.prog W r b0 30 v)
    (h : DataW.Trod enc Tryz.prog W base spare held 30 v d ps) : ∃ bss A n c, v = .slice A n c ∧ n = bss.length ∧ Bss W (.slice A n c) bss := by
  obtain ⟨fuel, hf⟩ := h
  obtain ⟨A, n, c, rfl⟩ := okWide_slice Tryz.underlying30 hval
  have c22 : Tryz.prog.cellsOf 137 = 1 := by kernel_rfl
  rcases DataW.trod_slice Tryz.underlying30 hf with ⟨hc, _⟩ | ⟨a, len, cap, elems, rest, k, _, hc, _, _, hl, hm, hlen, hel, _, _⟩
  · simp only [Value.cells, List.cons.injEq, Value.slice.injEq, and_true] at hc
    obtain ⟨rfl, rfl, rfl⟩ := hc
    exact ⟨[], none, 0, 0, rfl, rfl, ⟨_, _, rfl⟩, fun h => absurd rfl h⟩
  · simp only [Value.cells, List.cons.injEq, Value.slice.injEq, and_true] at hc
    obtain ⟨rfl, rfl, rfl⟩ := hc
    have each : ∀ i, ∃ ub : Value × List Int, i < n → W.cell? (a.add i) = some ub.1 ∧ Bs W ub.1 ub.2 := by
      intro i
      by_cases hi : i < n
      · have he := hel i hi
        rw [c22, Nat.mul_one, List.getElem?_eq_getElem (by omega), Option.bind_eq_some_iff] at he
        obtain ⟨cs', hcs, hy'⟩ := he
        obtain ⟨bs, A', c', rfl, hb⟩ := open_bs_cells hy'
        exact ⟨(_, bs), fun _ => ⟨cell_of_cells?_one hcs, hb⟩⟩
      · exact ⟨(undef, []), fun h => absurd h hi⟩
    obtain ⟨f, hff⟩ := Classical.axiomOfChoice each
    refine ⟨(List.range n).map fun i => (f i).2, some a, n, c, rfl, by simp, ⟨some a, c, by simp⟩, fun hne => ?_⟩
    have hn : 0 < n := by
      cases n with
      | zero => exact absurd rfl hne
      | succ => omega
    obtain ⟨b, off, sp⟩ := a
    obtain ⟨h0, _⟩ := hff 0 hn
    obtain rfl := spot_none h0
    refine ⟨b, off, c, by simp, by simpa using hl, hm, World.block_lt_of_cell? W _ h0, fun i hi => ?_⟩
    have hi : i < n := by simpa using hi
    obtain ⟨hi1, hi2⟩ := hff i hi
    rw [add_none] at hi1
    refine ⟨_, hi1, ?_⟩
    rw [List.getD_eq_getElem?_getD, List.getElem?_map, List.getElem?_range hi]
    exact hi2
end Go.Proofs.YtniknhhejlgdfaaGreatDoor
/- Digests that came in: slices of them, pairs of them. -/
namespace Go.Proofs.YtniknhhejlgdfaaGreatDoor
open Go.ChangeShapes Go.WideShapes Go.ChangeAt Go.RowKit

theorem c43 : Tryz.prog.cellsOf 24 = 16 := by kernel_rfl
set_option maxRecDepth 100000 in
/-- The cells of a digest that came in. -/
theorem open_dg_cells {H : Type} {enc : TypeId × Value → H} {W : World} {base : Nat} {spare : Nat → Bool} {held : Bool} {fuel : Nat} {cs : List Value} {x : DataW H × List MemPlace}
    (h : DataW.trod enc Tryz.prog W base spare held fuel 24 cs = some x) : ∃ d : List Int, cs = u8s d ∧ d.length = 16 ∧ u8s_ok d := by
  have c5 : Tryz.prog.cellsOf 5 = 1 := by kernel_rfl
  obtain ⟨xs, m, _, _, hl16, hxl, hel⟩ := DataW.trod_array Tryz.underlying24 h
  rw [c43] at hl16
  have hcell : ∀ i, i < 16 → ∃ z, cs[i]? = some (.int .u8 z) ∧ 0 ≤ z ∧ z ≤ 255 := by
    intro i hi
    have hE := hel i hi
    rw [c5, Nat.mul_one, List.getElem?_eq_getElem (by omega)] at hE
    obtain ⟨z, e1, _, wz⟩ := DataW.trod_int Tryz.underlying5 hE
    refine ⟨z, ?_, ?_⟩
    · have h0 : ((cs.drop i).take 1)[0]? = some (.int .u8 z) := by rw [e1]; rfl
      simpa using h0
    · simp only [Lit.wf, IntKind.min, IntKind.max, IntKind.signed, IntKind.bits] at wz
      simp at wz
      omega
  refine ⟨cs.map fun v => match v with | .int _ z => z | _ => 0, ?_, by simp [hl16], ?_⟩
  · apply List.ext_getElem?
    intro i
    by_cases hi : i < 16
    · obtain ⟨z, hz, _⟩ := hcell i hi
      rw [hz]
      simp [u8s, hz]
    · rw [List.getElem?_eq_none (by omega), List.getElem?_eq_none (by simp [u8s]; omega)]
  · intro b hb
    obtain ⟨v, hv, rfl⟩ := List.mem_map.1 hb
    obtain ⟨i, hi, hiv⟩ := List.mem_iff_getElem.1 hv
    obtain ⟨z, hz, h1, h2⟩ := hcell i (by omega)
    rw [List.getElem?_eq_getElem hi, hiv] at hz
    cases hz
    exact ⟨h1, h2⟩

set_option maxRecDepth 100000 in
theorem open_dgs_cells {H : Type} {enc : TypeId × Value → H} {W : World} {base : Nat} {spare : Nat → Bool} {held : Bool} {fuel : Nat} {cs : List Value} {x : DataW H × List MemPlace}
    (h : DataW.trod enc Tryz.prog W base spare held fuel 54 cs = some x) : ∃ ds A c, cs = [.slice A ds.length c] ∧ Dgs W (.slice A ds.length c) ds := by
  rcases DataW.trod_slice Tryz.underlying54 h with ⟨rfl, _⟩ | ⟨a, n, c, elems, rest, k, _, rfl, _, _, hl, hm, hlen, hel, _, _⟩
  · exact ⟨[], none, 0, rfl, ⟨_, _, rfl⟩, fun h => absurd rfl h, fun d hd => by simp at hd⟩
  · have each : ∀ i, ∃ X : List Int, i < n → (X.length = 16 ∧ u8s_ok X) ∧ ∀ j u, (u8s X)[j]? = some u → W.cell? ((a.add (i * 16)).add j) = some u := by
      intro i
      by_cases hi : i < n
      · have he := hel i hi
        rw [c43, List.getElem?_eq_getElem (by omega), Option.bind_eq_some_iff] at he
        obtain ⟨cs', hcs, hy'⟩ := he
        obtain ⟨X, rfl, hX, hok⟩ := open_dg_cells hy'
        refine ⟨X, fun _ => ⟨⟨hX, hok⟩, fun j u hu => ?_⟩⟩
        have := (World.cells?_some hcs).2
        have hj : j < 16 := by have := (List.getElem?_eq_some_iff.1 hu).1; rwa [u8s_len', hX] at this
        first
          | exact (this j hj).trans hu
          | exact (this.2 j hj).trans hu
      · exact ⟨[], fun h => absurd h hi⟩
    obtain ⟨f, hff⟩ := Classical.axiomOfChoice each
    refine ⟨(List.range n).map f, some a, c, by simp, ⟨some a, c, by simp⟩, fun hne => ?_, fun x hx => ?_⟩
    · have hn : 0 < n := by
        cases n with
        | zero => exact absurd rfl hne
        | succ => omega
      obtain ⟨b, off, sp⟩ := a
      obtain ⟨⟨hl0, _⟩, h0⟩ := hff 0 hn
      have h00 : ∃ u, (u8s (f 0))[0]? = some u := ⟨_, List.getElem?_eq_getElem (by rw [u8s_len', hl0]; omega)⟩
      obtain ⟨u, hu⟩ := h00
      have hc0 := h0 0 u hu
      have hadd0 : (⟨b, off, sp⟩ : Addr).add (0 * 16) = ⟨b, off, sp⟩ := by simp [Addr.add]
      rw [hadd0] at hc0
      obtain rfl := spot_none hc0
      refine ⟨b, off, c, by simp, by simpa using hl, hm, World.block_lt_of_cell? W _ hc0, fun i hi j u hu => ?_⟩
      have hi : i < n := by simpa using hi
      rw [List.getD_eq_getElem?_getD, List.getElem?_map, List.getElem?_range hi] at hu
      have := (hff i hi).2 j u hu
      rw [add_none, add_none] at this
      exact this
    · rw [List.mem_map] at hx
      obtain ⟨i, hi, rfl⟩ := hx
      exact (hff i (by simpa using hi)).1
end Go.Proofs.YtniknhhejlgdfaaGreatDoor
/- Signatures that came in. -/
namespace Go.Proofs.YtniknhhejlgdfaaGreatDoor
open Go.ChangeShapes Go.WideShapes Go.ChangeAt Go.RowKit

set_option maxRecDepth 100000 in
theorem open_sig {H : Type} {enc : TypeId × Value → H} {W : World} {base : Nat} {spare : Nat → Bool} {held : Bool} {v : Value} {d : DataW H} {ps : List MemPlace}
    (h : DataW.Trod enc Tryz.prog W base spare held 56 v d ps) : ∃ l ds qs A B n c k e, v = sigV l (.slice A n c) (.slice B k e) ∧ n = ds.length ∧ k = qs.length ∧ Dgs W (.slice A n c) ds ∧ Dgs W (.slice B k e) qs := by
  obtain ⟨fuel, hf⟩ := h
  obtain ⟨y0, y1, y2, m, _, hl, h0, h1, h2⟩ := Go.Deep.trod_struct3 Tryz.underlying56 hf
  have c88 : Tryz.prog.cellsOf 56 = 3 := by kernel_rfl
  have c3 : Tryz.prog.cellsOf 3 = 1 := by kernel_rfl
  have c55 : Tryz.prog.cellsOf 54 = 1 := by kernel_rfl
  rw [c88] at hl
  have hv : ∃ cs, v = .agg cs := by
    cases v with
    | agg cs => exact ⟨cs, rfl⟩
    | _ => simp [Value.cells] at hl
  obtain ⟨cs, rfl⟩ := hv
  obtain ⟨cs⟩ := cs
  simp only [Value.cells] at hl h0 h1 h2
  obtain ⟨a0, a1, a2, rfl⟩ : ∃ a0 a1 a2, cs = [a0, a1, a2] := by
    match cs, hl with
    | [a0, a1, a2], _ => exact ⟨a0, a1, a2, rfl⟩
  simp only [c3, List.drop_zero, List.take_succ_cons, List.take_zero] at h0
  simp only [c55, List.drop_succ_cons, List.drop_zero, List.take_succ_cons, List.take_zero] at h1
  simp only [c55, List.drop_succ_cons, List.drop_zero, List.take_succ_cons, List.take_zero] at h2
  obtain ⟨z0, e0, _, _⟩ := DataW.trod_int Tryz.underlying3 h0
  obtain ⟨ds, A, c, e1, hd⟩ := open_dgs_cells h1
  obtain ⟨qs, B, e, e2, hq⟩ := open_dgs_cells h2
  simp only [List.cons.injEq, and_true] at e0 e1 e2
  subst e0 e1 e2
  exact ⟨z0, ds, qs, A, B, _, c, _, e, rfl, rfl, rfl, hd, hq⟩
end Go.Proofs.YtniknhhejlgdfaaGreatDoor
/- Laws on single operations. -/
namespace Go.Proofs.YtniknhhejlgdfaaGreatDoor
open Go.RowKit

section
variable {P : Program} {ops : Array Oper} {Q : Exit → Act → World → Prop} {a : Act} {w : World} {rest : List Oper} {o : Oper}

theorem run_neq_bytes (t e n : Nat) (a b : List Int) (ht : P.underlying t = some (.array n e)) (he : P.underlying e = some (.int .u8)) (hs : (P.info? e).map (·.size) = some 1)
    (ha : a.length = n) (hb : b.length = n) : (binOp .neq t (.agg (u8s a).toArray) (.agg (u8s b).toArray)).run P w = .ok (.bool (!decide (a = b))) w := by
  rw [run_neq_struct, run_equalIn_bytes 9998 t e n a b ht he hs ha hb]
  rfl
end
end Go.Proofs.YtniknhhejlgdfaaGreatDoor
/- A region that draws its order, by what each operation may rely on. -/
namespace Go.Proofs.YtniknhhejlgdfaaGreatDoor
open Go.RowKit

section
variable (P : Program) (ops : Array Oper) (E : World → World → Prop) (R : Nat → World → Value → Prop) (w0 : World) (Q : Exit → Act → World → Prop)

end

section
variable {P : Program} {ops : Array Oper} {E : World → World → Prop} {R : Nat → World → Value → Prop} {w0 : World} {Q : Exit → Act → World → Prop} {a0 : Act}

section
variable {f : (Nat → Value) → Act} {i : Nat} {o : Oper}

theorem step_guard (j : Nat) (b : Bool) (d : Nat) (hg : o.guard = some (j, b)) (hd : (ops[j]?).bind (·.dst) = some d) (hs : ∀ vs, (f vs).tmps[d]? = some (vs j))
    (h : ∀ vs w, E w0 w → Deps R vs w o.after.toList → vs j = .bool b ∧ Gives P o (f vs).eval w (fun v w' => E w w' ∧ ∀ w'', E w' w'' → R i w'' v)) :
    StepOk P ops E R w0 f i o := fun vs w hE hdp => by
  obtain ⟨h1, h2⟩ := h vs w hE hdp
  have hw : Region.wanted o (yielded ops (f vs).tmps) = true := by
    simp only [Region.wanted, hg, yielded, hd, Option.bind_some, hs, h1]
    simp
  rw [if_pos hw]
  exact h2

theorem step_skip (j : Nat) (b : Bool) (d : Nat) (hg : o.guard = some (j, b)) (hd : (ops[j]?).bind (·.dst) = some d) (hs : ∀ vs, (f vs).tmps[d]? = some (vs j))
    (h : ∀ vs w, E w0 w → Deps R vs w o.after.toList → (vs j = .bool (!b) ∨ vs j = undef) ∧ ∀ w'', R i w'' undef) :
    StepOk P ops E R w0 f i o := fun vs w hE hdp => by
  obtain ⟨h1, h2⟩ := h vs w hE hdp
  have hw : ¬ Region.wanted o (yielded ops (f vs).tmps) = true := by
    simp only [Region.wanted, hg, yielded, hd, Option.bind_some, hs]
    rcases h1 with h1 | h1
    · rw [h1]; cases b <;> simp
    · rw [h1]; cases b <;> simp [undef]
  rw [if_neg hw]
  exact fun w'' _ => h2 w''
end

theorem gives_pick {o : Oper} {ρ : Operand → Value} {w : World} {S : Value → World → Prop} (c x y : Operand) (v : Value) (b : Bool) (ho : o.op = .pick c x y) (hc : ρ c = .bool b)
    (hv : ρ (match b with | true => x | false => y) = v) (h : S v w) : Gives P o ρ w S := by
  refine gives_val v (w' := w) ?_ h
  unfold execOp
  subst hv
  cases b <;> simp [ho, hc, asBool]
end
end Go.Proofs.YtniknhhejlgdfaaGreatDoor
/- Single operations of a region that draws its order. -/
namespace Go.Proofs.YtniknhhejlgdfaaGreatDoor
open Go.RowKit
variable {P : Program} {o : Oper} {ρ : Operand → Value} {w w' : World} {S : Value → World → Prop}

theorem gives_binOp (op : BinOp) (t t2 : TypeId) (x y : Operand) (ho : o.op = .binOp op t x y t2) (a b v : Value) (hx : ρ x = a) (hy : ρ y = b) (hg : (eqGuard op t x y a b).run P w = .ok () w) (hr : (binOp op t a b).run P w = .ok v w') (h : S v w') : Gives P o ρ w S := by
  refine gives_val v (w' := w') ?_ h
  unfold execOp
  simp only [ho, hx, hy, Sem.run_bind, hg, hr, Result.andThen_ok, Sem.run_pure]
end Go.Proofs.YtniknhhejlgdfaaGreatDoor
/- Validators as they lie; where a key is. -/
namespace Go.Proofs.YtniknhhejlgdfaaGreatDoor
open Go.RowKit

/-- A validator: the key's bytes, the power. -/
abbrev Va := List Int × Int
def vcells (x : Va) : List Value := u8s x.1 ++ [.int .i64 x.2]
theorem vcells_len (x : Va) (h : x.1.length = 16) : (vcells x).length = 17 := by simp [vcells, u8s_len', h]
theorem one_vcells (x : Va) : ∀ v ∈ vcells x, v.oneCell' = true := fun v hv => by
  rcases List.mem_append.1 hv with h | h
  · exact one_u8s _ v h
  · simp at h; subst h; rfl

/-- A slice of validators. -/
structure Vals (w : World) (v : Value) (vs : List Va) : Prop where
  form : ∃ A c, v = .slice A vs.length c
  cells : vs ≠ [] → ∃ b off c, v = .slice (some ⟨b, off, none⟩) vs.length c ∧ vs.length ≤ c ∧ c ≤ maxLen ∧ b < w.heap.size ∧ ∀ i, i < vs.length → w.rangeAt b (off + i * 17) (vcells (vs.getD i ([], 0)))
  good : ∀ x ∈ vs, x.1.length = 16
theorem Vals.below {w w' : World} {v : Value} {vs : List Va} (h : Vals w v vs) (hb : Below w.heap.size w w') : Vals w' v vs := by
  refine ⟨h.form, fun hne => ?_, h.good⟩
  obtain ⟨b, off, c, e, h1, h2, h3, h4⟩ := h.cells hne
  exact ⟨b, off, c, e, h1, h2, Nat.lt_of_lt_of_le h3 hb.size, fun i hi => range_below (h4 i hi) hb⟩
theorem Vals.at {w : World} {v : Value} {vs : List Va} (h : Vals w v vs) (i : Nat) (hi : i < vs.length) : (vs.getD i ([], 0)).1.length = 16 := by
  rw [List.getD_eq_getElem?_getD, List.getElem?_eq_getElem hi]
  exact h.good _ (List.getElem_mem _)
theorem Vals.len {w : World} {A : Option Addr} {n c : Nat} {vs : List Va} (h : Vals w (.slice A n c) vs) : n = vs.length := by
  obtain ⟨A', c', e⟩ := h.form
  simp only [Value.slice.injEq] at e
  exact e.2.1
/-- What there is of the element at i. -/
theorem Vals.el {w : World} {A : Option Addr} {n c : Nat} {vs : List Va} (h : Vals w (.slice A n c) vs) (i : Nat) (hi : i < n) :
    ∃ b off, A = some ⟨b, off, none⟩ ∧ b < w.heap.size ∧ w.rangeAt b (off + i * 17) (vcells (vs.getD i ([], 0))) := by
  have hl := h.len
  obtain ⟨b, off, c', e, _, _, h3, h4⟩ := h.cells (by intro e; subst e; simp at hl; omega)
  simp only [Value.slice.injEq] at e
  exact ⟨b, off, e.1, h3, h4 i (by omega)⟩
theorem vcells_key {w : World} {b o : Nat} {x : Va} (h : w.rangeAt b o (vcells x)) : w.rangeAt b o (u8s x.1) := fun j v hv => by
  refine h j v ?_
  unfold vcells
  rw [List.getElem?_append_left (List.getElem?_eq_some_iff.1 hv).1]
  exact hv
theorem vcells_pow {w : World} {b o : Nat} {x : Va} (hl : x.1.length = 16) (h : w.rangeAt b o (vcells x)) : w.cell? ⟨b, o + 16, none⟩ = some (.int .i64 x.2) := by
  refine h 16 _ ?_
  unfold vcells
  rw [List.getElem?_append_right (by rw [u8s_len', hl]; exact Nat.le_refl _), u8s_len', hl]
  rfl

theorem Tryz.size90 : (Tryz.prog.info? 90).map (·.size) = some 17 := by kernel_rfl
theorem run_eql37 (a b : List Int) (ha : a.length = 16) (hb : b.length = 16) (W : World) : (Op.equalIn 10000 24 (.agg (u8s a).toArray) (.agg (u8s b).toArray)).run Tryz.prog W = .ok (decide (a = b)) W :=
  run_equalIn_bytes 9998 24 5 16 a b Tryz.underlying24 Tryz.underlying5 (by kernel_rfl) ha hb

set_option maxHeartbeats 4000000 in
set_option maxRecDepth 100000 in
/-- Find's closure. -/
theorem find1_any (x : Va) (key : List Int) (hl : x.1.length = 16) (hk : key.length = 16) (bx : Nat) (w : World) (hx : w.rangeAt bx 0 (u8s key)) :
    Calls Tryz.prog 93 #[.agg (vcells x).toArray, .pointer (some ⟨bx, 0, none⟩)] w fun e w' => e = .returned (.bool (decide (x.1 = key))) ∧ Below w.heap.size w w' := by
  have hcell : (w.alloc (.cells (vcells x).toArray 90)).rangeAt w.heap.size 0 (u8s x.1) := vcells_key (range_new w (vcells x) 90)
  have hkey : (w.alloc (.cells (vcells x).toArray 90)).rangeAt bx 0 (u8s key) := range_below hx ((Below.refl _ _).alloc (Nat.le_refl _) _)
  have hi37 : (Tryz.prog.info? 24).map (·.size) = some (u8s x.1).length := by rw [u8s_len', hl]; exact Tryz.size24
  have hi37' : (Tryz.prog.info? 24).map (·.size) = some (u8s key).length := by rw [u8s_len', hk]; exact Tryz.size24
  have hrun := run_eql37 x.1 key hl hk
  have HC := Lib.hid hcell
  have HK := Lib.hid hkey
  have HI := Lib.hid hi37
  have HI' := Lib.hid hi37'
  clear hcell hkey hi37 hi37' hx
  go_enter Tryz.func93, Tryz.ntmps93
  go_wp2_with (first | (refine wpList_load_g rfl 24 (.tmp 4) rfl w.heap.size 0 rfl (u8s x.1) _ HC.out Tryz.underlying24 rfl HI.out ?_) | (refine wpList_load_g rfl 24 (.tmp 1) rfl bx 0 rfl (u8s key) _ HK.out Tryz.underlying24 rfl HI'.out ?_))
  go_ret
  exact ⟨rfl, (Below.refl _ _).alloc (Nat.le_refl _) _⟩
end Go.Proofs.YtniknhhejlgdfaaGreatDoor
/- Whether two validators are equal, by the model's own test. -/
namespace Go.Proofs.YtniknhhejlgdfaaGreatDoor
open Go.RowKit

theorem run_neq37 (a b : List Int) (ha : a.length = 16) (hb : b.length = 16) (W : World) : (binOp .neq 24 (.agg (u8s a).toArray) (.agg (u8s b).toArray)).run Tryz.prog W = .ok (.bool (!decide (a = b))) W :=
  run_neq_bytes 24 5 16 a b Tryz.underlying24 Tryz.underlying5 (by kernel_rfl) ha hb
end Go.Proofs.YtniknhhejlgdfaaGreatDoor
/- Whether two rows of validators are the same. -/
namespace Go.Proofs.YtniknhhejlgdfaaGreatDoor
open Go.RowKit

theorem hi39 (x : Va) (h : x.1.length = 16) : (Tryz.prog.info? 90).map (·.size) = some (vcells x).length := by rw [vcells_len x h]; exact Tryz.size90
theorem hi37 (k : List Int) (h : k.length = 16) : (Tryz.prog.info? 24).map (·.size) = some (u8s k).length := by rw [u8s_len', h]; exact Tryz.size24
theorem gives_fieldAddr {P : Program} {o : Oper} {ρ : Operand → Value} {w w' : World} {S : Value → World → Prop} (t : TypeId) (x : Operand) (k : Nat) (ho : o.op = .fieldAddr t x k) (a v : Value) (hx : ρ x = a) (hr : (Instr.fieldAt t a k).run P w = .ok v w') (h : S v w') : Gives P o ρ w S := by
  refine gives_val v (w' := w') ?_ h
  unfold execOp
  simp only [ho, hx, Sem.run_bind, hr, Result.andThen_ok, Sem.run_pure]

set_option maxHeartbeats 4000000 in
set_option maxRecDepth 100000 in
theorem refSame_any (xs ys : List Va) (A A' : Option Addr) (n n' c c' : Nat) (w : World) (hx : Vals w (.slice A n c) xs) (hy : Vals w (.slice A' n' c') ys) (hz : n ≤ 1000000) :
    Calls Tryz.prog 43 #[.slice A n c, .slice A' n' c'] w fun e w' => e = .returned (.bool (decide (xs = ys))) ∧ Below w.heap.size w w' := by
  have HXS := Lib.hid hx
  have HYS := Lib.hid hy
  have HN := Lib.hid hx.len
  have HN' := Lib.hid hy.len
  clear hx hy
  by_cases hne : n = n'
  · subst hne
    go_enter Tryz.func43, Tryz.ntmps43
    go_wp2
    go_loopw [5, 13] (fun _ k wr => ∃ (i : Nat), i ≤ n ∧ k = .int .i64 i ∧ Hid (xs.take i = ys.take i) ∧ Hid (Below w.heap.size w wr))
      (fun _ k _ => n - (intOf k).toNat)
    case atStart => exact ⟨0, by omega, rfl, Lib.hid rfl, Lib.hid (Below.refl _ _)⟩
    case round =>
      obtain ⟨i, hi, rfl, htk, hbel⟩ := hrel
      by_cases hlt : i < n
      · have hi1 : i < xs.length := by have := HN.out; omega
        have hi2 : i < ys.length := by have := HN'.out; omega
        obtain ⟨b, off, rfl, hb1, ra⟩ := (HXS.out.below hbel.out).el i hlt
        obtain ⟨b', off', rfl, hb2, rb⟩ := (HYS.out.below hbel.out).el i hlt
        have dl := HXS.out.at i hi1
        have dl' := HYS.out.at i hi2
        have ht1 : xs.take (i + 1) = xs.take i ++ [xs.getD i ([], 0)] := by rw [List.take_succ_eq_append_getElem hi1]; simp [List.getD_eq_getElem?_getD, hi1]
        have ht2 : ys.take (i + 1) = ys.take i ++ [ys.getD i ([], 0)] := by rw [List.take_succ_eq_append_getElem hi2]; simp [List.getD_eq_getElem?_getD, hi2]
        have hne2 : xs.getD i ([], 0) ≠ ys.getD i ([], 0) → xs ≠ ys := fun h e => h (by rw [e])
        obtain ⟨DA, hDA⟩ : ∃ d, d = xs.getD i ([], 0) := ⟨_, rfl⟩
        obtain ⟨DB, hDB⟩ : ∃ d, d = ys.getD i ([], 0) := ⟨_, rfl⟩
        rw [← hDA] at ra dl ht1 hne2
        rw [← hDB] at rb dl' ht2 hne2
        have RA := Lib.hid ra
        have RB := Lib.hid rb
        have HT1 := Lib.hid ht1
        have HT2 := Lib.hid ht2
        have HNE := Lib.hid hne2
        have HLDA := Lib.hid dl
        have HLDB := Lib.hid dl'
        clear ra rb ht1 ht2 hne2 dl dl' hDA hDB hb1 hb2 hi1 hi2
        have hil : (i : Int) < n := by omega
        go_wp2_with fail
        by_cases hk : DA.1 = DB.1
        rotate_left
        · have heq : DA ≠ DB := fun e => hk (by rw [e])
          refine wp_region_rely (by kernel_rfl) 24 (by kernel_rfl) (by kernel_rfl) Ext Ext.refl Ext.trans (fun ix => match ix with
            | 0 => fun _ v => v = .slice (some ⟨b, off, none⟩) n c
            | 1 => fun _ v => v = .int .i64 i
            | 2 => fun _ v => v = .pointer (some ⟨b, off + i * 17, none⟩)
            | 3 => fun _ v => v = .pointer (some ⟨b, off + i * 17, none⟩)
            | 4 => fun _ v => v = .agg (u8s DA.1).toArray
            | 5 => fun _ v => v = .slice (some ⟨b', off', none⟩) n c'
            | 6 => fun _ v => v = .int .i64 i
            | 7 => fun _ v => v = .pointer (some ⟨b', off' + i * 17, none⟩)
            | 8 => fun _ v => v = .pointer (some ⟨b', off' + i * 17, none⟩)
            | 9 => fun _ v => v = .agg (u8s DB.1).toArray
            | 10 => fun _ v => v = .bool true
            | 11 => fun _ v => v = .bool true
            | 12 => fun _ v => v = undef
            | 13 => fun _ v => v = undef
            | 14 => fun _ v => v = undef
            | 15 => fun _ v => v = undef
            | 16 => fun _ v => v = undef
            | 17 => fun _ v => v = undef
            | 18 => fun _ v => v = undef
            | 19 => fun _ v => v = undef
            | 20 => fun _ v => v = undef
            | 21 => fun _ v => v = undef
            | 22 => fun _ v => v = undef
            | 23 => fun _ v => v = (Value.bool true)
            | _ => fun _ _ => False) ?_
          simp (maxSteps := 10000000) only [Rely, List.take_succ_cons, List.take_zero, List.drop_succ_cons, List.drop_zero, Nat.reduceAdd, Nat.zero_add, Act.put, List.setIfInBounds_toArray, List.set_cons_succ, List.set_cons_zero]
          refine ⟨?_, ?_, ?_, ?_, ?_, ?_, ?_, ?_, ?_, ?_, ?_, ?_, ?_, ?_, ?_, ?_, ?_, ?_, ?_, ?_, ?_, ?_, ?_, ?_, ?_⟩
          · refine step_plain rfl fun vs w1 hE hd => ?_
            exact gives_move _ (.slice (some ⟨b, off, none⟩) n c) (.inl rfl) rfl ⟨Ext.refl _, fun _ _ => rfl⟩
          · refine step_plain rfl fun vs w1 hE hd => ?_
            exact gives_move _ (.int .i64 i) (.inl rfl) rfl ⟨Ext.refl _, fun _ _ => rfl⟩
          · refine step_plain rfl fun vs w1 hE hd => ?_
            exact gives_indexAt 22 _ _ rfl (.slice (some ⟨b, off, none⟩) n c) (.int .i64 i) (.pointer (some ⟨b, off + i * 17, none⟩)) (show vs 0 = _ from hd.1) (show vs 1 = _ from hd.2.1) (by go_simp) ⟨Ext.refl _, fun _ _ => rfl⟩
          · refine step_plain rfl fun vs w1 hE hd => ?_
            exact gives_fieldAddr 90 _ 0 rfl (.pointer (some ⟨b, off + i * 17, none⟩)) _ (show vs 2 = _ from (hd.1)) (by go_simp) ⟨Ext.refl _, fun _ _ => rfl⟩
          · refine step_plain rfl fun vs w1 hE hd => ?_
            exact gives_load_row 24 _ rfl b (off + i * 17) (show vs 3 = _ from (hd.1)) (u8s DA.1) _ (range_below (vcells_key RA.out) (ext_of_drew hE)) Tryz.underlying24 rfl (hi37 DA.1 HLDA.out) ⟨Ext.refl _, fun _ _ => rfl⟩
          · refine step_plain rfl fun vs w1 hE hd => ?_
            exact gives_move _ (.slice (some ⟨b', off', none⟩) n c') (.inl rfl) rfl ⟨Ext.refl _, fun _ _ => rfl⟩
          · refine step_plain rfl fun vs w1 hE hd => ?_
            exact gives_move _ (.int .i64 i) (.inl rfl) rfl ⟨Ext.refl _, fun _ _ => rfl⟩
          · refine step_plain rfl fun vs w1 hE hd => ?_
            exact gives_indexAt 22 _ _ rfl (.slice (some ⟨b', off', none⟩) n c') (.int .i64 i) (.pointer (some ⟨b', off' + i * 17, none⟩)) (show vs 5 = _ from hd.1) (show vs 6 = _ from hd.2.1) (by go_simp) ⟨Ext.refl _, fun _ _ => rfl⟩
          · refine step_plain rfl fun vs w1 hE hd => ?_
            exact gives_fieldAddr 90 _ 0 rfl (.pointer (some ⟨b', off' + i * 17, none⟩)) _ (show vs 7 = _ from (hd.1)) (by go_simp) ⟨Ext.refl _, fun _ _ => rfl⟩
          · refine step_plain rfl fun vs w1 hE hd => ?_
            exact gives_load_row 24 _ rfl b' (off' + i * 17) (show vs 8 = _ from (hd.1)) (u8s DB.1) _ (range_below (vcells_key RB.out) (ext_of_drew hE)) Tryz.underlying24 rfl (hi37 DB.1 HLDB.out) ⟨Ext.refl _, fun _ _ => rfl⟩
          · refine step_plain rfl fun vs w1 hE hd => ?_
            have hkk : (!decide (DA.1 = DB.1)) = true := by simp [hk]
            skip
            exact gives_binOp .neq 24 _ _ _ rfl (.agg (u8s DA.1).toArray) (.agg (u8s DB.1).toArray) (.bool true) (show vs 4 = _ from (hd.1)) (show vs 9 = _ from (hd.2.1)) (by go_simp) (by rw [run_neq37 DA.1 DB.1 HLDA.out HLDB.out, hkk]) ⟨Ext.refl _, fun _ _ => rfl⟩
          · refine step_plain rfl fun vs w1 hE hd => ?_
            exact gives_move _ (.bool true) (.inl rfl) (show vs 10 = _ from hd.1) ⟨Ext.refl _, fun _ _ => rfl⟩
          · exact step_skip 11 false 27 rfl rfl (fun _ => rfl) fun vs w1 hE hd => ⟨.inl hd.1, fun _ => rfl⟩
          · exact step_skip 11 false 27 rfl rfl (fun _ => rfl) fun vs w1 hE hd => ⟨.inl hd.1, fun _ => rfl⟩
          · exact step_skip 11 false 27 rfl rfl (fun _ => rfl) fun vs w1 hE hd => ⟨.inl hd.2.2.1, fun _ => rfl⟩
          · exact step_skip 11 false 27 rfl rfl (fun _ => rfl) fun vs w1 hE hd => ⟨.inl hd.2.1, fun _ => rfl⟩
          · exact step_skip 11 false 27 rfl rfl (fun _ => rfl) fun vs w1 hE hd => ⟨.inl hd.2.1, fun _ => rfl⟩
          · exact step_skip 11 false 27 rfl rfl (fun _ => rfl) fun vs w1 hE hd => ⟨.inl hd.1, fun _ => rfl⟩
          · exact step_skip 11 false 27 rfl rfl (fun _ => rfl) fun vs w1 hE hd => ⟨.inl hd.1, fun _ => rfl⟩
          · exact step_skip 11 false 27 rfl rfl (fun _ => rfl) fun vs w1 hE hd => ⟨.inl hd.2.2.1, fun _ => rfl⟩
          · exact step_skip 11 false 27 rfl rfl (fun _ => rfl) fun vs w1 hE hd => ⟨.inl hd.2.1, fun _ => rfl⟩
          · exact step_skip 11 false 27 rfl rfl (fun _ => rfl) fun vs w1 hE hd => ⟨.inl hd.2.1, fun _ => rfl⟩
          · exact step_skip 11 false 27 rfl rfl (fun _ => rfl) fun vs w1 hE hd => ⟨.inl hd.2.2.1, fun _ => rfl⟩
          · refine step_plain rfl fun vs w1 hE hd => ?_
            exact gives_pick _ _ _ (Value.bool true) true rfl (show vs 11 = _ from hd.1) rfl ⟨Ext.refl _, fun _ _ => rfl⟩
          · intro vs w2 hE hR
            have hl := hR 23 (by omega)
            have hl' : vs 23 = _ := hl
            rw [hl']
            have hb2 : Below w.heap.size w w2 := hbel.out.trans (Below.mono (ext_of_drew hE) hbel.out.size)
            have HB2 := Lib.hid hb2
            clear hR hE hl hl' hb2
            clear hk
            go_wp2_with fail
            go_ret
            exact ⟨by rw [decide_eq_false (HNE.out heq)]; rfl, HB2.out⟩
        · skip
          refine wp_region_rely (by kernel_rfl) 24 (by kernel_rfl) (by kernel_rfl) Ext Ext.refl Ext.trans (fun ix => match ix with
            | 0 => fun _ v => v = .slice (some ⟨b, off, none⟩) n c
            | 1 => fun _ v => v = .int .i64 i
            | 2 => fun _ v => v = .pointer (some ⟨b, off + i * 17, none⟩)
            | 3 => fun _ v => v = .pointer (some ⟨b, off + i * 17, none⟩)
            | 4 => fun _ v => v = .agg (u8s DA.1).toArray
            | 5 => fun _ v => v = .slice (some ⟨b', off', none⟩) n c'
            | 6 => fun _ v => v = .int .i64 i
            | 7 => fun _ v => v = .pointer (some ⟨b', off' + i * 17, none⟩)
            | 8 => fun _ v => v = .pointer (some ⟨b', off' + i * 17, none⟩)
            | 9 => fun _ v => v = .agg (u8s DB.1).toArray
            | 10 => fun _ v => v = .bool false
            | 11 => fun _ v => v = .bool false
            | 12 => fun _ v => v = .slice (some ⟨b, off, none⟩) n c
            | 13 => fun _ v => v = .int .i64 i
            | 14 => fun _ v => v = .pointer (some ⟨b, off + i * 17, none⟩)
            | 15 => fun _ v => v = .pointer (some ⟨b, off + i * 17 + 16, none⟩)
            | 16 => fun _ v => v = .int .i64 DA.2
            | 17 => fun _ v => v = .slice (some ⟨b', off', none⟩) n c'
            | 18 => fun _ v => v = .int .i64 i
            | 19 => fun _ v => v = .pointer (some ⟨b', off' + i * 17, none⟩)
            | 20 => fun _ v => v = .pointer (some ⟨b', off' + i * 17 + 16, none⟩)
            | 21 => fun _ v => v = .int .i64 DB.2
            | 22 => fun _ v => v = .bool (DA.2 != DB.2)
            | 23 => fun _ v => v = .bool (DA.2 != DB.2)
            | _ => fun _ _ => False) ?_
          simp (maxSteps := 10000000) only [Rely, List.take_succ_cons, List.take_zero, List.drop_succ_cons, List.drop_zero, Nat.reduceAdd, Nat.zero_add, Act.put, List.setIfInBounds_toArray, List.set_cons_succ, List.set_cons_zero]
          refine ⟨?_, ?_, ?_, ?_, ?_, ?_, ?_, ?_, ?_, ?_, ?_, ?_, ?_, ?_, ?_, ?_, ?_, ?_, ?_, ?_, ?_, ?_, ?_, ?_, ?_⟩
          · refine step_plain rfl fun vs w1 hE hd => ?_
            exact gives_move _ (.slice (some ⟨b, off, none⟩) n c) (.inl rfl) rfl ⟨Ext.refl _, fun _ _ => rfl⟩
          · refine step_plain rfl fun vs w1 hE hd => ?_
            exact gives_move _ (.int .i64 i) (.inl rfl) rfl ⟨Ext.refl _, fun _ _ => rfl⟩
          · refine step_plain rfl fun vs w1 hE hd => ?_
            exact gives_indexAt 22 _ _ rfl (.slice (some ⟨b, off, none⟩) n c) (.int .i64 i) (.pointer (some ⟨b, off + i * 17, none⟩)) (show vs 0 = _ from hd.1) (show vs 1 = _ from hd.2.1) (by go_simp) ⟨Ext.refl _, fun _ _ => rfl⟩
          · refine step_plain rfl fun vs w1 hE hd => ?_
            exact gives_fieldAddr 90 _ 0 rfl (.pointer (some ⟨b, off + i * 17, none⟩)) _ (show vs 2 = _ from (hd.1)) (by go_simp) ⟨Ext.refl _, fun _ _ => rfl⟩
          · refine step_plain rfl fun vs w1 hE hd => ?_
            exact gives_load_row 24 _ rfl b (off + i * 17) (show vs 3 = _ from (hd.1)) (u8s DA.1) _ (range_below (vcells_key RA.out) (ext_of_drew hE)) Tryz.underlying24 rfl (hi37 DA.1 HLDA.out) ⟨Ext.refl _, fun _ _ => rfl⟩
          · refine step_plain rfl fun vs w1 hE hd => ?_
            exact gives_move _ (.slice (some ⟨b', off', none⟩) n c') (.inl rfl) rfl ⟨Ext.refl _, fun _ _ => rfl⟩
          · refine step_plain rfl fun vs w1 hE hd => ?_
            exact gives_move _ (.int .i64 i) (.inl rfl) rfl ⟨Ext.refl _, fun _ _ => rfl⟩
          · refine step_plain rfl fun vs w1 hE hd => ?_
            exact gives_indexAt 22 _ _ rfl (.slice (some ⟨b', off', none⟩) n c') (.int .i64 i) (.pointer (some ⟨b', off' + i * 17, none⟩)) (show vs 5 = _ from hd.1) (show vs 6 = _ from hd.2.1) (by go_simp) ⟨Ext.refl _, fun _ _ => rfl⟩
          · refine step_plain rfl fun vs w1 hE hd => ?_
            exact gives_fieldAddr 90 _ 0 rfl (.pointer (some ⟨b', off' + i * 17, none⟩)) _ (show vs 7 = _ from (hd.1)) (by go_simp) ⟨Ext.refl _, fun _ _ => rfl⟩
          · refine step_plain rfl fun vs w1 hE hd => ?_
            exact gives_load_row 24 _ rfl b' (off' + i * 17) (show vs 8 = _ from (hd.1)) (u8s DB.1) _ (range_below (vcells_key RB.out) (ext_of_drew hE)) Tryz.underlying24 rfl (hi37 DB.1 HLDB.out) ⟨Ext.refl _, fun _ _ => rfl⟩
          · refine step_plain rfl fun vs w1 hE hd => ?_
            have hkk : (!decide (DA.1 = DB.1)) = false := by simp [hk]
            skip
            exact gives_binOp .neq 24 _ _ _ rfl (.agg (u8s DA.1).toArray) (.agg (u8s DB.1).toArray) (.bool false) (show vs 4 = _ from (hd.1)) (show vs 9 = _ from (hd.2.1)) (by go_simp) (by rw [run_neq37 DA.1 DB.1 HLDA.out HLDB.out, hkk]) ⟨Ext.refl _, fun _ _ => rfl⟩
          · refine step_plain rfl fun vs w1 hE hd => ?_
            exact gives_move _ (.bool false) (.inl rfl) (show vs 10 = _ from hd.1) ⟨Ext.refl _, fun _ _ => rfl⟩
          · refine step_guard 11 false 27 rfl rfl (fun _ => rfl) fun vs w1 hE hd => ⟨hd.1, ?_⟩
            exact gives_move _ (.slice (some ⟨b, off, none⟩) n c) (.inl rfl) rfl ⟨Ext.refl _, fun _ _ => rfl⟩
          · refine step_guard 11 false 27 rfl rfl (fun _ => rfl) fun vs w1 hE hd => ⟨hd.1, ?_⟩
            exact gives_move _ (.int .i64 i) (.inl rfl) rfl ⟨Ext.refl _, fun _ _ => rfl⟩
          · refine step_guard 11 false 27 rfl rfl (fun _ => rfl) fun vs w1 hE hd => ⟨hd.2.2.1, ?_⟩
            exact gives_indexAt 22 _ _ rfl (.slice (some ⟨b, off, none⟩) n c) (.int .i64 i) (.pointer (some ⟨b, off + i * 17, none⟩)) (show vs 12 = _ from hd.1) (show vs 13 = _ from hd.2.1) (by go_simp) ⟨Ext.refl _, fun _ _ => rfl⟩
          · refine step_guard 11 false 27 rfl rfl (fun _ => rfl) fun vs w1 hE hd => ⟨hd.2.1, ?_⟩
            exact gives_fieldAddr 90 _ 1 rfl (.pointer (some ⟨b, off + i * 17, none⟩)) _ (show vs 14 = _ from (hd.1)) (by go_simp) ⟨Ext.refl _, fun _ _ => rfl⟩
          · refine step_guard 11 false 27 rfl rfl (fun _ => rfl) fun vs w1 hE hd => ⟨hd.2.1, ?_⟩
            have hc := cell_on (ext_of_drew hE) (vcells_pow HLDA.out RA.out)
            exact gives_loadAt 3 _ rfl (.pointer (some ⟨b, off + i * 17 + 16, none⟩)) (.int .i64 DA.2) (show vs 15 = _ from hd.1) (by go_simp) ⟨Ext.refl _, fun _ _ => rfl⟩
          · refine step_guard 11 false 27 rfl rfl (fun _ => rfl) fun vs w1 hE hd => ⟨hd.1, ?_⟩
            exact gives_move _ (.slice (some ⟨b', off', none⟩) n c') (.inl rfl) rfl ⟨Ext.refl _, fun _ _ => rfl⟩
          · refine step_guard 11 false 27 rfl rfl (fun _ => rfl) fun vs w1 hE hd => ⟨hd.1, ?_⟩
            exact gives_move _ (.int .i64 i) (.inl rfl) rfl ⟨Ext.refl _, fun _ _ => rfl⟩
          · refine step_guard 11 false 27 rfl rfl (fun _ => rfl) fun vs w1 hE hd => ⟨hd.2.2.1, ?_⟩
            exact gives_indexAt 22 _ _ rfl (.slice (some ⟨b', off', none⟩) n c') (.int .i64 i) (.pointer (some ⟨b', off' + i * 17, none⟩)) (show vs 17 = _ from hd.1) (show vs 18 = _ from hd.2.1) (by go_simp) ⟨Ext.refl _, fun _ _ => rfl⟩
          · refine step_guard 11 false 27 rfl rfl (fun _ => rfl) fun vs w1 hE hd => ⟨hd.2.1, ?_⟩
            exact gives_fieldAddr 90 _ 1 rfl (.pointer (some ⟨b', off' + i * 17, none⟩)) _ (show vs 19 = _ from (hd.1)) (by go_simp) ⟨Ext.refl _, fun _ _ => rfl⟩
          · refine step_guard 11 false 27 rfl rfl (fun _ => rfl) fun vs w1 hE hd => ⟨hd.2.1, ?_⟩
            have hc := cell_on (ext_of_drew hE) (vcells_pow HLDB.out RB.out)
            exact gives_loadAt 3 _ rfl (.pointer (some ⟨b', off' + i * 17 + 16, none⟩)) (.int .i64 DB.2) (show vs 20 = _ from hd.1) (by go_simp) ⟨Ext.refl _, fun _ _ => rfl⟩
          · refine step_guard 11 false 27 rfl rfl (fun _ => rfl) fun vs w1 hE hd => ⟨hd.2.2.1, ?_⟩
            exact gives_binOp .neq 3 _ _ _ rfl (.int .i64 DA.2) (.int .i64 DB.2) (.bool (DA.2 != DB.2)) (show vs 16 = _ from hd.1) (show vs 21 = _ from hd.2.1) (by go_simp) (by go_simp) ⟨Ext.refl _, fun _ _ => rfl⟩
          · refine step_plain rfl fun vs w1 hE hd => ?_
            exact gives_pick _ _ _ (.bool (DA.2 != DB.2)) false rfl (show vs 11 = _ from hd.1) (show vs 22 = _ from hd.2.1) ⟨Ext.refl _, fun _ _ => rfl⟩
          · intro vs w2 hE hR
            have hl := hR 23 (by omega)
            have hl' : vs 23 = _ := hl
            rw [hl']
            have hb2 : Below w.heap.size w w2 := hbel.out.trans (Below.mono (ext_of_drew hE) hbel.out.size)
            have HB2 := Lib.hid hb2
            clear hR hE hl hl' hb2
            by_cases hp : DA.2 = DB.2
            · have heq : DA = DB := Prod.ext hk hp
              rw [show (DA.2 != DB.2) = false by simp [hp]]
              clear hk hp
              go_wp2_with fail
              go_roundw
              case rel => exact ⟨i + 1, by omega, by go_num, Lib.hid (by rw [HT1.out, HT2.out, htk.out, heq]), HB2⟩
              case measure => simp [intOf]; omega
            · have heq : DA ≠ DB := fun e => hp (by rw [e])
              rw [show (DA.2 != DB.2) = true by simp [hp]]
              clear hk hp
              go_wp2_with fail
              go_ret
              exact ⟨by rw [decide_eq_false (HNE.out heq)]; rfl, HB2.out⟩
      · obtain rfl : i = n := by omega
        have he : xs = ys := by
          have := htk.out
          rwa [List.take_of_length_le (by rw [← HN.out]; exact Nat.le_refl _), List.take_of_length_le (by rw [← HN'.out]; exact Nat.le_refl _)] at this
        have HE := Lib.hid he
        clear he
        go_wp2
        go_ret
        exact ⟨by rw [decide_eq_true HE.out]; rfl, hbel.out⟩
  · have hni : ((n : Int) != n') = true := by simp; omega
    go_enter Tryz.func43, Tryz.ntmps43
    go_wp2
    go_ret
    exact ⟨by rw [decide_eq_false (fun e => hne (by rw [HN.out, HN'.out, e]))]; rfl, Below.refl _ _⟩
end Go.Proofs.YtniknhhejlgdfaaGreatDoor
/- Single operations of a region that draws its order. -/
namespace Go.Proofs.YtniknhhejlgdfaaGreatDoor
open Go.RowKit
variable {P : Program} {o : Oper} {ρ : Operand → Value} {w w' : World} {S : Value → World → Prop}

theorem gives_convert (s d : TypeId) (x : Operand) (ho : o.op = .convert s d x) (a v : Value) (hx : ρ x = a) (hr : (convert s d a).run P w = .ok v w') (h : S v w') : Gives P o ρ w S := by
  refine gives_val v (w' := w') ?_ h
  unfold execOp
  simp only [ho, hx, Sem.run_bind, hr, Result.andThen_ok, Sem.run_pure]
end Go.Proofs.YtniknhhejlgdfaaGreatDoor
/- append of one digest in a region that draws its order; worlds that change in some blocks alone. -/
namespace Go.Proofs.YtniknhhejlgdfaaGreatDoor
open Go.RowKit

theorem gives_fieldAddr' {P : Program} {o : Oper} {ρ : Operand → Value} {w w' : World} {S : Value → World → Prop} (t : TypeId) (x : Operand) (k : Nat) (ho : o.op = .fieldAddr t x k) (a v : Value) (hx : ρ x = a) (hr : (Instr.fieldAt t a k).run P w = .ok v w') (h : S v w') : Gives P o ρ w S := by
  refine gives_val v (w' := w') ?_ h
  unfold execOp
  simp only [ho, hx, Sem.run_bind, hr, Result.andThen_ok, Sem.run_pure]

end Go.Proofs.YtniknhhejlgdfaaGreatDoor
/- The law on regions that draw their order, where the last operations come one behind the other. -/
namespace Go.Proofs.YtniknhhejlgdfaaGreatDoor
open Go.RowKit
section
variable {P : Program} {ops : Array Oper} {E : World → World → Prop} {R : Nat → World → Value → Prop} {w0 : World} {Q : Exit → Act → World → Prop} {a0 : Act}
/-- From m on the operations come one behind the other, behind all others. -/
def tailOk2 (ops : Array Oper) (m : Nat) : Bool :=
  decide (m ≤ ops.size) && (List.range ops.size).all fun i => decide (i < m) || (if i = m then (List.range m).all (edgeTo ops i) else edgeTo ops i (i - 1))
theorem tailOk2_spec {m : Nat} (h : tailOk2 ops m = true) : m ≤ ops.size ∧ ∀ i o, m ≤ i → ops[i]? = some o → (i = m → ∀ j, j < m → ∃ e ∈ o.after.toList, Region.binds .any e = true ∧ e.on = j) ∧ (m < i → ∃ e ∈ o.after.toList, Region.binds .any e = true ∧ e.on = i - 1) := by
  simp only [tailOk2, Bool.and_eq_true, decide_eq_true_eq, List.all_eq_true, List.mem_range, Bool.or_eq_true] at h
  refine ⟨h.1, fun i o hm ho => ?_⟩
  have hi : i < ops.size := (Array.getElem?_eq_some_iff.1 ho).1
  rcases h.2 i hi with h2 | h2
  · omega
  · constructor
    · intro e j hj
      rw [if_pos e, List.all_eq_true] at h2
      exact edgeTo_spec (h2 j (by simpa using hj)) ho
    · intro e
      rw [if_neg (by omega)] at h2
      exact edgeTo_spec h2 ho

theorem seq_sound2 {m : Nat} (hs : sane ops = true) (ht : tailOk2 ops m = true) : ∀ (fuel i : Nat) (listed : Array Bool) (a : Act) (w : World), m ≤ i → listed.size = ops.size →
    (∀ j, j < ops.size → listed.getD j false = decide (j < i)) → ops.size ≤ fuel + i → i ≤ ops.size → wpList P ops Q (ops.toList.drop i) a w → wpAny P .any ops Q fuel listed a w := by
  obtain ⟨_, ht⟩ := tailOk2_spec ht
  have hready : ∀ (i : Nat) (listed : Array Bool), m ≤ i → listed.size = ops.size → (∀ j, j < ops.size → listed.getD j false = decide (j < i)) → ∀ k, k ∈ Region.ready .any ops listed → k = i ∧ i < ops.size := by
    intro i listed hmi hsz hL k hk
    simp only [Region.ready, List.mem_filter, List.mem_range] at hk
    obtain ⟨hkn, hrd⟩ := hk
    have ho : ops[k]? = some ops[k] := by simp [hkn]
    generalize ops[k] = o at ho
    rw [ho] at hrd
    simp only [Bool.and_eq_true, Bool.not_eq_true', Option.map_some, Option.getD_some, Array.all_eq_true', Bool.or_eq_true] at hrd
    obtain ⟨h1, h2⟩ := hrd
    rw [getD_tf (by omega), hL k hkn] at h1
    have hik : i ≤ k := by simpa using h1
    rcases Nat.lt_or_ge i k with hlt | hge
    · obtain ⟨e, he, hb, hon⟩ := (ht k o (by omega) ho).2 (by omega)
      rcases h2 e (by simpa using he) with h | h
      · rw [hb] at h; cases h
      · rw [hon, hL (k - 1) (by omega)] at h
        simp at h
        omega
    · exact ⟨by omega, by omega⟩
  intro fuel
  induction fuel with
  | zero =>
    intro i listed a w hmi hsz hL hf hin hw
    have hi : i = ops.size := by omega
    subst hi
    have hnil : Region.ready .any ops listed = [] := by
      cases hr : Region.ready .any ops listed with
      | nil => rfl
      | cons x xs => have := hready _ listed hmi hsz hL x (by rw [hr]; simp); omega
    refine ⟨hnil, ?_⟩
    rw [List.drop_of_length_le (by simp)] at hw
    exact hw
  | succ fuel ih =>
    intro i listed a w hmi hsz hL hf hin hw
    refine ⟨fun hnil => ?_, fun k hk => ?_⟩
    · rcases Nat.lt_or_ge i ops.size with hlt | hge
      · exfalso
        have ho : ops[i]? = some ops[i] := by simp [hlt]
        have hmem : i ∈ Region.ready .any ops listed := by
          simp only [Region.ready, List.mem_filter, List.mem_range]
          refine ⟨hlt, ?_⟩
          rw [getD_tf (by omega), hL i hlt, ho]
          simp only [Nat.lt_irrefl, decide_false, Bool.not_false, Bool.true_and, Option.map_some, Option.getD_some, Array.all_eq_true', Bool.or_eq_true]
          intro e he
          cases hb : Region.binds .any e with
          | false => exact .inl rfl
          | true =>
            have := (sane_spec hs ho).1 e (by simpa using he) hb
            exact .inr (by rw [hL _ (by omega)]; simpa using this)
        rw [hnil] at hmem
        cases hmem
      · have hi : i = ops.size := by omega
        subst hi
        rw [List.drop_of_length_le (by simp)] at hw
        exact hw
    · obtain ⟨rfl, hlt⟩ := hready i listed hmi hsz hL k hk
      have ho : ops[k]? = some ops[k] := by simp [hlt]
      rw [List.drop_eq_getElem_cons (by simpa using hlt)] at hw
      simp only [Array.getElem_toList] at hw
      generalize ops[k] = o at ho hw
      simp only [wpOp, ho]
      refine (?_ : (if Region.wanted o (yielded ops a.tmps) then o.wp P a w _ Q ∨ (o.asks P a w ∧ LetsOut Q) else _))
      have hnext : ∀ a' w', wpList P ops Q (ops.toList.drop (k + 1)) a' w' → wpAny P .any ops Q fuel (listed.setIfInBounds k true) a' w' := fun a' w' h =>
        ih (k + 1) _ a' w' (by omega) (by simp [hsz]) (fun j hj => by
          simp only [Array.getD_eq_getD_getElem?, Array.getElem?_setIfInBounds]
          by_cases e : k = j
          · subst e; simp [hsz, hlt]
          · rw [if_neg e]
            have := hL j hj
            simp only [Array.getD_eq_getD_getElem?] at this
            rw [this]
            rw [Bool.eq_iff_iff]
            simp
            omega) (by omega) (by omega) h
      unfold wpList at hw
      split
      · rename_i hwt
        rw [if_pos hwt] at hw
        exact hw.imp (Oper.wp_mono hnext) id
      · rename_i hwt
        rw [if_neg hwt] at hw
        exact hnext _ _ hw

theorem rely_sound2 {m : Nat} (hE0 : ∀ w, E w w) (hE : ∀ {a b c}, E a b → E b c → E a c) (hs : sane ops = true) (ht : tailOk2 ops m = true)
    (hstep : ∀ j o, j < m → ops[j]? = some o → StepOk P ops E R w0 (fun vs => mix (fun k => decide (k < j)) vs 0 ops.toList a0) j o)
    (hend : ∀ vs w, E w0 w → (∀ j, j < m → R j w (vs j)) → wpList P ops Q (ops.toList.drop m) (mix (fun k => decide (k < m)) vs 0 ops.toList a0) w) :
    ∀ (fuel : Nat) (listed : Array Bool) (vs : Nat → Value) (w : World), listed.size = ops.size → unl (fun j => listed.getD j false) m + (ops.size - m) ≤ fuel → E w0 w →
      (∀ j, listed.getD j false = true → j < m) →
      (∀ j, listed.getD j false = true → ∀ w', E w w' → R j w' (vs j)) →
      (∀ j o, ops[j]? = some o → listed.getD j false = true → ∀ e ∈ o.after.toList, Region.binds .any e = true → listed.getD e.on false = true) →
      wpAny P .any ops Q fuel listed (mix (fun j => listed.getD j false) vs 0 ops.toList a0) w := by
  obtain ⟨hmn, htl⟩ := tailOk2_spec ht
  have hall : ∀ (fuel : Nat) (listed : Array Bool) (vs : Nat → Value) (w : World), listed.size = ops.size → unl (fun j => listed.getD j false) m = 0 → ops.size ≤ fuel + m → E w0 w →
      (∀ j, listed.getD j false = true → j < m) →
      (∀ j, listed.getD j false = true → ∀ w', E w w' → R j w' (vs j)) → wpAny P .any ops Q fuel listed (mix (fun j => listed.getD j false) vs 0 ops.toList a0) w := by
    intro fuel listed vs w hsz hz hf he hlm hR
    have hmk := unl_zero m hz
    have hL : ∀ j, listed.getD j false = decide (j < m) := by
      intro j
      by_cases h : j < m
      · rw [hmk j h]; simp [h]
      · cases hb : listed.getD j false with
        | true => exact absurd (hlm j hb) h
        | false => simp [h]
    refine seq_sound2 hs ht fuel m listed _ w (Nat.le_refl _) hsz (fun j _ => hL j) hf hmn ?_
    have hm : mix (fun j => listed.getD j false) vs 0 ops.toList a0 = mix (fun k => decide (k < m)) vs 0 ops.toList a0 := by
      refine act_ext (by simp [mix_size]) (by simp [mix_defers]) (fun t => ?_)
      rw [mix_get, mix_get, lastW_congr _ (fun k => decide (k < m)) vs vs t ops.toList 0 (fun j o hj _ => ⟨by
        simp only [Nat.zero_add]
        exact hL j, fun _ => rfl⟩)]
    rw [hm]
    exact hend vs w he (fun j hj => hR j (hmk j hj) w (hE0 w))
  intro fuel
  induction fuel with
  | zero =>
    intro listed vs w hsz hu he hlm hR hcl
    exact hall 0 listed vs w hsz (by omega) (by omega) he hlm hR
  | succ fuel ih =>
    intro listed vs w hsz hu he hlm hR hcl
    by_cases hz : unl (fun j => listed.getD j false) m = 0
    · exact hall (fuel + 1) listed vs w hsz hz (by omega) he hlm hR
    have hnot : ¬ ∀ j, j < m → listed.getD j false = true := fun h => hz (by
      have : ∀ k, k ≤ m → unl (fun j => listed.getD j false) k = 0 := by
        intro k
        induction k with
        | zero => intro _; rfl
        | succ k ihk => intro hk; have e1 := ihk (by omega); have e2 := h k (by omega); simp only [unl, e1, e2, if_true]
      exact this m (Nat.le_refl _))
    have hrm : ∀ i ∈ Region.ready .any ops listed, i < m := by
      intro i hi
      simp only [Region.ready, List.mem_filter, List.mem_range] at hi
      obtain ⟨hin, hrd⟩ := hi
      have ho : ops[i]? = some ops[i] := by simp [hin]
      generalize ops[i] = o at ho
      rw [ho] at hrd
      simp only [Bool.and_eq_true, Bool.not_eq_true', Option.map_some, Option.getD_some, Array.all_eq_true', Bool.or_eq_true] at hrd
      rcases Nat.lt_or_ge i m with h | h
      · exact h
      · exfalso
        by_cases him : i = m
        · refine hnot fun j hj => ?_
          obtain ⟨e, hem, hb, hon⟩ := (htl i o h ho).1 him j hj
          rcases hrd.2 e (by simpa using hem) with h2 | h2
          · rw [hb] at h2; cases h2
          · rw [hon] at h2; exact h2
        · obtain ⟨e, hem, hb, hon⟩ := (htl i o h ho).2 (by omega)
          rcases hrd.2 e (by simpa using hem) with h2 | h2
          · rw [hb] at h2; cases h2
          · rw [hon] at h2
            have := hlm (i - 1) h2
            omega
    refine ⟨fun hr => ?_, fun i hi => ?_⟩
    · exfalso
      refine hnot fun j => ?_
      induction j using Nat.strongRecOn with
      | ind j ihj =>
        intro hj
        cases hL : listed.getD j false with
        | true => rfl
        | false =>
          exfalso
          have ho : ops[j]? = some ops[j] := by simp [show j < ops.size by omega]
          have hmem : j ∈ Region.ready .any ops listed := by
            simp only [Region.ready, List.mem_filter, List.mem_range]
            refine ⟨by omega, ?_⟩
            rw [getD_tf (by omega), hL, ho]
            simp only [Bool.not_false, Bool.true_and, Option.map_some, Option.getD_some, Array.all_eq_true', Bool.or_eq_true]
            intro e hm
            obtain ⟨h1, _⟩ := sane_spec hs ho
            cases hb : Region.binds .any e with
            | false => exact .inl rfl
            | true =>
              have h2 := h1 e (by simpa using hm) hb
              exact .inr (ihj e.on h2 (by omega))
          rw [hr] at hmem
          cases hmem
    have him := hrm i hi
    simp only [Region.ready, List.mem_filter, List.mem_range] at hi
    obtain ⟨hin, hrd⟩ := hi
    have ho : ops[i]? = some ops[i] := by simp [hin]
    generalize ops[i] = o at ho
    rw [ho] at hrd
    simp only [Bool.and_eq_true, Bool.not_eq_true', Option.map_some, Option.getD_some, Array.all_eq_true', Bool.or_eq_true] at hrd
    obtain ⟨hLi, hdeps⟩ := hrd
    have hLi' : listed.getD i false = false := by
      simp only [Array.getD_eq_getD_getElem?] at hLi ⊢
      rw [Array.getElem?_eq_getElem (by omega)] at hLi ⊢
      simpa using hLi
    obtain ⟨s1, s2, s3, s4⟩ := sane_spec hs ho
    have hdone : ∀ e ∈ o.after.toList, Region.binds .any e = true → listed.getD e.on false = true := by
      intro e hm hb
      rcases hdeps e (by simpa using hm) with h | h
      · rw [hb] at h; cases h
      · exact h
    have hget : ∀ t, t ∈ o.looksAt ops → (mix (fun j => listed.getD j false) vs 0 ops.toList a0).tmps[t]? = (mix (fun k => decide (k < i)) vs 0 ops.toList a0).tmps[t]? := by
      intro t ht
      rw [mix_get, mix_get, lastW_congr _ (fun k => decide (k < i)) vs vs t ops.toList 0 (fun j p hj hd => ⟨?_, fun _ => rfl⟩)]
      simp only [Nat.zero_add]
      have hp : ops[j]? = some p := by simpa using hj
      obtain ⟨h1, h2⟩ := s3 j p t hp hd ht
      rcases Nat.lt_trichotomy j i with hlt | heq | hgt
      · obtain ⟨e, hm, hb, rfl⟩ := h1 hlt
        rw [hdone e hm hb]
        simp [hlt]
      · subst heq
        rw [hLi']
        simp
      · obtain ⟨e, hm, hb, hon⟩ := h2 hgt
        cases hL : listed.getD j false with
        | false => simp; omega
        | true =>
          have := hcl j p hp hL e hm hb
          rw [hon, hLi'] at this
          cases this
    have hev : ∀ x ∈ o.op.operands, (mix (fun j => listed.getD j false) vs 0 ops.toList a0).eval x = (mix (fun k => decide (k < i)) vs 0 ops.toList a0).eval x := by
      intro x hx
      cases x with
      | tmp t =>
        have ht : t ∈ o.looksAt ops := by
          simp only [Oper.looksAt, List.mem_append, List.mem_filterMap]
          exact .inl ⟨.tmp t, by simpa using hx, rfl⟩
        exact eval_of_get (hget t ht)
      | _ => rfl
    have hexec := execOp_congr o s2 hev
    have hw : Region.wanted o (yielded ops (mix (fun j => listed.getD j false) vs 0 ops.toList a0).tmps) = Region.wanted o (yielded ops (mix (fun k => decide (k < i)) vs 0 ops.toList a0).tmps) := by
      unfold Region.wanted
      cases hg : o.guard with
      | none => rfl
      | some g =>
        obtain ⟨j, want⟩ := g
        have : yielded ops (mix (fun j => listed.getD j false) vs 0 ops.toList a0).tmps j = yielded ops (mix (fun k => decide (k < i)) vs 0 ops.toList a0).tmps j := by
          unfold yielded
          cases hj : (ops[j]?).bind (·.dst) with
          | none => rfl
          | some t =>
            have ht : t ∈ o.looksAt ops := by
              simp only [Oper.looksAt, List.mem_append]
              exact .inr (by simp [hg, hj])
            simp only [Option.bind_some, hget t ht]
        simp only [this]
    have hD : Deps R vs w o.after.toList := Deps.of fun e hm hb => hR e.on (hdone e hm hb) w (hE0 w)
    have hst := hstep i o him ho vs w he hD
    -- what is left when op i has given v in w'
    have hnext : ∀ v w', E w w' → (∀ w'', E w' w'' → R i w'' v) →
        wpAny P .any ops Q fuel (listed.setIfInBounds i true) ((mix (fun j => listed.getD j false) vs 0 ops.toList a0).put o.dst v) w' := by
      intro v w' hew hr
      have hup : ∀ j, (listed.setIfInBounds i true).getD j false = if j = i then true else listed.getD j false := by
        intro j
        simp only [Array.getD_eq_getD_getElem?, Array.getElem?_setIfInBounds]
        by_cases e : i = j
        · subst e; simp [hsz, hin]
        · rw [if_neg e, if_neg (fun h => e h.symm)]
      have hmix : (mix (fun j => listed.getD j false) vs 0 ops.toList a0).put o.dst v =
          mix (fun j => (listed.setIfInBounds i true).getD j false) (fun j => if j = i then v else vs j) 0 ops.toList a0 := by
        refine act_ext (by simp [put_size, mix_size]) (by simp [put_defers, mix_defers]) (fun t => ?_)
        rw [put_get, mix_size]
        by_cases hd : o.dst = some t
        · rw [if_pos hd, mix_get, lastW_at _ _ t ops.toList 0 i o (by simpa using ho) hd (by rw [hup]; simp) (fun j p hj hd' => (s4 j p t (by simpa using hj) hd' hd).symm)]
          simp
        · rw [if_neg hd, mix_get, mix_get]
          rw [lastW_congr (fun j => listed.getD j false) (fun j => (listed.setIfInBounds i true).getD j false) vs (fun j => if j = i then v else vs j) t ops.toList 0 (fun j p hj hd' => ?_)]
          simp only [Nat.zero_add]
          have hne : j ≠ i := by
            intro e
            subst e
            have : p = o := by
              have h1 : ops[j]? = some p := by simpa using hj
              rw [ho] at h1
              exact (Option.some.inj h1).symm
            exact hd (this ▸ hd')
          simp [hup, hne]
      rw [hmix]
      refine ih _ _ _ (by simp [hsz]) ?_ (hE he hew) ?_ ?_ ?_
      · have := unl_mark (L := fun j => listed.getD j false) (L' := fun j => (listed.setIfInBounds i true).getD j false) hLi' (by simp [hup]) (fun j hj => by simp [hup, hj]) m him
        omega
      · intro j hj
        rw [hup] at hj
        by_cases e : j = i
        · omega
        · rw [if_neg e] at hj
          exact hlm j hj
      · intro j hj w2 hw2
        by_cases e : j = i
        · subst e
          simpa using hr w2 hw2
        · simp only [if_neg e]
          refine hR j ?_ w2 (hE hew hw2)
          rw [hup, if_neg e] at hj
          exact hj
      · intro j p hp hj e hm hb
        rw [hup] at hj ⊢
        by_cases ej : j = i
        · subst ej
          have : p = o := by rw [ho] at hp; exact (Option.some.inj hp).symm
          subst this
          split
          · rfl
          · exact hdone e hm hb
        · rw [if_neg ej] at hj
          split
          · rfl
          · exact hcl j p hp hj e hm hb
    simp only [wpOp, ho, hw]
    split
    · rename_i hwt
      rw [if_pos hwt] at hst
      refine .inl ?_
      unfold Oper.wp
      unfold Gives at hst
      rw [hexec]
      generalize (execOp (mix (fun k => decide (k < i)) vs 0 ops.toList a0).eval o).run P w = r at hst
      cases r with
      | halt x w' => simp at hst
      | ok x w' =>
        cases x with
        | value v => exact hnext v w' hst.1 hst.2
        | skip => exact hnext undef w' hst.1 hst.2
        | enter g args =>
          simp only [Oper.upon]
          refine Calls.mono hst ?_
          rintro e w'' ⟨v, rfl, h1, h2⟩
          exact hnext v w'' h1 h2
        | _ => simp at hst
    · rename_i hwt
      rw [if_neg hwt] at hst
      exact hnext undef w (hE0 w) hst

/-- THE LAW. -/
theorem wp_region_rely2 {id : Nat} {l : List Oper} {a : Act} {w : World} (hm : P.follows .mixedOrders = true) (m : Nat) (hs : sane l.toArray = true) (ht : tailOk2 l.toArray m = true)
    (E : World → World → Prop) (hE0 : ∀ w, E w w) (hE : ∀ {a b c}, E a b → E b c → E a c)
    (R : Nat → World → Value → Prop) (h : Rely P l.toArray E R w.drew Q (l.drop m) 0 (fun _ => a) (l.take m)) : (Code.region id l.toArray true).wp P Q a w := by
  obtain ⟨h1, h2⟩ := rely_get (l.take m) 0 _ h
  obtain ⟨hmn, _⟩ := tailOk2_spec ht
  have hmn' : m ≤ l.length := by simpa using hmn
  refine wp_region_any hm ?_
  have h0 : ∀ j, (Array.replicate l.toArray.size false).getD j false = false := by
    intro j
    simp only [Array.getD_eq_getD_getElem?, Array.getElem?_replicate]
    split <;> rfl
  have hmix : ∀ vs : Nat → Value, mix (fun j => (Array.replicate l.toArray.size false).getD j false) vs 0 l.toArray.toList a = a := by
    intro vs
    refine act_ext (by simp [mix_size]) (by simp [mix_defers]) (fun t => ?_)
    rw [mix_get, lastW_none _ _ _ _ _ (fun j o _ _ => h0 _)]
  have hdrop : ∀ (L : Nat → Bool) (vs : Nat → Value) (t : Nat), (∀ j, L j = true → j < m) → lastW L vs t 0 l = lastW L vs t 0 (l.take m) := by
    intro L vs t hL
    have gen : ∀ (l1 l2 : List Oper) (i : Nat), (∀ j, L j = true → j < i + l1.length) → lastW L vs t i (l1 ++ l2) = lastW L vs t i l1 := by
      intro l1
      induction l1 with
      | nil =>
        intro l2 i hj
        rw [List.nil_append, lastW_none L vs t l2 i (fun j o _ _ => by
          cases hb : L (i + j) with
          | false => rfl
          | true => have h9 := hj _ hb; simp only [List.length_nil] at h9; omega)]
        rfl
      | cons o l1 ih =>
        intro l2 i hj
        simp only [List.cons_append, lastW]
        rw [ih l2 (i + 1) (fun j h => by have := hj j h; simp only [List.length_cons] at this; omega)]
    have := gen (l.take m) (l.drop m) 0 (fun j h => by have := hL j h; simp only [List.length_take]; omega)
    rwa [List.take_append_drop] at this
  have hmixd : ∀ (k : Nat) (vs : Nat → Value), k ≤ m → mix (fun j => decide (j < k)) vs 0 l a = mix (fun j => decide (j < k)) vs 0 (l.take m) a := by
    intro k vs hk
    refine act_ext (by simp [mix_size]) (by simp [mix_defers]) (fun t => ?_)
    rw [mix_get, mix_get, hdrop _ vs t (fun j hj => by simp at hj; omega)]
  have hmixt : ∀ (vs : Nat → Value), mix (fun _ => true) vs 0 (l.take m) a = mix (fun k => decide (k < m)) vs 0 (l.take m) a := by
    intro vs
    refine act_ext (by simp [mix_size]) (by simp [mix_defers]) (fun t => ?_)
    rw [mix_get, mix_get, lastW_congr (fun _ => true) (fun k => decide (k < m)) vs vs t (l.take m) 0 (fun j o hj _ => ⟨by
      have := (List.getElem?_eq_some_iff.1 hj).1
      simp only [List.length_take] at this
      simp
      omega, fun _ => rfl⟩)]
  have := rely_sound2 (Q := Q) (a0 := a) hE0 hE hs ht (fun j o hj ho => by
      have h3 := h1 j o (by rw [List.getElem?_take, if_pos hj]; simpa using ho)
      simp only [Nat.zero_add] at h3
      have he : (fun vs => mix (fun k => decide (k < j)) vs 0 l.toArray.toList a) = (fun vs => mix (fun k => decide (k < j)) vs 0 (l.take m) a) := funext fun vs => hmixd j vs (by omega)
      rw [he]
      exact h3)
    (fun vs w' he hr => by
      have h3 := h2 vs w' he (fun j hj => hr j (by simp only [List.length_take] at hj; omega))
      rw [hmixt vs, ← hmixd m vs (Nat.le_refl _)] at h3
      simpa using h3)
    l.toArray.size (Array.replicate l.toArray.size false) (fun _ => undef) w.drew (by simp) (by
      have : ∀ n, unl (fun j => (Array.replicate l.toArray.size false).getD j false) n ≤ n := by
        intro n
        induction n with
        | zero => exact Nat.le_refl _
        | succ n ih => simp only [unl, h0, Bool.false_eq_true, if_false] at ih ⊢; omega
      have := this m
      omega) (hE0 _) (fun j hj => by rw [h0] at hj; cases hj) (fun j hj => by rw [h0] at hj; cases hj) (fun j o _ hj => by rw [h0] at hj; cases hj)
  rw [hmix] at this
  exact this

end
end Go.Proofs.YtniknhhejlgdfaaGreatDoor
