/- Lemmas that laws of this seat rest on, part 19; each says its own conditions: KeyRef, KeyRight, KeysVerifiesW, KeysSignsW. -/
import Derived.Test.YtdedphhohiioiaaDoorBase6
import Derived.Test.YtdedphhohiioiaaDoorBase9
import Derived.Test.YtdedphhohiioiaaDoorBase17
import Derived.Test.YtdedphhohiioiaaDoorBase18
/- What the reference's Leaves, Sign and Right of keys do. -/
namespace Go.Proofs.YtdedphhohiioiaaDoor
open Go.RowKit

set_option maxHeartbeats 8000000 in
set_option maxRecDepth 100000 in
theorem leaves_any (x : List Int) (hl : x.length = 16) (hx : u8s_ok x) (w : World) :
    Calls Tryd.prog 65 #[.agg (u8s x).toArray] w fun e w' => ∃ v, e = .returned v ∧ w'.ownsRow w.heap.size 43 16 v 32 (dcells (lvT x 32)) ∧ Below w.heap.size w w' := by
  have hi43 : ∀ V : List Int, V.length = 16 → (Tryd.prog.info? 43).map (·.size) = some (u8s V).length := fun V h => by rw [u8s_len', h]; exact Tryd.size43
  obtain ⟨W0, hW0⟩ : ∃ W0, W0 = (w.alloc (.cells (u8s x).toArray 43)).alloc (.cells #[] 43) := ⟨_, rfl⟩
  have q0 : W0.heap[w.heap.size]? = some (.cells (u8s x).toArray 43 (0, 0)) := by rw [hW0]; exact alloc_blk (heap_alloc_new w _)
  have q2 : W0.ownsRow (w.heap.size + 1) 43 16 (.slice (some ⟨w.heap.size + 1, 0, none⟩) 0 0) 0 (dcells (lvT x 0)) := by
    rw [hW0]
    have := World.ownsRow_made (base := w.heap.size + 1) (size := 16) (e := 43) (w.alloc (.cells (u8s x).toArray 43)) #[] 0 (by simp) (by simp) rfl
    rw [World.size_alloc] at this
    exact this
  have b0 : Below w.heap.size w W0 := by rw [hW0]; exact ((Below.refl _ _).alloc (Nat.le_refl _) _).alloc (by simp) _
  have hz0 : W0.heap.size = w.heap.size + 2 := by rw [hW0]; simp
  have Q0 := Lib.hid (blk_range q0)
  have B0 := Lib.hid b0
  have OW := Lib.hid q2
  have HL := Lib.hid hl
  have HX := Lib.hid hx
  have HZ0 := Lib.hid hz0
  clear q0 b0 hl hx q2 hz0
  go_enter Tryd.func65, Tryd.ntmps65
  go_wp2_with fail
  try change Code.wp _ _ _ _ ((w.alloc (.cells (u8s x).toArray 43)).alloc (.cells #[] 43))
  rw [← hW0]
  clear hW0
  go_loopw [3, 4] (fun v k wr => ∃ (i : Nat), i ≤ 32 ∧ k = .int .i64 i ∧ Hid (wr.ownsRow (w.heap.size + 1) 43 16 v i (dcells (lvT x i))) ∧ Hid (Below (w.heap.size + 1) W0 wr))
    (fun _ k _ => 32 - (intOf k).toNat)
  case atStart => exact ⟨0, by omega, rfl, OW, Lib.hid (Below.refl _ _)⟩
  case round =>
    obtain ⟨i, hi, rfl, hown, hbel⟩ := hrel
    have hwz : w.heap.size + 1 ≤ wr.heap.size := by have := hbel.out.size; have := HZ0.out; omega
    by_cases hlt : i < 32
    · have hra : wr.rangeAt w.heap.size 0 (u8s x) := fun j v hv => (hbel.out.cell (p := ⟨w.heap.size, 0 + j, none⟩) (show w.heap.size < w.heap.size + 1 by omega)).trans (Q0.out j v hv)
      have RA := Lib.hid hra
      have hil : (i : Int) < 32 := by omega
      clear hra
      go_wp2_with (refine wpList_load_g rfl 43 (.tmp 1) rfl w.heap.size 0 rfl (u8s x) _ RA.out Tryd.underlying43 rfl (hi43 x HL.out) ?_)
      refine (refPublic_any x HL.out HX.out i wr).mono ?_
      rintro e w4 ⟨rfl, hb4⟩
      obtain ⟨R, hR⟩ : ∃ r, r = publicC (i : Int) (pubE (i : Int) x 68) := ⟨_, rfl⟩
      have HRL : Hid (R.length = 16) := Lib.hid (by rw [hR]; exact short_len _ _)
      have HSIG : Hid (lvT x (i + 1) = lvT x i ++ [R]) := Lib.hid (by rw [lvT_succ, ← hR])
      rw [← hR]
      have OW4 := Lib.hid (own_bel hown.out hb4)
      have L4 := Lib.hid (hbel.out.trans (hb4.mono hwz))
      have hwz4 : w.heap.size + 1 ≤ w4.heap.size := Nat.le_trans hwz hb4.size
      clear hb4 hown hbel hR RA
      go_wp2_with (first | (refine wpList_build_run rfl 55 1 _ rfl #[(0, .agg (u8s R).toArray)] (by simp only [List.map_toArray, List.map_cons, List.map_nil]; rfl) _ (build55 R HRL.out w4) ?_) | (at_builtin; refine appN (w0 := w4) (w.heap.size + 1) rfl (.tmp 10) (.tmp 14) 55 43 (.agg (Array.replicate 16 (.int .u8 0))) 16 16 rfl Tryd.underlying55 Tryd.info43 rfl (by omega) (by omega) _ i _ rfl ⟨w4.heap.size, 0, none⟩ 1 1 (u8s R) rfl (by rw [u8s_len', HRL.out]) (fun j u hu => by rw [show (⟨w4.heap.size, 0, none⟩ : Addr).add j = ⟨w4.heap.size, 0 + j, none⟩ by unfold Addr.add; split <;> simp_all]; exact range_new w4 (u8s R) 43 j u hu) (one_u8s _) (OW4.out.alloc _) ((Below.refl _ _).alloc hwz4 _) (by simp; omega) (by omega) ?_; intro v5 w5 ap5; have AP5 := Lib.hid ap5; clear ap5))
      have own5 : w5.ownsRow (w.heap.size + 1) 43 16 v5 (i + 1) (dcells (lvT x (i + 1))) := by
        rw [HSIG.out, dcells_append, show dcells [R] = u8s R by simp [dcells]]
        exact AP5.out.own
      go_roundw
      case rel => exact ⟨i + 1, by omega, by go_num, Lib.hid own5, Lib.hid (L4.out.trans AP5.out.below)⟩
      case measure => simp [intOf]; omega
    · obtain rfl : i = 32 := by omega
      go_wp2
      go_ret
      exact ⟨_, rfl, ownsRow_mono hown.out (by omega), B0.out.trans (hbel.out.mono (by omega))⟩

set_option maxHeartbeats 8000000 in
set_option maxRecDepth 100000 in
theorem refKSign_any (x m : List Int) (hl : x.length = 16) (hx : u8s_ok x) (hlm : m.length = 16) (hm : u8s_ok m) (ds : List (List Int)) (B : Option Addr) (n d i : Nat) (hi32 : i < 32) (w : World) (hd : Dgs w (.slice B n d) ds) (hn : n = ds.length) (hn32 : n = 32) :
    Calls Tryd.prog 68 #[.agg (u8s x).toArray, .slice B n d, .int .i64 (i : Int), .agg (u8s m).toArray] w fun e w' => ∃ v u, e = .returned (sigV i v u) ∧
      w'.ownsRow w.heap.size 43 16 v 68 (dcells (sigC i x m 68)) ∧ w'.ownsRow w.heap.size 43 16 u 5 (dcells (wayT ds i 5)) ∧ Below w.heap.size w w' := by
  have hi43 : ∀ V : List Int, V.length = 16 → (Tryd.prog.info? 43).map (·.size) = some (u8s V).length := fun V h => by rw [u8s_len', h]; exact Tryd.size43
  have b0 : Below w.heap.size w (((w.alloc (.cells (u8s x).toArray 43)).alloc (.cells (u8s m).toArray 43)).alloc (.cells sig0.toArray 88)) := (((Below.refl _ _).alloc (Nat.le_refl _) _).alloc (by simp) _).alloc (by simp; omega) _
  have x0 : (((w.alloc (.cells (u8s x).toArray 43)).alloc (.cells (u8s m).toArray 43)).alloc (.cells sig0.toArray 88)).rangeAt w.heap.size 0 (u8s x) := World.rangeAt_alloc (World.rangeAt_alloc (range_new w (u8s x) 43) _) _
  have m0 : (((w.alloc (.cells (u8s x).toArray 43)).alloc (.cells (u8s m).toArray 43)).alloc (.cells sig0.toArray 88)).rangeAt (w.heap.size + 1) 0 (u8s m) := by
    have := World.rangeAt_alloc (range_new (w.alloc (.cells (u8s x).toArray 43)) (u8s m) 43) (.cells sig0.toArray 88)
    rwa [World.size_alloc] at this
  have s0 : (((w.alloc (.cells (u8s x).toArray 43)).alloc (.cells (u8s m).toArray 43)).alloc (.cells sig0.toArray 88)).heap[w.heap.size + 2]? = some (.cells sig0.toArray 88 (0, 0)) := by
    have := heap_alloc_new ((w.alloc (.cells (u8s x).toArray 43)).alloc (.cells (u8s m).toArray 43)) (.cells sig0.toArray 88)
    rwa [World.size_alloc, World.size_alloc] at this
  have B0 := Lib.hid b0
  have X0 := Lib.hid x0
  have M0 := Lib.hid m0
  have S0 := Lib.hid s0
  have D0 := Lib.hid (hd.below b0)
  have HL := Lib.hid hl
  have HX := Lib.hid hx
  have HLM := Lib.hid hlm
  have HM := Lib.hid hm
  have HN := Lib.hid hn
  have HN32 := Lib.hid hn32
  clear b0 x0 m0 s0 hd hl hx hlm hm hn hn32
  go_enter Tryd.func68, Tryd.ntmps68
  go_wp2_with (first | (refine wpList_load_g rfl 43 (.tmp 4) rfl w.heap.size 0 rfl (u8s x) _ X0.out Tryd.underlying43 rfl (hi43 x HL.out) ?_) | (refine wpList_load_g rfl 43 (.tmp 7) rfl (w.heap.size + 1) 0 rfl (u8s m) _ M0.out Tryd.underlying43 rfl (hi43 m HLM.out) ?_))
  change Calls _ _ _ (((w.alloc (.cells (u8s x).toArray 43)).alloc (.cells (u8s m).toArray 43)).alloc (.cells sig0.toArray 88)) _
  generalize ((w.alloc (.cells (u8s x).toArray 43)).alloc (.cells (u8s m).toArray 43)).alloc (.cells sig0.toArray 88) = W0 at *
  refine (refSign_any x HL.out HX.out i m HLM.out HM.out W0).mono ?_
  rintro e w2 ⟨v, rfl, ho2, hb2⟩
  obtain ⟨A2, c2, rfl⟩ := own_form ho2
  have O2 := Lib.hid (ownsRow_mono ho2 B0.out.size)
  have D2 := Lib.hid (D0.out.below hb2)
  have S2 := Lib.hid (blk_below S0.out hb2)
  have B2 := Lib.hid (B0.out.trans (hb2.mono B0.out.size))
  clear ho2 hb2
  go_wp2_with fail
  refine (refPath_any 5 (by omega) ds B n d i w2 D2.out ⟨HN.out, HN32.out⟩ hi32).mono ?_
  rintro e w3 ⟨u, rfl, ho3, hb3⟩
  rw [← way_halves joinC [] 5 ds i (by rw [← HN.out, HN32.out]) hi32] at ho3
  obtain ⟨A3, c3, rfl⟩ := own_form ho3
  have O3 := Lib.hid (own_bel O2.out hb3)
  have P3 : Hid (w3.ownsRow w.heap.size 43 16 (.slice A3 5 c3) 5 (dcells (wayT ds i 5))) := Lib.hid (ownsRow_mono ho3 B2.out.size)
  have S3 := Lib.hid (blk_below S2.out hb3)
  have B3 := Lib.hid (B2.out.trans (hb3.mono B2.out.size))
  have HONE : ∀ v ∈ [Value.int .i64 (i : Int), .slice A2 68 c2, .slice A3 5 c3], v.oneCell' = true := by
    intro v hv
    simp only [List.mem_cons, List.not_mem_nil, or_false] at hv
    rcases hv with rfl | rfl | rfl <;> rfl
  have HO := Lib.hid HONE
  clear ho3 hb3 HONE
  go_wp2_with (refine wpList_store_row rfl 88 (.tmp 8) (.tmp 17) rfl (w.heap.size + 2) rfl [.int .i64 (i : Int), .slice A2 68 c2, .slice A3 5 c3] rfl 88 ⟨sig0.toArray, rfl, S3.out⟩ Tryd.size88' HO.out ?_; intro w7 hp7)
  refine bodyPost_ret (v := sigV i (.slice A2 68 c2) (.slice A3 5 c3)) (results_cell_row rfl _ _ (w.heap.size + 2) 88 _ (0, 0) _ rfl hp7.blk Tryd.underlying88 rfl Tryd.size88') rfl ⟨_, _, rfl, ?_, ?_, hp7.below B3.out (by omega)⟩
  · exact own_other (q := w.heap.size + 2) O3.out (Nat.le_of_eq hp7.size.symm) hp7.other hp7.os hp7.tape hp7.output (own_not O3.out S3.out (by decide))
  · exact own_other (q := w.heap.size + 2) P3.out (Nat.le_of_eq hp7.size.symm) hp7.other hp7.os hp7.tape hp7.output (own_not P3.out S3.out (by decide))
end Go.Proofs.YtdedphhohiioiaaDoor
/- What the reference's Right of keys does; alive. -/
namespace Go.Proofs.YtdedphhohiioiaaDoor
open Go.RowKit

set_option maxHeartbeats 8000000 in
set_option maxRecDepth 100000 in
theorem refRight_any (rt m : List Int) (hrl : rt.length = 16) (hlm : m.length = 16) (hm : u8s_ok m) (l : Int) (ds ps : List (List Int)) (A B : Option Addr) (n c k d : Nat) (w : World)
    (hx : Dgs w (.slice A n c) ds) (hp : Dgs w (.slice B k d) ps) (hn : n = ds.length ∧ k = ps.length) :
    Calls Tryd.prog 70 #[.agg (u8s rt).toArray, .agg (u8s m).toArray, sigV l (.slice A n c) (.slice B k d)] w fun e w' => e = .returned (.bool (rightC rt m l ds ps)) ∧ Below w.heap.size w w' := by
  have hi43 : ∀ V : List Int, V.length = 16 → (Tryd.prog.info? 43).map (·.size) = some (u8s V).length := fun V h => by rw [u8s_len', h]; exact Tryd.size43
  have b0 : Below w.heap.size w (((w.alloc (.cells (u8s rt).toArray 43)).alloc (.cells (u8s m).toArray 43)).alloc (.cells #[.int .i64 l, .slice A n c, .slice B k d] 88)) := (((Below.refl _ _).alloc (Nat.le_refl _) _).alloc (by simp) _).alloc (by simp; omega) _
  have r0 : (((w.alloc (.cells (u8s rt).toArray 43)).alloc (.cells (u8s m).toArray 43)).alloc (.cells #[.int .i64 l, .slice A n c, .slice B k d] 88)).rangeAt w.heap.size 0 (u8s rt) := World.rangeAt_alloc (World.rangeAt_alloc (range_new w (u8s rt) 43) _) _
  have m0 : (((w.alloc (.cells (u8s rt).toArray 43)).alloc (.cells (u8s m).toArray 43)).alloc (.cells #[.int .i64 l, .slice A n c, .slice B k d] 88)).rangeAt (w.heap.size + 1) 0 (u8s m) := by
    have := range_new (w.alloc (.cells (u8s rt).toArray 43)) (u8s m) 43
    rw [World.size_alloc] at this
    exact World.rangeAt_alloc this _
  have s0 : (((w.alloc (.cells (u8s rt).toArray 43)).alloc (.cells (u8s m).toArray 43)).alloc (.cells #[.int .i64 l, .slice A n c, .slice B k d] 88)).heap[w.heap.size + 2]? = some (.cells #[.int .i64 l, .slice A n c, .slice B k d] 88 (0, 0)) := by
    have := heap_alloc_new ((w.alloc (.cells (u8s rt).toArray 43)).alloc (.cells (u8s m).toArray 43)) (.cells #[.int .i64 l, .slice A n c, .slice B k d] 88)
    rwa [World.size_alloc, World.size_alloc] at this
  have B0 := Lib.hid b0
  have R0 := Lib.hid r0
  have M0 := Lib.hid m0
  have S0 := Lib.hid s0
  have X0 := Lib.hid (hx.below b0)
  have P0 := Lib.hid (hp.below b0)
  have HM := Lib.hid hm
  have HLM := Lib.hid hlm
  have HRL := Lib.hid hrl
  have HN := Lib.hid hn
  clear b0 r0 m0 s0 hx hp hm hlm hrl hn
  by_cases hneg : l < 0
  · have HNE := Lib.hid hneg
    skip
    go_enter Tryd.func70, Tryd.ntmps70
    go_wp2_with fail
    go_ret
    exact ⟨by unfold rightC; rw [decide_eq_false fun h => by have := h.1.1; have := HNE.out; omega]; rfl, B0.out⟩
  by_cases hbig : 31 < l
  · have HBI := Lib.hid hbig
    skip
    go_enter Tryd.func70, Tryd.ntmps70
    go_wp2_with fail
    go_ret
    exact ⟨by unfold rightC; rw [decide_eq_false fun h => by have := h.1.2; have := HBI.out; omega]; rfl, B0.out⟩
  by_cases h68 : n = 68
  case neg =>
    have H68 := Lib.hid h68
    have hne : ((n : Int) != 68) = true := by simp; omega
    clear h68
    skip
    go_enter Tryd.func70, Tryd.ntmps70
    go_wp2_with fail
    go_ret
    exact ⟨by unfold rightC; rw [decide_eq_false fun h => H68.out (HN.out.1.trans h.2.1)]; rfl, B0.out⟩
  by_cases h5 : k = 5
  case neg =>
    have H5 := Lib.hid h5
    have hne : ((n : Int) != 68) = false := by simp; omega
    have hne2 : ((k : Int) != 5) = true := by simp; omega
    clear h5 h68
    skip
    go_enter Tryd.func70, Tryd.ntmps70
    go_wp2_with fail
    go_ret
    exact ⟨by unfold rightC; rw [decide_eq_false fun h => H5.out (HN.out.2.trans h.2.2.1)]; rfl, B0.out⟩
  obtain ⟨i, rfl⟩ : ∃ i : Nat, l = i := ⟨l.toNat, by omega⟩
  have hi32 : i < 32 := by omega
  have hne : ((n : Int) != 68) = false := by simp; omega
  have hne2 : ((k : Int) != 5) = false := by simp; omega
  have H68 := Lib.hid h68
  have H5 := Lib.hid h5
  clear h68 h5
  go_enter Tryd.func70, Tryd.ntmps70
  go_wp2_with fail
  try change Code.wp _ _ _ _ (((w.alloc (.cells (u8s rt).toArray 43)).alloc (.cells (u8s m).toArray 43)).alloc (.cells #[.int .i64 (i : Int), .slice A n c, .slice B k d] 88))
  generalize (((w.alloc (.cells (u8s rt).toArray 43)).alloc (.cells (u8s m).toArray 43)).alloc (.cells #[.int .i64 (i : Int), .slice A n c, .slice B k d] 88)) = W0 at *
  obtain ⟨PD, hPD⟩ : ∃ p, p = publicC (i : Int) (recE (i : Int) ds m 68) := ⟨_, rfl⟩
  have hpl : PD.length = 16 ∧ u8s_ok PD := by rw [hPD]; exact ⟨short_len _ _, short_ok _ _⟩
  have hcg := climb_good PD i ps hpl.1 hpl.2 k
  obtain ⟨TP, hTP⟩ : ∃ t, t = climbAt PD i ps k := ⟨_, rfl⟩
  rw [← hTP] at hcg
  have PDL := Lib.hid hpl
  have HPD := Lib.hid hPD
  have HTP := Lib.hid hTP
  have TPL := Lib.hid hcg.1
  have hil : (i : Int) < 32 := by omega
  clear hPD hpl hTP hcg
  have hfin : rightC rt m i ds ps = decide (TP = rt) := by
    unfold rightC
    rw [decide_eq_decide]
    rw [HTP.out, H5.out, HPD.out]
    constructor
    · exact fun h => h.2.2.2
    · exact fun h => ⟨⟨by omega, hil⟩, by rw [← HN.out.1, H68.out], by rw [← HN.out.2, H5.out], h⟩
  have HF := Lib.hid hfin
  clear hfin
  have C0 : Hid (∀ W, Below W0.heap.size W0 W → W.cell? ⟨w.heap.size + 2, 0, none⟩ = some (.int .i64 (i : Int)) ∧ W.cell? ⟨w.heap.size + 2, 1, none⟩ = some (.slice A n c) ∧ W.cell? ⟨w.heap.size + 2, 2, none⟩ = some (.slice B k d)) := Lib.hid fun W hW => by
    have hs := blk_below S0.out hW
    exact ⟨by rw [cell_of_row _ _ _ _ _ _ hs]; rfl, by rw [cell_of_row _ _ _ _ _ _ hs]; rfl, by rw [cell_of_row _ _ _ _ _ _ hs]; rfl⟩
  refine wp_region_rely2 (by kernel_rfl) 13 (by kernel_rfl) (by kernel_rfl) Ext Ext.refl Ext.trans (fun ix => match ix with
    | 0 => fun _ v => v = .pointer (some ⟨w.heap.size + 2, 0, none⟩)
    | 1 => fun _ v => v = .int .i64 (i : Int)
    | 2 => fun _ v => v = .pointer (some ⟨w.heap.size + 2, 1, none⟩)
    | 3 => fun _ v => v = .slice A n c
    | 4 => fun _ v => v = .agg (u8s m).toArray
    | 5 => fun _ v => v = .agg (u8s PD).toArray
    | 6 => fun _ v => v = .pointer (some ⟨w.heap.size + 2, 0, none⟩)
    | 7 => fun _ v => v = .int .i64 (i : Int)
    | 8 => fun _ v => v = .pointer (some ⟨w.heap.size + 2, 2, none⟩)
    | 9 => fun _ v => v = .slice B k d
    | 10 => fun _ v => v = .agg (u8s TP).toArray
    | 11 => fun _ v => v = .agg (u8s rt).toArray
    | 12 => fun _ v => v = .bool (decide (TP = rt))
    | _ => fun _ _ => False) ?_
  simp (maxSteps := 10000000) only [Rely, List.take_succ_cons, List.take_zero, List.drop_succ_cons, List.drop_zero, Nat.reduceAdd, Nat.zero_add, Act.put, List.setIfInBounds_toArray, List.set_cons_succ, List.set_cons_zero]
  refine ⟨?_, ?_, ?_, ?_, ?_, ?_, ?_, ?_, ?_, ?_, ?_, ?_, ?_, ?_⟩
  · refine step_plain rfl fun vs w5 hE hd => ?_
    exact gives_fieldAddr' 88 _ 0 rfl (.pointer (some ⟨w.heap.size + 2, 0, none⟩)) _ rfl (by go_simp) ⟨Ext.refl _, fun _ _ => rfl⟩
  · refine step_plain rfl fun vs w5 hE hd => ?_
    have hc := (C0.out _ (ext_of_drew hE)).1
    exact gives_loadAt 3 _ rfl (.pointer (some ⟨w.heap.size + 2, 0, none⟩)) (.int .i64 (i : Int)) (show vs 0 = _ from hd.1) (by go_simp) ⟨Ext.refl _, fun _ _ => rfl⟩
  · refine step_plain rfl fun vs w5 hE hd => ?_
    exact gives_fieldAddr' 88 _ 1 rfl (.pointer (some ⟨w.heap.size + 2, 0, none⟩)) _ rfl (by go_simp) ⟨Ext.refl _, fun _ _ => rfl⟩
  · refine step_plain rfl fun vs w5 hE hd => ?_
    have hc := (C0.out _ (ext_of_drew hE)).2.1
    exact gives_loadAt 55 _ rfl (.pointer (some ⟨w.heap.size + 2, 1, none⟩)) (.slice A n c) (show vs 2 = _ from hd.1) (by go_simp) ⟨Ext.refl _, fun _ _ => rfl⟩
  · refine step_plain rfl fun vs w5 hE hd => ?_
    exact gives_load_row 43 _ rfl (w.heap.size + 1) 0 rfl (u8s m) _ (range_below M0.out (ext_of_drew hE)) Tryd.underlying43 rfl (hi43 m HLM.out) ⟨Ext.refl _, fun _ _ => rfl⟩
  · refine step_plain rfl fun vs w5 hE hd => ?_
    refine gives_call 55 (enters_of Tryd.func55 (by kernel_rfl) rfl) _ _ rfl rfl [.int .i64 (i : Int), .slice A n c, .agg (u8s m).toArray] (congr (congrArg (fun a b => a :: b) (show vs 1 = _ from hd.1)) (congr (congrArg (fun a b => a :: b) (show vs 3 = _ from hd.2.1)) (congrArg (fun a => [a]) (show vs 4 = _ from hd.2.2.1)))) ?_
    refine (refRecover_any i A n c ds m w5 (X0.out.below (ext_of_drew hE)) HN.out.1 H68.out HLM.out HM.out).mono ?_
    rintro _ w6 ⟨rfl, hb6⟩
    exact ⟨_, rfl, hb6, fun _ _ => by rw [HPD.out]; rfl⟩
  · refine step_plain rfl fun vs w5 hE hd => ?_
    exact gives_fieldAddr' 88 _ 0 rfl (.pointer (some ⟨w.heap.size + 2, 0, none⟩)) _ rfl (by go_simp) ⟨Ext.refl _, fun _ _ => rfl⟩
  · refine step_plain rfl fun vs w5 hE hd => ?_
    have hc := (C0.out _ (ext_of_drew hE)).1
    exact gives_loadAt 3 _ rfl (.pointer (some ⟨w.heap.size + 2, 0, none⟩)) (.int .i64 (i : Int)) (show vs 6 = _ from hd.1) (by go_simp) ⟨Ext.refl _, fun _ _ => rfl⟩
  · refine step_plain rfl fun vs w5 hE hd => ?_
    exact gives_fieldAddr' 88 _ 2 rfl (.pointer (some ⟨w.heap.size + 2, 0, none⟩)) _ rfl (by go_simp) ⟨Ext.refl _, fun _ _ => rfl⟩
  · refine step_plain rfl fun vs w5 hE hd => ?_
    have hc := (C0.out _ (ext_of_drew hE)).2.2
    exact gives_loadAt 55 _ rfl (.pointer (some ⟨w.heap.size + 2, 2, none⟩)) (.slice B k d) (show vs 8 = _ from hd.1) (by go_simp) ⟨Ext.refl _, fun _ _ => rfl⟩
  · refine step_plain rfl fun vs w5 hE hd => ?_
    refine gives_call 46 (enters_of Tryd.func46 (by kernel_rfl) rfl) _ _ rfl rfl [.agg (u8s PD).toArray, .int .i64 (i : Int), .slice B k d] (congr (congrArg (fun a b => a :: b) (show vs 5 = _ from hd.1)) (congr (congrArg (fun a b => a :: b) (show vs 7 = _ from hd.2.1)) (congrArg (fun a => [a]) (show vs 9 = _ from hd.2.2.1)))) ?_
    refine (refClimb_any PD PDL.out.1 PDL.out.2 i (by omega) ps B k d w5 (P0.out.below (ext_of_drew hE)) HN.out.2 (by have := H5.out; omega)).mono ?_
    rintro _ w6 ⟨rfl, hb6⟩
    exact ⟨_, rfl, hb6, fun _ _ => by rw [HTP.out]; rfl⟩
  · refine step_plain rfl fun vs w5 hE hd => ?_
    exact gives_load_row 43 _ rfl w.heap.size 0 rfl (u8s rt) _ (range_below R0.out (ext_of_drew hE)) Tryd.underlying43 rfl (hi43 rt HRL.out) ⟨Ext.refl _, fun _ _ => rfl⟩
  · refine step_plain rfl fun vs w5 hE hd => ?_
    exact gives_binOp .eql 43 _ _ _ rfl (.agg (u8s TP).toArray) (.agg (u8s rt).toArray) (.bool (decide (TP = rt))) (show vs 10 = _ from (hd.1)) (show vs 11 = _ from (hd.2.1)) (by go_simp) (run_eql43 TP rt TPL.out HRL.out _) ⟨Ext.refl _, fun _ _ => rfl⟩
  · intro vs w5 hE hR
    have h12 : vs 12 = .bool (decide (TP = rt)) := hR 12 (by omega)
    rw [h12]
    have B5 := Lib.hid (B0.out.trans ((ext_of_drew hE).mono B0.out.size))
    clear hR hE h12
    go_wp2_with fail
    go_ret
    exact ⟨by rw [HF.out]; rfl, B5.out⟩

set_option maxHeartbeats 8000000 in
set_option maxRecDepth 100000 in
theorem alive_keys (al : List Addr) (w : World) (S : SenN w al) (hk : w.rangeAt 18 0 (u32s kk)) (h18 : 18 < w.heap.size) :
    Calls Tryd.prog 60 #[] w fun e w' => e = .returned (.bool true) ∧ Below w.heap.size w w' := by
  have HK := Lib.hid hk
  have HS := Lib.hid S
  clear hk S
  go_enter Tryd.func60, Tryd.ntmps60
  go_wp2_with fail
  refine (keyNew_any one16 rfl one16_ok w HK.out h18).mono ?_
  rintro e w1 ⟨q, A, c, rfl, hq, key, hb1⟩
  have K1 := Lib.hid key
  have B1 := Lib.hid hb1
  have S1 := Lib.hid (HS.out.below hb1)
  clear key hb1 hq
  obtain ⟨a4, ha4⟩ := sen_at S1.out 4 (by omega)
  have hc4 := S1.out.cell 4 4 a4 rfl ha4
  have HA4 := Lib.hid ha4
  clear ha4
  go_wp2_with fail
  refine (ksign_spent _ zero16 32 (by omega) a4 w1 hc4).mono ?_
  rintro e w2 ⟨rfl, hb2⟩
  have K2 := Lib.hid (K1.out.below hb2)
  have B2 := Lib.hid (B1.out.trans (hb2.mono B1.out.size))
  have S2 := Lib.hid (S1.out.below hb2)
  clear hb2 hc4
  go_wp2_with (refine wpList_store_row rfl 88 (.tmp 2) (.tmp 14) rfl w2.heap.size rfl sig0 rfl 88 (has_new w2 _ _ _ rfl) Tryd.size88' one_sig0 ?_; intro w3 hp3; have L3 : Below w2.heap.size w2 w3 := (hp3.below ((Below.refl _ _).alloc (Nat.le_refl _) _) (Nat.le_refl _)); have K3 := Lib.hid (K2.out.below L3); have B3 := Lib.hid (B2.out.trans (L3.mono B2.out.size)); have S3 := Lib.hid (S2.out.below L3); clear hp3 L3)
  refine (ksign_ok q one16 rfl one16_ok A c 0 (by omega) zero16 rfl zero_ok w3 K3.out (range_below HK.out B3.out) (Nat.lt_of_lt_of_le h18 B3.out.size)).mono ?_
  rintro e w4 ⟨v, u, rfl, ho4, hp4, hb4⟩
  obtain ⟨A4, c4, rfl⟩ := own_form ho4
  obtain ⟨A5, c5, rfl⟩ := own_form hp4
  have B4 := Lib.hid (B3.out.trans (hb4.mono B3.out.size))
  have S4 := Lib.hid (S3.out.below hb4)
  have HONE : ∀ v ∈ [Value.int .i64 ((0 : Nat) : Int), .slice A4 68 c4, .slice A5 5 c5], v.oneCell' = true := by
    intro v hv
    simp only [List.mem_cons, List.not_mem_nil, or_false] at hv
    rcases hv with rfl | rfl | rfl <;> rfl
  have HO := Lib.hid HONE
  clear ho4 hp4 hb4 HONE
  go_wp2_with (refine wpList_store_row rfl 88 (.tmp 4) (.tmp 20) rfl w4.heap.size rfl [Value.int .i64 ((0 : Nat) : Int), .slice A4 68 c4, .slice A5 5 c5] rfl 88 (has_new w4 _ _ _ rfl) Tryd.size88' HO.out ?_; intro w5 hp5; have L5 : Below w4.heap.size w4 w5 := (hp5.below ((Below.refl _ _).alloc (Nat.le_refl _) _) (Nat.le_refl _)); have B5 := Lib.hid (B4.out.trans (L5.mono B4.out.size)); have S5 := Lib.hid (S4.out.below L5); have T5 := Lib.hid hp5.blk; clear hp5 L5)
  refine (num_k S5.out 4 a4 HA4.out 5 rfl).mono ?_
  rintro e w6 ⟨rfl, hb6⟩
  have T6 := blk_below T5.out hb6
  have hc6 : w6.cell? ⟨w4.heap.size, 1, none⟩ = some (.slice A4 68 c4) := by rw [cell_of_row _ _ _ _ _ _ T6]; rfl
  have B6 := Lib.hid (B5.out.trans (hb6.mono B5.out.size))
  clear hb6 T6
  go_wp2_with fail
  go_ret
  exact ⟨rfl, B6.out⟩
end Go.Proofs.YtdedphhohiioiaaDoor
/- KeysVerifies: what the law does. -/
namespace Go.Proofs.YtdedphhohiioiaaDoor
open Go.RowKit

theorem one_sig (l : Int) (A B : Option Addr) (n c k d : Nat) : ∀ v ∈ [Value.int .i64 l, .slice A n c, .slice B k d], v.oneCell' = true := by
  intro v hv
  simp only [List.mem_cons, List.not_mem_nil, or_false] at hv
  rcases hv with rfl | rfl | rfl <;> rfl
set_option maxHeartbeats 8000000 in
set_option maxRecDepth 100000 in
theorem keysVerifies_any (rt m : List Int) (hrl : rt.length = 16) (hlm : m.length = 16) (hm : u8s_ok m) (l : Int) (ds ps : List (List Int)) (A B : Option Addr) (n c k d : Nat) (al : List Addr) (w : World)
    (hx : Dgs w (.slice A n c) ds) (hp : Dgs w (.slice B k d) ps) (hn : n = ds.length ∧ k = ps.length) (S : SenN w al) (hk : w.rangeAt 18 0 (u32s kk)) (h18 : 18 < w.heap.size) :
    Calls Tryd.prog 22 #[.agg (u8s rt).toArray, .agg (u8s m).toArray, sigV l (.slice A n c) (.slice B k d)] w fun e w' => e = .returned (.bool true) ∧ Below w.heap.size w w' := by
  have hi43 : ∀ V : List Int, V.length = 16 → (Tryd.prog.info? 43).map (·.size) = some (u8s V).length := fun V h => by rw [u8s_len', h]; exact Tryd.size43
  have b0 : Below w.heap.size w (((w.alloc (.cells (u8s rt).toArray 43)).alloc (.cells (u8s m).toArray 43)).alloc (.cells #[.int .i64 l, .slice A n c, .slice B k d] 88)) := (((Below.refl _ _).alloc (Nat.le_refl _) _).alloc (by simp) _).alloc (by simp; omega) _
  have r0 : (((w.alloc (.cells (u8s rt).toArray 43)).alloc (.cells (u8s m).toArray 43)).alloc (.cells #[.int .i64 l, .slice A n c, .slice B k d] 88)).rangeAt w.heap.size 0 (u8s rt) := World.rangeAt_alloc (World.rangeAt_alloc (range_new w (u8s rt) 43) _) _
  have m0 : (((w.alloc (.cells (u8s rt).toArray 43)).alloc (.cells (u8s m).toArray 43)).alloc (.cells #[.int .i64 l, .slice A n c, .slice B k d] 88)).rangeAt (w.heap.size + 1) 0 (u8s m) := by
    have := range_new (w.alloc (.cells (u8s rt).toArray 43)) (u8s m) 43
    rw [World.size_alloc] at this
    exact World.rangeAt_alloc this _
  have s0 : (((w.alloc (.cells (u8s rt).toArray 43)).alloc (.cells (u8s m).toArray 43)).alloc (.cells #[.int .i64 l, .slice A n c, .slice B k d] 88)).heap[w.heap.size + 2]? = some (.cells #[.int .i64 l, .slice A n c, .slice B k d] 88 (0, 0)) := by
    have := heap_alloc_new ((w.alloc (.cells (u8s rt).toArray 43)).alloc (.cells (u8s m).toArray 43)) (.cells #[.int .i64 l, .slice A n c, .slice B k d] 88)
    rwa [World.size_alloc, World.size_alloc] at this
  have B0 := Lib.hid b0
  have R0 := Lib.hid r0
  have M0 := Lib.hid m0
  have S0 := Lib.hid s0
  have X0 := Lib.hid (hx.below b0)
  have P0 := Lib.hid (hp.below b0)
  have HM := Lib.hid hm
  have HLM := Lib.hid hlm
  have HRL := Lib.hid hrl
  have HN := Lib.hid hn
  clear b0 r0 m0 s0 hx hp hm hlm hrl hn
  have HK := Lib.hid hk
  have HS := Lib.hid (S.below B0.out)
  clear hk S
  go_enter Tryd.func22, Tryd.ntmps22
  go_wp2_with fail
  change Calls _ _ _ (((w.alloc (.cells (u8s rt).toArray 43)).alloc (.cells (u8s m).toArray 43)).alloc (.cells #[.int .i64 l, .slice A n c, .slice B k d] 88)) _
  generalize (((w.alloc (.cells (u8s rt).toArray 43)).alloc (.cells (u8s m).toArray 43)).alloc (.cells #[.int .i64 l, .slice A n c, .slice B k d] 88)) = W0 at *
  refine (alive_keys al W0 HS.out (range_below HK.out B0.out) (Nat.lt_of_lt_of_le h18 B0.out.size)).mono ?_
  rintro e w1 ⟨rfl, hb1⟩
  have B1 := Lib.hid (B0.out.trans (hb1.mono B0.out.size))
  have R1 := Lib.hid (range_below R0.out hb1)
  have M1 := Lib.hid (range_below M0.out hb1)
  have s1 := blk_below S0.out hb1
  have S1 := Lib.hid (blk_range (xs := [.int .i64 l, .slice A n c, .slice B k d]) s1)
  have X1 := Lib.hid (X0.out.below hb1)
  have P1 := Lib.hid (P0.out.below hb1)
  have HS1 := Lib.hid (HS.out.below hb1)
  have c1 : w1.cell? ⟨w.heap.size + 2, 1, none⟩ = some (.slice A n c) := by rw [cell_of_row _ _ _ _ _ _ s1]; rfl
  have c2 : w1.cell? ⟨w.heap.size + 2, 2, none⟩ = some (.slice B k d) := by rw [cell_of_row _ _ _ _ _ _ s1]; rfl
  clear hb1 s1
  by_cases h100 : 100 < n
  · have h100' : (100 : Int) < n := by omega
    go_wp2_with fail
    go_ret
    exact ⟨rfl, B1.out⟩
  have h100' : ¬ (100 : Int) < n := by omega
  by_cases h20 : 20 < k
  · have h20' : (20 : Int) < k := by omega
    go_wp2_with fail
    go_ret
    exact ⟨rfl, B1.out⟩
  have h20' : ¬ (20 : Int) < k := by omega
  obtain ⟨aR, haR⟩ := sen_at HS1.out 0 (by omega)
  obtain ⟨aF, haF⟩ := sen_at HS1.out 3 (by omega)
  have CR := Lib.hid (HS1.out.cell 0 1 aR rfl haR)
  have CF := Lib.hid (HS1.out.cell 3 0 aF rfl haF)
  clear haR haF
  go_wp2_with fail
  obtain ⟨rb, hrb⟩ : ∃ rb, rb = rightC rt m l ds ps := ⟨_, rfl⟩
  have HRB := Lib.hid hrb
  clear hrb
  refine wp_region_rely2 (by kernel_rfl) 14 (by kernel_rfl) (by kernel_rfl) Ext Ext.refl Ext.trans (fun ix => match ix with
    | 0 => fun _ v => v = .agg (u8s rt).toArray
    | 1 => fun _ v => v = .agg (u8s m).toArray
    | 2 => fun _ v => v = sigV l (.slice A n c) (.slice B k d)
    | 3 => fun _ v => v = .bool rb
    | 4 => fun _ v => v = .agg (u8s rt).toArray
    | 5 => fun _ v => v = .agg (u8s m).toArray
    | 6 => fun _ v => v = sigV l (.slice A n c) (.slice B k d)
    | 7 => fun _ v => v = .bool rb
    | 8 => fun _ v => v = .bool true
    | 9 => fun _ v => v = .bool true
    | 10 => fun _ v => v = sigV l (.slice A n c) (.slice B k d)
    | 11 => fun _ v => v = sigV l (.slice A n c) (.slice B k d)
    | 12 => fun _ v => v = .bool true
    | 13 => fun _ v => v = .bool true
    | _ => fun _ _ => False) ?_
  simp (maxSteps := 10000000) only [Rely, List.take_succ_cons, List.take_zero, List.drop_succ_cons, List.drop_zero, Nat.reduceAdd, Nat.zero_add, Act.put, List.setIfInBounds_toArray, List.set_cons_succ, List.set_cons_zero]
  refine ⟨?_, ?_, ?_, ?_, ?_, ?_, ?_, ?_, ?_, ?_, ?_, ?_, ?_, ?_, ?_⟩
  · refine step_plain rfl fun vs w5 hE hd => ?_
    exact gives_load_row 43 _ rfl w.heap.size 0 rfl (u8s rt) _ (range_below R1.out (ext_of_drew hE)) Tryd.underlying43 rfl (hi43 rt HRL.out) ⟨Ext.refl _, fun _ _ => rfl⟩
  · refine step_plain rfl fun vs w5 hE hd => ?_
    exact gives_load_row 43 _ rfl (w.heap.size + 1) 0 rfl (u8s m) _ (range_below M1.out (ext_of_drew hE)) Tryd.underlying43 rfl (hi43 m HLM.out) ⟨Ext.refl _, fun _ _ => rfl⟩
  · refine step_plain rfl fun vs w5 hE hd => ?_
    exact gives_load_row 88 _ rfl (w.heap.size + 2) 0 rfl [.int .i64 l, .slice A n c, .slice B k d] _ (range_below S1.out (ext_of_drew hE)) Tryd.underlying88 rfl Tryd.size88' ⟨Ext.refl _, fun _ _ => rfl⟩
  · refine step_plain rfl fun vs w5 hE hd => ?_
    refine gives_call 69 (enters_of Tryd.func69 (by kernel_rfl) rfl) _ _ rfl rfl [.agg (u8s rt).toArray, .agg (u8s m).toArray, sigV l (.slice A n c) (.slice B k d)] (congr (congrArg (fun a b => a :: b) (show vs 0 = _ from hd.1)) (congr (congrArg (fun a b => a :: b) (show vs 1 = _ from hd.2.1)) (congrArg (fun a => [a]) (show vs 2 = _ from hd.2.2.1)))) ?_
    have hb5 := B1.out.trans ((ext_of_drew hE).mono B1.out.size)
    refine (verify_any rt m HRL.out HLM.out HM.out l ds ps A B n c k d aR aF w5 (X1.out.below (ext_of_drew hE)) (P1.out.below (ext_of_drew hE)) HN.out (cell_on (ext_of_drew hE) CR.out) (cell_on (ext_of_drew hE) CF.out) (range_below HK.out hb5) (Nat.lt_of_lt_of_le h18 hb5.size)).mono ?_
    rintro _ w6 ⟨rfl, hb6⟩
    exact ⟨_, rfl, hb6, fun _ _ => by rw [HRB.out]; rfl⟩
  · refine step_plain rfl fun vs w5 hE hd => ?_
    exact gives_load_row 43 _ rfl w.heap.size 0 rfl (u8s rt) _ (range_below R1.out (ext_of_drew hE)) Tryd.underlying43 rfl (hi43 rt HRL.out) ⟨Ext.refl _, fun _ _ => rfl⟩
  · refine step_plain rfl fun vs w5 hE hd => ?_
    exact gives_load_row 43 _ rfl (w.heap.size + 1) 0 rfl (u8s m) _ (range_below M1.out (ext_of_drew hE)) Tryd.underlying43 rfl (hi43 m HLM.out) ⟨Ext.refl _, fun _ _ => rfl⟩
  · refine step_plain rfl fun vs w5 hE hd => ?_
    exact gives_load_row 88 _ rfl (w.heap.size + 2) 0 rfl [.int .i64 l, .slice A n c, .slice B k d] _ (range_below S1.out (ext_of_drew hE)) Tryd.underlying88 rfl Tryd.size88' ⟨Ext.refl _, fun _ _ => rfl⟩
  · refine step_plain rfl fun vs w5 hE hd => ?_
    refine gives_call 70 (enters_of Tryd.func70 (by kernel_rfl) rfl) _ _ rfl rfl [.agg (u8s rt).toArray, .agg (u8s m).toArray, sigV l (.slice A n c) (.slice B k d)] (congr (congrArg (fun a b => a :: b) (show vs 4 = _ from hd.1)) (congr (congrArg (fun a b => a :: b) (show vs 5 = _ from hd.2.1)) (congrArg (fun a => [a]) (show vs 6 = _ from hd.2.2.1)))) ?_
    refine (refRight_any rt m HRL.out HLM.out HM.out l ds ps A B n c k d w5 (X1.out.below (ext_of_drew hE)) (P1.out.below (ext_of_drew hE)) HN.out).mono ?_
    rintro _ w6 ⟨rfl, hb6⟩
    exact ⟨_, rfl, hb6, fun _ _ => by rw [HRB.out]; rfl⟩
  · refine step_plain rfl fun vs w5 hE hd => ?_
    exact gives_binOp .eql 4 _ _ _ rfl (.bool rb) (.bool rb) (.bool true) (show vs 3 = _ from (hd.1)) (show vs 7 = _ from (hd.2.1)) (by go_simp) (by cases rb <;> go_simp) ⟨Ext.refl _, fun _ _ => rfl⟩
  · refine step_plain rfl fun vs w5 hE hd => ?_
    exact gives_move _ (.bool true) (.inl rfl) (show vs 8 = _ from hd.1) ⟨Ext.refl _, fun _ _ => rfl⟩
  · refine step_guard 9 true 28 rfl rfl (fun _ => rfl) fun vs w5 hE hd => ⟨hd.1, ?_⟩
    exact gives_load_row 88 _ rfl (w.heap.size + 2) 0 rfl [.int .i64 l, .slice A n c, .slice B k d] _ (range_below S1.out (ext_of_drew hE)) Tryd.underlying88 rfl Tryd.size88' ⟨Ext.refl _, fun _ _ => rfl⟩
  · refine step_guard 9 true 28 rfl rfl (fun _ => rfl) fun vs w5 hE hd => ⟨hd.1, ?_⟩
    exact gives_load_row 88 _ rfl (w.heap.size + 2) 0 rfl [.int .i64 l, .slice A n c, .slice B k d] _ (range_below S1.out (ext_of_drew hE)) Tryd.underlying88 rfl Tryd.size88' ⟨Ext.refl _, fun _ _ => rfl⟩
  · refine step_guard 9 true 28 rfl rfl (fun _ => rfl) fun vs w5 hE hd => ⟨hd.2.2.1, ?_⟩
    refine gives_call 64 (enters_of Tryd.func64 (by kernel_rfl) rfl) _ _ rfl rfl [sigV l (.slice A n c) (.slice B k d), sigV l (.slice A n c) (.slice B k d)] (congr (congrArg (fun a b => a :: b) (show vs 10 = _ from hd.1)) (congrArg (fun a => [a]) (show vs 11 = _ from hd.2.1))) ?_
    refine (ksame_any l l ds ds ps ps A A B B n n c c k k d d w5 (X1.out.below (ext_of_drew hE)) (X1.out.below (ext_of_drew hE)) (P1.out.below (ext_of_drew hE)) (P1.out.below (ext_of_drew hE)) ⟨HN.out.1, HN.out.1, HN.out.2, HN.out.2⟩ (by omega) (by omega)).mono ?_
    rintro _ w6 ⟨rfl, hb6⟩
    exact ⟨_, rfl, hb6, fun _ _ => by simp⟩
  · refine step_plain rfl fun vs w5 hE hd => ?_
    exact gives_pick _ _ _ (.bool true) true rfl (show vs 9 = _ from hd.1) (show vs 12 = _ from hd.2.1) ⟨Ext.refl _, fun _ _ => rfl⟩
  · intro vs w5 hE hR
    have h13 : vs 13 = .bool true := hR 13 (by omega)
    rw [h13]
    have B5 := Lib.hid (B1.out.trans ((ext_of_drew hE).mono B1.out.size))
    clear hR hE h13
    go_wp2_with fail
    go_ret
    exact ⟨rfl, B5.out⟩
end Go.Proofs.YtdedphhohiioiaaDoor
/- KeysSigns: what the law does. -/
namespace Go.Proofs.YtdedphhohiioiaaDoor
open Go.RowKit

/-- A signature that is made is right. -/
theorem right_made (x m : List Int) (i : Nat) (hi : i < 32) : rightC (rootT (lvT x 32)) m i (sigC i x m 68) (wayT (lvT x 32) i 5) = true := by
  unfold rightC
  refine decide_eq_true ⟨⟨by omega, by omega⟩, sigC_len _ _ _ _, wayT_len _ _ _, ?_⟩
  rw [rec_sig (i : Int) x m 68 68 (Nat.le_refl _), Int.toNat_natCast, ← lvT_at x 32 i hi]
  exact climb_way (lvT x 32) (lvT_len x 32) i hi
theorem dgs_nil (w : World) (A : Option Addr) (c : Nat) : Dgs w (.slice A 0 c) [] := ⟨⟨A, c, rfl⟩, fun h => absurd rfl h, fun _ h => by cases h⟩

set_option maxHeartbeats 16000000 in
set_option maxRecDepth 100000 in
theorem keysSigns_any (x m : List Int) (hl : x.length = 16) (hx : u8s_ok x) (hlm : m.length = 16) (hm : u8s_ok m) (l : Int) (al : List Addr) (w : World) (S : SenN w al) (hk : w.rangeAt 18 0 (u32s kk)) (h18 : 18 < w.heap.size) :
    Calls Tryd.prog 21 #[.agg (u8s x).toArray, .int .i64 l, .agg (u8s m).toArray] w fun e w' => e = .returned (.bool true) ∧ Below w.heap.size w w' := by
  have hi43 : ∀ V : List Int, V.length = 16 → (Tryd.prog.info? 43).map (·.size) = some (u8s V).length := fun V h => by rw [u8s_len', h]; exact Tryd.size43
  have b0 : Below w.heap.size w ((w.alloc (.cells (u8s x).toArray 43)).alloc (.cells (u8s m).toArray 43)) := ((Below.refl _ _).alloc (Nat.le_refl _) _).alloc (by simp) _
  have x0 : ((w.alloc (.cells (u8s x).toArray 43)).alloc (.cells (u8s m).toArray 43)).rangeAt w.heap.size 0 (u8s x) := World.rangeAt_alloc (range_new w (u8s x) 43) _
  have m0 : ((w.alloc (.cells (u8s x).toArray 43)).alloc (.cells (u8s m).toArray 43)).rangeAt (w.heap.size + 1) 0 (u8s m) := by
    have := range_new (w.alloc (.cells (u8s x).toArray 43)) (u8s m) 43
    rwa [World.size_alloc] at this
  have B0 := Lib.hid b0
  have XR0 := Lib.hid x0
  have MR0 := Lib.hid m0
  have S0 := Lib.hid (S.below b0)
  have HK := Lib.hid hk
  have HX := Lib.hid hx
  have HL := Lib.hid hl
  have HM := Lib.hid hm
  have HLM := Lib.hid hlm
  clear b0 x0 m0 S hk hx hl hm hlm
  go_enter Tryd.func21, Tryd.ntmps21
  go_wp2_with fail
  change Calls _ _ _ ((w.alloc (.cells (u8s x).toArray 43)).alloc (.cells (u8s m).toArray 43)) _
  generalize ((w.alloc (.cells (u8s x).toArray 43)).alloc (.cells (u8s m).toArray 43)) = W0 at *
  refine (alive_keys al W0 S0.out (range_below HK.out B0.out) (Nat.lt_of_lt_of_le h18 B0.out.size)).mono ?_
  rintro e w1 ⟨rfl, hb1⟩
  have B1 := Lib.hid (B0.out.trans (hb1.mono B0.out.size))
  have XR1 := Lib.hid (range_below XR0.out hb1)
  have MR1 := Lib.hid (range_below MR0.out hb1)
  have S1 := Lib.hid (S0.out.below hb1)
  clear hb1
  go_wp2_with (refine wpList_load_g rfl 43 (.tmp 3) rfl w.heap.size 0 rfl (u8s x) _ XR1.out Tryd.underlying43 rfl (hi43 x HL.out) ?_)
  refine (keyNew_any x HL.out HX.out w1 (range_below HK.out B1.out) (Nat.lt_of_lt_of_le h18 B1.out.size)).mono ?_
  rintro e w2 ⟨q, A, c, rfl, hq, key, hb2⟩
  have B2 := Lib.hid (B1.out.trans (hb2.mono B1.out.size))
  have XR2 := Lib.hid (range_below XR1.out hb2)
  have MR2 := Lib.hid (range_below MR1.out hb2)
  have S2 := Lib.hid (S1.out.below hb2)
  have K2 := Lib.hid key
  clear hb2 key hq
  go_wp2_with (refine wpList_load_g rfl 43 (.tmp 3) rfl w.heap.size 0 rfl (u8s x) _ XR2.out Tryd.underlying43 rfl (hi43 x HL.out) ?_)
  refine (leaves_any x HL.out HX.out w2).mono ?_
  rintro e w3 ⟨v, rfl, ho3, hb3⟩
  have DL3 := Lib.hid (Dgs.of_own ho3 (lvT_len x 32).symm (lvT_good x 32))
  obtain ⟨AL, cL, rfl⟩ := own_form ho3
  have B3 := Lib.hid (B2.out.trans (hb3.mono B2.out.size))
  have XR3 := Lib.hid (range_below XR2.out hb3)
  have MR3 := Lib.hid (range_below MR2.out hb3)
  have S3 := Lib.hid (S2.out.below hb3)
  have K3 := Lib.hid (K2.out.below hb3)
  clear hb3 ho3
  have hgr := rootT_good (lvT x 32) (lvT_len x 32) (lvT_good x 32)
  obtain ⟨RT, hRT⟩ : ∃ d, d = rootT (lvT x 32) := ⟨_, rfl⟩
  rw [← hRT] at hgr
  have HRT := Lib.hid hRT
  have RTL := Lib.hid hgr.1
  clear hgr hRT
  go_wp2_with (refine wpList_load_g rfl 43 (.tmp 5) rfl (w.heap.size + 1) 0 rfl (u8s m) _ MR3.out Tryd.underlying43 rfl (hi43 m HLM.out) ?_)
  by_cases hneg : l < 0
  · skip
    obtain ⟨aR, haR⟩ := sen_at S3.out 0 (by omega)
    have hcR := S3.out.cell 0 1 aR rfl haR
    have HAR := Lib.hid haR
    clear haR
    refine (ksign_range _ m l hneg aR w3 hcR).mono ?_
    rintro e w4 ⟨rfl, hb4⟩
    have B4 := Lib.hid (B3.out.trans (hb4.mono B3.out.size))
    have S4 := Lib.hid (S3.out.below hb4)
    have K4 := Lib.hid (K3.out.below hb4)
    have DL4 := Lib.hid (DL3.out.below hb4)
    have XR4 := Lib.hid (range_below XR3.out hb4)
    have MR4 := Lib.hid (range_below MR3.out hb4)
    clear hb4 hcR
    go_wp2_with (refine wpList_store_row rfl 88 (.tmp 9) (.tmp 24) rfl w4.heap.size rfl sig0 rfl 88 (has_new w4 _ _ _ rfl) Tryd.size88' one_sig0 ?_; intro w5 hp5; have L5 : Below w4.heap.size w4 w5 := (hp5.below ((Below.refl _ _).alloc (Nat.le_refl _) _) (Nat.le_refl _)); have T5 := Lib.hid hp5.blk; have B5 := Lib.hid (B4.out.trans (L5.mono B4.out.size)); have S5 := Lib.hid (S4.out.below L5); have K5 := Lib.hid (K4.out.below L5); have DL5 := Lib.hid (DL4.out.below L5); have XR5 := Lib.hid (range_below XR4.out L5); have MR5 := Lib.hid (range_below MR4.out L5); clear hp5 L5)
    refine (keyRoot_any q x HL.out A c w5 K5.out).mono ?_
    rintro e w6 ⟨rfl, hb6⟩
    rw [← HRT.out]
    have B6 := Lib.hid (B5.out.trans (hb6.mono B5.out.size))
    have S6 := Lib.hid (S5.out.below hb6)
    have K6 := Lib.hid (K5.out.below hb6)
    have DL6 := Lib.hid (DL5.out.below hb6)
    have T6 := Lib.hid (blk_below T5.out hb6)
    have XR6 := Lib.hid (range_below XR5.out hb6)
    have MR6 := Lib.hid (range_below MR5.out hb6)
    clear hb6
    go_wp2_with fail
    refine (refRoot_any 5 (by omega) (lvT x 32) AL 32 cL w6 DL6.out ⟨(lvT_len x 32).symm, rfl⟩).mono ?_
    rintro e w7 ⟨rfl, hb7⟩
    rw [show rootH joinC [] 5 (lvT x 32) = RT from HRT.out.symm]
    have hsame := run_same16 RT RTL.out
    have B7 := Lib.hid (B6.out.trans (hb7.mono B6.out.size))
    have S7 := Lib.hid (S6.out.below hb7)
    have K7 := Lib.hid (K6.out.below hb7)
    have DL7 := Lib.hid (DL6.out.below hb7)
    have T7 := Lib.hid (blk_below T6.out hb7)
    have XR7 := Lib.hid (range_below XR6.out hb7)
    have MR7 := Lib.hid (range_below MR6.out hb7)
    clear hb7
    go_wp2_with fail
    refine (left_any l w7).mono ?_
    rintro e w8 ⟨rfl, rfl⟩
    have TS := Lib.hid (blk_range (xs := sig0) T7.out)
    go_wp2_with (refine wpList_load_g rfl 88 (.tmp 9) rfl w4.heap.size 0 rfl sig0 _ TS.out Tryd.underlying88 rfl Tryd.size88' ?_)
    refine (krsame_any 0 0 [] [] [] [] none none none none 0 0 0 0 0 0 0 0 _ (dgs_nil _ _ _) (dgs_nil _ _ _) (dgs_nil _ _ _) (dgs_nil _ _ _) ⟨rfl, rfl, rfl, rfl⟩ (by omega) (by omega)).mono ?_
    rintro e w9 ⟨rfl, hb9⟩
    rw [decide_eq_true ⟨rfl, rfl, rfl⟩]
    have B9 := Lib.hid (B7.out.trans (hb9.mono B7.out.size))
    have S9 := Lib.hid (S7.out.below hb9)
    clear hb9
    go_wp2_with fail
    refine (num_k S9.out 0 aR HAR.out 1 rfl).mono ?_
    rintro e w10 ⟨rfl, hb10⟩
    have B10 := Lib.hid (B9.out.trans (hb10.mono B9.out.size))
    clear hb10
    go_wp2_with fail
    go_ret
    exact ⟨rfl, B10.out⟩
  by_cases hbig : 32 ≤ l
  · have hbig' : 31 < l := by omega
    obtain ⟨aR, haR⟩ := sen_at S3.out 4 (by omega)
    have hcR := S3.out.cell 4 4 aR rfl haR
    have HAR := Lib.hid haR
    clear haR
    refine (ksign_spent _ m l hbig aR w3 hcR).mono ?_
    rintro e w4 ⟨rfl, hb4⟩
    have B4 := Lib.hid (B3.out.trans (hb4.mono B3.out.size))
    have S4 := Lib.hid (S3.out.below hb4)
    have K4 := Lib.hid (K3.out.below hb4)
    have DL4 := Lib.hid (DL3.out.below hb4)
    have XR4 := Lib.hid (range_below XR3.out hb4)
    have MR4 := Lib.hid (range_below MR3.out hb4)
    clear hb4 hcR
    go_wp2_with (refine wpList_store_row rfl 88 (.tmp 9) (.tmp 24) rfl w4.heap.size rfl sig0 rfl 88 (has_new w4 _ _ _ rfl) Tryd.size88' one_sig0 ?_; intro w5 hp5; have L5 : Below w4.heap.size w4 w5 := (hp5.below ((Below.refl _ _).alloc (Nat.le_refl _) _) (Nat.le_refl _)); have T5 := Lib.hid hp5.blk; have B5 := Lib.hid (B4.out.trans (L5.mono B4.out.size)); have S5 := Lib.hid (S4.out.below L5); have K5 := Lib.hid (K4.out.below L5); have DL5 := Lib.hid (DL4.out.below L5); have XR5 := Lib.hid (range_below XR4.out L5); have MR5 := Lib.hid (range_below MR4.out L5); clear hp5 L5)
    refine (keyRoot_any q x HL.out A c w5 K5.out).mono ?_
    rintro e w6 ⟨rfl, hb6⟩
    rw [← HRT.out]
    have B6 := Lib.hid (B5.out.trans (hb6.mono B5.out.size))
    have S6 := Lib.hid (S5.out.below hb6)
    have K6 := Lib.hid (K5.out.below hb6)
    have DL6 := Lib.hid (DL5.out.below hb6)
    have T6 := Lib.hid (blk_below T5.out hb6)
    have XR6 := Lib.hid (range_below XR5.out hb6)
    have MR6 := Lib.hid (range_below MR5.out hb6)
    clear hb6
    go_wp2_with fail
    refine (refRoot_any 5 (by omega) (lvT x 32) AL 32 cL w6 DL6.out ⟨(lvT_len x 32).symm, rfl⟩).mono ?_
    rintro e w7 ⟨rfl, hb7⟩
    rw [show rootH joinC [] 5 (lvT x 32) = RT from HRT.out.symm]
    have hsame := run_same16 RT RTL.out
    have B7 := Lib.hid (B6.out.trans (hb7.mono B6.out.size))
    have S7 := Lib.hid (S6.out.below hb7)
    have K7 := Lib.hid (K6.out.below hb7)
    have DL7 := Lib.hid (DL6.out.below hb7)
    have T7 := Lib.hid (blk_below T6.out hb7)
    have XR7 := Lib.hid (range_below XR6.out hb7)
    have MR7 := Lib.hid (range_below MR6.out hb7)
    clear hb7
    go_wp2_with fail
    refine (left_any l w7).mono ?_
    rintro e w8 ⟨rfl, rfl⟩
    have TS := Lib.hid (blk_range (xs := sig0) T7.out)
    go_wp2_with (refine wpList_load_g rfl 88 (.tmp 9) rfl w4.heap.size 0 rfl sig0 _ TS.out Tryd.underlying88 rfl Tryd.size88' ?_)
    refine (krsame_any 0 0 [] [] [] [] none none none none 0 0 0 0 0 0 0 0 _ (dgs_nil _ _ _) (dgs_nil _ _ _) (dgs_nil _ _ _) (dgs_nil _ _ _) ⟨rfl, rfl, rfl, rfl⟩ (by omega) (by omega)).mono ?_
    rintro e w9 ⟨rfl, hb9⟩
    rw [decide_eq_true ⟨rfl, rfl, rfl⟩]
    have B9 := Lib.hid (B7.out.trans (hb9.mono B7.out.size))
    have S9 := Lib.hid (S7.out.below hb9)
    clear hb9
    go_wp2_with fail
    refine (num_k S9.out 4 aR HAR.out 5 rfl).mono ?_
    rintro e w10 ⟨rfl, hb10⟩
    have B10 := Lib.hid (B9.out.trans (hb10.mono B9.out.size))
    clear hb10
    go_wp2_with fail
    go_ret
    exact ⟨rfl, B10.out⟩
  obtain ⟨i, rfl⟩ : ∃ i : Nat, l = i := ⟨l.toNat, by omega⟩
  have hi32 : i < 32 := by omega
  have hneg' : ¬ (i : Int) < 0 := by omega
  have hbig' : ¬ 31 < (i : Int) := by omega
  refine (ksign_ok q x HL.out HX.out A c i hi32 m HLM.out HM.out w3 K3.out (range_below HK.out B3.out) (Nat.lt_of_lt_of_le h18 B3.out.size)).mono ?_
  rintro e w4 ⟨v, u, rfl, ho4, hp4, hb4⟩
  have DS4 := Lib.hid (sig_dgs ho4)
  have DW4 := Lib.hid (way_dgs hi32 (lvT_len x 32) (lvT_good x 32) hp4)
  obtain ⟨A4, c4, rfl⟩ := own_form ho4
  obtain ⟨A5, c5, rfl⟩ := own_form hp4
  have B4 := Lib.hid (B3.out.trans (hb4.mono B3.out.size))
  have S4 := Lib.hid (S3.out.below hb4)
  have K4 := Lib.hid (K3.out.below hb4)
  have DL4 := Lib.hid (DL3.out.below hb4)
  have XR4 := Lib.hid (range_below XR3.out hb4)
  have MR4 := Lib.hid (range_below MR3.out hb4)
  clear hb4 ho4 hp4
  go_wp2_with (refine wpList_store_row rfl 88 (.tmp 9) (.tmp 24) rfl w4.heap.size rfl [Value.int .i64 (i : Int), .slice A4 68 c4, .slice A5 5 c5] rfl 88 (has_new w4 _ _ _ rfl) Tryd.size88' (one_sig _ _ _ _ _ _ _) ?_; intro w5 hp5; have L5 : Below w4.heap.size w4 w5 := (hp5.below ((Below.refl _ _).alloc (Nat.le_refl _) _) (Nat.le_refl _)); have T5 := Lib.hid hp5.blk; have B5 := Lib.hid (B4.out.trans (L5.mono B4.out.size)); have S5 := Lib.hid (S4.out.below L5); have K5 := Lib.hid (K4.out.below L5); have DL5 := Lib.hid (DL4.out.below L5); have XR5 := Lib.hid (range_below XR4.out L5); have MR5 := Lib.hid (range_below MR4.out L5); have DS5 := Lib.hid (DS4.out.below L5); have DW5 := Lib.hid (DW4.out.below L5); clear hp5 L5)
  refine (keyRoot_any q x HL.out A c w5 K5.out).mono ?_
  rintro e w6 ⟨rfl, hb6⟩
  rw [← HRT.out]
  have B6 := Lib.hid (B5.out.trans (hb6.mono B5.out.size))
  have S6 := Lib.hid (S5.out.below hb6)
  have K6 := Lib.hid (K5.out.below hb6)
  have DL6 := Lib.hid (DL5.out.below hb6)
  have T6 := Lib.hid (blk_below T5.out hb6)
  have XR6 := Lib.hid (range_below XR5.out hb6)
  have MR6 := Lib.hid (range_below MR5.out hb6)
  have DS6 := Lib.hid (DS5.out.below hb6)
  have DW6 := Lib.hid (DW5.out.below hb6)
  clear hb6
  go_wp2_with fail
  refine (refRoot_any 5 (by omega) (lvT x 32) AL 32 cL w6 DL6.out ⟨(lvT_len x 32).symm, rfl⟩).mono ?_
  rintro e w7 ⟨rfl, hb7⟩
  rw [show rootH joinC [] 5 (lvT x 32) = RT from HRT.out.symm]
  have hsame := run_same16 RT RTL.out
  have B7 := Lib.hid (B6.out.trans (hb7.mono B6.out.size))
  have S7 := Lib.hid (S6.out.below hb7)
  have K7 := Lib.hid (K6.out.below hb7)
  have DL7 := Lib.hid (DL6.out.below hb7)
  have T7 := Lib.hid (blk_below T6.out hb7)
  have XR7 := Lib.hid (range_below XR6.out hb7)
  have MR7 := Lib.hid (range_below MR6.out hb7)
  have DS7 := Lib.hid (DS6.out.below hb7)
  have DW7 := Lib.hid (DW6.out.below hb7)
  clear hb7
  go_wp2_with fail
  refine (left_any (i : Int) w7).mono ?_
  rintro e w8 ⟨rfl, rfl⟩
  obtain ⟨aR, haR⟩ := sen_at S7.out 0 (by omega)
  obtain ⟨aF, haF⟩ := sen_at S7.out 3 (by omega)
  have CR := Lib.hid (S7.out.cell 0 1 aR rfl haR)
  have CF := Lib.hid (S7.out.cell 3 0 aF rfl haF)
  clear haR haF
  have TS := Lib.hid (blk_range (xs := [Value.int .i64 (i : Int), .slice A4 68 c4, .slice A5 5 c5]) T7.out)
  go_wp2_with fail
  refine wp_region_rely2 (by kernel_rfl) 18 (by kernel_rfl) (by kernel_rfl) Ext Ext.refl Ext.trans (fun ix => match ix with
    | 0 => fun _ v => v = .nilIface
    | 1 => fun _ v => v = .bool true
    | 2 => fun _ v => v = .bool true
    | 3 => fun _ v => v = sigV (i : Int) (.slice A4 68 c4) (.slice A5 5 c5)
    | 4 => fun _ v => v = .agg (u8s x).toArray
    | 5 => fun _ v => v = .slice AL 32 cL
    | 6 => fun _ v => v = .int .i64 (i : Int)
    | 7 => fun _ v => v = .agg (u8s m).toArray
    | 8 => fun W v => ∃ A6 c6 A7 c7, v = sigV (i : Int) (.slice A6 68 c6) (.slice A7 5 c7) ∧ Dgs W (.slice A6 68 c6) (sigC i x m 68) ∧ Dgs W (.slice A7 5 c7) (wayT (lvT x 32) i 5)
    | 9 => fun _ v => v = .bool true
    | 10 => fun _ v => v = .bool true
    | 11 => fun _ v => v = .bool true
    | 12 => fun _ v => v = .pointer (some ⟨q, 0, none⟩)
    | 13 => fun _ v => v = .agg (u8s RT).toArray
    | 14 => fun _ v => v = .agg (u8s m).toArray
    | 15 => fun _ v => v = sigV (i : Int) (.slice A4 68 c4) (.slice A5 5 c5)
    | 16 => fun _ v => v = .bool true
    | 17 => fun _ v => v = .bool true
    | _ => fun _ _ => False) ?_
  simp (maxSteps := 10000000) only [Rely, List.take_succ_cons, List.take_zero, List.drop_succ_cons, List.drop_zero, Nat.reduceAdd, Nat.zero_add, Act.put, List.setIfInBounds_toArray, List.set_cons_succ, List.set_cons_zero]
  refine ⟨?_, ?_, ?_, ?_, ?_, ?_, ?_, ?_, ?_, ?_, ?_, ?_, ?_, ?_, ?_, ?_, ?_, ?_, ?_⟩
  · refine step_plain rfl fun vs wq hE hd => ?_
    exact gives_move _ (.nilIface) (.inl rfl) rfl ⟨Ext.refl _, fun _ _ => rfl⟩
  · refine step_plain rfl fun vs wq hE hd => ?_
    exact gives_binOp .eql 57 _ _ _ rfl (.nilIface) (Value.nilIface) (.bool true) (show vs 0 = _ from hd.1) rfl (by go_simp) (by go_simp) ⟨Ext.refl _, fun _ _ => rfl⟩
  · refine step_plain rfl fun vs wq hE hd => ?_
    exact gives_move _ (.bool true) (.inl rfl) (show vs 1 = _ from hd.1) ⟨Ext.refl _, fun _ _ => rfl⟩
  · refine step_guard 2 true 64 rfl rfl (fun _ => rfl) fun vs wq hE hd => ⟨hd.1, ?_⟩
    exact gives_load_row 88 _ rfl w4.heap.size 0 rfl [Value.int .i64 (i : Int), .slice A4 68 c4, .slice A5 5 c5] _ (range_below TS.out (ext_of_drew hE)) Tryd.underlying88 rfl Tryd.size88' ⟨Ext.refl _, fun _ _ => rfl⟩
  · refine step_guard 2 true 64 rfl rfl (fun _ => rfl) fun vs wq hE hd => ⟨hd.1, ?_⟩
    exact gives_load_row 43 _ rfl w.heap.size 0 rfl (u8s x) _ (range_below XR7.out (ext_of_drew hE)) Tryd.underlying43 rfl (hi43 x HL.out) ⟨Ext.refl _, fun _ _ => rfl⟩
  · refine step_guard 2 true 64 rfl rfl (fun _ => rfl) fun vs wq hE hd => ⟨hd.1, ?_⟩
    exact gives_move _ (.slice AL 32 cL) (.inl rfl) rfl ⟨Ext.refl _, fun _ _ => rfl⟩
  · refine step_guard 2 true 64 rfl rfl (fun _ => rfl) fun vs wq hE hd => ⟨hd.1, ?_⟩
    exact gives_move _ (.int .i64 (i : Int)) (.inl rfl) rfl ⟨Ext.refl _, fun _ _ => rfl⟩
  · refine step_guard 2 true 64 rfl rfl (fun _ => rfl) fun vs wq hE hd => ⟨hd.1, ?_⟩
    exact gives_load_row 43 _ rfl (w.heap.size + 1) 0 rfl (u8s m) _ (range_below MR7.out (ext_of_drew hE)) Tryd.underlying43 rfl (hi43 m HLM.out) ⟨Ext.refl _, fun _ _ => rfl⟩
  · refine step_guard 2 true 64 rfl rfl (fun _ => rfl) fun vs wq hE hd => ⟨hd.2.2.2.2.1, ?_⟩
    refine gives_call 68 (enters_of Tryd.func68 (by kernel_rfl) rfl) _ _ rfl rfl [.agg (u8s x).toArray, .slice AL 32 cL, .int .i64 (i : Int), .agg (u8s m).toArray] (congr (congrArg (fun a b => a :: b) (show vs 4 = _ from hd.1)) (congr (congrArg (fun a b => a :: b) (show vs 5 = _ from hd.2.1)) (congr (congrArg (fun a b => a :: b) (show vs 6 = _ from hd.2.2.1)) (congrArg (fun a => [a]) (show vs 7 = _ from hd.2.2.2.1))))) ?_
    refine (refKSign_any x m HL.out HX.out HLM.out HM.out (lvT x 32) AL 32 cL i hi32 wq (DL7.out.below (ext_of_drew hE)) (lvT_len x 32).symm rfl).mono ?_
    rintro _ w'' ⟨v, u, rfl, ho, hp, hb⟩
    have ds := sig_dgs ho
    have dw := way_dgs hi32 (lvT_len x 32) (lvT_good x 32) hp
    obtain ⟨A6, c6, rfl⟩ := own_form ho
    obtain ⟨A7, c7, rfl⟩ := own_form hp
    exact ⟨_, rfl, hb, fun _ hE2 => ⟨A6, c6, A7, c7, rfl, ds.below hE2, dw.below hE2⟩⟩
  · refine step_guard 2 true 64 rfl rfl (fun _ => rfl) fun vs wq hE hd => ⟨hd.2.2.2.1, ?_⟩
    obtain ⟨A6, c6, A7, c7, h8, ds, dw⟩ := hd.2.1
    refine gives_call 67 (enters_of Tryd.func67 (by kernel_rfl) rfl) _ _ rfl rfl [sigV (i : Int) (.slice A4 68 c4) (.slice A5 5 c5), sigV (i : Int) (.slice A6 68 c6) (.slice A7 5 c7)] (congr (congrArg (fun a b => a :: b) (show vs 3 = _ from hd.1)) (congrArg (fun a => [a]) (show vs 8 = _ from h8))) ?_
    refine (krsame_any i i (sigC i x m 68) (sigC i x m 68) (wayT (lvT x 32) i 5) (wayT (lvT x 32) i 5) A4 A6 A5 A7 68 68 c4 c6 5 5 c5 c7 wq (DS7.out.below (ext_of_drew hE)) ds (DW7.out.below (ext_of_drew hE)) dw ⟨(sigC_len _ _ _ _).symm, (sigC_len _ _ _ _).symm, (wayT_len _ _ _).symm, (wayT_len _ _ _).symm⟩ (by omega) (by omega)).mono ?_
    rintro _ w'' ⟨rfl, hb⟩
    exact ⟨_, rfl, hb, fun _ _ => by simp⟩
  · refine step_plain rfl fun vs wq hE hd => ?_
    exact gives_pick _ _ _ (.bool true) true rfl (show vs 2 = _ from hd.1) (show vs 9 = _ from hd.2.1) ⟨Ext.refl _, fun _ _ => rfl⟩
  · refine step_plain rfl fun vs wq hE hd => ?_
    exact gives_move _ (.bool true) (.inl rfl) (show vs 10 = _ from hd.1) ⟨Ext.refl _, fun _ _ => rfl⟩
  · refine step_guard 11 true 73 rfl rfl (fun _ => rfl) fun vs wq hE hd => ⟨hd.1, ?_⟩
    exact gives_move _ (.pointer (some ⟨q, 0, none⟩)) (.inl rfl) rfl ⟨Ext.refl _, fun _ _ => rfl⟩
  · refine step_guard 11 true 73 rfl rfl (fun _ => rfl) fun vs wq hE hd => ⟨hd.2.1, ?_⟩
    refine gives_call 63 (enters_of Tryd.func63 (by kernel_rfl) rfl) _ _ rfl rfl [.pointer (some ⟨q, 0, none⟩)] (congrArg (fun a => [a]) (show vs 12 = _ from hd.1)) ?_
    refine (keyRoot_any q x HL.out A c wq (K7.out.below (ext_of_drew hE))).mono ?_
    rintro _ w'' ⟨rfl, hb⟩
    exact ⟨_, rfl, hb, fun _ _ => by rw [HRT.out]; rfl⟩
  · refine step_guard 11 true 73 rfl rfl (fun _ => rfl) fun vs wq hE hd => ⟨hd.1, ?_⟩
    exact gives_load_row 43 _ rfl (w.heap.size + 1) 0 rfl (u8s m) _ (range_below MR7.out (ext_of_drew hE)) Tryd.underlying43 rfl (hi43 m HLM.out) ⟨Ext.refl _, fun _ _ => rfl⟩
  · refine step_guard 11 true 73 rfl rfl (fun _ => rfl) fun vs wq hE hd => ⟨hd.1, ?_⟩
    exact gives_load_row 88 _ rfl w4.heap.size 0 rfl [Value.int .i64 (i : Int), .slice A4 68 c4, .slice A5 5 c5] _ (range_below TS.out (ext_of_drew hE)) Tryd.underlying88 rfl Tryd.size88' ⟨Ext.refl _, fun _ _ => rfl⟩
  · refine step_guard 11 true 73 rfl rfl (fun _ => rfl) fun vs wq hE hd => ⟨hd.2.2.2.2.1, ?_⟩
    refine gives_call 69 (enters_of Tryd.func69 (by kernel_rfl) rfl) _ _ rfl rfl [.agg (u8s RT).toArray, .agg (u8s m).toArray, sigV (i : Int) (.slice A4 68 c4) (.slice A5 5 c5)] (congr (congrArg (fun a b => a :: b) (show vs 13 = _ from hd.1)) (congr (congrArg (fun a b => a :: b) (show vs 14 = _ from hd.2.1)) (congrArg (fun a => [a]) (show vs 15 = _ from hd.2.2.1)))) ?_
    have hb5 := B7.out.trans ((ext_of_drew hE).mono B7.out.size)
    refine (verify_any RT m RTL.out HLM.out HM.out i (sigC i x m 68) (wayT (lvT x 32) i 5) A4 A5 68 c4 5 c5 aR aF wq (DS7.out.below (ext_of_drew hE)) (DW7.out.below (ext_of_drew hE)) ⟨(sigC_len _ _ _ _).symm, (wayT_len _ _ _).symm⟩ (cell_on (ext_of_drew hE) CR.out) (cell_on (ext_of_drew hE) CF.out) (range_below HK.out hb5) (Nat.lt_of_lt_of_le h18 hb5.size)).mono ?_
    rintro _ w'' ⟨rfl, hb⟩
    exact ⟨_, rfl, hb, fun _ _ => by rw [HRT.out, right_made x m i hi32]; rfl⟩
  · refine step_plain rfl fun vs wq hE hd => ?_
    exact gives_pick _ _ _ (.bool true) true rfl (show vs 11 = _ from hd.1) (show vs 16 = _ from hd.2.1) ⟨Ext.refl _, fun _ _ => rfl⟩
  · intro vs wq hE hR
    have h17 : vs 17 = .bool true := hR 17 (by omega)
    rw [h17]
    have BZ := Lib.hid (B7.out.trans ((ext_of_drew hE).mono B7.out.size))
    clear hR hE h17
    go_wp2_with fail
    go_ret
    exact ⟨rfl, BZ.out⟩
end Go.Proofs.YtdedphhohiioiaaDoor
