/- Lemmas that laws of this seat rest on, part 10; each says its own conditions: Same, ChainsKeptW. -/
import Derived.Test.YtdedphhohiioiaaDoorRows
import Derived.Deep.QuietTactic
import Derived.BigQuiet
import Derived.Test.YtdedphhohiioiaaDoorBase1
import Derived.Test.YtdedphhohiioiaaDoorBase9
/- What quoratenum.SameInts does. -/
namespace Go.Proofs.YtdedphhohiioiaaDoor
open Go.RowKit

set_option maxHeartbeats 400000 in
theorem sameInts_any (xs ys : List Int) (v u : Value) (w : World) (hx : Row w v (i64s xs)) (hy : Row w u (i64s ys)) :
    Calls Tryd.prog 50 #[v, u] w fun e w' => e = .returned (.bool (decide (xs = ys))) ∧ ∃ n, w' = w.drewN n := by
  obtain ⟨b, off, c, rfl, h1, h2, hcx⟩ := hx
  obtain ⟨b', off', c', rfl, h1', h2', hcy⟩ := hy
  simp only [i64s, List.length_map] at h1 h1' ⊢
  unfold maxLen at h2 h2'
  by_cases hl : xs.length = ys.length
  · have hn : ((xs.length : Int) != ys.length) = false := by simp [hl]
    have HL := Lib.hid hl
    clear hl
    go_enter Tryd.func50, Tryd.ntmps50
    go_wp2
    go_loopw [5, 13] (fun _ i wr => ∃ (k n : Nat), k ≤ xs.length ∧ i = .int .i64 k ∧ wr = w.drewN n ∧ xs.take k = ys.take k)
      (fun _ i _ => xs.length - (intOf i).toNat)
    case atStart => exact ⟨0, 0, by omega, rfl, rfl, rfl⟩
    case round =>
      obtain ⟨k, n, hk, rfl, rfl, hp⟩ := hrel
      have HP := Lib.hid hp
      clear hp
      by_cases hlt : k < xs.length
      · have hlt' : k < ys.length := by have := HL.out; omega
        have c1 : w.cell? ⟨b, off + k, none⟩ = some (.int .i64 xs[k]) := hcx k _ (by simp [i64s, hlt])
        have c2 : w.cell? ⟨b', off' + k, none⟩ = some (.int .i64 ys[k]) := hcy k _ (by simp [i64s, hlt'])
        by_cases he : xs[k] = ys[k]
        · have hb : (xs[k] != ys[k]) = false := by simp [he]
          go_wp2
          go_quiet (fail)
          go_wp2
          go_roundw
          case rel => exact ⟨k + 1, _, by omega, by go_num, rfl, by rw [List.take_succ_eq_append_getElem hlt, List.take_succ_eq_append_getElem hlt', HP.out, he]⟩
          case measure => simp [intOf]; omega
        · have hb : (xs[k] != ys[k]) = true := by simp [he]
          have HNE := Lib.hid (show ¬ xs = ys from fun e => he (by simp [e]))
          go_wp2
          go_quiet (fail)
          go_wp2
          go_ret
          exact ⟨by rw [decide_eq_false HNE.out]; rfl, _, World.drewN_drewN _ _ _⟩
      · have : xs = ys := by
          have h1 := HP.out
          have h2 := HL.out
          rwa [List.take_of_length_le (by omega), List.take_of_length_le (by omega)] at h1
        have HE := Lib.hid this
        clear this
        go_wp2
        go_ret
        exact ⟨by simp [HE.out], _, rfl⟩
  · have hn : ((xs.length : Int) != ys.length) = true := by simp; omega
    have HL := Lib.hid hl
    clear hl
    go_enter Tryd.func50, Tryd.ntmps50
    go_wp2
    go_ret
    exact ⟨by rw [decide_eq_false (fun e => HL.out (by rw [e]))]; rfl, 0, rfl⟩
end Go.Proofs.YtdedphhohiioiaaDoor
/- ChainsKept: what the law does. -/
namespace Go.Proofs.YtdedphhohiioiaaDoor
open Go.RowKit Go.Shelf

theorem bel_drewN {B : Nat} {a w : World} (h : Below B a w) (n : Nat) : Below B a (w.drewN n) := h.trans ⟨rfl, rfl, rfl, Nat.le_refl _, fun _ _ => rfl⟩
theorem own_blk {w : World} {base e s n : Nat} {v : Value} {xs : List Value} (hn : 0 < n) (h : w.ownsRow base e s v n xs) : ∃ g c cur, v = .slice (some ⟨g, 0, none⟩) n c ∧ base ≤ g ∧ w.heap[g]? = some (.cells cur e (0, 0)) := by
  rcases h.2 with ⟨e, h0⟩ | ⟨g, cap, cur, e, hb, hg, _⟩
  · exact absurd h0 (by omega)
  · exact ⟨g, cap, cur, e, hb, hg⟩
theorem own_set {w : World} {base e s n g : Nat} {v u : Value} {xs : List Value} (h : w.ownsRow base e s v n xs) (hg : g < base) : (w.setCell ⟨g, 0, none⟩ u).ownsRow base e s v n xs :=
  h.kept (grownBy_setCell' w g u) (by
    cases h' : v.ownBlock with
    | none => exact .inl rfl
    | some k => exact .inr (fun e' => by have := (h.lt k h').1; simp at e'; omega))
theorem range_set {w : World} {b o g : Nat} {cs : List Value} {u : Value} (h : w.rangeAt b o cs) (hne : b ≠ g) : (w.setCell ⟨g, 0, none⟩ u).rangeAt b o cs := fun j v hv => by
  rw [World.cell?_of_block (a := ⟨b, o + j, none⟩) (heap_setCell_other w ⟨g, 0, none⟩ b u hne)]
  exact h j v hv

set_option maxHeartbeats 8000000 in
set_option maxRecDepth 100000 in
theorem chainsKept_any (x : List Int) (hl : x.length = 16) (hx : u8s_ok x) (l0 : Int) (m : List Int) (hlm : m.length = 16) (hm : u8s_ok m) (w : World) (hk : w.rangeAt 18 0 (u32s kk)) (h18 : 18 < w.heap.size) :
    Calls Tryd.prog 13 #[.agg (u8s x).toArray, .int .i64 l0, .agg (u8s m).toArray] w fun e w' => e = .returned (.bool true) ∧ Below w.heap.size w w' := by
  have hi43 : ∀ V : List Int, V.length = 16 → (Tryd.prog.info? 43).map (·.size) = some (u8s V).length := fun V h => by rw [u8s_len', h]; exact Tryd.size43
  obtain ⟨W0, hW0⟩ : ∃ W0, W0 = (w.alloc (.cells (u8s x).toArray 43)).alloc (.cells (u8s m).toArray 43) := ⟨_, rfl⟩
  have b0 : Below w.heap.size w W0 := by rw [hW0]; exact ((Below.refl _ _).alloc (Nat.le_refl _) _).alloc (by simp) _
  have z0 : W0.heap.size = w.heap.size + 2 := by rw [hW0]; simp
  have q0 : W0.rangeAt w.heap.size 0 (u8s x) := by rw [hW0]; exact World.rangeAt_alloc (range_new w (u8s x) 43) _
  have q1 : W0.rangeAt (w.heap.size + 1) 0 (u8s m) := by
    rw [hW0]
    have := range_new (w.alloc (.cells (u8s x).toArray 43)) (u8s m) 43
    rwa [World.size_alloc] at this
  have B0 := Lib.hid b0
  have Q0 := Lib.hid q0
  have Q1 := Lib.hid q1
  have HL := Lib.hid hl
  have HX := Lib.hid hx
  have HLM := Lib.hid hlm
  have HM := Lib.hid hm
  have HK := Lib.hid hk
  clear b0 q0 q1 hl hx hlm hm hk
  go_enter Tryd.func13, Tryd.ntmps13
  go_wp2_with fail
  change Calls _ _ _ ((w.alloc (.cells (u8s x).toArray 43)).alloc (.cells (u8s m).toArray 43)) _
  rw [← hW0]
  clear hW0
  refine (alive_chains W0).mono ?_
  rintro e w1 ⟨rfl, hb1⟩
  have B1 := Lib.hid (B0.out.trans (hb1.mono B0.out.size))
  have X1 := Lib.hid (range_below Q0.out hb1)
  have M1 := Lib.hid (range_below Q1.out hb1)
  have z1 : w.heap.size + 2 ≤ w1.heap.size := by have := hb1.size; omega
  clear hb1 B0 Q0 Q1 z0
  obtain ⟨u, hu⟩ : ∃ u, IntKind.u64.wrap l0 = u := ⟨_, rfl⟩
  have hu0 : 0 ≤ u ∧ u < 18446744073709551616 := by rw [← hu, IntKind.wrap_u64]; omega
  obtain ⟨hu1, hu2⟩ := hu0
  have h0 : 0 ≤ u % 32 := by omega
  have h1 : u % 32 < 32 := by omega
  go_wp2_with (first | (refine wpList_load_g rfl 43 (.tmp 3) rfl w.heap.size 0 rfl (u8s x) _ X1.out Tryd.underlying43 rfl (hi43 x HL.out) ?_) | (refine wpList_load_g rfl 43 (.tmp 5) rfl (w.heap.size + 1) 0 rfl (u8s m) _ M1.out Tryd.underlying43 rfl (hi43 m HLM.out) ?_))
  refine (sign_any x HL.out HX.out (u % 32) h0 h1 m HLM.out HM.out w1 (range_below HK.out B1.out) (Nat.lt_of_lt_of_le h18 B1.out.size)).mono ?_
  rintro e w2 ⟨v9, rfl, ro2, hb2⟩
  obtain ⟨g, c9, cur, rfl, hg1, hg2⟩ := own_blk (by omega) ro2
  have hgw : g < w2.heap.size := blk_lt hg2
  have B2 := Lib.hid (B1.out.trans (hb2.mono B1.out.size))
  have X2 := Lib.hid (range_below X1.out hb2)
  have M2 := Lib.hid (range_below M1.out hb2)
  have O2 := Lib.hid (ownsRow_mono ro2 (Nat.zero_le _))
  have G2 := Lib.hid hg2
  have hge : w.heap.size + 2 ≤ g := by omega
  have hsl : (dcells (sigC (u % 32) x m 68)).length = 68 * 16 := ro2.1
  have HSL := Lib.hid hsl
  have hone : ∀ q ∈ dcells (sigC (u % 32) x m 68), q.oneCell' = true := by
    intro q hq
    obtain ⟨d, _, hqd⟩ := List.mem_flatMap.1 hq
    exact one_u8s d q hqd
  have HONE := Lib.hid hone
  clear hb2 ro2 hg2 hg1 hsl hone
  go_wp2_with (first | (at_builtin; refine appN (w0 := w2) w2.heap.size rfl (.tmp 34) (.tmp 35) 55 43 (.agg (Array.replicate 16 (.int .u8 0))) 16 16 rfl Tryd.underlying55 Tryd.info43 rfl (by omega) (by omega) _ 0 [] rfl ⟨g, 0, none⟩ 68 c9 (dcells (sigC (u % 32) x m 68)) rfl HSL.out (fun j q hq => ((own_bel O2.out ((Below.refl w2.heap.size w2).alloc (Nat.le_refl _) _)).cells rfl j q hq)) HONE.out (World.ownsRow_made w2 #[] 0 (Nat.le_refl _) (by simp) rfl) ((Below.refl w2.heap.size w2).alloc (Nat.le_refl _) _) (by simp) (by omega) ?_; intro v5 w5 ap5; have AP5 := Lib.hid ap5; clear ap5) | (refine wpList_load_g rfl 43 (.tmp 5) rfl (w.heap.size + 1) 0 rfl (u8s m) _ (range_below M2.out AP5.out.below) Tryd.underlying43 rfl (hi43 m HLM.out) ?_))
  have ow5 : w5.ownsRow w2.heap.size 43 16 v5 68 (dcells (sigC (u % 32) x m 68)) := by
    have := AP5.out.own
    rw [List.nil_append] at this
    exact this
  have b25 := AP5.out.below
  obtain ⟨Aw, cw, rfl⟩ := own_form ow5
  have B5 := Lib.hid (B2.out.trans (b25.mono B2.out.size))
  have X5 := Lib.hid (range_below X2.out b25)
  have M5 := Lib.hid (range_below M2.out b25)
  have O5 := Lib.hid (own_bel O2.out b25)
  have G5 := Lib.hid (blk_below G2.out b25)
  have OW5 := Lib.hid ow5
  clear ow5 b25 AP5 HONE HSL
  refine (recover_ok (u % 32) (some ⟨g, 0, none⟩) 68 c9 (sigC (u % 32) x m 68) m w5 h0 h1 (fun W h => (sig_dgs O5.out).below h) (sigC_len (u % 32) x m 68).symm rfl HLM.out HM.out (range_below HK.out B5.out) (Nat.lt_of_lt_of_le h18 B5.out.size)).mono ?_
  rintro e w6 ⟨rfl, hb6⟩
  obtain ⟨ST, hST⟩ : ∃ s, s = publicC (u % 32) (recE (u % 32) (sigC (u % 32) x m 68) m 68) := ⟨_, rfl⟩
  have hsl : ST.length = 16 := by rw [hST]; exact (publicC_good _ _).1
  rw [← hST]
  have HST := Lib.hid hsl
  have HHN := Lib.hid (has_new w6 (Array.replicate 16 (Value.int .u8 0)) 43 (u8s ST).length (by rw [u8s_len', hsl]; rfl))
  have B6 := Lib.hid (B5.out.trans (hb6.mono B5.out.size))
  have X6 := Lib.hid (range_below X5.out hb6)
  have M6 := Lib.hid (range_below M5.out hb6)
  have O6 := Lib.hid (own_bel O5.out hb6)
  have G6 := Lib.hid (blk_below G5.out hb6)
  have OW6 := Lib.hid (own_bel OW5.out hb6)
  clear hb6 hST hsl
  go_wp2_with (refine wpList_store_row rfl 43 (.tmp 10) (.tmp 42) rfl w6.heap.size rfl (u8s ST) rfl 43 HHN.out (hi43 ST HST.out) (one_u8s _) ?_; intro w7 hp7; have L7 : Below w6.heap.size w6 w7 := (hp7.below ((Below.refl _ _).alloc (Nat.le_refl _) _) (Nat.le_refl _)); have B7 := Lib.hid (B6.out.trans (L7.mono B6.out.size)); have X7 := Lib.hid (range_below X6.out L7); have M7 := Lib.hid (range_below M6.out L7); have O7 := Lib.hid (own_bel O6.out L7); have G7 := Lib.hid (blk_below G6.out L7); have OW7 := Lib.hid (own_bel OW6.out L7); clear hp7 L7)
  refine (same_any (sigC (u % 32) x m 68) (sigC (u % 32) x m 68) (some ⟨g, 0, none⟩) Aw 68 68 c9 cw w7 (sig_dgs O7.out) (sig_dgs OW7.out) (sigC_len (u % 32) x m 68).symm (sigC_len (u % 32) x m 68).symm (by omega)).mono ?_
  rintro e w8 ⟨rfl, hb8⟩
  rw [decide_eq_true rfl]
  have B8 := Lib.hid (B7.out.trans (hb8.mono B7.out.size))
  have X8 := Lib.hid (range_below X7.out hb8)
  have M8 := Lib.hid (range_below M7.out hb8)
  have O8 := Lib.hid (own_bel O7.out hb8)
  have G8 := Lib.hid (blk_below G7.out hb8)
  have OW8 := Lib.hid (own_bel OW7.out hb8)
  clear hb8
  obtain ⟨b0, hb0⟩ : ∃ b, b = (sigAt (u % 32) x m 0).getD 0 0 := ⟨_, rfl⟩
  have hfirst : (dcells (sigC (u % 32) x m 68))[0]? = some (.int .u8 b0) := by
    have := dcells_at (sigC (u % 32) x m 68) (fun d hd => (sigC_good (u % 32) x m 68 d hd).1) 0 0 (by rw [sigC_len]; omega) (by omega)
    rw [Nat.zero_mul] at this
    rw [this, show (sigC (u % 32) x m 68).getD 0 [] = sigAt (u % 32) x m 0 by simp [sigC, List.getD_eq_getElem?_getD], hb0]
    have hl16 : (sigAt (u % 32) x m 0).length = 16 := (runC_good _ _ _ _ _ (secret_good _ _ _).1 (secret_good _ _ _).2).1
    simp [u8s, List.getD_eq_getElem?_getD, hl16]
  have CG : Hid (w8.cell? ⟨g, 0, none⟩ = some (.int .u8 b0)) := Lib.hid (by
    have := O8.out.cells rfl 0 _ hfirst
    simpa [Addr.add] using this)
  obtain ⟨z, hz⟩ : ∃ z, IntKind.u8.wrap (b0 + 1) = z := ⟨_, rfl⟩
  have HZ := Lib.hid hz
  clear hfirst hb0 hz O8
  go_wp2_with fail
  refine wp_region_rely3 (by kernel_rfl) 7 (by kernel_rfl) (by kernel_rfl) Ext Ext.refl Ext.trans (fun ix => match ix with
    | 0 => fun _ v => v = .slice (some ⟨g, 0, none⟩) 68 c9
    | 1 => fun _ v => v = .pointer (some ⟨g, 0, none⟩)
    | 2 => fun _ v => v = .pointer (some ⟨g, 0, none⟩)
    | 3 => fun _ v => v = .int .u8 b0
    | 4 => fun _ v => v = .int .u8 z
    | 5 => fun _ v => v = .pointer (some ⟨g, 0, none⟩)
    | 6 => fun _ v => v = .pointer (some ⟨g, 0, none⟩)
    | _ => fun _ _ => False) ?_
  simp (maxSteps := 10000000) only [Rely, List.take_succ_cons, List.take_zero, List.drop_succ_cons, List.drop_zero, Nat.reduceAdd, Nat.zero_add, Act.put, List.setIfInBounds_toArray, List.set_cons_succ, List.set_cons_zero]
  refine ⟨?_, ?_, ?_, ?_, ?_, ?_, ?_, ?_⟩
  · refine step_plain rfl fun vs wy hE hd => ?_
    exact gives_move _ (.slice (some ⟨g, 0, none⟩) 68 c9) (.inl rfl) rfl ⟨Ext.refl _, fun _ _ => rfl⟩
  · refine step_plain rfl fun vs wy hE hd => ?_
    exact gives_indexAt 55 _ _ rfl (.slice (some ⟨g, 0, none⟩) 68 c9) (Value.int IntKind.i64 0) (.pointer (some ⟨g, 0, none⟩)) (show vs 0 = _ from hd.1) rfl (by go_simp) ⟨Ext.refl _, fun _ _ => rfl⟩
  · refine step_plain rfl fun vs wy hE hd => ?_
    exact gives_indexAt 43 _ _ rfl (.pointer (some ⟨g, 0, none⟩)) (Value.int IntKind.i64 0) (.pointer (some ⟨g, 0, none⟩)) (show vs 1 = _ from hd.1) rfl (by go_simp) ⟨Ext.refl _, fun _ _ => rfl⟩
  · refine step_plain rfl fun vs wy hE hd => ?_
    have hc := cell_on (ext_of_drew hE) CG.out
    exact gives_loadAt 5 _ rfl (.pointer (some ⟨g, 0, none⟩)) (.int .u8 b0) (show vs 2 = _ from hd.1) (by go_simp) ⟨Ext.refl _, fun _ _ => rfl⟩
  · refine step_plain rfl fun vs wy hE hd => ?_
    have hz := HZ.out
    exact gives_binOp .add 5 _ _ _ rfl (.int .u8 b0) (.int .u8 1) (.int .u8 z) (show vs 3 = _ from (hd.1)) rfl (by go_simp) (by go_simp) ⟨Ext.refl _, fun _ _ => rfl⟩
  · refine step_plain rfl fun vs wy hE hd => ?_
    exact gives_indexAt 55 _ _ rfl (.slice (some ⟨g, 0, none⟩) 68 c9) (Value.int IntKind.i64 0) (.pointer (some ⟨g, 0, none⟩)) (show vs 0 = _ from hd.1) rfl (by go_simp) ⟨Ext.refl _, fun _ _ => rfl⟩
  · refine step_plain rfl fun vs wy hE hd => ?_
    exact gives_indexAt 43 _ _ rfl (.pointer (some ⟨g, 0, none⟩)) (Value.int IntKind.i64 0) (.pointer (some ⟨g, 0, none⟩)) (show vs 5 = _ from hd.1) rfl (by go_simp) ⟨Ext.refl _, fun _ _ => rfl⟩
  · intro vs wz hE hR
    have h4 : vs 4 = .int .u8 z := hR 4 (by omega)
    have h6 : vs 6 = _ := hR 6 (by omega)
    rw [h4, h6]
    have L9 : Below w8.heap.size w8 wz := ext_of_drew hE
    have hcz : wz.cell? ⟨g, 0, none⟩ = some (.int .u8 b0) := cell_on L9 CG.out
    have hfz : wz.frozen? ⟨g, 0, none⟩ = false := blk_free (blk_below G8.out L9) 0
    obtain ⟨w9, hw9⟩ : ∃ x, x = wz.setCell ⟨g, 0, none⟩ (.int .u8 z) := ⟨_, rfl⟩
    have b89 := B8.out.trans (L9.mono B8.out.size)
    have b9 : Below w.heap.size w w9 := by rw [hw9]; exact b89.setCell (p := ⟨g, 0, none⟩) (by show w.heap.size ≤ g; omega) _
    have x9 : w9.rangeAt w.heap.size 0 (u8s x) := by rw [hw9]; exact range_set (range_below X8.out L9) (by omega)
    have m9 : w9.rangeAt (w.heap.size + 1) 0 (u8s m) := by rw [hw9]; exact range_set (range_below M8.out L9) (by omega)
    have ow9 : w9.ownsRow w2.heap.size 43 16 (.slice Aw 68 cw) 68 (dcells (sigC (u % 32) x m 68)) := by rw [hw9]; exact own_set (own_bel OW8.out L9) hgw
    have B9 := Lib.hid b9
    have X9 := Lib.hid x9
    have M9 := Lib.hid m9
    have OW9 := Lib.hid ow9
    have HW9 := Lib.hid hw9
    clear hR hE h4 h6 L9 b89 b9 x9 m9 ow9 hw9 CG
    go_wp2_with (first | (refine wpList_load_g rfl 43 (.tmp 3) rfl w.heap.size 0 rfl (u8s x) _ (by first | exact X9.out | (rw [← HW9.out]; exact X9.out)) Tryd.underlying43 rfl (hi43 x HL.out) ?_) | (refine wpList_load_g rfl 43 (.tmp 5) rfl (w.heap.size + 1) 0 rfl (u8s m) _ (by first | exact M9.out | (rw [← HW9.out]; exact M9.out)) Tryd.underlying43 rfl (hi43 m HLM.out) ?_))
    rw [← HW9.out]
    clear hcz hfz HW9
    refine (sign_any x HL.out HX.out (u % 32) h0 h1 m HLM.out HM.out w9 (range_below HK.out B9.out) (Nat.lt_of_lt_of_le h18 B9.out.size)).mono ?_
    rintro e w10 ⟨v10, rfl, ro10, hb10⟩
    have dt := sig_dgs ro10
    obtain ⟨At, ct, rfl⟩ := own_form ro10
    have B10 := Lib.hid (B9.out.trans (hb10.mono B9.out.size))
    have M10 := Lib.hid (range_below M9.out hb10)
    have DW10 := Lib.hid (sig_dgs (own_bel OW9.out hb10))
    have DT10 := Lib.hid dt
    clear hb10 ro10 dt
    go_wp2_with (refine wpList_load_g rfl 43 (.tmp 5) rfl (w.heap.size + 1) 0 rfl (u8s m) _ M10.out Tryd.underlying43 rfl (hi43 m HLM.out) ?_)
    refine (digits_any m HLM.out HM.out w10).mono ?_
    rintro e w11 ⟨v11, rfl, ro11, hb11⟩
    obtain ⟨gd, cd, curd, rfl, hgd1, hgd2⟩ := own_blk (by omega) ro11
    have dl := ro11.1
    have hdl : (digits m).length = 68 := by simpa [i64s] using dl
    have hc11 : w11.cell? ⟨gd, 0, none⟩ = some (.int .i64 ((digits m).getD 0 0)) := by
      have := ro11.cells rfl 0 (.int .i64 ((digits m).getD 0 0)) (by simp [i64s, List.getD_eq_getElem?_getD, List.getElem?_eq_getElem (show 0 < (digits m).length by omega)])
      simpa [Addr.add] using this
    have hf11 : w11.frozen? ⟨gd, 0, none⟩ = false := blk_free hgd2 0
    have hdd := digit_in m 0
    obtain ⟨dg, hdg⟩ : ∃ d, d = (digits m).getD 0 0 := ⟨_, rfl⟩
    rw [← hdg] at hc11 hdd
    obtain ⟨hdd1, hdd2⟩ := hdd
    obtain ⟨w12, hw12⟩ : ∃ x, x = w11.setCell ⟨gd, 0, none⟩ (.int .i64 (dg + 1)) := ⟨_, rfl⟩
    have b1012 : Below w10.heap.size w10 w12 := by rw [hw12]; exact hb11.setCell (p := ⟨gd, 0, none⟩) hgd1 _
    have B12 := Lib.hid (B10.out.trans (b1012.mono B10.out.size))
    have M12 := Lib.hid (range_below M10.out b1012)
    have DW := Lib.hid (DW10.out.below b1012)
    have DT := Lib.hid (DT10.out.below b1012)
    have HW12 := Lib.hid hw12
    clear b1012 hw12 hb11 hdl dl ro11 hgd1 hgd2 hdg
    go_wp2_with fail
    rw [← HW12.out]
    clear hc11 hf11 HW12
    refine wp_region_rely (by kernel_rfl) 14 (by kernel_rfl) (by kernel_rfl) Ext Ext.refl Ext.trans (fun ix => match ix with
      | 0 => fun _ v => v = .nilIface
      | 1 => fun _ v => v = .bool true
      | 2 => fun _ v => v = .bool true
      | 3 => fun _ v => v = .slice At 68 ct
      | 4 => fun _ v => v = .slice Aw 68 cw
      | 5 => fun _ v => v = .bool true
      | 6 => fun _ v => v = .bool true
      | 7 => fun _ v => v = .bool true
      | 8 => fun _ v => v = .agg (u8s m).toArray
      | 9 => fun W v => Row W v (i64s (digits m))
      | 10 => fun _ v => v = .agg (u8s m).toArray
      | 11 => fun W v => Row W v (i64s (digits m))
      | 12 => fun _ v => v = .bool true
      | 13 => fun _ v => v = .bool true
      | _ => fun _ _ => False) ?_
    simp (maxSteps := 10000000) only [Rely, List.take_succ_cons, List.take_zero, List.drop_succ_cons, List.drop_zero, Nat.reduceAdd, Nat.zero_add, Act.put, List.setIfInBounds_toArray, List.set_cons_succ, List.set_cons_zero]
    refine ⟨?_, ?_, ?_, ?_, ?_, ?_, ?_, ?_, ?_, ?_, ?_, ?_, ?_, ?_, ?_⟩
    · refine step_plain rfl fun vs wy hE hd => ?_
      exact gives_move _ (.nilIface) (.inl rfl) rfl ⟨Ext.refl _, fun _ _ => rfl⟩
    · refine step_plain rfl fun vs wy hE hd => ?_
      exact gives_binOp .eql 57 _ _ _ rfl (.nilIface) (Value.nilIface) (.bool true) (show vs 0 = _ from hd.1) rfl (by go_simp) (by go_simp) ⟨Ext.refl _, fun _ _ => rfl⟩
    · refine step_plain rfl fun vs wy hE hd => ?_
      exact gives_move _ (.bool true) (.inl rfl) (show vs 1 = _ from hd.1) ⟨Ext.refl _, fun _ _ => rfl⟩
    · refine step_guard 2 true 75 rfl rfl (fun _ => rfl) fun vs wy hE hd => ⟨hd.1, ?_⟩
      exact gives_move _ (.slice At 68 ct) (.inl rfl) rfl ⟨Ext.refl _, fun _ _ => rfl⟩
    · refine step_guard 2 true 75 rfl rfl (fun _ => rfl) fun vs wy hE hd => ⟨hd.1, ?_⟩
      exact gives_move _ (.slice Aw 68 cw) (.inl rfl) rfl ⟨Ext.refl _, fun _ _ => rfl⟩
    · refine step_guard 2 true 75 rfl rfl (fun _ => rfl) fun vs wy hE hd => ⟨hd.2.2.1, ?_⟩
      refine gives_call 43 (enters_of Tryd.func43 (by kernel_rfl) rfl) _ _ rfl rfl [.slice At 68 ct, .slice Aw 68 cw] ?_ ?_
      · show [vs 3, vs 4] = _
        rw [show vs 3 = _ from (hd.1), show vs 4 = _ from (hd.2.1)]
      · refine (same_any (sigC (u % 32) x m 68) (sigC (u % 32) x m 68) At Aw 68 68 ct cw wy (DT.out.below (ext_of_drew hE)) (DW.out.below (ext_of_drew hE)) (sigC_len (u % 32) x m 68).symm (sigC_len (u % 32) x m 68).symm (by omega)).mono ?_
        rintro _ w'' ⟨rfl, hb⟩
        exact ⟨_, rfl, hb, fun _ _ => by rw [decide_eq_true rfl]; rfl⟩
    · refine step_plain rfl fun vs wy hE hd => ?_
      exact gives_pick _ _ _ (.bool true) true rfl (show vs 2 = _ from hd.1) (show vs 5 = _ from hd.2.1) ⟨Ext.refl _, fun _ _ => rfl⟩
    · refine step_plain rfl fun vs wy hE hd => ?_
      exact gives_move _ (.bool true) (.inl rfl) (show vs 6 = _ from hd.1) ⟨Ext.refl _, fun _ _ => rfl⟩
    · refine step_guard 7 true 80 rfl rfl (fun _ => rfl) fun vs wy hE hd => ⟨hd.1, ?_⟩
      exact gives_load_row 43 _ rfl (w.heap.size + 1) 0 rfl (u8s m) _ (range_below M12.out (ext_of_drew hE)) Tryd.underlying43 rfl (hi43 m HLM.out) ⟨Ext.refl _, fun _ _ => rfl⟩
    · refine step_guard 7 true 80 rfl rfl (fun _ => rfl) fun vs wy hE hd => ⟨hd.2.1, ?_⟩
      refine gives_call 49 (enters_of Tryd.func49 (by kernel_rfl) rfl) _ _ rfl rfl [.agg (u8s m).toArray] ?_ ?_
      · show [vs 8] = _
        rw [show vs 8 = _ from (hd.1)]
      · refine (digits_any m HLM.out HM.out wy).mono ?_
        rintro _ w'' ⟨v, rfl, ro, hb⟩
        exact ⟨_, rfl, hb, fun W2 h2 => (Row.of_own ro (by omega)).below h2⟩
    · refine step_guard 7 true 80 rfl rfl (fun _ => rfl) fun vs wy hE hd => ⟨hd.1, ?_⟩
      exact gives_load_row 43 _ rfl (w.heap.size + 1) 0 rfl (u8s m) _ (range_below M12.out (ext_of_drew hE)) Tryd.underlying43 rfl (hi43 m HLM.out) ⟨Ext.refl _, fun _ _ => rfl⟩
    · refine step_guard 7 true 80 rfl rfl (fun _ => rfl) fun vs wy hE hd => ⟨hd.2.2.1, ?_⟩
      refine gives_call 51 (enters_of Tryd.func51 (by kernel_rfl) rfl) _ _ rfl rfl [.agg (u8s m).toArray] ?_ ?_
      · show [vs 10] = _
        rw [show vs 10 = _ from (hd.1)]
      · refine (refDigits_any m HLM.out HM.out wy).mono ?_
        rintro _ w'' ⟨v, rfl, ro, hb⟩
        exact ⟨_, rfl, hb, fun W2 h2 => (Row.of_own ro (by omega)).below h2⟩
    · refine step_guard 7 true 80 rfl rfl (fun _ => rfl) fun vs wy hE hd => ⟨hd.2.2.2.1, ?_⟩
      have r1 : Row wy (vs 9) (i64s (digits m)) := (hd.1)
      have r2 : Row wy (vs 11) (i64s (digits m)) := (hd.2.1)
      refine gives_call 50 (enters_of Tryd.func50 (by kernel_rfl) rfl) _ _ rfl rfl [vs 9, vs 11] rfl ?_
      refine (sameInts_any (digits m) (digits m) (vs 9) (vs 11) wy r1 r2).mono ?_
      rintro _ w'' ⟨rfl, n, rfl⟩
      exact ⟨_, rfl, bel_drewN (Below.refl _ _) n, fun _ _ => by rw [decide_eq_true rfl]; rfl⟩
    · refine step_plain rfl fun vs wy hE hd => ?_
      exact gives_pick _ _ _ (.bool true) true rfl (show vs 7 = _ from hd.1) (show vs 12 = _ from hd.2.1) ⟨Ext.refl _, fun _ _ => rfl⟩
    · intro vs wz hE hR
      have h13 : vs 13 = .bool true := hR 13 (by omega)
      have hb := B12.out.trans ((ext_of_drew hE).mono B12.out.size)
      have HB := Lib.hid hb
      rw [h13]
      clear hR hE h13 hb
      go_wp2
      go_ret
      exact ⟨rfl, HB.out⟩
end Go.Proofs.YtdedphhohiioiaaDoor
