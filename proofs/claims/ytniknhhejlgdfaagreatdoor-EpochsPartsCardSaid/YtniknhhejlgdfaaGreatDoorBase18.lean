/- Lemmas that laws of this seat rest on, part 18; each says its own conditions: EpochsPartsW, KitC, Head. -/
import Derived.Test.YtniknhhejlgdfaaGreatDoorBase7
import Derived.Test.YtniknhhejlgdfaaGreatDoorBase13
import Derived.Test.YtniknhhejlgdfaaGreatDoorBase14
import Derived.Test.YtniknhhejlgdfaaGreatDoorBase15
import Derived.Test.YtniknhhejlgdfaaGreatDoorBase17
/- EpochsParts: what the law does. -/
namespace Go.Proofs.YtniknhhejlgdfaaGreatDoor
open Go.RowKit

theorem rem_to (z : Int) (m : Nat) (hm : m ≤ 1000) : ∃ j : Nat, wrap64 ((IntKind.u64.wrap z).tmod ((m : Int) + 1)) = (j : Int) ∧ j ≤ m := by
  have h0 : 0 ≤ IntKind.u64.wrap z := by rw [IntKind.wrap_u64]; omega
  rw [Int.tmod_eq_emod_of_nonneg h0]
  have h1 := Int.emod_nonneg (IntKind.u64.wrap z) (show (m : Int) + 1 ≠ 0 by omega)
  have h2 := Int.emod_lt_of_pos (IntKind.u64.wrap z) (show (0 : Int) < (m : Int) + 1 by omega)
  refine ⟨(IntKind.u64.wrap z % ((m : Int) + 1)).toNat, ?_, by omega⟩
  unfold wrap64
  omega
theorem walkL_nle : ∀ (xs : List Ch) (e : Int) (g : List Int) (vs : List Va) (n : Nat), (walkL e g vs xs n).n ≤ n + xs.length
  | [], _, _, _, _ => by simp [walkL]
  | c :: xs, e, g, vs, n => by
    rw [walkL_cons]
    split
    · simp
    · split
      · have := walkL_nle xs (e + 1) (idB (GEN (e + 1) (idB (c.b 0)))) (c.b 0).next (n + 1)
        rw [List.length_cons]
        omega
      · simp
theorem parts_bad {e : Int} {g : List Int} {vs : List Va} {xs : List Ch} (j : Nat) (h8 : xs.length ≤ 8) (h : (walkR e g vs (xs.take j)).k ≠ 0) : walkR e g vs xs = walkR e g vs (xs.take j) := by
  have h1 : (xs.take j).length ≤ 8 := by rw [List.length_take]; omega
  unfold walkR at h ⊢
  rw [if_neg (by omega)] at h ⊢
  rw [if_neg (by omega)]
  have := walkL_app (xs.take j) (xs.drop j) e g vs 0
  rw [List.take_append_drop, if_pos h] at this
  exact this
theorem parts_good {e : Int} {g : List Int} {vs : List Va} {xs : List Ch} (j : Nat) (h8 : xs.length ≤ 8) (hj : j ≤ xs.length) (R2 R3 : Wk) (h2 : R2 = walkR e g vs (xs.take j)) (h3 : R3 = walkR R2.e R2.g R2.xs (xs.drop j)) (h : R2.k = 0) : R2.n = j ∧ R3.n ≤ 8 ∧ walkR e g vs xs = ⟨R3.e, R3.g, R3.xs, j + R3.n, R3.k⟩ := by
  have h1 : (xs.take j).length ≤ 8 := by rw [List.length_take]; omega
  have h4 : (xs.drop j).length ≤ 8 := by rw [List.length_drop]; omega
  unfold walkR at h2 h3 ⊢
  rw [if_neg (by omega)] at h2 h3
  rw [if_neg (by omega)]
  have ha := walkL_app (xs.take j) (xs.drop j) e g vs 0
  rw [List.take_append_drop, ← h2, if_neg (by rw [h]; simp)] at ha
  have hn := walkL_all (xs.take j) e g vs 0
  rw [← h2] at hn
  have hn' : R2.n = j := by rw [hn h, List.length_take]; omega
  refine ⟨hn', ?_, ?_⟩
  · rw [h3]
    have := walkL_nle (xs.drop j) R2.e R2.g R2.xs 0
    omega
  · rw [ha, hn']
    have := walkL_from (xs.drop j) R2.e R2.g R2.xs j 0
    rw [Nat.add_zero, ← h3] at this
    exact this
set_option maxHeartbeats 16000000 in
set_option maxRecDepth 100000 in
theorem epochsParts_any (e : Int) (vs : List Va) (A : Option Addr) (n c0 : Nat) (gen : List Int) (hg : gen.length = 16) (L : Option Addr) (m cap : Nat) (xs : List Ch) (z : Int) (al : List Addr) (w : World) (hv : Vals w (.slice A n c0) vs) (hx : Chs w (.slice L m cap) xs) (hs : SenN w al) (hk : w.rangeAt 18 0 (u32s kk)) :
    Calls Tryz.prog 5 #[.agg (gndC e (.slice A n c0) gen).toArray, .slice L m cap, .int .i64 z] w fun x w' => x = .returned (.bool true) ∧ Below w.heap.size w w' := by
  have b0 : Below w.heap.size w (w.alloc (.cells (gndC e (.slice A n c0) gen).toArray 26)) := (Below.refl _ _).alloc (Nat.le_refl _) _
  have G0 := Lib.hid (heap_alloc_new w (.cells (gndC e (.slice A n c0) gen).toArray 26))
  have V0 := Lib.hid (hv.below b0)
  have X0 := Lib.hid (hx.below b0)
  have S0 := Lib.hid (hs.below b0)
  have K0 := Lib.hid (range_below hk b0)
  have B0 := Lib.hid b0
  have HG := Lib.hid hg
  have HGL := Lib.hid (gnd_len e (.slice A n c0) gen hg)
  have ALL := Lib.hid hs.len
  have HXL := Lib.hid hx.len
  have HXC := Lib.hid hx.cap
  obtain ⟨aE, iE⟩ := hs.at 17 (by omega)
  obtain ⟨aS, aR, aT, iS, iR, _⟩ := hs.sen
  have HEM := Lib.hid (show Em w aR aS aE from ⟨hs.cell 0 0 aR rfl iR, hs.cell 10 10 aS rfl iS, hs.cell 17 17 aE rfl iE, hk, kk_lt hk⟩)
  clear b0 hg hv hx hs hk iE iS iR
  go_enter Tryz.func5, Tryz.ntmps5
  go_wp2_with fail
  refine (alive20_any aR aS aE _ (HEM.out.below B0.out)).mono ?_
  rintro _ w1 ⟨rfl, hb1⟩
  have G1 := Lib.hid (blk_below G0.out hb1)
  have V1 := Lib.hid (V0.out.below hb1)
  have X1 := Lib.hid (X0.out.below hb1)
  have S1 := Lib.hid (S0.out.below hb1)
  have K1 := Lib.hid (range_below K0.out hb1)
  have B1 := Lib.hid (B0.out.trans (hb1.mono B0.out.size))
  clear hb1
  clear G0 V0 X0 S0 K0 B0
  have c1 := gnd_1 G1.out
  by_cases h7 : 7 < n
  · have h7' : (7 : Int) < n := by omega
    go_wp2_with fail
    go_ret
    exact ⟨rfl, B1.out⟩
  have h7' : ¬ (7 : Int) < n := by omega
  by_cases h8 : 8 < m
  · have h8' : (8 : Int) < m := by omega
    go_wp2_with fail
    go_ret
    exact ⟨rfl, B1.out⟩
  have h8' : ¬ (8 : Int) < m := by omega
  have N7 := Lib.hid (show n ≤ 1000000 by omega)
  have M8 := Lib.hid (show m ≤ 8 by omega)
  obtain ⟨j, hj, hjm⟩ := rem_to z m (by omega)
  have HJ := Lib.hid hj
  have HJM := Lib.hid hjm
  have hm0 : ¬ ((m : Int) + 1 = 0) := by omega
  have hm1 : (m : Int) ≤ 8 := by omega
  clear h7 h8 hj hjm
  obtain ⟨R1, hR1⟩ : ∃ x, x = walkR e gen vs xs := ⟨_, rfl⟩
  obtain ⟨R2, hR2⟩ : ∃ x, x = walkR e gen vs (xs.take j) := ⟨_, rfl⟩
  have HR1 := Lib.hid hR1
  have HR2 := Lib.hid hR2
  clear hR1 hR2
  go_wp2_with (refine wpList_load_g rfl 26 (.tmp 3) rfl (w.heap.size) 0 rfl (gndC e (.slice A n c0) gen) _ (blk_range G1.out) Tryz.underlying26 rfl (by rw [HGL.out]; exact Tryz.size26) ?_)
  rw [HJ.out]
  have hwk := walk_any e vs A n c0 gen HG.out N7.out L m cap xs al w1 V1.out X1.out S1.out K1.out
  rw [← HR1.out] at hwk
  refine hwk.mono ?_
  clear hwk c1
  rintro _ w2 ⟨hb2, A2, n2, c2, rfl, hv2, hg2, hn2⟩
  have G2 := Lib.hid (blk_below G1.out hb2)
  have V2 := Lib.hid (V1.out.below hb2)
  have X2 := Lib.hid (X1.out.below hb2)
  have S2 := Lib.hid (S1.out.below hb2)
  have K2 := Lib.hid (range_below K1.out hb2)
  have B2 := Lib.hid (B1.out.trans (hb2.mono B1.out.size))
  have U2 := Lib.hid hv2
  have HG2 := Lib.hid hg2
  have HN2 := Lib.hid hn2
  have HL2 := Lib.hid (gnd_len R1.e (.slice A2 n2 c2) R1.g hg2)
  clear hb2 hv2 hg2 hn2
  clear G1 V1 X1 S1 K1 B1
  go_wp2_with (refine wpList_store_row rfl 26 (.tmp 7) (.tmp 39) rfl w2.heap.size rfl (gndC R1.e (.slice A2 n2 c2) R1.g) rfl 26 (has_new w2 _ _ _ (by rw [HL2.out]; rfl)) (by rw [HL2.out]; exact Tryz.size26) (one_gnd _ _ _ rfl) ?_; intro w3 hp3; have L3 : Below w2.heap.size w2 w3 := hp3.below ((Below.refl _ _).alloc (Nat.le_refl _) _) (Nat.le_refl _); have G3 := Lib.hid (blk_below G2.out L3); have V3 := Lib.hid (V2.out.below L3); have X3 := Lib.hid (X2.out.below L3); have S3 := Lib.hid (S2.out.below L3); have K3 := Lib.hid (range_below K2.out L3); have U3 := Lib.hid (U2.out.below L3); have B3 := Lib.hid (B2.out.trans (L3.mono B2.out.size)); have P3 := Lib.hid hp3.blk; clear hp3 L3)
  refine wp_region_rely6 (by kernel_rfl) 13 (by kernel_rfl) (by kernel_rfl) (EG w3.heap.size) Ext 10 9 (by decide) (by kernel_rfl) (fun W v => ∃ g A' n' c', v = .pointer (some ⟨g, 0, none⟩) ∧ W.heap[g]? = some (.cells (gndC R2.e (.slice A' n' c') R2.g).toArray 26 (0, 0)) ∧ Vals W (.slice A' n' c') R2.xs ∧ R2.g.length = 16 ∧ n' ≤ 1000000) (EG.refl _) Ext.refl Ext.trans EG.trans (fun ix => match ix with
    | 0 => fun _ v => v = .agg (gndC e (.slice A n c0) gen).toArray
    | 1 => fun _ v => v = .slice L m cap
    | 2 => fun _ v => v = .int .i64 (j : Int)
    | 3 => fun _ v => v = .slice L j cap
    | 4 => fun W v => ∃ A' n' c', v = .tuple #[.agg (gndC R2.e (.slice A' n' c') R2.g).toArray, .int .i64 R2.n, errN al R2.k] ∧ Vals W (.slice A' n' c') R2.xs ∧ R2.g.length = 16 ∧ n' ≤ 1000000
    | 5 => fun W v => ∃ A' n' c', v = .tuple #[.agg (gndC R2.e (.slice A' n' c') R2.g).toArray, .int .i64 R2.n, errN al R2.k] ∧ Vals W (.slice A' n' c') R2.xs ∧ R2.g.length = 16 ∧ n' ≤ 1000000
    | 6 => fun W v => ∃ A' n' c', v = .agg (gndC R2.e (.slice A' n' c') R2.g).toArray ∧ Vals W (.slice A' n' c') R2.xs ∧ R2.g.length = 16 ∧ n' ≤ 1000000
    | 7 => fun _ v => v = .int .i64 R2.n
    | 8 => fun _ v => v = errN al R2.k
    | 9 => fun W v => ∃ g, v = .pointer (some ⟨g, 0, none⟩) ∧ w3.heap.size ≤ g ∧ GN W g
    | 10 => fun _ _ => True
    | 11 => fun _ v => v = .int .i64 R2.n
    | 12 => fun _ v => v = errN al R2.k
    | _ => fun _ _ => False) ?_
  simp (maxSteps := 10000000) only [Rely6, List.take_succ_cons, List.take_zero, List.drop_succ_cons, List.drop_zero, Nat.reduceAdd, Nat.zero_add, Act.put, List.setIfInBounds_toArray, List.set_cons_succ, List.set_cons_zero]
  refine ⟨?_, ?_, ?_, ?_, ?_, ?_, ?_, ?_, ?_, ?_, ?_, ?_, ?_, ?_⟩
  · refine step6o rfl (by decide) fun rv wq hE hd => ?_
    exact gives_load_row 26 _ rfl (w.heap.size) (0) rfl (gndC e (.slice A n c0) gen) _ (range_below (blk_range G3.out) (eg_drew hE)) Tryz.underlying26 rfl (by rw [HGL.out]; exact Tryz.size26) ⟨⟨EG.refl _ _, Ext.refl _⟩, fun _ _ => rfl⟩
  · refine step6o rfl (by decide) fun rv wq hE hd => ?_
    exact gives_move _ (.slice L m cap) (.inl rfl) rfl ⟨⟨EG.refl _ _, Ext.refl _⟩, fun _ _ => rfl⟩
  · refine step6o rfl (by decide) fun rv wq hE hd => ?_
    exact gives_move _ (.int .i64 (j : Int)) (.inl rfl) rfl ⟨⟨EG.refl _ _, Ext.refl _⟩, fun _ _ => rfl⟩
  · refine step6o rfl (by decide) fun rv wq hE hd => ?_
    exact gives_slice 45 _ none (some (.tmp 45)) none rfl (.slice L m cap) _ none (some (.int .i64 (j : Int))) none (show rv 1 = _ from hd.1) rfl (congrArg some (show rv 2 = _ from hd.2.1)) rfl (slice45_lo L m cap j HJM.out HXC.out _) ⟨⟨EG.refl _ _, Ext.refl _⟩, fun _ _ => rfl⟩
  · refine step6o rfl (by decide) fun rv wq hE hd => ?_
    refine gives_call 13 (enters_of Tryz.func13 (by kernel_rfl) rfl) _ _ rfl rfl [.agg (gndC e (.slice A n c0) gen).toArray, .slice L j cap] (congr (congrArg (fun a b => a :: b) (show rv 0 = _ from hd.1)) (congrArg (fun a => [a]) (show rv 3 = _ from hd.2.1))) ?_
    have LE := eg_drew hE
    have hwk := walk_any e vs A n c0 gen HG.out N7.out L j cap (xs.take j) al wq (V3.out.below LE) ((X3.out.below LE).take j HJM.out) (S3.out.below LE) (range_below K3.out LE)
    rw [← HR2.out] at hwk
    refine hwk.mono ?_
    rintro _ w'' ⟨hb, A', n', c', rfl, hv, hg, hn⟩
    exact ⟨_, rfl, ⟨EG.of_ext hb, hb⟩, fun W hW => ⟨A', n', c', rfl, hv.eg hW, hg, hn⟩⟩
  · refine step6o rfl (by decide) fun rv wq hE hd => ?_
    obtain ⟨A', n', c', e4, hv, hg, hn⟩ := hd.1
    exact gives_move _ _ (.inl rfl) e4 ⟨⟨EG.refl _ _, Ext.refl _⟩, fun W hW => ⟨A', n', c', rfl, hv.eg hW, hg, hn⟩⟩
  · refine step6o rfl (by decide) fun rv wq hE hd => ?_
    obtain ⟨A', n', c', e4, hv, hg, hn⟩ := hd.1
    exact gives_extract (.tmp 42) 0 rfl _ _ e4 rfl ⟨⟨EG.refl _ _, Ext.refl _⟩, fun W hW => ⟨A', n', c', rfl, hv.eg hW, hg, hn⟩⟩
  · refine step6o rfl (by decide) fun rv wq hE hd => ?_
    obtain ⟨A', n', c', e4, hv, hg, hn⟩ := hd.1
    exact gives_extract (.tmp 42) 1 rfl _ _ e4 rfl ⟨⟨EG.refl _ _, Ext.refl _⟩, fun W hW => rfl⟩
  · refine step6o rfl (by decide) fun rv wq hE hd => ?_
    obtain ⟨A', n', c', e4, hv, hg, hn⟩ := hd.1
    exact gives_extract (.tmp 42) 2 rfl _ _ e4 rfl ⟨⟨EG.refl _ _, Ext.refl _⟩, fun W hW => rfl⟩
  · refine step6o rfl (by decide) fun rv wq hE hd => ?_
    exact gives_alloc26 rfl ⟨⟨EG.of_ext ((Below.refl _ _).alloc (Nat.le_refl _) _), (Below.refl _ _).alloc (Nat.le_refl _) _⟩, fun W hW => ⟨wq.heap.size, rfl, (eg_drew hE).size, GN.eg ⟨_, _, _, rfl, heap_alloc_new wq (.cells (gndC 0 (.slice none 0 0) zero16).toArray 26)⟩ hW⟩⟩
  · refine step6m rfl fun rv wq hE hZ hd => ?_
    obtain ⟨g, e9, hg9, gn⟩ := hd.1
    obtain ⟨A', n', c', e6, hv, hg, hn⟩ := hd.2.1
    have hl := gnd_len R2.e (.slice A' n' c') R2.g hg
    refine gives_store_row 26 _ _ rfl g (show rv 9 = _ from e9) (gndC R2.e (.slice A' n' c') R2.g) (show rv 6 = _ from e6) 26 (by rw [hl]; exact gn.has) (by rw [hl]; exact Tryz.size26) (one_gnd _ _ _ rfl) ?_
    intro w5 hp
    exact ⟨EG.of_put hg9 gn hg hp, fun W hW => ⟨g, A', n', c', e9, blk_below hp.blk hW, (hv.eg (EG.of_put hg9 gn hg hp)).below hW, hg, hn⟩, fun _ _ => trivial⟩
  · refine step6o rfl (by decide) fun rv wq hE hd => ?_
    exact gives_move _ (.int .i64 R2.n) (.inr rfl) (show rv 7 = _ from hd.1) ⟨⟨EG.refl _ _, Ext.refl _⟩, fun _ _ => rfl⟩
  · refine step6o rfl (by decide) fun rv wq hE hd => ?_
    exact gives_move _ (errN al R2.k) (.inr rfl) (show rv 8 = _ from hd.1) ⟨⟨EG.refl _ _, Ext.refl _⟩, fun _ _ => rfl⟩
  · intro rv wq hE hR hG
    have h11 : rv 11 = .int .i64 R2.n := hR 11 (by omega)
    have h12 : rv 12 = errN al R2.k := hR 12 (by omega)
    obtain ⟨g4, A4, n4, c4, h9, hb4, hv4, hg4, hn4⟩ := hG
    rw [h9, h11, h12]
    have hbq := eg_drew hE
    have G4 := Lib.hid (blk_below G3.out hbq)
    have V4 := Lib.hid (V3.out.below hbq)
    have X4 := Lib.hid (X3.out.below hbq)
    have S4 := Lib.hid (S3.out.below hbq)
    have K4 := Lib.hid (range_below K3.out hbq)
    have U4 := Lib.hid (U3.out.below hbq)
    have P4 := Lib.hid (blk_below P3.out hbq)
    have B4 := Lib.hid (B3.out.trans (hbq.mono B3.out.size))
    have HG4 := Lib.hid hg4
    have HN4 := Lib.hid hn4
    have Q4 := Lib.hid hb4
    have Y4 := Lib.hid hv4
    have HL4 := Lib.hid (gnd_len R2.e (.slice A4 n4 c4) R2.g hg4)
    have L34 := Lib.hid hbq
    clear hR hE h9 h11 h12 hbq hb4 hv4 hg4 hn4
    have hl2 : R2.k ≤ 18 := by rw [HR2.out]; exact walkR_le _ _ _ _
    have hl1 : R1.k ≤ 18 := by rw [HR1.out]; exact walkR_le _ _ _ _
    have K1L := Lib.hid hl1
    have K2L := Lib.hid hl2
    rcases errN_zero ALL.out hl2 with ⟨hk0, hke⟩ | ⟨hk0, ak, hke⟩
    case inr =>
      have hEQ : R1 = R2 := by rw [HR1.out, HR2.out]; exact parts_bad j (by rw [← HXL.out]; exact M8.out) (by rw [← HR2.out]; exact hk0)
      subst hEQ
      have HKE := Lib.hid hke
      rw [hke]
      clear hk0 hke hl1 hl2
      go_wp2_with fail
      rw [← HKE.out]
      refine (num_any al R1.k K1L.out wq S4.out).mono ?_
      rintro _ w5 ⟨rfl, hb5⟩
      have G5 := Lib.hid (blk_below G4.out hb5)
      have V5 := Lib.hid (V4.out.below hb5)
      have X5 := Lib.hid (X4.out.below hb5)
      have S5 := Lib.hid (S4.out.below hb5)
      have K5 := Lib.hid (range_below K4.out hb5)
      have U5 := Lib.hid (U4.out.below hb5)
      have P5 := Lib.hid (blk_below P4.out hb5)
      have Q5 := Lib.hid (blk_below Q4.out hb5)
      have Y5 := Lib.hid (Y4.out.below hb5)
      have B5 := Lib.hid (B4.out.trans (hb5.mono B4.out.size))
      clear hb5
      go_wp2_with fail
      refine (num_any al R1.k K1L.out w5 S5.out).mono ?_
      rintro _ w6 ⟨rfl, hb6⟩
      have G6 := Lib.hid (blk_below G5.out hb6)
      have V6 := Lib.hid (V5.out.below hb6)
      have X6 := Lib.hid (X5.out.below hb6)
      have S6 := Lib.hid (S5.out.below hb6)
      have K6 := Lib.hid (range_below K5.out hb6)
      have U6 := Lib.hid (U5.out.below hb6)
      have P6 := Lib.hid (blk_below P5.out hb6)
      have Q6 := Lib.hid (blk_below Q5.out hb6)
      have Y6 := Lib.hid (Y5.out.below hb6)
      have B6 := Lib.hid (B5.out.trans (hb6.mono B5.out.size))
      clear hb6
      go_wp2_with (first | (refine wpList_load_g rfl 26 (.tmp 7) rfl (w2.heap.size) 0 rfl (gndC R1.e (.slice A2 n2 c2) R1.g) _ (blk_range P6.out) Tryz.underlying26 rfl (by rw [HL2.out]; exact Tryz.size26) ?_) | (refine wpList_load_g rfl 26 (.tmp 10) rfl (g4) 0 rfl (gndC R1.e (.slice A4 n4 c4) R1.g) _ (blk_range Q6.out) Tryz.underlying26 rfl (by rw [HL4.out]; exact Tryz.size26) ?_))
      obtain rfl : n2 = n4 := by rw [U6.out.len, Y6.out.len]
      refine (same_eq R1.e R1.g HG2.out R1.xs A2 A4 n2 c2 c4 w6 U6.out Y6.out HN2.out).mono ?_
      rintro _ w7 ⟨rfl, hb7⟩
      have B7 := Lib.hid (B6.out.trans (hb7.mono B6.out.size))
      clear hb7
      go_wp2_with fail
      go_ret
      exact ⟨rfl, B7.out⟩
    rw [hke]
    have HKE := Lib.hid hke
    have HK0 := Lib.hid hk0
    obtain ⟨R3, hR3⟩ : ∃ x, x = walkR R2.e R2.g R2.xs (xs.drop j) := ⟨_, rfl⟩
    have HR3 := Lib.hid hR3
    obtain ⟨hp1, hp2, hp3⟩ := parts_good j (by rw [← HXL.out]; exact M8.out) (by rw [← HXL.out]; exact HJM.out) R2 R3 HR2.out hR3 hk0
    rw [← HR1.out] at hp3
    have HP1 := Lib.hid hp1
    have HP2 := Lib.hid hp2
    have HP3 := Lib.hid hp3
    have K3L := Lib.hid (show R3.k ≤ 18 by rw [hR3]; exact walkR_le _ _ _ _)
    clear hk0 hke hl1 hl2 hR3 hp1 hp2 hp3
    go_wp2_with fail
    refine wp_region_rely6 (by kernel_rfl) 13 (by kernel_rfl) (by kernel_rfl) (EG wq.heap.size) Ext 10 9 (by decide) (by kernel_rfl) (fun W v => ∃ g A' n' c', v = .pointer (some ⟨g, 0, none⟩) ∧ W.heap[g]? = some (.cells (gndC R3.e (.slice A' n' c') R3.g).toArray 26 (0, 0)) ∧ Vals W (.slice A' n' c') R3.xs ∧ R3.g.length = 16 ∧ n' ≤ 1000000) (EG.refl _) Ext.refl Ext.trans EG.trans (fun ix => match ix with
      | 0 => fun _ v => v = .agg (gndC R2.e (.slice A4 n4 c4) R2.g).toArray
      | 1 => fun _ v => v = .slice L m cap
      | 2 => fun _ v => v = .int .i64 (j : Int)
      | 3 => fun _ v => v = .slice (if cap = j then L else L.map (·.add (j * 136))) (m - j) (cap - j)
      | 4 => fun W v => ∃ A' n' c', v = .tuple #[.agg (gndC R3.e (.slice A' n' c') R3.g).toArray, .int .i64 R3.n, errN al R3.k] ∧ Vals W (.slice A' n' c') R3.xs ∧ R3.g.length = 16 ∧ n' ≤ 1000000
      | 5 => fun W v => ∃ A' n' c', v = .tuple #[.agg (gndC R3.e (.slice A' n' c') R3.g).toArray, .int .i64 R3.n, errN al R3.k] ∧ Vals W (.slice A' n' c') R3.xs ∧ R3.g.length = 16 ∧ n' ≤ 1000000
      | 6 => fun W v => ∃ A' n' c', v = .agg (gndC R3.e (.slice A' n' c') R3.g).toArray ∧ Vals W (.slice A' n' c') R3.xs ∧ R3.g.length = 16 ∧ n' ≤ 1000000
      | 7 => fun _ v => v = .int .i64 R3.n
      | 8 => fun _ v => v = errN al R3.k
      | 9 => fun W v => ∃ g, v = .pointer (some ⟨g, 0, none⟩) ∧ wq.heap.size ≤ g ∧ GN W g
      | 10 => fun _ _ => True
      | 11 => fun _ v => v = .int .i64 R3.n
      | 12 => fun _ v => v = errN al R3.k
      | _ => fun _ _ => False) ?_
    simp (maxSteps := 10000000) only [Rely6, List.take_succ_cons, List.take_zero, List.drop_succ_cons, List.drop_zero, Nat.reduceAdd, Nat.zero_add, Act.put, List.setIfInBounds_toArray, List.set_cons_succ, List.set_cons_zero]
    refine ⟨?_, ?_, ?_, ?_, ?_, ?_, ?_, ?_, ?_, ?_, ?_, ?_, ?_, ?_⟩
    · refine step6o rfl (by decide) fun rv wx hE hd => ?_
      exact gives_load_row 26 _ rfl (g4) (0) rfl (gndC R2.e (.slice A4 n4 c4) R2.g) _ (range_below (blk_range Q4.out) (eg_drew hE)) Tryz.underlying26 rfl (by rw [HL4.out]; exact Tryz.size26) ⟨⟨EG.refl _ _, Ext.refl _⟩, fun _ _ => rfl⟩
    · refine step6o rfl (by decide) fun rv wx hE hd => ?_
      exact gives_move _ (.slice L m cap) (.inl rfl) rfl ⟨⟨EG.refl _ _, Ext.refl _⟩, fun _ _ => rfl⟩
    · refine step6o rfl (by decide) fun rv wx hE hd => ?_
      exact gives_move _ (.int .i64 (j : Int)) (.inl rfl) rfl ⟨⟨EG.refl _ _, Ext.refl _⟩, fun _ _ => rfl⟩
    · refine step6o rfl (by decide) fun rv wx hE hd => ?_
      exact gives_slice 45 _ (some (.tmp 71)) none none rfl (.slice L m cap) _ (some (.int .i64 (j : Int))) none none (show rv 1 = _ from hd.1) (congrArg some (show rv 2 = _ from hd.2.1)) rfl rfl (slice45_hi L m cap j HJM.out HXC.out _) ⟨⟨EG.refl _ _, Ext.refl _⟩, fun _ _ => rfl⟩
    · refine step6o rfl (by decide) fun rv wx hE hd => ?_
      refine gives_call 13 (enters_of Tryz.func13 (by kernel_rfl) rfl) _ _ rfl rfl [.agg (gndC R2.e (.slice A4 n4 c4) R2.g).toArray, .slice (if cap = j then L else L.map (·.add (j * 136))) (m - j) (cap - j)] (congr (congrArg (fun a b => a :: b) (show rv 0 = _ from hd.1)) (congrArg (fun a => [a]) (show rv 3 = _ from hd.2.1))) ?_
      have LE := eg_drew hE
      have hwk := walk_any R2.e R2.xs A4 n4 c4 R2.g HG4.out HN4.out (if cap = j then L else L.map (·.add (j * 136))) (m - j) (cap - j) (xs.drop j) al wx (Y4.out.below LE) ((X4.out.below LE).drop j HJM.out) (S4.out.below LE) (range_below K4.out LE)
      rw [← HR3.out] at hwk
      refine hwk.mono ?_
      rintro _ w'' ⟨hb, A', n', c', rfl, hv, hg, hn⟩
      exact ⟨_, rfl, ⟨EG.of_ext hb, hb⟩, fun W hW => ⟨A', n', c', rfl, hv.eg hW, hg, hn⟩⟩
    · refine step6o rfl (by decide) fun rv wx hE hd => ?_
      obtain ⟨A', n', c', e4, hv, hg, hn⟩ := hd.1
      exact gives_move _ _ (.inl rfl) e4 ⟨⟨EG.refl _ _, Ext.refl _⟩, fun W hW => ⟨A', n', c', rfl, hv.eg hW, hg, hn⟩⟩
    · refine step6o rfl (by decide) fun rv wx hE hd => ?_
      obtain ⟨A', n', c', e4, hv, hg, hn⟩ := hd.1
      exact gives_extract (.tmp 68) 0 rfl _ _ e4 rfl ⟨⟨EG.refl _ _, Ext.refl _⟩, fun W hW => ⟨A', n', c', rfl, hv.eg hW, hg, hn⟩⟩
    · refine step6o rfl (by decide) fun rv wx hE hd => ?_
      obtain ⟨A', n', c', e4, hv, hg, hn⟩ := hd.1
      exact gives_extract (.tmp 68) 1 rfl _ _ e4 rfl ⟨⟨EG.refl _ _, Ext.refl _⟩, fun W hW => rfl⟩
    · refine step6o rfl (by decide) fun rv wx hE hd => ?_
      obtain ⟨A', n', c', e4, hv, hg, hn⟩ := hd.1
      exact gives_extract (.tmp 68) 2 rfl _ _ e4 rfl ⟨⟨EG.refl _ _, Ext.refl _⟩, fun W hW => rfl⟩
    · refine step6o rfl (by decide) fun rv wx hE hd => ?_
      exact gives_alloc26 rfl ⟨⟨EG.of_ext ((Below.refl _ _).alloc (Nat.le_refl _) _), (Below.refl _ _).alloc (Nat.le_refl _) _⟩, fun W hW => ⟨wx.heap.size, rfl, (eg_drew hE).size, GN.eg ⟨_, _, _, rfl, heap_alloc_new wx (.cells (gndC 0 (.slice none 0 0) zero16).toArray 26)⟩ hW⟩⟩
    · refine step6m rfl fun rv wx hE hZ hd => ?_
      obtain ⟨g, e9, hg9, gn⟩ := hd.1
      obtain ⟨A', n', c', e6, hv, hg, hn⟩ := hd.2.1
      have hl := gnd_len R3.e (.slice A' n' c') R3.g hg
      refine gives_store_row 26 _ _ rfl g (show rv 9 = _ from e9) (gndC R3.e (.slice A' n' c') R3.g) (show rv 6 = _ from e6) 26 (by rw [hl]; exact gn.has) (by rw [hl]; exact Tryz.size26) (one_gnd _ _ _ rfl) ?_
      intro w5 hp
      exact ⟨EG.of_put hg9 gn hg hp, fun W hW => ⟨g, A', n', c', e9, blk_below hp.blk hW, (hv.eg (EG.of_put hg9 gn hg hp)).below hW, hg, hn⟩, fun _ _ => trivial⟩
    · refine step6o rfl (by decide) fun rv wx hE hd => ?_
      exact gives_move _ (.int .i64 R3.n) (.inr rfl) (show rv 7 = _ from hd.1) ⟨⟨EG.refl _ _, Ext.refl _⟩, fun _ _ => rfl⟩
    · refine step6o rfl (by decide) fun rv wx hE hd => ?_
      exact gives_move _ (errN al R3.k) (.inr rfl) (show rv 8 = _ from hd.1) ⟨⟨EG.refl _ _, Ext.refl _⟩, fun _ _ => rfl⟩
    · intro rv wx hE hR hG
      have h11 : rv 11 = .int .i64 R3.n := hR 11 (by omega)
      have h12 : rv 12 = errN al R3.k := hR 12 (by omega)
      obtain ⟨g5, A5, n5, c5, h9, hb5, hv5, hg5, hn5⟩ := hG
      rw [h9, h11, h12, HP1.out]
      have hbq := eg_drew hE
      have G5 := Lib.hid (blk_below G4.out hbq)
      have V5 := Lib.hid (V4.out.below hbq)
      have X5 := Lib.hid (X4.out.below hbq)
      have S5 := Lib.hid (S4.out.below hbq)
      have K5 := Lib.hid (range_below K4.out hbq)
      have U5 := Lib.hid (U4.out.below hbq)
      have P5 := Lib.hid (blk_below P4.out hbq)
      have B5 := Lib.hid (B4.out.trans (hbq.mono B4.out.size))
      have HG5 := Lib.hid hg5
      have HN5 := Lib.hid hn5
      have Z5 := Lib.hid hb5
      have I5 := Lib.hid hv5
      have HL5 := Lib.hid (gnd_len R3.e (.slice A5 n5 c5) R3.g hg5)
      clear hR hE h9 h11 h12 hbq hb5 hv5 hg5 hn5
      obtain ⟨re, rg, rxs, rn, rk⟩ := R1
      have hP3 := HP3.out
      simp only [Wk.mk.injEq] at hP3
      obtain ⟨rfl, rfl, rfl, rfl, rfl⟩ := hP3
      have hj8 : (j : Int) ≤ 8 := by have := M8.out; have := HJM.out; omega
      have hr8 : (R3.n : Int) ≤ 8 := by have := HP2.out; omega
      go_wp2_with fail
      refine (num_any al R3.k K3L.out wx S5.out).mono ?_
      rintro _ w6 ⟨rfl, hb6⟩
      have G6 := Lib.hid (blk_below G5.out hb6)
      have V6 := Lib.hid (V5.out.below hb6)
      have X6 := Lib.hid (X5.out.below hb6)
      have S6 := Lib.hid (S5.out.below hb6)
      have K6 := Lib.hid (range_below K5.out hb6)
      have U6 := Lib.hid (U5.out.below hb6)
      have P6 := Lib.hid (blk_below P5.out hb6)
      have Z6 := Lib.hid (blk_below Z5.out hb6)
      have I6 := Lib.hid (I5.out.below hb6)
      have B6 := Lib.hid (B5.out.trans (hb6.mono B5.out.size))
      clear hb6
      go_wp2_with fail
      refine (num_any al R3.k K3L.out w6 S6.out).mono ?_
      rintro _ w7 ⟨rfl, hb7⟩
      have G7 := Lib.hid (blk_below G6.out hb7)
      have V7 := Lib.hid (V6.out.below hb7)
      have X7 := Lib.hid (X6.out.below hb7)
      have S7 := Lib.hid (S6.out.below hb7)
      have K7 := Lib.hid (range_below K6.out hb7)
      have U7 := Lib.hid (U6.out.below hb7)
      have P7 := Lib.hid (blk_below P6.out hb7)
      have Z7 := Lib.hid (blk_below Z6.out hb7)
      have I7 := Lib.hid (I6.out.below hb7)
      have B7 := Lib.hid (B6.out.trans (hb7.mono B6.out.size))
      clear hb7
      go_wp2_with (first | (refine wpList_load_g rfl 26 (.tmp 7) rfl (w2.heap.size) 0 rfl (gndC R3.e (.slice A2 n2 c2) R3.g) _ (blk_range P7.out) Tryz.underlying26 rfl (by rw [HL2.out]; exact Tryz.size26) ?_) | (refine wpList_load_g rfl 26 (.tmp 13) rfl (g5) 0 rfl (gndC R3.e (.slice A5 n5 c5) R3.g) _ (blk_range Z7.out) Tryz.underlying26 rfl (by rw [HL5.out]; exact Tryz.size26) ?_))
      obtain rfl : n2 = n5 := by rw [U7.out.len, I7.out.len]
      refine (same_eq R3.e R3.g HG5.out R3.xs A2 A5 n2 c2 c5 w7 U7.out I7.out HN2.out).mono ?_
      rintro _ w8 ⟨rfl, hb8⟩
      have B8 := Lib.hid (B7.out.trans (hb8.mono B7.out.size))
      clear hb8
      go_wp2_with fail
      go_ret
      exact ⟨rfl, B8.out⟩


end Go.Proofs.YtniknhhejlgdfaaGreatDoor
/- Blocks, Changes and slices of them, as they came in. -/
namespace Go.Proofs.YtniknhhejlgdfaaGreatDoor
open Go.ChangeShapes Go.WideShapes Go.ChangeAt Go.RowKit

theorem laidOut : laidOutB Tryz.prog = true := by kernel_rfl
/-- What is known of the numbers of what came in. -/
def S64 (x : Sd) : Prop := I64 x.who ∧ I64 x.leaf
def QcJ (q : Qc) : Prop := Q64 q ∧ ∀ x ∈ q.votes, S64 x
def BkJ (b : Bk) : Prop := I64 b.epoch ∧ I64 b.round ∧ QcJ b.justify ∧ ∀ x ∈ b.next, I64 x.2
def ChJ (c : Ch) : Prop := (∀ i, i < 3 → BkJ (c.b i)) ∧ QcJ c.q
section
variable {H : Type} {enc : TypeId × Value → H} {W : World} {base : Nat} {spare : Nat → Bool} {held : Bool}
set_option maxRecDepth 100000 in
theorem open_slice {α : Type} {t e k : Nat} (hu : Tryz.prog.underlying t = some (.slice e)) (hk : Tryz.prog.cellsOf e = k) (hk0 : 0 < k) (Pd : List Value → α → Prop) (dflt : α)
    (hopen : ∀ (m : Nat) (cs : List Value) (x : DataW H × List MemPlace), DataW.trod enc Tryz.prog W base spare held m e cs = some x → ∃ a, Pd cs a ∧ cs.length = k)
    {fuel : Nat} {cs : List Value} {x : DataW H × List MemPlace} (h : DataW.trod enc Tryz.prog W base spare held fuel t cs = some x) :
    ∃ (xs : List α) (A : Option Addr) (c : Nat), cs = [.slice A xs.length c] ∧ (xs ≠ [] → ∃ b off, A = some ⟨b, off, none⟩ ∧ xs.length ≤ c ∧ c ≤ maxLen ∧ b < W.heap.size ∧ ∀ i, i < xs.length → ∃ cs, W.rangeAt b (off + i * k) cs ∧ Pd cs (xs.getD i dflt)) ∧ ∀ x ∈ xs, ∃ cs, Pd cs x := by
  rcases DataW.trod_slice hu h with ⟨rfl, _⟩ | ⟨a, n, c, elems, rest, k', _, rfl, _, _, hl, hm, hlen, hel, _, _⟩
  · exact ⟨[], none, 0, rfl, fun h => absurd rfl h, fun x hx => by cases hx⟩
  · have each : ∀ i, ∃ X : α × List Value, i < n → (Pd X.2 X.1 ∧ X.2.length = k) ∧ ∀ j u, X.2[j]? = some u → W.cell? ((a.add (i * k)).add j) = some u := by
      intro i
      by_cases hi : i < n
      · have he := hel i hi
        rw [hk, List.getElem?_eq_getElem (by omega), Option.bind_eq_some_iff] at he
        obtain ⟨cs', hcs, hy'⟩ := he
        obtain ⟨X, hX, hl4⟩ := hopen _ _ _ hy'
        refine ⟨(X, cs'), fun _ => ⟨⟨hX, hl4⟩, fun j u hu => ?_⟩⟩
        have := (World.cells?_some hcs).2
        have hj : j < k := by have := (List.getElem?_eq_some_iff.1 hu).1; rwa [hl4] at this
        first
          | exact (this j hj).trans hu
          | exact (this.2 j hj).trans hu
      · exact ⟨(dflt, []), fun h => absurd h hi⟩
    obtain ⟨f, hff⟩ := Classical.axiomOfChoice each
    refine ⟨(List.range n).map (fun i => (f i).1), some a, c, by simp, fun hne => ?_, fun x hx => ?_⟩
    · have hn : 0 < n := by
        cases n with
        | zero => exact absurd rfl hne
        | succ => omega
      obtain ⟨b, off, sp⟩ := a
      obtain ⟨⟨_, hl0⟩, h0⟩ := hff 0 hn
      obtain ⟨u, hu⟩ : ∃ u, (f 0).2[0]? = some u := ⟨_, List.getElem?_eq_getElem (by omega)⟩
      have hc0 := h0 0 u hu
      have hadd0 : (⟨b, off, sp⟩ : Addr).add (0 * k) = ⟨b, off, sp⟩ := by simp [Addr.add]
      rw [hadd0] at hc0
      obtain rfl := spot_none hc0
      refine ⟨b, off, rfl, by simpa using hl, hm, World.block_lt_of_cell? W _ hc0, fun i hi => ?_⟩
      have hi : i < n := by simpa using hi
      refine ⟨(f i).2, fun j u hu => ?_, ?_⟩
      · have := (hff i hi).2 j u hu
        rw [add_none, add_none] at this
        exact this
      · rw [List.getD_eq_getElem?_getD, List.getElem?_map, List.getElem?_range hi]
        exact (hff i hi).1.1
    · rw [List.mem_map] at hx
      obtain ⟨i, hi, rfl⟩ := hx
      exact ⟨_, (hff i (by simpa using hi)).1.1⟩
set_option maxRecDepth 100000 in
theorem open_sig2 {fuel : Nat} {cs : List Value} {x : DataW H × List MemPlace} (h : DataW.trod enc Tryz.prog W base spare held fuel 56 cs = some x) : ∃ l ds qs A c B e, cs = [.int .i64 l, .slice A ds.length c, .slice B qs.length e] ∧ I64 l ∧ Dgs W (.slice A ds.length c) ds ∧ Dgs W (.slice B qs.length e) qs := by
  have c66 : Tryz.prog.cellsOf 56 = 3 := by kernel_rfl
  have c3 : Tryz.prog.cellsOf 3 = 1 := by kernel_rfl
  have c43' : Tryz.prog.cellsOf 54 = 1 := by kernel_rfl
  obtain ⟨z0, z1, z2, m2, _, hl2, g0, g1, g2⟩ := Go.Deep.trod_struct3 Tryz.underlying56 h
  rw [c66] at hl2
  obtain ⟨a0, a1, a2, rfl⟩ : ∃ a0 a1 a2, cs = [a0, a1, a2] := by
    match cs, hl2 with
    | [a0, a1, a2], _ => exact ⟨a0, a1, a2, rfl⟩
  simp only [c3, List.drop_zero, List.take_succ_cons, List.take_zero] at g0
  simp only [c43', List.drop_succ_cons, List.drop_zero, List.take_succ_cons, List.take_zero] at g1 g2
  obtain ⟨l0, f0, _, wl⟩ := DataW.trod_int Tryz.underlying3 g0
  obtain ⟨ds, A, c, e1, hd⟩ := open_dgs_cells g1
  obtain ⟨qs, B, e, e2, hq⟩ := open_dgs_cells g2
  simp only [List.cons.injEq, and_true] at f0 e1 e2
  subst f0 e1 e2
  exact ⟨l0, ds, qs, A, c, B, e, rfl, wf_i64 wl, hd, hq⟩
set_option maxRecDepth 100000 in
theorem open_sd2 {fuel : Nat} {cs : List Value} {x : DataW H × List MemPlace} (h : DataW.trod enc Tryz.prog W base spare held fuel 58 cs = some x) : ∃ X : Sd, (SdAt W cs X ∧ S64 X) ∧ cs.length = 4 := by
  have c68 : Tryz.prog.cellsOf 58 = 4 := by kernel_rfl
  have c66 : Tryz.prog.cellsOf 56 = 3 := by kernel_rfl
  have c3 : Tryz.prog.cellsOf 3 = 1 := by kernel_rfl
  obtain ⟨y0, y1, m, _, hl, h0, h1⟩ := trod_struct2 Tryz.underlying58 h
  rw [c68] at hl
  obtain ⟨a0, a1, a2, a3, rfl⟩ : ∃ a0 a1 a2 a3, cs = [a0, a1, a2, a3] := by
    match cs, hl with
    | [a0, a1, a2, a3], _ => exact ⟨a0, a1, a2, a3, rfl⟩
  simp only [c3, List.drop_zero, List.take_succ_cons, List.take_zero] at h0
  simp only [c66, List.drop_succ_cons, List.drop_zero, List.take_succ_cons, List.take_zero] at h1
  obtain ⟨w0, e0, _, ww⟩ := DataW.trod_int Tryz.underlying3 h0
  obtain ⟨l, ds, qs, A, c, B, e, hcs, wl, hd, hq⟩ := open_sig2 h1
  simp only [List.cons.injEq, and_true] at e0 hcs
  obtain ⟨rfl, rfl, rfl⟩ := hcs
  subst e0
  exact ⟨⟨w0, l, ds, qs⟩, ⟨⟨A, c, B, e, rfl, hd, hq⟩, wf_i64 ww, wl⟩, rfl⟩
set_option maxRecDepth 100000 in
theorem open_sgs2 {fuel : Nat} {cs : List Value} {x : DataW H × List MemPlace} (h : DataW.trod enc Tryz.prog W base spare held fuel 27 cs = some x) : ∃ xs A c, cs = [.slice A xs.length c] ∧ Sgs W (.slice A xs.length c) xs ∧ ∀ x ∈ xs, S64 x := by
  obtain ⟨xs, A, c, rfl, h1, h2⟩ := open_slice (k := 4) Tryz.underlying27 (by kernel_rfl) (by omega) (fun cs X => SdAt W cs X ∧ S64 X) Sd.none (fun m cs x h => open_sd2 h) h
  refine ⟨xs, A, c, rfl, ⟨⟨_, _, rfl⟩, fun hne => ?_⟩, fun x hx => (h2 x hx).elim fun cs h => h.2⟩
  obtain ⟨b, off, rfl, g1, g2, g3, g4⟩ := h1 hne
  refine ⟨b, off, c, rfl, g1, g2, g3, fun i hi => ?_⟩
  obtain ⟨cs, hr, hp⟩ := g4 i hi
  exact ⟨cs, hr, hp.1⟩
set_option maxRecDepth 100000 in
theorem open_va2 {fuel : Nat} {cs : List Value} {x : DataW H × List MemPlace} (h : DataW.trod enc Tryz.prog W base spare held fuel 90 cs = some x) : ∃ X : Va, (cs = vcells X ∧ X.1.length = 16 ∧ u8s_ok X.1 ∧ I64 X.2) ∧ cs.length = 17 := by
  obtain ⟨y0, y1, n, _, hl, h0, h1⟩ := trod_struct2 Tryz.underlying90 h
  have c39 : Tryz.prog.cellsOf 90 = 17 := by kernel_rfl
  have c37 : Tryz.prog.cellsOf 24 = 16 := by kernel_rfl
  have c3 : Tryz.prog.cellsOf 3 = 1 := by kernel_rfl
  rw [c39] at hl
  simp only [c37, List.drop_zero] at h0
  simp only [c3] at h1
  obtain ⟨d, e0, ld, od⟩ := open_dg_cells h0
  obtain ⟨p, hp, _, wp⟩ := DataW.trod_int Tryz.underlying3 h1
  refine ⟨(d, p), ⟨?_, ld, od, wf_i64 wp⟩, hl⟩
  unfold vcells
  have e1 : cs.drop 16 = [.int .i64 p] := by
    rw [← hp, List.take_of_length_le (by rw [List.length_drop]; omega)]
  show cs = u8s d ++ [.int .i64 p]
  rw [← e0, ← e1, List.take_append_drop]
set_option maxRecDepth 100000 in
theorem open_vals2 {fuel : Nat} {cs : List Value} {x : DataW H × List MemPlace} (h : DataW.trod enc Tryz.prog W base spare held fuel 22 cs = some x) : ∃ xs A c, cs = [.slice A xs.length c] ∧ Vals W (.slice A xs.length c) xs ∧ ∀ x ∈ xs, u8s_ok x.1 ∧ I64 x.2 := by
  obtain ⟨xs, A, c, rfl, h1, h2⟩ := open_slice (k := 17) Tryz.underlying22 (by kernel_rfl) (by omega) (fun cs (X : Va) => cs = vcells X ∧ X.1.length = 16 ∧ u8s_ok X.1 ∧ I64 X.2) ([], 0) (fun m cs x h => open_va2 h) h
  refine ⟨xs, A, c, rfl, ⟨⟨_, _, rfl⟩, fun hne => ?_, fun x hx => (h2 x hx).elim fun cs h => h.2.1⟩, fun x hx => (h2 x hx).elim fun cs h => h.2.2⟩
  obtain ⟨b, off, rfl, g1, g2, g3, g4⟩ := h1 hne
  refine ⟨b, off, c, rfl, g1, g2, g3, fun i hi => ?_⟩
  obtain ⟨cs, hr, rfl, _⟩ := g4 i hi
  exact hr
set_option maxRecDepth 100000 in
theorem open_bss2 {fuel : Nat} {cs : List Value} {x : DataW H × List MemPlace} (h : DataW.trod enc Tryz.prog W base spare held fuel 30 cs = some x) : ∃ xs A c, cs = [.slice A xs.length c] ∧ Bss W (.slice A xs.length c) xs := by
  obtain ⟨xs, A, c, rfl, h1, h2⟩ := open_slice (k := 1) Tryz.underlying30 (by kernel_rfl) (by omega) (fun cs (X : List Int) => ∃ v, cs = [v] ∧ Bs W v X) [] (fun m cs x h => by
    obtain ⟨bs, A, c, rfl, hb⟩ := open_bs_cells h
    exact ⟨bs, ⟨_, rfl, hb⟩, rfl⟩) h
  refine ⟨xs, A, c, rfl, ⟨⟨_, _, rfl⟩, fun hne => ?_⟩⟩
  obtain ⟨b, off, rfl, g1, g2, g3, g4⟩ := h1 hne
  refine ⟨b, off, c, rfl, g1, g2, g3, fun i hi => ?_⟩
  obtain ⟨cs, hr, v, rfl, hb⟩ := g4 i hi
  have := hr 0 v rfl
  rw [Nat.mul_one, Nat.add_zero] at this
  exact ⟨v, this, hb⟩
set_option maxRecDepth 100000 in
theorem open_qc2 {fuel : Nat} {cs : List Value} {x : DataW H × List MemPlace} (h : DataW.trod enc Tryz.prog W base spare held fuel 29 cs = some x) : ∃ q : Qc, (QcAt W cs q ∧ QcJ q) ∧ cs.length = 19 := by
  have c37 : Tryz.prog.cellsOf 29 = 19 := by kernel_rfl
  have c35 : Tryz.prog.cellsOf 27 = 1 := by kernel_rfl
  have c3 : Tryz.prog.cellsOf 3 = 1 := by kernel_rfl
  have c24 : Tryz.prog.cellsOf 24 = 16 := by kernel_rfl
  obtain ⟨y0, y1, y2, y3, m, _, hl, h0, h1, h2, h3⟩ := Go.Joins.trod_struct4 Tryz.underlying29 h
  rw [c37] at hl
  simp only [c3, c24, c35] at h0 h1 h2 h3
  obtain ⟨e, he, _, we⟩ := DataW.trod_int Tryz.underlying3 h0
  obtain ⟨r, hr, _, wr⟩ := DataW.trod_int Tryz.underlying3 h1
  obtain ⟨blk, hb, lb, ob⟩ := open_dg_cells h2
  obtain ⟨xs, A, c, hs, hx, hj⟩ := open_sgs2 h3
  refine ⟨⟨e, r, blk, xs⟩, ⟨⟨⟨A, c, ?_, hx⟩, lb, ob⟩, ⟨wf_i64 we, wf_i64 wr⟩, hj⟩, hl⟩
  have e0 : cs = cs.take 1 ++ ((cs.drop 1).take 1 ++ ((cs.drop 2).take 16 ++ (cs.drop 18).take 1)) := by
    rw [List.take_of_length_le (l := cs.drop 18) (by rw [List.length_drop]; omega)]
    have h2 : cs.drop 2 = (cs.drop 1).drop 1 := by rw [List.drop_drop]
    have h18 : cs.drop 18 = (cs.drop 2).drop 16 := by rw [List.drop_drop]
    rw [h18, List.take_append_drop, h2, List.take_append_drop, List.take_append_drop]
  rw [List.drop_zero] at he
  rw [e0, he, hr, hb, hs]
  rfl
set_option maxRecDepth 100000 in
theorem open_bk2 {fuel : Nat} {cs : List Value} {x : DataW H × List MemPlace} (h : DataW.trod enc Tryz.prog W base spare held fuel 32 cs = some x) : ∃ b : Bk, (BkAt W cs b ∧ BkJ b) ∧ cs.length = 39 := by
  have c32 : Tryz.prog.cellsOf 32 = 39 := by kernel_rfl
  have c29 : Tryz.prog.cellsOf 29 = 19 := by kernel_rfl
  have c30 : Tryz.prog.cellsOf 30 = 1 := by kernel_rfl
  have c22 : Tryz.prog.cellsOf 22 = 1 := by kernel_rfl
  have c3 : Tryz.prog.cellsOf 3 = 1 := by kernel_rfl
  have c24 : Tryz.prog.cellsOf 24 = 16 := by kernel_rfl
  obtain ⟨xs, m, _, _, hl, hlen, hf⟩ := DataW.trod_struct Tryz.underlying32 h
  rw [c32] at hl
  have hlen6 : xs.length = 6 := hlen
  have h0 : DataW.trod enc Tryz.prog W base spare held m 3 ((cs.drop 0).take (Tryz.prog.cellsOf 3)) = xs[0]? := hf 0 _ rfl
  rw [c3, List.getElem?_eq_getElem (by omega)] at h0
  have h1 : DataW.trod enc Tryz.prog W base spare held m 3 ((cs.drop 1).take (Tryz.prog.cellsOf 3)) = xs[1]? := hf 1 _ rfl
  rw [c3, List.getElem?_eq_getElem (by omega)] at h1
  have h2 : DataW.trod enc Tryz.prog W base spare held m 24 ((cs.drop 2).take (Tryz.prog.cellsOf 24)) = xs[2]? := hf 2 _ rfl
  rw [c24, List.getElem?_eq_getElem (by omega)] at h2
  have h3 : DataW.trod enc Tryz.prog W base spare held m 29 ((cs.drop 18).take (Tryz.prog.cellsOf 29)) = xs[3]? := hf 3 _ rfl
  rw [c29, List.getElem?_eq_getElem (by omega)] at h3
  have h4 : DataW.trod enc Tryz.prog W base spare held m 30 ((cs.drop 37).take (Tryz.prog.cellsOf 30)) = xs[4]? := hf 4 _ rfl
  rw [c30, List.getElem?_eq_getElem (by omega)] at h4
  have h5 : DataW.trod enc Tryz.prog W base spare held m 22 ((cs.drop 38).take (Tryz.prog.cellsOf 22)) = xs[5]? := hf 5 _ rfl
  rw [c22, List.getElem?_eq_getElem (by omega)] at h5
  obtain ⟨e, he, _, we⟩ := DataW.trod_int Tryz.underlying3 h0
  obtain ⟨r, hr, _, wr⟩ := DataW.trod_int Tryz.underlying3 h1
  obtain ⟨p, hp, lp, op⟩ := open_dg_cells h2
  obtain ⟨q, ⟨hq, jq⟩, _⟩ := open_qc2 h3
  obtain ⟨ts, A, c, ht, hts⟩ := open_bss2 h4
  obtain ⟨vs, B, d, hv, hvs, jv⟩ := open_vals2 h5
  refine ⟨⟨e, r, p, q, ts, vs⟩, ⟨⟨⟨_, A, c, B, d, ?_, hq, hts, hvs⟩, ⟨lp, op⟩, fun x hx => (jv x hx).1⟩, wf_i64 we, wf_i64 wr, jq, fun x hx => (jv x hx).2⟩, hl⟩
  have e0 : cs = cs.take 1 ++ ((cs.drop 1).take 1 ++ ((cs.drop 2).take 16 ++ ((cs.drop 18).take 19 ++ ((cs.drop 37).take 1 ++ (cs.drop 38).take 1)))) := by
    rw [List.take_of_length_le (l := cs.drop 38) (by rw [List.length_drop]; omega)]
    have k1 : cs.drop 2 = (cs.drop 1).drop 1 := by rw [List.drop_drop]
    have k2 : cs.drop 18 = (cs.drop 2).drop 16 := by rw [List.drop_drop]
    have k3 : cs.drop 37 = (cs.drop 18).drop 19 := by rw [List.drop_drop]
    have k4 : cs.drop 38 = (cs.drop 37).drop 1 := by rw [List.drop_drop]
    rw [k4, List.take_append_drop, k3, List.take_append_drop, k2, List.take_append_drop, k1, List.take_append_drop, List.take_append_drop]
  rw [List.drop_zero] at he
  show cs = bkC e r p ((cs.drop 18).take 19) (.slice A ts.length c) (.slice B vs.length d)
  conv => { lhs; rw [e0, he, hr, hp, ht, hv] }
  rfl
set_option maxRecDepth 100000 in
theorem open_bl3 {fuel : Nat} {cs : List Value} {x : DataW H × List MemPlace} (h : DataW.trod enc Tryz.prog W base spare held fuel 33 cs = some x) : ∃ (f : Nat → List Value) (b : Nat → Bk), cs = bl3 f ∧ ∀ i, i < 3 → BkAt W (f i) (b i) ∧ BkJ (b i) := by
  have c33 : Tryz.prog.cellsOf 33 = 117 := by kernel_rfl
  have c32 : Tryz.prog.cellsOf 32 = 39 := by kernel_rfl
  obtain ⟨xs, m, _, _, hlen, hl, hel⟩ := DataW.trod_array Tryz.underlying33 h
  rw [c33] at hlen
  have h0 := hel 0 (by omega)
  have h1 := hel 1 (by omega)
  have h2 := hel 2 (by omega)
  rw [c32, List.getElem?_eq_getElem (by omega)] at h0 h1 h2
  obtain ⟨b0, g0, _⟩ := open_bk2 h0
  obtain ⟨b1, g1, _⟩ := open_bk2 h1
  obtain ⟨b2, g2, _⟩ := open_bk2 h2
  refine ⟨fun i => (cs.drop (i * 39)).take 39, fun i => if i = 0 then b0 else if i = 1 then b1 else b2, ?_, fun i hi => ?_⟩
  · unfold bl3
    simp only [Nat.zero_mul, Nat.one_mul, List.drop_zero]
    rw [List.take_of_length_le (l := cs.drop (2 * 39)) (by rw [List.length_drop]; omega)]
    have k : cs.drop (2 * 39) = (cs.drop 39).drop 39 := by rw [List.drop_drop]
    rw [k, List.take_append_drop, List.take_append_drop]
  · have : i = 0 ∨ i = 1 ∨ i = 2 := by omega
    rcases this with rfl | rfl | rfl
    · exact g0
    · exact g1
    · exact g2
set_option maxRecDepth 100000 in
theorem open_ch2 {fuel : Nat} {cs : List Value} {x : DataW H × List MemPlace} (h : DataW.trod enc Tryz.prog W base spare held fuel 35 cs = some x) : ∃ c : Ch, (ChAt W cs c ∧ ChJ c) ∧ cs.length = 136 := by
  have c35 : Tryz.prog.cellsOf 35 = 136 := by kernel_rfl
  have c33 : Tryz.prog.cellsOf 33 = 117 := by kernel_rfl
  have c29 : Tryz.prog.cellsOf 29 = 19 := by kernel_rfl
  obtain ⟨y0, y1, n, _, hl, h0, h1⟩ := trod_struct2 Tryz.underlying35 h
  rw [c35] at hl
  simp only [c33, c29, List.drop_zero] at h0 h1
  obtain ⟨f, b, hf, hb⟩ := open_bl3 h0
  obtain ⟨q, ⟨hq, jq⟩, _⟩ := open_qc2 h1
  refine ⟨⟨b, q⟩, ⟨⟨⟨f, _, ?_, fun i hi => (hb i hi).1, hq⟩, fun i hi => ⟨(hb i hi).2.1, (hb i hi).2.2.1, ?_⟩⟩, fun i hi => (hb i hi).2, jq⟩, hl⟩
  · unfold chC
    rw [← hf, List.take_of_length_le (l := cs.drop 117) (by rw [List.length_drop]; omega), List.take_append_drop]
  · unfold Ch.qc
    split
    · exact jq.1
    · exact (hb (i + 1) (by omega)).2.2.2.1.1
set_option maxRecDepth 100000 in
theorem open_chs2 {fuel : Nat} {cs : List Value} {x : DataW H × List MemPlace} (h : DataW.trod enc Tryz.prog W base spare held fuel 45 cs = some x) : ∃ xs A c, cs = [.slice A xs.length c] ∧ Chs W (.slice A xs.length c) xs ∧ ∀ x ∈ xs, ChJ x := by
  obtain ⟨xs, A, c, rfl, h1, h2⟩ := open_slice (k := 136) Tryz.underlying45 (by kernel_rfl) (by omega) (fun cs X => ChAt W cs X ∧ ChJ X) Ch.none (fun m cs x h => open_ch2 h) h
  refine ⟨xs, A, c, rfl, ⟨⟨_, _, rfl⟩, fun hne => ?_⟩, fun x hx => (h2 x hx).elim fun cs h => h.2⟩
  obtain ⟨b, off, rfl, g1, g2, g3, g4⟩ := h1 hne
  refine ⟨b, off, c, rfl, g1, g2, g3, fun i hi => ?_⟩
  obtain ⟨cs, hr, hp⟩ := g4 i hi
  exact ⟨cs, hr, hp.1⟩
/-- A ground that came in. -/
theorem open_gnd2 {v : Value} {d : DataW H} {ps : List MemPlace} (h : DataW.Trod enc Tryz.prog W base spare held 26 v d ps) : ∃ e vs A c g, v = .agg (gndC e (.slice A vs.length c) g).toArray ∧ g.length = 16 ∧ Vals W (.slice A vs.length c) vs := by
  obtain ⟨fuel, hf⟩ := h
  have hf0 := hf
  obtain ⟨y0, y1, y2, m, _, hlen, _⟩ := Go.Deep.trod_struct3 Tryz.underlying26 hf
  rw [show Tryz.prog.cellsOf 26 = 18 by kernel_rfl] at hlen
  obtain ⟨cs, rfl⟩ : ∃ cs, v = .agg cs := by
    cases v with
    | agg cs => exact ⟨cs, rfl⟩
    | _ => simp [Value.cells] at hlen
  simp only [Value.cells] at hf0
  obtain ⟨e, vs, A, c, g, hg, hv, lg⟩ := open_ground_cells hf0
  exact ⟨e, vs, A, c, g, by rw [← hg, Array.toArray_toList], lg, hv⟩
theorem open_chs {v : Value} {d : DataW H} {ps : List MemPlace} (hs : ∃ A n c, v = .slice A n c) (h : DataW.Trod enc Tryz.prog W base spare held 45 v d ps) : ∃ xs A c, v = .slice A xs.length c ∧ Chs W (.slice A xs.length c) xs ∧ ∀ x ∈ xs, ChJ x := by
  obtain ⟨fuel, hf⟩ := h
  obtain ⟨A, n, c, rfl⟩ := hs
  simp only [Value.cells] at hf
  obtain ⟨xs, A', c', e, hx, hj⟩ := open_chs2 hf
  simp only [List.cons.injEq, and_true] at e
  exact ⟨xs, A', c', e, hx, hj⟩
end
end Go.Proofs.YtniknhhejlgdfaaGreatDoor
/- The dump's head, word by word, and the closed facts that go by it. -/
namespace Go.Proofs.YtniknhhejlgdfaaGreatDoor
set_option maxRecDepth 100000

theorem initIs : Tryz.prog.initOrder = "harness 7c22e4f4b23bae0c59e82da5db6fed3daa269d3c5ab8e6a6d331450ceab2e9af cut at quorate/quoratelaw20.EpochsChanges quorate/quoratelaw20.EpochsWalks quorate/quoratelaw20.EpochsParts quorate/quoratelaw11.ProofsMessages quorate/quoratelaw11.ProofsEmpty" := by kernel_rfl
def initCodes : List Nat := [104, 97, 114, 110, 101, 115, 115, 32, 55, 99, 50, 50, 101, 52, 102, 52, 98, 50, 51, 98, 97, 101, 48, 99, 53, 57, 101, 56, 50, 100, 97, 53, 100, 98, 54, 102, 101, 100, 51, 100, 97, 97, 50, 54, 57, 100, 51, 99, 53, 97, 98, 56, 101, 54, 97, 54, 100, 51, 51, 49, 52, 53, 48, 99, 101, 97, 98, 50, 101, 57, 97, 102, 32, 99, 117, 116, 32, 97, 116, 32, 113, 117, 111, 114, 97, 116, 101, 47, 113, 117, 111, 114, 97, 116, 101, 108, 97, 119, 50, 48, 46, 69, 112, 111, 99, 104, 115, 67, 104, 97, 110, 103, 101, 115, 32, 113, 117, 111, 114, 97, 116, 101, 47, 113, 117, 111, 114, 97, 116, 101, 108, 97, 119, 50, 48, 46, 69, 112, 111, 99, 104, 115, 87, 97, 108, 107, 115, 32, 113, 117, 111, 114, 97, 116, 101, 47, 113, 117, 111, 114, 97, 116, 101, 108, 97, 119, 50, 48, 46, 69, 112, 111, 99, 104, 115, 80, 97, 114, 116, 115, 32, 113, 117, 111, 114, 97, 116, 101, 47, 113, 117, 111, 114, 97, 116, 101, 108, 97, 119, 49, 49, 46, 80, 114, 111, 111, 102, 115, 77, 101, 115, 115, 97, 103, 101, 115, 32, 113, 117, 111, 114, 97, 116, 101, 47, 113, 117, 111, 114, 97, 116, 101, 108, 97, 119, 49, 49, 46, 80, 114, 111, 111, 102, 115, 69, 109, 112, 116, 121]
def initWords : List (List Nat) := [[104, 97, 114, 110, 101, 115, 115], [55, 99, 50, 50, 101, 52, 102, 52, 98, 50, 51, 98, 97, 101, 48, 99, 53, 57, 101, 56, 50, 100, 97, 53, 100, 98, 54, 102, 101, 100, 51, 100, 97, 97, 50, 54, 57, 100, 51, 99, 53, 97, 98, 56, 101, 54, 97, 54, 100, 51, 51, 49, 52, 53, 48, 99, 101, 97, 98, 50, 101, 57, 97, 102], [99, 117, 116], [97, 116], [113, 117, 111, 114, 97, 116, 101, 47, 113, 117, 111, 114, 97, 116, 101, 108, 97, 119, 50, 48, 46, 69, 112, 111, 99, 104, 115, 67, 104, 97, 110, 103, 101, 115], [113, 117, 111, 114, 97, 116, 101, 47, 113, 117, 111, 114, 97, 116, 101, 108, 97, 119, 50, 48, 46, 69, 112, 111, 99, 104, 115, 87, 97, 108, 107, 115], [113, 117, 111, 114, 97, 116, 101, 47, 113, 117, 111, 114, 97, 116, 101, 108, 97, 119, 50, 48, 46, 69, 112, 111, 99, 104, 115, 80, 97, 114, 116, 115], [113, 117, 111, 114, 97, 116, 101, 47, 113, 117, 111, 114, 97, 116, 101, 108, 97, 119, 49, 49, 46, 80, 114, 111, 111, 102, 115, 77, 101, 115, 115, 97, 103, 101, 115], [113, 117, 111, 114, 97, 116, 101, 47, 113, 117, 111, 114, 97, 116, 101, 108, 97, 119, 49, 49, 46, 80, 114, 111, 111, 102, 115, 69, 109, 112, 116, 121]]
def initRest : List (List Nat) := [[99, 117, 116], [97, 116], [113, 117, 111, 114, 97, 116, 101, 47, 113, 117, 111, 114, 97, 116, 101, 108, 97, 119, 50, 48, 46, 69, 112, 111, 99, 104, 115, 67, 104, 97, 110, 103, 101, 115], [113, 117, 111, 114, 97, 116, 101, 47, 113, 117, 111, 114, 97, 116, 101, 108, 97, 119, 50, 48, 46, 69, 112, 111, 99, 104, 115, 87, 97, 108, 107, 115], [113, 117, 111, 114, 97, 116, 101, 47, 113, 117, 111, 114, 97, 116, 101, 108, 97, 119, 50, 48, 46, 69, 112, 111, 99, 104, 115, 80, 97, 114, 116, 115], [113, 117, 111, 114, 97, 116, 101, 47, 113, 117, 111, 114, 97, 116, 101, 108, 97, 119, 49, 49, 46, 80, 114, 111, 111, 102, 115, 77, 101, 115, 115, 97, 103, 101, 115], [113, 117, 111, 114, 97, 116, 101, 47, 113, 117, 111, 114, 97, 116, 101, 108, 97, 119, 49, 49, 46, 80, 114, 111, 111, 102, 115, 69, 109, 112, 116, 121]]
def initTail : List (List Nat) := [[97, 116], [113, 117, 111, 114, 97, 116, 101, 47, 113, 117, 111, 114, 97, 116, 101, 108, 97, 119, 50, 48, 46, 69, 112, 111, 99, 104, 115, 67, 104, 97, 110, 103, 101, 115], [113, 117, 111, 114, 97, 116, 101, 47, 113, 117, 111, 114, 97, 116, 101, 108, 97, 119, 50, 48, 46, 69, 112, 111, 99, 104, 115, 87, 97, 108, 107, 115], [113, 117, 111, 114, 97, 116, 101, 47, 113, 117, 111, 114, 97, 116, 101, 108, 97, 119, 50, 48, 46, 69, 112, 111, 99, 104, 115, 80, 97, 114, 116, 115], [113, 117, 111, 114, 97, 116, 101, 47, 113, 117, 111, 114, 97, 116, 101, 108, 97, 119, 49, 49, 46, 80, 114, 111, 111, 102, 115, 77, 101, 115, 115, 97, 103, 101, 115], [113, 117, 111, 114, 97, 116, 101, 47, 113, 117, 111, 114, 97, 116, 101, 108, 97, 119, 49, 49, 46, 80, 114, 111, 111, 102, 115, 69, 109, 112, 116, 121]]
theorem initL : ("harness 7c22e4f4b23bae0c59e82da5db6fed3daa269d3c5ab8e6a6d331450ceab2e9af cut at quorate/quoratelaw20.EpochsChanges quorate/quoratelaw20.EpochsWalks quorate/quoratelaw20.EpochsParts quorate/quoratelaw11.ProofsMessages quorate/quoratelaw11.ProofsEmpty" : String) = String.ofList (initCodes.map Char.ofNat) := by kernel_rfl
theorem initSigns : Tryz.prog.initOrder.toList = initCodes.map Char.ofNat := by rw [initIs, initL, String.toList_ofList]
theorem initW : wordsSigns (initCodes.map Char.ofNat) = initWords.map (fun l => l.map Char.ofNat) := by kernel_rfl
theorem initIn : wordsSigns Tryz.prog.initOrder.toList = initWords.map (fun l => l.map Char.ofNat) := by rw [initSigns, initW]

theorem behindIn : behindMainWord (wordsSigns Tryz.prog.initOrder.toList) = initRest.map (fun l => l.map Char.ofNat) := by rw [initIn]; kernel_rfl
theorem stripIn : stripLifts liftWords (initRest.map (fun l => l.map Char.ofNat)) = ([], initRest.map (fun l => l.map Char.ofNat)) := by kernel_rfl
theorem restIn : initRest.map (fun l => l.map Char.ofNat) = [99, 117, 116].map Char.ofNat :: initTail.map (fun l => l.map Char.ofNat) := by kernel_rfl
theorem noLater : Tryz.prog.laysLater = false := by kernel_rfl
theorem noReflect : Tryz.prog.bearsReflect = false := by kernel_rfl
theorem doorFits_ok : Tryz.prog.doorFits [] = true := by kernel_rfl
theorem isCut : (([99, 117, 116] : List Nat).map Char.ofNat == "cut".toList) = true := by kernel_rfl
theorem noGc : (([99, 117, 116] : List Nat).map Char.ofNat == "gc".toList) = false := by kernel_rfl
theorem noSpec : (([99, 117, 116] : List Nat).map Char.ofNat == "spec".toList) = false := by kernel_rfl
theorem noCarried : (([99, 117, 116] : List Nat).map Char.ofNat == "carried".toList) = false := by kernel_rfl
theorem mayEnter_of {P : Program} {c : List Char} {rest : List (List Char)} (h : behindMainWord (wordsSigns P.initOrder.toList) = c :: rest) (hs : stripLifts liftWords (c :: rest) = ([], c :: rest)) (hc : (c == "cut".toList) = true)
    (h1 : P.laysLater = false) (h2 : P.bearsReflect = false) (h3 : P.doorFits [] = true) : P.mayEnter = true := by
  unfold Program.mayEnter
  rw [h]
  have e : (some c == some "cut".toList) = true := hc
  dsimp only
  rw [hs, h1, h2]
  dsimp only
  rw [h3, List.head?_cons, e]
  simp
theorem mayEnter_ok : Tryz.prog.mayEnter = true := mayEnter_of (behindIn.trans restIn) (by rw [← restIn]; exact stripIn) isCut noLater noReflect doorFits_ok
theorem headLifts_ok : Tryz.prog.headLifts = [] := by
  unfold Program.headLifts
  rw [behindIn, stripIn]
  exact ite_self []
theorem liftsFinal_ok : Tryz.prog.liftsFinal = false := by
  unfold Program.liftsFinal
  rw [behindIn, restIn, headLifts_ok]
  have e : (some (([99, 117, 116] : List Nat).map Char.ofNat) == some "carried".toList) = false := noCarried
  simp only [List.head?_cons, e, Bool.false_and, List.contains_nil, Bool.or_false]
theorem make_of {P : Program} {c : List Char} {rest : List (List Char)} (h : behindMainWord (wordsSigns P.initOrder.toList) = c :: rest) (h1 : (c == "gc".toList) = false) (h2 : (c == "spec".toList) = false) (hc : (c == "cut".toList) = true) : P.make = some .cut := by
  unfold Program.make
  rw [h]
  dsimp only
  rw [h1, h2, hc]
  rfl
theorem make_ok : Tryz.prog.make = some .cut := make_of (behindIn.trans restIn) noGc noSpec isCut
theorem mainIs_of {P : Program} {h s : List Char} {rest : List (List Char)} (hw : wordsSigns P.initOrder.toList = h :: s :: rest) (h1 : isSumSigns s = true) (h2 : (h == "harness".toList) = true) : P.mainIs = some (true, s) := by
  unfold Program.mainIs
  rw [hw]
  dsimp only
  rw [h1, h2]
  rfl
theorem wordsIn2 : initWords.map (fun l => l.map Char.ofNat) = ([104, 97, 114, 110, 101, 115, 115] : List Nat).map Char.ofNat :: ([55, 99, 50, 50, 101, 52, 102, 52, 98, 50, 51, 98, 97, 101, 48, 99, 53, 57, 101, 56, 50, 100, 97, 53, 100, 98, 54, 102, 101, 100, 51, 100, 97, 97, 50, 54, 57, 100, 51, 99, 53, 97, 98, 56, 101, 54, 97, 54, 100, 51, 51, 49, 52, 53, 48, 99, 101, 97, 98, 50, 101, 57, 97, 102] : List Nat).map Char.ofNat :: initRest.map (fun l => l.map Char.ofNat) := by kernel_rfl
theorem sumL : ("7c22e4f4b23bae0c59e82da5db6fed3daa269d3c5ab8e6a6d331450ceab2e9af" : String) = String.ofList (([55, 99, 50, 50, 101, 52, 102, 52, 98, 50, 51, 98, 97, 101, 48, 99, 53, 57, 101, 56, 50, 100, 97, 53, 100, 98, 54, 102, 101, 100, 51, 100, 97, 97, 50, 54, 57, 100, 51, 99, 53, 97, 98, 56, 101, 54, 97, 54, 100, 51, 51, 49, 52, 53, 48, 99, 101, 97, 98, 50, 101, 57, 97, 102] : List Nat).map Char.ofNat) := by kernel_rfl
theorem isSum : isSumSigns (([55, 99, 50, 50, 101, 52, 102, 52, 98, 50, 51, 98, 97, 101, 48, 99, 53, 57, 101, 56, 50, 100, 97, 53, 100, 98, 54, 102, 101, 100, 51, 100, 97, 97, 50, 54, 57, 100, 51, 99, 53, 97, 98, 56, 101, 54, 97, 54, 100, 51, 51, 49, 52, 53, 48, 99, 101, 97, 98, 50, 101, 57, 97, 102] : List Nat).map Char.ofNat) = true := by kernel_rfl
theorem isHarness : (([104, 97, 114, 110, 101, 115, 115] : List Nat).map Char.ofNat == "harness".toList) = true := by kernel_rfl
theorem mainIs_ok : Tryz.prog.mainIs = some (true, "7c22e4f4b23bae0c59e82da5db6fed3daa269d3c5ab8e6a6d331450ceab2e9af".toList) := by
  rw [mainIs_of (initIn.trans wordsIn2) isSum isHarness, sumL, String.toList_ofList]
theorem looks_ok : Tryz.prog.looks [] = true := by kernel_rfl
theorem andB {a b : Bool} (h : a = true) (k : b = true) : (a && b) = true := by rw [h, k]; rfl
end Go.Proofs.YtniknhhejlgdfaaGreatDoor
