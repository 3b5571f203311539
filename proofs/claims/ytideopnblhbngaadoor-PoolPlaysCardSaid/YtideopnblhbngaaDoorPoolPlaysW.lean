/- What PoolPlays answers. -/
import Derived.Test.YtideopnblhbngaaDoorPlays3
import Derived.Sort.CutIn
import Derived.Maps.OwnIn
namespace Go.Proofs.YtideopnblhbngaaDoor
open Go.RowKit Go.Shelf
attribute [local go_sem] Oper.semAt_some

theorem Tryd.size69 : (Tryd.prog.info? 69).map (·.size) = some 4 := by kernel_rfl

set_option maxHeartbeats 1600000 in
set_option maxRecDepth 100000 in
theorem poolPlays_any (os : List OpR) (A : Option Addr) (n c : Nat) (al : List Addr) (aF aT aU : Addr) (w : World) (hv : Opsl w (.slice A n c) os) (hs : SenN w al) (hF : al[3]? = some aF) (hT : al[16]? = some aT) (hU : al[7]? = some aU) :
    Calls Tryd.prog 11 #[.slice A n c] w fun e w' => e = .returned (.bool true) ∧ Below w.heap.size w w' := by
  have HS := Lib.hid hs
  have HV := Lib.hid hv
  have HF := Lib.hid hF
  have HT := Lib.hid hT
  have HU := Lib.hid hU
  clear hs hv hF hT hU
  refine (callsIn_wide (n := 5)).1 ?_
  refine callsIn_of_wp_marks Tryd.func11 rfl trivial ?_ rfl
  simp only [Tryd.ntmps11, List.size_toArray, List.length_cons, List.length_nil, Nat.reduceAdd, Nat.reduceSub, Array.replicate_succ, Array.replicate_zero, List.push_toArray, List.append_toArray, List.nil_append, List.cons_append]
  gi_wp2_with fail
  refine ⟨trivial, ?_⟩
  gi_at_call 24
  refine (callsIn_wide.2 (plAlive_any aF aT aU w (HS.out.pool HF.out HT.out HU.out))).mono ?_
  rintro _ w1 ⟨rfl, bel1⟩
  have S1 := Lib.hid (HS.out.below bel1)
  have V1 := Lib.hid (HV.out.below bel1)
  have B1 := Lib.hid bel1
  clear bel1 HS HV
  by_cases h80 : 80 < n
  · have h80' : (80 : Int) < n := by omega
    gi_wp2_with fail
    exact ⟨_, results_tmp rfl _ _ _, rfl, B1.out⟩
  have h80' : ¬ (80 : Int) < n := by omega
  gi_wp2_with fail
  refine ⟨trivial, ?_⟩
  gi_at_call 25
  refine (callsIn_wide.2 (new_any w1)).mono ?_
  rintro _ _ ⟨rfl, rfl⟩
  have P0 : Hid (PP (inM []) w1.heap.size w1.heap.size (w1.heap.size + 1) (.slice none 0 0) (.slice none 0 0) [] [] w1 ((w1.alloc (.cells #[.slice none 0 0] 109)).alloc (.cells #[.slice none 0 0] 67))) := Lib.hid (by
    have hq := heap_alloc_new (w1.alloc (.cells #[.slice none 0 0] 109)) (.cells #[.slice none 0 0] 67)
    rw [show (w1.alloc (.cells #[.slice none 0 0] 109)).heap.size = w1.heap.size + 1 by simp] at hq
    exact ⟨(new_pool w1).below ((Below.refl _ _).alloc (Nat.le_refl _) _), ⟨hq, World.ownsRow_nil _ _ _ _, Nat.le_succ _⟩, fun k hk => by simp [Value.ownBlock] at hk, ((Below.refl _ _).alloc (Nat.le_refl _) _).alloc (by simp) _, by simp; omega, fun k hk => by simp [inM] at hk⟩)
  gi_wp2_with fail
  refine wpIn_loop (fun a' wr => ∃ (ds : List Deferred) (i : Nat) (v u : Value) (ts : List ByteArray), i ≤ n ∧ Hid (PP (inM ds) w1.heap.size w1.heap.size (w1.heap.size + 1) v u ts ts w1 wr) ∧ Hid (GoodT ts) ∧ Hid (Marks ds) ∧ a'.defers = ds ∧ a'.tmps.size = 174 ∧ a'.tmps.getD 0 undef = .slice A n c ∧ a'.tmps.getD 3 undef = .pointer (some ⟨w1.heap.size, 0, none⟩) ∧ a'.tmps.getD 4 undef = .pointer (some ⟨w1.heap.size + 1, 0, none⟩) ∧ a'.tmps.getD 26 undef = .slice A n c ∧ a'.tmps.getD 27 undef = .int .i64 n ∧ a'.tmps.getD 28 undef = .int .i64 i)
    (fun a' _ => n - (intOf (a'.tmps.getD 28 undef)).toNat) ?_ ?_
  · exact ⟨[], 0, _, _, _, by omega, P0, Lib.hid GoodT.nil, Lib.hid Marks.nil, rfl, rfl, rfl, rfl, rfl, rfl, rfl, rfl⟩
  · clear P0
    rintro ⟨tm, ds⟩ wr ⟨_, i, v, u, ts, hi, P, G, MK, rfl, hsz, h0, h3, h4, h26, h27, h28⟩
    dsimp only at hsz h0 h3 h4 h26 h27 h28 P MK ⊢
    obtain ⟨f, hf⟩ : ∃ f : Nat → Value, f = fun i => tm.getD i undef := ⟨_, rfl⟩
    have ht : tm = ((List.range 174).map f).toArray := by rw [hf]; exact arr_range tm 174 hsz
    have e0 : f 0 = .slice A n c := by rw [hf]; exact h0
    have e3 : f 3 = .pointer (some ⟨w1.heap.size, 0, none⟩) := by rw [hf]; exact h3
    have e4 : f 4 = .pointer (some ⟨w1.heap.size + 1, 0, none⟩) := by rw [hf]; exact h4
    have e26 : f 26 = .slice A n c := by rw [hf]; exact h26
    have e27 : f 27 = .int .i64 n := by rw [hf]; exact h27
    have e28 : f 28 = .int .i64 i := by rw [hf]; exact h28
    clear hf hsz h0 h3 h4 h26 h27 h28
    subst ht
    rw [show (List.range 174).map f = [f 0, f 1, f 2, f 3, f 4, f 5, f 6, f 7, f 8, f 9, f 10, f 11, f 12, f 13, f 14, f 15, f 16, f 17, f 18, f 19, f 20, f 21, f 22, f 23, f 24, f 25, f 26, f 27, f 28, f 29, f 30, f 31, f 32, f 33, f 34, f 35, f 36, f 37, f 38, f 39, f 40, f 41, f 42, f 43, f 44, f 45, f 46, f 47, f 48, f 49, f 50, f 51, f 52, f 53, f 54, f 55, f 56, f 57, f 58, f 59, f 60, f 61, f 62, f 63, f 64, f 65, f 66, f 67, f 68, f 69, f 70, f 71, f 72, f 73, f 74, f 75, f 76, f 77, f 78, f 79, f 80, f 81, f 82, f 83, f 84, f 85, f 86, f 87, f 88, f 89, f 90, f 91, f 92, f 93, f 94, f 95, f 96, f 97, f 98, f 99, f 100, f 101, f 102, f 103, f 104, f 105, f 106, f 107, f 108, f 109, f 110, f 111, f 112, f 113, f 114, f 115, f 116, f 117, f 118, f 119, f 120, f 121, f 122, f 123, f 124, f 125, f 126, f 127, f 128, f 129, f 130, f 131, f 132, f 133, f 134, f 135, f 136, f 137, f 138, f 139, f 140, f 141, f 142, f 143, f 144, f 145, f 146, f 147, f 148, f 149, f 150, f 151, f 152, f 153, f 154, f 155, f 156, f 157, f 158, f 159, f 160, f 161, f 162, f 163, f 164, f 165, f 166, f 167, f 168, f 169, f 170, f 171, f 172, f 173] from rfl, e0, e3, e4, e26, e27, e28]
    clear e0 e3 e4 e26 e27 e28
    by_cases hlt : i < n
    · have hil : (i : Int) < n := by omega
      have hvr := V1.out.below (P.out.low.mono (Nat.le_refl _))
      obtain ⟨b, off, o, Bt, mt, dt, Al, ml, cl, rfl, hom, htx, hls, hro, hbt, hbl⟩ := hvr.el i hlt
      have hbt1 : Bs w1 (.slice Bt mt dt) o.tb := by have := (V1.out.each o hom).1; rwa [htx] at this
      have hbl1 : Bss w1 (.slice Al ml cl) o.lb := by have := (V1.out.each o hom).2; rwa [hls] at this
      clear hom
      obtain ⟨wo, hwo⟩ : ∃ x, x = wr := ⟨_, rfl⟩
      subst hwo
      obtain ⟨kd, hkd⟩ : ∃ x, x = o.kd := ⟨_, rfl⟩
      obtain ⟨nn, hnn⟩ : ∃ x, x = o.nn := ⟨_, rfl⟩
      obtain ⟨tb, htb⟩ : ∃ x, x = o.tb := ⟨_, rfl⟩
      obtain ⟨lb, hlb⟩ : ∃ x, x = o.lb := ⟨_, rfl⟩
      have hoc : ocells o = [.int .i64 kd, .int .i64 nn, .slice Bt mt dt, .slice Al ml cl] := by unfold ocells; rw [hkd, hnn, htx, hls]
      rw [hoc] at hro
      rw [← htb] at hbt hbt1
      rw [← hlb] at hbl hbl1
      have BT1 := Lib.hid hbt1
      have BL1 := Lib.hid hbl1
      have HR := Lib.hid hro
      have BT := Lib.hid hbt
      have BL := Lib.hid hbl
      have HH : Hid (∀ Z : Array Value, Z.size = 4 → Has (wo.alloc (.cells Z 69)) wo.heap.size 69 ([.int .i64 kd, .int .i64 nn, .slice Bt mt dt, .slice Al ml cl] : List Value).length) := Lib.hid (fun Z hZ => has_new wo _ _ _ hZ)
      clear hvr hro hbt hbl hbt1 hbl1 hkd hnn htb hlb hoc htx hls
      have finT : ∀ (D : World), Below w1.heap.size w1 D → Below w.heap.size w D := fun D hD => B1.out.trans (hD.mono B1.out.size)
      have FT := Lib.hid finT
      clear finT
      by_cases h100 : 100 < mt
      · have h100' : (100 : Int) < mt := by omega
        gi_wp2_with (first | (refine wpListIn_load_g wideF rfl 69 (.tmp 30) rfl b (off + i * 4) rfl [.int .i64 kd, .int .i64 nn, .slice Bt mt dt, .slice Al ml cl] _ HR.out Tryd.underlying69 rfl Tryd.size69 ?_) | (refine wpListIn_store_row wideF rfl 69 (.tmp 6) (.tmp 31) rfl wo.heap.size rfl [.int .i64 kd, .int .i64 nn, .slice Bt mt dt, .slice Al ml cl] rfl 69 (HH.out _ rfl) Tryd.size69 (by simp [Value.oneCell']) ?_; intro w2 hp2; have L2 : Below wo.heap.size wo w2 := hp2.below ((Below.refl _ _).alloc (Nat.le_refl _) _) (Nat.le_refl _); have hO := hp2.blk; have P2 := Lib.hid (P.out.below L2); have BT2 := Lib.hid (BT.out.below L2); have BL2 := Lib.hid (BL.out.below L2); have cO0 := blk_cell hO 0 _ rfl; have cO1 := blk_cell hO 1 _ rfl; have cO2 := blk_cell hO 2 _ rfl; have cO3 := blk_cell hO 3 _ rfl; have HO := Lib.hid hO; have hOb : w1.heap.size ≤ wo.heap.size := P.out.le; clear hp2 L2 hO))
        exact leaves_marks (fun W => results_tmp rfl _ _ _) (fun W h => ⟨rfl, FT.out _ h⟩) ds _ MK.out (fun k hk => P2.out.mks k hk) P2.out.low
      have h100' : ¬ (100 : Int) < mt := by omega
      by_cases hl30 : 30 < ml
      · have hl30' : (30 : Int) < ml := by omega
        gi_wp2_with (first | (refine wpListIn_load_g wideF rfl 69 (.tmp 30) rfl b (off + i * 4) rfl [.int .i64 kd, .int .i64 nn, .slice Bt mt dt, .slice Al ml cl] _ HR.out Tryd.underlying69 rfl Tryd.size69 ?_) | (refine wpListIn_store_row wideF rfl 69 (.tmp 6) (.tmp 31) rfl wo.heap.size rfl [.int .i64 kd, .int .i64 nn, .slice Bt mt dt, .slice Al ml cl] rfl 69 (HH.out _ rfl) Tryd.size69 (by simp [Value.oneCell']) ?_; intro w2 hp2; have L2 : Below wo.heap.size wo w2 := hp2.below ((Below.refl _ _).alloc (Nat.le_refl _) _) (Nat.le_refl _); have hO := hp2.blk; have P2 := Lib.hid (P.out.below L2); have BT2 := Lib.hid (BT.out.below L2); have BL2 := Lib.hid (BL.out.below L2); have cO0 := blk_cell hO 0 _ rfl; have cO1 := blk_cell hO 1 _ rfl; have cO2 := blk_cell hO 2 _ rfl; have cO3 := blk_cell hO 3 _ rfl; have HO := Lib.hid hO; have hOb : w1.heap.size ≤ wo.heap.size := P.out.le; clear hp2 L2 hO))
        exact leaves_marks (fun W => results_tmp rfl _ _ _) (fun W h => ⟨rfl, FT.out _ h⟩) ds _ MK.out (fun k hk => P2.out.mks k hk) P2.out.low
      have hl30' : ¬ (30 : Int) < ml := by omega
      gi_wp2_with (first | (refine wpListIn_load_g wideF rfl 69 (.tmp 30) rfl b (off + i * 4) rfl [.int .i64 kd, .int .i64 nn, .slice Bt mt dt, .slice Al ml cl] _ HR.out Tryd.underlying69 rfl Tryd.size69 ?_) | (refine wpListIn_store_row wideF rfl 69 (.tmp 6) (.tmp 31) rfl wo.heap.size rfl [.int .i64 kd, .int .i64 nn, .slice Bt mt dt, .slice Al ml cl] rfl 69 (HH.out _ rfl) Tryd.size69 (by simp [Value.oneCell']) ?_; intro w2 hp2; have L2 : Below wo.heap.size wo w2 := hp2.below ((Below.refl _ _).alloc (Nat.le_refl _) _) (Nat.le_refl _); have hO := hp2.blk; have P2 := Lib.hid (P.out.below L2); have BT2 := Lib.hid (BT.out.below L2); have BL2 := Lib.hid (BL.out.below L2); have cO0 := blk_cell hO 0 _ rfl; have cO1 := blk_cell hO 1 _ rfl; have cO2 := blk_cell hO 2 _ rfl; have cO3 := blk_cell hO 3 _ rfl; have HO := Lib.hid hO; have hOb : w1.heap.size ≤ wo.heap.size := P.out.le; clear hp2 L2 hO))
      gi_loopw [45] (fun x wr => ∃ (j : Nat), j ≤ ml ∧ x = .int .i64 j ∧ w2 = wr)
        (fun x _ => ml - (intOf x).toNat)
      case atStart => exact ⟨0, Nat.zero_le _, rfl, by first | trivial | rfl⟩
      case round =>
        obtain ⟨j, hj, rfl, rfl⟩ := hrel
        by_cases hjl : j < ml
        · have hjl' : (j : Int) < ml := by omega
          obtain ⟨be, oe, Be, me, de, rfl, rae, eae⟩ := BL2.out.el j hjl
          clear eae
          by_cases he : 100 < me
          · have he' : (100 : Int) < me := by omega
            gi_wp2_with fail
            exact leaves_marks (fun W => results_tmp rfl _ _ _) (fun W h => ⟨rfl, FT.out _ h⟩) ds _ MK.out (fun k hk => P2.out.mks k hk) P2.out.low
          · have he' : ¬ (100 : Int) < me := by omega
            gi_wp2_with fail
            go_roundw
            case rel => exact ⟨j + 1, by omega, by go_num, by first | trivial | rfl⟩
            case measure => simp [intOf]; omega
        · obtain rfl : j = ml := by omega
          gi_upto_region 18 with fail
          gi_cut [54] from 174 (fun s54 wx => s54 = .int .i64 kd ∧ w2 = wx)
          case first => gi_wp2_with fail; gi_meet; exact ⟨rfl, by first | trivial | rfl⟩
          case rest =>
            obtain ⟨rfl, rfl⟩ := hcut
            gi_step
            gi_cut [9] from 55 (fun s9 wx => s9 = .bool true ∧ PlI (inM ds) w1 wo.heap.size #[.int .i64 kd, .int .i64 nn, .slice Bt mt dt, .slice Al j cl] wx)
            case first =>
              by_cases k1 : kd = 1
              · subst k1
                have HMT := Lib.hid BT2.out.len
                gi_wp2_with (refine ⟨trivial, ?_⟩; gi_at_call 43; refine (callsIn_wide.2 (bytes_any tb Bt mt dt w2 BT2.out HMT.out (by omega))).mono ?_; rintro _ wb ⟨g, off, c', rfl, hc1, hc2, own3, bel3⟩; have O3 := Lib.hid own3; have L3 := Lib.hid bel3; have HC := Lib.hid (And.intro hc1 hc2); clear own3 bel3 hc1 hc2)
                have P3 := Lib.hid (P2.out.below L3.out)
                have C3 := Lib.hid (blk_below HO.out L3.out)
                have hob : w1.heap.size ≤ w2.heap.size := Nat.le_trans P2.out.le (Nat.le_refl _)
                have I3 : Hid (OwnO wb w1.heap.size 5 (.slice (some ⟨g, off, none⟩) mt c') (u8s tb)) := Lib.hid (by
                  have h1 := O3.out.mono hob
                  have h2 := h1.take (k := mt) (by rw [u8s_len', HMT.out]; simp)
                  rwa [show (u8s (tb ++ six)).take mt = u8s tb by rw [HMT.out]; simp [u8s]] at h2)
                refine wpIn_region_rely4 wideF ?hq (by kernel_rfl) (by kernel_rfl) 8 (by kernel_rfl) (by kernel_rfl) (But (PoolS w1.heap.size v)) Ext 2 (But.refl _) Ext.refl Ext.trans But.trans (fun ix => match ix with
                  | 0 => fun _ x => x = .pointer (some ⟨w1.heap.size, 0, none⟩)
                  | 1 => fun _ x => x = .slice (some ⟨g, off, none⟩) mt c'
                  | 2 => fun W x => x = addV ts tb aF aT aU ∧ ∃ v', PoolAt w1.heap.size w1.heap.size v' (addT ts tb) W ∧ (∀ k, v'.ownBlock = some k → v.ownBlock = some k ∨ wb.heap.size ≤ k)
                  | 3 => fun _ x => x = .int .i64 (addN ts tb)
                  | 4 => fun _ x => x = .pointer (some ⟨w1.heap.size + 1, 0, none⟩)
                  | 5 => fun _ x => x = .pointer (some ⟨wo.heap.size, 2, none⟩)
                  | 6 => fun _ x => x = .slice Bt mt dt
                  | 7 => fun _ x => x = .string (strOfNums tb)
                  | _ => fun _ _ => False) ?_
                case hq => (rintro ⟨_, _, h⟩; exact nomatch h.1)
                simp (maxSteps := 10000000) only [Rely4, List.take_succ_cons, List.take_zero, List.drop_succ_cons, List.drop_zero, Nat.reduceAdd, Nat.zero_add, Act.put, List.setIfInBounds_toArray, List.set_cons_succ, List.set_cons_zero]
                have hN : ∀ (k : Nat) (cs : Array Value) (t : TypeId) (fr : Nat × Nat), wb.heap[k]? = some (.cells cs t fr) → t ≠ 9 → t ≠ 109 → ¬ PoolS w1.heap.size v k := fun k cs t fr hk h9 h109 => P3.out.pool.notS hk h9 h109
                have HN := Lib.hid hN
                have hLo : ∀ W, But (PoolS w1.heap.size v) wb.drew W → Below w1.heap.size w1 W := fun W hE => P3.out.low.trans ((show But (PoolS w1.heap.size v) wb W from ⟨hE.os, hE.tape, hE.output, hE.size, hE.same⟩).low P3.out.le P3.out.pool.low)
                have HLO := Lib.hid hLo
                have HBO := Lib.hid (fun W (hE : But (PoolS w1.heap.size v) wb.drew W) => (show But (PoolS w1.heap.size v) wb W from ⟨hE.os, hE.tape, hE.output, hE.size, hE.same⟩))
                have NO := Lib.hid (HN.out _ _ _ _ C3.out (by decide) (by decide))
                clear hN hLo
                refine ⟨?_, ?_, ?_, ?_, ?_, ?_, ?_, ?_, ?_⟩
                · refine step_other4 rfl (by decide) fun vs wq hE hd => ?_
                  exact gives_move _ (.pointer (some ⟨w1.heap.size, 0, none⟩)) (.inl rfl) rfl ⟨⟨But.refl _ _, Ext.refl _⟩, fun _ _ => rfl⟩
                · refine step_other4 rfl (by decide) fun vs wq hE hd => ?_
                  exact gives_move _ (.slice (some ⟨g, off, none⟩) mt c') (.inl rfl) rfl ⟨⟨But.refl _ _, Ext.refl _⟩, fun _ _ => rfl⟩
                · refine step_mu4 rfl fun vs wq hE hZ hd => ?_
                  have hbz := ext_of_drew hZ
                  have pq := P3.out.below hbz
                  have iq := I3.out.below hbz
                  have sq := S1.out.below pq.low
                  refine gives_call 26 (enters_of Tryd.func26 (by kernel_rfl) rfl) _ _ rfl rfl [.pointer (some ⟨w1.heap.size, 0, none⟩), .slice (some ⟨g, off, none⟩) mt c'] ?_ ?_
                  · show [vs 0, vs 1] = _
                    rw [hd.1, hd.2.1]
                  · refine (add_any w1.heap.size w1.heap.size v ts tb (some ⟨g, off, none⟩) mt c' aF aT aU wq pq.pool (Bs.of_own iq BT2.out.ok) (BsF.bs_but (BsF.of_own iq BT2.out.ok) pq.pool) (sq.pool HF.out HT.out HU.out) G.out.1).mono ?_
                    rintro _ w'' ⟨rfl, v', hp', hb', hv'⟩
                    refine ⟨_, rfl, hb', fun W2 h2 => ⟨rfl, v', hp'.below h2, fun k hk => ?_⟩⟩
                    rcases hv' with h | ⟨b2, h, hle⟩
                    · exact .inl (by rw [← h]; exact hk)
                    · rw [h] at hk
                      cases hk
                      exact .inr (Nat.le_trans hbz.size hle)
                · refine step_other4 rfl (by decide) fun vs wq hE hd => ?_
                  refine gives_call 38 (enters_of Tryd.func38 (by kernel_rfl) rfl) _ _ rfl rfl [addV ts tb aF aT aU] ?_ ?_
                  · show [vs 2] = _
                    rw [hd.1.1]
                  · refine (numAdd ts tb al aF aT aU wq (S1.out.below (HLO.out _ hE)) HF.out HT.out HU.out).mono ?_
                    rintro _ w'' ⟨rfl, hb'⟩
                    exact ⟨_, rfl, ⟨But.of_below hb', hb'⟩, fun _ _ => rfl⟩
                · refine step_other4 rfl (by decide) fun vs wq hE hd => ?_
                  exact gives_move _ (.pointer (some ⟨w1.heap.size + 1, 0, none⟩)) (.inl rfl) rfl ⟨⟨But.refl _ _, Ext.refl _⟩, fun _ _ => rfl⟩
                · refine step_other4 rfl (by decide) fun vs wq hE hd => ?_
                  exact gives_fieldAddr' 69 _ 2 rfl (.pointer (some ⟨wo.heap.size, 0, none⟩)) (.pointer (some ⟨wo.heap.size, 2, none⟩)) rfl (by go_simp) ⟨⟨But.refl _ _, Ext.refl _⟩, fun _ _ => rfl⟩
                · refine step_other4 rfl (by decide) fun vs wq hE hd => ?_
                  have hc := blk_cell ((HBO.out _ hE).blk C3.out NO.out) 2 _ rfl
                  exact gives_loadAt 44 _ rfl (.pointer (some ⟨wo.heap.size, 2, none⟩)) (.slice Bt mt dt) (show vs 5 = _ from hd.1) (by go_simp) ⟨⟨But.refl _ _, Ext.refl _⟩, fun _ _ => rfl⟩
                · refine step_other4 rfl (by decide) fun vs wq hE hd => ?_
                  exact gives_convert 44 9 _ rfl (.slice Bt mt dt) _ (show vs 6 = _ from hd.1) (conv_bs (BT1.out.below (HLO.out _ hE)) _ (Ext.refl _)) ⟨⟨But.refl _ _, Ext.refl _⟩, fun _ _ => rfl⟩
                · intro vs wz hE hR
                  obtain ⟨_, v', hp', hv'⟩ := hR 2 (by omega)
                  have h3 : vs 3 = .int .i64 (addN ts tb) := hR 3 (by omega)
                  have h4 : vs 4 = .pointer (some ⟨w1.heap.size + 1, 0, none⟩) := hR 4 (by omega)
                  have h7 : vs 7 = .string (strOfNums tb) := hR 7 (by omega)
                  have hB := HBO.out _ hE
                  have PZ := Lib.hid (P3.out.putPool hp' hB hv')
                  have CZ := Lib.hid (hB.blk C3.out NO.out)
                  have WZ : Hid (Wr5 w1.heap.size wz (.slice (some ⟨g, off, none⟩) mt c') mt) := Lib.hid (by
                    have := Wr5.of_own I3.out
                    rw [← HMT.out] at this
                    exact this.same fun k cs fr _ hk => hB.same k (blk_lt hk) (HN.out k cs 5 fr hk (by decide) (by decide)))
                  obtain ⟨aN, haN⟩ : ∃ x, x = addN ts tb := ⟨_, rfl⟩
                  have HAN := Lib.hid haN
                  rw [h3, h4, h7, ← haN]
                  clear hR hE hp' hv' hB h3 h4 h7 haN HBO HLO HN NO I3 O3
                  go_wp2_with fail
                  refine (refAdd_any w1.heap.size (w1.heap.size + 1) u ts tb wz PZ.out.ref (by have := G.out.1; omega) PZ.out.le).mono ?_
                  rintro _ w4 ⟨rfl, u', hu', bu', pu'⟩
                  rw [← HAN.out]
                  have P4 := Lib.hid (PZ.out.putRef hu' bu' (fun k hk => by
                    rcases pu' with h | ⟨b2, h, hle⟩
                    · exact .inl (by rw [← h]; exact hk)
                    · rw [h] at hk
                      cases hk
                      exact .inr hle))
                  have C4 := Lib.hid (bu'.blk CZ.out (PZ.out.no CZ.out (by decide) (by decide) (by decide)).2)
                  have W4 := Lib.hid (WZ.out.same fun k cs fr _ hk => bu'.same k (blk_lt hk) (PZ.out.no hk (by decide) (by decide) (by decide)).2)
                  clear hu' bu' pu' PZ CZ WZ HAN
                  go_wp2_with fail
                  gi_wp2_with fail
                  gi_loopw [72] (fun x wr => ∃ (r : Nat), r ≤ mt ∧ x = .int .i64 r ∧ Hid (PP (inM ds) w1.heap.size w1.heap.size (w1.heap.size + 1) v' u' (addT ts tb) (addT ts tb) w1 wr) ∧ Hid (wr.heap[wo.heap.size]? = some (.cells #[.int .i64 1, .int .i64 nn, .slice Bt mt dt, .slice Al j cl] 69 (0, 0))) ∧ Hid (Wr5 w1.heap.size wr (.slice (some ⟨g, off, none⟩) mt c') mt))
                    (fun x _ => mt - (intOf x).toNat)
                  case atStart => exact ⟨0, Nat.zero_le _, rfl, P4, C4, W4⟩
                  case round =>
                    clear P4 C4 W4
                    obtain ⟨r, hr, rfl, P5, C5, W5⟩ := hrel
                    by_cases hrl : r < mt
                    · have hrl' : (r : Int) < mt := by omega
                      obtain ⟨g', off', y, cs, fr, e, hb5, hg5, hc5, hf5⟩ := W5.out.at hrl
                      simp only [Option.some.injEq, Addr.mk.injEq] at e
                      obtain ⟨rfl, rfl, -⟩ := e
                      have hne : ¬ wo.heap.size = g := fun e => by
                        have h := C5.out
                        rw [e, hg5] at h
                        cases h
                      have HG5 := Lib.hid hg5
                      clear hg5
                      gi_wp2_with fail
                      go_roundw
                      case rel => exact ⟨r + 1, by omega, by go_num, Lib.hid (P5.out.set HG5.out (by decide) (by decide) (by decide) hb5), Lib.hid ((heap_setCell_other _ ⟨g, off + r, none⟩ _ _ hne).trans C5.out), Lib.hid (W5.out.set HG5.out 99)⟩
                      case measure => simp [intOf]; omega
                    · obtain rfl : r = mt := by omega
                      gi_wp2_with fail
                      gi_meet
                      exact ⟨by first | rfl | simp, ⟨⟨v', u', _, P5.out, G.out.add⟩, C5.out⟩⟩
              · by_cases k2 : kd = 2
                · subst k2
                  clear k1
                  have HB1 := Lib.hid (show w1.heap.size ≤ w2.heap.size from P2.out.le)
                  gi_wp2_with fail
                  refine ⟨trivial, ?_⟩
                  gi_at_call 27
                  refine (callsIn_wide.2 (takeB_any w1.heap.size w1.heap.size v ts nn lb Al j cl w2 P2.out.pool BL2.out (by have := G.out.1; omega) (by omega) (fun s hs => by have := (G.out.2.1 s hs).2; omega))).mono ?_
                  rintro _ w3 ⟨lv, ys, rfl, ro3, hm3, fb3, bel3⟩
                  obtain ⟨A3, c3, rfl⟩ := own_form ro3
                  have LS := Lib.hid (Lst.of_take HB1.out ro3 fun y hy => (fb3 y hy).1)
                  have hTk : TkI (inM ds) w1 v u ts wo.heap.size #[.int .i64 2, .int .i64 nn, .slice Bt mt dt, .slice Al j cl] (.slice A3 ys.length c3) ys w3 := by
                    refine ⟨P2.out.below bel3, blk_below HO.out bel3, own_le ro3 HB1.out, fun y hy => ?_⟩
                    obtain ⟨A, n, c, e⟩ := (fb3 y hy).1.2
                    refine ⟨A, n, c, e, ?_, by have h0 := (fb3 y hy).1.1; rw [e] at h0; exact h0.lenMax⟩
                    have h1 := (fb3 y hy).1.1.wr5 (B := w1.heap.size) (fun k hk => Nat.le_trans HB1.out ((fb3 y hy).2 k hk))
                    have h2 := (fb3 y hy).bs.form
                    rw [e] at h2
                    obtain ⟨_, _, e2⟩ := h2
                    simp only [Value.slice.injEq] at e2
                    rwa [← e2.2.1] at h1
                  have TK := Lib.hid hTk
                  have BL3 := Lib.hid (BL2.out.below bel3)
                  have hlen : ys.length ≤ 16 := by
                    have h1 := congrArg List.length hm3
                    rw [List.length_map] at h1
                    have h2 : (takeT ts nn (lb.map strOfNums)).length ≤ ts.length := by unfold takeT; rw [List.length_take]; have := List.length_filter_le (fun s => !inT (lb.map strOfNums) s) ts; omega
                    have := G.out.1
                    omega
                  obtain ⟨TT, hTT⟩ : ∃ x, x = takeT ts nn (lb.map strOfNums) := ⟨_, rfl⟩
                  have HTT := Lib.hid hTT
                  rw [← hTT] at hm3
                  obtain ⟨m, hm⟩ : ∃ x, x = ys.length := ⟨_, rfl⟩
                  have HM := Lib.hid hm
                  rw [← hm] at LS TK hlen ⊢
                  have H3 := Lib.hid hm3
                  have hOT : ((outL ys).map (·.2)).map strOfNums = TT := by
                    rw [← H3.out, Lst.texts]
                    simp [outL, str_sb]
                  have HOT := Lib.hid hOT
                  clear ro3 fb3 bel3 hTk hTT hm hm3 hOT
                  have c0 := blk_cell TK.out.bo 1 _ rfl
                  have c1 := blk_cell TK.out.bo 3 _ rfl
                  have C0 := Lib.hid c0
                  have C1 := Lib.hid c1
                  clear c0 c1
                  gi_wp2_with fail
                  refine wpIn_region_rely3 wideF ?hq (by kernel_rfl) (by kernel_rfl) 8 (by kernel_rfl) (by kernel_rfl) Ext Ext.refl Ext.trans (fun ix => match ix with
                    | 0 => fun _ x => x = .slice A3 m c3
                    | 1 => fun W x => ∃ A c, x = .slice A m c ∧ Txs W (.slice A m c) TT
                    | 2 => fun _ x => x = .pointer (some ⟨w1.heap.size + 1, 0, none⟩)
                    | 3 => fun _ x => x = .pointer (some ⟨wo.heap.size, 1, none⟩)
                    | 4 => fun _ x => x = .int .i64 nn
                    | 5 => fun _ x => x = .pointer (some ⟨wo.heap.size, 3, none⟩)
                    | 6 => fun _ x => x = .slice Al j cl
                    | 7 => fun W x => ∃ A c, x = .slice A j c ∧ Txs W (.slice A j c) (lb.map strOfNums)
                    | _ => fun _ _ => False) ?_
                  case hq => (rintro ⟨_, _, h⟩; exact nomatch h.1)
                  simp (maxSteps := 10000000) only [Rely, List.take_succ_cons, List.take_zero, List.drop_succ_cons, List.drop_zero, Nat.reduceAdd, Nat.zero_add, Act.put, List.setIfInBounds_toArray, List.set_cons_succ, List.set_cons_zero]
                  refine ⟨?_, ?_, ?_, ?_, ?_, ?_, ?_, ?_, ?_⟩
                  · refine step_plain rfl fun vs wq hE hd => ?_
                    exact gives_move _ (.slice A3 m c3) (.inl rfl) rfl ⟨Ext.refl _, fun _ _ => rfl⟩
                  · refine step_plain rfl fun vs wq hE hd => ?_
                    refine gives_call 46 (enters_of Tryd.func46 (by kernel_rfl) rfl) _ _ rfl rfl [.slice A3 m c3] ?_ ?_
                    · show [vs 0] = _
                      rw [hd.1]
                    · refine (texts_any ((outL ys).map (·.2)) A3 m c3 wq (LS.out.bss.below (ext_of_drew hE)) (by omega)).mono ?_
                      rintro _ w'' ⟨A, c, rfl, ro, hb⟩
                      refine ⟨_, rfl, hb, fun W2 h2 => ⟨A, c, rfl, ?_⟩⟩
                      rw [HOT.out] at ro
                      exact (Txs.of_own ro).below h2
                  · refine step_plain rfl fun vs wq hE hd => ?_
                    exact gives_move _ (.pointer (some ⟨w1.heap.size + 1, 0, none⟩)) (.inl rfl) rfl ⟨Ext.refl _, fun _ _ => rfl⟩
                  · refine step_plain rfl fun vs wq hE hd => ?_
                    exact gives_fieldAddr' 69 _ 1 rfl (.pointer (some ⟨wo.heap.size, 0, none⟩)) (.pointer (some ⟨wo.heap.size, 1, none⟩)) rfl (by go_simp) ⟨Ext.refl _, fun _ _ => rfl⟩
                  · refine step_plain rfl fun vs wq hE hd => ?_
                    have hc := cell_on (ext_of_drew hE) C0.out
                    exact gives_loadAt 3 _ rfl (.pointer (some ⟨wo.heap.size, 1, none⟩)) (.int .i64 nn) (show vs 3 = _ from hd.1) (by go_simp) ⟨Ext.refl _, fun _ _ => rfl⟩
                  · refine step_plain rfl fun vs wq hE hd => ?_
                    exact gives_fieldAddr' 69 _ 3 rfl (.pointer (some ⟨wo.heap.size, 0, none⟩)) (.pointer (some ⟨wo.heap.size, 3, none⟩)) rfl (by go_simp) ⟨Ext.refl _, fun _ _ => rfl⟩
                  · refine step_plain rfl fun vs wq hE hd => ?_
                    have hc := cell_on (ext_of_drew hE) C1.out
                    exact gives_loadAt 41 _ rfl (.pointer (some ⟨wo.heap.size, 3, none⟩)) (.slice Al j cl) (show vs 5 = _ from hd.1) (by go_simp) ⟨Ext.refl _, fun _ _ => rfl⟩
                  · refine step_plain rfl fun vs wq hE hd => ?_
                    refine gives_call 46 (enters_of Tryd.func46 (by kernel_rfl) rfl) _ _ rfl rfl [.slice Al j cl] ?_ ?_
                    · show [vs 6] = _
                      rw [hd.1]
                    · refine (texts_any lb Al j cl wq (BL3.out.below (ext_of_drew hE)) (by omega)).mono ?_
                      rintro _ w'' ⟨A, c, rfl, ro, hb⟩
                      exact ⟨_, rfl, hb, fun W2 h2 => ⟨A, c, rfl, (Txs.of_own ro).below h2⟩⟩
                  · intro vs wz hE hR
                    obtain ⟨At, ct, h1, tx1⟩ := hR 1 (by omega)
                    obtain ⟨Au, cu, h7, tx7⟩ := hR 7 (by omega)
                    have h2 : vs 2 = .pointer (some ⟨w1.heap.size + 1, 0, none⟩) := hR 2 (by omega)
                    have h4 : vs 4 = .int .i64 nn := hR 4 (by omega)
                    have hB := ext_of_drew hE
                    have TZ := Lib.hid (TK.out.below hB)
                    have T1 := Lib.hid tx1
                    have T7 := Lib.hid tx7
                    rw [h1, h2, h4, h7]
                    clear hR hE hB h1 h2 h4 h7 tx1 tx7 TK C0 C1 LS BL3
                    go_wp2_with fail
                    refine (refTake_any w1.heap.size (w1.heap.size + 1) u ts (lb.map strOfNums) nn Au j cu wz TZ.out.pp.ref T7.out (by have := G.out.1; omega) (by omega)).mono ?_
                    rintro _ w4 ⟨Ar, cr, rfl, txr, bel4⟩
                    rw [← HTT.out] at txr ⊢
                    have TR := Lib.hid txr
                    have T14 := Lib.hid (T1.out.below bel4)
                    have T4 := Lib.hid (TZ.out.below bel4)
                    obtain ⟨mr, hmr⟩ : ∃ x, x = TT.length := ⟨_, rfl⟩
                    rw [← hmr] at TR ⊢
                    clear txr bel4 TZ T1 T7 hmr
                    go_wp2_with fail
                    refine (sameTexts_any TT TT At Ar m mr ct cr w4 T14.out TR.out (by omega)).mono ?_
                    rintro _ w5 ⟨rfl, bel5⟩
                    rw [decide_eq_true (rfl : TT = TT)]
                    have T5 := Lib.hid (T4.out.below bel5)
                    clear bel5 T4 T14 TR
                    go_wp2_with fail
                    gi_wp2_with fail
                    gi_loopw [99] (fun x wr => ∃ (r : Nat), r ≤ m ∧ x = .int .i64 r ∧ Hid (TkI (inM ds) w1 v u ts wo.heap.size #[.int .i64 2, .int .i64 nn, .slice Bt mt dt, .slice Al j cl] (.slice A3 m c3) ys wr))
                      (fun x _ => m - (intOf x).toNat)
                    case atStart => exact ⟨0, Nat.zero_le _, rfl, T5⟩
                    case round =>
                      clear T5
                      obtain ⟨r, hr, rfl, T6⟩ := hrel
                      by_cases hrl : r < m
                      · have hrl' : (r : Int) < m := by omega
                        obtain ⟨b6, c6, A6, n6, d6, e6, hc6, hy6⟩ := T6.out.el r (by rw [← HM.out]; exact hrl)
                        simp only [Value.slice.injEq] at e6
                        obtain ⟨rfl, -, rfl⟩ := e6
                        have HY := Lib.hid hy6
                        have hn6 : n6 ≤ 9223372036854775807 := by
                          have := (T6.out.at hy6).2
                          unfold maxLen at this
                          exact this
                        clear hy6
                        obtain ⟨wx, hwx⟩ : ∃ x, x = wr := ⟨_, rfl⟩
                        subst hwx
                        gi_wp2_with fail
                        gi_loopw [105] (fun x wr => ∃ (q : Nat), q ≤ n6 ∧ x = .int .i64 q ∧ Hid (TkI (inM ds) w1 v u ts wo.heap.size #[.int .i64 2, .int .i64 nn, .slice Bt mt dt, .slice Al j cl] (.slice (some ⟨b6, 0, none⟩) m c3) ys wr))
                          (fun x _ => n6 - (intOf x).toNat)
                        case atStart => exact ⟨0, Nat.zero_le _, rfl, T6⟩
                        case round =>
                          clear T6 hc6
                          obtain ⟨q, hq, rfl, T7⟩ := hrel
                          by_cases hql : q < n6
                          · have hql' : (q : Int) < n6 := by omega
                            obtain ⟨g', off', y, cs, fr, rfl, hb7, hg7, hc7, hf7⟩ := (T7.out.at HY.out).1.at hql
                            have HG7 := Lib.hid hg7
                            clear hg7
                            gi_wp2_with fail
                            go_roundw
                            case rel => exact ⟨q + 1, by omega, by go_num, Lib.hid (T7.out.set HG7.out hb7 _)⟩
                            case measure => simp [intOf]; omega
                          · obtain rfl : q = n6 := by omega
                            gi_wp2_with fail
                            go_roundw
                            case rel => exact ⟨r + 1, by omega, by go_num, T7⟩
                            case measure => simp [intOf]; omega
                      · obtain rfl : r = m := by omega
                        gi_wp2_with fail
                        gi_meet
                        exact ⟨by first | rfl | simp, ⟨⟨v, u, ts, T6.out.pp, G.out⟩, T6.out.bo⟩⟩
                · by_cases k3 : kd = 3
                  · subst k3
                    clear k1 k2
                    have HN := Lib.hid (fun (k : Nat) (cs : Array Value) (t : TypeId) (fr : Nat × Nat) (hk : w2.heap[k]? = some (.cells cs t fr)) (h9 : t ≠ 9) (h109 : t ≠ 109) => P2.out.pool.notS hk h9 h109)
                    have HLO := Lib.hid (fun W (hE : But (PoolS w1.heap.size v) w2.drew W) => P2.out.low.trans ((but_drew hE).low P2.out.le P2.out.pool.low))
                    have NO := Lib.hid (HN.out _ _ _ _ HO.out (by decide) (by decide))
                    gi_wp2_with fail
                    refine wpIn_region_rely4 wideF ?hq (by kernel_rfl) (by kernel_rfl) 8 (by kernel_rfl) (by kernel_rfl) (But (PoolS w1.heap.size v)) Ext 3 (But.refl _) Ext.refl Ext.trans But.trans (fun ix => match ix with
                      | 0 => fun _ x => x = .pointer (some ⟨w1.heap.size, 0, none⟩)
                      | 1 => fun _ x => x = .pointer (some ⟨wo.heap.size, 3, none⟩)
                      | 2 => fun _ x => x = .slice Al j cl
                      | 3 => fun W x => x = .int .i64 ((ts.length : Int) - (dropT ts (lb.map strOfNums)).length) ∧ ∃ v', PoolAt w1.heap.size w1.heap.size v' (dropT ts (lb.map strOfNums)) W ∧ v'.ownBlock = v.ownBlock
                      | 4 => fun _ x => x = .pointer (some ⟨w1.heap.size + 1, 0, none⟩)
                      | 5 => fun _ x => x = .pointer (some ⟨wo.heap.size, 3, none⟩)
                      | 6 => fun _ x => x = .slice Al j cl
                      | 7 => fun W x => ∃ A c, x = .slice A j c ∧ Txs W (.slice A j c) (lb.map strOfNums)
                      | _ => fun _ _ => False) ?_
                    case hq => (rintro ⟨_, _, h⟩; exact nomatch h.1)
                    simp (maxSteps := 10000000) only [Rely4, List.take_succ_cons, List.take_zero, List.drop_succ_cons, List.drop_zero, Nat.reduceAdd, Nat.zero_add, Act.put, List.setIfInBounds_toArray, List.set_cons_succ, List.set_cons_zero]
                    refine ⟨?_, ?_, ?_, ?_, ?_, ?_, ?_, ?_, ?_⟩
                    · refine step_other4 rfl (by decide) fun vs wq hE hd => ?_
                      exact gives_move _ (.pointer (some ⟨w1.heap.size, 0, none⟩)) (.inl rfl) rfl ⟨⟨But.refl _ _, Ext.refl _⟩, fun _ _ => rfl⟩
                    · refine step_other4 rfl (by decide) fun vs wq hE hd => ?_
                      exact gives_fieldAddr' 69 _ 3 rfl (.pointer (some ⟨wo.heap.size, 0, none⟩)) (.pointer (some ⟨wo.heap.size, 3, none⟩)) rfl (by go_simp) ⟨⟨But.refl _ _, Ext.refl _⟩, fun _ _ => rfl⟩
                    · refine step_other4 rfl (by decide) fun vs wq hE hd => ?_
                      have hc := blk_cell ((but_drew hE).blk HO.out NO.out) 3 _ rfl
                      exact gives_loadAt 41 _ rfl (.pointer (some ⟨wo.heap.size, 3, none⟩)) (.slice Al j cl) (show vs 1 = _ from hd.1) (by go_simp) ⟨⟨But.refl _ _, Ext.refl _⟩, fun _ _ => rfl⟩
                    · refine step_mu4 rfl fun vs wq hE hZ hd => ?_
                      have hbz := ext_of_drew hZ
                      have pq := P2.out.below hbz
                      refine gives_call 29 (enters_of Tryd.func29 (by kernel_rfl) rfl) _ _ rfl rfl [.pointer (some ⟨w1.heap.size, 0, none⟩), .slice Al j cl] ?_ ?_
                      · show [vs 0, vs 2] = _
                        rw [hd.1, hd.2.1]
                      · refine (drop_any w1.heap.size w1.heap.size v ts lb Al j cl wq pq.pool (fun W hW => BL1.out.below (pq.low.trans (hW.low pq.le pq.pool.low))) (by have := G.out.1; omega) (by omega)).mono ?_
                        rintro _ w'' ⟨rfl, v', hp', hb', hv'⟩
                        exact ⟨_, rfl, hb', fun W2 h2 => ⟨rfl, v', hp'.below h2, hv'⟩⟩
                    · refine step_other4 rfl (by decide) fun vs wq hE hd => ?_
                      exact gives_move _ (.pointer (some ⟨w1.heap.size + 1, 0, none⟩)) (.inl rfl) rfl ⟨⟨But.refl _ _, Ext.refl _⟩, fun _ _ => rfl⟩
                    · refine step_other4 rfl (by decide) fun vs wq hE hd => ?_
                      exact gives_fieldAddr' 69 _ 3 rfl (.pointer (some ⟨wo.heap.size, 0, none⟩)) (.pointer (some ⟨wo.heap.size, 3, none⟩)) rfl (by go_simp) ⟨⟨But.refl _ _, Ext.refl _⟩, fun _ _ => rfl⟩
                    · refine step_other4 rfl (by decide) fun vs wq hE hd => ?_
                      have hc := blk_cell ((but_drew hE).blk HO.out NO.out) 3 _ rfl
                      exact gives_loadAt 41 _ rfl (.pointer (some ⟨wo.heap.size, 3, none⟩)) (.slice Al j cl) (show vs 5 = _ from hd.1) (by go_simp) ⟨⟨But.refl _ _, Ext.refl _⟩, fun _ _ => rfl⟩
                    · refine step_other4 rfl (by decide) fun vs wq hE hd => ?_
                      refine gives_call 46 (enters_of Tryd.func46 (by kernel_rfl) rfl) _ _ rfl rfl [.slice Al j cl] ?_ ?_
                      · show [vs 6] = _
                        rw [hd.1]
                      · refine (texts_any lb Al j cl wq (BL1.out.below (HLO.out _ hE)) (by omega)).mono ?_
                        rintro _ w'' ⟨A, c, rfl, ro, hb⟩
                        refine ⟨_, rfl, ⟨But.of_below hb, hb⟩, fun W2 h2 => ⟨A, c, rfl, ?_⟩⟩
                        exact Txs.of_own (own_same ro fun k hk => h2.same k (ro.lt k hk).2 fun hs => by
                          have h1 := (ro.lt k hk).1
                          have h3 : k < w2.heap.size := by
                            rcases hs with rfl | hs
                            · exact blk_lt P2.out.pool.blk
                            · exact (P2.out.pool.own.lt k hs).2
                          have h4 := (but_drew hE).size
                          omega)
                    · intro vs wz hE hR
                      obtain ⟨h3, v', hp', hv'⟩ := hR 3 (by omega)
                      have h4 : vs 4 = .pointer (some ⟨w1.heap.size + 1, 0, none⟩) := hR 4 (by omega)
                      obtain ⟨Au, cu, h7, tx7⟩ := hR 7 (by omega)
                      have hB := but_drew hE
                      have PZ := Lib.hid (P2.out.putPool hp' hB (fun k hk => .inl (by rw [← hv']; exact hk)))
                      have CZ := Lib.hid (hB.blk HO.out NO.out)
                      have T7 := Lib.hid tx7
                      obtain ⟨dn, hdn⟩ : ∃ x, x = (ts.length : Int) - (dropT ts (lb.map strOfNums)).length := ⟨_, rfl⟩
                      have HDN := Lib.hid hdn
                      rw [h3, h4, h7, ← hdn]
                      clear hR hE hp' hv' hB h3 h4 h7 hdn tx7 HLO HN NO
                      go_wp2_with fail
                      refine (refDrop_any w1.heap.size (w1.heap.size + 1) u ts (lb.map strOfNums) Au j cu wz PZ.out.ref T7.out (by have := G.out.1; omega) (by omega) PZ.out.le).mono ?_
                      rintro _ w4 ⟨rfl, u', hu', bu', pu'⟩
                      rw [← HDN.out]
                      have P4 := Lib.hid (PZ.out.putRef hu' bu' (fun k hk => .inr (pu' k hk)))
                      have C4 := Lib.hid (bu'.blk CZ.out (PZ.out.no CZ.out (by decide) (by decide) (by decide)).2)
                      clear hu' bu' pu' PZ CZ HDN T7
                      go_wp2_with fail
                      gi_wp2_with fail
                      gi_meet
                      exact ⟨by first | rfl | simp, ⟨⟨v', u', _, P4.out, G.out.drop⟩, C4.out⟩⟩
                  · have hb1 : (kd == 1) = false := by simp [k1]
                    have hb2 : (kd == 2) = false := by simp [k2]
                    have hb3 : (kd == 3) = false := by simp [k3]
                    gi_wp2_with fail
                    gi_meet
                    exact ⟨rfl, ⟨⟨v, u, ts, P2.out, G.out⟩, HO.out⟩⟩
            case rest =>
              obtain ⟨rfl, hI⟩ := hcut
              obtain ⟨⟨v5, u5, ts5, p5, g5⟩, c5⟩ := hI
              have P5 := Lib.hid p5
              have G5 := Lib.hid g5
              have C5 := Lib.hid c5
              clear p5 g5 c5 P2 BT2 BL2 HO cO0 cO1 cO2 cO3 P G HR HH BT BL
              gi_wp2_with (refine ⟨trivial, ?_⟩; gi_at_call 28; refine (callsIn_wide.2 (all_any w1.heap.size _)).mono ?_; rintro _ wa ⟨rfl, rfl⟩)
              obtain ⟨i9, hi9, hz90, hz91, hz92⟩ := info_parts Tryd.info9
              obtain ⟨wa, hwa⟩ : ∃ x, x = wc.alloc (.cells #[] 9) := ⟨_, rfl⟩
              obtain ⟨wb, hwb⟩ : ∃ x, x = wa.alloc (.cells #[.slice (some ⟨wc.heap.size, 0, none⟩) 0 0] 65) := ⟨_, rfl⟩
              obtain ⟨wd, hwd⟩ : ∃ x, x = wb.alloc (.cells #[.pointer (some ⟨w1.heap.size, 0, none⟩)] 42) := ⟨_, rfl⟩
              have za : wa.heap.size = wc.heap.size + 1 := by rw [hwa]; simp
              have zb : wb.heap.size = wc.heap.size + 2 := by rw [hwb]; simp [za]
              have zd : wd.heap.size = wc.heap.size + 3 := by rw [hwd]; simp [zb]
              have ba : Below wc.heap.size wc wa := by rw [hwa]; exact (Below.refl _ _).alloc (Nat.le_refl _) _
              have bb : Below wa.heap.size wa wb := by rw [hwb]; exact (Below.refl _ _).alloc (Nat.le_refl _) _
              have bd : Below wb.heap.size wb wd := by rw [hwd]; exact (Below.refl _ _).alloc (Nat.le_refl _) _
              have hbD : Below wc.heap.size wc wd := ba.trans ((bb.mono (by omega)).trans (bd.mono (by omega)))
              have xb : Boxed wb (wc.heap.size + 1) 65 (.slice (some ⟨wc.heap.size, 0, none⟩) 0 0) := by have := Boxed.new wa 65 (.slice (some ⟨wc.heap.size, 0, none⟩) 0 0); rwa [za, ← hwb] at this
              have xd : Boxed wd (wc.heap.size + 1 + 1) 42 (.pointer (some ⟨w1.heap.size, 0, none⟩)) := by have := Boxed.new wb 42 (.pointer (some ⟨w1.heap.size, 0, none⟩)); rwa [zb, ← hwd] at this
              have xbd : Boxed wd (wc.heap.size + 1) 65 (.slice (some ⟨wc.heap.size, 0, none⟩) 0 0) := blk_below xb bd
              have hoa : wa.ownsRow wc.heap.size 9 1 (.slice (some ⟨wc.heap.size, 0, none⟩) 0 0) 0 [] := by rw [hwa]; exact own_empty wc #[] rfl (Nat.le_refl _)
              have hod : wd.ownsRow wc.heap.size 9 1 (.slice (some ⟨wc.heap.size, 0, none⟩) 0 0) 0 [] := (hoa.kept (row := none) ⟨bb.os, bb.tape, bb.output, bb.size, fun k hk _ => bb.block k hk⟩ (by simp [Value.ownBlock])).kept (row := none) ⟨bd.os, bd.tape, bd.output, bd.size, fun k hk _ => bd.block k hk⟩ (by simp [Value.ownBlock])
              have hG0 : GaI wc (wc.heap.size + 1) [] wd := ⟨⟨_, xbd, hod⟩, hbD⟩
              have hP0 := P5.out.below hbD
              rw [← hwa, ← hwb, ← hwd]
              have G0 := Lib.hid hG0
              have PD := Lib.hid hP0
              have XD := Lib.hid xd.cell
              have RW := Lib.hid (show ∀ b, rowOf (wc.heap.size + 1) wd = some b → b < wd.heap.size from fun b hb => by
                rw [rowOf_boxed xbd] at hb
                have : wc.heap.size = b := by simpa [Value.ownBlock] using hb
                omega)
              clear hwa hwb hwd ba bb bd hbD xb xd xbd hoa hod hG0 hP0 za zb
              refine wpIn_rangeFuncFA (gf := 68) (lb := #[.pointer (some ⟨wc.heap.size + 1 + 1, 0, none⟩)]) rfl (enters_of Tryd.func68 (by kernel_rfl) rfl)
                (all_stopsR (wc.heap.size + 1) 4 (by omega) (wc.heap.size + 1 + 1) w1.heap.size w1.heap.size v5 ts5 wd XD.out PD.out.pool (by have := G5.out.1; omega) (fun s hs => by have := (G5.out.2.1 s hs).2; omega) (by omega) RW.out) factB_put kpr_t (fun W l o o' hw hl ho _ => kpr_b W l o o' (by omega) hl ho) (Below.refl _ _) (fun _ => rfl)
                (fun pre W => GaI wc (wc.heap.size + 1) (pre.map (·.2)) W)
                (fun _ _ _ => False)
                (GaI.own (fun pre : List (Value × ByteArray) => pre.map (·.2)) (by omega))
                (fun _ _ _ _ _ h _ _ => h)
                G0.out
                (fun a x => { tmps := (a.tmps.setIfInBounds 131 x.1).setIfInBounds 17 x.1, defers := [] }) ?assign ?body ?done ?stop
              case stop =>
                rintro D c pre W _ _ h _
                exact h.elim
              case assign =>
                intro l x W K hK
                simp only [List.setIfInBounds_toArray, List.set_cons_succ, List.set_cons_zero] at hK
                gi_wp2
                exact hK
              case body =>
                rintro l pre ⟨xv, xs⟩ W hI hF hlt
                obtain ⟨ss, hss⟩ : ∃ x, x = pre.map (fun y => y.2) := ⟨_, rfl⟩
                have hI : GaI wc (wc.heap.size + 1) ss W := by rw [hss]; exact hI
                have hpl : ss.length ≤ 100 := by rw [hss, List.length_map]; have := G5.out.1; omega
                have HSS := Lib.hid hss
                obtain ⟨ln, hln⟩ : ∃ x, x = ss.length := ⟨_, rfl⟩
                obtain ⟨⟨vo, hvo, hrow⟩, hbel⟩ := hI
                rw [← hln] at hrow hpl
                have HLN := Lib.hid hln
                clear hss hln
                obtain ⟨Ao, co, rfl⟩ := own_form hrow
                obtain ⟨Ax, nx, cx, hxv⟩ := hF.2
                dsimp only at hxv
                subst hxv
                have HBS := Lib.hid hF.bs
                have cn := hvo.cell
                have fo := hvo.frozen
                have HV := Lib.hid hvo
                have HR := Lib.hid hrow
                have HB := Lib.hid hbel
                have hsz1 : wc.heap.size ≤ W.heap.size := hbel.size
                clear hF hvo hrow hbel
                simp only [List.setIfInBounds_toArray, List.set_cons_succ, List.set_cons_zero]
                gi_wp2_with (first | (refine wpListIn_conv_str (roundF l) rfl (.tmp 133) rfl (.slice Ax nx cx) (sb xs) rfl HBS.out ?_; rw [str_sb]) | (gi_at_builtin; refine wpListIn_append_own_at _ rfl _ _ 65 rfl wc.heap.size 9 i9 (.string ByteArray.empty) 1 16 Tryd.underlying65 hi9 hz90 hz91 hz92 rfl (by decide) _ _ _ rfl (HR.out.alloc _) ⟨W.heap.size, 0, none⟩ 1 1 [.string xs] rfl rfl (cell_one_new _ _ _) (by simp [Value.oneCell']) (by simp only [maxLen]; omega) (by omega) (by simp; omega) ?_; intro v9 w9 hown9 hgrow9 _ hat9; obtain ⟨g9, cap9, rfl⟩ := ownsRow_succ hown9; obtain ⟨hv1, hv2, hr2, hk2, hb2⟩ := HV.out.appended (by decide) HR.out hsz1 (by omega) hown9 hgrow9; have hc1 := hv1.cell; have hf1 := hv1.frozen; have HGR := Lib.hid hgrow9; have HAT := Lib.hid hat9; clear hown9 hgrow9 hat9))
                have hbut : But (fun k => k = wc.heap.size + 1 ∨ (Value.slice Ao ln co).ownBlock = some k) W (w9.setCell ⟨wc.heap.size + 1, 0, none⟩ (.slice (some ⟨g9, 0, none⟩) (ln + 1) cap9)) := app_but HGR.out
                refine ⟨hk2.from _, ⟨fun k cs hk hn => hbut.blk hk fun h => ?_, fun b hb => ?_, hbut.size⟩, ⟨⟨_, hv2, ?_⟩, HB.out.trans hb2⟩⟩
                · rcases h with rfl | h
                  · have := HV.out
                    unfold Boxed at this
                    rw [hk] at this
                    cases this
                  · exact hn ((rowOf_boxed HV.out).trans h)
                · rw [rowOf_boxed hv2] at hb
                  rw [hb] at HAT
                  rcases HAT.out with h | h
                  · exact .inl ((rowOf_boxed HV.out).trans h.symm)
                  · right
                    have : b = W.heap.size + 1 := by simpa using h
                    omega
                · rw [List.map_append, ← HSS.out, List.length_append, ← HLN.out]
                  simpa [strs] using hr2
              case done =>
                rintro D xs W hD hS hI hK
                rw [hS] at hI
                obtain ⟨⟨vo, hvo, hrow⟩, hbel⟩ := hI
                obtain ⟨Ao, co, rfl⟩ := own_form hrow
                have pw := P5.out.below hbel
                obtain ⟨Au, cu, hu5⟩ := pw.ref.form
                have cu5 := pw.ref.cell
                have tu5 := Txs.of_own pw.ref.own
                rw [hu5] at cu5 tu5
                obtain ⟨nt, hnt⟩ : ∃ x, x = ts5.length := ⟨_, rfl⟩
                rw [← hnt] at hrow cu5 tu5 hvo
                have NT := Lib.hid hnt
                have hn16 : nt ≤ 16 := by rw [hnt]; exact G5.out.1
                have CA := Lib.hid hvo.cell
                have CU := Lib.hid cu5
                have TA := Lib.hid (Txs.of_own hrow)
                have TU := Lib.hid tu5
                have CO := Lib.hid (blk_below C5.out hbel)
                have C2 := Lib.hid (blk_cell CO.out 2 _ rfl)
                have BTW := Lib.hid (BT1.out.below pw.low)
                have hDb : w1.heap.size ≤ D := by have := PD.out.le; omega
                have hnD : ¬ inM ds D := fun h => by
                  have h1 := (P5.out.mks D h).2
                  have h2 := (Array.getElem?_eq_some_iff.1 h1).1
                  omega
                have MK2 := Lib.hid (MK.out.cons hnD)
                have PW : Hid (PP (inM ({ target := .collected D, args := #[] } :: ds)) w1.heap.size w1.heap.size (w1.heap.size + 1) v5 u5 ts5 ts5 w1 W) := Lib.hid ((pw.mark hK hDb).monoM fun k hk => inM_cons hk)
                clear hvo hrow hbel pw hu5 cu5 tu5 hnt hnD hDb hS hK hD G0 PD XD RW P5 C5
                gi_wp2_with fail
                refine wpIn_region_rely3 wideF ?hq (by kernel_rfl) (by kernel_rfl) 36 (by kernel_rfl) (by kernel_rfl) Ext Ext.refl Ext.trans (fun ix => match ix with
                  | 0 => fun _ v => v = .bool true
                  | 1 => fun _ v => v = .bool false
                  | 2 => fun _ v => v = .bool false
                  | 3 => fun _ v => v = .slice Ao nt co
                  | 4 => fun _ v => v = .pointer (some ⟨w1.heap.size + 1, 0, none⟩)
                  | 5 => fun _ v => v = .pointer (some ⟨w1.heap.size + 1, 0, none⟩)
                  | 6 => fun _ v => v = .pointer (some ⟨w1.heap.size + 1, 0, none⟩)
                  | 7 => fun _ v => v = .slice Au nt cu
                  | 8 => fun _ v => v = .bool true
                  | 9 => fun _ v => v = .bool false
                  | 10 => fun _ v => v = .bool false
                  | 11 => fun _ v => v = .bool false
                  | 12 => fun _ v => v = .pointer (some ⟨w1.heap.size, 0, none⟩)
                  | 13 => fun _ v => v = .int .i64 nt
                  | 14 => fun _ v => v = .pointer (some ⟨w1.heap.size + 1, 0, none⟩)
                  | 15 => fun _ v => v = .pointer (some ⟨w1.heap.size + 1, 0, none⟩)
                  | 16 => fun _ v => v = .pointer (some ⟨w1.heap.size + 1, 0, none⟩)
                  | 17 => fun _ v => v = .slice Au nt cu
                  | 18 => fun _ v => v = .int .i64 nt
                  | 19 => fun _ v => v = .bool false
                  | 20 => fun _ v => v = .bool false
                  | 21 => fun _ v => v = .bool false
                  | 22 => fun _ v => v = .pointer (some ⟨w1.heap.size, 0, none⟩)
                  | 23 => fun _ v => v = .pointer (some ⟨wo.heap.size, 2, none⟩)
                  | 24 => fun _ v => v = .slice Bt mt dt
                  | 25 => fun _ v => v = .bool (inT ts5 (strOfNums tb))
                  | 26 => fun _ v => v = .pointer (some ⟨w1.heap.size + 1, 0, none⟩)
                  | 27 => fun _ v => v = .pointer (some ⟨w1.heap.size + 1, 0, none⟩)
                  | 28 => fun _ v => v = .pointer (some ⟨w1.heap.size + 1, 0, none⟩)
                  | 29 => fun _ v => v = .slice Au nt cu
                  | 30 => fun _ v => v = .pointer (some ⟨wo.heap.size, 2, none⟩)
                  | 31 => fun _ v => v = .slice Bt mt dt
                  | 32 => fun _ v => v = .string (strOfNums tb)
                  | 33 => fun _ v => v = .bool (inT ts5 (strOfNums tb))
                  | 34 => fun _ v => v = .bool false
                  | 35 => fun _ v => v = .bool false
                  | _ => fun _ _ => False) ?_
                case hq => (rintro ⟨_, _, h⟩; exact nomatch h.1)
                simp (maxSteps := 10000000) only [Rely, List.take_succ_cons, List.take_zero, List.drop_succ_cons, List.drop_zero, Nat.reduceAdd, Nat.zero_add, Act.put, List.setIfInBounds_toArray, List.set_cons_succ, List.set_cons_zero]
                refine ⟨?_, ?_, ?_, ?_, ?_, ?_, ?_, ?_, ?_, ?_, ?_, ?_, ?_, ?_, ?_, ?_, ?_, ?_, ?_, ?_, ?_, ?_, ?_, ?_, ?_, ?_, ?_, ?_, ?_, ?_, ?_, ?_, ?_, ?_, ?_, ?_, ?_⟩
                · refine step_plain rfl fun vs wq hE hd => ?_
                  exact gives_move _ (.bool true) (.inl rfl) rfl ⟨Ext.refl _, fun _ _ => rfl⟩
                · refine step_plain rfl fun vs wq hE hd => ?_
                  exact gives_unOp .not 4 _ rfl (.bool true) (.bool false) (show vs 0 = _ from (hd.1)) (by go_simp) ⟨Ext.refl _, fun _ _ => rfl⟩
                · refine step_plain rfl fun vs wq hE hd => ?_
                  exact gives_move _ (.bool false) (.inl rfl) (show vs 1 = _ from hd.1) ⟨Ext.refl _, fun _ _ => rfl⟩
                · refine step_guard 2 false 139 rfl rfl (fun _ => rfl) fun vs wq hE hd => ⟨hd.1, ?_⟩
                  have hc := cell_on (ext_of_drew hE) CA.out
                  exact gives_loadAt 65 _ rfl (.pointer (some ⟨wc.heap.size + 1, 0, none⟩)) (.slice Ao nt co) rfl (by go_simp) ⟨Ext.refl _, fun _ _ => rfl⟩
                · refine step_guard 2 false 139 rfl rfl (fun _ => rfl) fun vs wq hE hd => ⟨hd.1, ?_⟩
                  exact gives_move _ (.pointer (some ⟨w1.heap.size + 1, 0, none⟩)) (.inl rfl) rfl ⟨Ext.refl _, fun _ _ => rfl⟩
                · refine step_guard 2 false 139 rfl rfl (fun _ => rfl) fun vs wq hE hd => ⟨hd.2.1, ?_⟩
                  exact gives_nilCheck _ rfl ⟨w1.heap.size + 1, 0, none⟩ (show vs 4 = _ from (hd.1)) ⟨Ext.refl _, fun _ _ => rfl⟩
                · refine step_guard 2 false 139 rfl rfl (fun _ => rfl) fun vs wq hE hd => ⟨hd.2.1, ?_⟩
                  exact gives_fieldAddr' 67 _ 0 rfl (.pointer (some ⟨w1.heap.size + 1, 0, none⟩)) (.pointer (some ⟨w1.heap.size + 1, 0, none⟩)) (show vs 5 = _ from (hd.1)) (by go_simp) ⟨Ext.refl _, fun _ _ => rfl⟩
                · refine step_guard 2 false 139 rfl rfl (fun _ => rfl) fun vs wq hE hd => ⟨hd.2.1, ?_⟩
                  have hc := cell_on (ext_of_drew hE) CU.out
                  exact gives_loadAt 65 _ rfl (.pointer (some ⟨w1.heap.size + 1, 0, none⟩)) (.slice Au nt cu) (show vs 6 = _ from hd.1) (by go_simp) ⟨Ext.refl _, fun _ _ => rfl⟩
                · refine step_guard 2 false 139 rfl rfl (fun _ => rfl) fun vs wq hE hd => ⟨hd.2.2.1, ?_⟩
                  refine gives_call 45 (enters_of Tryd.func45 (by kernel_rfl) rfl) _ _ rfl rfl [.slice Ao nt co, .slice Au nt cu] ?_ ?_
                  · show [vs 3, vs 7] = _
                    rw [show vs 3 = _ from (hd.1), show vs 7 = _ from (hd.2.1)]
                  · refine (sameTexts_any ts5 ts5 Ao Au nt nt co cu wq (TA.out.below (ext_of_drew hE)) (TU.out.below (ext_of_drew hE)) (by omega)).mono ?_
                    rintro _ w'' ⟨rfl, hb⟩
                    exact ⟨_, rfl, hb, fun _ _ => by rw [decide_eq_true (rfl : ts5 = ts5)]; rfl⟩
                · refine step_guard 2 false 139 rfl rfl (fun _ => rfl) fun vs wq hE hd => ⟨hd.2.1, ?_⟩
                  exact gives_unOp .not 4 _ rfl (.bool true) (.bool false) (show vs 8 = _ from (hd.1)) (by go_simp) ⟨Ext.refl _, fun _ _ => rfl⟩
                · refine step_plain rfl fun vs wq hE hd => ?_
                  exact gives_pick _ _ _ (.bool false) false rfl (show vs 2 = _ from hd.1) (show vs 9 = _ from hd.2.1) ⟨Ext.refl _, fun _ _ => rfl⟩
                · refine step_plain rfl fun vs wq hE hd => ?_
                  exact gives_move _ (.bool false) (.inl rfl) (show vs 10 = _ from hd.1) ⟨Ext.refl _, fun _ _ => rfl⟩
                · refine step_guard 11 false 148 rfl rfl (fun _ => rfl) fun vs wq hE hd => ⟨hd.1, ?_⟩
                  exact gives_move _ (.pointer (some ⟨w1.heap.size, 0, none⟩)) (.inl rfl) rfl ⟨Ext.refl _, fun _ _ => rfl⟩
                · refine step_guard 11 false 148 rfl rfl (fun _ => rfl) fun vs wq hE hd => ⟨hd.2.1, ?_⟩
                  refine gives_call 31 (enters_of Tryd.func31 (by kernel_rfl) rfl) _ _ rfl rfl [.pointer (some ⟨w1.heap.size, 0, none⟩)] ?_ ?_
                  · show [vs 12] = _
                    rw [show vs 12 = _ from (hd.1)]
                  · refine (len_any w1.heap.size w1.heap.size v5 ts5 wq (PW.out.pool.below (ext_of_drew hE))).mono ?_
                    rintro _ w'' ⟨rfl, rfl⟩
                    exact ⟨_, rfl, Ext.refl _, fun _ _ => by rw [NT.out]; rfl⟩
                · refine step_guard 11 false 148 rfl rfl (fun _ => rfl) fun vs wq hE hd => ⟨hd.1, ?_⟩
                  exact gives_move _ (.pointer (some ⟨w1.heap.size + 1, 0, none⟩)) (.inl rfl) rfl ⟨Ext.refl _, fun _ _ => rfl⟩
                · refine step_guard 11 false 148 rfl rfl (fun _ => rfl) fun vs wq hE hd => ⟨hd.2.1, ?_⟩
                  exact gives_nilCheck _ rfl ⟨w1.heap.size + 1, 0, none⟩ (show vs 14 = _ from (hd.1)) ⟨Ext.refl _, fun _ _ => rfl⟩
                · refine step_guard 11 false 148 rfl rfl (fun _ => rfl) fun vs wq hE hd => ⟨hd.2.1, ?_⟩
                  exact gives_fieldAddr' 67 _ 0 rfl (.pointer (some ⟨w1.heap.size + 1, 0, none⟩)) (.pointer (some ⟨w1.heap.size + 1, 0, none⟩)) (show vs 15 = _ from (hd.1)) (by go_simp) ⟨Ext.refl _, fun _ _ => rfl⟩
                · refine step_guard 11 false 148 rfl rfl (fun _ => rfl) fun vs wq hE hd => ⟨hd.2.1, ?_⟩
                  have hc := cell_on (ext_of_drew hE) CU.out
                  exact gives_loadAt 65 _ rfl (.pointer (some ⟨w1.heap.size + 1, 0, none⟩)) (.slice Au nt cu) (show vs 16 = _ from hd.1) (by go_simp) ⟨Ext.refl _, fun _ _ => rfl⟩
                · refine step_guard 11 false 148 rfl rfl (fun _ => rfl) fun vs wq hE hd => ⟨hd.2.1, ?_⟩
                  exact gives_len2 65 9 _ rfl Tryd.underlying65 Au nt cu (show vs 17 = _ from (hd.1)) ⟨Ext.refl _, fun _ _ => rfl⟩
                · refine step_guard 11 false 148 rfl rfl (fun _ => rfl) fun vs wq hE hd => ⟨hd.2.2.1, ?_⟩
                  exact gives_binOp .neq 3 _ _ _ rfl (.int .i64 nt) (.int .i64 nt) (.bool false) (show vs 13 = _ from (hd.1)) (show vs 18 = _ from (hd.2.1)) (by go_simp) (by go_simp) ⟨Ext.refl _, fun _ _ => rfl⟩
                · refine step_plain rfl fun vs wq hE hd => ?_
                  exact gives_pick _ _ _ (.bool false) false rfl (show vs 11 = _ from hd.1) (show vs 19 = _ from hd.2.1) ⟨Ext.refl _, fun _ _ => rfl⟩
                · refine step_plain rfl fun vs wq hE hd => ?_
                  exact gives_move _ (.bool false) (.inl rfl) (show vs 20 = _ from hd.1) ⟨Ext.refl _, fun _ _ => rfl⟩
                · refine step_guard 21 false 158 rfl rfl (fun _ => rfl) fun vs wq hE hd => ⟨hd.1, ?_⟩
                  exact gives_move _ (.pointer (some ⟨w1.heap.size, 0, none⟩)) (.inl rfl) rfl ⟨Ext.refl _, fun _ _ => rfl⟩
                · refine step_guard 21 false 158 rfl rfl (fun _ => rfl) fun vs wq hE hd => ⟨hd.1, ?_⟩
                  exact gives_fieldAddr' 69 _ 2 rfl (.pointer (some ⟨wo.heap.size, 0, none⟩)) (.pointer (some ⟨wo.heap.size, 2, none⟩)) rfl (by go_simp) ⟨Ext.refl _, fun _ _ => rfl⟩
                · refine step_guard 21 false 158 rfl rfl (fun _ => rfl) fun vs wq hE hd => ⟨hd.2.1, ?_⟩
                  have hc := cell_on (ext_of_drew hE) C2.out
                  exact gives_loadAt 44 _ rfl (.pointer (some ⟨wo.heap.size, 2, none⟩)) (.slice Bt mt dt) (show vs 23 = _ from hd.1) (by go_simp) ⟨Ext.refl _, fun _ _ => rfl⟩
                · refine step_guard 21 false 158 rfl rfl (fun _ => rfl) fun vs wq hE hd => ⟨hd.2.2.1, ?_⟩
                  refine gives_call 32 (enters_of Tryd.func32 (by kernel_rfl) rfl) _ _ rfl rfl [.pointer (some ⟨w1.heap.size, 0, none⟩), .slice Bt mt dt] ?_ ?_
                  · show [vs 22, vs 24] = _
                    rw [show vs 22 = _ from (hd.1), show vs 24 = _ from (hd.2.1)]
                  · refine (has_any w1.heap.size w1.heap.size v5 ts5 tb Bt mt dt wq (PW.out.pool.below (ext_of_drew hE)) (BTW.out.below (ext_of_drew hE)) (by have := G5.out.1; omega)).mono ?_
                    rintro _ w'' ⟨rfl, hb⟩
                    exact ⟨_, rfl, hb, fun _ _ => rfl⟩
                · refine step_guard 21 false 158 rfl rfl (fun _ => rfl) fun vs wq hE hd => ⟨hd.1, ?_⟩
                  exact gives_move _ (.pointer (some ⟨w1.heap.size + 1, 0, none⟩)) (.inl rfl) rfl ⟨Ext.refl _, fun _ _ => rfl⟩
                · refine step_guard 21 false 158 rfl rfl (fun _ => rfl) fun vs wq hE hd => ⟨hd.2.1, ?_⟩
                  exact gives_nilCheck _ rfl ⟨w1.heap.size + 1, 0, none⟩ (show vs 26 = _ from (hd.1)) ⟨Ext.refl _, fun _ _ => rfl⟩
                · refine step_guard 21 false 158 rfl rfl (fun _ => rfl) fun vs wq hE hd => ⟨hd.2.1, ?_⟩
                  exact gives_fieldAddr' 67 _ 0 rfl (.pointer (some ⟨w1.heap.size + 1, 0, none⟩)) (.pointer (some ⟨w1.heap.size + 1, 0, none⟩)) (show vs 27 = _ from (hd.1)) (by go_simp) ⟨Ext.refl _, fun _ _ => rfl⟩
                · refine step_guard 21 false 158 rfl rfl (fun _ => rfl) fun vs wq hE hd => ⟨hd.2.1, ?_⟩
                  have hc := cell_on (ext_of_drew hE) CU.out
                  exact gives_loadAt 65 _ rfl (.pointer (some ⟨w1.heap.size + 1, 0, none⟩)) (.slice Au nt cu) (show vs 28 = _ from hd.1) (by go_simp) ⟨Ext.refl _, fun _ _ => rfl⟩
                · refine step_guard 21 false 158 rfl rfl (fun _ => rfl) fun vs wq hE hd => ⟨hd.1, ?_⟩
                  exact gives_fieldAddr' 69 _ 2 rfl (.pointer (some ⟨wo.heap.size, 0, none⟩)) (.pointer (some ⟨wo.heap.size, 2, none⟩)) rfl (by go_simp) ⟨Ext.refl _, fun _ _ => rfl⟩
                · refine step_guard 21 false 158 rfl rfl (fun _ => rfl) fun vs wq hE hd => ⟨hd.2.1, ?_⟩
                  have hc := cell_on (ext_of_drew hE) C2.out
                  exact gives_loadAt 44 _ rfl (.pointer (some ⟨wo.heap.size, 2, none⟩)) (.slice Bt mt dt) (show vs 30 = _ from hd.1) (by go_simp) ⟨Ext.refl _, fun _ _ => rfl⟩
                · refine step_guard 21 false 158 rfl rfl (fun _ => rfl) fun vs wq hE hd => ⟨hd.2.1, ?_⟩
                  exact gives_convert 44 9 _ rfl (.slice Bt mt dt) _ (show vs 31 = _ from (hd.1)) (conv_bs (BTW.out.below (ext_of_drew hE)) _ (Ext.refl _)) ⟨Ext.refl _, fun _ _ => rfl⟩
                · refine step_guard 21 false 158 rfl rfl (fun _ => rfl) fun vs wq hE hd => ⟨hd.2.2.2.1, ?_⟩
                  refine gives_call 49 (enters_of Tryd.func49 (by kernel_rfl) rfl) _ _ rfl rfl [.slice Au nt cu, .string (strOfNums tb)] ?_ ?_
                  · show [vs 29, vs 32] = _
                    rw [show vs 29 = _ from (hd.1), show vs 32 = _ from (hd.2.1)]
                  · refine (refHas_any ts5 (strOfNums tb) Au nt cu wq (TU.out.below (ext_of_drew hE)) (by omega)).mono ?_
                    rintro _ w'' ⟨rfl, rfl⟩
                    exact ⟨_, rfl, Ext.refl _, fun _ _ => rfl⟩
                · refine step_guard 21 false 158 rfl rfl (fun _ => rfl) fun vs wq hE hd => ⟨hd.2.2.1, ?_⟩
                  exact gives_binOp .neq 4 _ _ _ rfl (.bool (inT ts5 (strOfNums tb))) (.bool (inT ts5 (strOfNums tb))) (.bool false) (show vs 25 = _ from (hd.1)) (show vs 33 = _ from (hd.2.1)) (by go_simp) (by go_simp) ⟨Ext.refl _, fun _ _ => rfl⟩
                · refine step_plain rfl fun vs wq hE hd => ?_
                  exact gives_pick _ _ _ (.bool false) false rfl (show vs 21 = _ from hd.1) (show vs 34 = _ from hd.2.1) ⟨Ext.refl _, fun _ _ => rfl⟩
                · intro vs wz hE hR
                  have PZ := Lib.hid (PW.out.below (ext_of_drew hE))
                  have h35 : vs 35 = .bool false := hR 35 (by omega)
                  rw [h35]
                  clear hR hE h35 PW CA CU TA TU CO C2 BTW
                  go_wp2_with fail
                  gi_wp2_with fail
                  refine ⟨⟨{ target := .collected D, args := #[] } :: ds, i + 1, v5, u5, ts5, by omega, PZ, G5, MK2, rfl, rfl, rfl, rfl, rfl, rfl, rfl, ?_⟩, ?_⟩
                  · show Value.int .i64 (↑i + 1) = _
                    go_num
                  · show n - (intOf (Value.int .i64 (↑i + 1))).toNat < n - (intOf (Value.int .i64 ↑i)).toNat
                    simp [intOf]
                    omega
    · obtain rfl : i = n := by omega
      gi_wp2_with fail
      exact leaves_marks (fun W => results_tmp rfl _ _ _) (fun W h => ⟨rfl, B1.out.trans (h.mono B1.out.size)⟩) ds _ MK.out (fun k hk => P.out.mks k hk) P.out.low
end Go.Proofs.YtideopnblhbngaaDoor
