/- What the reference's sum does. -/
import Derived.Test.YtdedphhohiioiaaDoorRefT
namespace Go.Proofs.YtdedphhohiioiaaDoor
open Go.RowKit

theorem wp_frm {P : Program} {c : Code} {Q : Exit → Act → World → Prop} {N : Nat} {a : Act} {w : World} (hd : a.defers = []) (hs : a.tmps.size = N) (h : ∀ f, (∀ t, t < N → f t = a.tmps.getD t undef) → Code.wp P c Q (frm N f) w) : Code.wp P c Q a w := by
  have e := frm_of a hd
  rw [hs] at e
  rw [e]
  exact h _ fun t _ => rfl

set_option maxHeartbeats 8000000 in
set_option maxRecDepth 100000 in
theorem refsum_any (s : ByteArray) (hs : s.size ≤ 1099511627776) (w : World) :
    Calls Tryd.prog 28 #[.string s] w fun e w' => e = .returned (.agg (u8s (sha (sb s))).toArray) ∧ Below w.heap.size w w' := by
  obtain ⟨m, hm⟩ : ∃ m, m = sb s := ⟨_, rfl⟩
  have hml : m.length = s.size := by rw [hm, sb_len]
  have hmb : u8s_ok m := hm ▸ sb_ok s
  rw [← hm]
  have wu : IntKind.u64.wrap ((s.size : Int) * 8) = (s.size : Int) * 8 := by rw [IntKind.wrap_u64]; omega
  have HM := Lib.hid hm
  have HML := Lib.hid hml
  clear hm hml
  obtain ⟨B, hB⟩ : ∃ B, B = w.heap.size + 1 := ⟨_, rfl⟩
  have HB := Lib.hid hB
  clear hB
  go_enter Tryd.func28, Tryd.ntmps28
  go_loud (go_wp2_with (first
    | (refine wpList_conv_own B rfl 9 22 5 (.tmp 27) rfl s rfl Tryd.underlying9 Tryd.underlying22 Tryd.underlying5 (by omega) (Below.refl _ _) (by have := HB.out; simp; omega) ?_; intro A2 c2 w2 own2 bel2; have hz2 : B ≤ w2.heap.size := (by have h1 := bel2.size; have h2 := HB.out; simp at h1; omega); have O2 := Lib.hid own2; have B2 := Lib.hid bel2; clear own2 bel2)
    | (at_builtin; refine appO B rfl (.tmp 28) (.tmp 29) 22 22 5 (.int .u8 0) 1 rfl Tryd.underlying22 Tryd.info5 rfl (by omega) _ _ rfl _ 1 [.int .u8 128] rfl (src_new w2 5 [.int .u8 128] 1 rfl Tryd.underlying22 (by simp [Value.oneCell'])) (O2.out.below ((Below.refl _ _).alloc (Nat.le_refl _) _)) (B2.out.alloc hz2 _) (by simp; omega) (by rw [u8s_len', sb_len]; omega) ?_; intro v3 w3 ap3; obtain ⟨A3, c3, rfl, O3, B3⟩ := ap3.byte (n := s.size) (sb_len s); clear ap3)))
  have hW0 : ∃ W0 : World, Below w.heap.size w W0 ∧ Has W0 w.heap.size 25 32 ∧ B ≤ W0.heap.size ∧ Below B W0 w3 := ⟨_, (Below.refl _ _).alloc (Nat.le_refl _) _, has_new w _ _ _ rfl, by have := HB.out; simp; omega, B3.out⟩
  obtain ⟨W0, w01, w02, w03, w04⟩ := hW0
  have HW0 := Lib.hid w01
  have HW0H := Lib.hid w02
  have HW0B := Lib.hid w03
  have hbel := Lib.hid w04
  clear w01 w02 w03 w04 B3 B2 O2
  obtain ⟨R, hR⟩ : ∃ R, R = m ++ [128] := ⟨_, rfl⟩
  rw [← HM.out, ← hR] at O3
  have hRl : R.length = s.size + 1 := by rw [hR, List.length_append, HML.out]; rfl
  have HR := Lib.hid hR
  have HRL := Lib.hid hRl
  clear hR hRl
  obtain ⟨Z, hZ⟩ : ∃ z, z = zc m.length := ⟨_, rfl⟩
  have HZC := Lib.hid hZ
  clear hZ
  go_loopw [4] (fun v wr => ∃ (z c : Nat) (A : Option Addr), z ≤ Z ∧ v = Value.slice A (s.size + 1 + z) c ∧ Hid (OwnO wr B 5 v (u8s (R ++ List.replicate z 0))) ∧ Hid (Below B W0 wr))
    (fun v _ => s.size + 65 - vlen v)
  case atStart => exact ⟨0, c3, A3, by omega, rfl, Lib.hid (by simpa using O3.out), hbel⟩
  case round =>
    clear O3 hbel
    obtain ⟨z, c4, A4, hz, rfl, hown, hbel⟩ := hrel
    have hz64 : z < 64 := by have := HZC.out; unfold zc at this; omega
    have hmod : ((s.size + 1 + z) % 64 = 56) ↔ z = Z := by
      rw [HZC.out, ← zc_at m.length z (by rw [← HZC.out]; exact hz), HML.out]
    by_cases hlt : z < Z
    ·
      have hmi : ¬ ((s.size : Int) + 1 + z) % 64 = 56 := by omega
      have hrl : (R ++ List.replicate z 0).length = s.size + 1 + z := by simp only [List.length_append, HRL.out, List.length_replicate]
      have HRZ := Lib.hid hrl
      clear hrl hmod
      go_wp2_with (at_builtin; refine appO (w0 := W0) B rfl (.tmp 35) (.tmp 36) 22 22 5 (.int .u8 0) 1 rfl Tryd.underlying22 Tryd.info5 rfl (by omega) _ _ rfl _ 1 [.int .u8 0] rfl (src_new wr 5 [.int .u8 0] 1 rfl Tryd.underlying22 (by simp [Value.oneCell'])) (hown.out.below ((Below.refl _ _).alloc (Nat.le_refl _) _)) (hbel.out.alloc (Nat.le_trans HW0B.out hbel.out.size) _) (by have h1 := hbel.out.size; have h2 := HW0B.out; simp; omega) (by rw [u8s_len', HRZ.out]; omega) ?_; intro v5 w5 ap5; obtain ⟨A5, c5, rfl, O5, B5⟩ := ap5.byte HRZ.out; clear ap5)
      go_roundw
      case rel => exact ⟨z + 1, c5, A5, by omega, rfl, Lib.hid (by simpa [List.replicate_succ'] using O5.out), B5⟩
      case measure => simp only [vlen]; omega
    · have hmi : ((s.size : Int) + 1 + z) % 64 = 56 := by omega
      obtain rfl : z = Z := by omega
      clear hmod
      go_wp2
      clear hmi hlt hz
      obtain ⟨wo, rfl⟩ : ∃ wo : World, wo = wr := ⟨_, rfl⟩
      obtain ⟨T, hT⟩ : ∃ T, T = R ++ List.replicate z 0 := ⟨_, rfl⟩
      rw [← hT] at hown
      have hTl : T.length = s.size + 1 + z := by rw [hT]; simp only [List.length_append, HRL.out, List.length_replicate]
      have HT := Lib.hid hT
      have HTL := Lib.hid hTl
      clear hT hTl
      go_loopw [4, 5] (fun v i wr => ∃ (j c : Nat) (A : Option Addr), j ≤ 8 ∧ v = Value.slice A (s.size + 1 + z + j) c ∧ i = .int .i64 (j : Int) ∧ Hid (OwnO wr B 5 v (u8s (T ++ (be8 m.length).take j))) ∧ Hid (Below B W0 wr))
        (fun v _ _ => s.size + 1 + z + 8 - vlen v)
      case atStart => exact ⟨0, c4, A4, by omega, rfl, rfl, Lib.hid (by simpa using hown.out), hbel⟩
      case round =>
        clear hown hbel
        obtain ⟨j, c5, A5, hj, rfl, rfl, hown, hbel⟩ := hrel
        by_cases hlt : j < 8
        ·
          have hjc : j = 0 ∨ j = 1 ∨ j = 2 ∨ j = 3 ∨ j = 4 ∨ j = 5 ∨ j = 6 ∨ j = 7 := by omega
          have hrl : (T ++ (be8 m.length).take j).length = s.size + 1 + z + j := by simp only [List.length_append, List.length_take, be8_len, HTL.out]; omega
          have HRZ := Lib.hid hrl
          clear hrl
          clear hjc
          have e1 : IntKind.i64.wrap (56 - 8 * (j : Int)) = 56 - 8 * (j : Int) := IntWalk.i64_in _ (by omega)
          go_wp2_with (at_builtin; refine appO (w0 := W0) B rfl (.tmp 42) (.tmp 50) 22 22 5 (.int .u8 0) 1 rfl Tryd.underlying22 Tryd.info5 rfl (by omega) _ _ rfl _ 1 [.int .u8 _] rfl (src_new wr 5 [.int .u8 _] 1 rfl Tryd.underlying22 (by simp [Value.oneCell'])) (hown.out.below ((Below.refl _ _).alloc (Nat.le_refl _) _)) (hbel.out.alloc (Nat.le_trans HW0B.out hbel.out.size) _) (by have h1 := hbel.out.size; have h2 := HW0B.out; simp; omega) (by rw [u8s_len', HRZ.out]; omega) ?_; intro v5 w5 ap5; obtain ⟨A6, c6, rfl, O6, B6⟩ := ap5.byte HRZ.out; clear ap5)
          go_roundw
          case rel => exact ⟨j + 1, c6, A6, by omega, rfl, by go_num, Lib.hid (by have := O6.out; rw [be8_take T m.length j _ hlt (by rw [HML.out]; exact be8_at s.size j hlt)] at this; exact this), B6⟩
          case measure => simp only [vlen]; omega
        · have hj8 : j = 8 := by omega
          have hji : ¬ (j : Int) < 8 := by omega
          have hrows : T ++ (be8 m.length).take j = shaP m := by
            rw [hj8, shaP, HT.out, HR.out, padOf, ← HZC.out, List.take_of_length_le (Nat.le_of_eq (be8_len _))]
            simp
          have hPl : (shaP m).length = s.size + 1 + z + j := by rw [shaP_len, ← HZC.out, HML.out]; omega
          have hP64 := shaP_mod m
          obtain ⟨P, hP⟩ : ∃ P, P = shaP m := ⟨_, rfl⟩
          have hPb : u8s_ok P := by rw [hP]; exact shaP_ok hmb
          rw [hrows, ← hP] at hown
          rw [← hP] at hPl hP64
          rw [← hPl] at hown
          rw [← hPl]
          have HPE := Lib.hid hP
          have HPL := Lib.hid hPl
          have HP6 := Lib.hid hP64
          have HPB := Lib.hid hPb
          clear hP hPl hP64 hPb hrows hj8 hj hlt wu
          have hwz : B ≤ wr.heap.size := Nat.le_trans HW0B.out hbel.out.size
          go_wp2_with (first
            | (refine wpList_store_row rfl 104 (.tmp 6) (.tmp 52) rfl wr.heap.size rfl (u32s (List.replicate 64 0)) rfl 104 (has_new wr _ _ _ rfl) Tryd.size104 (one_u32s _) ?_; intro w6 hp6; have S6 : Hid (w6.heap.size = wr.heap.size + 1) := Lib.hid (by rw [hp6.size]; simp); have H6 := Lib.hid hp6; clear hp6)
            | (refine wpList_store_row rfl 105 (.tmp 7) (.tmp 53) rfl w6.heap.size rfl (u32s St.init.list) rfl 105 (has_new w6 _ _ _ rfl) Tryd.size105 (one_u32s _) ?_; intro w7 hp7; have S7 : Hid (w7.heap.size = w6.heap.size + 1) := Lib.hid (by rw [hp7.size]; simp); have H7 := Lib.hid hp7; clear hp7)
            | (refine wpList_store_row rfl 104 (.tmp 8) (.tmp 54) rfl w7.heap.size rfl (u32s (List.replicate 64 0)) rfl 104 (has_new w7 _ _ _ rfl) Tryd.size104 (one_u32s _) ?_; intro w8 hp8; have S8 : Hid (w8.heap.size = w7.heap.size + 1) := Lib.hid (by rw [hp8.size]; simp); have H8 := Lib.hid hp8; clear hp8))
          have hrs : RS W0 B wr.heap.size w6.heap.size w7.heap.size (.slice A5 P.length c5) P w8 (List.replicate 64 0) St.init.list (List.replicate 64 0) := by
            have h6 := H6.out; have h7 := H7.out; have h8 := H8.out
            have e6 := S6.out; have e7 := S7.out; have e8 := S8.out
            have b6 : Below wr.heap.size wr w6 := h6.below ((Below.refl _ _).alloc (Nat.le_refl _) _) (Nat.le_refl _)
            have b7 : Below w6.heap.size w6 w7 := h7.below ((Below.refl _ _).alloc (Nat.le_refl _) _) (Nat.le_refl _)
            have b8 : Below w7.heap.size w7 w8 := h8.below ((Below.refl _ _).alloc (Nat.le_refl _) _) (Nat.le_refl _)
            have bb : Below wr.heap.size wr w8 := b6.trans ((b7.mono (by omega)).trans (b8.mono (by omega)))
            exact ⟨hown.out.below bb, fun k hk => (hown.out.lt k hk).2, blk_below (blk_below h6.blk b7) b8, blk_below h7.blk b8, h8.blk, hbel.out.trans (bb.mono hwz)⟩
          have HRS := Lib.hid hrs
          have HO1 : Hid (B ≤ wr.heap.size ∧ wr.heap.size < w6.heap.size ∧ w6.heap.size < w7.heap.size) := Lib.hid ⟨hwz, by have := S6.out; omega, by have := S7.out; omega⟩
          clear hrs hwz H6 H7 H8 S6 S7 S8 hown hbel
          generalize wr.heap.size = b6 at HRS HO1 ⊢
          generalize w6.heap.size = b7 at HRS HO1 ⊢
          generalize w7.heap.size = b8 at HRS HO1 ⊢
          clear hji
          generalize (Value.agg #[Value.int IntKind.u32 0, Value.int IntKind.u32 0, Value.int IntKind.u32 0, Value.int IntKind.u32 0, Value.int IntKind.u32 0, Value.int IntKind.u32 0, Value.int IntKind.u32 0, Value.int IntKind.u32 0, Value.int IntKind.u32 0, Value.int IntKind.u32 0, Value.int IntKind.u32 0, Value.int IntKind.u32 0, Value.int IntKind.u32 0, Value.int IntKind.u32 0, Value.int IntKind.u32 0, Value.int IntKind.u32 0, Value.int IntKind.u32 0, Value.int IntKind.u32 0, Value.int IntKind.u32 0, Value.int IntKind.u32 0, Value.int IntKind.u32 0, Value.int IntKind.u32 0, Value.int IntKind.u32 0, Value.int IntKind.u32 0, Value.int IntKind.u32 0, Value.int IntKind.u32 0, Value.int IntKind.u32 0, Value.int IntKind.u32 0, Value.int IntKind.u32 0, Value.int IntKind.u32 0, Value.int IntKind.u32 0, Value.int IntKind.u32 0, Value.int IntKind.u32 0, Value.int IntKind.u32 0, Value.int IntKind.u32 0, Value.int IntKind.u32 0, Value.int IntKind.u32 0, Value.int IntKind.u32 0, Value.int IntKind.u32 0, Value.int IntKind.u32 0, Value.int IntKind.u32 0, Value.int IntKind.u32 0, Value.int IntKind.u32 0, Value.int IntKind.u32 0, Value.int IntKind.u32 0, Value.int IntKind.u32 0, Value.int IntKind.u32 0, Value.int IntKind.u32 0, Value.int IntKind.u32 0, Value.int IntKind.u32 0, Value.int IntKind.u32 0, Value.int IntKind.u32 0, Value.int IntKind.u32 0, Value.int IntKind.u32 0, Value.int IntKind.u32 0, Value.int IntKind.u32 0, Value.int IntKind.u32 0, Value.int IntKind.u32 0, Value.int IntKind.u32 0, Value.int IntKind.u32 0, Value.int IntKind.u32 0, Value.int IntKind.u32 0, Value.int IntKind.u32 0, Value.int IntKind.u32 0]) = u52
          go_loopw [9, 55] (fun _ i wr => ∃ (k : Nat), k ≤ 64 ∧ i = .int .i64 (k : Int) ∧ Hid (RS W0 B b6 b7 b8 (.slice A5 P.length c5) P wr (List.replicate 64 0) St.init.list (pad 64 (kk.take k))))
            (fun _ i _ => 64 - (intOf i).toNat)
          case atStart => exact ⟨0, by omega, rfl, HRS⟩
          case round =>
            clear HRS
            obtain ⟨k, hk, rfl, hrs⟩ := hrel
            by_cases hlt : k < 64
            ·
              have hz : ∃ z, wr.cell? ⟨b8, k, none⟩ = some z := by
                have hl : (u32s (pad 64 (kk.take k))).length = 64 := by rw [u32s_len, pad_len _ _ (by rw [List.length_take]; omega)]
                exact ⟨_, blk_cell hrs.out.h8 k (u32s (pad 64 (kk.take k)))[k] (by simp)⟩
              obtain ⟨z0, d0⟩ := hz
              have d1 : wr.frozen? ⟨b8, k, none⟩ = false := blk_free hrs.out.h8 k
              have hn := hrs.out.set8 HO1.out k (kk.getD k 0)
              have hset : (pad 64 (kk.take k)).set k (kk.getD k 0) = pad 64 (kk.take (k + 1)) := by
                have hl : (kk.take k).length = k := by rw [List.length_take, kk_len]; omega
                have h := pad_set 64 (kk.take k) (kk.getD k 0) (by omega)
                rw [hl] at h
                have hkl : k < kk.length := by rw [kk_len]; exact hlt
                rw [h, List.take_succ_eq_append_getElem hkl]
                simp [List.getD_eq_getElem?_getD, hkl]
              rw [hset] at hn
              have HN := Lib.hid hn
              clear hn hset hrs
              obtain ⟨y, hy⟩ : ∃ y, y = kk.getD k 0 := ⟨_, rfl⟩
              rw [← hy] at HN
              have HY := Lib.hid hy
              clear hy
              go_wp2_with fail
              refine (k_any k hlt _).mono ?_
              rintro e w' ⟨rfl, rfl⟩
              rw [← HY.out]
              go_wp2
              go_roundw
              case rel => exact ⟨k + 1, by omega, by go_num, HN⟩
              case measure => simp [intOf]; omega
            · have hk64 : k = 64 := by omega
              have hpk : pad 64 (kk.take k) = kk := by rw [hk64, List.take_of_length_le (by rw [kk_len]; omega), pad_full _ _ kk_len]
              rw [hpk] at hrs
              clear hpk hk64
              have HRS2 := Lib.hid hrs
              clear hrs
              go_wp2
              clear hk hlt
              refine wp_frm (N := 270) (by rfl) (by rfl) fun F hF => ?_
              refine loop6 W0 B b6 b7 b8 P (List.replicate 64 0) _ HPB.out HP6.out rfl HO1.out F (hF 4 (by decide)) (hF 6 (by decide)) (hF 7 (by decide)) (hF 8 (by decide)) _ wr HRS2.out fun g2 w2 v2 rows2 ws2 q2 r2 => ?_
              refine ‹∀ (a : Act) (w : World), Code.wp Tryd.prog _ _ a w → _› _ _ ?_
              have hh2 : Has w2 w.heap.size 25 32 := HW0H.out.same (r2.bel.block _ (by have := HB.out; omega))
              refine tail28 (stN P (P.length / 64)) w.heap.size b7 g2 ((q2 2 rfl).trans (hF 2 (by decide))) ((q2 7 rfl).trans (hF 7 (by decide))) _ w2 r2.h7 hh2 fun g3 w3 w4 e2 bel3 hp4 => ?_
              have hfin : outB (stN P (P.length / 64)) 32 = sha m := by rw [HPE.out]; rfl
              have bel2 : Below w.heap.size w w2 := HW0.out.trans (r2.bel.mono (by have := HB.out; omega))
              have hl : (u8s (outB (stN P (P.length / 64)) 32)).length = 32 := by rw [u8s_len', outB_len]
              refine bodyPost_ret (v := .agg (u8s (outB (stN P (P.length / 64)) 32)).toArray) (results_cell_row rfl _ _ w.heap.size 25 _ (0, 0) _ (frm_tmp (by decide) e2) hp4.blk Tryd.underlying25 rfl (by rw [List.size_toArray, hl]; exact Tryd.size25)) rfl ⟨by rw [hfin], hp4.below (bel2.trans (bel3.mono bel2.size)) (Nat.le_refl _)⟩
end Go.Proofs.YtdedphhohiioiaaDoor
