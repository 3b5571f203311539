/- What the method Sum of a hash does. -/
import Derived.Test.YtdedphhohiioiaaDoorWrite
namespace Go.Proofs.YtdedphhohiioiaaDoor
open Go.RowKit

theorem Tryd.size25 : (Tryd.prog.info? 25).map (·.size) = some 32 := by kernel_rfl
theorem one_u32s (xs : List Int) : ∀ v ∈ u32s xs, v.oneCell' = true := by
  intro v hv
  obtain ⟨x, _, rfl⟩ := List.mem_map.1 hv
  rfl
theorem one_u8s (xs : List Int) : ∀ v ∈ u8s xs, v.oneCell' = true := by
  intro v hv
  obtain ⟨x, _, rfl⟩ := List.mem_map.1 hv
  rfl

theorem AppO.byte {base n : Nat} {w0 W w1 : World} {v v1 : Value} {R : List Int} {x : Int} (h : AppO base 5 w0 W v (u8s R ++ [Value.int .u8 x]) v1 w1) (hn : R.length = n) :
    ∃ A c, v1 = .slice A (n + 1) c ∧ Hid (OwnO w1 base 5 (.slice A (n + 1) c) (u8s (R ++ [x]))) ∧ Hid (Below base w0 w1) := by
  have ho := h.own
  rw [show u8s R ++ [Value.int .u8 x] = u8s (R ++ [x]) by simp [u8s]] at ho
  obtain ⟨A, c, he, _⟩ := ho.len
  rw [u8s_len', List.length_append, hn] at he
  subst he
  exact ⟨A, c, rfl, Lib.hid ho, Lib.hid h.below⟩

theorem be8_take (T : List Int) (n j : Nat) (x : Int) (hj : j < 8) (hx : x = (be8 n).getD j 0) : T ++ (be8 n).take j ++ [x] = T ++ (be8 n).take (j + 1) := by
  have hl : j < (be8 n).length := by rw [be8_len]; exact hj
  have he : (be8 n).getD j 0 = (be8 n)[j] := by rw [List.getD_eq_getElem?_getD, List.getElem?_eq_getElem hl]; rfl
  rw [hx, he, List.append_assoc, List.take_succ_eq_append_getElem hl]

set_option maxHeartbeats 4000000 in
set_option maxRecDepth 100000 in
theorem sumM_any (base hb : Nat) (m : List Int) (rv : Value) (w : World) (H : HashAt base w hb m rv) (hk : w.rangeAt 18 0 (u32s kk)) :
    Calls Tryd.prog 31 #[.pointer (some ⟨hb, 0, none⟩)] w fun e w' => e = .returned (.agg (u8s (sha m)).toArray) ∧ Below w.heap.size w w' := by
  obtain ⟨hblk, hown, hne, hmb, hml⟩ := H
  obtain ⟨q0, hq0⟩ : ∃ q, q = m.length / 64 := ⟨_, rfl⟩
  obtain ⟨s0, hs0⟩ : ∃ s, s = stN m q0 := ⟨_, rfl⟩
  rw [← hq0] at hblk hown
  rw [← hs0] at hblk
  have hbl : hb < w.heap.size := blk_lt hblk
  obtain ⟨A1, c1, rfl, hc1⟩ := hown.len
  rw [u8s_len'] at hblk hown hne hc1
  have hn1 : (m.drop (64 * q0)).length = m.length - 64 * q0 := by simp
  rw [hn1] at hblk hown hne hc1
  obtain ⟨n1, hn⟩ : ∃ n1, n1 = m.length - 64 * q0 := ⟨_, rfl⟩
  rw [← hn] at hblk hown hne hc1
  have hsrc := hown.src (P := Tryd.prog) (tx := 22) Tryd.underlying22 (one_u8s _)
  have hrl := blk_range hblk
  have hra : w.rangeAt hb 0 (u32s s0.list) := fun j v hv => hrl j v (by rw [List.getElem?_append_left (List.getElem?_eq_some_iff.1 hv).1]; exact hv)
  have c8 : w.cell? ⟨hb, 8, none⟩ = some (.slice A1 n1 c1) := blk_cell hblk 8 _ rfl
  have c9 : w.cell? ⟨hb, 9, none⟩ = some (.int .u64 m.length) := blk_cell hblk 9 _ rfl
  have hsz : (Tryd.prog.info? 108).map (·.size) = some (u32s s0.list).length := Tryd.size108
  have HB := Lib.hid hblk
  have HO := Lib.hid hown
  have HR := Lib.hid hra
  have HK := Lib.hid hk
  have HN := Lib.hid hn
  have HQ := Lib.hid hq0
  have HS0 := Lib.hid hs0
  have HSR := Lib.hid hsrc
  have HSZ := Lib.hid hsz
  clear hblk hown hra hk hn hq0 hs0 hsrc hrl hn1 hsz
  go_enter Tryd.func31, Tryd.ntmps31
  go_wp2_with (first
    | (refine wpList_load_g rfl 108 (.tmp 10) rfl hb 0 rfl (u32s s0.list) _ (World.rangeAt_alloc HR.out _) Tryd.underlying108 rfl HSZ.out ?_)
    | (refine wpList_store_row rfl 108 (.tmp 3) (.tmp 11) rfl (w.heap.size + 1) rfl (u32s s0.list) rfl 108 (has_new2 _ _ _ _ _ rfl) HSZ.out (one_u32s _) ?_; intro w1 hp; have hz : w1.heap.size = w.heap.size + 2 := (by have := hp.size; simpa using this); have hb1 : Below w.heap.size w w1 := hp.below (((Below.refl _ _).alloc (Nat.le_refl _) _).alloc (by simp) _) (by omega); have hbz : Below w.heap.size w (w1.alloc (.cells #[] 5)) := hb1.alloc (by omega) _; have d8 := blk_cell (blk_below HB.out hbz) 8 _ rfl; have hsrc1 : Src Tryd.prog 1 22 (.slice A1 n1 c1) n1 (u8s (m.drop (64 * q0))) (w1.alloc (.cells #[] 5)) := ((HO.out.below hbz).src Tryd.underlying22 (one_u8s _)); have hh0 : Has w1 w.heap.size 25 32 := (has_old w _ _ _ _ rfl).same (hp.other _ (by omega)); have HP := Lib.hid hp; have HZ := Lib.hid hz; have HB1 := Lib.hid hb1; have HH := Lib.hid hh0; clear hp hz hbz hb1 hh0)
    | (at_builtin; refine appO (w0 := w1) w1.heap.size rfl (.tmp 12) (.tmp 16) 22 22 5 (.int .u8 0) 1 rfl Tryd.underlying22 Tryd.info5 rfl (by omega) _ [] rfl _ n1 _ rfl hsrc1 (own_mk w1 (Nat.le_refl _) #[] rfl (by simp) rfl) ((Below.refl _ _).alloc (Nat.le_refl _) _) (by simp) (by simp; have := HN.out; omega) ?_; intro v2 w2 ap2; rw [List.nil_append] at ap2; have hz2 : w1.heap.size ≤ w2.heap.size := ap2.below.size; have AP2 := Lib.hid ap2; clear ap2 hsrc1 d8)
    | (at_builtin; refine appO (w0 := w1) w1.heap.size rfl (.tmp 17) (.tmp 18) 22 22 5 (.int .u8 0) 1 rfl Tryd.underlying22 Tryd.info5 rfl (by omega) _ _ rfl _ 1 [.int .u8 128] rfl (src_new w2 5 [.int .u8 128] 1 rfl Tryd.underlying22 (by simp [Value.oneCell'])) (AP2.out.own.below ((Below.refl _ _).alloc (Nat.le_refl _) _)) (AP2.out.below.alloc hz2 _) (by simp; omega) (by rw [u8s_len', List.length_drop]; omega) ?_; intro v3 w3 ap3; have AP3 := Lib.hid ap3; clear ap3))
  have own3 : OwnO w3 w1.heap.size 5 v3 (u8s (m.drop (64 * q0) ++ [128])) := by
    have := AP3.out.own
    rw [show u8s (m.drop (64 * q0)) ++ [Value.int .u8 128] = u8s (m.drop (64 * q0) ++ [128]) by simp [u8s]] at this
    exact this
  have bel3 : Below w1.heap.size w1 w3 := AP3.out.below
  obtain ⟨A3, c3, rfl, hc3⟩ := own3.len
  obtain ⟨R, hR⟩ : ∃ R, R = m.drop (64 * q0) := ⟨_, rfl⟩
  have hRl : R.length = n1 := by rw [hR, List.length_drop, HN.out]
  have hl3 : (u8s (R ++ [128])).length = n1 + 1 := by rw [u8s_len', List.length_append, hRl]; rfl
  rw [← hR, hl3] at own3
  rw [← hR, hl3] at hc3
  rw [← hR, hl3]
  have O3 := Lib.hid own3
  have B3 := Lib.hid bel3
  have HRR := Lib.hid hR
  have HRL := Lib.hid hRl
  clear own3 bel3 AP3 hR hRl hl3 hc3 AP2 HSR
  obtain ⟨Z, hZ⟩ : ∃ z, z = zc m.length := ⟨_, rfl⟩
  have HZC := Lib.hid hZ
  clear hZ
  go_loopw [4] (fun s wr => ∃ (z c : Nat) (A : Option Addr), z ≤ Z ∧ s = Value.slice A (n1 + 1 + z) c ∧ Hid (OwnO wr w1.heap.size 5 s (u8s (R ++ [128] ++ List.replicate z 0))) ∧ Hid (Below w1.heap.size w1 wr))
    (fun s _ => n1 + 65 - vlen s)
  case atStart => exact ⟨0, c3, A3, by omega, rfl, Lib.hid (by simpa using O3.out), B3⟩
  case round =>
    obtain ⟨z, c4, A4, hz, rfl, hown, hbel⟩ := hrel
    have hz64 : z < 64 := by have := HZC.out; unfold zc at this; omega
    have hn64 : n1 < 64 := by have := HN.out; have := HQ.out; omega
    have hmod : ((n1 + 1 + z) % 64 = 56) ↔ z = Z := by
      rw [HZC.out, ← zc_at m.length z (by rw [← HZC.out]; exact hz)]
      have := HN.out; have := HQ.out
      omega
    by_cases hlt : z < Z
    · have hmi : ¬ ((n1 : Int) + 1 + z) % 64 = 56 := by omega
      have hrl : (R ++ [128] ++ List.replicate z 0).length = n1 + 1 + z := by simp only [List.length_append, HRL.out, List.length_cons, List.length_nil, List.length_replicate]
      have HRZ := Lib.hid hrl
      clear hrl hmod
      go_wp2_with (at_builtin; refine appO (w0 := w1) w1.heap.size rfl (.tmp 24) (.tmp 25) 22 22 5 (.int .u8 0) 1 rfl Tryd.underlying22 Tryd.info5 rfl (by omega) _ _ rfl _ 1 [.int .u8 0] rfl (src_new wr 5 [.int .u8 0] 1 rfl Tryd.underlying22 (by simp [Value.oneCell'])) (hown.out.below ((Below.refl _ _).alloc (Nat.le_refl _) _)) (hbel.out.alloc hbel.out.size _) (by have := hbel.out.size; simp; omega) (by rw [u8s_len', HRZ.out]; omega) ?_; intro v5 w5 ap5; obtain ⟨A5, c5, rfl, O5, B5⟩ := ap5.byte HRZ.out; clear ap5)
      go_roundw
      case rel => exact ⟨z + 1, c5, A5, by omega, rfl, Lib.hid (by simpa [List.replicate_succ'] using O5.out), B5⟩
      case measure => simp only [vlen]; omega
    · have hmi : ((n1 : Int) + 1 + z) % 64 = 56 := by omega
      obtain rfl : z = Z := by omega
      clear hmod
      have wu : IntKind.u64.wrap ((m.length : Int) * 8) = (m.length : Int) * 8 := by rw [IntKind.wrap_u64]; omega
      go_wp2
      clear hmi hlt hz c8
      obtain ⟨wo, rfl⟩ : ∃ wo : World, wo = wr := ⟨_, rfl⟩
      obtain ⟨T, hT⟩ : ∃ T, T = R ++ [128] ++ List.replicate z 0 := ⟨_, rfl⟩
      rw [← hT] at hown
      have hTl : T.length = n1 + 1 + z := by rw [hT]; simp only [List.length_append, HRL.out, List.length_cons, List.length_nil, List.length_replicate]
      have HT := Lib.hid hT
      have HTL := Lib.hid hTl
      clear hT hTl
      go_loopw [4, 5] (fun s i wr => ∃ (j c : Nat) (A : Option Addr) (x : Int), j ≤ 8 ∧ s = Value.slice A (n1 + 1 + z + j) c ∧ i = .int .i64 x ∧ x = 7 - (j : Int) ∧ Hid (OwnO wr w1.heap.size 5 s (u8s (T ++ (be8 m.length).take j))) ∧ Hid (Below w1.heap.size w1 wr))
        (fun s _ _ => n1 + 1 + z + 8 - vlen s)
      case atStart => exact ⟨0, c4, A4, 7, by omega, rfl, rfl, rfl, Lib.hid (by simpa using hown.out), hbel⟩
      case round =>
        obtain ⟨j, c5, A5, x, hj, rfl, rfl, hx, hown, hbel⟩ := hrel
        have c9' : wr.cell? ⟨hb, 9, none⟩ = some (.int .u64 m.length) := blk_cell (blk_below HB.out ((HB1.out.trans (hbel.out.mono (by have := HZ.out; omega))))) 9 _ rfl
        by_cases hlt : j < 8
        · have hjc : j = 0 ∨ j = 1 ∨ j = 2 ∨ j = 3 ∨ j = 4 ∨ j = 5 ∨ j = 6 ∨ j = 7 := by omega
          have hrl : (T ++ (be8 m.length).take j).length = n1 + 1 + z + j := by simp only [List.length_append, List.length_take, be8_len, HTL.out]; omega
          have HRZ := Lib.hid hrl
          clear hrl
          subst hx
          rcases hjc with rfl | rfl | rfl | rfl | rfl | rfl | rfl | rfl
          · go_wp2_with (at_builtin; refine appO (w0 := w1) w1.heap.size rfl (.tmp 31) (.tmp 41) 22 22 5 (.int .u8 0) 1 rfl Tryd.underlying22 Tryd.info5 rfl (by omega) _ _ rfl _ 1 [.int .u8 _] rfl (src_new wr 5 [.int .u8 _] 1 rfl Tryd.underlying22 (by simp [Value.oneCell'])) (hown.out.below ((Below.refl _ _).alloc (Nat.le_refl _) _)) (hbel.out.alloc hbel.out.size _) (by have := hbel.out.size; simp; omega) (by rw [u8s_len', HRZ.out]; omega) ?_; intro v5 w5 ap5; obtain ⟨A6, c6, rfl, O6, B6⟩ := ap5.byte HRZ.out; clear ap5)
            go_roundw
            case rel => exact ⟨1, c6, A6, _, by omega, rfl, rfl, by omega, Lib.hid (by have := O6.out; rw [be8_take T m.length 0 _ (by omega) (by simp only [be8, List.getD_cons_succ, List.getD_cons_zero] <;> omega)] at this; exact this), B6⟩
            case measure => simp only [vlen]; omega
          · go_wp2_with (at_builtin; refine appO (w0 := w1) w1.heap.size rfl (.tmp 31) (.tmp 41) 22 22 5 (.int .u8 0) 1 rfl Tryd.underlying22 Tryd.info5 rfl (by omega) _ _ rfl _ 1 [.int .u8 _] rfl (src_new wr 5 [.int .u8 _] 1 rfl Tryd.underlying22 (by simp [Value.oneCell'])) (hown.out.below ((Below.refl _ _).alloc (Nat.le_refl _) _)) (hbel.out.alloc hbel.out.size _) (by have := hbel.out.size; simp; omega) (by rw [u8s_len', HRZ.out]; omega) ?_; intro v5 w5 ap5; obtain ⟨A6, c6, rfl, O6, B6⟩ := ap5.byte HRZ.out; clear ap5)
            go_roundw
            case rel => exact ⟨2, c6, A6, _, by omega, rfl, rfl, by omega, Lib.hid (by have := O6.out; rw [be8_take T m.length 1 _ (by omega) (by simp only [be8, List.getD_cons_succ, List.getD_cons_zero] <;> omega)] at this; exact this), B6⟩
            case measure => simp only [vlen]; omega
          · go_wp2_with (at_builtin; refine appO (w0 := w1) w1.heap.size rfl (.tmp 31) (.tmp 41) 22 22 5 (.int .u8 0) 1 rfl Tryd.underlying22 Tryd.info5 rfl (by omega) _ _ rfl _ 1 [.int .u8 _] rfl (src_new wr 5 [.int .u8 _] 1 rfl Tryd.underlying22 (by simp [Value.oneCell'])) (hown.out.below ((Below.refl _ _).alloc (Nat.le_refl _) _)) (hbel.out.alloc hbel.out.size _) (by have := hbel.out.size; simp; omega) (by rw [u8s_len', HRZ.out]; omega) ?_; intro v5 w5 ap5; obtain ⟨A6, c6, rfl, O6, B6⟩ := ap5.byte HRZ.out; clear ap5)
            go_roundw
            case rel => exact ⟨3, c6, A6, _, by omega, rfl, rfl, by omega, Lib.hid (by have := O6.out; rw [be8_take T m.length 2 _ (by omega) (by simp only [be8, List.getD_cons_succ, List.getD_cons_zero] <;> omega)] at this; exact this), B6⟩
            case measure => simp only [vlen]; omega
          · go_wp2_with (at_builtin; refine appO (w0 := w1) w1.heap.size rfl (.tmp 31) (.tmp 41) 22 22 5 (.int .u8 0) 1 rfl Tryd.underlying22 Tryd.info5 rfl (by omega) _ _ rfl _ 1 [.int .u8 _] rfl (src_new wr 5 [.int .u8 _] 1 rfl Tryd.underlying22 (by simp [Value.oneCell'])) (hown.out.below ((Below.refl _ _).alloc (Nat.le_refl _) _)) (hbel.out.alloc hbel.out.size _) (by have := hbel.out.size; simp; omega) (by rw [u8s_len', HRZ.out]; omega) ?_; intro v5 w5 ap5; obtain ⟨A6, c6, rfl, O6, B6⟩ := ap5.byte HRZ.out; clear ap5)
            go_roundw
            case rel => exact ⟨4, c6, A6, _, by omega, rfl, rfl, by omega, Lib.hid (by have := O6.out; rw [be8_take T m.length 3 _ (by omega) (by simp only [be8, List.getD_cons_succ, List.getD_cons_zero] <;> omega)] at this; exact this), B6⟩
            case measure => simp only [vlen]; omega
          · go_wp2_with (at_builtin; refine appO (w0 := w1) w1.heap.size rfl (.tmp 31) (.tmp 41) 22 22 5 (.int .u8 0) 1 rfl Tryd.underlying22 Tryd.info5 rfl (by omega) _ _ rfl _ 1 [.int .u8 _] rfl (src_new wr 5 [.int .u8 _] 1 rfl Tryd.underlying22 (by simp [Value.oneCell'])) (hown.out.below ((Below.refl _ _).alloc (Nat.le_refl _) _)) (hbel.out.alloc hbel.out.size _) (by have := hbel.out.size; simp; omega) (by rw [u8s_len', HRZ.out]; omega) ?_; intro v5 w5 ap5; obtain ⟨A6, c6, rfl, O6, B6⟩ := ap5.byte HRZ.out; clear ap5)
            go_roundw
            case rel => exact ⟨5, c6, A6, _, by omega, rfl, rfl, by omega, Lib.hid (by have := O6.out; rw [be8_take T m.length 4 _ (by omega) (by simp only [be8, List.getD_cons_succ, List.getD_cons_zero] <;> omega)] at this; exact this), B6⟩
            case measure => simp only [vlen]; omega
          · go_wp2_with (at_builtin; refine appO (w0 := w1) w1.heap.size rfl (.tmp 31) (.tmp 41) 22 22 5 (.int .u8 0) 1 rfl Tryd.underlying22 Tryd.info5 rfl (by omega) _ _ rfl _ 1 [.int .u8 _] rfl (src_new wr 5 [.int .u8 _] 1 rfl Tryd.underlying22 (by simp [Value.oneCell'])) (hown.out.below ((Below.refl _ _).alloc (Nat.le_refl _) _)) (hbel.out.alloc hbel.out.size _) (by have := hbel.out.size; simp; omega) (by rw [u8s_len', HRZ.out]; omega) ?_; intro v5 w5 ap5; obtain ⟨A6, c6, rfl, O6, B6⟩ := ap5.byte HRZ.out; clear ap5)
            go_roundw
            case rel => exact ⟨6, c6, A6, _, by omega, rfl, rfl, by omega, Lib.hid (by have := O6.out; rw [be8_take T m.length 5 _ (by omega) (by simp only [be8, List.getD_cons_succ, List.getD_cons_zero] <;> omega)] at this; exact this), B6⟩
            case measure => simp only [vlen]; omega
          · go_wp2_with (at_builtin; refine appO (w0 := w1) w1.heap.size rfl (.tmp 31) (.tmp 41) 22 22 5 (.int .u8 0) 1 rfl Tryd.underlying22 Tryd.info5 rfl (by omega) _ _ rfl _ 1 [.int .u8 _] rfl (src_new wr 5 [.int .u8 _] 1 rfl Tryd.underlying22 (by simp [Value.oneCell'])) (hown.out.below ((Below.refl _ _).alloc (Nat.le_refl _) _)) (hbel.out.alloc hbel.out.size _) (by have := hbel.out.size; simp; omega) (by rw [u8s_len', HRZ.out]; omega) ?_; intro v5 w5 ap5; obtain ⟨A6, c6, rfl, O6, B6⟩ := ap5.byte HRZ.out; clear ap5)
            go_roundw
            case rel => exact ⟨7, c6, A6, _, by omega, rfl, rfl, by omega, Lib.hid (by have := O6.out; rw [be8_take T m.length 6 _ (by omega) (by simp only [be8, List.getD_cons_succ, List.getD_cons_zero] <;> omega)] at this; exact this), B6⟩
            case measure => simp only [vlen]; omega
          · go_wp2_with (at_builtin; refine appO (w0 := w1) w1.heap.size rfl (.tmp 31) (.tmp 41) 22 22 5 (.int .u8 0) 1 rfl Tryd.underlying22 Tryd.info5 rfl (by omega) _ _ rfl _ 1 [.int .u8 _] rfl (src_new wr 5 [.int .u8 _] 1 rfl Tryd.underlying22 (by simp [Value.oneCell'])) (hown.out.below ((Below.refl _ _).alloc (Nat.le_refl _) _)) (hbel.out.alloc hbel.out.size _) (by have := hbel.out.size; simp; omega) (by rw [u8s_len', HRZ.out]; omega) ?_; intro v5 w5 ap5; obtain ⟨A6, c6, rfl, O6, B6⟩ := ap5.byte HRZ.out; clear ap5)
            go_roundw
            case rel => exact ⟨8, c6, A6, _, by omega, rfl, rfl, by omega, Lib.hid (by have := O6.out; rw [be8_take T m.length 7 _ (by omega) (by simp only [be8, List.getD_cons_succ, List.getD_cons_zero] <;> omega)] at this; exact this), B6⟩
            case measure => simp only [vlen]; omega
        · obtain rfl : j = 8 := by omega
          have hxn : x < 0 := by omega
          have hrows : T ++ (be8 m.length).take 8 = (shaP m).drop (64 * q0) := by
            rw [shaP, List.drop_append_of_le_length (by have := HQ.out; omega), ← HRR.out, HT.out, padOf, ← HZC.out, List.take_of_length_le (Nat.le_of_eq (be8_len _))]
            simp
          have hPl : (shaP m).length = 64 * q0 + (n1 + 1 + z + 8) := by have h1 := HN.out; have h2 := HQ.out; rw [shaP_len, ← HZC.out]; omega
          have hP64 := shaP_mod m
          obtain ⟨P, hP⟩ : ∃ P, P = shaP m := ⟨_, rfl⟩
          have hst : stN P q0 = s0 := by rw [hP, shaP, stN_append _ _ _ (by have := HQ.out; omega), HS0.out]
          have hPb : u8s_ok P := by rw [hP]; exact shaP_ok hmb
          rw [← hP] at hrows hPl hP64
          have hh3 : Has wr w.heap.size 25 32 := HH.out.same (hbel.out.block _ (by have := HZ.out; omega))
          have hsb : wr.heap[w.heap.size + 1]? = some (.cells (u32s (stN P q0).list).toArray 108 (0, 0)) := by
            rw [hst, hbel.out.block _ (by have := HZ.out; omega)]
            exact HP.out.blk
          have hbw : Below w.heap.size w wr := HB1.out.trans (hbel.out.mono (by have := HZ.out; omega))
          rw [hrows] at hown
          have HPE := Lib.hid hP
          have HPL := Lib.hid hPl
          have HP6 := Lib.hid hP64
          have HPB := Lib.hid hPb
          have HS1 := Lib.hid hsb
          have HH3 := Lib.hid hh3
          have HBW := Lib.hid hbw
          clear hP hPl hP64 hPb hsb hst hh3 hbw hrows hlt hj
          go_wp2
          clear c9' wu hx hxn
          obtain ⟨wo, rfl⟩ : ∃ wo : World, wo = wr := ⟨_, rfl⟩
          go_loopw [4] (fun s wr => ∃ (q k c : Nat) (A : Option Addr), q0 ≤ q ∧ 64 * q + k = P.length ∧ s = Value.slice A k c ∧ Hid (wr.heap[w.heap.size + 1]? = some (.cells (u32s (stN P q).list).toArray 108 (0, 0))) ∧ Hid (OwnO wr w1.heap.size 5 s (u8s (P.drop (64 * q)))) ∧ Hid (Has wr w.heap.size 25 32) ∧ Hid (Below w.heap.size w wr))
            (fun s _ => vlen s)
          case atStart => exact ⟨q0, n1 + 1 + z + 8, c5, A5, Nat.le_refl _, HPL.out.symm, rfl, HS1, hown, HH3, HBW⟩
          case round =>
            clear HS1 hown HH3 HBW hbel
            obtain ⟨q, k, c7, A7, hq, hkq, rfl, hsb, hown, hhas, hbel⟩ := hrel
            have hk64 : k % 64 = 0 := by have := HP6.out; omega
            by_cases hlt : 0 < k
            · have hk1 : 64 ≤ k := by omega
              have hlen : (P.drop (64 * q)).length = k := by rw [List.length_drop]; omega
              obtain ⟨g, off, rfl⟩ : ∃ g off, A7 = some ⟨g, off, none⟩ := by
                obtain ⟨b, off, c, he, _⟩ := hown.out.row (by rw [u8s_len', hlen]; omega)
                simp only [Value.slice.injEq] at he
                exact ⟨b, off, he.1⟩
              have hk3 : k ≤ c7 := by
                obtain ⟨A', c', he, hle⟩ := hown.out.len
                rw [u8s_len', hlen] at hle
                simp only [Value.slice.injEq] at he
                omega
              have hcells : ∀ j, j < 64 → wr.cell? ⟨g, off + j, none⟩ = some (.int .u8 (((P.drop (64 * q)).take 64).getD j 0)) := by
                obtain ⟨b, off', c, he, _, _, hc⟩ := hown.out.row (by rw [u8s_len', hlen]; omega)
                simp only [Value.slice.injEq, Option.some.injEq, Addr.mk.injEq] at he
                obtain ⟨⟨rfl, rfl, _⟩, _, rfl⟩ := he
                intro j hj
                refine hc j _ ?_
                simp only [u8s, List.getElem?_map, List.getD_eq_getElem?_getD, List.getElem?_take, if_pos hj]
                rw [List.getElem?_eq_getElem (by omega : j < (P.drop (64 * q)).length)]
                simp
              have hgB : w1.heap.size ≤ g := (hown.out.lt g rfl).1
              have hc64 : 64 ≤ c7 := by omega
              have hc0 : ¬ c7 = 0 := by omega
              have hci : (64 : Int) ≤ (c7 : Int) := by omega
              have hki : (64 : Int) ≤ (k : Int) := by omega
              have HCE := Lib.hid hcells
              have HLN := Lib.hid hlen
              clear hcells hlen
              have hk18 : wr.rangeAt 18 0 (u32s kk) := range_below HK.out hbel.out
              go_wp2_with fail
              refine (take_any (stN P q) (stN_ok P q) [] 108 (w.heap.size + 1) ((P.drop (64 * q)).take 64) ((HPB.out.drop _).take _) g off 64 c7 (by omega) (by omega) wr (by simpa using hsb.out) hk18 HCE.out).mono ?_
              rintro e w3' ⟨rfl, hb3, hg3⟩
              have hown3 := (hown.out.kept hg3 (fun b hb' e => by have := HZ.out; simp only [Value.ownBlock, Option.some.injEq] at hb' e; omega)).drop (k := 64) (by rw [u8s_len', HLN.out]; omega)
              rw [show (u8s (P.drop (64 * q))).drop 64 = u8s (P.drop (64 * (q + 1))) by rw [u8s, ← List.map_drop, List.drop_drop]; rfl] at hown3
              have hhas3 : Has w3' w.heap.size 25 32 := hhas.out.same (hg3.block _ hhas.out.lt (by simp))
              have hbel3 : Below w.heap.size w w3' := hbel.out.grown hg3 hbel.out.size (fun k hk => by simp at hk; omega)
              have S3 : Hid (w3'.heap[w.heap.size + 1]? = some (.cells (u32s (stN P (q + 1)).list).toArray 108 (0, 0))) := Lib.hid (by rw [List.append_nil] at hb3; exact hb3)
              have H3 := Lib.hid hhas3
              have L3 := Lib.hid hbel3
              clear hb3 hg3 hhas3 hbel3 hk18 hown hsb hhas hbel HCE
              by_cases hcc : c7 = 64
              · subst hcc
                obtain rfl : k = 64 := by omega
                rw [if_pos rfl] at hown3
                have O4 := Lib.hid hown3
                clear hown3
                go_wp2
                go_roundw
                case rel => exact ⟨q + 1, 0, 0, _, by omega, by omega, rfl, S3, O4, H3, L3⟩
                case measure => simp only [vlen]; omega
              · rw [if_neg hcc] at hown3
                have O4 := Lib.hid hown3
                clear hown3
                go_wp2
                go_roundw
                case rel => exact ⟨q + 1, k - 64, c7 - 64, _, by omega, by omega, rfl, S3, O4, H3, L3⟩
                case measure => simp only [vlen]; omega
            · obtain rfl : k = 0 := by omega
              obtain ⟨S, hS⟩ : ∃ S, S = stN P q := ⟨_, rfl⟩
              have hSq : outB S 32 = sha m := by rw [hS, sha, ← HPE.out]; congr 2; omega
              have hSok : S.ok := hS ▸ stN_ok P q
              rw [← hS] at hsb
              have HSQ := Lib.hid hSq
              clear hS hSq hown
              go_wp2
              have hn0 : wr.heap.size < (wr.alloc (Obj.cells (Array.replicate 32 (Value.int .u8 0)) 25)).heap.size := by simp
              have hstart : (wr.alloc (Obj.cells (Array.replicate 32 (Value.int .u8 0)) 25)).heap[wr.heap.size]? = some (.cells (u8s (pad 32 (outB S 0))).toArray 25 (0, 0)) := heap_alloc_new wr _
              have hwb := hbel.out.alloc hbel.out.size (Obj.cells (Array.replicate 32 (Value.int .u8 0)) 25)
              have hws : wr.heap.size > w.heap.size + 1 := blk_lt hsb.out
              have hwsb := (Below.heap_alloc wr (Obj.cells (Array.replicate 32 (Value.int .u8 0)) 25) (w.heap.size + 1) hws).trans hsb.out
              have hwh : Has (wr.alloc (Obj.cells (Array.replicate 32 (Value.int .u8 0)) 25)) w.heap.size 25 32 := hhas.out.same (Below.heap_alloc wr _ _ hhas.out.lt)
              have V1 := Lib.hid hstart
              have V2 := Lib.hid hwb
              have V3 := Lib.hid hwsb
              have V4 := Lib.hid hwh
              clear hstart hwb hwsb hwh
              obtain ⟨OB, hOB⟩ : ∃ n, n = wr.heap.size := ⟨_, rfl⟩
              rw [← hOB] at V1 hws
              rw [← hOB]
              have HOB := Lib.hid hOB
              clear hOB
              change Code.wp _ _ _ _ (wr.alloc (Obj.cells (Array.replicate 32 (Value.int .u8 0)) 25))
              generalize wr.alloc (Obj.cells (Array.replicate 32 (Value.int .u8 0)) 25) = wo at *
              clear hbel hhas hsb
              go_loopw [7, 51] (fun _ s wr => ∃ (i : Nat), i ≤ 32 ∧ s = .int .i64 i ∧ Hid (wr.heap[OB]? = some (.cells (u8s (pad 32 (outB S i))).toArray 25 (0, 0))) ∧ Hid (Below w.heap.size w wr) ∧ Hid (wr.heap[w.heap.size + 1]? = some (.cells (u32s S.list).toArray 108 (0, 0))) ∧ Hid (Has wr w.heap.size 25 32))
                (fun _ s _ => 32 - (intOf s).toNat)
              case atStart => exact ⟨0, by omega, rfl, V1, V2, V3, V4⟩
              case round =>
                clear V1 V2 V3 V4
                obtain ⟨i, hi, rfl, V1, V2, V3, V4⟩ := hrel
                by_cases hlt : i < 32
                · obtain ⟨y, hy⟩ : ∃ y, y = S.list.getD (i / 4) 0 := ⟨_, rfl⟩
                  have hyr : U y := hy ▸ getD_range (St.list_ok hSok) _
                  have hi4 : i / 4 < 8 := by omega
                  have cy : wr.cell? ⟨w.heap.size + 1, i / 4, none⟩ = some (.int .u32 y) := blk_cell V3.out (i / 4) _ (by have hl : i / 4 < S.list.length := hi4; rw [hy, u32s, List.getElem?_map, List.getD_eq_getElem?_getD, List.getElem?_eq_getElem hl]; rfl)
                  have hpl : (u8s (pad 32 (outB S i))).length = 32 := by rw [u8s_len', pad_len _ _ (by rw [outB_len]; omega)]
                  obtain ⟨z0, d0⟩ : ∃ z, wr.cell? ⟨OB, i, none⟩ = some z := ⟨_, blk_cell V1.out i (u8s (pad 32 (outB S i)))[i] (by simp)⟩
                  have d1 : wr.frozen? ⟨OB, i, none⟩ = false := blk_free V1.out i
                  have hset : (u8s (pad 32 (outB S i))).set i (.int .u8 (outAt S i)) = u8s (pad 32 (outB S (i + 1))) := by
                    have h := pad_set 32 (outB S i) (outAt S i) (by rw [outB_len]; omega)
                    rw [outB_len] at h
                    rw [outB_succ, ← h, u8s, u8s, List.map_set]
                  have HSET := Lib.hid hset
                  have HY := Lib.hid hy
                  clear hset hy hpl
                  unfold U at hyr
                  have hfin : ∀ v, v = outAt S i → Hid ((wr.setCell ⟨OB, i, none⟩ (.int .u8 v)).heap[OB]? = some (.cells (u8s (pad 32 (outB S (i + 1)))).toArray 25 (0, 0))) ∧ Hid (Below w.heap.size w (wr.setCell ⟨OB, i, none⟩ (.int .u8 v))) ∧ Hid ((wr.setCell ⟨OB, i, none⟩ (.int .u8 v)).heap[w.heap.size + 1]? = some (.cells (u32s S.list).toArray 108 (0, 0))) ∧ Hid (Has (wr.setCell ⟨OB, i, none⟩ (.int .u8 v)) w.heap.size 25 32) := by
                    rintro v rfl
                    refine ⟨Lib.hid ?_, Lib.hid (V2.out.setCell (by simp; omega) _), Lib.hid ?_, Lib.hid (V4.out.setCell _ _)⟩
                    · have := blk_set V1.out i (.int .u8 (outAt S i))
                      rw [HSET.out] at this
                      exact this
                    · rw [heap_setCell_other wr ⟨OB, i, none⟩ _ _ (by simp; omega)]
                      exact V3.out
                  have FIN := Lib.hid hfin
                  clear hfin V1 V2 V3 V4 hi4
                  have hr : i % 4 = 0 ∨ i % 4 = 1 ∨ i % 4 = 2 ∨ i % 4 = 3 := by omega
                  rcases hr with hr | hr | hr | hr
                  · have hri : (i : Int) % 4 = 0 := by omega
                    go_wp2
                    go_roundw
                    case rel => exact ⟨i + 1, by omega, by go_num, FIN.out _ (by simp only [outAt, hr, ← HY.out]; simp; try omega)⟩
                    case measure => simp [intOf]; omega
                  · have hri : (i : Int) % 4 = 1 := by omega
                    go_wp2
                    go_roundw
                    case rel => exact ⟨i + 1, by omega, by go_num, FIN.out _ (by simp only [outAt, hr, ← HY.out]; simp; try omega)⟩
                    case measure => simp [intOf]; omega
                  · have hri : (i : Int) % 4 = 2 := by omega
                    go_wp2
                    go_roundw
                    case rel => exact ⟨i + 1, by omega, by go_num, FIN.out _ (by simp only [outAt, hr, ← HY.out]; simp; try omega)⟩
                    case measure => simp [intOf]; omega
                  · have hri : (i : Int) % 4 = 3 := by omega
                    go_wp2
                    go_roundw
                    case rel => exact ⟨i + 1, by omega, by go_num, FIN.out _ (by simp only [outAt, hr, ← HY.out]; simp; try omega)⟩
                    case measure => simp [intOf]; omega
                · obtain rfl : i = 32 := by omega
                  have hpf : pad 32 (outB S 32) = sha m := by rw [pad_full _ _ (outB_len _ _), HSQ.out]
                  obtain ⟨OUT, hOUT⟩ : ∃ o, o = sha m := ⟨_, rfl⟩
                  have hol : OUT.length = 32 := by rw [hOUT, sha_len]
                  rw [hpf, ← hOUT] at V1
                  have hra : wr.rangeAt OB 0 (u8s OUT) := blk_range V1.out
                  have hi25 : (Tryd.prog.info? 25).map (·.size) = some (u8s OUT).length := by rw [u8s_len', hol]; exact Tryd.size25
                  have hh : Has wr w.heap.size 25 (u8s OUT).length := by rw [u8s_len', hol]; exact V4.out
                  have HRA := Lib.hid hra
                  have HI := Lib.hid hi25
                  have HHH := Lib.hid hh
                  have HOUT := Lib.hid hOUT
                  clear hra hi25 hh hpf V1 V3 V4 hOUT hol
                  go_wp2_with (first
                    | (refine wpList_load_g rfl 25 (.tmp 6) rfl OB 0 rfl (u8s OUT) _ HRA.out Tryd.underlying25 rfl HI.out ?_)
                    | (refine wpList_store_row rfl 25 (.tmp 2) (.tmp 67) rfl w.heap.size rfl (u8s OUT) rfl 25 HHH.out HI.out (one_u8s _) ?_; intro w9 hp9))
                  refine bodyPost_ret (v := .agg (u8s OUT).toArray) (results_cell_row rfl _ _ w.heap.size 25 _ (0, 0) _ rfl hp9.blk Tryd.underlying25 rfl (by simpa using HI.out)) rfl ⟨by rw [HOUT.out], hp9.below V2.out (Nat.le_refl _)⟩
end Go.Proofs.YtdedphhohiioiaaDoor
