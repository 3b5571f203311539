/- What PoolFull answers. -/
import Derived.Test.YtideopnblhbngaaDoorPoolOnceW
import Derived.Test.YtideopnblhbngaaDoorNum
namespace Go.Proofs.YtideopnblhbngaaDoor
open Go.RowKit Go.Shelf

/-- The texts of the first bytes. -/
def firstT (n : Nat) : List ByteArray := (List.range n).map fun (i : Nat) => strOfNums [(i : Int)]
theorem firstT_len (n : Nat) : (firstT n).length = n := by simp [firstT]
theorem firstT_succ (n : Nat) : firstT (n + 1) = firstT n ++ [strOfNums [(n : Int)]] := by simp [firstT, List.range_succ]
theorem one_inj {a b : Nat} (ha : a < 256) (hb : b < 256) (h : strOfNums [(a : Int)] = strOfNums [(b : Int)]) : a = b := by
  have := str_inj (a := [(a : Int)]) (b := [(b : Int)]) (by intro x hx; simp at hx; omega) (by intro x hx; simp at hx; omega) h
  have h2 : (a : Int) = b := by simpa using this
  omega
theorem firstT_notin {n x : Nat} (hn : n ≤ 256) (hx : x < 256) (h : n ≤ x) : inT (firstT n) (strOfNums [(x : Int)]) = false := by
  rw [inT_false]
  intro hm
  obtain ⟨i, hi, e⟩ := List.mem_map.1 hm
  rw [List.mem_range] at hi
  have := one_inj (by omega) hx e
  omega
theorem firstT_at {n k : Nat} (h : k < n) : (firstT n)[k]'(by rw [firstT_len]; exact h) = strOfNums [(k : Int)] := by simp [firstT]
theorem addV_full {ts : List ByteArray} {bs : List Int} {aF aT aU : Addr} (h1 : 1 ≤ bs.length ∧ bs.length ≤ 16) (h2 : inT ts (strOfNums bs) = false) (h3 : 16 ≤ ts.length) : addV ts bs aF aT aU = errV aU ∧ addT ts bs = ts := by
  refine ⟨?_, addT_no ?_⟩
  · unfold addV
    rw [if_neg (fun hh => hh h1), if_neg (by rw [h2]; simp), if_pos h3]
  · unfold addOk
    rw [decide_eq_false (show ¬ ts.length < 16 by omega), Bool.and_false]
theorem bsf_new0 (base : Nat) (w : World) (b : Int) (h : 0 ≤ b ∧ b ≤ 255) : BsF base (w.alloc (.cells #[.int .u8 b] 5)) (.slice (some ⟨w.heap.size, 0, none⟩) 1 1) [b] := by
  refine BsF.of_own (base' := 0) (.inr ⟨w.heap.size, 0, 1, #[.int .u8 b], (0, 0), rfl, Nat.zero_le _, heap_alloc_new w _, Nat.le_refl _, by simp [maxLen], by simp, by simp [u8s], .inl (Nat.le_refl _)⟩) ?_
  intro x hx
  simp only [List.mem_singleton] at hx
  omega
theorem SenN.pool {w : World} {al : List Addr} {aF aT aU : Addr} (h : SenN w al) (hF : al[3]? = some aF) (hT : al[16]? = some aT) (hU : al[7]? = some aU) : PSen w aF aT aU :=
  ⟨h.cell 3 3 aF rfl hF, h.cell 16 2 aT rfl hT, h.cell 7 4 aU rfl hU⟩
theorem SenN.stay {base : Nat} {w w' : World} {al : List Addr} (h : SenN w al) (hb : base ≤ w.heap.size) (h18 : 18 ≤ base) (hr : ∀ a ∈ al, a.block < base) (hs : Stay base w w') : SenN w' al := by
  have hlow := hs.low hb
  refine ⟨h.len, fun i g a h1 h2 => ?_, h.nd, fun a ha => ?_⟩
  · have hg : g < base := by
      have : g ∈ senG := List.mem_of_getElem? h1
      have : g < 18 := by revert this; unfold senG; simp; omega
      omega
    exact (hlow.cell hg).trans (h.cell i g a h1 h2)
  · obtain ⟨c, t, hc⟩ := h.row a ha
    exact ⟨c, t, (hlow.block a.block (hr a ha)).trans hc⟩

set_option maxHeartbeats 8000000 in
set_option maxRecDepth 100000 in
theorem poolFull_any (z0 z1 : Int) (al : List Addr) (aF aT aU : Addr) (w : World) (hs : SenN w al) (hF : al[3]? = some aF) (hT : al[16]? = some aT) (hU : al[7]? = some aU) :
    Calls Tryd.prog 12 #[.int .i64 z0, .int .i64 z1] w fun e w' => e = .returned (.bool true) ∧ Below w.heap.size w w' := by
  have HS := Lib.hid hs
  have HF := Lib.hid hF
  have HT := Lib.hid hT
  have HU := Lib.hid hU
  clear hs hF hT hU
  obtain ⟨r, hr, hl⟩ := rem_u64 z0 200 (by decide)
  obtain ⟨k, hk, hkl⟩ := rem_u64 z1 16 (by decide)
  rw [show ((200 : Nat) : Int) = 200 from rfl] at hr
  rw [show ((16 : Nat) : Int) = 16 from rfl] at hk
  go_enter Tryd.func12, Tryd.ntmps12
  go_wp2_with fail
  refine (plAlive_any aF aT aU w (HS.out.pool HF.out HT.out HU.out)).mono ?_
  rintro _ w1 ⟨rfl, bel1⟩
  have S1 := Lib.hid (HS.out.below bel1)
  have B1 := Lib.hid bel1
  clear bel1 HS
  go_wp2_with fail
  refine (new_any w1).mono ?_
  rintro _ _ ⟨rfl, rfl⟩
  have P0 := Lib.hid (PSt.new (S1.out.pool HF.out HT.out HU.out))
  go_wp2_with fail
  go_loopw [6, 11] (fun _ x wr => ∃ (i : Nat) (v : Value), i ≤ 16 ∧ x = .int .i64 i ∧ Hid (PSt w1.heap.size w1.heap.size v (firstT i) aF aT aU w1 wr))
    (fun _ x _ => 16 - (intOf x).toNat)
  case atStart => exact ⟨0, _, by omega, rfl, P0⟩
  case round =>
    clear P0
    obtain ⟨i, v, hi, rfl, P⟩ := hrel
    by_cases hlt : i < 16
    · have hil : (i : Int) < 16 := by omega
      have hw8 : IntKind.u8.wrap (i : Int) = i := by rw [IntKind.wrap_u8]; omega
      go_wp2_with fail
      refine (add_st _ _ v _ [(i : Int)] _ _ _ aF aT aU w1 _ (P.out.alloc _) (bsf_new0 _ _ (i : Int) (by omega))).mono ?_
      rintro _ w2 ⟨rfl, v2, p2, _⟩
      have hok : addOk (firstT i) [(i : Int)] = true := by
        unfold addOk
        rw [firstT_notin (by omega) (by omega) (Nat.le_refl _), firstT_len, decide_eq_true (show i < 16 by omega)]
        simp
      rw [addV_ok hok]
      rw [addT_yes hok, ← firstT_succ] at p2
      have P2 := Lib.hid p2
      clear p2 P hok hw8
      go_wp2_with fail
      go_roundw
      case rel => exact ⟨i + 1, v2, by omega, by go_num, P2⟩
      case measure => simp [intOf]; omega
    · obtain rfl : i = 16 := by omega
      have hwr : IntKind.i64.wrap (16 + (r : Int)) = 16 + r := by rw [IntKind.wrap_i64]; omega
      have hw8 : IntKind.u8.wrap (16 + (r : Int)) = 16 + r := by rw [IntKind.wrap_u8]; omega
      clear hlt hi
      go_wp2_with fail
      refine (add_st _ _ v _ [16 + (r : Int)] _ _ _ aF aT aU w1 _ (P.out.alloc _) (bsf_new0 _ _ (16 + (r : Int)) (by omega))).mono ?_
      rintro _ w2 ⟨rfl, v2, p2, _⟩
      have hcast : (16 + (r : Int)) = ((16 + r : Nat) : Int) := by omega
      have hni : inT (firstT 16) (strOfNums [16 + (r : Int)]) = false := by rw [hcast]; exact firstT_notin (by omega) (by omega) (by omega)
      obtain ⟨e1, e2⟩ := addV_full (aF := aF) (aT := aT) (aU := aU) (bs := [16 + (r : Int)]) (by simp) hni (by rw [firstT_len]; exact Nat.le_refl _)
      rw [e2] at p2
      rw [e1]
      have P2 := Lib.hid p2
      have NI := Lib.hid hni
      have HC := Lib.hid hcast
      clear p2 P hni e1 e2 hcast
      go_wp2_with fail
      refine (num_err al 7 aU w2 (S1.out.below (P2.out.low (Nat.le_refl _))) HU.out).mono ?_
      rintro _ w3 ⟨rfl, bel3⟩
      rw [show ((7 : Nat) : Int) + 1 = 8 from rfl]
      have P3 := Lib.hid (P2.out.below bel3)
      clear bel3 P2
      go_wp2_with fail
      refine (len_any _ _ v2 (firstT 16) w3 P3.out.at_).mono ?_
      rintro _ w3 ⟨rfl, rfl⟩
      rw [firstT_len]
      have hk8 : IntKind.u8.wrap (k : Int) = k := by rw [IntKind.wrap_u8]; omega
      go_wp2_with fail
      have hbk := bsf_new0 w1.heap.size w3 (k : Int) (by omega)
      have hlk := lst_one hbk (P3.out.alloc _).le
      rw [show (w3.alloc (.cells #[.int .u8 (k : Int)] 5)).heap.size = w3.heap.size + 1 by simp] at hlk
      refine (drop_st _ _ v2 (firstT 16) [[(k : Int)]] _ 1 1 aF aT aU w1 _ ((P3.out.alloc _).alloc _) (fun W hW => (hlk.stay hW).bss) (by omega)).mono ?_
      rintro _ w4 ⟨rfl, v4, p4, _⟩
      have hk16 : k < (firstT 16).length := by rw [firstT_len]; omega
      have hdr : dropT (firstT 16) ([[(k : Int)]].map strOfNums) = (firstT 16).take k ++ (firstT 16).drop (k + 1) := by
        rw [List.map_cons, List.map_nil, ← firstT_at hkl]
        exact once_drop P3.out.nd k hk16
      have hdl : ((firstT 16).take k ++ (firstT 16).drop (k + 1)).length = 15 := by rw [List.length_append, List.length_take, List.length_drop, firstT_len]; omega
      have hnk := once_notin P3.out.nd k hk16
      rw [firstT_at hkl] at hnk
      have hnm : inT ((firstT 16).take k ++ (firstT 16).drop (k + 1)) (strOfNums [16 + (r : Int)]) = false := by
        have h := (inT_false _ _).1 NI.out
        rw [inT_false]
        intro hm
        rcases List.mem_append.1 hm with hm | hm
        · exact h (List.mem_of_mem_take hm)
        · exact h (List.mem_of_mem_drop hm)
      rw [hdr] at p4 ⊢
      rw [hdl, firstT_len, show ((16 : Nat) : Int) - ((15 : Nat) : Int) = 1 from rfl]
      obtain ⟨ts4, hts4⟩ : ∃ t, t = (firstT 16).take k ++ (firstT 16).drop (k + 1) := ⟨_, rfl⟩
      rw [← hts4] at p4 hdl hnk hnm
      have P4 := Lib.hid p4
      have NK := Lib.hid hnk
      have NM := Lib.hid hnm
      have DL := Lib.hid hdl
      clear p4 hdr hlk hbk hk16 hdl hnk hnm hts4 P3
      go_wp2_with fail
      refine (add_st _ _ v4 ts4 [16 + (r : Int)] _ _ _ aF aT aU w1 _ (P4.out.alloc _) (bsf_new0 _ _ (16 + (r : Int)) (by omega))).mono ?_
      rintro _ w5 ⟨rfl, v5, p5, _⟩
      have hok : addOk ts4 [16 + (r : Int)] = true := by
        unfold addOk
        rw [NM.out, DL.out]
        simp
      rw [addV_ok hok]
      rw [addT_yes hok] at p5
      have P5 := Lib.hid p5
      clear p5 P4 hok
      go_wp2_with fail
      refine (len_any _ _ v5 _ w5 P5.out.at_).mono ?_
      rintro _ w5 ⟨rfl, rfl⟩
      rw [List.length_append, DL.out, show ((15 + [strOfNums [16 + (r : Int)]].length : Nat) : Int) = 16 from rfl]
      go_wp2_with fail
      refine (has_any w1.heap.size w1.heap.size v5 (ts4 ++ [strOfNums [16 + (r : Int)]]) [(k : Int)] _ 1 1 _ (P5.out.alloc _).at_ (bsf_new0 w1.heap.size w5 (k : Int) (by omega)).red (by rw [List.length_append, DL.out]; simp)).mono ?_
      rintro _ w6 ⟨rfl, bel6⟩
      have h6 : inT (ts4 ++ [strOfNums [16 + (r : Int)]]) (strOfNums [(k : Int)]) = false := by
        rw [inT_false]
        intro hm
        rcases List.mem_append.1 hm with hm | hm
        · exact (inT_false _ _).1 NK.out hm
        · rw [List.mem_singleton, HC.out] at hm
          have := one_inj (by omega) (by omega) hm
          omega
      rw [h6]
      have P6 := Lib.hid ((P5.out.alloc _).below bel6)
      clear h6 bel6 P5
      go_wp2_with fail
      refine (has_any w1.heap.size w1.heap.size v5 (ts4 ++ [strOfNums [16 + (r : Int)]]) [16 + (r : Int)] _ 1 1 _ (P6.out.alloc _).at_ (bsf_new0 w1.heap.size w6 (16 + (r : Int)) (by omega)).red (by rw [List.length_append, DL.out]; simp)).mono ?_
      rintro _ w7 ⟨rfl, bel7⟩
      have h7 : inT (ts4 ++ [strOfNums [16 + (r : Int)]]) (strOfNums [16 + (r : Int)]) = true := (inT_iff _ _).2 (by simp)
      rw [h7]
      have P7 := Lib.hid ((P6.out.alloc _).below bel7)
      clear h7 bel7 P6
      go_wp2_with fail
      go_ret
      exact ⟨rfl, B1.out.trans ((P7.out.low (Nat.le_refl _)).mono B1.out.size)⟩
end Go.Proofs.YtideopnblhbngaaDoor
