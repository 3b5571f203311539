/- The law HashZero, walked. -/
import Derived.Test.YtdedphhohiioiaaDoorOf
import Derived.Test.YtdedphhohiioiaaDoorHashBytesW
import Derived.Test.YtdedphhohiioiaaDoorExt
namespace Go.Proofs.YtdedphhohiioiaaDoor
open Go.RowKit

def noughts : List Int := List.replicate 16 0
set_option maxHeartbeats 1000000 in
set_option maxRecDepth 100000 in
theorem zero_any (ds : List Int) (hl : ds.length = 16) (w : World) :
    Calls Tryd.prog 35 #[.agg (u8s ds).toArray] w fun e w' => e = .returned (.bool (decide (ds = noughts))) ∧ Below w.heap.size w w' := by
  have hq : ∀ W : World, (Op.equalIn 10000 43 (.agg (u8s ds).toArray) (.agg #[.int .u8 0, .int .u8 0, .int .u8 0, .int .u8 0, .int .u8 0, .int .u8 0, .int .u8 0, .int .u8 0, .int .u8 0, .int .u8 0, .int .u8 0, .int .u8 0, .int .u8 0, .int .u8 0, .int .u8 0, .int .u8 0])).run Tryd.prog W = .ok (decide (ds = noughts)) W := fun W =>
    run_equalIn_bytes 9998 43 5 16 ds noughts Tryd.underlying43 Tryd.underlying5 (by kernel_rfl) hl rfl
  have hi : (Tryd.prog.info? 43).map (·.size) = some (u8s ds).length := by rw [u8s_len', hl]; exact Tryd.size43
  have HI := Lib.hid hi
  obtain ⟨dd, hdd⟩ : ∃ dd, dd = decide (ds = noughts) := ⟨_, rfl⟩
  rw [← hdd] at hq ⊢
  clear hi hl hdd
  go_enter Tryd.func35, Tryd.ntmps35
  go_wp2_with (refine wpList_load_g rfl 43 (.tmp 1) rfl w.heap.size 0 rfl (u8s ds) _ (range_new w (u8s ds) 43) Tryd.underlying43 rfl HI.out ?_)
  go_ret
  exact ⟨rfl, (Below.refl _ _).alloc (Nat.le_refl _) _⟩

theorem own_new5 (w : World) (F : List Int) (h : F.length = 5) : OwnO (w.alloc (.cells (u8s F).toArray 5)) w.heap.size 5 (.slice (some ⟨w.heap.size, 0, none⟩) 5 5) (u8s F) := by
  have hl : (u8s F).length = 5 := by rw [u8s_len', h]
  refine .inr ⟨w.heap.size, 0, 5, (u8s F).toArray, (0, 0), by rw [hl], Nat.le_refl _, heap_alloc_new w _, by omega, by unfold maxLen; omega, by simp [hl], ?_, .inl (Nat.le_refl _)⟩
  rw [List.drop_zero]
  exact List.take_of_length_le (Nat.le_refl _)
theorem all_nought (ds : List Int) (i : Nat) (h : i < ds.length) : decide (ds.take (i + 1) = List.replicate (i + 1) 0) = (decide (ds.take i = List.replicate i 0) && decide (ds.getD i 0 = 0)) := by
  rw [Bool.eq_iff_iff]
  simp only [Bool.and_eq_true, decide_eq_true_eq]
  rw [take_add ds i h, List.replicate_succ']
  constructor
  · intro e
    have hl : (ds.take i).length = (List.replicate i (0 : Int)).length := by simp; omega
    obtain ⟨a, b⟩ := List.append_inj e hl
    exact ⟨a, by simpa using b⟩
  · rintro ⟨a, b⟩
    rw [a, b]

set_option maxHeartbeats 8000000 in
set_option maxRecDepth 100000 in
theorem hashZero_any (ds : List Int) (hl : ds.length = 16) (hd : ∀ b ∈ ds, 0 ≤ b ∧ b ≤ 255) (z : Int) (bs : List Int) (A : Option Addr) (n c : Nat) (w : World) (hv : Bs w (.slice A n c) bs) (hn : n = bs.length) (hk : w.rangeAt 18 0 (u32s kk)) (h18 : 18 < w.heap.size) :
    Calls Tryd.prog 8 #[.agg (u8s ds).toArray, .int .i64 z, .slice A n c] w fun e w' => e = .returned (.bool true) ∧ Below w.heap.size w w' := by
  have HK := Lib.hid hk
  have HV := Lib.hid hv
  have HN := Lib.hid hn
  have HL := Lib.hid hl
  have HD := Lib.hid hd
  have hi43 : (Tryd.prog.info? 43).map (·.size) = some (u8s ds).length := by rw [u8s_len', hl]; exact Tryd.size43
  have HI := Lib.hid hi43
  clear hk hv hn hl hd hi43
  have bel0 : Below w.heap.size w (w.alloc (.cells (u8s ds).toArray 43)) := (Below.refl _ _).alloc (Nat.le_refl _) _
  have BEL0 := Lib.hid bel0
  clear bel0
  by_cases hlt : 500 < n
  · go_enter Tryd.func8, Tryd.ntmps8
    go_wp2_with (refine (alive_hash _ (range_below HK.out BEL0.out) (by simp; omega)).mono ?_; rintro e w1 ⟨rfl, hb1⟩)
    go_ret
    exact ⟨rfl, BEL0.out.trans (hb1.mono (by simp))⟩
  · have hle : n ≤ 500 := by omega
    clear hlt
    go_enter Tryd.func8, Tryd.ntmps8
    go_wp2_with fail
    refine (alive_hash _ (range_below HK.out BEL0.out) (by simp; omega)).mono ?_
    rintro e w1 ⟨rfl, hb1⟩
    have hr3 : w1.rangeAt w.heap.size 0 (u8s ds) := range_below (range_new w (u8s ds) 43) hb1
    have BEL1 := Lib.hid (BEL0.out.trans (hb1.mono (by simp)))
    have HR3 := Lib.hid hr3
    clear hr3 hb1
    go_wp2_with (refine wpList_load_g rfl 43 (.tmp 3) rfl w.heap.size 0 rfl (u8s ds) _ HR3.out Tryd.underlying43 rfl HI.out ?_)
    go_loopw [7, 9, 19] (fun zv _ s wr => ∃ (i : Nat) (zb : Bool), i ≤ 16 ∧ s = .int .i64 i ∧ zv = .bool zb ∧ zb = decide (ds.take i = List.replicate i 0) ∧ wr = w1)
      (fun _ _ s _ => 16 - (intOf s).toNat)
    case atStart => exact ⟨0, true, by omega, rfl, rfl, by simp, rfl⟩
    case round =>
      obtain ⟨i, zb, hi, rfl, rfl, hzb, rfl⟩ := hrel
      by_cases hlt : i < 16
      · obtain ⟨x, hx⟩ : ∃ x, x = ds.getD i 0 := ⟨_, rfl⟩
        have hix : (u8s ds).toArray[(i : Int).toNat]? = some (.int .u8 x) := by
          have := HL.out
          simp [u8s, hx, List.getD_eq_getElem?_getD, show i < ds.length by omega]
        have hs := all_nought ds i (by rw [HL.out]; exact hlt)
        rw [← hzb, ← hx] at hs
        have HS := Lib.hid hs
        have HIX := Lib.hid hix
        have hil : (i : Int) < 16 := by omega
        clear hs hix hx hzb
        by_cases h0 : x = 0
        · subst h0
          cases zb
          all_goals
            go_wp2_with (refine wpList_index_arr rfl 43 5 16 (.tmp 18) (.tmp 19) rfl (u8s ds).toArray .i64 i (.int .u8 0) rfl rfl Tryd.underlying43 _ Tryd.underlying5 rfl (by kernel_rfl) (by omega) (by omega) HIX.out ?_)
            go_roundw
            case rel => exact ⟨i + 1, _, by omega, by go_num, rfl, by rw [HS.out]; rfl, trivial⟩
            case measure => simp [intOf]; omega
        · have hb0 : (x == 0) = false := by simpa using h0
          have hd0 : decide (x = 0) = false := by simpa using h0
          rw [hd0] at HS
          have H0 := Lib.hid h0
          clear hd0 h0
          cases zb
          all_goals
            go_wp2_with (refine wpList_index_arr rfl 43 5 16 (.tmp 18) (.tmp 19) rfl (u8s ds).toArray .i64 i (.int .u8 x) rfl rfl Tryd.underlying43 _ Tryd.underlying5 rfl (by kernel_rfl) (by omega) (by omega) HIX.out ?_)
            go_roundw
            case rel => exact ⟨i + 1, _, by omega, by go_num, rfl, by rw [HS.out]; rfl, trivial⟩
            case measure => simp [intOf]; omega
      · obtain rfl : i = 16 := by omega
        have hz : zb = decide (ds = noughts) := by rw [hzb, List.take_of_length_le (by rw [HL.out]; exact Nat.le_refl _)]; rfl
        have HZ := Lib.hid hz
        clear hz hzb hlt hi
        obtain ⟨F, hF⟩ : ∃ F : List Int, F = [z % 256, (n : Int) / 16777216, (n : Int) / 65536, (n : Int) / 256, (n : Int) % 256] := ⟨_, rfl⟩
        have hfl : F.length = 5 := by rw [hF]; rfl
        have hfr : F ++ bs = framed z [bs] := by
          have e : framed z [bs] = [z % 256] ++ (be4 n ++ bs) := by rw [HN.out]; simp [framed]
          rw [e, hF, be4, show (n : Int) / 16777216 % 256 = (n : Int) / 16777216 by omega, show (n : Int) / 65536 % 256 = (n : Int) / 65536 by omega, show (n : Int) / 256 % 256 = (n : Int) / 256 by omega]
          rfl
        have hsrc : Src Tryd.prog 1 22 (.slice A n c) n (u8s bs) (wr.alloc (.cells (u8s F).toArray 5)) := by
          have := ((HV.out.below BEL1.out).below ((Below.refl _ _).alloc (Nat.le_refl _) (.cells (u8s F).toArray 5))).src
          rwa [← HN.out] at this
        have hown : OwnO (wr.alloc (.cells (u8s F).toArray 5)) wr.heap.size 5 (.slice (some ⟨wr.heap.size, 0, none⟩) 5 5) (u8s F) := own_new5 wr F hfl
        have hok : u8s_ok (F ++ bs) := by
          refine u8s_ok.append (fun b hb => ?_) HV.out.ok
          rw [hF] at hb
          simp only [List.mem_cons, List.not_mem_nil, or_false] at hb
          unfold B8
          omega
        have HSRC := Lib.hid hsrc
        have HOWN := Lib.hid hown
        have HOK := Lib.hid hok
        have HFR := Lib.hid hfr
        have HFL := Lib.hid hfl
        have hz1 : w.heap.size + 1 ≤ wr.heap.size := by have := HR3.out 0 (.int .u8 (ds.getD 0 0)) (by have := HL.out; simp [u8s, List.getD_eq_getElem?_getD, show 0 < ds.length by omega]); exact World.block_lt_of_cell? _ _ this
        clear hsrc hown hok hfr hfl
        have hFl : (u8s F).toArray = #[.int .u8 (z % 256), .int .u8 ((n : Int) / 16777216), .int .u8 ((n : Int) / 65536), .int .u8 ((n : Int) / 256), .int .u8 ((n : Int) % 256)] := by rw [hF]; rfl
        rw [hFl] at HSRC HOWN
        have HF := Lib.hid hF
        clear hF hFl
        go_wp2_with (at_builtin; refine appO (w0 := wr) wr.heap.size rfl (.tmp 43) (.tmp 44) 22 22 5 (.int .u8 0) 1 rfl Tryd.underlying22 Tryd.info5 rfl (by omega) _ (u8s F) rfl (.slice A n c) n (u8s bs) rfl HSRC.out HOWN.out ((Below.refl _ _).alloc (Nat.le_refl _) _) (by simp) (by rw [u8s_len', HFL.out]; omega) ?_; intro v5 w5 ap5; obtain ⟨A5, c5, rfl, hc5⟩ := ap5.own.len; have AP := Lib.hid ap5; clear ap5 hc5)
        have hown5 : OwnO w5 wr.heap.size 5 (.slice A5 ((u8s F).length + (u8s bs).length) c5) (u8s (F ++ bs)) := by
          have h1 := AP.out.own
          rw [List.length_append] at h1
          rwa [show u8s F ++ u8s bs = u8s (F ++ bs) by simp [u8s]] at h1
        have hbs5 := Bs.of_own hown5 HOK.out
        have bel5 : Below w.heap.size w w5 := BEL1.out.trans (AP.out.below.mono BEL1.out.size)
        have bel5x : Below wr.heap.size wr w5 := AP.out.below
        have hfl2 : (F ++ bs).length ≤ 1099511627776 := by rw [List.length_append, HFL.out, ← HN.out]; omega
        refine (sumF_bs (F ++ bs) _ w5 hbs5 hfl2 (range_below HK.out bel5) (by have := bel5.size; omega)).mono ?_
        rintro e w6 ⟨rfl, hb6⟩
        have BEL6 := Lib.hid (bel5.trans (hb6.mono bel5.size))
        have BEX6 := Lib.hid (bel5x.trans (hb6.mono bel5x.size))
        have HFL2 := Lib.hid hfl2
        clear hown5 hbs5 bel5 bel5x hb6 hfl2 AP HSRC HOWN
        obtain ⟨OUT, hOUT⟩ : ∃ o, o = sha (F ++ bs) := ⟨_, rfl⟩
        have hol : OUT.length = 32 := by rw [hOUT, sha_len]
        have hi25 : (Tryd.prog.info? 25).map (·.size) = some (u8s OUT).length := by rw [u8s_len', hol]; exact Tryd.size25
        have hhz : ∀ Z : Array Value, Z.size = 32 → Has (w6.alloc (.cells Z 25)) w6.heap.size 25 (u8s OUT).length := fun Z hZ => has_new w6 _ _ _ (by rw [hZ, u8s_len', hol])
        rw [← hOUT]
        have HOUT := Lib.hid hOUT
        have HOL := Lib.hid hol
        have HI25 := Lib.hid hi25
        have HZ25 := Lib.hid hhz
        clear hOUT hol hi25 hhz
        go_wp2_with (refine wpList_store_row rfl 25 (.tmp 11) (.tmp 46) rfl w6.heap.size rfl (u8s OUT) rfl 25 (HZ25.out _ rfl) HI25.out (one_u8s _) ?_; intro w7 hp7; have P7 := Lib.hid hp7; clear hp7)
        have bel7 : Below w.heap.size w w7 := P7.out.below (BEL6.out.alloc BEL6.out.size _) BEL6.out.size
        have bex7 : Below wr.heap.size wr w7 := P7.out.below (BEX6.out.alloc BEX6.out.size _) BEX6.out.size
        have hbss : Bss (w7.alloc (.cells #[.slice A n c] 22)) (.slice (some ⟨w7.heap.size, 0, none⟩) 1 1) [bs] := by
          refine ⟨⟨_, _, rfl⟩, fun _ => ⟨w7.heap.size, 0, 1, rfl, by simp, by unfold maxLen; omega, by simp, fun i hi => ?_⟩⟩
          obtain rfl : i = 0 := by simpa using hi
          refine ⟨.slice A n c, by rw [cell_of_row _ _ _ _ _ _ (heap_alloc_new _ _)]; rfl, ?_⟩
          exact (HV.out.below bel7).below ((Below.refl _ _).alloc (Nat.le_refl _) _)
        have bel8 : Below w.heap.size w (w7.alloc (.cells #[.slice A n c] 22)) := bel7.alloc bel7.size _
        refine (of_any z [bs] _ 1 1 _ hbss rfl (by rw [← HFR.out]; exact HFL2.out) (range_below HK.out bel8) (by have := bel8.size; omega)).mono ?_
        rintro e w9 ⟨rfl, hb9⟩
        obtain ⟨SH, hSH⟩ : ∃ s, s = short z [bs] := ⟨_, rfl⟩
        have hsl : SH.length = 16 := by rw [hSH, short_len]
        have hst : SH = OUT.take 16 := by rw [hSH, HOUT.out, HFR.out]; rfl
        have hi43' : (Tryd.prog.info? 43).map (·.size) = some (u8s SH).length := by rw [u8s_len', hsl]; exact Tryd.size43
        have hh43 : ∀ Z : Array Value, Z.size = 16 → Has (w9.alloc (.cells Z 43)) w9.heap.size 43 (u8s SH).length := fun Z hZ => has_new w9 _ _ _ (by rw [hZ, u8s_len', hsl])
        have b11k : w9.heap[w6.heap.size]? = some (.cells (u8s OUT).toArray 25 (0, 0)) := by
          have h7 := P7.out.blk
          have hl7 := blk_lt h7
          exact (hb9.block _ (by simp; omega)).trans ((Below.heap_alloc w7 _ _ hl7).trans h7)
        have bel9 := bel8.trans (hb9.mono (by have := bel8.size; omega))
        have bex9 : Below wr.heap.size wr w9 := (bex7.alloc bex7.size _).trans (hb9.mono (by have := bex7.size; simp; omega))
        rw [← hSH]
        have HSH := Lib.hid hst
        have HSL := Lib.hid hsl
        have HI43 := Lib.hid hi43'
        have HH43 := Lib.hid hh43
        have B11 := Lib.hid b11k
        have BEL9 := Lib.hid bel9
        have BEX9 := Lib.hid bex9
        clear hSH hsl hst hi43' hh43 b11k bel9 bex9 hb9 bel8 hbss bel7 bex7 P7 BEL6 BEX6 HZ25 HI25
        go_wp2_with (refine wpList_store_row rfl 43 (.tmp 12) (.tmp 50) rfl w9.heap.size rfl (u8s SH) rfl 43 (HH43.out _ rfl) HI43.out (one_u8s _) ?_; intro w10 hp10; have P10 := Lib.hid hp10; clear hp10)
        have bel10 : Below w.heap.size w w10 := P10.out.below (BEL9.out.alloc BEL9.out.size _) BEL9.out.size
        have bex10 : Below wr.heap.size wr w10 := P10.out.below (BEX9.out.alloc BEX9.out.size _) BEX9.out.size
        have b11' : w10.heap[w6.heap.size]? = some (.cells (u8s OUT).toArray 25 (0, 0)) := by
          have hl := blk_lt B11.out
          exact (P10.out.other _ (by omega)).trans ((Below.heap_alloc w9 _ _ hl).trans B11.out)
        have hr3f : w10.rangeAt w.heap.size 0 (u8s ds) := range_below HR3.out bex10
        obtain ⟨SS, hSS⟩ : ∃ s, s = strOfNums SH := ⟨_, rfl⟩
        obtain ⟨b11, hb11⟩ : ∃ b, b = w6.heap.size := ⟨_, rfl⟩
        obtain ⟨b12, hb12⟩ : ∃ b, b = w9.heap.size := ⟨_, rfl⟩
        have c12 : ∀ W, Ext w10 W → (convert 22 9 (.slice (some ⟨b12, 0, none⟩) 16 16)).run Tryd.prog W = .ok (.string SS) W := fun W hE => by
          rw [hSS, hb12]
          refine run_convert_bytes_arg W 22 5 Tryd.underlying22 Tryd.underlying5 w9.heap.size 0 16 16 SH HSL.out (fun i hi => ?_) 9 Tryd.underlying9
          rw [Nat.zero_add]
          refine cell_on hE (blk_cell P10.out.blk i _ ?_)
          have := HSL.out
          simp [u8s, List.getD_eq_getElem?_getD, show i < SH.length by omega]
        have c11 : ∀ W, Ext w10 W → (convert 22 9 (.slice (some ⟨b11, 0, none⟩) 16 32)).run Tryd.prog W = .ok (.string SS) W := fun W hE => by
          rw [hSS, hb11]
          refine run_convert_bytes_arg W 22 5 Tryd.underlying22 Tryd.underlying5 w6.heap.size 0 16 32 SH HSL.out (fun i hi => ?_) 9 Tryd.underlying9
          rw [Nat.zero_add]
          refine cell_on hE (blk_cell b11' i _ ?_)
          have := HOL.out
          rw [HSH.out]
          simp [u8s, List.getD_eq_getElem?_getD, hi, show i < OUT.length by omega]
        rw [← hb11, ← hb12]
        have C11 := Lib.hid c11
        have C12 := Lib.hid c12
        have HR3F := Lib.hid hr3f
        have BEL10 := Lib.hid bel10
        clear c11 c12 hr3f bel10 bex10 b11' P10 hb11 hb12 hSS B11 BEL9 BEX9 HH43 HI43
        go_wp2_with fail
        refine wp_region_rely (by kernel_rfl) 11 (by kernel_rfl) (by kernel_rfl) Ext Ext.refl Ext.trans (fun i => match i with
          | 0 => fun _ v => v = .agg (u8s ds).toArray
          | 1 => fun _ v => v = .bool zb
          | 2 => fun _ v => v = .bool zb
          | 3 => fun _ v => v = .bool true
          | 4 => fun _ v => v = .bool true
          | 5 => fun _ v => v = .slice (some ⟨b12, 0, none⟩) 16 16
          | 6 => fun _ v => v = .string SS
          | 7 => fun _ v => v = .slice (some ⟨b11, 0, none⟩) 16 32
          | 8 => fun _ v => v = .string SS
          | 9 => fun _ v => v = .bool true
          | 10 => fun _ v => v = .bool true
          | _ => fun _ _ => False) ?_
        simp (maxSteps := 10000000) only [Rely, List.take_succ_cons, List.take_zero, List.drop_succ_cons, List.drop_zero, Nat.reduceAdd, Nat.zero_add, Act.put, List.setIfInBounds_toArray, List.set_cons_succ, List.set_cons_zero]
        refine ⟨?_, ?_, ?_, ?_, ?_, ?_, ?_, ?_, ?_, ?_, ?_, ?_⟩
        · refine step_plain rfl fun vs w1 hE hd => ?_
          exact gives_load_row 43 _ rfl w.heap.size 0 rfl (u8s ds) _ (range_below HR3F.out (ext_of_drew hE)) Tryd.underlying43 rfl HI.out ⟨Ext.refl _, fun _ _ => rfl⟩
        · refine step_plain rfl fun vs w1 hE hd => ?_
          refine gives_call 35 Tryd.call35 _ _ rfl rfl [.agg (u8s ds).toArray] (congrArg (fun x => [x]) (hd.1)) ?_
          refine (zero_any ds HL.out w1).mono ?_
          rintro e w2 ⟨rfl, hb⟩
          exact ⟨_, rfl, hb, fun _ _ => congrArg Value.bool HZ.out.symm⟩
        · refine step_plain rfl fun vs w1 hE hd => ?_
          exact gives_move _ (.bool zb) (.inl rfl) rfl ⟨Ext.refl _, fun _ _ => rfl⟩
        · refine step_plain rfl fun vs w1 hE hd => ?_
          exact gives_binOp .eql 4 _ _ _ rfl (.bool zb) (.bool zb) (.bool true) (show vs 1 = _ from hd.1) (show vs 2 = _ from hd.2.1) (by go_simp) (by go_simp) ⟨Ext.refl _, fun _ _ => rfl⟩
        · refine step_plain rfl fun vs w1 hE hd => ?_
          exact gives_move _ (.bool true) (.inl rfl) (show vs 3 = _ from hd.1) ⟨Ext.refl _, fun _ _ => rfl⟩
        · refine step_guard 4 true 55 rfl rfl (fun _ => rfl) fun vs w1 hE hd => ⟨hd.1, ?_⟩
          exact gives_slice 43 _ _ _ _ rfl (.pointer (some ⟨b12, 0, none⟩)) _ none none none rfl rfl rfl rfl (by go_simp) ⟨Ext.refl _, fun _ _ => rfl⟩
        · refine step_guard 4 true 55 rfl rfl (fun _ => rfl) fun vs w1 hE hd => ⟨hd.2.1, ?_⟩
          exact gives_convert 22 9 _ rfl (.slice (some ⟨b12, 0, none⟩) 16 16) _ (show vs 5 = _ from (hd.1)) (C12.out w1 (ext_of_drew hE)) ⟨Ext.refl _, fun _ _ => rfl⟩
        · refine step_guard 4 true 55 rfl rfl (fun _ => rfl) fun vs w1 hE hd => ⟨hd.1, ?_⟩
          exact gives_slice 25 _ _ _ _ rfl (.pointer (some ⟨b11, 0, none⟩)) _ none (some (.int .i64 16)) none rfl rfl rfl rfl (by go_simp) ⟨Ext.refl _, fun _ _ => rfl⟩
        · refine step_guard 4 true 55 rfl rfl (fun _ => rfl) fun vs w1 hE hd => ⟨hd.2.1, ?_⟩
          exact gives_convert 22 9 _ rfl (.slice (some ⟨b11, 0, none⟩) 16 32) _ (show vs 7 = _ from (hd.1)) (C11.out w1 (ext_of_drew hE)) ⟨Ext.refl _, fun _ _ => rfl⟩
        · refine step_guard 4 true 55 rfl rfl (fun _ => rfl) fun vs w1 hE hd => ⟨hd.2.2.1, ?_⟩
          exact gives_binOp .eql 9 _ _ _ rfl (.string SS) (.string SS) (.bool true) (show vs 6 = _ from hd.1) (show vs 8 = _ from hd.2.1) (by go_simp) (by go_simp) ⟨Ext.refl _, fun _ _ => rfl⟩
        · refine step_plain rfl fun vs w1 hE hd => ?_
          exact gives_pick _ _ _ (.bool true) true rfl (show vs 4 = _ from hd.1) (show vs 9 = _ from hd.2.1) ⟨Ext.refl _, fun _ _ => rfl⟩
        · intro vs w2 hE hR
          have h10 : vs 10 = .bool true := hR 10 (by omega)
          rw [h10]
          have hfin : Below w.heap.size w w2 := BEL10.out.drew.trans (hE.mono (by have := BEL10.out.size; simpa using this))
          clear hR hE
          go_wp2
          go_ret
          exact ⟨rfl, hfin⟩
end Go.Proofs.YtdedphhohiioiaaDoor
