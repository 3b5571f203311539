/- The law HashPieces, walked. -/
import Derived.Test.YtdedphhohiioiaaDoorRefOf
namespace Go.Proofs.YtdedphhohiioiaaDoor
open Go.RowKit

def flat (ps : List (List Int)) (i : Nat) : List Int := (ps.take i).flatten
theorem flat_succ (ps : List (List Int)) (i : Nat) (h : i < ps.length) : flat ps (i + 1) = flat ps i ++ ps.getD i [] := by
  unfold flat
  rw [List.take_succ_eq_append_getElem h, List.flatten_append]
  simp [List.getD_eq_getElem?_getD, h]

/-- Cells that may be written. -/
structure Wrt (w : World) (g off k : Nat) : Prop where
  has : ∃ cur fr, w.heap[g]? = some (.cells cur 5 fr) ∧ off + k ≤ cur.size ∧ (fr.2 ≤ fr.1 ∨ cur.size ≤ fr.1)
theorem Wrt.cell {w : World} {g off k : Nat} (h : Wrt w g off k) (j : Nat) (hj : j < k) : (∃ z, w.cell? ⟨g, off + j, none⟩ = some z) ∧ w.frozen? ⟨g, off + j, none⟩ = false := by
  obtain ⟨cur, fr, hg, h1, h2⟩ := h.has
  constructor
  · refine ⟨cur[off + j]'(by omega), ?_⟩
    simp only [World.cell?, hg]
    simp [Array.getElem?_eq_getElem (by omega : off + j < cur.size)]
  · simp only [World.frozen?, hg]
    rcases h2 with h2 | h2
    · simp; omega
    · simp; omega
theorem Wrt.lt {w : World} {g off k : Nat} (h : Wrt w g off k) : g < w.heap.size := by
  obtain ⟨cur, fr, hg, _⟩ := h.has
  exact blk_lt hg
theorem Wrt.same {w w' : World} {g off k : Nat} (h : Wrt w g off k) (hs : w'.heap[g]? = w.heap[g]?) : Wrt w' g off k := by
  obtain ⟨cur, fr, hg, h1, h2⟩ := h.has
  exact ⟨cur, fr, hs.trans hg, h1, h2⟩
theorem Wrt.set {w : World} {g off k : Nat} (h : Wrt w g off k) (i : Nat) (v : Value) : Wrt (w.setCell ⟨g, i, none⟩ v) g off k := by
  obtain ⟨cur, fr, hg, h1, h2⟩ := h.has
  refine ⟨cur.setIfInBounds i v, fr, ?_, by simpa using h1, by simpa using h2⟩
  simp only [World.setCell, Array.getElem?_modify, hg]
  simp
theorem HashAt.set {base hb g i : Nat} {w : World} {m : List Int} {rv x : Value} (h : HashAt base w hb m rv) (h1 : g ≠ hb) (h2 : rv.ownBlock ≠ some g) : HashAt base (w.setCell ⟨g, i, none⟩ x) hb m rv :=
  ⟨(heap_setCell_other w ⟨g, i, none⟩ hb x (fun e => h1 e.symm)).trans h.blk, h.own.kept (row := some g) ⟨rfl, rfl, rfl, by simp, fun k _ hne => heap_setCell_other w ⟨g, i, none⟩ k x (fun e => hne (by rw [e]))⟩ (fun k hk e => h2 (hk.trans e.symm)), h.ne, h.bytes, h.small⟩
theorem Roomy.wrt {w : World} {base : Nat} {v : Value} {bs : List Int} (h : Roomy w base v bs) : ∃ g off c, v = .slice (some ⟨g, off, none⟩) bs.length c ∧ base ≤ g ∧ Wrt w g off bs.length := by
  obtain ⟨⟨g, off, c, rfl, h1, h2, h3⟩, hk⟩ := h
  rcases h3 with ⟨h3, _⟩ | ⟨g', off', cap, cur, fr, he, hb, hg, hnc, hm, hs, ht, hf⟩
  · cases h3
  · simp only [Value.slice.injEq, Option.some.injEq, Addr.mk.injEq] at he
    obtain ⟨⟨rfl, rfl, -⟩, -, rfl⟩ := he
    exact ⟨g, off, c, rfl, hb, ⟨cur, fr, hg, by omega, hf⟩⟩

set_option maxHeartbeats 4000000 in
set_option maxRecDepth 100000 in
theorem hashPieces_any (ps : List (List Int)) (A : Option Addr) (n c : Nat) (w : World) (hv : Bss w (.slice A n c) ps) (hn : n = ps.length) (hk : w.rangeAt 18 0 (u32s kk)) (h18 : 18 < w.heap.size) :
    Calls Tryd.prog 4 #[.slice A n c] w fun e w' => e = .returned (.bool true) ∧ Below w.heap.size w w' := by
  have HK := Lib.hid hk
  have HV := Lib.hid hv
  have HN := Lib.hid hn
  clear hk hv hn
  by_cases hlt : 20 < n
  · go_enter Tryd.func4, Tryd.ntmps4
    go_wp2_with (refine (alive_hash _ HK.out h18).mono ?_; rintro e w1 ⟨rfl, hb1⟩)
    go_ret
    exact ⟨rfl, hb1⟩
  · have hle : n ≤ 20 := by omega
    clear hlt
    go_enter Tryd.func4, Tryd.ntmps4
    go_wp2_with fail
    refine (alive_hash _ HK.out h18).mono ?_
    rintro e w1 ⟨rfl, hb1⟩
    have BA := Lib.hid hb1
    clear hb1
    go_wp2_with fail
    refine (new_any _).mono ?_
    rintro e w2 ⟨hb, rfl, hlt, hat, hb2⟩
    obtain ⟨B, hB⟩ : ∃ B, B = w1.heap.size := ⟨_, rfl⟩
    rw [← hB] at hlt hat hb2
    have h0 : w.heap.size ≤ B := by rw [hB]; exact BA.out.size
    have hW : Below w.heap.size w w2 := BA.out.trans (hb2.mono h0)
    have hB18 : 18 < B := by omega
    have HW := Lib.hid hW
    have HAT := Lib.hid hat
    have HLT := Lib.hid hlt
    obtain ⟨O0, hO0⟩ : ∃ o, o = sha [] := ⟨_, rfl⟩
    have hsame0 := run_same32 O0 (by rw [hO0, sha_len])
    have HO0 := Lib.hid hO0
    clear hB hW BA hat hlt hb2 hO0
    go_wp2_with fail
    refine (sumM_any B hb [] _ w2 HAT.out (range_below HK.out HW.out)).mono ?_
    rintro e w3 ⟨rfl, hb3⟩
    rw [← HO0.out]
    have hW3 : Below w.heap.size w w3 := HW.out.trans (hb3.mono HW.out.size)
    have HAT3 := Lib.hid (HAT.out.below hb3)
    have HW3 := Lib.hid hW3
    clear hb3 hW3 HAT HW
    go_wp2_with fail
    refine (refsum_any ⟨#[]⟩ (by decide) w3).mono ?_
    rintro e w4 ⟨rfl, hb4⟩
    rw [show sha (sb ⟨#[]⟩) = O0 by rw [HO0.out]; rfl]
    have hW4 : Below w.heap.size w w4 := HW3.out.trans (hb4.mono HW3.out.size)
    have HAT4 := Lib.hid (HAT3.out.below hb4)
    have HW4 := Lib.hid hW4
    clear hb4 hW4 HAT3 HW3
    go_wp2
    have hs0 : sb ⟨#[]⟩ = flat ps 0 := rfl
    have HS0 := Lib.hid hs0
    clear hs0 hsame0
    go_loopw [4, 25] (fun s k wr => ∃ (i : Nat) (rv : Value) (S : ByteArray), i ≤ n ∧ s = .string S ∧ k = .int .i64 i ∧ Hid (HashAt B wr hb (flat ps i) rv) ∧ Hid (Below w.heap.size w wr) ∧ Hid (sb S = flat ps i) ∧ Hid ((flat ps i).length ≤ 200 * i))
      (fun _ k _ => n - (intOf k).toNat)
    case atStart => exact ⟨0, _, ⟨#[]⟩, by omega, rfl, rfl, HAT4, HW4, HS0, Lib.hid (by simp [flat])⟩
    case round =>
      clear HAT4 HW4 HS0
      obtain ⟨i, rv, S, hi, rfl, rfl, hat, hbel, hS, hlen⟩ := hrel
      by_cases hlt : i < n
      · have hi2 : i < ps.length := by have := HN.out; omega
        obtain ⟨b, off, c', e1, _, _, h3', h4⟩ := HV.out.cells (by intro e; rw [e] at hi2; simp at hi2)
        obtain ⟨pv, hpv, hbs⟩ := h4 i hi2
        have hfs := flat_succ ps i hi2
        obtain ⟨p, hp⟩ : ∃ p, p = ps.getD i [] := ⟨_, rfl⟩
        rw [← hp] at hbs hfs
        simp only [Value.slice.injEq] at e1
        obtain ⟨rfl, -, rfl⟩ := e1
        have hc := (hbel.out.cell (p := ⟨b, off + i, none⟩) h3').trans hpv
        obtain ⟨PA, pc, rfl⟩ := hbs.form
        obtain ⟨m, hm⟩ : ∃ m, m = p.length := ⟨_, rfl⟩
        rw [← hm] at hc hbs
        have HBS := Lib.hid hbs
        have HFS := Lib.hid hfs
        have HM := Lib.hid hm
        have hil : (i : Int) < n := by omega
        clear hp hm hbs hpv h4 h3' hi2 hfs
        by_cases h200 : 200 < m
        · go_wp2
          go_ret
          exact ⟨rfl, hbel.out⟩
        · have hm2 : m ≤ 200 := by omega
          have hmi : ¬ (200 : Int) < m := by omega
          have hszr : B ≤ wr.heap.size := by have := blk_lt hat.out.blk; have := HLT.out; omega
          have hhb : hb < wr.heap.size := blk_lt hat.out.blk
          clear h200
          go_wp2_with fail
          refine (bytes_any p PA m pc wr (HBS.out.below hbel.out) HM.out (by omega)).mono ?_
          rintro e w5 ⟨V, rfl, hroom, hb5⟩
          have hat5 := hat.out.below hb5
          have hW5 : Below w.heap.size w w5 := hbel.out.trans (hb5.mono hbel.out.size)
          have HR := Lib.hid hroom
          have HAT5 := Lib.hid hat5
          have HW5 := Lib.hid hW5
          have HZ5 : Hid (wr.heap.size ≤ w5.heap.size) := Lib.hid hb5.size
          have hrvlt : ∀ k, rv.ownBlock = some k → k < wr.heap.size := fun k hk => (hat.out.own.lt k hk).2
          have HRV := Lib.hid hrvlt
          clear hroom hat5 hW5 hb5 hat hbel hrvlt
          go_wp2_with fail
          obtain ⟨g, goff, gc, rfl, hgb, hwr⟩ := HR.out.wrt
          refine (write_bs B hb (flat ps i) p rv _ w5 HAT5.out HR.out.bs (by simp only [Value.ownBlock, ne_eq, Option.some.injEq]; omega) (by have := hlen.out; have := HM.out; omega) (range_below HK.out HW5.out) hB18 HLT.out).mono ?_
          rintro e w6 ⟨rfl, rv6, hat6, hpl6, honly6⟩
          rw [← HFS.out] at hat6
          have hg5 : g < w5.heap.size := hwr.lt
          have hwr6 : Wrt w6 g goff p.length := hwr.same (honly6.block g hg5 (by omega) (fun e => by have := HRV.out g e.symm; omega))
          have hW6 : Below w.heap.size w w6 := HW5.out.trans ((honly6.low HAT5.out HLT.out (by have := HZ5.out; omega)).mono h0)
          have hrg : rv6.ownBlock ≠ some g := by
            rcases hpl6 with h | ⟨b6, h, hb6⟩
            · rw [h]; intro e; have := HRV.out g e; omega
            · rw [h]; simp only [ne_eq, Option.some.injEq]; omega
          rw [← HM.out] at hwr6 HR
          rw [← HM.out]
          have hgw : w.heap.size ≤ g := by omega
          have hghb : g ≠ hb := by omega
          have HAT6 := Lib.hid hat6
          have HWR6 := Lib.hid hwr6
          have HW6 := Lib.hid hW6
          have HRG := Lib.hid hrg
          clear hat6 hwr6 hW6 hrg hpl6 honly6 hg5 hwr hgb HR HAT5 HW5 HZ5 HRV
          go_wp2_with fail
          obtain ⟨wo, rfl⟩ : ∃ wo : World, wo = w6 := ⟨_, rfl⟩
          go_loopw [8, 39] (fun _ s wr => ∃ (j : Nat), j ≤ m ∧ s = .int .i64 j ∧ Hid (HashAt B wr hb (flat ps (i + 1)) rv6) ∧ Hid (Wrt wr g goff m) ∧ Hid (Below w.heap.size w wr))
            (fun _ s _ => m - (intOf s).toNat)
          case atStart => exact ⟨0, by omega, rfl, HAT6, HWR6, HW6⟩
          case round =>
            clear HAT6 HWR6 HW6
            obtain ⟨j, hj, rfl, hat, hwr, hbel⟩ := hrel
            by_cases hjm : j < m
            · obtain ⟨⟨z0, d0⟩, d1⟩ := hwr.out.cell j hjm
              have F1 : Hid (HashAt B (wr.setCell ⟨g, goff + j, none⟩ (.int .u8 77)) hb (flat ps (i + 1)) rv6) := Lib.hid (hat.out.set hghb HRG.out)
              have F2 : Hid (Wrt (wr.setCell ⟨g, goff + j, none⟩ (.int .u8 77)) g goff m) := Lib.hid (hwr.out.set _ _)
              have F3 : Hid (Below w.heap.size w (wr.setCell ⟨g, goff + j, none⟩ (.int .u8 77))) := Lib.hid (hbel.out.setCell (by simpa using hgw) _)
              have hjmi : (j : Int) < m := by omega
              clear hat hwr hbel
              go_wp2
              go_roundw
              case rel => exact ⟨j + 1, by omega, by go_num, F1, F2, F3⟩
              case measure => simp [intOf]; omega
            · obtain rfl : j = m := by omega
              have HBW := Lib.hid (HBS.out.below hbel.out)
              obtain ⟨X, hX⟩ : ∃ X, X = strOfNums p := ⟨_, rfl⟩
              have hXs : sb X = p := by rw [hX]; exact sb_str p HBS.out.ok
              have hSX : sb (S ++ X) = flat ps (i + 1) := by rw [sb_append, hS.out, hXs, HFS.out]
              have hSXl : (flat ps (i + 1)).length ≤ 200 * (i + 1) := by rw [HFS.out, List.length_append, ← HM.out]; have := hlen.out; omega
              have hSXz : (S ++ X).size ≤ 4200 := by rw [← sb_len, hSX]; omega
              obtain ⟨OUT, hOUT⟩ : ∃ o, o = sha (flat ps (i + 1)) := ⟨_, rfl⟩
              have hsame := run_same32 OUT (by rw [hOUT, sha_len])
              have hz1 : S.size + X.size ≤ 2199023255552 := by rw [← size_append]; omega
              have HX := Lib.hid hX
              have HSX := Lib.hid hSX
              have HSXL := Lib.hid hSXl
              have HSXZ := Lib.hid hSXz
              have HOUT := Lib.hid hOUT
              have HZ1 := Lib.hid hz1
              clear hX hXs hSX hSXl hSXz hOUT hz1 hwr
              go_wp2_with (first | (refine wpList_conv_str rfl (.tmp 47) rfl (.slice PA j pc) p rfl HBW.out ?_; rw [← HX.out]) | (refine wpList_add_str rfl 9 (.tmp 46) (.tmp 48) _ rfl S X rfl rfl HZ1.out ?_))
              obtain ⟨S1, hS1⟩ : ∃ s, s = S ++ X := ⟨_, rfl⟩
              rw [← hS1] at HSX HSXZ
              rw [← hS1]
              clear hS1 HX HZ1 HBW
              refine (sumM_any B hb _ rv6 wr hat.out (range_below HK.out hbel.out)).mono ?_
              rintro e w7 ⟨rfl, hb7⟩
              rw [← HOUT.out]
              have HAT7 := Lib.hid (hat.out.below hb7)
              have HW7 := Lib.hid (hbel.out.trans (hb7.mono hbel.out.size))
              clear hb7 hat hbel
              go_wp2_with fail
              refine (refsum_any S1 (by have := HSXZ.out; omega) w7).mono ?_
              rintro e w8 ⟨rfl, hb8⟩
              rw [HSX.out, ← HOUT.out]
              have HAT8 := Lib.hid (HAT7.out.below hb8)
              have HW8 := Lib.hid (HW7.out.trans (hb8.mono HW7.out.size))
              clear hb8 HAT7 HW7
              go_wp2_with fail
              refine (sumM_any B hb _ rv6 w8 HAT8.out (range_below HK.out HW8.out)).mono ?_
              rintro e w9 ⟨rfl, hb9⟩
              rw [← HOUT.out]
              have HAT9 := Lib.hid (HAT8.out.below hb9)
              have HW9 := Lib.hid (HW8.out.trans (hb9.mono HW8.out.size))
              clear hb9 HAT8 HW8
              go_wp2_with (refine wpList_conv_own (w0 := w9) w9.heap.size rfl 9 22 5 (.tmp 58) rfl S1 rfl Tryd.underlying9 Tryd.underlying22 Tryd.underlying5 (by have := HSXZ.out; omega) (Below.refl _ _) (Nat.le_refl _) ?_; intro A10 c10 w10 own10 bel10)
              have hs1l : (sb S1).length = S1.size := sb_len S1
              have hbs10 : Bs w10 (.slice A10 S1.size c10) (sb S1) := Bs.of_own own10 (sb_ok S1)
              have HB10 := Lib.hid hbs10
              have HAT10 := Lib.hid (HAT9.out.below bel10)
              have HW10 := Lib.hid (HW9.out.trans (bel10.mono HW9.out.size))
              clear bel10 own10 hbs10 HAT9 HW9
              refine (sumF_bs (sb S1) (.slice A10 S1.size c10) w10 HB10.out (by rw [hs1l]; have := HSXZ.out; omega) (range_below HK.out HW10.out) (by have := HW10.out.size; omega)).mono ?_
              rintro e w11 ⟨rfl, hb11⟩
              rw [HSX.out, ← HOUT.out]
              have HAT11 := Lib.hid (HAT10.out.below hb11)
              have HW11 := Lib.hid (HW10.out.trans (hb11.mono HW10.out.size))
              clear hb11 HAT10 HW10
              go_wp2
              go_roundw
              case rel => exact ⟨i + 1, rv6, S1, by omega, rfl, by go_num, HAT11, HW11, HSX, HSXL⟩
              case measure => simp [intOf]; omega
      · go_wp2
        go_ret
        exact ⟨rfl, hbel.out⟩
end Go.Proofs.YtdedphhohiioiaaDoor
