/- What the method Write of a hash does. -/
import Derived.Test.YtdedphhohiioiaaDoorHash
import Derived.StillTailTactics
namespace Go.Proofs.YtdedphhohiioiaaDoor
open Go.RowKit

/-- Only block hb, and block r if there is one, have been written. -/
structure Only (hb : Nat) (r : Option Nat) (w w' : World) : Prop where
  os : w'.os = w.os
  tape : w'.tape = w.tape
  output : w'.output = w.output
  size : w.heap.size ≤ w'.heap.size
  block : ∀ k, k < w.heap.size → k ≠ hb → some k ≠ r → w'.heap[k]? = w.heap[k]?
theorem Only.below {hb B : Nat} {r : Option Nat} {w w' : World} (h : Only hb r w w') (h1 : B ≤ hb) (h2 : ∀ k, r = some k → B ≤ k) (h3 : B ≤ w.heap.size) : Below B w w' :=
  ⟨h.os, h.tape, h.output, h.size, fun k hk => h.block k (by omega) (by omega) (fun e => by have := h2 k e.symm; omega)⟩

theorem range_base {w w' : World} {B b o : Nat} {cs : List Value} (h : w.rangeAt b o cs) (hb : Below B w w') (hlt : b < B) : w'.rangeAt b o cs :=
  fun j v hv => (hb.cell (p := ⟨b, o + j, none⟩) hlt).trans (h j v hv)

def restLen (w : World) (hb : Nat) : Nat := match w.cell? ⟨hb, 8, none⟩ with
  | some (.slice _ n _) => n
  | _ => 0

theorem grown_set {w w1 : World} {hb i : Nat} (h : w.grownBy w1 (some hb)) (v : Value) : w.grownBy (w1.setCell ⟨hb, i, none⟩ v) (some hb) :=
  ⟨h.os, h.tape, h.output, by have := h.size; simpa using this, fun k hk hne => (heap_setCell_other w1 ⟨hb, i, none⟩ k v (fun e => hne (by rw [e]))).trans (h.block k hk hne)⟩
theorem Only.grown {hb : Nat} {r : Option Nat} {w w1 w2 : World} (h : Only hb r w w1) (hg : w1.grownBy w2 (some hb)) : Only hb r w w2 :=
  ⟨hg.os.trans h.os, hg.tape.trans h.tape, hg.output.trans h.output, Nat.le_trans h.size hg.size, fun k hk h1 h2 => (hg.block k (Nat.lt_of_lt_of_le hk h.size) (fun e => h1 (Option.some.inj e))).trans (h.block k hk h1 h2)⟩

/-- What a round of Write leaves. -/
theorem write_step {w wr w3 : World} {base hb q k c3 g off : Nat} {M : List Int} {N : Nat} {cnt nv : Value} {r : Option Nat} {a : Addr} (ha : a.block = g) (hk : 64 ≤ k) (hlen : (M.drop (64 * q)).length = k) (hkq : 64 * q + k = N)
    (hown : OwnO wr base 5 nv (u8s (M.drop (64 * (q + 1))))) (hnv : nv = .slice (some a) (k - 64) (c3 - 64))
    (honly : Only hb r w wr) (hgb : g ≠ hb) (hb3 : w3.heap[hb]? = some (.cells (u32s ((stN M q).comp ((M.drop (64 * q)).take 64)).list ++ [Value.slice (some ⟨g, off, none⟩) k c3, cnt]).toArray 111 (0, 0)))
    (hg3 : wr.drew.grownBy w3 (some hb)) :
    64 * (q + 1) + (k - 64) = N ∧ (w3.setCell ⟨hb, 8, none⟩ nv).heap[hb]? = some (.cells (u32s (stN M (q + 1)).list ++ [nv, cnt]).toArray 111 (0, 0)) ∧
      OwnO (w3.setCell ⟨hb, 8, none⟩ nv) base 5 nv (u8s (M.drop (64 * (q + 1)))) ∧ Only hb r w (w3.setCell ⟨hb, 8, none⟩ nv) ∧ restLen (w3.setCell ⟨hb, 8, none⟩ nv) hb = k - 64 := by
  have hg' : wr.grownBy w3 (some hb) := ⟨hg3.os, hg3.tape, hg3.output, hg3.size, hg3.block⟩
  have hblk : (w3.setCell ⟨hb, 8, none⟩ nv).heap[hb]? = some (.cells (u32s (stN M (q + 1)).list ++ [nv, cnt]).toArray 111 (0, 0)) := by
    rw [blk_set hb3 8 nv]
    rfl
  refine ⟨by omega, hblk, ?_, honly.grown (grown_set hg' nv), ?_⟩
  · refine hown.kept (grown_set hg' nv) (fun b hb' e => ?_)
    rw [hnv] at hb'
    simp only [Value.ownBlock, Option.some.injEq] at hb' e
    omega
  · unfold restLen
    rw [blk_cell hblk 8 nv rfl, hnv]

set_option maxHeartbeats 4000000 in
set_option maxRecDepth 100000 in
theorem write_any (base hb : Nat) (m bs : List Int) (rv : Value) (A : Option Addr) (n c : Nat) (w : World) (H : HashAt base w hb m rv) (hbs : u8s_ok bs) (hn : n = bs.length) (hsm : m.length + bs.length ≤ 1099511627776)
    (hsrc : ∀ w', (∀ k, k < w.heap.size → k ≠ hb → w'.heap[k]? = w.heap[k]?) → Src Tryd.prog 1 22 (.slice A n c) n (u8s bs) w') (hk : w.rangeAt 18 0 (u32s kk)) (hg1 : 18 < base) (hbase : base ≤ hb) :
    Calls Tryd.prog 32 #[.pointer (some ⟨hb, 0, none⟩), .slice A n c] w fun e w' => e = .returned (.tuple #[]) ∧
      ∃ rv', HashAt base w' hb (m ++ bs) rv' ∧ (rv'.ownBlock = rv.ownBlock ∨ ∃ b, rv'.ownBlock = some b ∧ w.heap.size ≤ b) ∧ Only hb rv.ownBlock w w' := by
  obtain ⟨hblk, hown, hne, hmb, hml⟩ := H
  obtain ⟨q0, hq0⟩ : ∃ q, q = m.length / 64 := ⟨_, rfl⟩
  obtain ⟨s0, hs0⟩ : ∃ s, s = stN m q0 := ⟨_, rfl⟩
  rw [← hq0] at hblk hown
  rw [← hs0] at hblk
  have hbl : hb < w.heap.size := blk_lt hblk
  have sl : (u32s s0.list).length = 8 := rfl
  have c9 : w.cell? ⟨hb, 9, none⟩ = some (.int .u64 m.length) := blk_cell hblk 9 _ rfl
  obtain ⟨A1, c1, rfl, hc1⟩ := hown.len
  rw [u8s_len'] at hblk hown hne hc1 ⊢
  generalize hn1 : (m.drop (64 * q0)).length = n1 at *
  have c8 : w.cell? ⟨hb, 8, none⟩ = some (.slice A1 n1 c1) := blk_cell hblk 8 _ rfl
  have f8 : w.frozen? ⟨hb, 8, none⟩ = false := blk_free hblk 8
  have f9 : w.frozen? ⟨hb, 9, none⟩ = false := blk_free hblk 9
  have wu : IntKind.u64.wrap (n : Int) = n := by rw [IntKind.wrap_u64]; omega
  have wv : IntKind.u64.wrap ((m.length : Int) + n) = m.length + n := by rw [IntKind.wrap_u64]; omega
  have HB := Lib.hid hblk
  have HO := Lib.hid hown
  have HS := Lib.hid hsrc
  have HK := Lib.hid hk
  have HN := Lib.hid hn
  have HQ := Lib.hid hq0
  have HS0 := Lib.hid hs0
  clear hblk hown hsrc hk hn hq0 hs0
  go_enter Tryd.func32, Tryd.ntmps32
  have hg9 : ∀ v, w.grownBy (w.setCell ⟨hb, 9, none⟩ v) (some hb) := fun v => ⟨rfl, rfl, rfl, by simp, fun i hi hne => heap_setCell_other w ⟨hb, 9, none⟩ i v (fun e => hne (by rw [e]))⟩
  have hown9 : ∀ v, OwnO (w.setCell ⟨hb, 9, none⟩ v) base 5 (.slice A1 n1 c1) (u8s (m.drop (64 * q0))) := fun v => HO.out.kept (hg9 v) (fun k hk e => hne (by rw [hk, e]))
  have hsrc9 : ∀ v, Src Tryd.prog 1 22 (.slice A n c) n (u8s bs) (w.setCell ⟨hb, 9, none⟩ v) := fun v => HS.out _ (fun k hk hkb => heap_setCell_other w ⟨hb, 9, none⟩ k v hkb)
  have hlen9 : (u8s (m.drop (64 * q0))).length + n ≤ 140737488355328 := by rw [u8s_len', HN.out, List.length_drop]; omega
  have HN1 := Lib.hid hn1
  clear hn1
  have HG9 := Lib.hid hg9
  have HO9 := Lib.hid hown9
  have HS9 := Lib.hid hsrc9
  have HL9 := Lib.hid hlen9
  clear hg9 hown9 hsrc9 hlen9
  have hblk9 : (w.setCell ⟨hb, 9, none⟩ (.int .u64 ((m.length : Int) + n))).heap[hb]? = some (.cells (u32s s0.list ++ [Value.slice A1 n1 c1, Value.int .u64 ((m.length : Int) + n)]).toArray 111 (0, 0)) := by
    rw [blk_set HB.out 9 _]
    rfl
  have HB9 := Lib.hid hblk9
  clear hblk9
  go_wp2_with (at_builtin; refine appO (w0 := w.setCell ⟨hb, 9, none⟩ (.int .u64 ((m.length : Int) + n))) base rfl (.tmp 18) (.tmp 19) 22 22 5 (.int .u8 0) 1 rfl Tryd.underlying22 Tryd.info5 rfl (by omega) _ _ rfl _ n (u8s bs) rfl (HS9.out _) (HO9.out _) (Below.refl _ _) (by simp; omega) (by have := HL9.out; omega) ?_; intro v1 w1 ap; obtain ⟨A2, c2, rfl, hc2⟩ := ap.own.len; rw [List.length_append, u8s_len', u8s_len', HN1.out, ← HN.out] at hc2 ap ⊢; have d0 := (ap.grown.block hb (by simpa using hbl) (Ne.symm hne)).trans HB9.out; have d8 := blk_cell d0 8 _ rfl; have e8 := blk_free d0 8; have D0 := Lib.hid d0; clear d0)
  obtain ⟨M, hM⟩ : ∃ M, M = m ++ bs := ⟨_, rfl⟩
  have hMl : M.length = m.length + n := by rw [hM, List.length_append, HN.out]
  have hMb : u8s_ok M := by rw [hM]; exact hmb.append hbs
  have hq64 : 64 * q0 ≤ m.length := by have := HQ.out; omega
  have hstart : stN M q0 = s0 := by rw [hM, stN_append m bs q0 hq64, HS0.out]
  have hrest : u8s (m.drop (64 * q0)) ++ u8s bs = u8s (M.drop (64 * q0)) := by rw [hM, List.drop_append_of_le_length hq64]; simp [u8s]
  have hn1 : n1 = m.length - 64 * q0 := by rw [← HN1.out, List.length_drop]
  have o1 := ap.own
  have o2 := ap.place
  have o3 := ap.grown
  rw [hrest] at o1
  generalize hW2 : w1.setCell ⟨hb, 8, none⟩ (.slice A2 (n1 + n) c2) = W2
  have hA2 : (Value.slice A2 (n1 + n) c2).ownBlock ≠ some hb := by
    rcases o2 with h | h
    · rw [h]; exact hne
    · rw [h]; simp; omega
  have b2 : W2.heap[hb]? = some (.cells (u32s (stN M q0).list ++ [Value.slice A2 (n1 + n) c2, Value.int .u64 ((m.length : Int) + n)]).toArray 111 (0, 0)) := by
    rw [← hW2, hstart, blk_set D0.out 8 _]
    rfl
  have own2 : OwnO W2 base 5 (.slice A2 (n1 + n) c2) (u8s (M.drop (64 * q0))) := by
    rw [← hW2]
    exact o1.kept (row := some hb) ⟨rfl, rfl, rfl, by simp, fun i hi hne => heap_setCell_other w1 ⟨hb, 8, none⟩ i _ (fun e => hne (by rw [e]))⟩ (fun k hk e => hA2 (by rw [hk, e]))
  have only2 : Only hb (Value.slice A1 n1 c1).ownBlock w W2 := by
    rw [← hW2]
    refine ⟨o3.os, o3.tape, o3.output, by have := o3.size; simpa using this, fun k hk hkb hkr => ?_⟩
    rw [heap_setCell_other w1 ⟨hb, 8, none⟩ k _ hkb, o3.block k (by simpa using hk) hkr]
    exact heap_setCell_other w ⟨hb, 9, none⟩ k _ hkb
  have pl2 : (Value.slice A2 (n1 + n) c2).ownBlock = (Value.slice A1 n1 c1).ownBlock ∨ ∃ b, (Value.slice A2 (n1 + n) c2).ownBlock = some b ∧ w.heap.size ≤ b := by
    rcases o2 with h | h
    · exact .inl h
    · exact .inr ⟨_, h, by simp⟩
  have HM := Lib.hid hM
  have HML := Lib.hid hMl
  have HHN1 := Lib.hid hn1
  have HBASE : Hid (∀ k, (Value.slice A1 n1 c1).ownBlock = some k → base ≤ k ∧ k < w.heap.size) := HO.out.lt
  clear hM hMl hn1 hstart hrest o1 o2 o3 ap D0 d8 e8 hW2 hA2 HG9 HO9 HS9 HL9 HB9 HS HB HO c8 c9 f8 f9 wu wv
  clear hc1 hc2
  go_loopw [23] (fun _ wr => ∃ (q k c : Nat) (A : Option Addr), q0 ≤ q ∧ 64 * q + k = m.length + n ∧ wr.heap[hb]? = some (.cells (u32s (stN M q).list ++ [Value.slice A k c, Value.int .u64 ((m.length : Int) + n)]).toArray 111 (0, 0)) ∧
      OwnO wr base 5 (.slice A k c) (u8s (M.drop (64 * q))) ∧ Only hb (Value.slice A1 n1 c1).ownBlock w wr ∧ ((Value.slice A k c).ownBlock = (Value.slice A1 n1 c1).ownBlock ∨ ∃ b, (Value.slice A k c).ownBlock = some b ∧ w.heap.size ≤ b))
    (fun _ wr => restLen wr hb)
  case atStart => exact ⟨q0, n1 + n, c2, A2, Nat.le_refl _, by have := HHN1.out; omega, b2, own2, only2, pl2⟩
  case round =>
    obtain ⟨q, k, c3, A3, hq, hkq, hblk, hown, honly, hpl⟩ := hrel
    have r8 : wr.cell? ⟨hb, 8, none⟩ = some (.slice A3 k c3) := blk_cell hblk 8 _ rfl
    have g8 : wr.frozen? ⟨hb, 8, none⟩ = false := blk_free hblk 8
    by_cases hge : 64 ≤ k
    · obtain ⟨g, off, rfl⟩ : ∃ g off, A3 = some ⟨g, off, none⟩ := by
        obtain ⟨b, off, c, he, _⟩ := hown.row (by rw [u8s_len', List.length_drop, HML.out]; omega)
        simp only [Value.slice.injEq] at he
        exact ⟨b, off, he.1⟩
      have hlen : (M.drop (64 * q)).length = k := by rw [List.length_drop, HML.out]; omega
      have hk3 : k ≤ c3 := by
        obtain ⟨A', c', he, hle⟩ := hown.len
        rw [u8s_len', hlen] at hle
        simp only [Value.slice.injEq] at he
        omega
      have hcells : ∀ j, j < 64 → wr.cell? ⟨g, off + j, none⟩ = some (.int .u8 (((M.drop (64 * q)).take 64).getD j 0)) := by
        obtain ⟨b, off', c, he, _, _, hc⟩ := hown.row (by rw [u8s_len', hlen]; omega)
        simp only [Value.slice.injEq, Option.some.injEq, Addr.mk.injEq] at he
        obtain ⟨⟨rfl, rfl, _⟩, _, rfl⟩ := he
        intro j hj
        refine hc j _ ?_
        simp only [u8s, List.getElem?_map, List.getD_eq_getElem?_getD, List.getElem?_take, if_pos hj]
        rw [List.getElem?_eq_getElem (by omega : j < (M.drop (64 * q)).length)]
        simp
      have hc64 : 64 ≤ c3 := by omega
      have hc0 : ¬ c3 = 0 := by omega
      have hci : (64 : Int) ≤ (c3 : Int) := by omega
      have hki : (64 : Int) ≤ (k : Int) := by omega
      have hk18 : wr.rangeAt 18 0 (u32s kk) := range_base (B := base) HK.out (honly.below hbase (fun k hk => (HBASE.out k hk).1) (by omega)) hg1
      go_wp2
      go_still_tail 8, (by kernel_rfl)
      change wpList _ _ _ _ _ wr.drew
      go_wp2_with fail
      refine (take_any (stN M q) (stN_ok M q) [Value.slice (some ⟨g, off, none⟩) k c3, Value.int .u64 ((m.length : Int) + n)] 111 hb ((M.drop (64 * q)).take 64) ((hMb.drop _).take _) g off 64 c3 (by omega) (by omega) wr.drew hblk hk18 hcells).mono ?_
      rintro e w3 ⟨rfl, hb3, hg3⟩
      have t8 : w3.cell? ⟨hb, 8, none⟩ = some (.slice (some ⟨g, off, none⟩) k c3) := blk_cell hb3 8 _ rfl
      have u8_ : w3.frozen? ⟨hb, 8, none⟩ = false := blk_free hb3 8
      have hgb : g ≠ hb := by
        intro e
        rcases hpl with h | ⟨b, h, hle⟩
        · rw [← h] at hne; simp [Value.ownBlock, e] at hne
        · simp [Value.ownBlock] at h; omega
      have hdrop := hown.drop (k := 64) (by rw [u8s_len', hlen]; omega)
      rw [show (u8s (M.drop (64 * q))).drop 64 = u8s (M.drop (64 * (q + 1))) by rw [u8s, ← List.map_drop, List.drop_drop]; rfl] at hdrop
      clear hown hcells hk18 hblk
      by_cases hcc : c3 = 64
      · subst hcc
        obtain rfl : k = 64 := by omega
        rw [if_pos rfl] at hdrop
        have hpl' : (Value.slice (some ⟨g, off, none⟩) 0 0).ownBlock = (Value.slice A1 n1 c1).ownBlock ∨ ∃ b, (Value.slice (some ⟨g, off, none⟩) 0 0).ownBlock = some b ∧ w.heap.size ≤ b := hpl
        have hstep := write_step (w := w) (a := ⟨g, off, none⟩) (g := g) (off := off) (c3 := 64) (nv := .slice (some ⟨g, off, none⟩) 0 0) (cnt := Value.int .u64 ((m.length : Int) + n)) (N := m.length + n) rfl hge hlen hkq hdrop rfl honly hgb hb3 hg3
        have HST := Lib.hid hstep
        clear hstep hdrop
        go_wp2
        go_roundw
        case rel =>
          obtain ⟨s1, s2, s3, s4, s5⟩ := HST.out
          exact ⟨q + 1, 0, 0, _, by omega, s1, s2, s3, s4, hpl'⟩
        case measure =>
          rw [HST.out.2.2.2.2]
          unfold restLen
          rw [r8]
          show (0 : Nat) < 64
          omega
      · rw [if_neg hcc] at hdrop
        have hpl' : (Value.slice (some ⟨g, off + 64, none⟩) (k - 64) (c3 - 64)).ownBlock = (Value.slice A1 n1 c1).ownBlock ∨ ∃ b, (Value.slice (some ⟨g, off + 64, none⟩) (k - 64) (c3 - 64)).ownBlock = some b ∧ w.heap.size ≤ b := hpl
        have hstep := write_step (w := w) (a := ⟨g, off + 64, none⟩) (g := g) (off := off) (c3 := c3) (nv := .slice (some ⟨g, off + 64, none⟩) (k - 64) (c3 - 64)) (cnt := Value.int .u64 ((m.length : Int) + n)) (N := m.length + n) rfl hge hlen hkq (by simpa using hdrop) rfl honly hgb hb3 hg3
        have HST := Lib.hid hstep
        clear hstep hdrop
        go_wp2
        go_roundw
        case rel =>
          obtain ⟨s1, s2, s3, s4, s5⟩ := HST.out
          exact ⟨q + 1, k - 64, c3 - 64, _, by omega, s1, s2, s3, s4, hpl'⟩
        case measure =>
          rw [HST.out.2.2.2.2]
          unfold restLen
          rw [r8]
          show k - 64 < k
          omega
    · have hq2 : q = M.length / 64 := by rw [HML.out]; omega
      have HF : HashAt base wr hb M (.slice A3 k c3) := by
        refine ⟨?_, ?_, ?_, hMb, by rw [HML.out, HN.out]; exact hsm⟩
        · rw [← hq2, HML.out]; simpa using hblk
        · rw [← hq2]; exact hown
        · rcases hpl with h | ⟨b, h, hle⟩
          · rw [h]; exact hne
          · rw [h]; simp; omega
      have HFF := Lib.hid HF
      clear HF hblk hown
      go_wp2
      go_end0
      rw [← HM.out]
      exact ⟨rfl, _, HFF.out, hpl, honly⟩
end Go.Proofs.YtdedphhohiioiaaDoor
