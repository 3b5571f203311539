/- Lemmas that laws of this seat rest on, part 2; each says its own conditions: Write, Sum, Str, Bytes, Of. -/
import Derived.StillTailTactics
import Derived.Lib.ConvBytes
import Derived.Lib.SlBytesRow
import Derived.Lib.SlBytesConst
import Derived.Laws.Cover3
import Derived.Test.YtniknhhejlgdfaaGreatDoorBase1
/- What the method Write of a hash does. -/
namespace Go.Proofs.YtniknhhejlgdfaaGreatDoor
open Go.RowKit

/-- Only block hb, and block r if there is one, have been written. -/
structure Only (hb : Nat) (r : Option Nat) (w w' : World) : Prop where
  os : w'.os = w.os
  tape : w'.tape = w.tape
  output : w'.output = w.output
  size : w.heap.size ≤ w'.heap.size
  block : ∀ k, k < w.heap.size → k ≠ hb → some k ≠ r → w'.heap[k]? = w.heap[k]?
theorem Only.below {hb B : Nat} {r : Option Nat} {w w' : World} (h : Only hb r w w') (h1 : B ≤ hb) (h2 : ∀ k, r = some k → B ≤ k) (h3 : B ≤ w.heap.size) : Below B w w' :=
  ⟨h.os, h.tape, h.output, h.size, fun k hk => h.block k (by omega) (by omega) (fun e => by have := h2 k e.symm; omega)⟩

theorem range_base {w w' : World} {B b o : Nat} {cs : List Value} (h : w.rangeAt b o cs) (hb : Below B w w') (hlt : b < B) : w'.rangeAt b o cs :=
  fun j v hv => (hb.cell (p := ⟨b, o + j, none⟩) hlt).trans (h j v hv)

def restLen (w : World) (hb : Nat) : Nat := match w.cell? ⟨hb, 8, none⟩ with
  | some (.slice _ n _) => n
  | _ => 0

theorem grown_set {w w1 : World} {hb i : Nat} (h : w.grownBy w1 (some hb)) (v : Value) : w.grownBy (w1.setCell ⟨hb, i, none⟩ v) (some hb) :=
  ⟨h.os, h.tape, h.output, by have := h.size; simpa using this, fun k hk hne => (heap_setCell_other w1 ⟨hb, i, none⟩ k v (fun e => hne (by rw [e]))).trans (h.block k hk hne)⟩
theorem Only.grown {hb : Nat} {r : Option Nat} {w w1 w2 : World} (h : Only hb r w w1) (hg : w1.grownBy w2 (some hb)) : Only hb r w w2 :=
  ⟨hg.os.trans h.os, hg.tape.trans h.tape, hg.output.trans h.output, Nat.le_trans h.size hg.size, fun k hk h1 h2 => (hg.block k (Nat.lt_of_lt_of_le hk h.size) (fun e => h1 (Option.some.inj e))).trans (h.block k hk h1 h2)⟩

/-- What a round of Write leaves. -/
theorem write_step {w wr w3 : World} {base hb q k c3 g off : Nat} {M : List Int} {N : Nat} {cnt nv : Value} {r : Option Nat} {a : Addr} (ha : a.block = g) (hk : 64 ≤ k) (hlen : (M.drop (64 * q)).length = k) (hkq : 64 * q + k = N)
    (hown : OwnO wr base 5 nv (u8s (M.drop (64 * (q + 1))))) (hnv : nv = .slice (some a) (k - 64) (c3 - 64))
    (honly : Only hb r w wr) (hgb : g ≠ hb) (hb3 : w3.heap[hb]? = some (.cells (u32s ((stN M q).comp ((M.drop (64 * q)).take 64)).list ++ [Value.slice (some ⟨g, off, none⟩) k c3, cnt]).toArray 226 (0, 0)))
    (hg3 : wr.drew.grownBy w3 (some hb)) :
    64 * (q + 1) + (k - 64) = N ∧ (w3.setCell ⟨hb, 8, none⟩ nv).heap[hb]? = some (.cells (u32s (stN M (q + 1)).list ++ [nv, cnt]).toArray 226 (0, 0)) ∧
      OwnO (w3.setCell ⟨hb, 8, none⟩ nv) base 5 nv (u8s (M.drop (64 * (q + 1)))) ∧ Only hb r w (w3.setCell ⟨hb, 8, none⟩ nv) ∧ restLen (w3.setCell ⟨hb, 8, none⟩ nv) hb = k - 64 := by
  have hg' : wr.grownBy w3 (some hb) := ⟨hg3.os, hg3.tape, hg3.output, hg3.size, hg3.block⟩
  have hblk : (w3.setCell ⟨hb, 8, none⟩ nv).heap[hb]? = some (.cells (u32s (stN M (q + 1)).list ++ [nv, cnt]).toArray 226 (0, 0)) := by
    rw [blk_set hb3 8 nv]
    rfl
  refine ⟨by omega, hblk, ?_, honly.grown (grown_set hg' nv), ?_⟩
  · refine hown.kept (grown_set hg' nv) (fun b hb' e => ?_)
    rw [hnv] at hb'
    simp only [Value.ownBlock, Option.some.injEq] at hb' e
    omega
  · unfold restLen
    rw [blk_cell hblk 8 nv rfl, hnv]

set_option maxHeartbeats 4000000 in
set_option maxRecDepth 100000 in
theorem write_any (base hb : Nat) (m bs : List Int) (rv : Value) (A : Option Addr) (n c : Nat) (w : World) (H : HashAt base w hb m rv) (hbs : u8s_ok bs) (hn : n = bs.length) (hsm : m.length + bs.length ≤ 1099511627776)
    (hsrc : ∀ w', (∀ k, k < w.heap.size → k ≠ hb → w'.heap[k]? = w.heap[k]?) → Src Tryz.prog 1 137 (.slice A n c) n (u8s bs) w') (hk : w.rangeAt 18 0 (u32s kk)) (hg1 : 18 < base) (hbase : base ≤ hb) :
    Calls Tryz.prog 100 #[.pointer (some ⟨hb, 0, none⟩), .slice A n c] w fun e w' => e = .returned (.tuple #[]) ∧
      ∃ rv', HashAt base w' hb (m ++ bs) rv' ∧ (rv'.ownBlock = rv.ownBlock ∨ ∃ b, rv'.ownBlock = some b ∧ w.heap.size ≤ b) ∧ Only hb rv.ownBlock w w' := by
  obtain ⟨hblk, hown, hne, hmb, hml⟩ := H
  obtain ⟨q0, hq0⟩ : ∃ q, q = m.length / 64 := ⟨_, rfl⟩
  obtain ⟨s0, hs0⟩ : ∃ s, s = stN m q0 := ⟨_, rfl⟩
  rw [← hq0] at hblk hown
  rw [← hs0] at hblk
  have hbl : hb < w.heap.size := blk_lt hblk
  have sl : (u32s s0.list).length = 8 := rfl
  have c9 : w.cell? ⟨hb, 9, none⟩ = some (.int .u64 m.length) := blk_cell hblk 9 _ rfl
  obtain ⟨A1, c1, rfl, hc1⟩ := hown.len
  rw [u8s_len'] at hblk hown hne hc1 ⊢
  generalize hn1 : (m.drop (64 * q0)).length = n1 at *
  have c8 : w.cell? ⟨hb, 8, none⟩ = some (.slice A1 n1 c1) := blk_cell hblk 8 _ rfl
  have f8 : w.frozen? ⟨hb, 8, none⟩ = false := blk_free hblk 8
  have f9 : w.frozen? ⟨hb, 9, none⟩ = false := blk_free hblk 9
  have wu : IntKind.u64.wrap (n : Int) = n := by rw [IntKind.wrap_u64]; omega
  have wv : IntKind.u64.wrap ((m.length : Int) + n) = m.length + n := by rw [IntKind.wrap_u64]; omega
  have HB := Lib.hid hblk
  have HO := Lib.hid hown
  have HS := Lib.hid hsrc
  have HK := Lib.hid hk
  have HN := Lib.hid hn
  have HQ := Lib.hid hq0
  have HS0 := Lib.hid hs0
  clear hblk hown hsrc hk hn hq0 hs0
  go_enter Tryz.func100, Tryz.ntmps100
  have hg9 : ∀ v, w.grownBy (w.setCell ⟨hb, 9, none⟩ v) (some hb) := fun v => ⟨rfl, rfl, rfl, by simp, fun i hi hne => heap_setCell_other w ⟨hb, 9, none⟩ i v (fun e => hne (by rw [e]))⟩
  have hown9 : ∀ v, OwnO (w.setCell ⟨hb, 9, none⟩ v) base 5 (.slice A1 n1 c1) (u8s (m.drop (64 * q0))) := fun v => HO.out.kept (hg9 v) (fun k hk e => hne (by rw [hk, e]))
  have hsrc9 : ∀ v, Src Tryz.prog 1 137 (.slice A n c) n (u8s bs) (w.setCell ⟨hb, 9, none⟩ v) := fun v => HS.out _ (fun k hk hkb => heap_setCell_other w ⟨hb, 9, none⟩ k v hkb)
  have hlen9 : (u8s (m.drop (64 * q0))).length + n ≤ 140737488355328 := by rw [u8s_len', HN.out, List.length_drop]; omega
  have HN1 := Lib.hid hn1
  clear hn1
  have HG9 := Lib.hid hg9
  have HO9 := Lib.hid hown9
  have HS9 := Lib.hid hsrc9
  have HL9 := Lib.hid hlen9
  clear hg9 hown9 hsrc9 hlen9
  have hblk9 : (w.setCell ⟨hb, 9, none⟩ (.int .u64 ((m.length : Int) + n))).heap[hb]? = some (.cells (u32s s0.list ++ [Value.slice A1 n1 c1, Value.int .u64 ((m.length : Int) + n)]).toArray 226 (0, 0)) := by
    rw [blk_set HB.out 9 _]
    rfl
  have HB9 := Lib.hid hblk9
  clear hblk9
  go_wp2_with (at_builtin; refine appO (w0 := w.setCell ⟨hb, 9, none⟩ (.int .u64 ((m.length : Int) + n))) base rfl (.tmp 18) (.tmp 19) 137 137 5 (.int .u8 0) 1 rfl Tryz.underlying137 Tryz.info5 rfl (by omega) _ _ rfl _ n (u8s bs) rfl (HS9.out _) (HO9.out _) (Below.refl _ _) (by simp; omega) (by have := HL9.out; omega) ?_; intro v1 w1 ap; obtain ⟨A2, c2, rfl, hc2⟩ := ap.own.len; rw [List.length_append, u8s_len', u8s_len', HN1.out, ← HN.out] at hc2 ap ⊢; have d0 := (ap.grown.block hb (by simpa using hbl) (Ne.symm hne)).trans HB9.out; have d8 := blk_cell d0 8 _ rfl; have e8 := blk_free d0 8; have D0 := Lib.hid d0; clear d0)
  obtain ⟨M, hM⟩ : ∃ M, M = m ++ bs := ⟨_, rfl⟩
  have hMl : M.length = m.length + n := by rw [hM, List.length_append, HN.out]
  have hMb : u8s_ok M := by rw [hM]; exact hmb.append hbs
  have hq64 : 64 * q0 ≤ m.length := by have := HQ.out; omega
  have hstart : stN M q0 = s0 := by rw [hM, stN_append m bs q0 hq64, HS0.out]
  have hrest : u8s (m.drop (64 * q0)) ++ u8s bs = u8s (M.drop (64 * q0)) := by rw [hM, List.drop_append_of_le_length hq64]; simp [u8s]
  have hn1 : n1 = m.length - 64 * q0 := by rw [← HN1.out, List.length_drop]
  have o1 := ap.own
  have o2 := ap.place
  have o3 := ap.grown
  rw [hrest] at o1
  generalize hW2 : w1.setCell ⟨hb, 8, none⟩ (.slice A2 (n1 + n) c2) = W2
  have hA2 : (Value.slice A2 (n1 + n) c2).ownBlock ≠ some hb := by
    rcases o2 with h | h
    · rw [h]; exact hne
    · rw [h]; simp; omega
  have b2 : W2.heap[hb]? = some (.cells (u32s (stN M q0).list ++ [Value.slice A2 (n1 + n) c2, Value.int .u64 ((m.length : Int) + n)]).toArray 226 (0, 0)) := by
    rw [← hW2, hstart, blk_set D0.out 8 _]
    rfl
  have own2 : OwnO W2 base 5 (.slice A2 (n1 + n) c2) (u8s (M.drop (64 * q0))) := by
    rw [← hW2]
    exact o1.kept (row := some hb) ⟨rfl, rfl, rfl, by simp, fun i hi hne => heap_setCell_other w1 ⟨hb, 8, none⟩ i _ (fun e => hne (by rw [e]))⟩ (fun k hk e => hA2 (by rw [hk, e]))
  have only2 : Only hb (Value.slice A1 n1 c1).ownBlock w W2 := by
    rw [← hW2]
    refine ⟨o3.os, o3.tape, o3.output, by have := o3.size; simpa using this, fun k hk hkb hkr => ?_⟩
    rw [heap_setCell_other w1 ⟨hb, 8, none⟩ k _ hkb, o3.block k (by simpa using hk) hkr]
    exact heap_setCell_other w ⟨hb, 9, none⟩ k _ hkb
  have pl2 : (Value.slice A2 (n1 + n) c2).ownBlock = (Value.slice A1 n1 c1).ownBlock ∨ ∃ b, (Value.slice A2 (n1 + n) c2).ownBlock = some b ∧ w.heap.size ≤ b := by
    rcases o2 with h | h
    · exact .inl h
    · exact .inr ⟨_, h, by simp⟩
  have HM := Lib.hid hM
  have HML := Lib.hid hMl
  have HHN1 := Lib.hid hn1
  have HBASE : Hid (∀ k, (Value.slice A1 n1 c1).ownBlock = some k → base ≤ k ∧ k < w.heap.size) := HO.out.lt
  clear hM hMl hn1 hstart hrest o1 o2 o3 ap D0 d8 e8 hW2 hA2 HG9 HO9 HS9 HL9 HB9 HS HB HO c8 c9 f8 f9 wu wv
  clear hc1 hc2
  go_loopw [23] (fun _ wr => ∃ (q k c : Nat) (A : Option Addr), q0 ≤ q ∧ 64 * q + k = m.length + n ∧ wr.heap[hb]? = some (.cells (u32s (stN M q).list ++ [Value.slice A k c, Value.int .u64 ((m.length : Int) + n)]).toArray 226 (0, 0)) ∧
      OwnO wr base 5 (.slice A k c) (u8s (M.drop (64 * q))) ∧ Only hb (Value.slice A1 n1 c1).ownBlock w wr ∧ ((Value.slice A k c).ownBlock = (Value.slice A1 n1 c1).ownBlock ∨ ∃ b, (Value.slice A k c).ownBlock = some b ∧ w.heap.size ≤ b))
    (fun _ wr => restLen wr hb)
  case atStart => exact ⟨q0, n1 + n, c2, A2, Nat.le_refl _, by have := HHN1.out; omega, b2, own2, only2, pl2⟩
  case round =>
    obtain ⟨q, k, c3, A3, hq, hkq, hblk, hown, honly, hpl⟩ := hrel
    have r8 : wr.cell? ⟨hb, 8, none⟩ = some (.slice A3 k c3) := blk_cell hblk 8 _ rfl
    have g8 : wr.frozen? ⟨hb, 8, none⟩ = false := blk_free hblk 8
    by_cases hge : 64 ≤ k
    · obtain ⟨g, off, rfl⟩ : ∃ g off, A3 = some ⟨g, off, none⟩ := by
        obtain ⟨b, off, c, he, _⟩ := hown.row (by rw [u8s_len', List.length_drop, HML.out]; omega)
        simp only [Value.slice.injEq] at he
        exact ⟨b, off, he.1⟩
      have hlen : (M.drop (64 * q)).length = k := by rw [List.length_drop, HML.out]; omega
      have hk3 : k ≤ c3 := by
        obtain ⟨A', c', he, hle⟩ := hown.len
        rw [u8s_len', hlen] at hle
        simp only [Value.slice.injEq] at he
        omega
      have hcells : ∀ j, j < 64 → wr.cell? ⟨g, off + j, none⟩ = some (.int .u8 (((M.drop (64 * q)).take 64).getD j 0)) := by
        obtain ⟨b, off', c, he, _, _, hc⟩ := hown.row (by rw [u8s_len', hlen]; omega)
        simp only [Value.slice.injEq, Option.some.injEq, Addr.mk.injEq] at he
        obtain ⟨⟨rfl, rfl, _⟩, _, rfl⟩ := he
        intro j hj
        refine hc j _ ?_
        simp only [u8s, List.getElem?_map, List.getD_eq_getElem?_getD, List.getElem?_take, if_pos hj]
        rw [List.getElem?_eq_getElem (by omega : j < (M.drop (64 * q)).length)]
        simp
      have hc64 : 64 ≤ c3 := by omega
      have hc0 : ¬ c3 = 0 := by omega
      have hci : (64 : Int) ≤ (c3 : Int) := by omega
      have hki : (64 : Int) ≤ (k : Int) := by omega
      have hk18 : wr.rangeAt 18 0 (u32s kk) := range_base (B := base) HK.out (honly.below hbase (fun k hk => (HBASE.out k hk).1) (by omega)) hg1
      go_wp2
      go_still_tail 8, (by kernel_rfl)
      change wpList _ _ _ _ _ wr.drew
      go_wp2_with fail
      refine (take_any (stN M q) (stN_ok M q) [Value.slice (some ⟨g, off, none⟩) k c3, Value.int .u64 ((m.length : Int) + n)] 226 hb ((M.drop (64 * q)).take 64) ((hMb.drop _).take _) g off 64 c3 (by omega) (by omega) wr.drew hblk hk18 hcells).mono ?_
      rintro e w3 ⟨rfl, hb3, hg3⟩
      have t8 : w3.cell? ⟨hb, 8, none⟩ = some (.slice (some ⟨g, off, none⟩) k c3) := blk_cell hb3 8 _ rfl
      have u8_ : w3.frozen? ⟨hb, 8, none⟩ = false := blk_free hb3 8
      have hgb : g ≠ hb := by
        intro e
        rcases hpl with h | ⟨b, h, hle⟩
        · rw [← h] at hne; simp [Value.ownBlock, e] at hne
        · simp [Value.ownBlock] at h; omega
      have hdrop := hown.drop (k := 64) (by rw [u8s_len', hlen]; omega)
      rw [show (u8s (M.drop (64 * q))).drop 64 = u8s (M.drop (64 * (q + 1))) by rw [u8s, ← List.map_drop, List.drop_drop]; rfl] at hdrop
      clear hown hcells hk18 hblk
      by_cases hcc : c3 = 64
      · subst hcc
        obtain rfl : k = 64 := by omega
        rw [if_pos rfl] at hdrop
        have hpl' : (Value.slice (some ⟨g, off, none⟩) 0 0).ownBlock = (Value.slice A1 n1 c1).ownBlock ∨ ∃ b, (Value.slice (some ⟨g, off, none⟩) 0 0).ownBlock = some b ∧ w.heap.size ≤ b := hpl
        have hstep := write_step (w := w) (a := ⟨g, off, none⟩) (g := g) (off := off) (c3 := 64) (nv := .slice (some ⟨g, off, none⟩) 0 0) (cnt := Value.int .u64 ((m.length : Int) + n)) (N := m.length + n) rfl hge hlen hkq hdrop rfl honly hgb hb3 hg3
        have HST := Lib.hid hstep
        clear hstep hdrop
        go_wp2
        go_roundw
        case rel =>
          obtain ⟨s1, s2, s3, s4, s5⟩ := HST.out
          exact ⟨q + 1, 0, 0, _, by omega, s1, s2, s3, s4, hpl'⟩
        case measure =>
          rw [HST.out.2.2.2.2]
          unfold restLen
          rw [r8]
          show (0 : Nat) < 64
          omega
      · rw [if_neg hcc] at hdrop
        have hpl' : (Value.slice (some ⟨g, off + 64, none⟩) (k - 64) (c3 - 64)).ownBlock = (Value.slice A1 n1 c1).ownBlock ∨ ∃ b, (Value.slice (some ⟨g, off + 64, none⟩) (k - 64) (c3 - 64)).ownBlock = some b ∧ w.heap.size ≤ b := hpl
        have hstep := write_step (w := w) (a := ⟨g, off + 64, none⟩) (g := g) (off := off) (c3 := c3) (nv := .slice (some ⟨g, off + 64, none⟩) (k - 64) (c3 - 64)) (cnt := Value.int .u64 ((m.length : Int) + n)) (N := m.length + n) rfl hge hlen hkq (by simpa using hdrop) rfl honly hgb hb3 hg3
        have HST := Lib.hid hstep
        clear hstep hdrop
        go_wp2
        go_roundw
        case rel =>
          obtain ⟨s1, s2, s3, s4, s5⟩ := HST.out
          exact ⟨q + 1, k - 64, c3 - 64, _, by omega, s1, s2, s3, s4, hpl'⟩
        case measure =>
          rw [HST.out.2.2.2.2]
          unfold restLen
          rw [r8]
          show k - 64 < k
          omega
    · have hq2 : q = M.length / 64 := by rw [HML.out]; omega
      have HF : HashAt base wr hb M (.slice A3 k c3) := by
        refine ⟨?_, ?_, ?_, hMb, by rw [HML.out, HN.out]; exact hsm⟩
        · rw [← hq2, HML.out]; simpa using hblk
        · rw [← hq2]; exact hown
        · rcases hpl with h | ⟨b, h, hle⟩
          · rw [h]; exact hne
          · rw [h]; simp; omega
      have HFF := Lib.hid HF
      clear HF hblk hown
      go_wp2
      go_end0
      rw [← HM.out]
      exact ⟨rfl, _, HFF.out, hpl, honly⟩
end Go.Proofs.YtniknhhejlgdfaaGreatDoor
/- What the method Sum of a hash does. -/
namespace Go.Proofs.YtniknhhejlgdfaaGreatDoor
open Go.RowKit

theorem Tryz.size171 : (Tryz.prog.info? 171).map (·.size) = some 32 := by kernel_rfl
theorem one_u32s (xs : List Int) : ∀ v ∈ u32s xs, v.oneCell' = true := by
  intro v hv
  obtain ⟨x, _, rfl⟩ := List.mem_map.1 hv
  rfl
theorem one_u8s (xs : List Int) : ∀ v ∈ u8s xs, v.oneCell' = true := by
  intro v hv
  obtain ⟨x, _, rfl⟩ := List.mem_map.1 hv
  rfl

theorem AppO.byte {base n : Nat} {w0 W w1 : World} {v v1 : Value} {R : List Int} {x : Int} (h : AppO base 5 w0 W v (u8s R ++ [Value.int .u8 x]) v1 w1) (hn : R.length = n) :
    ∃ A c, v1 = .slice A (n + 1) c ∧ Hid (OwnO w1 base 5 (.slice A (n + 1) c) (u8s (R ++ [x]))) ∧ Hid (Below base w0 w1) := by
  have ho := h.own
  rw [show u8s R ++ [Value.int .u8 x] = u8s (R ++ [x]) by simp [u8s]] at ho
  obtain ⟨A, c, he, _⟩ := ho.len
  rw [u8s_len', List.length_append, hn] at he
  subst he
  exact ⟨A, c, rfl, Lib.hid ho, Lib.hid h.below⟩

theorem be8_take (T : List Int) (n j : Nat) (x : Int) (hj : j < 8) (hx : x = (be8 n).getD j 0) : T ++ (be8 n).take j ++ [x] = T ++ (be8 n).take (j + 1) := by
  have hl : j < (be8 n).length := by rw [be8_len]; exact hj
  have he : (be8 n).getD j 0 = (be8 n)[j] := by rw [List.getD_eq_getElem?_getD, List.getElem?_eq_getElem hl]; rfl
  rw [hx, he, List.append_assoc, List.take_succ_eq_append_getElem hl]

set_option maxHeartbeats 4000000 in
set_option maxRecDepth 100000 in
theorem sumM_any (base hb : Nat) (m : List Int) (rv : Value) (w : World) (H : HashAt base w hb m rv) (hk : w.rangeAt 18 0 (u32s kk)) :
    Calls Tryz.prog 101 #[.pointer (some ⟨hb, 0, none⟩)] w fun e w' => e = .returned (.agg (u8s (sha m)).toArray) ∧ Below w.heap.size w w' := by
  obtain ⟨hblk, hown, hne, hmb, hml⟩ := H
  obtain ⟨q0, hq0⟩ : ∃ q, q = m.length / 64 := ⟨_, rfl⟩
  obtain ⟨s0, hs0⟩ : ∃ s, s = stN m q0 := ⟨_, rfl⟩
  rw [← hq0] at hblk hown
  rw [← hs0] at hblk
  have hbl : hb < w.heap.size := blk_lt hblk
  obtain ⟨A1, c1, rfl, hc1⟩ := hown.len
  rw [u8s_len'] at hblk hown hne hc1
  have hn1 : (m.drop (64 * q0)).length = m.length - 64 * q0 := by simp
  rw [hn1] at hblk hown hne hc1
  obtain ⟨n1, hn⟩ : ∃ n1, n1 = m.length - 64 * q0 := ⟨_, rfl⟩
  rw [← hn] at hblk hown hne hc1
  have hsrc := hown.src (P := Tryz.prog) (tx := 137) Tryz.underlying137 (one_u8s _)
  have hrl := blk_range hblk
  have hra : w.rangeAt hb 0 (u32s s0.list) := fun j v hv => hrl j v (by rw [List.getElem?_append_left (List.getElem?_eq_some_iff.1 hv).1]; exact hv)
  have c8 : w.cell? ⟨hb, 8, none⟩ = some (.slice A1 n1 c1) := blk_cell hblk 8 _ rfl
  have c9 : w.cell? ⟨hb, 9, none⟩ = some (.int .u64 m.length) := blk_cell hblk 9 _ rfl
  have hsz : (Tryz.prog.info? 223).map (·.size) = some (u32s s0.list).length := Tryz.size223
  have HB := Lib.hid hblk
  have HO := Lib.hid hown
  have HR := Lib.hid hra
  have HK := Lib.hid hk
  have HN := Lib.hid hn
  have HQ := Lib.hid hq0
  have HS0 := Lib.hid hs0
  have HSR := Lib.hid hsrc
  have HSZ := Lib.hid hsz
  clear hblk hown hra hk hn hq0 hs0 hsrc hrl hn1 hsz
  go_enter Tryz.func101, Tryz.ntmps101
  go_wp2_with (first
    | (refine wpList_load_g rfl 223 (.tmp 10) rfl hb 0 rfl (u32s s0.list) _ (World.rangeAt_alloc HR.out _) Tryz.underlying223 rfl HSZ.out ?_)
    | (refine wpList_store_row rfl 223 (.tmp 3) (.tmp 11) rfl (w.heap.size + 1) rfl (u32s s0.list) rfl 223 (has_new2 _ _ _ _ _ rfl) HSZ.out (one_u32s _) ?_; intro w1 hp; have hz : w1.heap.size = w.heap.size + 2 := (by have := hp.size; simpa using this); have hb1 : Below w.heap.size w w1 := hp.below (((Below.refl _ _).alloc (Nat.le_refl _) _).alloc (by simp) _) (by omega); have hbz : Below w.heap.size w (w1.alloc (.cells #[] 5)) := hb1.alloc (by omega) _; have d8 := blk_cell (blk_below HB.out hbz) 8 _ rfl; have hsrc1 : Src Tryz.prog 1 137 (.slice A1 n1 c1) n1 (u8s (m.drop (64 * q0))) (w1.alloc (.cells #[] 5)) := ((HO.out.below hbz).src Tryz.underlying137 (one_u8s _)); have hh0 : Has w1 w.heap.size 171 32 := (has_old w _ _ _ _ rfl).same (hp.other _ (by omega)); have HP := Lib.hid hp; have HZ := Lib.hid hz; have HB1 := Lib.hid hb1; have HH := Lib.hid hh0; clear hp hz hbz hb1 hh0)
    | (at_builtin; refine appO (w0 := w1) w1.heap.size rfl (.tmp 12) (.tmp 16) 137 137 5 (.int .u8 0) 1 rfl Tryz.underlying137 Tryz.info5 rfl (by omega) _ [] rfl _ n1 _ rfl hsrc1 (own_mk w1 (Nat.le_refl _) #[] rfl (by simp) rfl) ((Below.refl _ _).alloc (Nat.le_refl _) _) (by simp) (by simp; have := HN.out; omega) ?_; intro v2 w2 ap2; rw [List.nil_append] at ap2; have hz2 : w1.heap.size ≤ w2.heap.size := ap2.below.size; have AP2 := Lib.hid ap2; clear ap2 hsrc1 d8)
    | (at_builtin; refine appO (w0 := w1) w1.heap.size rfl (.tmp 17) (.tmp 18) 137 137 5 (.int .u8 0) 1 rfl Tryz.underlying137 Tryz.info5 rfl (by omega) _ _ rfl _ 1 [.int .u8 128] rfl (src_new w2 5 [.int .u8 128] 1 rfl Tryz.underlying137 (by simp [Value.oneCell'])) (AP2.out.own.below ((Below.refl _ _).alloc (Nat.le_refl _) _)) (AP2.out.below.alloc hz2 _) (by simp; omega) (by rw [u8s_len', List.length_drop]; omega) ?_; intro v3 w3 ap3; have AP3 := Lib.hid ap3; clear ap3))
  have own3 : OwnO w3 w1.heap.size 5 v3 (u8s (m.drop (64 * q0) ++ [128])) := by
    have := AP3.out.own
    rw [show u8s (m.drop (64 * q0)) ++ [Value.int .u8 128] = u8s (m.drop (64 * q0) ++ [128]) by simp [u8s]] at this
    exact this
  have bel3 : Below w1.heap.size w1 w3 := AP3.out.below
  obtain ⟨A3, c3, rfl, hc3⟩ := own3.len
  obtain ⟨R, hR⟩ : ∃ R, R = m.drop (64 * q0) := ⟨_, rfl⟩
  have hRl : R.length = n1 := by rw [hR, List.length_drop, HN.out]
  have hl3 : (u8s (R ++ [128])).length = n1 + 1 := by rw [u8s_len', List.length_append, hRl]; rfl
  rw [← hR, hl3] at own3
  rw [← hR, hl3] at hc3
  rw [← hR, hl3]
  have O3 := Lib.hid own3
  have B3 := Lib.hid bel3
  have HRR := Lib.hid hR
  have HRL := Lib.hid hRl
  clear own3 bel3 AP3 hR hRl hl3 hc3 AP2 HSR
  obtain ⟨Z, hZ⟩ : ∃ z, z = zc m.length := ⟨_, rfl⟩
  have HZC := Lib.hid hZ
  clear hZ
  go_loopw [4] (fun s wr => ∃ (z c : Nat) (A : Option Addr), z ≤ Z ∧ s = Value.slice A (n1 + 1 + z) c ∧ Hid (OwnO wr w1.heap.size 5 s (u8s (R ++ [128] ++ List.replicate z 0))) ∧ Hid (Below w1.heap.size w1 wr))
    (fun s _ => n1 + 65 - vlen s)
  case atStart => exact ⟨0, c3, A3, by omega, rfl, Lib.hid (by simpa using O3.out), B3⟩
  case round =>
    obtain ⟨z, c4, A4, hz, rfl, hown, hbel⟩ := hrel
    have hz64 : z < 64 := by have := HZC.out; unfold zc at this; omega
    have hn64 : n1 < 64 := by have := HN.out; have := HQ.out; omega
    have hmod : ((n1 + 1 + z) % 64 = 56) ↔ z = Z := by
      rw [HZC.out, ← zc_at m.length z (by rw [← HZC.out]; exact hz)]
      have := HN.out; have := HQ.out
      omega
    by_cases hlt : z < Z
    · have hmi : ¬ ((n1 : Int) + 1 + z) % 64 = 56 := by omega
      have hrl : (R ++ [128] ++ List.replicate z 0).length = n1 + 1 + z := by simp only [List.length_append, HRL.out, List.length_cons, List.length_nil, List.length_replicate]
      have HRZ := Lib.hid hrl
      clear hrl hmod
      go_wp2_with (at_builtin; refine appO (w0 := w1) w1.heap.size rfl (.tmp 24) (.tmp 25) 137 137 5 (.int .u8 0) 1 rfl Tryz.underlying137 Tryz.info5 rfl (by omega) _ _ rfl _ 1 [.int .u8 0] rfl (src_new wr 5 [.int .u8 0] 1 rfl Tryz.underlying137 (by simp [Value.oneCell'])) (hown.out.below ((Below.refl _ _).alloc (Nat.le_refl _) _)) (hbel.out.alloc hbel.out.size _) (by have := hbel.out.size; simp; omega) (by rw [u8s_len', HRZ.out]; omega) ?_; intro v5 w5 ap5; obtain ⟨A5, c5, rfl, O5, B5⟩ := ap5.byte HRZ.out; clear ap5)
      go_roundw
      case rel => exact ⟨z + 1, c5, A5, by omega, rfl, Lib.hid (by simpa [List.replicate_succ'] using O5.out), B5⟩
      case measure => simp only [vlen]; omega
    · have hmi : ((n1 : Int) + 1 + z) % 64 = 56 := by omega
      obtain rfl : z = Z := by omega
      clear hmod
      have wu : IntKind.u64.wrap ((m.length : Int) * 8) = (m.length : Int) * 8 := by rw [IntKind.wrap_u64]; omega
      go_wp2
      clear hmi hlt hz c8
      obtain ⟨wo, rfl⟩ : ∃ wo : World, wo = wr := ⟨_, rfl⟩
      obtain ⟨T, hT⟩ : ∃ T, T = R ++ [128] ++ List.replicate z 0 := ⟨_, rfl⟩
      rw [← hT] at hown
      have hTl : T.length = n1 + 1 + z := by rw [hT]; simp only [List.length_append, HRL.out, List.length_cons, List.length_nil, List.length_replicate]
      have HT := Lib.hid hT
      have HTL := Lib.hid hTl
      clear hT hTl
      go_loopw [4, 5] (fun s i wr => ∃ (j c : Nat) (A : Option Addr) (x : Int), j ≤ 8 ∧ s = Value.slice A (n1 + 1 + z + j) c ∧ i = .int .i64 x ∧ x = 7 - (j : Int) ∧ Hid (OwnO wr w1.heap.size 5 s (u8s (T ++ (be8 m.length).take j))) ∧ Hid (Below w1.heap.size w1 wr))
        (fun s _ _ => n1 + 1 + z + 8 - vlen s)
      case atStart => exact ⟨0, c4, A4, 7, by omega, rfl, rfl, rfl, Lib.hid (by simpa using hown.out), hbel⟩
      case round =>
        obtain ⟨j, c5, A5, x, hj, rfl, rfl, hx, hown, hbel⟩ := hrel
        have c9' : wr.cell? ⟨hb, 9, none⟩ = some (.int .u64 m.length) := blk_cell (blk_below HB.out ((HB1.out.trans (hbel.out.mono (by have := HZ.out; omega))))) 9 _ rfl
        by_cases hlt : j < 8
        · have hjc : j = 0 ∨ j = 1 ∨ j = 2 ∨ j = 3 ∨ j = 4 ∨ j = 5 ∨ j = 6 ∨ j = 7 := by omega
          have hrl : (T ++ (be8 m.length).take j).length = n1 + 1 + z + j := by simp only [List.length_append, List.length_take, be8_len, HTL.out]; omega
          have HRZ := Lib.hid hrl
          clear hrl
          subst hx
          rcases hjc with rfl | rfl | rfl | rfl | rfl | rfl | rfl | rfl
          · go_wp2_with (at_builtin; refine appO (w0 := w1) w1.heap.size rfl (.tmp 31) (.tmp 41) 137 137 5 (.int .u8 0) 1 rfl Tryz.underlying137 Tryz.info5 rfl (by omega) _ _ rfl _ 1 [.int .u8 _] rfl (src_new wr 5 [.int .u8 _] 1 rfl Tryz.underlying137 (by simp [Value.oneCell'])) (hown.out.below ((Below.refl _ _).alloc (Nat.le_refl _) _)) (hbel.out.alloc hbel.out.size _) (by have := hbel.out.size; simp; omega) (by rw [u8s_len', HRZ.out]; omega) ?_; intro v5 w5 ap5; obtain ⟨A6, c6, rfl, O6, B6⟩ := ap5.byte HRZ.out; clear ap5)
            go_roundw
            case rel => exact ⟨1, c6, A6, _, by omega, rfl, rfl, by omega, Lib.hid (by have := O6.out; rw [be8_take T m.length 0 _ (by omega) (by simp only [be8, List.getD_cons_succ, List.getD_cons_zero] <;> omega)] at this; exact this), B6⟩
            case measure => simp only [vlen]; omega
          · go_wp2_with (at_builtin; refine appO (w0 := w1) w1.heap.size rfl (.tmp 31) (.tmp 41) 137 137 5 (.int .u8 0) 1 rfl Tryz.underlying137 Tryz.info5 rfl (by omega) _ _ rfl _ 1 [.int .u8 _] rfl (src_new wr 5 [.int .u8 _] 1 rfl Tryz.underlying137 (by simp [Value.oneCell'])) (hown.out.below ((Below.refl _ _).alloc (Nat.le_refl _) _)) (hbel.out.alloc hbel.out.size _) (by have := hbel.out.size; simp; omega) (by rw [u8s_len', HRZ.out]; omega) ?_; intro v5 w5 ap5; obtain ⟨A6, c6, rfl, O6, B6⟩ := ap5.byte HRZ.out; clear ap5)
            go_roundw
            case rel => exact ⟨2, c6, A6, _, by omega, rfl, rfl, by omega, Lib.hid (by have := O6.out; rw [be8_take T m.length 1 _ (by omega) (by simp only [be8, List.getD_cons_succ, List.getD_cons_zero] <;> omega)] at this; exact this), B6⟩
            case measure => simp only [vlen]; omega
          · go_wp2_with (at_builtin; refine appO (w0 := w1) w1.heap.size rfl (.tmp 31) (.tmp 41) 137 137 5 (.int .u8 0) 1 rfl Tryz.underlying137 Tryz.info5 rfl (by omega) _ _ rfl _ 1 [.int .u8 _] rfl (src_new wr 5 [.int .u8 _] 1 rfl Tryz.underlying137 (by simp [Value.oneCell'])) (hown.out.below ((Below.refl _ _).alloc (Nat.le_refl _) _)) (hbel.out.alloc hbel.out.size _) (by have := hbel.out.size; simp; omega) (by rw [u8s_len', HRZ.out]; omega) ?_; intro v5 w5 ap5; obtain ⟨A6, c6, rfl, O6, B6⟩ := ap5.byte HRZ.out; clear ap5)
            go_roundw
            case rel => exact ⟨3, c6, A6, _, by omega, rfl, rfl, by omega, Lib.hid (by have := O6.out; rw [be8_take T m.length 2 _ (by omega) (by simp only [be8, List.getD_cons_succ, List.getD_cons_zero] <;> omega)] at this; exact this), B6⟩
            case measure => simp only [vlen]; omega
          · go_wp2_with (at_builtin; refine appO (w0 := w1) w1.heap.size rfl (.tmp 31) (.tmp 41) 137 137 5 (.int .u8 0) 1 rfl Tryz.underlying137 Tryz.info5 rfl (by omega) _ _ rfl _ 1 [.int .u8 _] rfl (src_new wr 5 [.int .u8 _] 1 rfl Tryz.underlying137 (by simp [Value.oneCell'])) (hown.out.below ((Below.refl _ _).alloc (Nat.le_refl _) _)) (hbel.out.alloc hbel.out.size _) (by have := hbel.out.size; simp; omega) (by rw [u8s_len', HRZ.out]; omega) ?_; intro v5 w5 ap5; obtain ⟨A6, c6, rfl, O6, B6⟩ := ap5.byte HRZ.out; clear ap5)
            go_roundw
            case rel => exact ⟨4, c6, A6, _, by omega, rfl, rfl, by omega, Lib.hid (by have := O6.out; rw [be8_take T m.length 3 _ (by omega) (by simp only [be8, List.getD_cons_succ, List.getD_cons_zero] <;> omega)] at this; exact this), B6⟩
            case measure => simp only [vlen]; omega
          · go_wp2_with (at_builtin; refine appO (w0 := w1) w1.heap.size rfl (.tmp 31) (.tmp 41) 137 137 5 (.int .u8 0) 1 rfl Tryz.underlying137 Tryz.info5 rfl (by omega) _ _ rfl _ 1 [.int .u8 _] rfl (src_new wr 5 [.int .u8 _] 1 rfl Tryz.underlying137 (by simp [Value.oneCell'])) (hown.out.below ((Below.refl _ _).alloc (Nat.le_refl _) _)) (hbel.out.alloc hbel.out.size _) (by have := hbel.out.size; simp; omega) (by rw [u8s_len', HRZ.out]; omega) ?_; intro v5 w5 ap5; obtain ⟨A6, c6, rfl, O6, B6⟩ := ap5.byte HRZ.out; clear ap5)
            go_roundw
            case rel => exact ⟨5, c6, A6, _, by omega, rfl, rfl, by omega, Lib.hid (by have := O6.out; rw [be8_take T m.length 4 _ (by omega) (by simp only [be8, List.getD_cons_succ, List.getD_cons_zero] <;> omega)] at this; exact this), B6⟩
            case measure => simp only [vlen]; omega
          · go_wp2_with (at_builtin; refine appO (w0 := w1) w1.heap.size rfl (.tmp 31) (.tmp 41) 137 137 5 (.int .u8 0) 1 rfl Tryz.underlying137 Tryz.info5 rfl (by omega) _ _ rfl _ 1 [.int .u8 _] rfl (src_new wr 5 [.int .u8 _] 1 rfl Tryz.underlying137 (by simp [Value.oneCell'])) (hown.out.below ((Below.refl _ _).alloc (Nat.le_refl _) _)) (hbel.out.alloc hbel.out.size _) (by have := hbel.out.size; simp; omega) (by rw [u8s_len', HRZ.out]; omega) ?_; intro v5 w5 ap5; obtain ⟨A6, c6, rfl, O6, B6⟩ := ap5.byte HRZ.out; clear ap5)
            go_roundw
            case rel => exact ⟨6, c6, A6, _, by omega, rfl, rfl, by omega, Lib.hid (by have := O6.out; rw [be8_take T m.length 5 _ (by omega) (by simp only [be8, List.getD_cons_succ, List.getD_cons_zero] <;> omega)] at this; exact this), B6⟩
            case measure => simp only [vlen]; omega
          · go_wp2_with (at_builtin; refine appO (w0 := w1) w1.heap.size rfl (.tmp 31) (.tmp 41) 137 137 5 (.int .u8 0) 1 rfl Tryz.underlying137 Tryz.info5 rfl (by omega) _ _ rfl _ 1 [.int .u8 _] rfl (src_new wr 5 [.int .u8 _] 1 rfl Tryz.underlying137 (by simp [Value.oneCell'])) (hown.out.below ((Below.refl _ _).alloc (Nat.le_refl _) _)) (hbel.out.alloc hbel.out.size _) (by have := hbel.out.size; simp; omega) (by rw [u8s_len', HRZ.out]; omega) ?_; intro v5 w5 ap5; obtain ⟨A6, c6, rfl, O6, B6⟩ := ap5.byte HRZ.out; clear ap5)
            go_roundw
            case rel => exact ⟨7, c6, A6, _, by omega, rfl, rfl, by omega, Lib.hid (by have := O6.out; rw [be8_take T m.length 6 _ (by omega) (by simp only [be8, List.getD_cons_succ, List.getD_cons_zero] <;> omega)] at this; exact this), B6⟩
            case measure => simp only [vlen]; omega
          · go_wp2_with (at_builtin; refine appO (w0 := w1) w1.heap.size rfl (.tmp 31) (.tmp 41) 137 137 5 (.int .u8 0) 1 rfl Tryz.underlying137 Tryz.info5 rfl (by omega) _ _ rfl _ 1 [.int .u8 _] rfl (src_new wr 5 [.int .u8 _] 1 rfl Tryz.underlying137 (by simp [Value.oneCell'])) (hown.out.below ((Below.refl _ _).alloc (Nat.le_refl _) _)) (hbel.out.alloc hbel.out.size _) (by have := hbel.out.size; simp; omega) (by rw [u8s_len', HRZ.out]; omega) ?_; intro v5 w5 ap5; obtain ⟨A6, c6, rfl, O6, B6⟩ := ap5.byte HRZ.out; clear ap5)
            go_roundw
            case rel => exact ⟨8, c6, A6, _, by omega, rfl, rfl, by omega, Lib.hid (by have := O6.out; rw [be8_take T m.length 7 _ (by omega) (by simp only [be8, List.getD_cons_succ, List.getD_cons_zero] <;> omega)] at this; exact this), B6⟩
            case measure => simp only [vlen]; omega
        · obtain rfl : j = 8 := by omega
          have hxn : x < 0 := by omega
          have hrows : T ++ (be8 m.length).take 8 = (shaP m).drop (64 * q0) := by
            rw [shaP, List.drop_append_of_le_length (by have := HQ.out; omega), ← HRR.out, HT.out, padOf, ← HZC.out, List.take_of_length_le (Nat.le_of_eq (be8_len _))]
            simp
          have hPl : (shaP m).length = 64 * q0 + (n1 + 1 + z + 8) := by have h1 := HN.out; have h2 := HQ.out; rw [shaP_len, ← HZC.out]; omega
          have hP64 := shaP_mod m
          obtain ⟨P, hP⟩ : ∃ P, P = shaP m := ⟨_, rfl⟩
          have hst : stN P q0 = s0 := by rw [hP, shaP, stN_append _ _ _ (by have := HQ.out; omega), HS0.out]
          have hPb : u8s_ok P := by rw [hP]; exact shaP_ok hmb
          rw [← hP] at hrows hPl hP64
          have hh3 : Has wr w.heap.size 171 32 := HH.out.same (hbel.out.block _ (by have := HZ.out; omega))
          have hsb : wr.heap[w.heap.size + 1]? = some (.cells (u32s (stN P q0).list).toArray 223 (0, 0)) := by
            rw [hst, hbel.out.block _ (by have := HZ.out; omega)]
            exact HP.out.blk
          have hbw : Below w.heap.size w wr := HB1.out.trans (hbel.out.mono (by have := HZ.out; omega))
          rw [hrows] at hown
          have HPE := Lib.hid hP
          have HPL := Lib.hid hPl
          have HP6 := Lib.hid hP64
          have HPB := Lib.hid hPb
          have HS1 := Lib.hid hsb
          have HH3 := Lib.hid hh3
          have HBW := Lib.hid hbw
          clear hP hPl hP64 hPb hsb hst hh3 hbw hrows hlt hj
          go_wp2
          clear c9' wu hx hxn
          obtain ⟨wo, rfl⟩ : ∃ wo : World, wo = wr := ⟨_, rfl⟩
          go_loopw [4] (fun s wr => ∃ (q k c : Nat) (A : Option Addr), q0 ≤ q ∧ 64 * q + k = P.length ∧ s = Value.slice A k c ∧ Hid (wr.heap[w.heap.size + 1]? = some (.cells (u32s (stN P q).list).toArray 223 (0, 0))) ∧ Hid (OwnO wr w1.heap.size 5 s (u8s (P.drop (64 * q)))) ∧ Hid (Has wr w.heap.size 171 32) ∧ Hid (Below w.heap.size w wr))
            (fun s _ => vlen s)
          case atStart => exact ⟨q0, n1 + 1 + z + 8, c5, A5, Nat.le_refl _, HPL.out.symm, rfl, HS1, hown, HH3, HBW⟩
          case round =>
            clear HS1 hown HH3 HBW hbel
            obtain ⟨q, k, c7, A7, hq, hkq, rfl, hsb, hown, hhas, hbel⟩ := hrel
            have hk64 : k % 64 = 0 := by have := HP6.out; omega
            by_cases hlt : 0 < k
            · have hk1 : 64 ≤ k := by omega
              have hlen : (P.drop (64 * q)).length = k := by rw [List.length_drop]; omega
              obtain ⟨g, off, rfl⟩ : ∃ g off, A7 = some ⟨g, off, none⟩ := by
                obtain ⟨b, off, c, he, _⟩ := hown.out.row (by rw [u8s_len', hlen]; omega)
                simp only [Value.slice.injEq] at he
                exact ⟨b, off, he.1⟩
              have hk3 : k ≤ c7 := by
                obtain ⟨A', c', he, hle⟩ := hown.out.len
                rw [u8s_len', hlen] at hle
                simp only [Value.slice.injEq] at he
                omega
              have hcells : ∀ j, j < 64 → wr.cell? ⟨g, off + j, none⟩ = some (.int .u8 (((P.drop (64 * q)).take 64).getD j 0)) := by
                obtain ⟨b, off', c, he, _, _, hc⟩ := hown.out.row (by rw [u8s_len', hlen]; omega)
                simp only [Value.slice.injEq, Option.some.injEq, Addr.mk.injEq] at he
                obtain ⟨⟨rfl, rfl, _⟩, _, rfl⟩ := he
                intro j hj
                refine hc j _ ?_
                simp only [u8s, List.getElem?_map, List.getD_eq_getElem?_getD, List.getElem?_take, if_pos hj]
                rw [List.getElem?_eq_getElem (by omega : j < (P.drop (64 * q)).length)]
                simp
              have hgB : w1.heap.size ≤ g := (hown.out.lt g rfl).1
              have hc64 : 64 ≤ c7 := by omega
              have hc0 : ¬ c7 = 0 := by omega
              have hci : (64 : Int) ≤ (c7 : Int) := by omega
              have hki : (64 : Int) ≤ (k : Int) := by omega
              have HCE := Lib.hid hcells
              have HLN := Lib.hid hlen
              clear hcells hlen
              have hk18 : wr.rangeAt 18 0 (u32s kk) := range_below HK.out hbel.out
              go_wp2_with fail
              refine (take_any (stN P q) (stN_ok P q) [] 223 (w.heap.size + 1) ((P.drop (64 * q)).take 64) ((HPB.out.drop _).take _) g off 64 c7 (by omega) (by omega) wr (by simpa using hsb.out) hk18 HCE.out).mono ?_
              rintro e w3' ⟨rfl, hb3, hg3⟩
              have hown3 := (hown.out.kept hg3 (fun b hb' e => by have := HZ.out; simp only [Value.ownBlock, Option.some.injEq] at hb' e; omega)).drop (k := 64) (by rw [u8s_len', HLN.out]; omega)
              rw [show (u8s (P.drop (64 * q))).drop 64 = u8s (P.drop (64 * (q + 1))) by rw [u8s, ← List.map_drop, List.drop_drop]; rfl] at hown3
              have hhas3 : Has w3' w.heap.size 171 32 := hhas.out.same (hg3.block _ hhas.out.lt (by simp))
              have hbel3 : Below w.heap.size w w3' := hbel.out.grown hg3 hbel.out.size (fun k hk => by simp at hk; omega)
              have S3 : Hid (w3'.heap[w.heap.size + 1]? = some (.cells (u32s (stN P (q + 1)).list).toArray 223 (0, 0))) := Lib.hid (by rw [List.append_nil] at hb3; exact hb3)
              have H3 := Lib.hid hhas3
              have L3 := Lib.hid hbel3
              clear hb3 hg3 hhas3 hbel3 hk18 hown hsb hhas hbel HCE
              by_cases hcc : c7 = 64
              · subst hcc
                obtain rfl : k = 64 := by omega
                rw [if_pos rfl] at hown3
                have O4 := Lib.hid hown3
                clear hown3
                go_wp2
                go_roundw
                case rel => exact ⟨q + 1, 0, 0, _, by omega, by omega, rfl, S3, O4, H3, L3⟩
                case measure => simp only [vlen]; omega
              · rw [if_neg hcc] at hown3
                have O4 := Lib.hid hown3
                clear hown3
                go_wp2
                go_roundw
                case rel => exact ⟨q + 1, k - 64, c7 - 64, _, by omega, by omega, rfl, S3, O4, H3, L3⟩
                case measure => simp only [vlen]; omega
            · obtain rfl : k = 0 := by omega
              obtain ⟨S, hS⟩ : ∃ S, S = stN P q := ⟨_, rfl⟩
              have hSq : outB S 32 = sha m := by rw [hS, sha, ← HPE.out]; congr 2; omega
              have hSok : S.ok := hS ▸ stN_ok P q
              rw [← hS] at hsb
              have HSQ := Lib.hid hSq
              clear hS hSq hown
              go_wp2
              have hn0 : wr.heap.size < (wr.alloc (Obj.cells (Array.replicate 32 (Value.int .u8 0)) 171)).heap.size := by simp
              have hstart : (wr.alloc (Obj.cells (Array.replicate 32 (Value.int .u8 0)) 171)).heap[wr.heap.size]? = some (.cells (u8s (pad 32 (outB S 0))).toArray 171 (0, 0)) := heap_alloc_new wr _
              have hwb := hbel.out.alloc hbel.out.size (Obj.cells (Array.replicate 32 (Value.int .u8 0)) 171)
              have hws : wr.heap.size > w.heap.size + 1 := blk_lt hsb.out
              have hwsb := (Below.heap_alloc wr (Obj.cells (Array.replicate 32 (Value.int .u8 0)) 171) (w.heap.size + 1) hws).trans hsb.out
              have hwh : Has (wr.alloc (Obj.cells (Array.replicate 32 (Value.int .u8 0)) 171)) w.heap.size 171 32 := hhas.out.same (Below.heap_alloc wr _ _ hhas.out.lt)
              have V1 := Lib.hid hstart
              have V2 := Lib.hid hwb
              have V3 := Lib.hid hwsb
              have V4 := Lib.hid hwh
              clear hstart hwb hwsb hwh
              obtain ⟨OB, hOB⟩ : ∃ n, n = wr.heap.size := ⟨_, rfl⟩
              rw [← hOB] at V1 hws
              rw [← hOB]
              have HOB := Lib.hid hOB
              clear hOB
              change Code.wp _ _ _ _ (wr.alloc (Obj.cells (Array.replicate 32 (Value.int .u8 0)) 171))
              generalize wr.alloc (Obj.cells (Array.replicate 32 (Value.int .u8 0)) 171) = wo at *
              clear hbel hhas hsb
              go_loopw [7, 51] (fun _ s wr => ∃ (i : Nat), i ≤ 32 ∧ s = .int .i64 i ∧ Hid (wr.heap[OB]? = some (.cells (u8s (pad 32 (outB S i))).toArray 171 (0, 0))) ∧ Hid (Below w.heap.size w wr) ∧ Hid (wr.heap[w.heap.size + 1]? = some (.cells (u32s S.list).toArray 223 (0, 0))) ∧ Hid (Has wr w.heap.size 171 32))
                (fun _ s _ => 32 - (intOf s).toNat)
              case atStart => exact ⟨0, by omega, rfl, V1, V2, V3, V4⟩
              case round =>
                clear V1 V2 V3 V4
                obtain ⟨i, hi, rfl, V1, V2, V3, V4⟩ := hrel
                by_cases hlt : i < 32
                · obtain ⟨y, hy⟩ : ∃ y, y = S.list.getD (i / 4) 0 := ⟨_, rfl⟩
                  have hyr : U y := hy ▸ getD_range (St.list_ok hSok) _
                  have hi4 : i / 4 < 8 := by omega
                  have cy : wr.cell? ⟨w.heap.size + 1, i / 4, none⟩ = some (.int .u32 y) := blk_cell V3.out (i / 4) _ (by have hl : i / 4 < S.list.length := hi4; rw [hy, u32s, List.getElem?_map, List.getD_eq_getElem?_getD, List.getElem?_eq_getElem hl]; rfl)
                  have hpl : (u8s (pad 32 (outB S i))).length = 32 := by rw [u8s_len', pad_len _ _ (by rw [outB_len]; omega)]
                  obtain ⟨z0, d0⟩ : ∃ z, wr.cell? ⟨OB, i, none⟩ = some z := ⟨_, blk_cell V1.out i (u8s (pad 32 (outB S i)))[i] (by simp)⟩
                  have d1 : wr.frozen? ⟨OB, i, none⟩ = false := blk_free V1.out i
                  have hset : (u8s (pad 32 (outB S i))).set i (.int .u8 (outAt S i)) = u8s (pad 32 (outB S (i + 1))) := by
                    have h := pad_set 32 (outB S i) (outAt S i) (by rw [outB_len]; omega)
                    rw [outB_len] at h
                    rw [outB_succ, ← h, u8s, u8s, List.map_set]
                  have HSET := Lib.hid hset
                  have HY := Lib.hid hy
                  clear hset hy hpl
                  unfold U at hyr
                  have hfin : ∀ v, v = outAt S i → Hid ((wr.setCell ⟨OB, i, none⟩ (.int .u8 v)).heap[OB]? = some (.cells (u8s (pad 32 (outB S (i + 1)))).toArray 171 (0, 0))) ∧ Hid (Below w.heap.size w (wr.setCell ⟨OB, i, none⟩ (.int .u8 v))) ∧ Hid ((wr.setCell ⟨OB, i, none⟩ (.int .u8 v)).heap[w.heap.size + 1]? = some (.cells (u32s S.list).toArray 223 (0, 0))) ∧ Hid (Has (wr.setCell ⟨OB, i, none⟩ (.int .u8 v)) w.heap.size 171 32) := by
                    rintro v rfl
                    refine ⟨Lib.hid ?_, Lib.hid (V2.out.setCell (by simp; omega) _), Lib.hid ?_, Lib.hid (V4.out.setCell _ _)⟩
                    · have := blk_set V1.out i (.int .u8 (outAt S i))
                      rw [HSET.out] at this
                      exact this
                    · rw [heap_setCell_other wr ⟨OB, i, none⟩ _ _ (by simp; omega)]
                      exact V3.out
                  have FIN := Lib.hid hfin
                  clear hfin V1 V2 V3 V4 hi4
                  have hr : i % 4 = 0 ∨ i % 4 = 1 ∨ i % 4 = 2 ∨ i % 4 = 3 := by omega
                  rcases hr with hr | hr | hr | hr
                  · have hri : (i : Int) % 4 = 0 := by omega
                    go_wp2
                    go_roundw
                    case rel => exact ⟨i + 1, by omega, by go_num, FIN.out _ (by simp only [outAt, hr, ← HY.out]; simp; try omega)⟩
                    case measure => simp [intOf]; omega
                  · have hri : (i : Int) % 4 = 1 := by omega
                    go_wp2
                    go_roundw
                    case rel => exact ⟨i + 1, by omega, by go_num, FIN.out _ (by simp only [outAt, hr, ← HY.out]; simp; try omega)⟩
                    case measure => simp [intOf]; omega
                  · have hri : (i : Int) % 4 = 2 := by omega
                    go_wp2
                    go_roundw
                    case rel => exact ⟨i + 1, by omega, by go_num, FIN.out _ (by simp only [outAt, hr, ← HY.out]; simp; try omega)⟩
                    case measure => simp [intOf]; omega
                  · have hri : (i : Int) % 4 = 3 := by omega
                    go_wp2
                    go_roundw
                    case rel => exact ⟨i + 1, by omega, by go_num, FIN.out _ (by simp only [outAt, hr, ← HY.out]; simp; try omega)⟩
                    case measure => simp [intOf]; omega
                · obtain rfl : i = 32 := by omega
                  have hpf : pad 32 (outB S 32) = sha m := by rw [pad_full _ _ (outB_len _ _), HSQ.out]
                  obtain ⟨OUT, hOUT⟩ : ∃ o, o = sha m := ⟨_, rfl⟩
                  have hol : OUT.length = 32 := by rw [hOUT, sha_len]
                  rw [hpf, ← hOUT] at V1
                  have hra : wr.rangeAt OB 0 (u8s OUT) := blk_range V1.out
                  have hi25 : (Tryz.prog.info? 171).map (·.size) = some (u8s OUT).length := by rw [u8s_len', hol]; exact Tryz.size171
                  have hh : Has wr w.heap.size 171 (u8s OUT).length := by rw [u8s_len', hol]; exact V4.out
                  have HRA := Lib.hid hra
                  have HI := Lib.hid hi25
                  have HHH := Lib.hid hh
                  have HOUT := Lib.hid hOUT
                  clear hra hi25 hh hpf V1 V3 V4 hOUT hol
                  go_wp2_with (first
                    | (refine wpList_load_g rfl 171 (.tmp 6) rfl OB 0 rfl (u8s OUT) _ HRA.out Tryz.underlying171 rfl HI.out ?_)
                    | (refine wpList_store_row rfl 171 (.tmp 2) (.tmp 67) rfl w.heap.size rfl (u8s OUT) rfl 171 HHH.out HI.out (one_u8s _) ?_; intro w9 hp9))
                  refine bodyPost_ret (v := .agg (u8s OUT).toArray) (results_cell_row rfl _ _ w.heap.size 171 _ (0, 0) _ rfl hp9.blk Tryz.underlying171 rfl (by simpa using HI.out)) rfl ⟨by rw [HOUT.out], hp9.below V2.out (Nat.le_refl _)⟩
end Go.Proofs.YtniknhhejlgdfaaGreatDoor
/- Strings and rows of bytes. -/
namespace Go.Proofs.YtniknhhejlgdfaaGreatDoor
open Go.RowKit

/-- A string's bytes. -/
def sb (s : ByteArray) : List Int := s.data.toList.map fun b => (b.toNat : Int)
theorem sb_len (s : ByteArray) : (sb s).length = s.size := by simp [sb]
theorem sb_ok (s : ByteArray) : u8s_ok (sb s) := by
  intro b hb
  obtain ⟨x, _, rfl⟩ := List.mem_map.1 hb
  have := x.toNat_lt
  unfold B8
  omega

theorem own_conv {base e : Nat} (w : World) (s : ByteArray) (hs : s.size ≤ 140737488355328) (hb : base ≤ w.heap.size) :
    OwnO (Lib.bytesWorld w e s) base e (.slice (some ⟨w.heap.size, 0, none⟩) s.size (grownCap w s.size 0 e)) (u8s (sb s)) := by
  have hge := grownCap_ge w s.size 0 e
  have hcm : grownCap w s.size 0 e ≤ maxLen := grownCap_le_maxLen w s.size 0 e (by simp only [maxLen]; omega)
  have hl : (u8s (sb s)).length = s.size := by rw [u8s_len', sb_len]
  have hsz : (Lib.bytesCells w e s).size = grownCap w s.size 0 e := by simp [Lib.bytesCells]; omega
  refine .inr ⟨w.heap.size, 0, _, _, _, by rw [hl], hb, Lib.bytesWorld_at_new w e s, by rw [hl]; exact hge, hcm, by rw [hsz]; omega, ?_, .inr (Nat.le_refl _)⟩
  rw [List.drop_zero, Lib.bytesCells, Array.toList_append]
  have : (s.data.map fun b => Value.int .u8 b.toNat).toList = u8s (sb s) := by simp [u8s, sb]
  rw [this]
  exact List.take_left
theorem below_conv (w : World) (e : TypeId) (s : ByteArray) : Below w.heap.size w (Lib.bytesWorld w e s) :=
  ⟨rfl, rfl, rfl, by rw [Lib.bytesWorld_size]; omega, fun k hk => Lib.bytesWorld_at_old w e s k hk⟩

theorem wpList_conv_bytes {P : Program} {ops : Array Oper} {rest : List Oper} {o : Oper} {a : Act} {w : World} {Q : Exit → Act → World → Prop} (hw : Region.wanted o (yielded ops a.tmps) = true) (src dst e : TypeId) (x : Operand) (ho : o.op = .convert src dst x) (s : ByteArray)
    (hx : a.eval x = .string s) {u : TypeDesc} (hs : P.underlying src = some u) (hd : P.underlying dst = some (.slice e)) (he : P.underlying e = some (.int .u8))
    (h : wpList P ops Q rest (a.put o.dst (.slice (some ⟨w.heap.size, 0, none⟩) s.size (grownCap w s.size 0 e))) (Lib.bytesWorld w e s)) : wpList P ops Q (o :: rest) a w := by
  refine wpList_step fun K hK => ?_
  rw [if_pos hw]
  unfold Oper.wp execOp
  simp only [ho, hx, Sem.run_bind, Sem.run_pure, Result.andThen_ok, Lib.run_convert_string_bytes w src dst e s hs hd he]
  exact hK _ _ h
/-- The same, and what comes of it told by what it is. -/
theorem wpList_conv_own {P : Program} {ops : Array Oper} {rest : List Oper} {o : Oper} {a : Act} {w0 w : World} {Q : Exit → Act → World → Prop} (base : Nat) (hw : Region.wanted o (yielded ops a.tmps) = true) (src dst e : TypeId) (x : Operand) (ho : o.op = .convert src dst x) (s : ByteArray)
    (hx : a.eval x = .string s) {u : TypeDesc} (hs : P.underlying src = some u) (hd : P.underlying dst = some (.slice e)) (he : P.underlying e = some (.int .u8)) (hz : s.size ≤ 140737488355328) (HB : Below base w0 w) (hbase : base ≤ w.heap.size)
    (h : ∀ A c w1, OwnO w1 base e (.slice A s.size c) (u8s (sb s)) → Below base w0 w1 → wpList P ops Q rest (a.put o.dst (.slice A s.size c)) w1) : wpList P ops Q (o :: rest) a w :=
  wpList_conv_bytes hw src dst e x ho s hx hs hd he (h _ _ _ (own_conv w s hz hbase) (HB.trans ((below_conv w e s).mono hbase)))
end Go.Proofs.YtniknhhejlgdfaaGreatDoor
/- Slices of bytes that are handed on. -/
namespace Go.Proofs.YtniknhhejlgdfaaGreatDoor
open Go.RowKit

theorem cell_same {w w' : World} {b : Nat} (h : w'.heap[b]? = w.heap[b]?) (o : Nat) : w'.cell? ⟨b, o, none⟩ = w.cell? ⟨b, o, none⟩ := by
  simp only [World.cell?, h]

/-- A slice that reads as these bytes. -/
structure Bs (w : World) (v : Value) (bs : List Int) : Prop where
  form : ∃ A c, v = .slice A bs.length c
  cells : bs ≠ [] → ∃ b off c, v = .slice (some ⟨b, off, none⟩) bs.length c ∧ bs.length ≤ c ∧ c ≤ maxLen ∧ b < w.heap.size ∧ ∀ i, i < bs.length → w.cell? ⟨b, off + i, none⟩ = some (.int .u8 (bs.getD i 0))
  ok : u8s_ok bs

theorem Bs.same {w w' : World} {v : Value} {bs : List Int} (h : Bs w v bs) (hs : ∀ k, v.ownBlock = some k → k < w.heap.size → w'.heap[k]? = w.heap[k]?) : Bs w' v bs := by
  refine ⟨h.form, fun hne => ?_, h.ok⟩
  obtain ⟨b, off, c, rfl, h1, h2, h3, h4⟩ := h.cells hne
  have e := hs b rfl h3
  refine ⟨b, off, c, rfl, h1, h2, ?_, fun i hi => (cell_same e _).trans (h4 i hi)⟩
  obtain ⟨x, hx⟩ : ∃ x, w.heap[b]? = some x := ⟨_, Array.getElem?_eq_getElem h3⟩
  exact blk_lt (e.trans hx)
theorem Bs.below {w w' : World} {v : Value} {bs : List Int} (h : Bs w v bs) (hb : Below w.heap.size w w') : Bs w' v bs :=
  h.same fun k _ hk => hb.block k hk
theorem Bs.src {w : World} {v : Value} {bs : List Int} (h : Bs w v bs) : Src Tryz.prog 1 137 v bs.length (u8s bs) w := by
  cases hbs : bs with
  | nil =>
    obtain ⟨A, c, hv⟩ := h.form
    rw [hbs] at hv
    subst hv
    cases A with
    | none => exact Src.ofNil _ Tryz.underlying137 c
    | some a => exact Src.ofSlice _ Tryz.underlying137 a 0 c [] rfl (fun j u hu => by simp at hu) (fun u hu => by cases hu)
  | cons x xs =>
    rw [← hbs]
    obtain ⟨b, off, c, rfl, h1, h2, h3, h4⟩ := h.cells (by rw [hbs]; simp)
    refine Src.ofSlice _ Tryz.underlying137 _ _ c _ (by simp [u8s]) (fun j u hu => ?_) (one_u8s bs)
    have hj : j < bs.length := by
      have := (List.getElem?_eq_some_iff.1 hu).1
      simpa [u8s] using this
    rw [show (⟨b, off, none⟩ : Addr).add j = ⟨b, off + j, none⟩ by unfold Addr.add; split <;> simp_all, h4 j hj, ← hu]
    simp [u8s, List.getD_eq_getElem?_getD, hj]
theorem Bs.of_blk {w : World} {g t : Nat} {bs : List Int} {c : Nat} {fr : Nat × Nat} (h : w.heap[g]? = some (.cells (u8s bs).toArray t fr)) (hok : u8s_ok bs) (h1 : bs.length ≤ c) (h2 : c ≤ maxLen) : Bs w (.slice (some ⟨g, 0, none⟩) bs.length c) bs :=
  ⟨⟨_, _, rfl⟩, fun _ => ⟨g, 0, c, rfl, h1, h2, blk_lt h, fun i hi => by
    rw [Nat.zero_add]
    simp only [World.cell?, h]
    simp [u8s, List.getD_eq_getElem?_getD, hi]⟩, hok⟩
theorem Bs.of_own {w : World} {base : Nat} {v : Value} {bs : List Int} (h : OwnO w base 5 v (u8s bs)) (hok : u8s_ok bs) : Bs w v bs := by
  refine ⟨?_, fun hne => ?_, hok⟩
  · obtain ⟨A, c, he, _⟩ := h.len
    exact ⟨A, c, by rw [he, u8s_len']⟩
  · have hl : 0 < bs.length := by cases bs with | nil => exact absurd rfl hne | cons => simp
    obtain ⟨b, off, c, he, h1, h2, h3⟩ := h.row (by rw [u8s_len']; exact hl)
    rw [u8s_len'] at he h1
    subst he
    exact ⟨b, off, c, rfl, h1, h2, (h.lt b rfl).2, fun i hi => h3 i _ (by simp [u8s, List.getD_eq_getElem?_getD, hi])⟩
theorem Bs.nil {w : World} {A : Option Addr} {c : Nat} : Bs w (.slice A 0 c) [] := ⟨⟨A, c, rfl⟩, fun h => absurd rfl h, fun b hb => by cases hb⟩
theorem Bs.new (w : World) (bs : List Int) (hok : u8s_ok bs) (hl : bs.length ≤ 1099511627776) (fr : Nat × Nat) : Bs (w.alloc (.cells (u8s bs).toArray 5 fr)) (.slice (some ⟨w.heap.size, 0, none⟩) bs.length bs.length) bs :=
  Bs.of_blk (heap_alloc_new w _) hok (Nat.le_refl _) (by unfold maxLen; omega)

theorem write_bs (base hb : Nat) (m bs : List Int) (rv v : Value) (w : World) (H : HashAt base w hb m rv) (hv : Bs w v bs) (hne : v.ownBlock ≠ some hb) (hsm : m.length + bs.length ≤ 1099511627776)
    (hk : w.rangeAt 18 0 (u32s kk)) (hg1 : 18 < base) (hbase : base ≤ hb) :
    Calls Tryz.prog 100 #[.pointer (some ⟨hb, 0, none⟩), v] w fun e w' => e = .returned (.tuple #[]) ∧
      ∃ rv', HashAt base w' hb (m ++ bs) rv' ∧ (rv'.ownBlock = rv.ownBlock ∨ ∃ b, rv'.ownBlock = some b ∧ w.heap.size ≤ b) ∧ Only hb rv.ownBlock w w' := by
  obtain ⟨A, c, rfl⟩ := hv.form
  exact write_any base hb m bs rv A bs.length c w H hv.ok rfl hsm (fun w' hw => (hv.same fun k hk hlt => hw k hlt fun e => hne (by rw [hk, e])).src) hk hg1 hbase
/-- What Write has left is below whatever it did not make. -/
theorem Only.low {base hb : Nat} {m : List Int} {rv : Value} {w w' : World} (h : Only hb rv.ownBlock w w') (H : HashAt base w hb m rv) (hb' : base ≤ hb) (hw : base ≤ w.heap.size) : Below base w w' :=
  h.below hb' (fun k hk => (H.own.lt k hk).1) hw
end Go.Proofs.YtniknhhejlgdfaaGreatDoor
/- What hash.Of and hash.Zero do. -/
namespace Go.Proofs.YtniknhhejlgdfaaGreatDoor
open Go.RowKit

/-- A slice of slices of bytes. -/
structure Bss (w : World) (v : Value) (ps : List (List Int)) : Prop where
  form : ∃ A c, v = .slice A ps.length c
  cells : ps ≠ [] → ∃ b off c, v = .slice (some ⟨b, off, none⟩) ps.length c ∧ ps.length ≤ c ∧ c ≤ maxLen ∧ b < w.heap.size ∧ ∀ i, i < ps.length → ∃ u, w.cell? ⟨b, off + i, none⟩ = some u ∧ Bs w u (ps.getD i [])

theorem Bss.below {w w' : World} {v : Value} {ps : List (List Int)} (h : Bss w v ps) (hb : Below w.heap.size w w') : Bss w' v ps := by
  refine ⟨h.form, fun hne => ?_⟩
  obtain ⟨b, off, c, e, h1, h2, h3, h4⟩ := h.cells hne
  refine ⟨b, off, c, e, h1, h2, Nat.lt_of_lt_of_le h3 hb.size, fun i hi => ?_⟩
  obtain ⟨u, hu, hbs⟩ := h4 i hi
  exact ⟨u, (hb.cell (p := ⟨b, off + i, none⟩) h3).trans hu, hbs.below hb⟩

def be4 (n : Nat) : List Int := [(n : Int) / 16777216 % 256, (n : Int) / 65536 % 256, (n : Int) / 256 % 256, (n : Int) % 256]
def framed (z : Int) (ps : List (List Int)) : List Int := [z % 256] ++ ps.flatMap fun p => be4 p.length ++ p
def short (z : Int) (ps : List (List Int)) : List Int := (sha (framed z ps)).take 16

theorem be4_ok (n : Nat) : u8s_ok (be4 n) := by
  intro b hb
  simp only [be4, List.mem_cons, List.not_mem_nil, or_false] at hb
  unfold B8
  omega
theorem framed_zero (z : Int) (ps : List (List Int)) : framed z (ps.take 0) = [z % 256] := by simp [framed]
theorem framed_succ (z : Int) (ps : List (List Int)) (i : Nat) (h : i < ps.length) : framed z (ps.take (i + 1)) = framed z (ps.take i) ++ be4 (ps.getD i []).length ++ ps.getD i [] := by
  unfold framed
  rw [List.take_succ_eq_append_getElem h, List.flatMap_append]
  simp only [List.flatMap_cons, List.flatMap_nil, List.append_nil, List.append_assoc, List.getD_eq_getElem?_getD, List.getElem?_eq_getElem h, Option.getD_some]
theorem framed_len (z : Int) (ps : List (List Int)) (i : Nat) : (framed z (ps.take i)).length ≤ (framed z ps).length := by
  have : framed z ps = framed z (ps.take i) ++ ((ps.drop i).flatMap fun p => be4 p.length ++ p) := by
    unfold framed
    rw [List.append_assoc, ← List.flatMap_append, List.take_append_drop]
  rw [this, List.length_append]
  omega
theorem framed_count (z : Int) (ps : List (List Int)) : ps.length ≤ (framed z ps).length := by
  induction ps with
  | nil => simp
  | cons p ps ih => simp only [framed, List.flatMap_cons, List.length_append, List.length_cons, be4, List.length_nil] at ih ⊢; omega
theorem arr16 (a : Option Addr) (cap : Nat) (W : World) : (Instr.arrayAt 24 (.slice a 16 cap)).run Tryz.prog W = .ok (.pointer a) W := run_arrayAt (w := W) 24 5 16 a 16 cap Tryz.underlying24 (Nat.le_refl _)
theorem range_take {w : World} {b o : Nat} {cs : List Value} (h : w.rangeAt b o cs) (n : Nat) : w.rangeAt b o (cs.take n) := fun j v hv => by
  refine h j v ?_
  rw [List.getElem?_take] at hv
  split at hv
  · exact hv
  · cases hv
theorem short_len (z : Int) (ps : List (List Int)) : (short z ps).length = 16 := by simp [short, sha_len]
theorem short_ok (z : Int) (ps : List (List Int)) : u8s_ok (short z ps) := (sha_ok _).take 16
theorem Tryz.size24 : (Tryz.prog.info? 24).map (·.size) = some 16 := by kernel_rfl

theorem Bs.old {w : World} {v : Value} {bs : List Int} (h : Bs w v bs) (hne : bs ≠ []) : ∀ k, v.ownBlock = some k → k < w.heap.size := by
  intro k hk
  obtain ⟨b, off, c, rfl, _, _, h3, _⟩ := h.cells hne
  simp only [Value.ownBlock, Option.some.injEq] at hk
  omega
/-- Write, of bytes that lie in old blocks. -/
theorem write_old (base hb : Nat) (m bs : List Int) (rv v : Value) (w0 w : World) (H : HashAt base w hb m rv) (hv : Bs w0 v bs) (hbel : Below w0.heap.size w0 w) (hold : w0.heap.size ≤ base) (hsm : m.length + bs.length ≤ 1099511627776)
    (hk : w.rangeAt 18 0 (u32s kk)) (hg1 : 18 < base) (hbase : base ≤ hb) :
    Calls Tryz.prog 100 #[.pointer (some ⟨hb, 0, none⟩), v] w fun e w' => e = .returned (.tuple #[]) ∧
      ∃ rv', HashAt base w' hb (m ++ bs) rv' ∧ (rv'.ownBlock = rv.ownBlock ∨ ∃ b, rv'.ownBlock = some b ∧ w.heap.size ≤ b) ∧ Only hb rv.ownBlock w w' := by
  by_cases hne : bs = []
  · obtain ⟨A, c, rfl⟩ := hv.form
    refine write_any base hb m bs rv A bs.length c w H hv.ok rfl hsm (fun w' _ => ?_) hk hg1 hbase
    subst hne
    exact Bs.nil.src
  · exact write_bs base hb m bs rv v w H (hv.below hbel) (fun e => by have := hv.old hne hb e; omega) hsm hk hg1 hbase

set_option maxHeartbeats 4000000 in
set_option maxRecDepth 100000 in
theorem of_any (z : Int) (ps : List (List Int)) (A : Option Addr) (n c : Nat) (w : World) (hv : Bss w (.slice A n c) ps) (hn : n = ps.length) (hsm : (framed z ps).length ≤ 1099511627776) (hk : w.rangeAt 18 0 (u32s kk)) (h18 : 18 < w.heap.size) :
    Calls Tryz.prog 73 #[.int .i64 z, .slice A n c] w fun e w' => e = .returned (.agg (u8s (short z ps)).toArray) ∧ Below w.heap.size w w' := by
  have hn40 : n ≤ 1099511627776 := by have := framed_count z ps; omega
  have HK := Lib.hid hk
  have HV := Lib.hid hv
  have HN := Lib.hid hn
  have HSM := Lib.hid hsm
  clear hk hv hn hsm
  go_enter Tryz.func73, Tryz.ntmps73
  go_wp2_with fail
  refine (new_any _).mono ?_
  rintro e w2 ⟨hb, rfl, hlt, hat, hb2⟩
  rw [World.size_alloc] at hlt hat hb2
  have hW : Below w.heap.size w w2 := ((Below.refl _ _).alloc (Nat.le_refl _) _).trans (hb2.mono (by simp))
  have hh : Has w2 w.heap.size 24 16 := (has_new w _ _ _ rfl).below (by rw [World.size_alloc]; exact hb2)
  have HAT := Lib.hid hat
  have HLT := Lib.hid hlt
  have HW := Lib.hid hW
  have HH := Lib.hid hh
  have hbz : hb < w2.heap.size := blk_lt hat.blk
  have hz2 : w.heap.size + 1 ≤ w2.heap.size := by have := hb2.size; simpa using this
  clear hat hlt hW hh hb2
  go_wp2_with fail
  obtain ⟨B, hB⟩ : ∃ B, B = w.heap.size + 1 := ⟨_, rfl⟩
  rw [← hB] at HAT HLT hz2
  have hwB : w.heap.size ≤ B := by omega
  have h18B : 18 < B := by omega
  have HBE := Lib.hid hB
  clear hB
  have hat1 := HAT.out.below ((Below.refl w2.heap.size w2).alloc (Nat.le_refl _) (.cells #[Value.int .u8 (z % 256)] 5))
  have bel1 : Below w.heap.size w (w2.alloc (.cells #[Value.int .u8 (z % 256)] 5)) := HW.out.alloc HW.out.size _
  have h1 : Has (w2.alloc (.cells #[Value.int .u8 (z % 256)] 5)) w.heap.size 24 16 := HH.out.below ((Below.refl _ _).alloc (Nat.le_refl _) _)
  refine (write_bs B hb [] [z % 256] _ (.slice (some ⟨w2.heap.size, 0, none⟩) 1 1) (w2.alloc (.cells (u8s [z % 256]).toArray 5)) hat1 (Bs.new w2 [z % 256] (fun b hb => by simp at hb; rw [hb]; unfold B8; omega) (by simp) (0, 0)) (by simp only [Value.ownBlock, ne_eq, Option.some.injEq]; omega) (by simp) (range_below HK.out bel1) h18B HLT.out).mono ?_
  rintro e w3 ⟨rfl, rv, hat3, _, honly⟩
  have hlow : Below B (w2.alloc (.cells #[Value.int .u8 (z % 256)] 5)) w3 := honly.low hat1 HLT.out (by simp; omega)
  have bel3 : Below w.heap.size w w3 := bel1.trans (hlow.mono hwB)
  have h3 : Has w3 w.heap.size 24 16 := h1.same (hlow.block _ (by have := HBE.out; omega))
  rw [List.nil_append, ← framed_zero z ps] at hat3
  have HAT3 := Lib.hid hat3
  have BEL3 := Lib.hid bel3
  have HH3 := Lib.hid h3
  have hz3 : B ≤ w3.heap.size := Nat.le_trans (by simp; omega) hlow.size
  clear hat1 bel1 h1 hat3 bel3 h3 honly hlow HAT HW HH
  go_wp2
  go_loopw [18] (fun s wr => ∃ (i : Nat) (rv : Value), i ≤ n ∧ s = .int .i64 i ∧ Hid (HashAt B wr hb (framed z (ps.take i)) rv) ∧ Hid (Below B w3 wr))
    (fun s _ => n - (intOf s).toNat)
  case atStart => exact ⟨0, _, by omega, rfl, HAT3, Lib.hid (Below.refl _ _)⟩
  case round =>
    clear HAT3
    obtain ⟨i, rv1, hi, rfl, hat, hbel⟩ := hrel
    have hsz : B ≤ wr.heap.size := Nat.le_trans hz3 hbel.out.size
    have hbl : hb < wr.heap.size := blk_lt hat.out.blk
    have belr : Below w.heap.size w wr := BEL3.out.trans (hbel.out.mono hwB)
    by_cases hlt : i < n
    · have hi2 : i < ps.length := by have := HN.out; omega
      obtain ⟨b, off, c', e1, _, _, h3', h4⟩ := HV.out.cells (by intro e; rw [e] at hi2; simp at hi2)
      obtain ⟨pv, hpv, hbs⟩ := h4 i hi2
      obtain ⟨p, hp⟩ : ∃ p, p = ps.getD i [] := ⟨_, rfl⟩
      rw [← hp] at hbs
      simp only [Value.slice.injEq] at e1
      obtain ⟨rfl, -, rfl⟩ := e1
      have hc := (belr.cell (p := ⟨b, off + i, none⟩) h3').trans hpv
      have HBS := Lib.hid hbs
      obtain ⟨PA, pc, rfl⟩ := hbs.form
      obtain ⟨m, hm⟩ : ∃ m, m = p.length := ⟨_, rfl⟩
      have hfs := framed_succ z ps i hi2
      have hfl := Nat.le_trans (framed_len z ps (i + 1)) HSM.out
      rw [← hp] at hfs
      rw [hfs] at hfl
      rw [← hm] at hc HBS hfs hfl
      have hml : m ≤ 1099511627776 := by simp only [List.length_append, ← hm] at hfl; omega
      have hfa : (framed z (ps.take i)).length + 4 ≤ 1099511627776 := by simp only [List.length_append, be4, List.length_cons, List.length_nil] at hfl; omega
      have hfb : (framed z (ps.take i) ++ be4 m).length + p.length ≤ 1099511627776 := by simp only [List.length_append] at hfl ⊢; omega
      have HFS := Lib.hid hfs
      have HFB := Lib.hid hfb
      have HM := Lib.hid hm
      have HBR := Lib.hid belr
      have hil : (i : Int) < n := by omega
      clear hfs hfl hfb hm hp hpv hbs h4 belr hi2 h3'
      go_wp2_with fail
      have hatA := hat.out.below ((Below.refl wr.heap.size wr).alloc (Nat.le_refl _) (.cells (u8s (be4 m)).toArray 5))
      have belA : Below w.heap.size w (wr.alloc (.cells (u8s (be4 m)).toArray 5)) := HBR.out.alloc HBR.out.size _
      have hnoA : (Value.slice (some ⟨wr.heap.size, 0, none⟩) 4 4).ownBlock ≠ some hb := by simp only [Value.ownBlock, ne_eq, Option.some.injEq]; omega
      refine (write_bs B hb _ (be4 m) rv1 (.slice (some ⟨wr.heap.size, 0, none⟩) 4 4) (wr.alloc (.cells (u8s (be4 m)).toArray 5)) hatA (Bs.new wr (be4 m) (be4_ok m) (by simp [be4]) (0, 0)) hnoA hfa (range_below HK.out belA) h18B HLT.out).mono ?_
      rintro e w5 ⟨rfl, rv5, hat5, hpl5, honly5⟩
      have low5 : Below B (wr.alloc (.cells (u8s (be4 m)).toArray 5)) w5 := honly5.low hatA HLT.out (by simp; omega)
      have beB5 : Below B wr w5 := ((Below.refl B wr).alloc hsz _).trans low5
      have bel5 : Below w.heap.size w w5 := HBR.out.trans (beB5.mono hwB)
      have hz5 : B ≤ w5.heap.size := Nat.le_trans hsz beB5.size
      go_wp2_with fail
      refine (write_old B hb _ p rv5 (.slice PA m pc) w w5 hat5 HBS.out bel5 hwB HFB.out (range_below HK.out bel5) h18B HLT.out).mono ?_
      rintro e w6 ⟨rfl, rv6, hat6, _, honly6⟩
      have beB6 : Below B wr w6 := beB5.trans (honly6.low hat5 HLT.out hz5)
      rw [← HFS.out] at hat6
      have HA6 := Lib.hid hat6
      have HB6 := Lib.hid (hbel.out.trans beB6)
      clear hatA belA hnoA hat5 hpl5 honly5 low5 beB5 bel5 hz5 hat6 honly6 beB6 hc
      go_wp2
      go_roundw
      case rel => exact ⟨i + 1, rv6, by omega, by go_num, HA6, HB6⟩
      case measure => simp [intOf]; omega
    · have hin : i = n := by omega
      have htk : ps.take i = ps := List.take_of_length_le (by rw [hin, HN.out]; exact Nat.le_refl _)
      rw [htk] at hat
      have HBR := Lib.hid belr
      have hhr : Has wr w.heap.size 24 16 := HH3.out.same (hbel.out.block _ (by have := HBE.out; omega))
      have HHR := Lib.hid hhr
      clear htk hin belr hhr
      go_wp2_with fail
      refine (sumM_any B hb _ rv1 wr hat.out (range_below HK.out HBR.out)).mono ?_
      rintro e w7 ⟨rfl, hb7⟩
      obtain ⟨OUT, hOUT⟩ : ∃ o, o = sha (framed z ps) := ⟨_, rfl⟩
      have hol : OUT.length = 32 := by rw [hOUT, sha_len]
      have hi25 : (Tryz.prog.info? 171).map (·.size) = some (u8s OUT).length := by rw [u8s_len', hol]; exact Tryz.size171
      rw [← hOUT]
      have hbel7 := HBR.out.trans (hb7.mono HBR.out.size)
      have hh7 : Has w7 w.heap.size 24 16 := HHR.out.below hb7
      have hhz : ∀ Z : Array Value, Z.size = 32 → Has (w7.alloc (.cells Z 171)) w7.heap.size 171 (u8s OUT).length := fun Z hZ => has_new w7 _ _ _ (by rw [hZ, u8s_len', hol])
      obtain ⟨SH, hSH⟩ : ∃ s, s = OUT.take 16 := ⟨_, rfl⟩
      have hsl : SH.length = 16 := by rw [hSH, List.length_take]; omega
      have hsO : SH = short z ps := by rw [hSH, hOUT]; rfl
      have hi43 : (Tryz.prog.info? 24).map (·.size) = some (u8s SH).length := by rw [u8s_len', hsl]; exact Tryz.size24
      have HOUT := Lib.hid hOUT
      have HI := Lib.hid hi25
      have HI43 := Lib.hid hi43
      have HSH := Lib.hid hSH
      have HSL := Lib.hid hsl
      have HSO := Lib.hid hsO
      have HB7 := Lib.hid hbel7
      have HH7 := Lib.hid hh7
      have HZ := Lib.hid hhz
      clear hb7 hOUT hol hi25 hbel7 hh7 hhz hSH hsl hsO hi43 hat hbel HBR HHR HH3 BEL3
      have har := arr16
      have hu : ∀ w9 : World, Put (w7.alloc (.cells (Array.replicate 32 (Value.int .u8 0)) 171)) w7.heap.size 171 (u8s OUT) w9 → w9.rangeAt w7.heap.size 0 (u8s SH) ∧ Below w.heap.size w w9 ∧ Has w9 w.heap.size 24 (u8s SH).length := fun w9 hp => by
        refine ⟨?_, hp.below (HB7.out.alloc HB7.out.size _) HB7.out.size, ?_⟩
        · have := range_take (blk_range hp.blk) 16
          rwa [show (u8s OUT).take 16 = u8s SH by rw [HSH.out, u8s, u8s, List.map_take]] at this
        · rw [u8s_len', HSL.out]
          exact HH7.out.same ((hp.other _ (by have := HH7.out.lt; omega)).trans (Below.heap_alloc w7 _ _ HH7.out.lt))
      have HU := Lib.hid hu
      clear hu
      go_wp2_with (first
        | (refine wpList_store_row rfl 171 (.tmp 9) (.tmp 43) rfl w7.heap.size rfl (u8s OUT) rfl 171 (HZ.out _ rfl) HI.out (one_u8s _) ?_; intro w9 hp9; obtain ⟨q1, q2, q3⟩ := HU.out _ hp9; have Q1 := Lib.hid q1; have Q2 := Lib.hid q2; have Q3 := Lib.hid q3; clear hp9 q1 q2 q3)
        | (refine wpList_load_g rfl 24 (.tmp 45) rfl w7.heap.size 0 rfl (u8s SH) _ Q1.out Tryz.underlying24 rfl HI43.out ?_)
        | (refine wpList_store_row rfl 24 (.tmp 4) (.tmp 46) rfl w.heap.size rfl (u8s SH) rfl 24 Q3.out HI43.out (one_u8s _) ?_; intro w10 hp10))
      refine bodyPost_ret (v := .agg (u8s SH).toArray) (results_cell_row rfl _ _ w.heap.size 24 _ (0, 0) _ rfl hp10.blk Tryz.underlying24 rfl (by simpa using HI43.out)) rfl ⟨by rw [HSO.out], hp10.below Q2.out (Nat.le_refl _)⟩
end Go.Proofs.YtniknhhejlgdfaaGreatDoor
