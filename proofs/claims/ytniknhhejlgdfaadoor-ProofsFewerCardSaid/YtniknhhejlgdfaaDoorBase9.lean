/- Lemmas that laws of this seat rest on, part 9; each says its own conditions: VKit, WStrs, WAmong, Pay, PayL, PayR, ProofsPayloadsW, Head. -/
import Derived.ProofKit
import Derived.OpenShut
import Derived.Test.YtniknhhejlgdfaaDoorTie
import Derived.Test.YtniknhhejlgdfaaDoorCards
import Derived.LaidMore
import Derived.Stop.Joined
import Derived.Stop.LaidErr
import Derived.SevenTiedAt
import Derived.WalkKit
import Derived.WalkSpells
import Derived.Maps.AppendAt
import Derived.Deep.MidRow
import Derived.Deep.AppendSrc
import Derived.Lib.Hide
import Derived.Orders
import Derived.Test.YtniknhhejlgdfaaDoorProg
import Derived.Laws.BytesArg
import Derived.Lib.ConvBytes
import Derived.Lib.SlBytesRow
import Derived.Laws.Cover3
import Derived.RangeFuncNested
import Derived.RangeFuncBound
import Derived.RangeFuncCalls
import Derived.RangeFuncLeaves
import Derived.Shelf.Abstract
import Derived.Shelf.RegionOpen
import Derived.OwnWalkIn
import Derived.TacticsInMore
import Derived.LoopNIn
import Derived.LoopIn
import Derived.Test.YtniknhhejlgdfaaDoorBase4
import Derived.Test.YtniknhhejlgdfaaDoorBase7
import Derived.Test.YtniknhhejlgdfaaDoorBase8
/- What all cards of this seat share: the sentinels as they are laid, slices of validators that came in. -/
namespace Go.Proofs.YtniknhhejlgdfaaDoor
open Go.ChangeShapes Go.WideShapes Go.ChangeAt Go.RowKit

set_option maxRecDepth 100000 in
/-- The cells of a validator that came in. -/
theorem open_va {H : Type} {enc : TypeId × Value → H} {W : World} {base : Nat} {spare : Nat → Bool} {held : Bool} {fuel : Nat} {cs : List Value} {x : DataW H × List MemPlace}
    (h : DataW.trod enc Tryd.prog W base spare held fuel 45 cs = some x) : ∃ X : Va, cs = vcells X ∧ X.1.length = 16 := by
  obtain ⟨y0, y1, n, _, hl, h0, h1⟩ := trod_struct2 Tryd.underlying45 h
  have c39 : Tryd.prog.cellsOf 45 = 17 := by kernel_rfl
  have c37 : Tryd.prog.cellsOf 24 = 16 := by kernel_rfl
  have c3 : Tryd.prog.cellsOf 3 = 1 := by kernel_rfl
  have c5 : Tryd.prog.cellsOf 5 = 1 := by kernel_rfl
  rw [c39] at hl
  have e0 : (Tryd.prog.cellsOf 24) = 16 := c37
  simp only [c37, List.drop_zero] at h0
  simp only [c3] at h1
  obtain ⟨xs, m, _, _, hl16, hxl, hel⟩ := DataW.trod_array Tryd.underlying24 h0
  obtain ⟨p, hp, _, _⟩ := DataW.trod_int Tryd.underlying3 h1
  have hcell : ∀ i, i < 16 → ∃ z, cs[i]? = some (.int .u8 z) := by
    intro i hi
    have hE := hel i hi
    rw [c5, Nat.mul_one, List.getElem?_eq_getElem (by omega)] at hE
    obtain ⟨z, e1, _, _⟩ := DataW.trod_int Tryd.underlying5 hE
    refine ⟨z, ?_⟩
    have h0 : ((((cs.take 16).drop i).take 1))[0]? = some (.int .u8 z) := by rw [e1]; rfl
    rw [List.getElem?_take, if_pos (by omega), List.getElem?_drop, List.getElem?_take, if_pos (by omega)] at h0
    simpa using h0
  refine ⟨((cs.take 16).map numOf, p), ?_, by simp; omega⟩
  apply List.ext_getElem?
  intro i
  unfold vcells
  have hul : (u8s (((cs.take 16).map numOf, p) : Va).1).length = 16 := by rw [u8s_len', List.length_map, List.length_take]; omega
  by_cases hi : i < 16
  · obtain ⟨z, hz⟩ := hcell i hi
    rw [List.getElem?_append_left (by omega), hz]
    simp [u8s, hi, hz, numOf]
  · rw [List.getElem?_append_right (by omega), hul]
    by_cases h16 : i = 16
    · subst h16
      have h2 : ((cs.drop 16).take 1)[0]? = some (.int .i64 p) := by rw [hp]; rfl
      rw [List.getElem?_take, if_pos (by omega), List.getElem?_drop] at h2
      simpa using h2
    · rw [List.getElem?_eq_none (by omega), List.getElem?_eq_none (by simp; omega)]

set_option maxRecDepth 100000 in
/-- A slice of validators that came in. -/
theorem open_vals {H : Type} {enc : TypeId × Value → H} {W : World} {base b0 : Nat} {r : Reach} {spare : Nat → Bool} {held : Bool} {v : Value} {d : DataW H} {ps : List MemPlace} (hval : Value.okWide Tryd.prog W r b0 22 v)
    (h : DataW.Trod enc Tryd.prog W base spare held 22 v d ps) : ∃ vs A n c, v = .slice A n c ∧ Vals W (.slice A n c) vs := by
  obtain ⟨fuel, hf⟩ := h
  obtain ⟨A, n, c, rfl⟩ := okWide_slice Tryd.underlying22 hval
  have c39 : Tryd.prog.cellsOf 45 = 17 := by kernel_rfl
  rcases DataW.trod_slice Tryd.underlying22 hf with ⟨hc, _⟩ | ⟨a, len, cap, elems, rest, k, _, hc, _, _, hl, hm, hlen, hel, _, _⟩
  · simp only [Value.cells, List.cons.injEq, Value.slice.injEq, and_true] at hc
    obtain ⟨rfl, rfl, rfl⟩ := hc
    exact ⟨[], none, 0, 0, rfl, ⟨_, _, rfl⟩, fun h => absurd rfl h, fun x hx => by simp at hx⟩
  · simp only [Value.cells, List.cons.injEq, Value.slice.injEq, and_true] at hc
    obtain ⟨rfl, rfl, rfl⟩ := hc
    have each : ∀ i, ∃ X : Va, i < n → X.1.length = 16 ∧ ∀ j u, (vcells X)[j]? = some u → W.cell? ((a.add (i * 17)).add j) = some u := by
      intro i
      by_cases hi : i < n
      · have he := hel i hi
        rw [c39, List.getElem?_eq_getElem (by omega), Option.bind_eq_some_iff] at he
        obtain ⟨cs', hcs, hy'⟩ := he
        obtain ⟨X, rfl, hX⟩ := open_va hy'
        refine ⟨X, fun _ => ⟨hX, fun j u hu => ?_⟩⟩
        have := (World.cells?_some hcs).2 
        have hj : j < 17 := by have := (List.getElem?_eq_some_iff.1 hu).1; rwa [vcells_len X hX] at this
        first
          | exact (this j hj).trans hu
          | exact (this.2 j hj).trans hu
      · exact ⟨([], 0), fun h => absurd h hi⟩
    obtain ⟨f, hff⟩ := Classical.axiomOfChoice each
    refine ⟨(List.range n).map f, some a, n, c, rfl, ⟨some a, c, by simp⟩, fun hne => ?_, fun x hx => ?_⟩
    · have hn : 0 < n := by
        cases n with
        | zero => exact absurd rfl hne
        | succ => omega
      obtain ⟨b, off, sp⟩ := a
      obtain ⟨hl0, h0⟩ := hff 0 hn
      have h00 : ∃ u, (vcells (f 0))[0]? = some u := ⟨_, List.getElem?_eq_getElem (by rw [vcells_len _ hl0]; omega)⟩
      obtain ⟨u, hu⟩ := h00
      have hc0 := h0 0 u hu
      have hadd0 : (⟨b, off, sp⟩ : Addr).add (0 * 17) = ⟨b, off, sp⟩ := by simp [Addr.add]
      rw [hadd0] at hc0
      obtain rfl := spot_none hc0
      refine ⟨b, off, c, by simp, by simpa using hl, hm, World.block_lt_of_cell? W _ hc0, fun i hi j u hu => ?_⟩
      have hi : i < n := by simpa using hi
      rw [List.getD_eq_getElem?_getD, List.getElem?_map, List.getElem?_range hi] at hu
      have := (hff i hi).2 j u hu
      rw [add_none, add_none] at this
      exact this
    · rw [List.mem_map] at hx
      obtain ⟨i, hi, rfl⟩ := hx
      exact (hff i (by simpa using hi)).1

end Go.Proofs.YtniknhhejlgdfaaDoor
/- Slices of bytes, of such slices, of texts. -/
namespace Go.Proofs.YtniknhhejlgdfaaDoor
open Go.RowKit

theorem Bs.len {w : World} {A : Option Addr} {n c : Nat} {bs : List Int} (h : Bs w (.slice A n c) bs) : n = bs.length := by
  obtain ⟨A', c', e⟩ := h.form
  simp only [Value.slice.injEq] at e
  exact e.2.1
theorem str_inj {a b : List Int} (ha : u8s_ok a) (hb : u8s_ok b) (h : strOfNums a = strOfNums b) : a = b := by
  rw [← sb_str a ha, ← sb_str b hb, h]

theorem Bss.len {w : World} {A : Option Addr} {n c : Nat} {ps : List (List Int)} (h : Bss w (.slice A n c) ps) : n = ps.length := by
  obtain ⟨A', c', e⟩ := h.form
  simp only [Value.slice.injEq] at e
  exact e.2.1
theorem Bss.el {w : World} {A : Option Addr} {n c : Nat} {ps : List (List Int)} (h : Bss w (.slice A n c) ps) (i : Nat) (hi : i < n) :
    ∃ b off B m d, A = some ⟨b, off, none⟩ ∧ w.cell? ⟨b, off + i, none⟩ = some (.slice B m d) ∧ Bs w (.slice B m d) (ps.getD i []) := by
  have hl := h.len
  obtain ⟨b, off, c', e, _, _, h3, h4⟩ := h.cells (by intro e; subst e; simp at hl; omega)
  simp only [Value.slice.injEq] at e
  obtain ⟨u, hu, hb⟩ := h4 i (by omega)
  obtain ⟨B, d, rfl⟩ := hb.form
  exact ⟨b, off, B, _, d, e.1, hu, hb⟩
theorem Txs.len {w : World} {A : Option Addr} {n c : Nat} {ss : List ByteArray} (h : Txs w (.slice A n c) ss) : n = ss.length := by
  obtain ⟨A', c', e⟩ := h.form
  simp only [Value.slice.injEq] at e
  exact e.2.1
theorem Txs.el {w : World} {A : Option Addr} {n c : Nat} {ss : List ByteArray} (h : Txs w (.slice A n c) ss) (i : Nat) (hi : i < n) :
    ∃ b off, A = some ⟨b, off, none⟩ ∧ b < w.heap.size ∧ w.cell? ⟨b, off + i, none⟩ = some (.string (ss.getD i ByteArray.empty)) := by
  have hl := h.len
  obtain ⟨b, off, c', e, _, _, h3, h4⟩ := h.cells (by intro e; subst e; simp at hl; omega)
  simp only [Value.slice.injEq] at e
  exact ⟨b, off, e.1, h3, h4 i (by omega)⟩
end Go.Proofs.YtniknhhejlgdfaaDoor
/- Whether a text is one of a list: slices.Contains at texts, pool.among. -/
namespace Go.Proofs.YtniknhhejlgdfaaDoor
open Go.RowKit

theorem ba_beq (a b : ByteArray) : (a == b) = decide (a = b) := by
  obtain ⟨x⟩ := a
  obtain ⟨y⟩ := b
  rw [show ((ByteArray.mk x) == (ByteArray.mk y)) = (x == y) from rfl]
  by_cases h : x = y
  · subst h; simp
  · rw [decide_eq_false (by intro e; cases e; exact h rfl)]
    simp [h]
theorem str_beq (a b : ByteArray) : (a.toList == b.toList) = decide (a = b) := by rw [← beq_toListBytes, ba_beq]

end Go.Proofs.YtniknhhejlgdfaaDoor
/- Which transactions a block may have: the program's and the document's answer. -/
namespace Go.Proofs.YtniknhhejlgdfaaDoor
open Go.RowKit

theorem str_eq_iff {x y : List Int} (hx : u8s_ok x) (hy : u8s_ok y) : decide (strOfNums x = strOfNums y) = decide (x = y) := by
  rw [decide_eq_decide]
  exact ⟨str_inj hx hy, fun h => by rw [h]⟩

set_option maxHeartbeats 4000000 in
set_option maxRecDepth 100000 in
theorem equalB_any (x y : List Int) (B B' : Option Addr) (m d m' d' : Nat) (w : World) (hx : Bs w (.slice B m d) x) (hy : Bs w (.slice B' m' d') y) :
    Calls Tryd.prog 44 #[.slice B m d, .slice B' m' d'] w fun e w' => e = .returned (.bool (decide (x = y))) ∧ w' = w := by
  have HX := Lib.hid hx
  have HY := Lib.hid hy
  have hsb := str_beq (strOfNums x) (strOfNums y)
  have hsb2 := ba_beq (strOfNums x) (strOfNums y)
  rw [str_eq_iff hx.ok hy.ok] at hsb hsb2
  clear hx hy
  go_enter Tryd.func44, Tryd.ntmps44
  go_wp2_with (first | (refine wpList_conv_str rfl (.tmp 5) rfl (.slice B m d) x rfl HX.out ?_) | (refine wpList_conv_str rfl (.tmp 7) rfl (.slice B' m' d') y rfl HY.out ?_))
  go_ret
  refine ⟨?_, rfl⟩
  first
    | rfl
    | (simp only [hsb]; rfl)
    | (simp only [hsb2]; rfl)

set_option maxHeartbeats 4000000 in
set_option maxRecDepth 100000 in
theorem same43_any (x y : List Int) (B B' : Option Addr) (m d m' d' : Nat) (bx : Nat) (w : World) (hx : Bs w (.slice B m d) x) (hy : Bs w (.slice B' m' d') y) (hb : w.cell? ⟨bx, 0, none⟩ = some (.slice B' m' d')) :
    Calls Tryd.prog 43 #[.slice B m d, .pointer (some ⟨bx, 0, none⟩)] w fun e w' => e = .returned (.bool (decide (x = y))) ∧ w' = w := by
  have HX := Lib.hid hx
  have HY := Lib.hid hy
  clear hx hy
  go_enter Tryd.func43, Tryd.ntmps43
  go_wp2_with fail
  refine (equalB_any x y B B' m d m' d' w HX.out HY.out).mono ?_
  rintro _ w1 ⟨rfl, rfl⟩
  go_wp2_with fail
  go_ret
  exact ⟨rfl, rfl⟩

/-- Is one of the first k as y is? -/
def hasB (ps : List (List Int)) (y : List Int) : Bool := decide (y ∈ ps)
def findB (ps : List (List Int)) (y : List Int) : Int := match ps.findIdx? (fun x => decide (x = y)) with
  | some i => i
  | none => -1
theorem findB_at (ps : List (List Int)) (y : List Int) (i : Nat) (hi : i < ps.length) (he : ps.getD i [] = y) (hb : ∀ j, j < i → ps.getD j [] ≠ y) : findB ps y = i := by
  have : ps.findIdx? (fun x => decide (x = y)) = some i := by
    rw [List.findIdx?_eq_some_iff_getElem]
    rw [List.getD_eq_getElem?_getD, List.getElem?_eq_getElem hi] at he
    refine ⟨hi, by simpa using he, fun j hj => ?_⟩
    have := hb j hj
    rw [List.getD_eq_getElem?_getD, List.getElem?_eq_getElem (by omega)] at this
    simpa using this
  unfold findB
  rw [this]
theorem findB_none (ps : List (List Int)) (y : List Int) (hb : ∀ j, j < ps.length → ps.getD j [] ≠ y) : findB ps y = -1 := by
  have : ps.findIdx? (fun x => decide (x = y)) = none := by
    rw [List.findIdx?_eq_none_iff]
    intro x hx
    obtain ⟨j, hj, rfl⟩ := List.getElem_of_mem hx
    have := hb j hj
    rw [List.getD_eq_getElem?_getD, List.getElem?_eq_getElem hj] at this
    simpa using this
  unfold findB
  rw [this]
theorem findB_ge (ps : List (List Int)) (y : List Int) : decide (0 ≤ findB ps y) = hasB ps y := by
  unfold hasB
  rw [decide_eq_decide]
  by_cases hb : ∀ j, j < ps.length → ps.getD j [] ≠ y
  · rw [findB_none ps y hb]
    refine ⟨fun h => absurd h (by omega), fun h => ?_⟩
    obtain ⟨j, hj, rfl⟩ := List.getElem_of_mem h
    exact absurd (by rw [List.getD_eq_getElem?_getD, List.getElem?_eq_getElem hj]; rfl) (hb j hj)
  · have : y ∈ ps := by
      simp only [Classical.not_forall, Classical.not_not] at hb
      obtain ⟨j, hj, e⟩ := hb
      rw [List.getD_eq_getElem?_getD, List.getElem?_eq_getElem hj] at e
      exact e ▸ List.getElem_mem _
    refine ⟨fun _ => this, fun _ => ?_⟩
    unfold findB
    split
    · omega
    · rename_i h
      rw [List.findIdx?_eq_none_iff] at h
      have := h y this
      simp at this

set_option maxHeartbeats 4000000 in
set_option maxRecDepth 100000 in
theorem indexBB_any (ps : List (List Int)) (y : List Int) (A B' : Option Addr) (n c m' d' : Nat) (bx : Nat) (w : World) (hv : Bss w (.slice A n c) ps) (hy : Bs w (.slice B' m' d') y) (hb : w.cell? ⟨bx, 0, none⟩ = some (.slice B' m' d')) (hz : n ≤ 1000000) :
    Calls Tryd.prog 63 #[.slice A n c, .func (.func 43) #[] #[.pointer (some ⟨bx, 0, none⟩)]] w fun e w' => e = .returned (.int .i64 (findB ps y)) ∧ w' = w := by
  have hn := hv.len
  have HV := Lib.hid hv
  have HN := Lib.hid hn
  have HY := Lib.hid hy
  clear hv hn hy
  go_enter Tryd.func63, Tryd.ntmps63
  go_wp2
  go_loopw [5, 8] (fun _ k wr => ∃ (i : Nat), i ≤ n ∧ k = .int .i64 i ∧ Hid (∀ j, j < i → ps.getD j [] ≠ y) ∧ w = wr)
    (fun _ k _ => n - (intOf k).toNat)
  case atStart => exact ⟨0, by omega, rfl, Lib.hid (fun j h => absurd h (by omega)), rfl⟩
  case round =>
    obtain ⟨i, hi, rfl, hne, rfl⟩ := hrel
    by_cases hlt : i < n
    · obtain ⟨b, off, B, m, d, rfl, hr, hbs⟩ := HV.out.el i hlt
      obtain ⟨X, hX⟩ : ∃ X, X = ps.getD i [] := ⟨_, rfl⟩
      rw [← hX] at hbs
      have HBS := Lib.hid hbs
      have HX := Lib.hid hX
      clear hX hbs
      have hil : (i : Int) < n := by omega
      go_wp2_with fail
      refine (same43_any X y B B' m d m' d' bx w HBS.out HY.out hb).mono ?_
      rintro _ w1 ⟨rfl, rfl⟩
      by_cases he : X = y
      · rw [decide_eq_true he]
        go_wp2_with fail
        go_ret
        rw [findB_at _ y i (by rw [← HN.out]; exact hlt) (by rw [← HX.out]; exact he) hne.out]
        exact ⟨rfl, rfl⟩
      · rw [decide_eq_false he]
        go_wp2_with fail
        go_roundw
        case rel => exact ⟨i + 1, by omega, by go_num, Lib.hid (fun j hj => by
          by_cases hji : j = i
          · subst hji; rw [← HX.out]; exact he
          · exact hne.out j (by omega)), trivial⟩
        case measure => simp [intOf]; omega
    · obtain rfl : i = n := by omega
      go_wp2
      go_ret
      rw [findB_none _ y (by rw [← HN.out]; exact hne.out)]
      exact ⟨rfl, rfl⟩

set_option maxHeartbeats 4000000 in
set_option maxRecDepth 100000 in
theorem containsBB_any (ps : List (List Int)) (y : List Int) (A B' : Option Addr) (n c m' d' : Nat) (bx : Nat) (w : World) (hv : Bss w (.slice A n c) ps) (hy : Bs w (.slice B' m' d') y) (hb : w.cell? ⟨bx, 0, none⟩ = some (.slice B' m' d')) (hz : n ≤ 1000000) :
    Calls Tryd.prog 45 #[.slice A n c, .func (.func 43) #[] #[.pointer (some ⟨bx, 0, none⟩)]] w fun e w' => e = .returned (.bool (hasB ps y)) ∧ w' = w := by
  have HV := Lib.hid hv
  have HY := Lib.hid hy
  clear hv hy
  have hge := findB_ge ps y
  go_enter Tryd.func45, Tryd.ntmps45
  go_wp2_with (go_at_call 63; refine (indexBB_any ps y A B' n c m' d' bx w HV.out HY.out hb hz).mono ?_; rintro _ w1 ⟨rfl, rfl⟩)
  go_ret
  exact ⟨by first | rfl | rw [← hge]; rfl, rfl⟩
end Go.Proofs.YtniknhhejlgdfaaDoor
/- Ground.Payload and the reference's Payload. -/
namespace Go.Proofs.YtniknhhejlgdfaaDoor
open Go.RowKit

/-- The transaction at i may stand there. -/
def txOk (ps : List (List Int)) (i : Nat) : Bool := decide (1 ≤ (ps.getD i []).length ∧ (ps.getD i []).length ≤ 16) && !hasB (ps.take i) (ps.getD i [])
/-- The error's number of transactions. -/
def payN (ps : List (List Int)) : Nat := if 4 < ps.length then 4 else if (List.range ps.length).all (txOk ps) then 0 else 4
theorem payN_bad (ps : List (List Int)) (i : Nat) (hi : i < ps.length) (h : txOk ps i = false) : payN ps = 4 := by
  unfold payN
  split
  · rfl
  rw [if_neg]
  intro ha
  rw [List.all_eq_true] at ha
  have := ha i (by simpa using hi)
  rw [h] at this
  cases this
theorem payN_good (ps : List (List Int)) (h4 : ps.length ≤ 4) (h : ∀ i, i < ps.length → txOk ps i = true) : payN ps = 0 := by
  unfold payN
  rw [if_neg (by omega), if_pos]
  rw [List.all_eq_true]
  exact fun i hi => h i (by simpa using hi)
theorem payN_le (ps : List (List Int)) : payN ps ≤ 18 := by unfold payN; split <;> (try split) <;> omega
/-- The error's number of transactions at validators. -/
def payG (vs : List Va) (ps : List (List Int)) : Nat := if validB vs = true then payN ps else 11
theorem Bss.take {w : World} {A : Option Addr} {n c : Nat} {ps : List (List Int)} (h : Bss w (.slice A n c) ps) (k : Nat) (hk : k ≤ n) : Bss w (.slice A k c) (ps.take k) := by
  have hl := h.len
  have htl : (ps.take k).length = k := by rw [List.length_take]; omega
  refine ⟨⟨A, c, by rw [htl]⟩, fun hne => ?_⟩
  have hk0 : 0 < k := by
    rcases Nat.eq_zero_or_pos k with e | e
    · subst e; simp at hne
    · exact e
  obtain ⟨b, off, c', e, h1, h2, h3, h4⟩ := h.cells (by intro e; subst e; simp at hne)
  simp only [Value.slice.injEq] at e
  obtain ⟨rfl, _, rfl⟩ := e
  refine ⟨b, off, c, by rw [htl], by omega, h2, h3, fun i hi => ?_⟩
  rw [htl] at hi
  obtain ⟨u, hu, hb⟩ := h4 i (by omega)
  refine ⟨u, hu, ?_⟩
  rw [show (ps.take k).getD i [] = ps.getD i [] by simp [List.getD_eq_getElem?_getD, List.getElem?_take, hi]]
  exact hb
theorem Bss.cap {w : World} {A : Option Addr} {n c : Nat} {ps : List (List Int)} (h : Bss w (.slice A n c) ps) (hn : 0 < n) : n ≤ c := by
  have hl := h.len
  obtain ⟨b, off, c', e, h1, _⟩ := h.cells (by intro e; subst e; simp at hl; omega)
  simp only [Value.slice.injEq] at e
  omega

set_option maxHeartbeats 4000000 in
set_option maxRecDepth 100000 in
theorem payload_any (e : Int) (vs : List Va) (A : Option Addr) (n c : Nat) (gen : List Int) (ps : List (List Int)) (B : Option Addr) (m d : Nat) (al : List Addr) (w : World) (hv : Vals w (.slice A n c) vs) (hp : Bss w (.slice B m d) ps) (hs : SenN w al) :
    Calls Tryd.prog 26 #[gndV e (.slice A n c) gen, .slice B m d] w fun x w' => x = .returned (errN al (payG vs ps)) ∧ Below w.heap.size w w' := by
  have b0 : Below w.heap.size w (w.alloc (.cells (gndC e (.slice A n c) gen).toArray 27)) := (Below.refl _ _).alloc (Nat.le_refl _) _
  have h0 := heap_alloc_new w (.cells (gndC e (.slice A n c) gen).toArray 27)
  have HV := Lib.hid (hv.below b0)
  have HP := Lib.hid (hp.below b0)
  have HS := Lib.hid (hs.below b0)
  have B0 := Lib.hid b0
  have HM := Lib.hid hp.len
  have c1 := gnd_1 h0
  obtain ⟨aS, iS⟩ := hs.at 10 (by omega)
  obtain ⟨aF, iF⟩ := hs.at 3 (by omega)
  have IS := Lib.hid iS
  have IF := Lib.hid iF
  have CS := Lib.hid (HS.out.cell 10 11 aS rfl iS)
  have CF := Lib.hid (HS.out.cell 3 4 aF rfl iF)
  clear b0 hv hs hp iS iF h0
  unfold gndV
  go_enter Tryd.func26, Tryd.ntmps26
  go_wp2_with fail
  refine (check1_any vs A n c aS _ HV.out CS.out).mono ?_
  rintro _ w1 ⟨rfl, hb1⟩
  have B1 := Lib.hid (B0.out.trans (hb1.mono B0.out.size))
  have P1 := Lib.hid (HP.out.below hb1)
  have cf := cell_on hb1 CF.out
  clear hb1 c1 CS CF HP B0
  by_cases hval : validB vs = true
  case neg =>
    have hck : checkV vs aS = errV aS := by unfold checkV; rw [if_neg hval]
    have HB : Hid (errN al (payG vs ps) = errV aS) := Lib.hid (by unfold payG; rw [if_neg hval]; exact errN_at IS.out)
    rw [hck]
    clear hck
    go_wp2
    go_ret
    exact ⟨by rw [HB.out]; rfl, B1.out⟩
  have hck : checkV vs aS = .nilIface := by unfold checkV; rw [if_pos hval]
  have hpg : payG vs ps = payN ps := by unfold payG; rw [if_pos hval]
  have HPG := Lib.hid hpg
  rw [hck]
  clear hpg
  clear hck
  by_cases h4 : 4 < m
  · have h4' : (4 : Int) < m := by omega
    have HB : Hid (errN al (payG vs ps) = errV aF) := Lib.hid (by rw [HPG.out]; unfold payN; rw [if_pos (by rw [← HM.out]; exact h4)]; exact errN_at IF.out)
    go_wp2
    go_ret
    exact ⟨by rw [HB.out]; rfl, B1.out⟩
  have h4' : ¬ (4 : Int) < m := by omega
  go_wp2_with fail
  go_loopw [6, 7, 8, 21] (fun _ _ _ k wr => ∃ (i : Nat), i ≤ m ∧ k = .int .i64 i ∧ Hid (∀ j, j < i → txOk ps j = true) ∧ Hid (Below w.heap.size w wr) ∧ Hid (Below w1.heap.size w1 wr))
    (fun _ _ _ k _ => m - (intOf k).toNat)
  case atStart => exact ⟨0, by omega, rfl, Lib.hid (fun j h => absurd h (by omega)), B1, Lib.hid (Below.refl _ _)⟩
  case round =>
    obtain ⟨i, hi, rfl, hok, hbw, hb1⟩ := hrel
    by_cases hlt : i < m
    · have hil : (i : Int) < m := by omega
      have Pr := Lib.hid (P1.out.below hb1.out)
      have cfr := cell_on hb1.out cf
      obtain ⟨b, off, C, k, cc, rfl, hr, hbs⟩ := Pr.out.el i hlt
      have hcap : (i : Int) ≤ d := by have := Pr.out.cap (by omega : 0 < m); omega
      have hik := hbs.len
      have hbad : txOk ps i = false → errN al (payG vs ps) = errV aF := fun h => by rw [HPG.out, payN_bad ps i (by rw [← HM.out]; exact hlt) h]; exact errN_at IF.out
      have htx : txOk ps i = (decide (1 ≤ (ps.getD i []).length ∧ (ps.getD i []).length ≤ 16) && !hasB (ps.take i) (ps.getD i [])) := rfl
      obtain ⟨X, hX⟩ : ∃ X, X = ps.getD i [] := ⟨_, rfl⟩
      rw [← hX] at hbs hik htx
      have HBAD := Lib.hid hbad
      have HTX := Lib.hid htx
      have HIK := Lib.hid hik
      have HX := Lib.hid hX
      have HBS := Lib.hid hbs
      clear hbad htx hX hbs hik
      have LA : Below wr.heap.size wr (wr.alloc (.cells #[.slice C k cc] 71)) := (Below.refl _ _).alloc (Nat.le_refl _) _
      have BW := Lib.hid (hbw.out.trans (LA.mono hbw.out.size))
      have BW1 := Lib.hid (hb1.out.trans (LA.mono hb1.out.size))
      have cf2 := cell_on LA cfr
      have PA := Lib.hid (Pr.out.below LA)
      have BSA := Lib.hid (HBS.out.below LA)
      have bx := (Boxed.new wr 71 (.slice C k cc)).cell
      clear LA cfr
      by_cases hk1 : k < 1
      · have hk1' : (k : Int) < 1 := by omega
        have HB := Lib.hid (HBAD.out (by rw [HTX.out, ← HIK.out, decide_eq_false (by omega)]; rfl))
        go_wp2_with fail
        go_ret
        exact ⟨by rw [HB.out]; rfl, BW.out⟩
      by_cases hk16 : 16 < k
      · have hk16' : (16 : Int) < k := by omega
        have HB := Lib.hid (HBAD.out (by rw [HTX.out, ← HIK.out, decide_eq_false (by omega)]; rfl))
        go_wp2_with fail
        go_ret
        exact ⟨by rw [HB.out]; rfl, BW.out⟩
      have hk1' : ¬ (k : Int) < 1 := by omega
      have hk16' : ¬ (16 : Int) < k := by omega
      go_wp2_with fail
      refine (containsBB_any (ps.take i) X (some ⟨b, off, none⟩) C i d k cc wr.heap.size _ (PA.out.take i (by omega)) BSA.out bx (by omega)).mono ?_
      rintro _ w2 ⟨rfl, rfl⟩
      have htx2 : txOk ps i = !hasB (ps.take i) X := by rw [HTX.out, ← HIK.out, decide_eq_true (by omega)]; rfl
      cases hh : hasB (ps.take i) X with
      | true =>
        have HB := Lib.hid (HBAD.out (by rw [htx2, hh]; rfl))
        clear htx2 hh
        go_wp2_with fail
        go_ret
        exact ⟨by rw [HB.out]; rfl, BW.out⟩
      | false =>
        have HT := Lib.hid (show txOk ps i = true by rw [htx2, hh]; rfl)
        clear htx2 hh
        go_wp2_with fail
        go_roundw
        case rel => exact ⟨i + 1, by omega, by go_num, Lib.hid (fun j hj => by
          by_cases hji : j = i
          · subst hji; exact HT.out
          · exact hok.out j (by omega)), BW, BW1⟩
        case measure => simp [intOf]; omega
    · obtain rfl : i = m := by omega
      have HB : Hid (errN al (payG vs ps) = .nilIface) := Lib.hid (by rw [HPG.out, payN_good ps (by have := HM.out; omega) (by rw [← HM.out]; exact hok.out)]; rfl)
      go_wp2
      go_ret
      exact ⟨by rw [HB.out]; rfl, hbw.out⟩
end Go.Proofs.YtniknhhejlgdfaaDoor
/- The reference's Payload. -/
namespace Go.Proofs.YtniknhhejlgdfaaDoor
open Go.RowKit

theorem hasB_take_succ (ps : List (List Int)) (y : List Int) (j : Nat) (hj : j < ps.length) : hasB (ps.take (j + 1)) y = (hasB (ps.take j) y || decide (ps.getD j [] = y)) := by
  unfold hasB
  rw [List.take_succ_eq_append_getElem hj, List.getD_eq_getElem?_getD, List.getElem?_eq_getElem hj, Bool.eq_iff_iff, Bool.or_eq_true, decide_eq_true_iff, decide_eq_true_iff, decide_eq_true_iff, List.mem_append, List.mem_singleton]
  exact ⟨fun h => h.imp id fun e => e.symm, fun h => h.imp id fun e => e.symm⟩

set_option maxHeartbeats 8000000 in
set_option maxRecDepth 100000 in
theorem refPay_any (ps : List (List Int)) (B : Option Addr) (m d : Nat) (w : World) (hp : Bss w (.slice B m d) ps) :
    Calls Tryd.prog 25 #[.slice B m d] w fun x w' => x = .returned (.int .i64 (payN ps)) ∧ w' = w := by
  have HP := Lib.hid hp
  have HM := Lib.hid hp.len
  clear hp
  go_enter Tryd.func25, Tryd.ntmps25
  by_cases h4 : 4 < m
  · have h4' : (4 : Int) < m := by omega
    have HB : Hid (payN ps = 4) := Lib.hid (by unfold payN; rw [if_pos (by rw [← HM.out]; exact h4)])
    go_wp2
    go_ret
    exact ⟨by rw [HB.out]; rfl, rfl⟩
  have h4' : ¬ (4 : Int) < m := by omega
  go_wp2
  go_loopw [3, 4, 6, 12] (fun _ _ _ k wr => ∃ (i : Nat), i ≤ m ∧ k = .int .i64 i ∧ Hid (∀ j, j < i → txOk ps j = true) ∧ w = wr)
    (fun _ _ _ k _ => m - (intOf k).toNat)
  case atStart => exact ⟨0, by omega, rfl, Lib.hid (fun j h => absurd h (by omega)), rfl⟩
  case round =>
    obtain ⟨i, hi, rfl, hok, rfl⟩ := hrel
    by_cases hlt : i < m
    · have hil : (i : Int) < m := by omega
      obtain ⟨b, off, C, k, cc, rfl, hr, hbs⟩ := HP.out.el i hlt
      have hcap : (i : Int) ≤ d := by have := HP.out.cap (by omega : 0 < m); omega
      have hik := hbs.len
      have hbad : txOk ps i = false → payN ps = 4 := fun h => payN_bad ps i (by rw [← HM.out]; exact hlt) h
      have htx : txOk ps i = (decide (1 ≤ (ps.getD i []).length ∧ (ps.getD i []).length ≤ 16) && !hasB (ps.take i) (ps.getD i [])) := rfl
      obtain ⟨X, hX⟩ : ∃ X, X = ps.getD i [] := ⟨_, rfl⟩
      rw [← hX] at hbs hik htx
      have HBAD := Lib.hid hbad
      have HTX := Lib.hid htx
      have HIK := Lib.hid hik
      have HX := Lib.hid hX
      have HBS := Lib.hid hbs
      clear hbad htx hX hbs hik
      by_cases hk1 : k = 0
      · subst hk1
        have HB := Lib.hid (HBAD.out (by rw [HTX.out, ← HIK.out, decide_eq_false (by omega)]; rfl))
        go_wp2
        go_ret
        exact ⟨by rw [HB.out]; rfl, rfl⟩
      have hk1' : ((k : Int) == 0) = false := by simp [hk1]
      by_cases hk16 : 16 < k
      · have hk16' : (16 : Int) < k := by omega
        have HB := Lib.hid (HBAD.out (by rw [HTX.out, ← HIK.out, decide_eq_false (by omega)]; rfl))
        go_wp2
        go_ret
        exact ⟨by rw [HB.out]; rfl, rfl⟩
      have hk16' : ¬ (16 : Int) < k := by omega
      go_wp2
      go_loopw [6, 29] (fun _ k2 wr2 => ∃ (j : Nat), j ≤ i ∧ k2 = .int .i64 j ∧ Hid (hasB (ps.take j) X = false) ∧ w = wr2)
        (fun _ k2 _ => i - (intOf k2).toNat)
      case atStart => exact ⟨0, by omega, rfl, Lib.hid (by simp [hasB]), rfl⟩
      case round =>
        obtain ⟨j, hj, rfl, hno, rfl⟩ := hrel
        by_cases hlt2 : j < i
        · have hjl : (j : Int) < i := by omega
          obtain ⟨b', off', C', k', cc', he, hr', hbs'⟩ := HP.out.el j (by omega)
          simp only [Option.some.injEq, Addr.mk.injEq, and_true] at he
          obtain ⟨rfl, rfl⟩ := he
          have hstep := hasB_take_succ ps X j (by rw [← HM.out]; omega)
          have hmem : ps.getD j [] = X → hasB (ps.take i) X = true := fun h => by
            unfold hasB
            rw [decide_eq_true_iff, ← h, List.getD_eq_getElem?_getD, List.getElem?_eq_getElem (by rw [← HM.out]; omega)]
            exact List.mem_take_iff_getElem.2 ⟨j, by rw [← HM.out]; omega, rfl⟩
          obtain ⟨Y, hY⟩ : ∃ Y, Y = ps.getD j [] := ⟨_, rfl⟩
          rw [← hY] at hbs' hstep hmem
          have HBS' := Lib.hid hbs'
          have HST := Lib.hid hstep
          have HMEM := Lib.hid hmem
          have hsb := str_beq (strOfNums Y) (strOfNums X)
          have hsb2 := ba_beq (strOfNums Y) (strOfNums X)
          rw [str_eq_iff hbs'.ok HBS.out.ok] at hsb hsb2
          clear hY hbs' hstep hmem
          by_cases he : Y = X
          · rw [decide_eq_true he] at hsb hsb2
            have HB := Lib.hid (HBAD.out (by rw [HTX.out, HMEM.out he]; simp))
            clear he
            go_wp2_with (first | (refine wpList_conv_str rfl (.tmp 33) rfl (.slice C' k' cc') Y rfl HBS'.out ?_) | (refine wpList_conv_str rfl (.tmp 35) rfl (.slice C k cc) X rfl HBS.out ?_))
            go_ret
            exact ⟨by rw [HB.out]; rfl, rfl⟩
          · rw [decide_eq_false he] at hsb hsb2
            have HN := Lib.hid (show hasB (ps.take (j + 1)) X = false by rw [HST.out, hno.out, decide_eq_false he]; rfl)
            clear he
            go_wp2_with (first | (refine wpList_conv_str rfl (.tmp 33) rfl (.slice C' k' cc') Y rfl HBS'.out ?_) | (refine wpList_conv_str rfl (.tmp 35) rfl (.slice C k cc) X rfl HBS.out ?_))
            go_roundw
            case rel => exact ⟨j + 1, by omega, by go_num, HN, trivial⟩
            case measure => simp [intOf]; omega
        · obtain rfl : j = i := by omega
          have HT := Lib.hid (show txOk ps j = true by rw [HTX.out, ← HIK.out, decide_eq_true (by omega), hno.out]; rfl)
          go_wp2
          go_roundw
          case rel => exact ⟨j + 1, by omega, by go_num, Lib.hid (fun i2 hj2 => by
            by_cases hji : i2 = j
            · subst hji; exact HT.out
            · exact hok.out i2 (by omega)), trivial⟩
          case measure => simp [intOf]; omega
    · obtain rfl : i = m := by omega
      have HB : Hid (payN ps = 0) := Lib.hid (payN_good ps (by have := HM.out; omega) (by rw [← HM.out]; exact hok.out))
      go_wp2
      go_ret
      exact ⟨by rw [HB.out]; rfl, rfl⟩
end Go.Proofs.YtniknhhejlgdfaaDoor
/- ProofsPayloads: what the law does. -/
namespace Go.Proofs.YtniknhhejlgdfaaDoor
open Go.RowKit

set_option maxHeartbeats 4000000 in
set_option maxRecDepth 100000 in
theorem proofsPayloads_any (vs : List Va) (A : Option Addr) (n c : Nat) (ps : List (List Int)) (B : Option Addr) (m d : Nat) (al : List Addr) (w : World) (hv : Vals w (.slice A n c) vs) (hp : Bss w (.slice B m d) ps) (hs : SenN w al) :
    Calls Tryd.prog 7 #[.slice A n c, .slice B m d] w fun x w' => x = .returned (.bool true) ∧ Below w.heap.size w w' := by
  have HV := Lib.hid hv
  have HP := Lib.hid hp
  have HS := Lib.hid hs
  have HM := Lib.hid hp.len
  clear hv hp hs
  go_enter Tryd.func7, Tryd.ntmps7
  go_wp2_with fail
  refine (alive11_any al w HS.out).mono ?_
  rintro _ w1 ⟨rfl, hb1⟩
  have V1 := Lib.hid (HV.out.below hb1)
  have P1 := Lib.hid (HP.out.below hb1)
  have S1 := Lib.hid (HS.out.below hb1)
  have B1 := Lib.hid hb1
  clear hb1 HV HP HS
  by_cases h20 : 20 < n
  · have h20' : (20 : Int) < n := by omega
    go_wp2_with fail
    go_ret
    exact ⟨rfl, B1.out⟩
  have h20' : ¬ (20 : Int) < n := by omega
  by_cases h21 : 20 < m
  · have h21' : (20 : Int) < m := by omega
    go_wp2_with fail
    go_ret
    exact ⟨rfl, B1.out⟩
  have h21' : ¬ (20 : Int) < m := by omega
  go_wp2_with fail
  go_loopw [6, 20] (fun _ k wr => ∃ (i : Nat), i ≤ m ∧ k = .int .i64 i ∧ w1 = wr)
    (fun _ k _ => m - (intOf k).toNat)
  case atStart => exact ⟨0, by omega, rfl, rfl⟩
  case round =>
    obtain ⟨i, hi, rfl, rfl⟩ := hrel
    by_cases hlt : i < m
    · have hil : (i : Int) < m := by omega
      obtain ⟨b, off, C, k, cc, rfl, hr, hbs⟩ := P1.out.el i hlt
      clear hbs
      by_cases hk : 200 < k
      · have hk' : (200 : Int) < k := by omega
        go_wp2
        go_ret
        exact ⟨rfl, B1.out⟩
      have hk' : ¬ (200 : Int) < k := by omega
      go_wp2
      go_roundw
      case rel => exact ⟨i + 1, by omega, by go_num, trivial⟩
      case measure => simp [intOf]; omega
    · obtain rfl : i = m := by omega
      go_wp2_with fail
      refine (refPay_any ps B i d w1 P1.out).mono ?_
      rintro _ w2 ⟨rfl, rfl⟩
      go_wp2_with fail
      refine (vright_any vs A n c w2 V1.out).mono ?_
      rintro _ w3 ⟨rfl, hb3⟩
      have V3 := Lib.hid (V1.out.below hb3)
      have P3 := Lib.hid (P1.out.below hb3)
      have S3 := Lib.hid (S1.out.below hb3)
      have B3 := Lib.hid (B1.out.trans (hb3.mono B1.out.size))
      clear hb3 V1 P1 S1 B1
      have hle : payG vs ps ≤ 18 := by unfold payG; split; exact payN_le ps; omega
      have hpay := payload_any 0 vs A n c zero16 ps B i d al w3 V3.out P3.out S3.out
      have HPAY := Lib.hid hpay
      have HLE := Lib.hid hle
      clear hpay hle
      by_cases hval : validB vs = true
      · have hpg : Hid (payG vs ps = payN ps) := Lib.hid (by unfold payG; rw [if_pos hval])
        rw [hval]
        clear hval
        go_wp2_with fail
        refine HPAY.out.mono ?_
        rintro _ w4 ⟨rfl, hb4⟩
        have S4 := Lib.hid (S3.out.below hb4)
        have B4 := Lib.hid (B3.out.trans (hb4.mono B3.out.size))
        clear hb4
        go_wp2_with fail
        refine (num_any al (payG vs ps) HLE.out w4 S4.out).mono ?_
        rintro _ w5 ⟨rfl, hb5⟩
        have B5 := Lib.hid (B4.out.trans (hb5.mono B4.out.size))
        clear hb5
        rw [hpg.out]
        go_wp2_with fail
        go_ret
        exact ⟨rfl, B5.out⟩
      · have hpg : Hid (payG vs ps = 11) := Lib.hid (by unfold payG; rw [if_neg hval])
        rw [show validB vs = false by simpa using hval]
        clear hval
        go_wp2_with fail
        refine HPAY.out.mono ?_
        rintro _ w4 ⟨rfl, hb4⟩
        have S4 := Lib.hid (S3.out.below hb4)
        have B4 := Lib.hid (B3.out.trans (hb4.mono B3.out.size))
        clear hb4
        go_wp2_with fail
        refine (num_any al (payG vs ps) HLE.out w4 S4.out).mono ?_
        rintro _ w5 ⟨rfl, hb5⟩
        have B5 := Lib.hid (B4.out.trans (hb5.mono B4.out.size))
        clear hb5
        rw [hpg.out]
        go_wp2_with fail
        go_ret
        exact ⟨rfl, B5.out⟩
end Go.Proofs.YtniknhhejlgdfaaDoor
/- The dump's head, word by word, and the closed facts that go by it. -/
namespace Go.Proofs.YtniknhhejlgdfaaDoor
set_option maxRecDepth 100000

theorem initIs : Tryd.prog.initOrder = "harness 812279d2dbfb78d8f855331c0f8375c20b853a5a2bbd18a2adf1ed4ec52f4248 cut at quorate/quoratelaw20.EpochsApart quorate/quoratelaw20.EpochsRows quorate/quoratelaw20.EpochsGrounds quorate/quoratelaw11.ProofsFewer quorate/quoratelaw11.ProofsPayloads quorate/quoratelaw11.ProofsGenesis" := by kernel_rfl
def initCodes : List Nat := [104, 97, 114, 110, 101, 115, 115, 32, 56, 49, 50, 50, 55, 57, 100, 50, 100, 98, 102, 98, 55, 56, 100, 56, 102, 56, 53, 53, 51, 51, 49, 99, 48, 102, 56, 51, 55, 53, 99, 50, 48, 98, 56, 53, 51, 97, 53, 97, 50, 98, 98, 100, 49, 56, 97, 50, 97, 100, 102, 49, 101, 100, 52, 101, 99, 53, 50, 102, 52, 50, 52, 56, 32, 99, 117, 116, 32, 97, 116, 32, 113, 117, 111, 114, 97, 116, 101, 47, 113, 117, 111, 114, 97, 116, 101, 108, 97, 119, 50, 48, 46, 69, 112, 111, 99, 104, 115, 65, 112, 97, 114, 116, 32, 113, 117, 111, 114, 97, 116, 101, 47, 113, 117, 111, 114, 97, 116, 101, 108, 97, 119, 50, 48, 46, 69, 112, 111, 99, 104, 115, 82, 111, 119, 115, 32, 113, 117, 111, 114, 97, 116, 101, 47, 113, 117, 111, 114, 97, 116, 101, 108, 97, 119, 50, 48, 46, 69, 112, 111, 99, 104, 115, 71, 114, 111, 117, 110, 100, 115, 32, 113, 117, 111, 114, 97, 116, 101, 47, 113, 117, 111, 114, 97, 116, 101, 108, 97, 119, 49, 49, 46, 80, 114, 111, 111, 102, 115, 70, 101, 119, 101, 114, 32, 113, 117, 111, 114, 97, 116, 101, 47, 113, 117, 111, 114, 97, 116, 101, 108, 97, 119, 49, 49, 46, 80, 114, 111, 111, 102, 115, 80, 97, 121, 108, 111, 97, 100, 115, 32, 113, 117, 111, 114, 97, 116, 101, 47, 113, 117, 111, 114, 97, 116, 101, 108, 97, 119, 49, 49, 46, 80, 114, 111, 111, 102, 115, 71, 101, 110, 101, 115, 105, 115]
def initWords : List (List Nat) := [[104, 97, 114, 110, 101, 115, 115], [56, 49, 50, 50, 55, 57, 100, 50, 100, 98, 102, 98, 55, 56, 100, 56, 102, 56, 53, 53, 51, 51, 49, 99, 48, 102, 56, 51, 55, 53, 99, 50, 48, 98, 56, 53, 51, 97, 53, 97, 50, 98, 98, 100, 49, 56, 97, 50, 97, 100, 102, 49, 101, 100, 52, 101, 99, 53, 50, 102, 52, 50, 52, 56], [99, 117, 116], [97, 116], [113, 117, 111, 114, 97, 116, 101, 47, 113, 117, 111, 114, 97, 116, 101, 108, 97, 119, 50, 48, 46, 69, 112, 111, 99, 104, 115, 65, 112, 97, 114, 116], [113, 117, 111, 114, 97, 116, 101, 47, 113, 117, 111, 114, 97, 116, 101, 108, 97, 119, 50, 48, 46, 69, 112, 111, 99, 104, 115, 82, 111, 119, 115], [113, 117, 111, 114, 97, 116, 101, 47, 113, 117, 111, 114, 97, 116, 101, 108, 97, 119, 50, 48, 46, 69, 112, 111, 99, 104, 115, 71, 114, 111, 117, 110, 100, 115], [113, 117, 111, 114, 97, 116, 101, 47, 113, 117, 111, 114, 97, 116, 101, 108, 97, 119, 49, 49, 46, 80, 114, 111, 111, 102, 115, 70, 101, 119, 101, 114], [113, 117, 111, 114, 97, 116, 101, 47, 113, 117, 111, 114, 97, 116, 101, 108, 97, 119, 49, 49, 46, 80, 114, 111, 111, 102, 115, 80, 97, 121, 108, 111, 97, 100, 115], [113, 117, 111, 114, 97, 116, 101, 47, 113, 117, 111, 114, 97, 116, 101, 108, 97, 119, 49, 49, 46, 80, 114, 111, 111, 102, 115, 71, 101, 110, 101, 115, 105, 115]]
def initRest : List (List Nat) := [[99, 117, 116], [97, 116], [113, 117, 111, 114, 97, 116, 101, 47, 113, 117, 111, 114, 97, 116, 101, 108, 97, 119, 50, 48, 46, 69, 112, 111, 99, 104, 115, 65, 112, 97, 114, 116], [113, 117, 111, 114, 97, 116, 101, 47, 113, 117, 111, 114, 97, 116, 101, 108, 97, 119, 50, 48, 46, 69, 112, 111, 99, 104, 115, 82, 111, 119, 115], [113, 117, 111, 114, 97, 116, 101, 47, 113, 117, 111, 114, 97, 116, 101, 108, 97, 119, 50, 48, 46, 69, 112, 111, 99, 104, 115, 71, 114, 111, 117, 110, 100, 115], [113, 117, 111, 114, 97, 116, 101, 47, 113, 117, 111, 114, 97, 116, 101, 108, 97, 119, 49, 49, 46, 80, 114, 111, 111, 102, 115, 70, 101, 119, 101, 114], [113, 117, 111, 114, 97, 116, 101, 47, 113, 117, 111, 114, 97, 116, 101, 108, 97, 119, 49, 49, 46, 80, 114, 111, 111, 102, 115, 80, 97, 121, 108, 111, 97, 100, 115], [113, 117, 111, 114, 97, 116, 101, 47, 113, 117, 111, 114, 97, 116, 101, 108, 97, 119, 49, 49, 46, 80, 114, 111, 111, 102, 115, 71, 101, 110, 101, 115, 105, 115]]
def initTail : List (List Nat) := [[97, 116], [113, 117, 111, 114, 97, 116, 101, 47, 113, 117, 111, 114, 97, 116, 101, 108, 97, 119, 50, 48, 46, 69, 112, 111, 99, 104, 115, 65, 112, 97, 114, 116], [113, 117, 111, 114, 97, 116, 101, 47, 113, 117, 111, 114, 97, 116, 101, 108, 97, 119, 50, 48, 46, 69, 112, 111, 99, 104, 115, 82, 111, 119, 115], [113, 117, 111, 114, 97, 116, 101, 47, 113, 117, 111, 114, 97, 116, 101, 108, 97, 119, 50, 48, 46, 69, 112, 111, 99, 104, 115, 71, 114, 111, 117, 110, 100, 115], [113, 117, 111, 114, 97, 116, 101, 47, 113, 117, 111, 114, 97, 116, 101, 108, 97, 119, 49, 49, 46, 80, 114, 111, 111, 102, 115, 70, 101, 119, 101, 114], [113, 117, 111, 114, 97, 116, 101, 47, 113, 117, 111, 114, 97, 116, 101, 108, 97, 119, 49, 49, 46, 80, 114, 111, 111, 102, 115, 80, 97, 121, 108, 111, 97, 100, 115], [113, 117, 111, 114, 97, 116, 101, 47, 113, 117, 111, 114, 97, 116, 101, 108, 97, 119, 49, 49, 46, 80, 114, 111, 111, 102, 115, 71, 101, 110, 101, 115, 105, 115]]
theorem initL : ("harness 812279d2dbfb78d8f855331c0f8375c20b853a5a2bbd18a2adf1ed4ec52f4248 cut at quorate/quoratelaw20.EpochsApart quorate/quoratelaw20.EpochsRows quorate/quoratelaw20.EpochsGrounds quorate/quoratelaw11.ProofsFewer quorate/quoratelaw11.ProofsPayloads quorate/quoratelaw11.ProofsGenesis" : String) = String.ofList (initCodes.map Char.ofNat) := by kernel_rfl
theorem initSigns : Tryd.prog.initOrder.toList = initCodes.map Char.ofNat := by rw [initIs, initL, String.toList_ofList]
theorem initW : wordsSigns (initCodes.map Char.ofNat) = initWords.map (fun l => l.map Char.ofNat) := by kernel_rfl
theorem initIn : wordsSigns Tryd.prog.initOrder.toList = initWords.map (fun l => l.map Char.ofNat) := by rw [initSigns, initW]

theorem behindIn : behindMainWord (wordsSigns Tryd.prog.initOrder.toList) = initRest.map (fun l => l.map Char.ofNat) := by rw [initIn]; kernel_rfl
theorem stripIn : stripLifts liftWords (initRest.map (fun l => l.map Char.ofNat)) = ([], initRest.map (fun l => l.map Char.ofNat)) := by kernel_rfl
theorem restIn : initRest.map (fun l => l.map Char.ofNat) = [99, 117, 116].map Char.ofNat :: initTail.map (fun l => l.map Char.ofNat) := by kernel_rfl
theorem noLater : Tryd.prog.laysLater = false := by kernel_rfl
theorem noReflect : Tryd.prog.bearsReflect = false := by kernel_rfl
theorem doorFits_ok : Tryd.prog.doorFits [] = true := by kernel_rfl
theorem isCut : (([99, 117, 116] : List Nat).map Char.ofNat == "cut".toList) = true := by kernel_rfl
theorem noGc : (([99, 117, 116] : List Nat).map Char.ofNat == "gc".toList) = false := by kernel_rfl
theorem noSpec : (([99, 117, 116] : List Nat).map Char.ofNat == "spec".toList) = false := by kernel_rfl
theorem noCarried : (([99, 117, 116] : List Nat).map Char.ofNat == "carried".toList) = false := by kernel_rfl
theorem mayEnter_of {P : Program} {c : List Char} {rest : List (List Char)} (h : behindMainWord (wordsSigns P.initOrder.toList) = c :: rest) (hs : stripLifts liftWords (c :: rest) = ([], c :: rest)) (hc : (c == "cut".toList) = true)
    (h1 : P.laysLater = false) (h2 : P.bearsReflect = false) (h3 : P.doorFits [] = true) : P.mayEnter = true := by
  unfold Program.mayEnter
  rw [h]
  have e : (some c == some "cut".toList) = true := hc
  dsimp only
  rw [hs, h1, h2]
  dsimp only
  rw [h3, List.head?_cons, e]
  simp
theorem mayEnter_ok : Tryd.prog.mayEnter = true := mayEnter_of (behindIn.trans restIn) (by rw [← restIn]; exact stripIn) isCut noLater noReflect doorFits_ok
theorem headLifts_ok : Tryd.prog.headLifts = [] := by
  unfold Program.headLifts
  rw [behindIn, stripIn]
  exact ite_self []
theorem liftsFinal_ok : Tryd.prog.liftsFinal = false := by
  unfold Program.liftsFinal
  rw [behindIn, restIn, headLifts_ok]
  have e : (some (([99, 117, 116] : List Nat).map Char.ofNat) == some "carried".toList) = false := noCarried
  simp only [List.head?_cons, e, Bool.false_and, List.contains_nil, Bool.or_false]
theorem make_of {P : Program} {c : List Char} {rest : List (List Char)} (h : behindMainWord (wordsSigns P.initOrder.toList) = c :: rest) (h1 : (c == "gc".toList) = false) (h2 : (c == "spec".toList) = false) (hc : (c == "cut".toList) = true) : P.make = some .cut := by
  unfold Program.make
  rw [h]
  dsimp only
  rw [h1, h2, hc]
  rfl
theorem make_ok : Tryd.prog.make = some .cut := make_of (behindIn.trans restIn) noGc noSpec isCut
theorem mainIs_of {P : Program} {h s : List Char} {rest : List (List Char)} (hw : wordsSigns P.initOrder.toList = h :: s :: rest) (h1 : isSumSigns s = true) (h2 : (h == "harness".toList) = true) : P.mainIs = some (true, s) := by
  unfold Program.mainIs
  rw [hw]
  dsimp only
  rw [h1, h2]
  rfl
theorem wordsIn2 : initWords.map (fun l => l.map Char.ofNat) = ([104, 97, 114, 110, 101, 115, 115] : List Nat).map Char.ofNat :: ([56, 49, 50, 50, 55, 57, 100, 50, 100, 98, 102, 98, 55, 56, 100, 56, 102, 56, 53, 53, 51, 51, 49, 99, 48, 102, 56, 51, 55, 53, 99, 50, 48, 98, 56, 53, 51, 97, 53, 97, 50, 98, 98, 100, 49, 56, 97, 50, 97, 100, 102, 49, 101, 100, 52, 101, 99, 53, 50, 102, 52, 50, 52, 56] : List Nat).map Char.ofNat :: initRest.map (fun l => l.map Char.ofNat) := by kernel_rfl
theorem sumL : ("812279d2dbfb78d8f855331c0f8375c20b853a5a2bbd18a2adf1ed4ec52f4248" : String) = String.ofList (([56, 49, 50, 50, 55, 57, 100, 50, 100, 98, 102, 98, 55, 56, 100, 56, 102, 56, 53, 53, 51, 51, 49, 99, 48, 102, 56, 51, 55, 53, 99, 50, 48, 98, 56, 53, 51, 97, 53, 97, 50, 98, 98, 100, 49, 56, 97, 50, 97, 100, 102, 49, 101, 100, 52, 101, 99, 53, 50, 102, 52, 50, 52, 56] : List Nat).map Char.ofNat) := by kernel_rfl
theorem isSum : isSumSigns (([56, 49, 50, 50, 55, 57, 100, 50, 100, 98, 102, 98, 55, 56, 100, 56, 102, 56, 53, 53, 51, 51, 49, 99, 48, 102, 56, 51, 55, 53, 99, 50, 48, 98, 56, 53, 51, 97, 53, 97, 50, 98, 98, 100, 49, 56, 97, 50, 97, 100, 102, 49, 101, 100, 52, 101, 99, 53, 50, 102, 52, 50, 52, 56] : List Nat).map Char.ofNat) = true := by kernel_rfl
theorem isHarness : (([104, 97, 114, 110, 101, 115, 115] : List Nat).map Char.ofNat == "harness".toList) = true := by kernel_rfl
theorem mainIs_ok : Tryd.prog.mainIs = some (true, "812279d2dbfb78d8f855331c0f8375c20b853a5a2bbd18a2adf1ed4ec52f4248".toList) := by
  rw [mainIs_of (initIn.trans wordsIn2) isSum isHarness, sumL, String.toList_ofList]
theorem looks_ok : Tryd.prog.looks [] = true := by kernel_rfl
theorem andB {a b : Bool} (h : a = true) (k : b = true) : (a && b) = true := by rw [h, k]; rfl
end Go.Proofs.YtniknhhejlgdfaaDoor
