/- Lemmas that laws of this seat rest on, part 11; each says its own conditions: Wr, ZRely2In, ZRely4, UPool, Number, NumberOk, WDig. -/
import Derived.RangeFuncNested
import Derived.RangeFuncBound
import Derived.RangeFuncCalls
import Derived.RangeFuncLeaves
import Derived.Shelf.Abstract
import Derived.Shelf.RegionOpen
import Derived.WalkKit
import Derived.OwnWalkIn
import Derived.TacticsInMore
import Derived.LoopNIn
import Derived.LoopIn
import Derived.WalkSpells
import Derived.Maps.AppendAt
import Derived.Deep.MidRow
import Derived.Deep.AppendSrc
import Derived.Lib.Hide
import Derived.OrdersIn
import Derived.Orders
import Derived.Test.YtniknhhejlgdfaaDoorProg
import Derived.Laws.BytesArg
import Derived.Lib.ConvBytes
import Derived.Lib.SlBytesRow
import Derived.Laws.Cover3
import Derived.Test.YtniknhhejlgdfaaDoorBase2
import Derived.Test.YtniknhhejlgdfaaDoorBase5
import Derived.Test.YtniknhhejlgdfaaDoorBase8
import Derived.Test.YtniknhhejlgdfaaDoorBase9
import Derived.Test.YtniknhhejlgdfaaDoorBase10
/- A writer of layer 1 in memory; its steps Fail and Fixed; what layer 9 writes, as lists. -/
namespace Go.Proofs.YtniknhhejlgdfaaDoor
open Go.RowKit

/-! What is written: some bytes, or nothing any more behind an error. -/
abbrev WS := Option (List Int)
def Lim (s : WS) (m : Nat) : Prop := ∀ b, s = some b → b.length ≤ m
theorem Lim.mono {s : WS} {m m' : Nat} (h : Lim s m) (hm : m ≤ m') : Lim s m' := fun b hb => Nat.le_trans (h b hb) hm
def fixS (xs : List Int) (s : WS) : WS := s.map (· ++ xs)
theorem Lim.fix {s : WS} {m : Nat} (h : Lim s m) (xs : List Int) : Lim (fixS xs s) (m + xs.length) := by
  intro b hb
  unfold fixS at hb
  rw [Option.map_eq_some_iff] at hb
  obtain ⟨c, hc, rfl⟩ := hb
  have := h c hc
  rw [List.length_append]
  omega
/-- A number in so many bytes, the greatest first. -/
def beN (n : Int) (k : Nat) : List Int := (List.range k).map fun j => n / (256 : Int) ^ (k - 1 - j) % 256
theorem beN_len (n : Int) (k : Nat) : (beN n k).length = k := by simp [beN]
theorem beN_ok (n : Int) (k : Nat) : u8s_ok (beN n k) := by
  intro b hb
  simp only [beN, List.mem_map, List.mem_range] at hb
  obtain ⟨j, _, rfl⟩ := hb
  unfold B8
  omega
def numS (n : Int) (k : Nat) (s : WS) : WS := if 0 ≤ n ∧ n < (256 : Int) ^ k then fixS (beN n k) s else none
theorem Lim.num {s : WS} {m : Nat} (h : Lim s m) (n : Int) (k : Nat) : Lim (numS n k s) (m + k) := by
  unfold numS
  split
  · have := h.fix (beN n k)
    rwa [beN_len] at this
  · intro b hb; cases hb
theorem fixS_none (xs : List Int) : fixS xs none = none := rfl
theorem numS_none (n : Int) (k : Nat) : numS n k none = none := by unfold numS; split <;> rfl
/-- A list: how many, and each. -/
def putS {α : Type} (most : Nat) (one : α → WS → WS) (xs : List α) (s : WS) : WS := if most < xs.length then none else xs.foldl (fun s x => one x s) (numS xs.length 1 s)
theorem Lim.fold {α : Type} {one : α → WS → WS} {c : Nat} (h1 : ∀ x s m, Lim s m → Lim (one x s) (m + c)) : ∀ (xs : List α) (s : WS) (m : Nat), Lim s m → Lim (xs.foldl (fun s x => one x s) s) (m + xs.length * c)
  | [], s, m, h => by simpa using h
  | x :: xs, s, m, h => by
    have := Lim.fold h1 xs (one x s) (m + c) (h1 x s m h)
    refine this.mono ?_
    simp only [List.length_cons, Nat.add_mul, Nat.one_mul]
    omega
theorem Lim.put {α : Type} {one : α → WS → WS} {c most : Nat} (h1 : ∀ x s m, Lim s m → Lim (one x s) (m + c)) (xs : List α) {s : WS} {m : Nat} (h : Lim s m) : Lim (putS most one xs s) (m + 1 + most * c) := by
  unfold putS
  split
  · intro b hb; cases hb
  · rename_i hl
    refine (Lim.fold h1 xs _ _ (h.num _ 1)).mono ?_
    have : xs.length * c ≤ most * c := Nat.mul_le_mul_right _ (by omega)
    omega
theorem foldS_none {α : Type} {one : α → WS → WS} (h : ∀ x, one x none = none) : ∀ xs : List α, xs.foldl (fun s x => one x s) none = none
  | [] => rfl
  | x :: xs => by rw [List.foldl_cons, h, foldS_none h xs]
theorem putS_none {α : Type} {one : α → WS → WS} (h : ∀ x, one x none = none) (most : Nat) (xs : List α) : putS most one xs none = none := by
  unfold putS
  split
  · rfl
  · rw [numS_none, foldS_none h]

/-! The writer. -/
def maxW : Nat := 1099511627776
/-- A writer of what was written so far in block q; r: the block of its bytes. -/
structure WrAt (base : Nat) (w : World) (q : Nat) (aR : Addr) (s : WS) (r : Option Nat) : Prop where
  low : base ≤ q
  at_ : ∃ ev sv bs, w.heap[q]? = some (.cells #[ev, sv] 209 (0, 0)) ∧ OwnO w base 5 sv (u8s bs) ∧ sv.ownBlock = r ∧ u8s_ok bs ∧ bs.length ≤ maxW ∧ ((s = some bs ∧ ev = .nilIface) ∨ (s = none ∧ ev = errV aR))
  ne : r ≠ some q
theorem WrAt.lt {base : Nat} {w : World} {q : Nat} {aR : Addr} {s : WS} {r : Option Nat} (h : WrAt base w q aR s r) : q < w.heap.size := by
  obtain ⟨_, _, _, hb, _⟩ := h.at_
  exact blk_lt hb
theorem WrAt.row {base : Nat} {w : World} {q : Nat} {aR : Addr} {s : WS} {r : Option Nat} (h : WrAt base w q aR s r) : ∀ k, r = some k → base ≤ k ∧ k < w.heap.size := by
  obtain ⟨_, _, _, _, ho, hr, _⟩ := h.at_
  exact fun k hk => ho.lt k (hr.trans hk)
theorem WrAt.same {base : Nat} {w w' : World} {q : Nat} {aR : Addr} {s : WS} {r : Option Nat} (h : WrAt base w q aR s r) (hg : w.grownBy w' none) : WrAt base w' q aR s r := by
  obtain ⟨ev, sv, bs, hb, ho, hr, h1, h2, h3⟩ := h.at_
  exact ⟨h.low, ⟨ev, sv, bs, (hg.block q (blk_lt hb) (by simp)).trans hb, ho.kept hg (by simp), hr, h1, h2, h3⟩, h.ne⟩
theorem WrAt.below {base : Nat} {w w' : World} {q : Nat} {aR : Addr} {s : WS} {r : Option Nat} (h : WrAt base w q aR s r) (hb : Below w.heap.size w w') : WrAt base w' q aR s r :=
  h.same ⟨hb.os, hb.tape, hb.output, hb.size, fun k hk _ => hb.block k hk⟩

/-- What a step of a writer leaves. -/
structure WStep (base q : Nat) (aR : Addr) (s' : WS) (r : Option Nat) (w w' : World) : Prop where
  at_ : ∃ r', WrAt base w' q aR s' r' ∧ (r' = r ∨ ∃ b, r' = some b ∧ w.heap.size ≤ b)
  only : Only q r w w'
theorem Only.refl (q : Nat) (r : Option Nat) (w : World) : Only q r w w := ⟨rfl, rfl, rfl, Nat.le_refl _, fun _ _ _ _ => rfl⟩
theorem Only.of_below {q : Nat} {r : Option Nat} {w w' : World} (h : Below w.heap.size w w') : Only q r w w' := ⟨h.os, h.tape, h.output, h.size, fun k hk _ _ => h.block k hk⟩
theorem Only.trans {q : Nat} {r r' : Option Nat} {w w1 w2 : World} (h : Only q r w w1) (h2 : Only q r' w1 w2) (hr : r' = r ∨ ∃ b, r' = some b ∧ w.heap.size ≤ b) : Only q r w w2 :=
  ⟨h2.os.trans h.os, h2.tape.trans h.tape, h2.output.trans h.output, Nat.le_trans h.size h2.size, fun k hk h1 h3 => (h2.block k (Nat.lt_of_lt_of_le hk h.size) h1 (by
    rcases hr with rfl | ⟨b, rfl, hb⟩
    · exact h3
    · intro e; have := Option.some.inj e; omega)).trans (h.block k hk h1 h3)⟩
theorem Only.blk {q b : Nat} {r : Option Nat} {w w' : World} {o : Obj} (h : Only q r w w') (hb : w.heap[b]? = some o) (h1 : b ≠ q) (h2 : some b ≠ r) : w'.heap[b]? = some o := (h.block b (blk_lt hb) h1 h2).trans hb
theorem WStep.refl {base q : Nat} {aR : Addr} {s : WS} {r : Option Nat} {w : World} (h : WrAt base w q aR s r) : WStep base q aR s r w w := ⟨⟨r, h, .inl rfl⟩, Only.refl _ _ _⟩
theorem WStep.of_below {base q : Nat} {aR : Addr} {s : WS} {r : Option Nat} {w w' : World} (h : WrAt base w q aR s r) (hb : Below w.heap.size w w') : WStep base q aR s r w w' := ⟨⟨r, h.below hb, .inl rfl⟩, Only.of_below hb⟩
theorem WStep.then_ {base q : Nat} {aR : Addr} {s2 : WS} {r r1 : Option Nat} {w w1 w2 : World} (h : Only q r w w1) (hr : r1 = r ∨ ∃ b, r1 = some b ∧ w.heap.size ≤ b) (h2 : WStep base q aR s2 r1 w1 w2) : WStep base q aR s2 r w w2 := by
  obtain ⟨⟨r2, a2, p2⟩, o2⟩ := h2
  refine ⟨⟨r2, a2, ?_⟩, h.trans o2 hr⟩
  rcases p2 with rfl | ⟨b, rfl, hb⟩
  · exact hr
  · exact .inr ⟨b, rfl, Nat.le_trans h.size hb⟩
/-- What lay before the writer stays. -/
theorem WStep.below {base q : Nat} {aR : Addr} {s s' : WS} {r : Option Nat} {w w' : World} (h : WStep base q aR s' r w w') (h0 : WrAt base w q aR s r) : Below base w w' :=
  h.only.below h0.low (fun k hk => (h0.row k hk).1) (by have := h0.low; have := h0.lt; omega)
/-- Blocks that the writer does not own stay. -/
theorem WStep.blk {base q b : Nat} {aR : Addr} {s' : WS} {r : Option Nat} {w w' : World} {o : Obj} (h : WStep base q aR s' r w w') (hb : w.heap[b]? = some o) (h1 : b ≠ q) (h2 : some b ≠ r) : w'.heap[b]? = some o := h.only.blk hb h1 h2

theorem Only.of_grown {q : Nat} {w w1 : World} {r : Option Nat} (h : w.grownBy w1 r) : Only q r w w1 := ⟨h.os, h.tape, h.output, h.size, fun k hk _ hr => h.block k hk (fun e => hr e)⟩
theorem Only.of_set {q i : Nat} {r : Option Nat} {w : World} (v : Value) : Only q r w (w.setCell ⟨q, i, none⟩ v) := ⟨rfl, rfl, rfl, by simp, fun k _ h _ => heap_setCell_other w ⟨q, i, none⟩ k v h⟩

set_option maxHeartbeats 4000000 in
set_option maxRecDepth 100000 in
theorem fail_any (base q : Nat) (aR : Addr) (s : WS) (r : Option Nat) (w : World) (H : WrAt base w q aR s r) :
    Calls Tryd.prog 128 #[.pointer (some ⟨q, 0, none⟩), errV aR] w fun e w' => e = .returned (.tuple #[]) ∧ WStep base q aR none r w w' := by
  have H0 := Lib.hid H
  obtain ⟨ev, sv, bs, hb, ho, hr, h1, h2, h3⟩ := H.at_
  have hc := blk_cell (xs := [ev, sv]) hb 0 _ rfl
  have hf := blk_free hb 0
  have HB := Lib.hid hb
  have HO := Lib.hid ho
  have HR := Lib.hid hr
  have HBS := Lib.hid h1
  have HLN := Lib.hid h2
  clear H hb ho hr h1 h2
  rcases h3 with ⟨rfl, rfl⟩ | ⟨rfl, rfl⟩
  · go_enter Tryd.func128, Tryd.ntmps128
    go_wp2
    go_end0
    refine ⟨rfl, ⟨r, ⟨H0.out.low, ⟨errV aR, sv, bs, ?_, ?_, HR.out, HBS.out, HLN.out, .inr ⟨rfl, rfl⟩⟩, H0.out.ne⟩, .inl rfl⟩, Only.of_set _⟩
    · exact blk_set (xs := [.nilIface, sv]) HB.out 0 _
    · refine HO.out.kept (row := some q) ⟨rfl, rfl, rfl, by simp, fun k _ hne => heap_setCell_other w ⟨q, 0, none⟩ k _ (fun e => hne (by rw [e]))⟩ (fun k hk e => H0.out.ne (by rw [← HR.out, hk, e]))
  · go_enter Tryd.func128, Tryd.ntmps128
    go_wp2
    go_end0
    exact ⟨rfl, WStep.refl H0.out⟩

set_option maxHeartbeats 4000000 in
set_option maxRecDepth 100000 in
theorem fixed_any (base q : Nat) (aR : Addr) (s : WS) (r : Option Nat) (v : Value) (xs : List Int) (w : World) (H : WrAt base w q aR s r) (hx : Bs w v xs) (hlim : Lim s (maxW - xs.length)) (hxs : xs.length ≤ maxW) :
    Calls Tryd.prog 124 #[.pointer (some ⟨q, 0, none⟩), v] w fun e w' => e = .returned (.tuple #[]) ∧ WStep base q aR (fixS xs s) r w w' := by
  have H0 := Lib.hid H
  obtain ⟨ev, sv, bs, hb, ho, hr, h1, h2, h3⟩ := H.at_
  have hq : q < w.heap.size := blk_lt hb
  have hbase : base ≤ w.heap.size := by have := H.low; omega
  have hc := blk_cell (xs := [ev, sv]) hb 0 _ rfl
  have hc1 := blk_cell (xs := [ev, sv]) hb 1 _ rfl
  have HB := Lib.hid hb
  have HO := Lib.hid ho
  have HR := Lib.hid hr
  have HBS := Lib.hid h1
  have HLN := Lib.hid h2
  obtain ⟨A, c, rfl⟩ := hx.form
  have HX := Lib.hid hx
  have hsz : bs.length + xs.length ≤ maxW ∨ s = none := by
    rcases h3 with ⟨rfl, _⟩ | ⟨h, _⟩
    · have := hlim bs rfl; left; omega
    · exact .inr h
  have HSZ := Lib.hid hsz
  clear H hb ho hr h1 h2 hx hsz hlim
  rcases h3 with ⟨rfl, rfl⟩ | ⟨rfl, rfl⟩
  · have hz : bs.length + xs.length ≤ maxW := by rcases HSZ.out with h | h; exact h; cases h
    have hz2 : ((u8s bs).length + xs.length) * 1 ≤ 140737488355328 := by rw [u8s_len', Nat.mul_one]; unfold maxW at hz; omega
    have HZ := Lib.hid hz
    have HZ2 := Lib.hid hz2
    clear hz hz2
    go_enter Tryd.func124, Tryd.ntmps124
    go_wp2_with (at_builtin; go_loud (refine appO (w0 := w) base rfl (.tmp 14) (.tmp 15) 71 71 5 (.int .u8 0) 1 rfl Tryd.underlying71 Tryd.info5 rfl (by omega) sv (u8s bs) rfl _ xs.length (u8s xs) rfl HX.out.src HO.out (Below.refl _ _) hbase HZ2.out ?_; intro v1 w1 ap; obtain ⟨A2, c2, rfl, hc2⟩ := ap.own.len; have d0 := (ap.grown.block q hq (fun e => H0.out.ne (HR.out.symm.trans e.symm))).trans HB.out; have d1 := blk_cell (xs := [.nilIface, sv]) d0 1 _ rfl; have f1 := blk_free d0 1; have D0 := Lib.hid d0; have AP := Lib.hid ap; clear ap d0))
    go_end0
    refine ⟨rfl, ?_⟩
    have AP2 := AP.out
    rw [List.length_append] at AP2
    have AP3 := Lib.hid AP2
    clear AP AP2
    generalize Value.slice A2 ((u8s bs).length + (u8s xs).length) c2 = v1 at *
    have AP := AP3
    have hv1 : v1.ownBlock ≠ some q := by
      rcases AP.out.place with h | h
      · rw [h, HR.out]; exact H0.out.ne
      · rw [h]; intro e; have := Option.some.inj e; omega
    refine ⟨⟨v1.ownBlock, ⟨H0.out.low, ⟨.nilIface, v1, bs ++ xs, ?_, ?_, rfl, HBS.out.append HX.out.ok, by rw [List.length_append]; exact HZ.out, .inl ⟨rfl, rfl⟩⟩, hv1⟩, ?_⟩, ?_⟩
    · exact blk_set (xs := [.nilIface, sv]) D0.out 1 _
    · have := AP.out.own
      rw [show u8s bs ++ u8s xs = u8s (bs ++ xs) by simp [u8s]] at this
      exact this.kept (row := some q) ⟨rfl, rfl, rfl, by simp, fun k _ hne => heap_setCell_other w1 ⟨q, 1, none⟩ k _ (fun e => hne (by rw [e]))⟩ (fun k hk e => hv1 (by rw [hk, e]))
    · rcases AP.out.place with h | h
      · exact .inl (h.trans HR.out)
      · exact .inr ⟨_, h, Nat.le_refl _⟩
    · have := AP.out.grown
      rw [HR.out] at this
      exact (Only.of_grown this).trans (Only.of_set _) (.inl rfl)
  · go_enter Tryd.func124, Tryd.ntmps124
    go_wp2
    go_end0
    exact ⟨rfl, WStep.refl H0.out⟩
end Go.Proofs.YtniknhhejlgdfaaDoor
/- Regions that draw their order, within a fence that shuts nothing out or within a round. -/
namespace Go.Proofs.YtniknhhejlgdfaaDoor
open Go.RowKit

section
variable {P : Program} {ops : Array Oper} {E : World → World → Prop} {R : Nat → World → Value → Prop} {w0 : World} {Q : Exit → Act → World → Prop} {a0 : Act}
/-- The law, at the orders. -/
theorem wpAny_rely2 {l : List Oper} {a : Act} {w : World} (m : Nat) (hs : sane l.toArray = true) (ht : tailOk2 l.toArray m = true)
    (E : World → World → Prop) (hE0 : ∀ w, E w w) (hE : ∀ {a b c}, E a b → E b c → E a c)
    (R : Nat → World → Value → Prop) (h : Rely P l.toArray E R w.drew Q (l.drop m) 0 (fun _ => a) (l.take m)) : wpAny P .any l.toArray Q l.toArray.size (Array.replicate l.toArray.size false) a w.drew := by
  obtain ⟨h1, h2⟩ := rely_get (l.take m) 0 _ h
  obtain ⟨hmn, _⟩ := tailOk2_spec ht
  have hmn' : m ≤ l.length := by simpa using hmn
  have h0 : ∀ j, (Array.replicate l.toArray.size false).getD j false = false := by
    intro j
    simp only [Array.getD_eq_getD_getElem?, Array.getElem?_replicate]
    split <;> rfl
  have hmix : ∀ vs : Nat → Value, mix (fun j => (Array.replicate l.toArray.size false).getD j false) vs 0 l.toArray.toList a = a := by
    intro vs
    refine act_ext (by simp [mix_size]) (by simp [mix_defers]) (fun t => ?_)
    rw [mix_get, lastW_none _ _ _ _ _ (fun j o _ _ => h0 _)]
  have hdrop : ∀ (L : Nat → Bool) (vs : Nat → Value) (t : Nat), (∀ j, L j = true → j < m) → lastW L vs t 0 l = lastW L vs t 0 (l.take m) := by
    intro L vs t hL
    have gen : ∀ (l1 l2 : List Oper) (i : Nat), (∀ j, L j = true → j < i + l1.length) → lastW L vs t i (l1 ++ l2) = lastW L vs t i l1 := by
      intro l1
      induction l1 with
      | nil =>
        intro l2 i hj
        rw [List.nil_append, lastW_none L vs t l2 i (fun j o _ _ => by
          cases hb : L (i + j) with
          | false => rfl
          | true => have h9 := hj _ hb; simp only [List.length_nil] at h9; omega)]
        rfl
      | cons o l1 ih =>
        intro l2 i hj
        simp only [List.cons_append, lastW]
        rw [ih l2 (i + 1) (fun j h => by have := hj j h; simp only [List.length_cons] at this; omega)]
    have := gen (l.take m) (l.drop m) 0 (fun j h => by have := hL j h; simp only [List.length_take]; omega)
    rwa [List.take_append_drop] at this
  have hmixd : ∀ (k : Nat) (vs : Nat → Value), k ≤ m → mix (fun j => decide (j < k)) vs 0 l a = mix (fun j => decide (j < k)) vs 0 (l.take m) a := by
    intro k vs hk
    refine act_ext (by simp [mix_size]) (by simp [mix_defers]) (fun t => ?_)
    rw [mix_get, mix_get, hdrop _ vs t (fun j hj => by simp at hj; omega)]
  have hmixt : ∀ (vs : Nat → Value), mix (fun _ => true) vs 0 (l.take m) a = mix (fun k => decide (k < m)) vs 0 (l.take m) a := by
    intro vs
    refine act_ext (by simp [mix_size]) (by simp [mix_defers]) (fun t => ?_)
    rw [mix_get, mix_get, lastW_congr (fun _ => true) (fun k => decide (k < m)) vs vs t (l.take m) 0 (fun j o hj _ => ⟨by
      have := (List.getElem?_eq_some_iff.1 hj).1
      simp only [List.length_take] at this
      simp
      omega, fun _ => rfl⟩)]
  have := rely_sound2 (Q := Q) (a0 := a) hE0 hE hs ht (fun j o hj ho => by
      have h3 := h1 j o (by rw [List.getElem?_take, if_pos hj]; simpa using ho)
      simp only [Nat.zero_add] at h3
      have he : (fun vs => mix (fun k => decide (k < j)) vs 0 l.toArray.toList a) = (fun vs => mix (fun k => decide (k < j)) vs 0 (l.take m) a) := funext fun vs => hmixd j vs (by omega)
      rw [he]
      exact h3)
    (fun vs w' he hr => by
      have h3 := h2 vs w' he (fun j hj => hr j (by simp only [List.length_take] at hj; omega))
      rw [hmixt vs, ← hmixd m vs (Nat.le_refl _)] at h3
      simpa using h3)
    l.toArray.size (Array.replicate l.toArray.size false) (fun _ => undef) w.drew (by simp) (by
      have : ∀ n, unl (fun j => (Array.replicate l.toArray.size false).getD j false) n ≤ n := by
        intro n
        induction n with
        | zero => exact Nat.le_refl _
        | succ n ih => simp only [unl, h0, Bool.false_eq_true, if_false] at ih ⊢; omega
      have := this m
      omega) (hE0 _) (fun j hj => by rw [h0] at hj; cases hj) (fun j hj => by rw [h0] at hj; cases hj) (fun j o _ hj => by rw [h0] at hj; cases hj)
  rw [hmix] at this
  exact this

/-- The law, in a round. -/
theorem wpIn_region_rely2 {n id : Nat} {l : List Oper} {a : Act} {w : World} {F : Fence} (hF : ∃ ro, F = AtRound ro) (hQ : ¬ LetsOut Q) (hnd : l.all (fun o => match o.op with | .defer _ => false | _ => true) = true) (hm : P.follows .mixedOrders = true) (m : Nat) (hs : sane l.toArray = true) (ht : tailOk2 l.toArray m = true)
    (E : World → World → Prop) (hE0 : ∀ w, E w w) (hE : ∀ {a b c}, E a b → E b c → E a c)
    (R : Nat → World → Value → Prop) (h : Rely P l.toArray E R w.drew Q (l.drop m) 0 (fun _ => a) (l.take m)) : (Code.region id l.toArray true).wpIn F n P Q a w := by
  obtain ⟨ro, rfl⟩ := hF
  refine wpIn_region_any hm (wpAny_in ro hQ (fun i o ho c e => ?_) _ _ _ _ (wpAny_rely2 m hs ht E hE0 hE R h))
  rw [List.all_eq_true] at hnd
  have := hnd o (List.mem_of_getElem? (by simpa using ho))
  rw [e] at this
  cases this
end
end Go.Proofs.YtniknhhejlgdfaaDoor
/- The law on regions that draw their order, where one operation changes what the others leave. -/
namespace Go.Proofs.YtniknhhejlgdfaaDoor
open Go.RowKit

section
variable (P : Program) (ops : Array Oper) (E Z : World → World → Prop) (mu : Nat) (R : Nat → World → Value → Prop) (w0 : World) (Q : Exit → Act → World → Prop)

def StepOk4 (f : (Nat → Value) → Act) (i : Nat) (o : Oper) : Prop :=
  ∀ vs w, E w0 w → (i = mu → Z w0 w) → Deps R vs w o.after.toList →
    if Region.wanted o (yielded ops (f vs).tmps) then Gives P o (f vs).eval w (fun v w' => E w w' ∧ (i ≠ mu → Z w w') ∧ ∀ w'', (if i = mu then Z w' w'' else E w' w'') → R i w'' v)
    else ∀ w'', R i w'' undef

def Rely4 (tl : List Oper) : Nat → ((Nat → Value) → Act) → List Oper → Prop
  | i, f, [] => ∀ vs w, E w0 w → (∀ j, j < i → R j w (vs j)) → wpList P ops Q tl (f vs) w
  | i, f, o :: rest => StepOk4 P ops E Z mu R w0 f i o ∧ Rely4 tl (i + 1) (fun vs => (f vs).put o.dst (vs i)) rest
end

section
variable {P : Program} {ops : Array Oper} {E Z : World → World → Prop} {mu : Nat} {R : Nat → World → Value → Prop} {w0 : World} {Q : Exit → Act → World → Prop} {a0 : Act}

theorem rely_get4 {tl : List Oper} : ∀ (l : List Oper) (i : Nat) (f : (Nat → Value) → Act), Rely4 P ops E Z mu R w0 Q tl i f l →
    (∀ j o, l[j]? = some o → StepOk4 P ops E Z mu R w0 (fun vs => mix (fun k => decide (k < i + j)) vs i l (f vs)) (i + j) o) ∧
    (∀ vs w, E w0 w → (∀ j, j < i + l.length → R j w (vs j)) → wpList P ops Q tl (mix (fun _ => true) vs i l (f vs)) w)
  | [], i, f, h => ⟨fun j o hj => by simp at hj, fun vs w he hr => h vs w he (fun j hj => hr j (by simpa using hj))⟩
  | p :: rest, i, f, h => by
    obtain ⟨h1, h2⟩ := h
    obtain ⟨h3, h4⟩ := rely_get4 rest (i + 1) _ h2
    constructor
    · intro j o hj
      cases j with
      | zero =>
        obtain rfl : p = o := by simpa using hj
        have e : ∀ (vs : Nat → Value), mix (fun k => decide (k < i + 0)) vs i (p :: rest) (f vs) = f vs := by
          intro vs
          simp only [mix, Nat.add_zero, Nat.lt_irrefl, decide_false, Bool.false_eq_true, if_false]
          have hn : ∀ (l : List Oper) (m : Nat) (a : Act), i ≤ m → mix (fun k => decide (k < i)) vs m l a = a := by
            intro l
            induction l with
            | nil => intro m a _; rfl
            | cons q l ih =>
              intro m a hm
              simp only [mix]
              rw [ih (m + 1) _ (by omega)]
              have e : decide (m < i) = false := decide_eq_false (by omega)
              simp [e]
          exact hn rest (i + 1) _ (by omega)
        simp only [e]
        exact h1
      | succ j =>
        have := h3 j o (by simpa using hj)
        rw [show i + (j + 1) = i + 1 + j by omega]
        simp only [mix]
        have e : decide (i < i + 1 + j) = true := decide_eq_true (by omega)
        simp only [e, if_true]
        exact this
    · intro vs w he hr
      simp only [mix, if_true]
      exact h4 vs w he (fun j hj => hr j (by simp only [List.length_cons]; omega))

theorem rely_sound4 {m : Nat} (hE0 : ∀ w, E w w) (hZ0 : ∀ w, Z w w) (hZ : ∀ {a b c}, Z a b → Z b c → Z a c) (hE : ∀ {a b c}, E a b → E b c → E a c) (hs : sane ops = true) (ht : tailOk3 ops m = true)
    (hstep : ∀ j o, j < m → ops[j]? = some o → StepOk4 P ops E Z mu R w0 (fun vs => mix (fun k => decide (k < j)) vs 0 ops.toList a0) j o)
    (hend : ∀ vs w, E w0 w → (∀ j, j < m → R j w (vs j)) → wpList P ops Q (ops.toList.drop m) (mix (fun k => decide (k < m)) vs 0 ops.toList a0) w) :
    ∀ (fuel : Nat) (listed : Array Bool) (vs : Nat → Value) (w : World), listed.size = ops.size → unl (fun j => listed.getD j false) m + (ops.size - m) ≤ fuel → E w0 w →
      (∀ j, listed.getD j false = true → j < m) →
      (∀ j, listed.getD j false = true → ∀ w', (if j = mu then Z w w' else E w w') → R j w' (vs j)) →
      (∀ j o, ops[j]? = some o → listed.getD j false = true → ∀ e ∈ o.after.toList, Region.binds .any e = true → listed.getD e.on false = true) →
      (listed.getD mu false = false → Z w0 w) →
      wpAny P .any ops Q fuel listed (mix (fun j => listed.getD j false) vs 0 ops.toList a0) w := by
  obtain ⟨hmn, htl⟩ := tailOk3_spec ht
  have hall : ∀ (fuel : Nat) (listed : Array Bool) (vs : Nat → Value) (w : World), listed.size = ops.size → unl (fun j => listed.getD j false) m = 0 → ops.size ≤ fuel + m → E w0 w →
      (∀ j, listed.getD j false = true → j < m) →
      (∀ j, listed.getD j false = true → ∀ w', (if j = mu then Z w w' else E w w') → R j w' (vs j)) → wpAny P .any ops Q fuel listed (mix (fun j => listed.getD j false) vs 0 ops.toList a0) w := by
    intro fuel listed vs w hsz hz hf he hlm hR
    have hmk := unl_zero m hz
    have hL : ∀ j, listed.getD j false = decide (j < m) := by
      intro j
      by_cases h : j < m
      · rw [hmk j h]; simp [h]
      · cases hb : listed.getD j false with
        | true => exact absurd (hlm j hb) h
        | false => simp [h]
    refine seq_sound3 hs ht fuel m listed _ w (Nat.le_refl _) hsz (fun j _ => hL j) hf hmn ?_
    have hm : mix (fun j => listed.getD j false) vs 0 ops.toList a0 = mix (fun k => decide (k < m)) vs 0 ops.toList a0 := by
      refine act_ext (by simp [mix_size]) (by simp [mix_defers]) (fun t => ?_)
      rw [mix_get, mix_get, lastW_congr _ (fun k => decide (k < m)) vs vs t ops.toList 0 (fun j o hj _ => ⟨by
        simp only [Nat.zero_add]
        exact hL j, fun _ => rfl⟩)]
    rw [hm]
    exact hend vs w he (fun j hj => hR j (hmk j hj) w (by split; exact hZ0 w; exact hE0 w))
  intro fuel
  induction fuel with
  | zero =>
    intro listed vs w hsz hu he hlm hR hcl hzz
    exact hall 0 listed vs w hsz (by omega) (by omega) he hlm hR
  | succ fuel ih =>
    intro listed vs w hsz hu he hlm hR hcl hzz
    by_cases hz : unl (fun j => listed.getD j false) m = 0
    · exact hall (fuel + 1) listed vs w hsz hz (by omega) he hlm hR
    have hnot : ¬ ∀ j, j < m → listed.getD j false = true := fun h => hz (by
      have : ∀ k, k ≤ m → unl (fun j => listed.getD j false) k = 0 := by
        intro k
        induction k with
        | zero => intro _; rfl
        | succ k ihk => intro hk; have e1 := ihk (by omega); have e2 := h k (by omega); simp only [unl, e1, e2, if_true]
      exact this m (Nat.le_refl _))
    have hrm : ∀ i ∈ Region.ready .any ops listed, i < m := by
      intro i hi
      simp only [Region.ready, List.mem_filter, List.mem_range] at hi
      obtain ⟨hin, hrd⟩ := hi
      have ho : ops[i]? = some ops[i] := by simp [hin]
      generalize ops[i] = o at ho
      rw [ho] at hrd
      simp only [Bool.and_eq_true, Bool.not_eq_true', Option.map_some, Option.getD_some, Array.all_eq_true', Bool.or_eq_true] at hrd
      rcases Nat.lt_or_ge i m with h | h
      · exact h
      · exfalso
        by_cases him : i = m
        · refine hnot fun j hj => ?_
          refine ((htl i o h ho).1 him j hj).listed listed hcl ho fun e hem hb => ?_
          rcases hrd.2 e (by simpa using hem) with h2 | h2
          · rw [hb] at h2; cases h2
          · exact h2
        · obtain ⟨e, hem, hb, hon⟩ := (htl i o h ho).2 (by omega)
          rcases hrd.2 e (by simpa using hem) with h2 | h2
          · rw [hb] at h2; cases h2
          · rw [hon] at h2
            have := hlm (i - 1) h2
            omega
    refine ⟨fun hr => ?_, fun i hi => ?_⟩
    · exfalso
      refine hnot fun j => ?_
      induction j using Nat.strongRecOn with
      | ind j ihj =>
        intro hj
        cases hL : listed.getD j false with
        | true => rfl
        | false =>
          exfalso
          have ho : ops[j]? = some ops[j] := by simp [show j < ops.size by omega]
          have hmem : j ∈ Region.ready .any ops listed := by
            simp only [Region.ready, List.mem_filter, List.mem_range]
            refine ⟨by omega, ?_⟩
            rw [getD_tf (by omega), hL, ho]
            simp only [Bool.not_false, Bool.true_and, Option.map_some, Option.getD_some, Array.all_eq_true', Bool.or_eq_true]
            intro e hm
            obtain ⟨h1, _⟩ := sane_spec hs ho
            cases hb : Region.binds .any e with
            | false => exact .inl rfl
            | true =>
              have h2 := h1 e (by simpa using hm) hb
              exact .inr (ihj e.on h2 (by omega))
          rw [hr] at hmem
          cases hmem
    have him := hrm i hi
    simp only [Region.ready, List.mem_filter, List.mem_range] at hi
    obtain ⟨hin, hrd⟩ := hi
    have ho : ops[i]? = some ops[i] := by simp [hin]
    generalize ops[i] = o at ho
    rw [ho] at hrd
    simp only [Bool.and_eq_true, Bool.not_eq_true', Option.map_some, Option.getD_some, Array.all_eq_true', Bool.or_eq_true] at hrd
    obtain ⟨hLi, hdeps⟩ := hrd
    have hLi' : listed.getD i false = false := by
      simp only [Array.getD_eq_getD_getElem?] at hLi ⊢
      rw [Array.getElem?_eq_getElem (by omega)] at hLi ⊢
      simpa using hLi
    obtain ⟨s1, s2, s3, s4⟩ := sane_spec hs ho
    have hdone : ∀ e ∈ o.after.toList, Region.binds .any e = true → listed.getD e.on false = true := by
      intro e hm hb
      rcases hdeps e (by simpa using hm) with h | h
      · rw [hb] at h; cases h
      · exact h
    have hget : ∀ t, t ∈ o.looksAt ops → (mix (fun j => listed.getD j false) vs 0 ops.toList a0).tmps[t]? = (mix (fun k => decide (k < i)) vs 0 ops.toList a0).tmps[t]? := by
      intro t ht
      rw [mix_get, mix_get, lastW_congr _ (fun k => decide (k < i)) vs vs t ops.toList 0 (fun j p hj hd => ⟨?_, fun _ => rfl⟩)]
      simp only [Nat.zero_add]
      have hp : ops[j]? = some p := by simpa using hj
      obtain ⟨h1, h2⟩ := s3 j p t hp hd ht
      rcases Nat.lt_trichotomy j i with hlt | heq | hgt
      · obtain ⟨e, hm, hb, rfl⟩ := h1 hlt
        rw [hdone e hm hb]
        simp [hlt]
      · subst heq
        rw [hLi']
        simp
      · obtain ⟨e, hm, hb, hon⟩ := h2 hgt
        cases hL : listed.getD j false with
        | false => simp; omega
        | true =>
          have := hcl j p hp hL e hm hb
          rw [hon, hLi'] at this
          cases this
    have hev : ∀ x ∈ o.op.operands, (mix (fun j => listed.getD j false) vs 0 ops.toList a0).eval x = (mix (fun k => decide (k < i)) vs 0 ops.toList a0).eval x := by
      intro x hx
      cases x with
      | tmp t =>
        have ht : t ∈ o.looksAt ops := by
          simp only [Oper.looksAt, List.mem_append, List.mem_filterMap]
          exact .inl ⟨.tmp t, by simpa using hx, rfl⟩
        exact eval_of_get (hget t ht)
      | _ => rfl
    have hexec := execOp_congr o s2 hev
    have hw : Region.wanted o (yielded ops (mix (fun j => listed.getD j false) vs 0 ops.toList a0).tmps) = Region.wanted o (yielded ops (mix (fun k => decide (k < i)) vs 0 ops.toList a0).tmps) := by
      unfold Region.wanted
      cases hg : o.guard with
      | none => rfl
      | some g =>
        obtain ⟨j, want⟩ := g
        have : yielded ops (mix (fun j => listed.getD j false) vs 0 ops.toList a0).tmps j = yielded ops (mix (fun k => decide (k < i)) vs 0 ops.toList a0).tmps j := by
          unfold yielded
          cases hj : (ops[j]?).bind (·.dst) with
          | none => rfl
          | some t =>
            have ht : t ∈ o.looksAt ops := by
              simp only [Oper.looksAt, List.mem_append]
              exact .inr (by simp [hg, hj])
            simp only [Option.bind_some, hget t ht]
        simp only [this]
    have hD : Deps R vs w o.after.toList := Deps.of fun e hm hb => hR e.on (hdone e hm hb) w (by split; exact hZ0 w; exact hE0 w)
    have hst := hstep i o him ho vs w he (fun e => hzz (by rw [← e]; exact hLi')) hD
    -- what is left when op i has given v in w'
    have hnext : ∀ v w', E w w' → (i ≠ mu → Z w w') → (∀ w'', (if i = mu then Z w' w'' else E w' w'') → R i w'' v) →
        wpAny P .any ops Q fuel (listed.setIfInBounds i true) ((mix (fun j => listed.getD j false) vs 0 ops.toList a0).put o.dst v) w' := by
      intro v w' hew hzw hr
      have hup : ∀ j, (listed.setIfInBounds i true).getD j false = if j = i then true else listed.getD j false := by
        intro j
        simp only [Array.getD_eq_getD_getElem?, Array.getElem?_setIfInBounds]
        by_cases e : i = j
        · subst e; simp [hsz, hin]
        · rw [if_neg e, if_neg (fun h => e h.symm)]
      have hmix : (mix (fun j => listed.getD j false) vs 0 ops.toList a0).put o.dst v =
          mix (fun j => (listed.setIfInBounds i true).getD j false) (fun j => if j = i then v else vs j) 0 ops.toList a0 := by
        refine act_ext (by simp [put_size, mix_size]) (by simp [put_defers, mix_defers]) (fun t => ?_)
        rw [put_get, mix_size]
        by_cases hd : o.dst = some t
        · rw [if_pos hd, mix_get, lastW_at _ _ t ops.toList 0 i o (by simpa using ho) hd (by rw [hup]; simp) (fun j p hj hd' => (s4 j p t (by simpa using hj) hd' hd).symm)]
          simp
        · rw [if_neg hd, mix_get, mix_get]
          rw [lastW_congr (fun j => listed.getD j false) (fun j => (listed.setIfInBounds i true).getD j false) vs (fun j => if j = i then v else vs j) t ops.toList 0 (fun j p hj hd' => ?_)]
          simp only [Nat.zero_add]
          have hne : j ≠ i := by
            intro e
            subst e
            have : p = o := by
              have h1 : ops[j]? = some p := by simpa using hj
              rw [ho] at h1
              exact (Option.some.inj h1).symm
            exact hd (this ▸ hd')
          simp [hup, hne]
      rw [hmix]
      refine ih _ _ _ (by simp [hsz]) ?_ (hE he hew) ?_ ?_ ?_ ?_
      · have := unl_mark (L := fun j => listed.getD j false) (L' := fun j => (listed.setIfInBounds i true).getD j false) hLi' (by simp [hup]) (fun j hj => by simp [hup, hj]) m him
        omega
      · intro j hj
        rw [hup] at hj
        by_cases e : j = i
        · omega
        · rw [if_neg e] at hj
          exact hlm j hj
      · intro j hj w2 hw2
        by_cases e : j = i
        · subst e
          simpa using hr w2 hw2
        · simp only [if_neg e]
          refine hR j ?_ w2 ?_
          · rw [hup, if_neg e] at hj
            exact hj
          · split at hw2
            · rename_i hj'
              rw [if_pos hj']
              exact hZ (hzw (fun h => e (hj'.trans h.symm))) hw2
            · rename_i hj'
              rw [if_neg hj']
              exact hE hew hw2
      · intro j p hp hj e hm hb
        rw [hup] at hj ⊢
        by_cases ej : j = i
        · subst ej
          have : p = o := by rw [ho] at hp; exact (Option.some.inj hp).symm
          subst this
          split
          · rfl
          · exact hdone e hm hb
        · rw [if_neg ej] at hj
          split
          · rfl
          · exact hcl j p hp hj e hm hb
      · intro hmu
        rw [hup] at hmu
        by_cases e : mu = i
        · rw [if_pos e] at hmu; cases hmu
        · rw [if_neg e] at hmu
          exact hZ (hzz hmu) (hzw (fun h => e h.symm))
    simp only [wpOp, ho, hw]
    split
    · rename_i hwt
      rw [if_pos hwt] at hst
      refine .inl ?_
      unfold Oper.wp
      unfold Gives at hst
      rw [hexec]
      generalize (execOp (mix (fun k => decide (k < i)) vs 0 ops.toList a0).eval o).run P w = r at hst
      cases r with
      | halt x w' => simp at hst
      | ok x w' =>
        cases x with
        | value v => exact hnext v w' hst.1 hst.2.1 hst.2.2
        | skip => exact hnext undef w' hst.1 hst.2.1 hst.2.2
        | enter g args =>
          simp only [Oper.upon]
          refine Calls.mono hst ?_
          rintro e w'' ⟨v, rfl, h1, h2⟩
          exact hnext v w'' h1 h2.1 h2.2
        | _ => simp at hst
    · rename_i hwt
      rw [if_neg hwt] at hst
      exact hnext undef w (hE0 w) (fun _ => hZ0 w) (fun w'' _ => hst w'')

/-- The law, at the orders. -/
theorem wpAny_rely4 {l : List Oper} {a : Act} {w : World} (m : Nat) (hs : sane l.toArray = true) (ht : tailOk3 l.toArray m = true)
    (E Z : World → World → Prop) (mu : Nat) (hE0 : ∀ w, E w w) (hZ0 : ∀ w, Z w w) (hZ : ∀ {a b c}, Z a b → Z b c → Z a c) (hE : ∀ {a b c}, E a b → E b c → E a c)
    (R : Nat → World → Value → Prop) (h : Rely4 P l.toArray E Z mu R w.drew Q (l.drop m) 0 (fun _ => a) (l.take m)) : wpAny P .any l.toArray Q l.toArray.size (Array.replicate l.toArray.size false) a w.drew := by
  obtain ⟨h1, h2⟩ := rely_get4 (l.take m) 0 _ h
  obtain ⟨hmn, _⟩ := tailOk3_spec ht
  have hmn' : m ≤ l.length := by simpa using hmn
  have h0 : ∀ j, (Array.replicate l.toArray.size false).getD j false = false := by
    intro j
    simp only [Array.getD_eq_getD_getElem?, Array.getElem?_replicate]
    split <;> rfl
  have hmix : ∀ vs : Nat → Value, mix (fun j => (Array.replicate l.toArray.size false).getD j false) vs 0 l.toArray.toList a = a := by
    intro vs
    refine act_ext (by simp [mix_size]) (by simp [mix_defers]) (fun t => ?_)
    rw [mix_get, lastW_none _ _ _ _ _ (fun j o _ _ => h0 _)]
  have hdrop : ∀ (L : Nat → Bool) (vs : Nat → Value) (t : Nat), (∀ j, L j = true → j < m) → lastW L vs t 0 l = lastW L vs t 0 (l.take m) := by
    intro L vs t hL
    have gen : ∀ (l1 l2 : List Oper) (i : Nat), (∀ j, L j = true → j < i + l1.length) → lastW L vs t i (l1 ++ l2) = lastW L vs t i l1 := by
      intro l1
      induction l1 with
      | nil =>
        intro l2 i hj
        rw [List.nil_append, lastW_none L vs t l2 i (fun j o _ _ => by
          cases hb : L (i + j) with
          | false => rfl
          | true => have h9 := hj _ hb; simp only [List.length_nil] at h9; omega)]
        rfl
      | cons o l1 ih =>
        intro l2 i hj
        simp only [List.cons_append, lastW]
        rw [ih l2 (i + 1) (fun j h => by have := hj j h; simp only [List.length_cons] at this; omega)]
    have := gen (l.take m) (l.drop m) 0 (fun j h => by have := hL j h; simp only [List.length_take]; omega)
    rwa [List.take_append_drop] at this
  have hmixd : ∀ (k : Nat) (vs : Nat → Value), k ≤ m → mix (fun j => decide (j < k)) vs 0 l a = mix (fun j => decide (j < k)) vs 0 (l.take m) a := by
    intro k vs hk
    refine act_ext (by simp [mix_size]) (by simp [mix_defers]) (fun t => ?_)
    rw [mix_get, mix_get, hdrop _ vs t (fun j hj => by simp at hj; omega)]
  have hmixt : ∀ (vs : Nat → Value), mix (fun _ => true) vs 0 (l.take m) a = mix (fun k => decide (k < m)) vs 0 (l.take m) a := by
    intro vs
    refine act_ext (by simp [mix_size]) (by simp [mix_defers]) (fun t => ?_)
    rw [mix_get, mix_get, lastW_congr (fun _ => true) (fun k => decide (k < m)) vs vs t (l.take m) 0 (fun j o hj _ => ⟨by
      have := (List.getElem?_eq_some_iff.1 hj).1
      simp only [List.length_take] at this
      simp
      omega, fun _ => rfl⟩)]
  have := rely_sound4 (Q := Q) (a0 := a) hE0 hZ0 hZ hE hs ht (fun j o hj ho => by
      have h3 := h1 j o (by rw [List.getElem?_take, if_pos hj]; simpa using ho)
      simp only [Nat.zero_add] at h3
      have he : (fun vs => mix (fun k => decide (k < j)) vs 0 l.toArray.toList a) = (fun vs => mix (fun k => decide (k < j)) vs 0 (l.take m) a) := funext fun vs => hmixd j vs (by omega)
      rw [he]
      exact h3)
    (fun vs w' he hr => by
      have h3 := h2 vs w' he (fun j hj => hr j (by simp only [List.length_take] at hj; omega))
      rw [hmixt vs, ← hmixd m vs (Nat.le_refl _)] at h3
      simpa using h3)
    l.toArray.size (Array.replicate l.toArray.size false) (fun _ => undef) w.drew (by simp) (by
      have : ∀ n, unl (fun j => (Array.replicate l.toArray.size false).getD j false) n ≤ n := by
        intro n
        induction n with
        | zero => exact Nat.le_refl _
        | succ n ih => simp only [unl, h0, Bool.false_eq_true, if_false] at ih ⊢; omega
      have := this m
      omega) (hE0 _) (fun j hj => by rw [h0] at hj; cases hj) (fun j hj => by rw [h0] at hj; cases hj) (fun j o _ hj => by rw [h0] at hj; cases hj) (fun _ => hZ0 _)
  rw [hmix] at this
  exact this

/-- The law, where one operation changes what the others leave: ZZ is what the others do. -/
theorem wp_region_rely4 {id : Nat} {l : List Oper} {a : Act} {w : World} (hm : P.follows .mixedOrders = true) (m : Nat) (hs : sane l.toArray = true) (ht : tailOk3 l.toArray m = true)
    (E Z : World → World → Prop) (mu : Nat) (hE0 : ∀ w, E w w) (hZ0 : ∀ w, Z w w) (hZ : ∀ {a b c}, Z a b → Z b c → Z a c) (hE : ∀ {a b c}, E a b → E b c → E a c)
    (R : Nat → World → Value → Prop) (h : Rely4 P l.toArray E Z mu R w.drew Q (l.drop m) 0 (fun _ => a) (l.take m)) : (Code.region id l.toArray true).wp P Q a w :=
  wp_region_any hm (wpAny_rely4 m hs ht E Z mu hE0 hZ0 hZ hE R h)
/-- The law, in a round. -/
theorem wpIn_region_rely4 {n id : Nat} {l : List Oper} {a : Act} {w : World} {F : Fence} (hF : ∃ ro, F = AtRound ro) (hQ : ¬ LetsOut Q) (hnd : l.all (fun o => match o.op with | .defer _ => false | _ => true) = true) (hm : P.follows .mixedOrders = true) (m : Nat) (hs : sane l.toArray = true) (ht : tailOk3 l.toArray m = true)
    (E Z : World → World → Prop) (mu : Nat) (hE0 : ∀ w, E w w) (hZ0 : ∀ w, Z w w) (hZ : ∀ {a b c}, Z a b → Z b c → Z a c) (hE : ∀ {a b c}, E a b → E b c → E a c)
    (R : Nat → World → Value → Prop) (h : Rely4 P l.toArray E Z mu R w.drew Q (l.drop m) 0 (fun _ => a) (l.take m)) : (Code.region id l.toArray true).wpIn F n P Q a w := by
  obtain ⟨ro, rfl⟩ := hF
  refine wpIn_region_any hm (wpAny_in ro hQ (fun i o ho c e => ?_) _ _ _ _ (wpAny_rely4 m hs ht E Z mu hE0 hZ0 hZ hE R h))
  rw [List.all_eq_true] at hnd
  have := hnd o (List.mem_of_getElem? (by simpa using ho))
  rw [e] at this
  cases this
section
variable {f : (Nat → Value) → Act} {i : Nat} {o : Oper} {E Z : World → World → Prop} {mu : Nat} {R : Nat → World → Value → Prop}
end
end
end Go.Proofs.YtniknhhejlgdfaaDoor
/- The pool as it lies; New, Len, Has. -/
namespace Go.Proofs.YtniknhhejlgdfaaDoor
open Go.RowKit

theorem gives_nilCheck {P : Program} {o : Oper} {ρ : Operand → Value} {w : World} {S : Value → World → Prop} (x : Operand) (ho : o.op = .nilCheck x) (a : Addr) (hx : ρ x = .pointer (some a)) (h : S (.pointer (some a)) w) : Gives P o ρ w S := by
  refine gives_val _ (w' := w) ?_ h
  unfold execOp
  simp only [ho, hx]
  go_simp
end Go.Proofs.YtniknhhejlgdfaaDoor
/- wire.Writer.Number. -/
namespace Go.Proofs.YtniknhhejlgdfaaDoor
open Go.RowKit

theorem OwnO.nil {w : World} {base e : Nat} : OwnO w base e (.slice none 0 0) [] := .inl ⟨rfl, rfl⟩
set_option maxHeartbeats 4000000 in
set_option maxRecDepth 100000 in
/-- The number has not the width. -/
theorem number_bad (base q : Nat) (aR : Addr) (s : WS) (r : Option Nat) (n : Int) (k : Nat) (hk : k = 1 ∨ k = 2 ∨ k = 4 ∨ k = 6) (hbad : ¬ (0 ≤ n ∧ n < (256 : Int) ^ k)) (w : World) (H : WrAt base w q aR s r) (hR : w.cell? ⟨1, 0, none⟩ = some (errV aR)) (h1 : 1 < w.heap.size) :
    Calls Tryd.prog 116 #[.pointer (some ⟨q, 0, none⟩), .int .i64 n, .int .i64 k] w fun e w' => e = .returned (.tuple #[]) ∧ WStep base q aR none r w w' := by
  have H0 := Lib.hid H
  have HR := Lib.hid hR
  clear H hR
  have fin : ∀ W, Ext w.drew W → Calls Tryd.prog 128 #[.pointer (some ⟨q, 0, none⟩), errV aR] W fun e w' => e = .returned (.tuple #[]) ∧ WStep base q aR none r w w' := fun W hE =>
    (fail_any base q aR s r W (H0.out.below (ext_of_drew hE))).mono fun e w' h => ⟨h.1, WStep.then_ (Only.of_below (ext_of_drew hE)) (.inl rfl) h.2⟩
  have FIN := Lib.hid fin
  clear fin
  rcases hk with rfl | rfl | rfl | rfl
  · by_cases hn : n < 0
    · clear hbad
      go_enter Tryd.func116, Tryd.ntmps116
      go_wp2_with fail
      refine wp_region_rely3 (by kernel_rfl) 4 (by kernel_rfl) (by kernel_rfl) Ext Ext.refl Ext.trans (fun ix => match ix with
        | 0 => fun _ v => v = .pointer (some ⟨q, 0, none⟩)
        | 1 => fun _ v => v = .pointer (some ⟨q, 0, none⟩)
        | 2 => fun _ v => v = .pointer (some ⟨q, 0, none⟩)
        | 3 => fun _ v => v = errV aR
        | _ => fun _ _ => False) ?_
      simp (maxSteps := 10000000) only [Rely, List.take_succ_cons, List.take_zero, List.drop_succ_cons, List.drop_zero, Nat.reduceAdd, Nat.zero_add, Act.put, List.setIfInBounds_toArray, List.set_cons_succ, List.set_cons_zero]
      refine ⟨?_, ?_, ?_, ?_, ?_⟩
      · refine step_plain rfl fun rv wq hE hd => ?_
        exact gives_move _ (.pointer (some ⟨q, 0, none⟩)) (.inl rfl) rfl ⟨Ext.refl _, fun _ _ => rfl⟩
      · refine step_plain rfl fun rv wq hE hd => ?_
        exact gives_nilCheck _ rfl ⟨q, 0, none⟩ (show rv 0 = _ from hd.1) ⟨Ext.refl _, fun _ _ => rfl⟩
      · refine step_plain rfl fun rv wq hE hd => ?_
        exact gives_fieldAddr' 209 _ 0 rfl (.pointer (some ⟨q, 0, none⟩)) _ (show rv 1 = _ from hd.1) (by go_simp) ⟨Ext.refl _, fun _ _ => rfl⟩
      · refine step_plain rfl fun rv wq hE hd => ?_
        have hc := cell_on (ext_of_drew hE) HR.out
        exact gives_loadAt 29 _ rfl (.pointer (some ⟨1, 0, none⟩)) (errV aR) rfl (by go_simp) ⟨Ext.refl _, fun _ _ => rfl⟩
      · intro rv wq hE hR
        have h0 : rv 2 = .pointer (some ⟨q, 0, none⟩) := hR 2 (by omega)
        have h3 : rv 3 = errV aR := hR 3 (by omega)
        rw [h0, h3]
        have FW := Lib.hid (FIN.out _ hE)
        clear hR hE h0 h3
        go_wp2_with fail
        refine FW.out.mono ?_
        rintro _ w2 ⟨rfl, hst⟩
        go_wp2_with fail
        exact bodyPost_ret (results_none rfl _ _ _) rfl ⟨rfl, hst⟩
    have hn2 : 256 ≤ n := by omega
    clear hbad
    go_enter Tryd.func116, Tryd.ntmps116
    go_wp2_with fail
    refine wp_region_rely3 (by kernel_rfl) 4 (by kernel_rfl) (by kernel_rfl) Ext Ext.refl Ext.trans (fun ix => match ix with
      | 0 => fun _ v => v = .pointer (some ⟨q, 0, none⟩)
      | 1 => fun _ v => v = .pointer (some ⟨q, 0, none⟩)
      | 2 => fun _ v => v = .pointer (some ⟨q, 0, none⟩)
      | 3 => fun _ v => v = errV aR
      | _ => fun _ _ => False) ?_
    simp (maxSteps := 10000000) only [Rely, List.take_succ_cons, List.take_zero, List.drop_succ_cons, List.drop_zero, Nat.reduceAdd, Nat.zero_add, Act.put, List.setIfInBounds_toArray, List.set_cons_succ, List.set_cons_zero]
    refine ⟨?_, ?_, ?_, ?_, ?_⟩
    · refine step_plain rfl fun rv wq hE hd => ?_
      exact gives_move _ (.pointer (some ⟨q, 0, none⟩)) (.inl rfl) rfl ⟨Ext.refl _, fun _ _ => rfl⟩
    · refine step_plain rfl fun rv wq hE hd => ?_
      exact gives_nilCheck _ rfl ⟨q, 0, none⟩ (show rv 0 = _ from hd.1) ⟨Ext.refl _, fun _ _ => rfl⟩
    · refine step_plain rfl fun rv wq hE hd => ?_
      exact gives_fieldAddr' 209 _ 0 rfl (.pointer (some ⟨q, 0, none⟩)) _ (show rv 1 = _ from hd.1) (by go_simp) ⟨Ext.refl _, fun _ _ => rfl⟩
    · refine step_plain rfl fun rv wq hE hd => ?_
      have hc := cell_on (ext_of_drew hE) HR.out
      exact gives_loadAt 29 _ rfl (.pointer (some ⟨1, 0, none⟩)) (errV aR) rfl (by go_simp) ⟨Ext.refl _, fun _ _ => rfl⟩
    · intro rv wq hE hR
      have h0 : rv 2 = .pointer (some ⟨q, 0, none⟩) := hR 2 (by omega)
      have h3 : rv 3 = errV aR := hR 3 (by omega)
      rw [h0, h3]
      have FW := Lib.hid (FIN.out _ hE)
      clear hR hE h0 h3
      go_wp2_with fail
      refine FW.out.mono ?_
      rintro _ w2 ⟨rfl, hst⟩
      go_wp2_with fail
      exact bodyPost_ret (results_none rfl _ _ _) rfl ⟨rfl, hst⟩
  · by_cases hn : n < 0
    · clear hbad
      go_enter Tryd.func116, Tryd.ntmps116
      go_wp2_with fail
      refine wp_region_rely3 (by kernel_rfl) 4 (by kernel_rfl) (by kernel_rfl) Ext Ext.refl Ext.trans (fun ix => match ix with
        | 0 => fun _ v => v = .pointer (some ⟨q, 0, none⟩)
        | 1 => fun _ v => v = .pointer (some ⟨q, 0, none⟩)
        | 2 => fun _ v => v = .pointer (some ⟨q, 0, none⟩)
        | 3 => fun _ v => v = errV aR
        | _ => fun _ _ => False) ?_
      simp (maxSteps := 10000000) only [Rely, List.take_succ_cons, List.take_zero, List.drop_succ_cons, List.drop_zero, Nat.reduceAdd, Nat.zero_add, Act.put, List.setIfInBounds_toArray, List.set_cons_succ, List.set_cons_zero]
      refine ⟨?_, ?_, ?_, ?_, ?_⟩
      · refine step_plain rfl fun rv wq hE hd => ?_
        exact gives_move _ (.pointer (some ⟨q, 0, none⟩)) (.inl rfl) rfl ⟨Ext.refl _, fun _ _ => rfl⟩
      · refine step_plain rfl fun rv wq hE hd => ?_
        exact gives_nilCheck _ rfl ⟨q, 0, none⟩ (show rv 0 = _ from hd.1) ⟨Ext.refl _, fun _ _ => rfl⟩
      · refine step_plain rfl fun rv wq hE hd => ?_
        exact gives_fieldAddr' 209 _ 0 rfl (.pointer (some ⟨q, 0, none⟩)) _ (show rv 1 = _ from hd.1) (by go_simp) ⟨Ext.refl _, fun _ _ => rfl⟩
      · refine step_plain rfl fun rv wq hE hd => ?_
        have hc := cell_on (ext_of_drew hE) HR.out
        exact gives_loadAt 29 _ rfl (.pointer (some ⟨1, 0, none⟩)) (errV aR) rfl (by go_simp) ⟨Ext.refl _, fun _ _ => rfl⟩
      · intro rv wq hE hR
        have h0 : rv 2 = .pointer (some ⟨q, 0, none⟩) := hR 2 (by omega)
        have h3 : rv 3 = errV aR := hR 3 (by omega)
        rw [h0, h3]
        have FW := Lib.hid (FIN.out _ hE)
        clear hR hE h0 h3
        go_wp2_with fail
        refine FW.out.mono ?_
        rintro _ w2 ⟨rfl, hst⟩
        go_wp2_with fail
        exact bodyPost_ret (results_none rfl _ _ _) rfl ⟨rfl, hst⟩
    have hn2 : 65536 ≤ n := by omega
    clear hbad
    go_enter Tryd.func116, Tryd.ntmps116
    go_wp2_with fail
    refine wp_region_rely3 (by kernel_rfl) 4 (by kernel_rfl) (by kernel_rfl) Ext Ext.refl Ext.trans (fun ix => match ix with
      | 0 => fun _ v => v = .pointer (some ⟨q, 0, none⟩)
      | 1 => fun _ v => v = .pointer (some ⟨q, 0, none⟩)
      | 2 => fun _ v => v = .pointer (some ⟨q, 0, none⟩)
      | 3 => fun _ v => v = errV aR
      | _ => fun _ _ => False) ?_
    simp (maxSteps := 10000000) only [Rely, List.take_succ_cons, List.take_zero, List.drop_succ_cons, List.drop_zero, Nat.reduceAdd, Nat.zero_add, Act.put, List.setIfInBounds_toArray, List.set_cons_succ, List.set_cons_zero]
    refine ⟨?_, ?_, ?_, ?_, ?_⟩
    · refine step_plain rfl fun rv wq hE hd => ?_
      exact gives_move _ (.pointer (some ⟨q, 0, none⟩)) (.inl rfl) rfl ⟨Ext.refl _, fun _ _ => rfl⟩
    · refine step_plain rfl fun rv wq hE hd => ?_
      exact gives_nilCheck _ rfl ⟨q, 0, none⟩ (show rv 0 = _ from hd.1) ⟨Ext.refl _, fun _ _ => rfl⟩
    · refine step_plain rfl fun rv wq hE hd => ?_
      exact gives_fieldAddr' 209 _ 0 rfl (.pointer (some ⟨q, 0, none⟩)) _ (show rv 1 = _ from hd.1) (by go_simp) ⟨Ext.refl _, fun _ _ => rfl⟩
    · refine step_plain rfl fun rv wq hE hd => ?_
      have hc := cell_on (ext_of_drew hE) HR.out
      exact gives_loadAt 29 _ rfl (.pointer (some ⟨1, 0, none⟩)) (errV aR) rfl (by go_simp) ⟨Ext.refl _, fun _ _ => rfl⟩
    · intro rv wq hE hR
      have h0 : rv 2 = .pointer (some ⟨q, 0, none⟩) := hR 2 (by omega)
      have h3 : rv 3 = errV aR := hR 3 (by omega)
      rw [h0, h3]
      have FW := Lib.hid (FIN.out _ hE)
      clear hR hE h0 h3
      go_wp2_with fail
      refine FW.out.mono ?_
      rintro _ w2 ⟨rfl, hst⟩
      go_wp2_with fail
      exact bodyPost_ret (results_none rfl _ _ _) rfl ⟨rfl, hst⟩
  · by_cases hn : n < 0
    · clear hbad
      go_enter Tryd.func116, Tryd.ntmps116
      go_wp2_with fail
      refine wp_region_rely3 (by kernel_rfl) 4 (by kernel_rfl) (by kernel_rfl) Ext Ext.refl Ext.trans (fun ix => match ix with
        | 0 => fun _ v => v = .pointer (some ⟨q, 0, none⟩)
        | 1 => fun _ v => v = .pointer (some ⟨q, 0, none⟩)
        | 2 => fun _ v => v = .pointer (some ⟨q, 0, none⟩)
        | 3 => fun _ v => v = errV aR
        | _ => fun _ _ => False) ?_
      simp (maxSteps := 10000000) only [Rely, List.take_succ_cons, List.take_zero, List.drop_succ_cons, List.drop_zero, Nat.reduceAdd, Nat.zero_add, Act.put, List.setIfInBounds_toArray, List.set_cons_succ, List.set_cons_zero]
      refine ⟨?_, ?_, ?_, ?_, ?_⟩
      · refine step_plain rfl fun rv wq hE hd => ?_
        exact gives_move _ (.pointer (some ⟨q, 0, none⟩)) (.inl rfl) rfl ⟨Ext.refl _, fun _ _ => rfl⟩
      · refine step_plain rfl fun rv wq hE hd => ?_
        exact gives_nilCheck _ rfl ⟨q, 0, none⟩ (show rv 0 = _ from hd.1) ⟨Ext.refl _, fun _ _ => rfl⟩
      · refine step_plain rfl fun rv wq hE hd => ?_
        exact gives_fieldAddr' 209 _ 0 rfl (.pointer (some ⟨q, 0, none⟩)) _ (show rv 1 = _ from hd.1) (by go_simp) ⟨Ext.refl _, fun _ _ => rfl⟩
      · refine step_plain rfl fun rv wq hE hd => ?_
        have hc := cell_on (ext_of_drew hE) HR.out
        exact gives_loadAt 29 _ rfl (.pointer (some ⟨1, 0, none⟩)) (errV aR) rfl (by go_simp) ⟨Ext.refl _, fun _ _ => rfl⟩
      · intro rv wq hE hR
        have h0 : rv 2 = .pointer (some ⟨q, 0, none⟩) := hR 2 (by omega)
        have h3 : rv 3 = errV aR := hR 3 (by omega)
        rw [h0, h3]
        have FW := Lib.hid (FIN.out _ hE)
        clear hR hE h0 h3
        go_wp2_with fail
        refine FW.out.mono ?_
        rintro _ w2 ⟨rfl, hst⟩
        go_wp2_with fail
        exact bodyPost_ret (results_none rfl _ _ _) rfl ⟨rfl, hst⟩
    have hn2 : 4294967296 ≤ n := by omega
    clear hbad
    go_enter Tryd.func116, Tryd.ntmps116
    go_wp2_with fail
    refine wp_region_rely3 (by kernel_rfl) 4 (by kernel_rfl) (by kernel_rfl) Ext Ext.refl Ext.trans (fun ix => match ix with
      | 0 => fun _ v => v = .pointer (some ⟨q, 0, none⟩)
      | 1 => fun _ v => v = .pointer (some ⟨q, 0, none⟩)
      | 2 => fun _ v => v = .pointer (some ⟨q, 0, none⟩)
      | 3 => fun _ v => v = errV aR
      | _ => fun _ _ => False) ?_
    simp (maxSteps := 10000000) only [Rely, List.take_succ_cons, List.take_zero, List.drop_succ_cons, List.drop_zero, Nat.reduceAdd, Nat.zero_add, Act.put, List.setIfInBounds_toArray, List.set_cons_succ, List.set_cons_zero]
    refine ⟨?_, ?_, ?_, ?_, ?_⟩
    · refine step_plain rfl fun rv wq hE hd => ?_
      exact gives_move _ (.pointer (some ⟨q, 0, none⟩)) (.inl rfl) rfl ⟨Ext.refl _, fun _ _ => rfl⟩
    · refine step_plain rfl fun rv wq hE hd => ?_
      exact gives_nilCheck _ rfl ⟨q, 0, none⟩ (show rv 0 = _ from hd.1) ⟨Ext.refl _, fun _ _ => rfl⟩
    · refine step_plain rfl fun rv wq hE hd => ?_
      exact gives_fieldAddr' 209 _ 0 rfl (.pointer (some ⟨q, 0, none⟩)) _ (show rv 1 = _ from hd.1) (by go_simp) ⟨Ext.refl _, fun _ _ => rfl⟩
    · refine step_plain rfl fun rv wq hE hd => ?_
      have hc := cell_on (ext_of_drew hE) HR.out
      exact gives_loadAt 29 _ rfl (.pointer (some ⟨1, 0, none⟩)) (errV aR) rfl (by go_simp) ⟨Ext.refl _, fun _ _ => rfl⟩
    · intro rv wq hE hR
      have h0 : rv 2 = .pointer (some ⟨q, 0, none⟩) := hR 2 (by omega)
      have h3 : rv 3 = errV aR := hR 3 (by omega)
      rw [h0, h3]
      have FW := Lib.hid (FIN.out _ hE)
      clear hR hE h0 h3
      go_wp2_with fail
      refine FW.out.mono ?_
      rintro _ w2 ⟨rfl, hst⟩
      go_wp2_with fail
      exact bodyPost_ret (results_none rfl _ _ _) rfl ⟨rfl, hst⟩
  · by_cases hn : n < 0
    · clear hbad
      go_enter Tryd.func116, Tryd.ntmps116
      go_wp2_with fail
      refine wp_region_rely3 (by kernel_rfl) 4 (by kernel_rfl) (by kernel_rfl) Ext Ext.refl Ext.trans (fun ix => match ix with
        | 0 => fun _ v => v = .pointer (some ⟨q, 0, none⟩)
        | 1 => fun _ v => v = .pointer (some ⟨q, 0, none⟩)
        | 2 => fun _ v => v = .pointer (some ⟨q, 0, none⟩)
        | 3 => fun _ v => v = errV aR
        | _ => fun _ _ => False) ?_
      simp (maxSteps := 10000000) only [Rely, List.take_succ_cons, List.take_zero, List.drop_succ_cons, List.drop_zero, Nat.reduceAdd, Nat.zero_add, Act.put, List.setIfInBounds_toArray, List.set_cons_succ, List.set_cons_zero]
      refine ⟨?_, ?_, ?_, ?_, ?_⟩
      · refine step_plain rfl fun rv wq hE hd => ?_
        exact gives_move _ (.pointer (some ⟨q, 0, none⟩)) (.inl rfl) rfl ⟨Ext.refl _, fun _ _ => rfl⟩
      · refine step_plain rfl fun rv wq hE hd => ?_
        exact gives_nilCheck _ rfl ⟨q, 0, none⟩ (show rv 0 = _ from hd.1) ⟨Ext.refl _, fun _ _ => rfl⟩
      · refine step_plain rfl fun rv wq hE hd => ?_
        exact gives_fieldAddr' 209 _ 0 rfl (.pointer (some ⟨q, 0, none⟩)) _ (show rv 1 = _ from hd.1) (by go_simp) ⟨Ext.refl _, fun _ _ => rfl⟩
      · refine step_plain rfl fun rv wq hE hd => ?_
        have hc := cell_on (ext_of_drew hE) HR.out
        exact gives_loadAt 29 _ rfl (.pointer (some ⟨1, 0, none⟩)) (errV aR) rfl (by go_simp) ⟨Ext.refl _, fun _ _ => rfl⟩
      · intro rv wq hE hR
        have h0 : rv 2 = .pointer (some ⟨q, 0, none⟩) := hR 2 (by omega)
        have h3 : rv 3 = errV aR := hR 3 (by omega)
        rw [h0, h3]
        have FW := Lib.hid (FIN.out _ hE)
        clear hR hE h0 h3
        go_wp2_with fail
        refine FW.out.mono ?_
        rintro _ w2 ⟨rfl, hst⟩
        go_wp2_with fail
        exact bodyPost_ret (results_none rfl _ _ _) rfl ⟨rfl, hst⟩
    have hn2 : 281474976710656 ≤ n := by omega
    clear hbad
    go_enter Tryd.func116, Tryd.ntmps116
    go_wp2_with fail
    refine wp_region_rely3 (by kernel_rfl) 4 (by kernel_rfl) (by kernel_rfl) Ext Ext.refl Ext.trans (fun ix => match ix with
      | 0 => fun _ v => v = .pointer (some ⟨q, 0, none⟩)
      | 1 => fun _ v => v = .pointer (some ⟨q, 0, none⟩)
      | 2 => fun _ v => v = .pointer (some ⟨q, 0, none⟩)
      | 3 => fun _ v => v = errV aR
      | _ => fun _ _ => False) ?_
    simp (maxSteps := 10000000) only [Rely, List.take_succ_cons, List.take_zero, List.drop_succ_cons, List.drop_zero, Nat.reduceAdd, Nat.zero_add, Act.put, List.setIfInBounds_toArray, List.set_cons_succ, List.set_cons_zero]
    refine ⟨?_, ?_, ?_, ?_, ?_⟩
    · refine step_plain rfl fun rv wq hE hd => ?_
      exact gives_move _ (.pointer (some ⟨q, 0, none⟩)) (.inl rfl) rfl ⟨Ext.refl _, fun _ _ => rfl⟩
    · refine step_plain rfl fun rv wq hE hd => ?_
      exact gives_nilCheck _ rfl ⟨q, 0, none⟩ (show rv 0 = _ from hd.1) ⟨Ext.refl _, fun _ _ => rfl⟩
    · refine step_plain rfl fun rv wq hE hd => ?_
      exact gives_fieldAddr' 209 _ 0 rfl (.pointer (some ⟨q, 0, none⟩)) _ (show rv 1 = _ from hd.1) (by go_simp) ⟨Ext.refl _, fun _ _ => rfl⟩
    · refine step_plain rfl fun rv wq hE hd => ?_
      have hc := cell_on (ext_of_drew hE) HR.out
      exact gives_loadAt 29 _ rfl (.pointer (some ⟨1, 0, none⟩)) (errV aR) rfl (by go_simp) ⟨Ext.refl _, fun _ _ => rfl⟩
    · intro rv wq hE hR
      have h0 : rv 2 = .pointer (some ⟨q, 0, none⟩) := hR 2 (by omega)
      have h3 : rv 3 = errV aR := hR 3 (by omega)
      rw [h0, h3]
      have FW := Lib.hid (FIN.out _ hE)
      clear hR hE h0 h3
      go_wp2_with fail
      refine FW.out.mono ?_
      rintro _ w2 ⟨rfl, hst⟩
      go_wp2_with fail
      exact bodyPost_ret (results_none rfl _ _ _) rfl ⟨rfl, hst⟩
end Go.Proofs.YtniknhhejlgdfaaDoor
/- wire.Writer.Number, where the number has the width. -/
namespace Go.Proofs.YtniknhhejlgdfaaDoor
open Go.RowKit

theorem beN_take (n : Int) (k j : Nat) (v : Int) (hj : j < k) (hv : v = n / (256 : Int) ^ (k - 1 - j) % 256) : u8s ((beN n k).take j) ++ [Value.int .u8 v] = u8s ((beN n k).take (j + 1)) := by
  have hl : j < (beN n k).length := by rw [beN_len]; exact hj
  have hg : (beN n k)[j] = v := by rw [hv]; simp [beN]
  rw [List.take_succ_eq_append_getElem hl, hg]
  simp [u8s]

set_option maxHeartbeats 4000000 in
set_option maxRecDepth 100000 in
theorem number_ok1 (base q : Nat) (aR : Addr) (s : WS) (r : Option Nat) (n : Int) (h0 : 0 ≤ n) (h1 : n < 256) (w : World) (H : WrAt base w q aR s r) (hlim : Lim s (maxW - 1)) :
    Calls Tryd.prog 116 #[.pointer (some ⟨q, 0, none⟩), .int .i64 n, .int .i64 1] w fun e w' => e = .returned (.tuple #[]) ∧ WStep base q aR (fixS (beN n 1) s) r w w' := by
  have H0 := Lib.hid H
  have HL := Lib.hid hlim
  have hn0 : ¬ n < 0 := by omega
  have hn1 : ¬ 256 ≤ n := by omega
  clear H hlim
  go_enter Tryd.func116, Tryd.ntmps116
  go_wp2
  go_loopw [6, 7] (fun t i wr => ∃ (j c : Nat) (A : Option Addr) (x : Int), j ≤ 1 ∧ t = Value.slice A j c ∧ i = .int .i64 x ∧ x = 0 - (j : Int) ∧ Hid (OwnO wr w.heap.size 5 t (u8s ((beN n 1).take j))) ∧ Hid (Below w.heap.size w wr))
    (fun t _ _ => 1 - vlen t)
  case atStart => exact ⟨0, 0, none, 0, by omega, rfl, rfl, by omega, Lib.hid OwnO.nil, Lib.hid (Below.refl _ _)⟩
  case round =>
    obtain ⟨j, c5, A5, x, hj, rfl, rfl, hx, hown, hbel⟩ := hrel
    by_cases hlt : j < 1
    · have hjc : j = 0 := by omega
      have hrl : ((beN n 1).take j).length = j := by rw [List.length_take, beN_len]; omega
      have HRZ := Lib.hid hrl
      clear hrl
      subst hx
      rcases hjc with rfl
      · go_wp2_with (at_builtin; refine appO (w0 := w) w.heap.size rfl (.tmp 40) (.tmp 46) 71 71 5 (.int .u8 0) 1 rfl Tryd.underlying71 Tryd.info5 rfl (by omega) _ _ rfl _ 1 [.int .u8 _] rfl (src_new wr 5 [.int .u8 _] 1 rfl Tryd.underlying71 (by simp [Value.oneCell'])) (hown.out.below ((Below.refl _ _).alloc (Nat.le_refl _) _)) (hbel.out.alloc hbel.out.size _) (by have := hbel.out.size; simp; omega) (by have := HRZ.out; rw [u8s_len']; omega) ?_; intro v1 w1 ap; obtain ⟨A6, c6, rfl, hc6⟩ := ap.own.len; rw [List.length_append, u8s_len', HRZ.out] at hc6 ap ⊢; have O6 := Lib.hid ap.own; have B6 := Lib.hid ap.below; clear ap)
        go_roundw
        case rel => exact ⟨1, c6, A6, _, by omega, rfl, rfl, by omega, Lib.hid (by have := O6.out; rw [beN_take n 1 0 _ (by omega) (by simp only [Nat.reduceSub, Int.reducePow] <;> omega)] at this; exact this), B6⟩
        case measure => simp only [vlen]; omega
    · obtain rfl : j = 1 := by omega
      have hxn : x < 0 := by omega
      have hb := hown.out
      rw [List.take_of_length_le (by rw [beN_len]; exact Nat.le_refl _)] at hb
      have HB := Lib.hid (Bs.of_own hb (beN_ok n 1))
      clear hb
      go_wp2_with fail
      refine (fixed_any base q aR s r _ (beN n 1) wr (H0.out.below hbel.out) HB.out (by rw [beN_len]; exact HL.out) (by rw [beN_len]; unfold maxW; omega)).mono ?_
      rintro _ w2 ⟨rfl, hst⟩
      go_wp2_with fail
      go_end0
      exact ⟨rfl, WStep.then_ (Only.of_below hbel.out) (.inl rfl) hst⟩

set_option maxHeartbeats 4000000 in
set_option maxRecDepth 100000 in
theorem number_ok2 (base q : Nat) (aR : Addr) (s : WS) (r : Option Nat) (n : Int) (h0 : 0 ≤ n) (h1 : n < 65536) (w : World) (H : WrAt base w q aR s r) (hlim : Lim s (maxW - 2)) :
    Calls Tryd.prog 116 #[.pointer (some ⟨q, 0, none⟩), .int .i64 n, .int .i64 2] w fun e w' => e = .returned (.tuple #[]) ∧ WStep base q aR (fixS (beN n 2) s) r w w' := by
  have H0 := Lib.hid H
  have HL := Lib.hid hlim
  have hn0 : ¬ n < 0 := by omega
  have hn1 : ¬ 65536 ≤ n := by omega
  clear H hlim
  go_enter Tryd.func116, Tryd.ntmps116
  go_wp2
  go_loopw [6, 7] (fun t i wr => ∃ (j c : Nat) (A : Option Addr) (x : Int), j ≤ 2 ∧ t = Value.slice A j c ∧ i = .int .i64 x ∧ x = 1 - (j : Int) ∧ Hid (OwnO wr w.heap.size 5 t (u8s ((beN n 2).take j))) ∧ Hid (Below w.heap.size w wr))
    (fun t _ _ => 2 - vlen t)
  case atStart => exact ⟨0, 0, none, 1, by omega, rfl, rfl, by omega, Lib.hid OwnO.nil, Lib.hid (Below.refl _ _)⟩
  case round =>
    obtain ⟨j, c5, A5, x, hj, rfl, rfl, hx, hown, hbel⟩ := hrel
    by_cases hlt : j < 2
    · have hjc : j = 0 ∨ j = 1 := by omega
      have hrl : ((beN n 2).take j).length = j := by rw [List.length_take, beN_len]; omega
      have HRZ := Lib.hid hrl
      clear hrl
      subst hx
      rcases hjc with rfl | rfl
      · go_wp2_with (at_builtin; refine appO (w0 := w) w.heap.size rfl (.tmp 40) (.tmp 46) 71 71 5 (.int .u8 0) 1 rfl Tryd.underlying71 Tryd.info5 rfl (by omega) _ _ rfl _ 1 [.int .u8 _] rfl (src_new wr 5 [.int .u8 _] 1 rfl Tryd.underlying71 (by simp [Value.oneCell'])) (hown.out.below ((Below.refl _ _).alloc (Nat.le_refl _) _)) (hbel.out.alloc hbel.out.size _) (by have := hbel.out.size; simp; omega) (by have := HRZ.out; rw [u8s_len']; omega) ?_; intro v1 w1 ap; obtain ⟨A6, c6, rfl, hc6⟩ := ap.own.len; rw [List.length_append, u8s_len', HRZ.out] at hc6 ap ⊢; have O6 := Lib.hid ap.own; have B6 := Lib.hid ap.below; clear ap)
        go_roundw
        case rel => exact ⟨1, c6, A6, _, by omega, rfl, rfl, by omega, Lib.hid (by have := O6.out; rw [beN_take n 2 0 _ (by omega) (by simp only [Nat.reduceSub, Int.reducePow] <;> omega)] at this; exact this), B6⟩
        case measure => simp only [vlen]; omega
      · go_wp2_with (at_builtin; refine appO (w0 := w) w.heap.size rfl (.tmp 40) (.tmp 46) 71 71 5 (.int .u8 0) 1 rfl Tryd.underlying71 Tryd.info5 rfl (by omega) _ _ rfl _ 1 [.int .u8 _] rfl (src_new wr 5 [.int .u8 _] 1 rfl Tryd.underlying71 (by simp [Value.oneCell'])) (hown.out.below ((Below.refl _ _).alloc (Nat.le_refl _) _)) (hbel.out.alloc hbel.out.size _) (by have := hbel.out.size; simp; omega) (by have := HRZ.out; rw [u8s_len']; omega) ?_; intro v1 w1 ap; obtain ⟨A6, c6, rfl, hc6⟩ := ap.own.len; rw [List.length_append, u8s_len', HRZ.out] at hc6 ap ⊢; have O6 := Lib.hid ap.own; have B6 := Lib.hid ap.below; clear ap)
        go_roundw
        case rel => exact ⟨2, c6, A6, _, by omega, rfl, rfl, by omega, Lib.hid (by have := O6.out; rw [beN_take n 2 1 _ (by omega) (by simp only [Nat.reduceSub, Int.reducePow] <;> omega)] at this; exact this), B6⟩
        case measure => simp only [vlen]; omega
    · obtain rfl : j = 2 := by omega
      have hxn : x < 0 := by omega
      have hb := hown.out
      rw [List.take_of_length_le (by rw [beN_len]; exact Nat.le_refl _)] at hb
      have HB := Lib.hid (Bs.of_own hb (beN_ok n 2))
      clear hb
      go_wp2_with fail
      refine (fixed_any base q aR s r _ (beN n 2) wr (H0.out.below hbel.out) HB.out (by rw [beN_len]; exact HL.out) (by rw [beN_len]; unfold maxW; omega)).mono ?_
      rintro _ w2 ⟨rfl, hst⟩
      go_wp2_with fail
      go_end0
      exact ⟨rfl, WStep.then_ (Only.of_below hbel.out) (.inl rfl) hst⟩

set_option maxHeartbeats 4000000 in
set_option maxRecDepth 100000 in
theorem number_ok4 (base q : Nat) (aR : Addr) (s : WS) (r : Option Nat) (n : Int) (h0 : 0 ≤ n) (h1 : n < 4294967296) (w : World) (H : WrAt base w q aR s r) (hlim : Lim s (maxW - 4)) :
    Calls Tryd.prog 116 #[.pointer (some ⟨q, 0, none⟩), .int .i64 n, .int .i64 4] w fun e w' => e = .returned (.tuple #[]) ∧ WStep base q aR (fixS (beN n 4) s) r w w' := by
  have H0 := Lib.hid H
  have HL := Lib.hid hlim
  have hn0 : ¬ n < 0 := by omega
  have hn1 : ¬ 4294967296 ≤ n := by omega
  clear H hlim
  go_enter Tryd.func116, Tryd.ntmps116
  go_wp2
  go_loopw [6, 7] (fun t i wr => ∃ (j c : Nat) (A : Option Addr) (x : Int), j ≤ 4 ∧ t = Value.slice A j c ∧ i = .int .i64 x ∧ x = 3 - (j : Int) ∧ Hid (OwnO wr w.heap.size 5 t (u8s ((beN n 4).take j))) ∧ Hid (Below w.heap.size w wr))
    (fun t _ _ => 4 - vlen t)
  case atStart => exact ⟨0, 0, none, 3, by omega, rfl, rfl, by omega, Lib.hid OwnO.nil, Lib.hid (Below.refl _ _)⟩
  case round =>
    obtain ⟨j, c5, A5, x, hj, rfl, rfl, hx, hown, hbel⟩ := hrel
    by_cases hlt : j < 4
    · have hjc : j = 0 ∨ j = 1 ∨ j = 2 ∨ j = 3 := by omega
      have hrl : ((beN n 4).take j).length = j := by rw [List.length_take, beN_len]; omega
      have HRZ := Lib.hid hrl
      clear hrl
      subst hx
      rcases hjc with rfl | rfl | rfl | rfl
      · go_wp2_with (at_builtin; refine appO (w0 := w) w.heap.size rfl (.tmp 40) (.tmp 46) 71 71 5 (.int .u8 0) 1 rfl Tryd.underlying71 Tryd.info5 rfl (by omega) _ _ rfl _ 1 [.int .u8 _] rfl (src_new wr 5 [.int .u8 _] 1 rfl Tryd.underlying71 (by simp [Value.oneCell'])) (hown.out.below ((Below.refl _ _).alloc (Nat.le_refl _) _)) (hbel.out.alloc hbel.out.size _) (by have := hbel.out.size; simp; omega) (by have := HRZ.out; rw [u8s_len']; omega) ?_; intro v1 w1 ap; obtain ⟨A6, c6, rfl, hc6⟩ := ap.own.len; rw [List.length_append, u8s_len', HRZ.out] at hc6 ap ⊢; have O6 := Lib.hid ap.own; have B6 := Lib.hid ap.below; clear ap)
        go_roundw
        case rel => exact ⟨1, c6, A6, _, by omega, rfl, rfl, by omega, Lib.hid (by have := O6.out; rw [beN_take n 4 0 _ (by omega) (by simp only [Nat.reduceSub, Int.reducePow] <;> omega)] at this; exact this), B6⟩
        case measure => simp only [vlen]; omega
      · go_wp2_with (at_builtin; refine appO (w0 := w) w.heap.size rfl (.tmp 40) (.tmp 46) 71 71 5 (.int .u8 0) 1 rfl Tryd.underlying71 Tryd.info5 rfl (by omega) _ _ rfl _ 1 [.int .u8 _] rfl (src_new wr 5 [.int .u8 _] 1 rfl Tryd.underlying71 (by simp [Value.oneCell'])) (hown.out.below ((Below.refl _ _).alloc (Nat.le_refl _) _)) (hbel.out.alloc hbel.out.size _) (by have := hbel.out.size; simp; omega) (by have := HRZ.out; rw [u8s_len']; omega) ?_; intro v1 w1 ap; obtain ⟨A6, c6, rfl, hc6⟩ := ap.own.len; rw [List.length_append, u8s_len', HRZ.out] at hc6 ap ⊢; have O6 := Lib.hid ap.own; have B6 := Lib.hid ap.below; clear ap)
        go_roundw
        case rel => exact ⟨2, c6, A6, _, by omega, rfl, rfl, by omega, Lib.hid (by have := O6.out; rw [beN_take n 4 1 _ (by omega) (by simp only [Nat.reduceSub, Int.reducePow] <;> omega)] at this; exact this), B6⟩
        case measure => simp only [vlen]; omega
      · go_wp2_with (at_builtin; refine appO (w0 := w) w.heap.size rfl (.tmp 40) (.tmp 46) 71 71 5 (.int .u8 0) 1 rfl Tryd.underlying71 Tryd.info5 rfl (by omega) _ _ rfl _ 1 [.int .u8 _] rfl (src_new wr 5 [.int .u8 _] 1 rfl Tryd.underlying71 (by simp [Value.oneCell'])) (hown.out.below ((Below.refl _ _).alloc (Nat.le_refl _) _)) (hbel.out.alloc hbel.out.size _) (by have := hbel.out.size; simp; omega) (by have := HRZ.out; rw [u8s_len']; omega) ?_; intro v1 w1 ap; obtain ⟨A6, c6, rfl, hc6⟩ := ap.own.len; rw [List.length_append, u8s_len', HRZ.out] at hc6 ap ⊢; have O6 := Lib.hid ap.own; have B6 := Lib.hid ap.below; clear ap)
        go_roundw
        case rel => exact ⟨3, c6, A6, _, by omega, rfl, rfl, by omega, Lib.hid (by have := O6.out; rw [beN_take n 4 2 _ (by omega) (by simp only [Nat.reduceSub, Int.reducePow] <;> omega)] at this; exact this), B6⟩
        case measure => simp only [vlen]; omega
      · go_wp2_with (at_builtin; refine appO (w0 := w) w.heap.size rfl (.tmp 40) (.tmp 46) 71 71 5 (.int .u8 0) 1 rfl Tryd.underlying71 Tryd.info5 rfl (by omega) _ _ rfl _ 1 [.int .u8 _] rfl (src_new wr 5 [.int .u8 _] 1 rfl Tryd.underlying71 (by simp [Value.oneCell'])) (hown.out.below ((Below.refl _ _).alloc (Nat.le_refl _) _)) (hbel.out.alloc hbel.out.size _) (by have := hbel.out.size; simp; omega) (by have := HRZ.out; rw [u8s_len']; omega) ?_; intro v1 w1 ap; obtain ⟨A6, c6, rfl, hc6⟩ := ap.own.len; rw [List.length_append, u8s_len', HRZ.out] at hc6 ap ⊢; have O6 := Lib.hid ap.own; have B6 := Lib.hid ap.below; clear ap)
        go_roundw
        case rel => exact ⟨4, c6, A6, _, by omega, rfl, rfl, by omega, Lib.hid (by have := O6.out; rw [beN_take n 4 3 _ (by omega) (by simp only [Nat.reduceSub, Int.reducePow] <;> omega)] at this; exact this), B6⟩
        case measure => simp only [vlen]; omega
    · obtain rfl : j = 4 := by omega
      have hxn : x < 0 := by omega
      have hb := hown.out
      rw [List.take_of_length_le (by rw [beN_len]; exact Nat.le_refl _)] at hb
      have HB := Lib.hid (Bs.of_own hb (beN_ok n 4))
      clear hb
      go_wp2_with fail
      refine (fixed_any base q aR s r _ (beN n 4) wr (H0.out.below hbel.out) HB.out (by rw [beN_len]; exact HL.out) (by rw [beN_len]; unfold maxW; omega)).mono ?_
      rintro _ w2 ⟨rfl, hst⟩
      go_wp2_with fail
      go_end0
      exact ⟨rfl, WStep.then_ (Only.of_below hbel.out) (.inl rfl) hst⟩

set_option maxHeartbeats 4000000 in
set_option maxRecDepth 100000 in
theorem number_ok6 (base q : Nat) (aR : Addr) (s : WS) (r : Option Nat) (n : Int) (h0 : 0 ≤ n) (h1 : n < 281474976710656) (w : World) (H : WrAt base w q aR s r) (hlim : Lim s (maxW - 6)) :
    Calls Tryd.prog 116 #[.pointer (some ⟨q, 0, none⟩), .int .i64 n, .int .i64 6] w fun e w' => e = .returned (.tuple #[]) ∧ WStep base q aR (fixS (beN n 6) s) r w w' := by
  have H0 := Lib.hid H
  have HL := Lib.hid hlim
  have hn0 : ¬ n < 0 := by omega
  have hn1 : ¬ 281474976710656 ≤ n := by omega
  clear H hlim
  go_enter Tryd.func116, Tryd.ntmps116
  go_wp2
  go_loopw [6, 7] (fun t i wr => ∃ (j c : Nat) (A : Option Addr) (x : Int), j ≤ 6 ∧ t = Value.slice A j c ∧ i = .int .i64 x ∧ x = 5 - (j : Int) ∧ Hid (OwnO wr w.heap.size 5 t (u8s ((beN n 6).take j))) ∧ Hid (Below w.heap.size w wr))
    (fun t _ _ => 6 - vlen t)
  case atStart => exact ⟨0, 0, none, 5, by omega, rfl, rfl, by omega, Lib.hid OwnO.nil, Lib.hid (Below.refl _ _)⟩
  case round =>
    obtain ⟨j, c5, A5, x, hj, rfl, rfl, hx, hown, hbel⟩ := hrel
    by_cases hlt : j < 6
    · have hjc : j = 0 ∨ j = 1 ∨ j = 2 ∨ j = 3 ∨ j = 4 ∨ j = 5 := by omega
      have hrl : ((beN n 6).take j).length = j := by rw [List.length_take, beN_len]; omega
      have HRZ := Lib.hid hrl
      clear hrl
      subst hx
      rcases hjc with rfl | rfl | rfl | rfl | rfl | rfl
      · go_wp2_with (at_builtin; refine appO (w0 := w) w.heap.size rfl (.tmp 40) (.tmp 46) 71 71 5 (.int .u8 0) 1 rfl Tryd.underlying71 Tryd.info5 rfl (by omega) _ _ rfl _ 1 [.int .u8 _] rfl (src_new wr 5 [.int .u8 _] 1 rfl Tryd.underlying71 (by simp [Value.oneCell'])) (hown.out.below ((Below.refl _ _).alloc (Nat.le_refl _) _)) (hbel.out.alloc hbel.out.size _) (by have := hbel.out.size; simp; omega) (by have := HRZ.out; rw [u8s_len']; omega) ?_; intro v1 w1 ap; obtain ⟨A6, c6, rfl, hc6⟩ := ap.own.len; rw [List.length_append, u8s_len', HRZ.out] at hc6 ap ⊢; have O6 := Lib.hid ap.own; have B6 := Lib.hid ap.below; clear ap)
        go_roundw
        case rel => exact ⟨1, c6, A6, _, by omega, rfl, rfl, by omega, Lib.hid (by have := O6.out; rw [beN_take n 6 0 _ (by omega) (by simp only [Nat.reduceSub, Int.reducePow] <;> omega)] at this; exact this), B6⟩
        case measure => simp only [vlen]; omega
      · go_wp2_with (at_builtin; refine appO (w0 := w) w.heap.size rfl (.tmp 40) (.tmp 46) 71 71 5 (.int .u8 0) 1 rfl Tryd.underlying71 Tryd.info5 rfl (by omega) _ _ rfl _ 1 [.int .u8 _] rfl (src_new wr 5 [.int .u8 _] 1 rfl Tryd.underlying71 (by simp [Value.oneCell'])) (hown.out.below ((Below.refl _ _).alloc (Nat.le_refl _) _)) (hbel.out.alloc hbel.out.size _) (by have := hbel.out.size; simp; omega) (by have := HRZ.out; rw [u8s_len']; omega) ?_; intro v1 w1 ap; obtain ⟨A6, c6, rfl, hc6⟩ := ap.own.len; rw [List.length_append, u8s_len', HRZ.out] at hc6 ap ⊢; have O6 := Lib.hid ap.own; have B6 := Lib.hid ap.below; clear ap)
        go_roundw
        case rel => exact ⟨2, c6, A6, _, by omega, rfl, rfl, by omega, Lib.hid (by have := O6.out; rw [beN_take n 6 1 _ (by omega) (by simp only [Nat.reduceSub, Int.reducePow] <;> omega)] at this; exact this), B6⟩
        case measure => simp only [vlen]; omega
      · go_wp2_with (at_builtin; refine appO (w0 := w) w.heap.size rfl (.tmp 40) (.tmp 46) 71 71 5 (.int .u8 0) 1 rfl Tryd.underlying71 Tryd.info5 rfl (by omega) _ _ rfl _ 1 [.int .u8 _] rfl (src_new wr 5 [.int .u8 _] 1 rfl Tryd.underlying71 (by simp [Value.oneCell'])) (hown.out.below ((Below.refl _ _).alloc (Nat.le_refl _) _)) (hbel.out.alloc hbel.out.size _) (by have := hbel.out.size; simp; omega) (by have := HRZ.out; rw [u8s_len']; omega) ?_; intro v1 w1 ap; obtain ⟨A6, c6, rfl, hc6⟩ := ap.own.len; rw [List.length_append, u8s_len', HRZ.out] at hc6 ap ⊢; have O6 := Lib.hid ap.own; have B6 := Lib.hid ap.below; clear ap)
        go_roundw
        case rel => exact ⟨3, c6, A6, _, by omega, rfl, rfl, by omega, Lib.hid (by have := O6.out; rw [beN_take n 6 2 _ (by omega) (by simp only [Nat.reduceSub, Int.reducePow] <;> omega)] at this; exact this), B6⟩
        case measure => simp only [vlen]; omega
      · go_wp2_with (at_builtin; refine appO (w0 := w) w.heap.size rfl (.tmp 40) (.tmp 46) 71 71 5 (.int .u8 0) 1 rfl Tryd.underlying71 Tryd.info5 rfl (by omega) _ _ rfl _ 1 [.int .u8 _] rfl (src_new wr 5 [.int .u8 _] 1 rfl Tryd.underlying71 (by simp [Value.oneCell'])) (hown.out.below ((Below.refl _ _).alloc (Nat.le_refl _) _)) (hbel.out.alloc hbel.out.size _) (by have := hbel.out.size; simp; omega) (by have := HRZ.out; rw [u8s_len']; omega) ?_; intro v1 w1 ap; obtain ⟨A6, c6, rfl, hc6⟩ := ap.own.len; rw [List.length_append, u8s_len', HRZ.out] at hc6 ap ⊢; have O6 := Lib.hid ap.own; have B6 := Lib.hid ap.below; clear ap)
        go_roundw
        case rel => exact ⟨4, c6, A6, _, by omega, rfl, rfl, by omega, Lib.hid (by have := O6.out; rw [beN_take n 6 3 _ (by omega) (by simp only [Nat.reduceSub, Int.reducePow] <;> omega)] at this; exact this), B6⟩
        case measure => simp only [vlen]; omega
      · go_wp2_with (at_builtin; refine appO (w0 := w) w.heap.size rfl (.tmp 40) (.tmp 46) 71 71 5 (.int .u8 0) 1 rfl Tryd.underlying71 Tryd.info5 rfl (by omega) _ _ rfl _ 1 [.int .u8 _] rfl (src_new wr 5 [.int .u8 _] 1 rfl Tryd.underlying71 (by simp [Value.oneCell'])) (hown.out.below ((Below.refl _ _).alloc (Nat.le_refl _) _)) (hbel.out.alloc hbel.out.size _) (by have := hbel.out.size; simp; omega) (by have := HRZ.out; rw [u8s_len']; omega) ?_; intro v1 w1 ap; obtain ⟨A6, c6, rfl, hc6⟩ := ap.own.len; rw [List.length_append, u8s_len', HRZ.out] at hc6 ap ⊢; have O6 := Lib.hid ap.own; have B6 := Lib.hid ap.below; clear ap)
        go_roundw
        case rel => exact ⟨5, c6, A6, _, by omega, rfl, rfl, by omega, Lib.hid (by have := O6.out; rw [beN_take n 6 4 _ (by omega) (by simp only [Nat.reduceSub, Int.reducePow] <;> omega)] at this; exact this), B6⟩
        case measure => simp only [vlen]; omega
      · go_wp2_with (at_builtin; refine appO (w0 := w) w.heap.size rfl (.tmp 40) (.tmp 46) 71 71 5 (.int .u8 0) 1 rfl Tryd.underlying71 Tryd.info5 rfl (by omega) _ _ rfl _ 1 [.int .u8 _] rfl (src_new wr 5 [.int .u8 _] 1 rfl Tryd.underlying71 (by simp [Value.oneCell'])) (hown.out.below ((Below.refl _ _).alloc (Nat.le_refl _) _)) (hbel.out.alloc hbel.out.size _) (by have := hbel.out.size; simp; omega) (by have := HRZ.out; rw [u8s_len']; omega) ?_; intro v1 w1 ap; obtain ⟨A6, c6, rfl, hc6⟩ := ap.own.len; rw [List.length_append, u8s_len', HRZ.out] at hc6 ap ⊢; have O6 := Lib.hid ap.own; have B6 := Lib.hid ap.below; clear ap)
        go_roundw
        case rel => exact ⟨6, c6, A6, _, by omega, rfl, rfl, by omega, Lib.hid (by have := O6.out; rw [beN_take n 6 5 _ (by omega) (by simp only [Nat.reduceSub, Int.reducePow] <;> omega)] at this; exact this), B6⟩
        case measure => simp only [vlen]; omega
    · obtain rfl : j = 6 := by omega
      have hxn : x < 0 := by omega
      have hb := hown.out
      rw [List.take_of_length_le (by rw [beN_len]; exact Nat.le_refl _)] at hb
      have HB := Lib.hid (Bs.of_own hb (beN_ok n 6))
      clear hb
      go_wp2_with fail
      refine (fixed_any base q aR s r _ (beN n 6) wr (H0.out.below hbel.out) HB.out (by rw [beN_len]; exact HL.out) (by rw [beN_len]; unfold maxW; omega)).mono ?_
      rintro _ w2 ⟨rfl, hst⟩
      go_wp2_with fail
      go_end0
      exact ⟨rfl, WStep.then_ (Only.of_below hbel.out) (.inl rfl) hst⟩

set_option maxHeartbeats 4000000 in
/-- A number is written. -/
theorem number_any (base q : Nat) (aR : Addr) (s : WS) (r : Option Nat) (n : Int) (k : Nat) (hk : k = 1 ∨ k = 2 ∨ k = 4 ∨ k = 6) (w : World) (H : WrAt base w q aR s r) (hR : w.cell? ⟨1, 0, none⟩ = some (errV aR)) (h1 : 1 < w.heap.size) (hlim : Lim s (maxW - k)) :
    Calls Tryd.prog 116 #[.pointer (some ⟨q, 0, none⟩), .int .i64 n, .int .i64 k] w fun e w' => e = .returned (.tuple #[]) ∧ WStep base q aR (numS n k s) r w w' := by
  by_cases hn : 0 ≤ n ∧ n < (256 : Int) ^ k
  · have e : numS n k s = fixS (beN n k) s := by unfold numS; rw [if_pos hn]
    rw [e]
    rcases hk with rfl | rfl | rfl | rfl
    · exact number_ok1 base q aR s r n hn.1 hn.2 w H hlim
    · exact number_ok2 base q aR s r n hn.1 hn.2 w H hlim
    · exact number_ok4 base q aR s r n hn.1 hn.2 w H hlim
    · exact number_ok6 base q aR s r n hn.1 hn.2 w H hlim
  · have e : numS n k s = none := by unfold numS; rw [if_neg hn]
    rw [e]
    exact number_bad base q aR s r n k hk hn w H hR h1
end Go.Proofs.YtniknhhejlgdfaaDoor
/- Digests are written. -/
namespace Go.Proofs.YtniknhhejlgdfaaDoor
open Go.RowKit

abbrev wrV (q : Nat) : Value := .agg #[.pointer (some ⟨q, 0, none⟩)]
theorem slice24 (b : Nat) (W : World) : (Instr.sliceAt 24 (.pointer (some ⟨b, 0, none⟩)) none none none).run Tryd.prog W = .ok (.slice (some ⟨b, 0, none⟩) 16 16) W := by go_simp
set_option maxHeartbeats 4000000 in
set_option maxRecDepth 100000 in
theorem digest_any (base q : Nat) (aR : Addr) (s : WS) (r : Option Nat) (d : List Int) (hd : d.length = 16) (hok : u8s_ok d) (w : World) (H : WrAt base w q aR s r) (hlim : Lim s (maxW - 16)) :
    Calls Tryd.prog 108 #[wrV q, .agg (u8s d).toArray] w fun e w' => e = .returned (.tuple #[]) ∧ WStep base q aR (fixS d s) r w w' := by
  have b0 : Below w.heap.size w ((w.alloc (.cells #[.pointer (some ⟨q, 0, none⟩)] 171)).alloc (.cells (u8s d).toArray 24)) := ((Below.refl _ _).alloc (Nat.le_refl _) _).alloc (by simp) _
  have h0 : ((w.alloc (.cells #[.pointer (some ⟨q, 0, none⟩)] 171)).alloc (.cells (u8s d).toArray 24)).heap[w.heap.size]? = some (.cells #[.pointer (some ⟨q, 0, none⟩)] 171 (0, 0)) := heap_alloc2_old w _ _
  have h1 : ((w.alloc (.cells #[.pointer (some ⟨q, 0, none⟩)] 171)).alloc (.cells (u8s d).toArray 24)).heap[w.heap.size + 1]? = some (.cells (u8s d).toArray 24 (0, 0)) := by
    have := heap_alloc_new (w.alloc (.cells #[.pointer (some ⟨q, 0, none⟩)] 171)) (.cells (u8s d).toArray 24)
    rwa [World.size_alloc] at this
  have C0 := Lib.hid (blk_cell (xs := [.pointer (some ⟨q, 0, none⟩)]) h0 0 _ rfl)
  have hb := Bs.of_blk (c := 16) h1 hok (by rw [hd]; exact Nat.le_refl _) (by unfold maxLen; omega)
  rw [hd] at hb
  have HB := Lib.hid hb
  have H0 := Lib.hid (H.below b0)
  have B0 := Lib.hid b0
  clear b0 h0 h1 hb H
  go_enter Tryd.func108, Tryd.ntmps108
  go_wp2_with fail
  refine wp_region_rely3 (by kernel_rfl) 3 (by kernel_rfl) (by kernel_rfl) Ext Ext.refl Ext.trans (fun ix => match ix with
    | 0 => fun _ v => v = .pointer (some ⟨w.heap.size, 0, none⟩)
    | 1 => fun _ v => v = .pointer (some ⟨q, 0, none⟩)
    | 2 => fun _ v => v = .slice (some ⟨w.heap.size + 1, 0, none⟩) 16 16
    | _ => fun _ _ => False) ?_
  simp (maxSteps := 10000000) only [Rely, List.take_succ_cons, List.take_zero, List.drop_succ_cons, List.drop_zero, Nat.reduceAdd, Nat.zero_add, Act.put, List.setIfInBounds_toArray, List.set_cons_succ, List.set_cons_zero]
  refine ⟨?_, ?_, ?_, ?_⟩
  · refine step_plain rfl fun rv wq hE hd => ?_
    exact gives_fieldAddr' 171 _ 0 rfl (.pointer (some ⟨w.heap.size, 0, none⟩)) _ rfl (by go_simp) ⟨Ext.refl _, fun _ _ => rfl⟩
  · refine step_plain rfl fun rv wq hE hd => ?_
    have hc := cell_on (ext_of_drew hE) C0.out
    exact gives_loadAt 169 _ rfl (.pointer (some ⟨w.heap.size, 0, none⟩)) (.pointer (some ⟨q, 0, none⟩)) (show rv 0 = _ from hd.1) (by go_simp) ⟨Ext.refl _, fun _ _ => rfl⟩
  · refine step_plain rfl fun rv wq hE hd => ?_
    exact gives_slice 24 _ none none none rfl (.pointer (some ⟨w.heap.size + 1, 0, none⟩)) _ none none none rfl rfl rfl rfl (slice24 (w.heap.size + 1) _) ⟨Ext.refl _, fun _ _ => rfl⟩
  · intro rv wq hE hR
    have h1 : rv 1 = .pointer (some ⟨q, 0, none⟩) := hR 1 (by omega)
    have h2 : rv 2 = .slice (some ⟨w.heap.size + 1, 0, none⟩) 16 16 := hR 2 (by omega)
    rw [h1, h2]
    have BE := Lib.hid (ext_of_drew hE)
    clear hR hE h1 h2
    go_wp2_with fail
    refine (fixed_any base q aR s r _ d wq (H0.out.below BE.out) (HB.out.below BE.out) (by rw [hd]; exact hlim) (by rw [hd]; unfold maxW; omega)).mono ?_
    rintro _ w2 ⟨rfl, hst⟩
    go_wp2_with fail
    go_end0
    exact ⟨rfl, WStep.then_ ((Only.of_below B0.out).trans (Only.of_below BE.out) (.inl rfl)) (.inl rfl) hst⟩

set_option maxHeartbeats 4000000 in
set_option maxRecDepth 100000 in
theorem putDigest_any (base q : Nat) (aR : Addr) (s : WS) (r : Option Nat) (d : List Int) (hd : d.length = 16) (hok : u8s_ok d) (w : World) (H : WrAt base w q aR s r) (hlim : Lim s (maxW - 16)) :
    Calls Tryd.prog 115 #[.pointer (some ⟨q, 0, none⟩), .agg (u8s d).toArray] w fun e w' => e = .returned (.tuple #[]) ∧ WStep base q aR (fixS d s) r w w' := by
  have b0 : Below w.heap.size w (w.alloc (.cells (u8s d).toArray 24)) := (Below.refl _ _).alloc (Nat.le_refl _) _
  have D0 := Lib.hid (range_new w (u8s d) 24)
  have H0 := Lib.hid (H.below b0)
  have B0 := Lib.hid b0
  clear b0 H
  go_enter Tryd.func115, Tryd.ntmps115
  go_wp2_with (refine wpList_load_g rfl 24 (.tmp 3) rfl w.heap.size 0 rfl (u8s d) _ D0.out Tryd.underlying24 rfl (by rw [u8s_len', hd]; exact Tryd.size24) ?_)
  refine (digest_any base q aR s r d hd hok _ H0.out hlim).mono ?_
  rintro _ w2 ⟨rfl, hst⟩
  go_wp2_with fail
  go_end0
  exact ⟨rfl, WStep.then_ (Only.of_below B0.out) (.inl rfl) hst⟩

set_option maxHeartbeats 4000000 in
set_option maxRecDepth 100000 in
theorem wat_any (base q : Nat) (aR : Addr) (s : WS) (r : Option Nat) (e n : Int) (w : World) (H : WrAt base w q aR s r) (hR : w.cell? ⟨1, 0, none⟩ = some (errV aR)) (hb1 : 1 < base) (hlim : Lim s (maxW - 10)) :
    Calls Tryd.prog 107 #[wrV q, .int .i64 e, .int .i64 n] w fun x w' => x = .returned (.tuple #[]) ∧ WStep base q aR (numS n 6 (numS e 4 s)) r w w' := by
  have b0 : Below w.heap.size w (w.alloc (.cells #[.pointer (some ⟨q, 0, none⟩)] 171)) := (Below.refl _ _).alloc (Nat.le_refl _) _
  have hsz : base ≤ w.heap.size := by have := H.low; have := H.lt; omega
  have H0 := Lib.hid (H.below b0)
  have B0 := Lib.hid b0
  have hr := H.row
  have C0 := Lib.hid (heap_alloc_new w (.cells #[.pointer (some ⟨q, 0, none⟩)] 171))
  have c0 := blk_cell (xs := [.pointer (some ⟨q, 0, none⟩)]) C0.out 0 _ rfl
  have R0 := Lib.hid (cell_on b0 hR)
  have hqw : q < w.heap.size := H.lt
  clear b0 hR H
  go_enter Tryd.func107, Tryd.ntmps107
  go_wp2_with fail
  refine (number_any base q aR s r e 4 (by omega) _ H0.out R0.out (by simp; omega) (hlim.mono (by unfold maxW; omega))).mono ?_
  rintro _ w2 ⟨rfl, hst⟩
  obtain ⟨⟨r1, a1, p1⟩, o1⟩ := hst
  have k1 := o1.blk C0.out (by omega) (fun e => by have := (hr _ e.symm).2; omega)
  have c1 := blk_cell (xs := [.pointer (some ⟨q, 0, none⟩)]) k1 0 _ rfl
  have R1 := Lib.hid ((cell_same (o1.block 1 (by simp; omega) (by have := H0.out.low; omega) (fun e => by have := (hr _ e.symm).1; omega)) 0).trans R0.out)
  have A1 := Lib.hid a1
  have O1 := Lib.hid o1
  have P1 := Lib.hid p1
  clear a1 o1 p1 k1 c0
  go_wp2_with fail
  refine (number_any base q aR (numS e 4 s) r1 n 6 (by omega) _ A1.out R1.out (by have := O1.out.size; have := B0.out.size; omega) ((hlim.num e 4).mono (by unfold maxW; omega))).mono ?_
  rintro _ w3 ⟨rfl, hst⟩
  go_wp2_with fail
  go_end0
  refine ⟨rfl, WStep.then_ ((Only.of_below B0.out).trans O1.out (.inl rfl)) ?_ hst⟩
  rcases P1.out with h | ⟨b, h, hb⟩
  · exact .inl h
  · exact .inr ⟨b, h, Nat.le_trans B0.out.size hb⟩
end Go.Proofs.YtniknhhejlgdfaaDoor
