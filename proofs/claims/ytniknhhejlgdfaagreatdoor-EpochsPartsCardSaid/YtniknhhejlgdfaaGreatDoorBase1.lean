/- Lemmas that laws of this seat rest on, part 1; each says its own conditions: Ops, Rot, Sha, Sched, Take, Hash. -/
import Derived.WalkKit
import Derived.WalkSpells
import Derived.Maps.AppendAt
import Derived.Deep.MidRow
import Derived.Deep.AppendSrc
import Derived.Lib.Hide
import Derived.Test.YtniknhhejlgdfaaGreatDoorRows
import Derived.StillTailTactics
import Derived.Deep.QuietTactic
import Derived.BigQuiet
import Derived.IntWalk
/- Laws on single operations. -/
namespace Go.Proofs.YtniknhhejlgdfaaGreatDoor
open Go.RowKit

def u8s (bs : List Int) : List Value := bs.map (Value.int .u8)
def i64s (bs : List Int) : List Value := bs.map (Value.int .i64)

/-- A slice that is not nil reads as a list of cells. -/
def Row (w : World) (v : Value) (xs : List Value) : Prop :=
  ∃ b off c, v = .slice (some ⟨b, off, none⟩) xs.length c ∧ xs.length ≤ c ∧ c ≤ maxLen ∧ ∀ j u, xs[j]? = some u → w.cell? ⟨b, off + j, none⟩ = some u
theorem Row.below {w w' : World} {v : Value} {xs : List Value} (h : Row w v xs) (hb : Below w.heap.size w w') : Row w' v xs := by
  obtain ⟨b, off, c, hv, h1, h2, h3⟩ := h
  exact ⟨b, off, c, hv, h1, h2, fun j u hu => (hb.cell (p := ⟨b, off + j, none⟩) (World.block_lt_of_cell? w _ (h3 j u hu))).trans (h3 j u hu)⟩
theorem Row.of_own {w : World} {base e n : Nat} {v : Value} {xs : List Value} (h : w.ownsRow base e 1 v n xs) (hn : 0 < n) : Row w v xs := by
  rcases h.2 with ⟨_, rfl⟩ | ⟨g, cap, cur, rfl, _, hg, hnc, hm, hs, ht⟩
  · omega
  · have hl := h.1
    refine ⟨g, 0, cap, by rw [hl, Nat.mul_one], by omega, hm, fun j u hu => ?_⟩
    have := h.cells (g := g) rfl j u hu
    rwa [show (⟨g, 0, none⟩ : Addr).add j = ⟨g, 0 + j, none⟩ by unfold Addr.add; split <;> simp_all] at this

/-! Blocks that are known whole. -/
theorem blk_cell {w : World} {g : Nat} {xs : List Value} {t : Nat} (h : w.heap[g]? = some (.cells xs.toArray t (0, 0))) (i : Nat) (v : Value) (hv : xs[i]? = some v) : w.cell? ⟨g, i, none⟩ = some v := by
  rw [cell_of_row _ _ _ _ _ _ h]; simpa using hv
theorem blk_free {w : World} {g : Nat} {xs : Array Value} {t : Nat} (h : w.heap[g]? = some (.cells xs t (0, 0))) (i : Nat) : w.frozen? ⟨g, i, none⟩ = false := by
  simp [World.frozen?, h]
theorem blk_set {w : World} {g : Nat} {xs : List Value} {t : Nat} (h : w.heap[g]? = some (.cells xs.toArray t (0, 0))) (i : Nat) (v : Value) : (w.setCell ⟨g, i, none⟩ v).heap[g]? = some (.cells (xs.set i v).toArray t (0, 0)) := by
  rw [heap_setCell_same w g i _ t v h]; simp
theorem blk_range {w : World} {g : Nat} {xs : List Value} {t : Nat} (h : w.heap[g]? = some (.cells xs.toArray t (0, 0))) : w.rangeAt g 0 xs := fun j v hv => by
  rw [Nat.zero_add]; exact blk_cell h j v hv
theorem blk_lt {w : World} {g : Nat} {o : Obj} (h : w.heap[g]? = some o) : g < w.heap.size := (Array.getElem?_eq_some_iff.1 h).1
theorem blk_below {w w' : World} {g : Nat} {o : Obj} (h : w.heap[g]? = some o) (hb : Below w.heap.size w w') : w'.heap[g]? = some o := (hb.block g (blk_lt h)).trans h

/-- A block of so many cells, whatever is in them. -/
def Has (w : World) (b t n : Nat) : Prop := ∃ Z : Array Value, Z.size = n ∧ w.heap[b]? = some (.cells Z t (0, 0))
theorem Has.setCell {w : World} {b t n : Nat} (h : Has w b t n) (p : Addr) (v : Value) : Has (w.setCell p v) b t n := by
  obtain ⟨Z, hz, hb⟩ := h
  by_cases e : b = p.block
  · refine ⟨if p.spot.isSome then Z else Z.setIfInBounds p.off v, by split <;> simp [hz], ?_⟩
    simp only [World.setCell, Array.getElem?_modify, e]
    rw [← e, hb]
    simp
  · exact ⟨Z, hz, (heap_setCell_other w p b v e).trans hb⟩
theorem Has.below {w w' : World} {b t n : Nat} (h : Has w b t n) (hb : Below w.heap.size w w') : Has w' b t n := by
  obtain ⟨Z, hz, h⟩ := h
  exact ⟨Z, hz, blk_below h hb⟩
theorem Has.lt {w : World} {b t n : Nat} (h : Has w b t n) : b < w.heap.size := by
  obtain ⟨Z, _, h⟩ := h
  exact blk_lt h
theorem Has.same {w w' : World} {b t n : Nat} (h : Has w b t n) (hb : w'.heap[b]? = w.heap[b]?) : Has w' b t n := by
  obtain ⟨Z, hz, h⟩ := h
  exact ⟨Z, hz, hb.trans h⟩

theorem has_new (w : World) (Z : Array Value) (t n : Nat) (h : Z.size = n) : Has (w.alloc (.cells Z t)) w.heap.size t n := ⟨Z, h, heap_alloc_new w _⟩

theorem has_new2 (w : World) (A : Obj) (Z : Array Value) (t n : Nat) (h : Z.size = n) : Has ((w.alloc A).alloc (.cells Z t)) (w.heap.size + 1) t n := by
  have := has_new (w.alloc A) Z t n h
  simpa using this
theorem has_old (w : World) (A : Obj) (Z : Array Value) (t n : Nat) (h : Z.size = n) : Has ((w.alloc (.cells Z t)).alloc A) w.heap.size t n :=
  ⟨Z, h, heap_alloc2_old w _ _⟩

/-- Block b is written over. -/
structure Put (w : World) (b t : Nat) (cs : List Value) (w1 : World) : Prop where
  blk : w1.heap[b]? = some (.cells cs.toArray t (0, 0))
  other : ∀ k, k ≠ b → w1.heap[k]? = w.heap[k]?
  size : w1.heap.size = w.heap.size
  os : w1.os = w.os
  tape : w1.tape = w.tape
  output : w1.output = w.output
theorem Put.below {w0 w w1 : World} {B b t : Nat} {cs : List Value} (h : Put w b t cs w1) (hb : Below B w0 w) (hB : B ≤ b) : Below B w0 w1 :=
  hb.trans ⟨h.os, h.tape, h.output, Nat.le_of_eq h.size.symm, fun k hk => h.other k (by omega)⟩

theorem i64_and3 (x : Int) (h0 : 0 ≤ x) (h1 : x < 1024) : bits .and .i64 x 3 = x % 4 :=
  bits_mask .i64 10 (by decide) (fun n a b => by simp only [IntKind.wrap_i64]; omega) 2 (by decide) x h0 h1

theorem below_app {B e s n : Nat} {w wr w1 : World} {v : Value} {xs : List Value} {o : Obj} (hb : Below B w wr) (hB : B ≤ wr.heap.size) (ho : wr.ownsRow B e s v n xs)
    (hg : (wr.alloc o).grownBy w1 v.ownBlock) : Below B w w1 :=
  (hb.alloc hB o).grown hg (by simp; omega) (fun k hk => (ho.lt k hk).1)

section
variable {P : Program} {ops : Array Oper} {Q : Exit → Act → World → Prop} {a : Act} {w : World} {rest : List Oper} {o : Oper}

theorem run_isAgg_no (t : TypeId) (d : TypeDesc) (hu : P.underlying t = some d) (hd : (match d with | .struct _ | .array _ _ => true | _ => false) = false) (w : World) :
    (isAgg t).run P w = .ok false w := by
  unfold isAgg
  rw [Sem.run_bind, run_underlying hu w]
  cases d <;> simp_all

theorem range_below {w w' : World} {b o : Nat} {cs : List Value} (h : w.rangeAt b o cs) (hb : Below w.heap.size w w') : w'.rangeAt b o cs :=
  fun j v hv => (hb.cell (p := ⟨b, o + j, none⟩) (World.block_lt_of_cell? w _ (h j v hv))).trans (h j v hv)
theorem range_new (w : World) (cs : List Value) (e : Nat) : (w.alloc (.cells cs.toArray e)).rangeAt w.heap.size 0 cs := fun j v hv => by
  rw [cell_of_row _ _ _ _ _ _ (heap_alloc_new w _)]
  simpa using hv
/-- An array is read; guarded or not. -/
theorem wpList_load_g (hw : Region.wanted o (yielded ops a.tmps) = true) (ty : TypeId) (x : Operand) (ho : o.op = .load ty x)
    (b f : Nat) (hx : a.eval x = .pointer (some ⟨b, f, none⟩)) (cs : List Value) (d : TypeDesc) (hc : w.rangeAt b f cs)
    (hu : P.underlying ty = some d) (hd : d.isRow = true) (hi : (P.info? ty).map (·.size) = some cs.length)
    (h : wpList P ops Q rest (a.put o.dst (.agg cs.toArray)) w) : wpList P ops Q (o :: rest) a w := by
  refine wpList_step fun K hK => ?_
  rw [if_pos hw]
  exact wp_load_mid ty x ho b f hx cs d hc hu hd hi (hK _ _ h)

theorem wpList_store_row (hw : Region.wanted o (yielded ops a.tmps) = true) (ty : TypeId) (x y : Operand) (ho : o.op = .store ty x y)
    (b : Nat) (hx : a.eval x = .pointer (some ⟨b, 0, none⟩)) (cs : List Value) (hy : a.eval y = .agg cs.toArray) (t : Nat) (hb : Has w b t cs.length)
    (hi : (P.info? ty).map (·.size) = some cs.length) (h1 : ∀ v ∈ cs, v.oneCell' = true)
    (h : ∀ w1, Put w b t cs w1 → wpList P ops Q rest (a.put o.dst undef) w1) : wpList P ops Q (o :: rest) a w := by
  obtain ⟨Z, hz, hZ⟩ := hb
  refine wpList_step fun K hK => ?_
  rw [if_pos hw]
  have hr := run_storeVar_row (P := P) w b t ty Z cs.toArray hZ (by simpa using hi) (by simpa using hz) (Array.all_eq_true_iff_forall_mem.2 (fun v hv => h1 v (by simpa using hv)))
  unfold Oper.wp execOp
  simp only [ho, hx, hy, Instr.storeAt, Instr.sureAddr, Sem.run_bind, Sem.run_pure, Result.andThen_ok, hr]
  refine hK _ _ (h _ ⟨setRow_heap w b Z _ t _ hZ, fun k hk => setRow_other w b k _ hk, by simp, rfl, rfl, rfl⟩)

/-! A row of bytes (one cell an element) that may begin in the midst of its block. -/
def OwnO (w : World) (base e : Nat) (v : Value) (xs : List Value) : Prop :=
  (v = .slice none 0 0 ∧ xs = []) ∨
  ∃ g off cap cur fr, v = .slice (some ⟨g, off, none⟩) xs.length cap ∧ base ≤ g ∧ w.heap[g]? = some (.cells cur e fr) ∧ xs.length ≤ cap ∧ cap ≤ maxLen ∧ off + cap ≤ cur.size ∧ (cur.toList.drop off).take xs.length = xs ∧ (fr.2 ≤ fr.1 ∨ cur.size ≤ fr.1)

theorem OwnO.of_own {w : World} {base e n : Nat} {v : Value} {xs : List Value} (h : w.ownsRow base e 1 v n xs) : OwnO w base e v xs := by
  have hl := h.1
  rcases h.2 with ⟨rfl, rfl⟩ | ⟨g, cap, cur, rfl, hb, hg, hnc, hm, hs, ht⟩
  · exact .inl ⟨rfl, List.eq_nil_of_length_eq_zero (by simpa using hl)⟩
  · refine .inr ⟨g, 0, cap, cur, (0, 0), by rw [hl, Nat.mul_one], hb, hg, by omega, hm, by omega, ?_, .inl (Nat.le_refl _)⟩
    rw [hl, List.drop_zero]
    exact ht
theorem OwnO.len {w : World} {base e : Nat} {v : Value} {xs : List Value} (h : OwnO w base e v xs) : ∃ A c, v = .slice A xs.length c ∧ xs.length ≤ c := by
  rcases h with ⟨rfl, rfl⟩ | ⟨g, off, cap, cur, fr, rfl, _, _, h, _⟩
  · exact ⟨none, 0, rfl, Nat.le_refl _⟩
  · exact ⟨_, _, rfl, h⟩
theorem OwnO.lt {w : World} {base e : Nat} {v : Value} {xs : List Value} (h : OwnO w base e v xs) : ∀ k, v.ownBlock = some k → base ≤ k ∧ k < w.heap.size := by
  intro k hk
  rcases h with ⟨rfl, _⟩ | ⟨g, off, cap, cur, fr, rfl, hb, hg, _⟩
  · simp [Value.ownBlock] at hk
  · simp [Value.ownBlock] at hk
    subst hk
    exact ⟨hb, blk_lt hg⟩
theorem OwnO.kept {w w' : World} {base e : Nat} {v : Value} {xs : List Value} {row : Option Nat} (h : OwnO w base e v xs) (hg : w.grownBy w' row) (hne : ∀ k, v.ownBlock = some k → row ≠ some k) : OwnO w' base e v xs := by
  rcases h with h | ⟨g, off, cap, cur, fr, rfl, hb, hgg, rest⟩
  · exact .inl h
  · exact .inr ⟨g, off, cap, cur, fr, rfl, hb, (hg.block g (blk_lt hgg) (fun e => hne g rfl e.symm)).trans hgg, rest⟩
theorem OwnO.below {w w' : World} {base e : Nat} {v : Value} {xs : List Value} (h : OwnO w base e v xs) (hb : Below w.heap.size w w') : OwnO w' base e v xs :=
  h.kept (row := none) ⟨hb.os, hb.tape, hb.output, hb.size, fun k hk _ => hb.block k hk⟩ (fun _ _ h => by cases h)
theorem OwnO.mono {w : World} {base base' e : Nat} {v : Value} {xs : List Value} (h : OwnO w base e v xs) (hb : base' ≤ base) : OwnO w base' e v xs := by
  rcases h with h | ⟨g, off, cap, cur, fr, rfl, hb', rest⟩
  · exact .inl h
  · exact .inr ⟨g, off, cap, cur, fr, rfl, by omega, rest⟩
theorem OwnO.row {w : World} {base e : Nat} {v : Value} {xs : List Value} (h : OwnO w base e v xs) (hn : 0 < xs.length) : Row w v xs := by
  rcases h with ⟨_, rfl⟩ | ⟨g, off, cap, cur, fr, rfl, _, hg, hnc, hm, hs, ht, _⟩
  · simp at hn
  · refine ⟨g, off, cap, rfl, hnc, hm, fun j u hu => ?_⟩
    rw [cell_of_row _ _ _ _ _ _ hg]
    have hj : j < xs.length := (List.getElem?_eq_some_iff.1 hu).1
    have h2 : ((cur.toList.drop off).take xs.length)[j]? = some u := by rw [ht]; exact hu
    rw [List.getElem?_take, if_pos hj, List.getElem?_drop] at h2
    simpa using h2

theorem OwnO.drop {w : World} {base e g off n cap k : Nat} {xs : List Value} (h : OwnO w base e (.slice (some ⟨g, off, none⟩) n cap) xs) (hk : k ≤ xs.length) :
    OwnO w base e (.slice (some (if cap = k then ⟨g, off, none⟩ else ⟨g, off + k, none⟩)) (n - k) (cap - k)) (xs.drop k) := by
  rcases h with ⟨h, _⟩ | ⟨g', off', cap', cur, fr, he, hb, hg, hnc, hm, hfit, htake, hfr⟩
  · cases h
  · simp only [Value.slice.injEq, Option.some.injEq, Addr.mk.injEq] at he
    obtain ⟨⟨rfl, rfl, _⟩, rfl, rfl⟩ := he
    by_cases hc : cap = k
    · subst hc
      refine .inr ⟨g, off, 0, cur, fr, by simp, hb, hg, by simp; omega, by simp [maxLen], by omega, ?_, hfr⟩
      rw [List.drop_of_length_le (by omega)]
      simp
    · refine .inr ⟨g, off + k, cap - k, cur, fr, by simp [hc], hb, hg, by simp; omega, by omega, by omega, ?_, hfr⟩
      rw [List.length_drop, ← htake, List.drop_take, List.drop_drop, htake]

theorem run_storeCells_fr {P : Program} (g o : Nat) (t : TypeId) (fr : Nat × Nat) : ∀ (vs : List Value) (i : Nat) (cur : Array Value) (w : World), w.heap[g]? = some (.cells cur t fr) → (fr.2 ≤ fr.1 ∨ cur.size ≤ fr.1) → o + i + vs.length ≤ cur.size → (∀ v ∈ vs, v.oneCell' = true) →
    (storeCells ⟨g, o, none⟩ vs i).run P w = .ok () (w.setRow g (cur.toList.take (o + i) ++ vs ++ cur.toList.drop (o + i + vs.length)).toArray)
  | [], i, cur, w, hg, _, _, _ => by
    simp only [storeCells, List.append_nil, List.length_nil, Nat.add_zero, List.take_append_drop, Array.toArray_toList]
    rw [setRow_self w g cur t fr hg]
    rfl
  | v :: rest, i, cur, w, hg, hfr, hl, h1 => by
    have hi : o + i < cur.size := by simp at hl; omega
    have hadd : (⟨g, o, none⟩ : Addr).add i = ⟨g, o + i, none⟩ := by unfold Addr.add; split <;> simp_all
    have hcell : w.cell? ⟨g, o + i, none⟩ = some cur[o + i] := by simp [World.cell?, hg, hi]
    have hfro : w.frozen? ⟨g, o + i, none⟩ = false := by
      simp only [World.frozen?, hg]
      rcases hfr with h | h <;> simp <;> omega
    have hst : (store ((⟨g, o, none⟩ : Addr).add i) v).run P w = .ok () (w.setRow g (cur.setIfInBounds (o + i) v)) := by
      rw [hadd, run_store P w _ v _ (h1 v (by simp)), hcell]
      simp [hfro, setCell_eq_setRow w g (o + i) cur t fr v hg]
    have ih := run_storeCells_fr (P := P) g o t fr rest (i + 1) (cur.setIfInBounds (o + i) v) (w.setRow g (cur.setIfInBounds (o + i) v)) (setRow_heap w g cur _ t _ hg) (by simpa using hfr) (by simp at hl ⊢; omega) (fun x hx => h1 x (by simp [hx]))
    simp only [storeCells, Sem.run_bind, hst, Result.andThen_ok, ih, setRow_setRow]
    congr 3
    have e := list_seg_step cur.toList (o + i) v rest (by simp at hl ⊢; omega)
    simpa [Array.toList_setIfInBounds, Nat.add_assoc] using e

theorem run_append_off {P : Program} {w : World} (base : Nat) (t tx ty e : TypeId) (z : Value) (bytes : Nat) (ht : P.underlying t = some (.slice e))
    (hinfo : (P.info? e).map (fun i => (i.zero, i.size, i.bytes)) = some (some z, 1, bytes)) (hz : z.cells.size = 1) (hb0 : 0 < bytes)
    (v : Value) (xs : List Value) (hown : OwnO w base e v xs) (x : Value) (n : Nat) (news : List Value) (hs : Src P 1 tx x n news w)
    (hbytes : (xs.length + n) * bytes ≤ 140737488355328) (hbase : base ≤ w.heap.size) :
    ∃ v' w', (Builtin.append_ #[t, tx] ty #[v, x]).run P w = .ok v' w' ∧ OwnO w' base e v' (xs ++ news) ∧ w.grownBy w' v.ownBlock ∧ (v'.ownBlock = v.ownBlock ∨ v'.ownBlock = some w.heap.size) := by
  obtain ⟨i0, hi, hzz⟩ := Option.map_eq_some_iff.1 hinfo
  simp only [Prod.mk.injEq] at hzz
  obtain ⟨hz0, hz1, hz2⟩ := hzz
  have hs' : Src P i0.size tx x n news w := by rw [hz1]; exact hs
  have hlen : xs.length + n ≤ 140737488355328 := Nat.le_trans (Nat.le_mul_of_pos_right _ hb0) hbytes
  have hnl : news.length = n := by have := hs.newsLen; omega
  have grown : ∀ (old : Nat), old < xs.length + n → ∀ row,
      OwnO (w.drew.alloc (.cells ((xs ++ news).toArray ++ Builtin.zeroCells z.cells (grownCap w (xs.length + n) old e - (xs.length + n))) e)) base e (.slice (some ⟨w.heap.size, 0, none⟩) (xs.length + n) (grownCap w (xs.length + n) old e)) (xs ++ news) ∧
      w.grownBy (w.drew.alloc (.cells ((xs ++ news).toArray ++ Builtin.zeroCells z.cells (grownCap w (xs.length + n) old e - (xs.length + n))) e)) row := by
    intro old ho row
    have hge := grownCap_ge w (xs.length + n) old e
    have hcm : grownCap w (xs.length + n) old e ≤ maxLen := grownCap_le_maxLen w (xs.length + n) old e (by simp only [maxLen]; omega)
    refine ⟨.inr ⟨w.heap.size, 0, _, _, (0, 0), by rw [List.length_append, hnl], hbase, heap_alloc_new w.drew _, by rw [List.length_append, hnl]; exact hge, hcm, ?_, ?_, .inl (Nat.le_refl _)⟩, ⟨rfl, rfl, rfl, by simp, fun k hk _ => Below.heap_alloc w.drew _ k hk⟩⟩
    · simp only [Array.size_append, List.size_toArray, size_zeroCells, hz, List.length_append, hnl]
      omega
    · rw [List.drop_zero, Array.toList_append]
      exact List.take_left
  rcases hown with ⟨rfl, rfl⟩ | ⟨g, off, cap, cur, fr, rfl, hbg, hg, hnc, hcm, hfit, htake, hfr⟩
  · by_cases hn : n = 0
    · subst hn
      have hne : news = [] := List.eq_nil_of_length_eq_zero hnl
      subst hne
      refine ⟨.slice none 0 0, w, ?_, .inl ⟨rfl, rfl⟩, ⟨rfl, rfl, rfl, Nat.le_refl _, fun _ _ _ => rfl⟩, .inl rfl⟩
      rcases hs.kind with ⟨e', hk⟩ | hk <;> simp [Builtin.append_, run_underlying ht, run_underlying hk, sizeOf, typeInfo, hi, hz1, hs.len, hs.cells]
    · have hr := run_append_grow_src (P := P) w t tx ty e i0 z ht hi hz0 none 0 0 [] (by simp [Builtin.firstCells]) x n news hs' (by omega) (by omega) (by
        rw [Nat.zero_add, nextslicecap_zero (by omega), hz2]
        have : (0 + n) * bytes ≤ 140737488355328 := hbytes
        rw [Nat.zero_add] at this
        omega)
      have hgr := grown 0 (by simp; omega) (Value.ownBlock (.slice none 0 0))
      simp only [List.length_nil, Nat.zero_add, List.nil_append] at hgr hr
      exact ⟨_, _, hr, hgr.1, hgr.2, .inr rfl⟩
  · by_cases hroom : xs.length + n ≤ cap
    · have hst := run_storeCells_fr (P := P) g (off + xs.length) e fr news 0 cur w hg hfr (by omega) hs.one
      simp only [Nat.add_zero] at hst
      refine ⟨.slice (some ⟨g, off, none⟩) (xs.length + n) cap, w.setRow g (cur.toList.take (off + xs.length) ++ news ++ cur.toList.drop (off + xs.length + news.length)).toArray, ?_, .inr ⟨g, off, cap, _, fr, by rw [List.length_append, hnl], hbg, setRow_heap w g cur _ e _ hg, by rw [List.length_append, hnl]; exact hroom, hcm, ?_, ?_, ?_⟩, ⟨rfl, rfl, rfl, by simp, fun k hk hne => setRow_other w g k _ (fun h => hne (by rw [h]; rfl))⟩, .inl rfl⟩
      · rcases hs.kind with ⟨e', hk⟩ | hk <;> simp [Builtin.append_, run_underlying ht, run_underlying hk, sizeOf, typeInfo, hi, hz1, hs.len, hroom, hs.cells, Addr.add_lit, hst]
      · simp only [List.size_toArray, List.length_append, List.length_take, List.length_drop, Array.length_toList]
        omega
      · have hcl : cur.toList.length = cur.size := by simp
        have h1 : (cur.toList.take (off + xs.length)).drop off = xs := by
          rw [List.drop_take, Nat.add_sub_cancel_left]
          exact htake
        have h2 : (cur.toList.take (off + xs.length)).length = off + xs.length := by
          rw [List.length_take]
          omega
        simp only [List.append_assoc]
        rw [List.drop_append_of_le_length (by omega), h1]
        rw [← List.append_assoc]
        exact List.take_left
      · rcases hfr with h | h
        · exact .inl h
        · right
          simp only [List.size_toArray, List.length_append, List.length_take, List.length_drop, Array.length_toList]
          omega
    · have hold : (Builtin.firstCells i0.size xs.length (.slice (some ⟨g, off, none⟩) xs.length cap)).run P w.drew = .ok xs.toArray w.drew := by
        refine run_firstCells_some (P := P) w.drew i0.size xs.length ⟨g, off, none⟩ xs.length cap xs (by rw [hz1, Nat.mul_one]) ?_
        intro j u hu
        rw [show (⟨g, off, none⟩ : Addr).add j = ⟨g, off + j, none⟩ by unfold Addr.add; split <;> simp_all]
        have hj : j < xs.length := (List.getElem?_eq_some_iff.1 hu).1
        have h2 : ((cur.toList.drop off).take xs.length)[j]? = some u := by rw [htake]; exact hu
        rw [List.getElem?_take, if_pos hj, List.getElem?_drop] at h2
        have h3 : w.cell? ⟨g, off + j, none⟩ = some u := by
          rw [cell_of_row _ _ _ _ _ _ hg]
          simpa using h2
        exact h3
      have hr := run_append_grow_src (P := P) w t tx ty e i0 z ht hi hz0 (some ⟨g, off, none⟩) xs.length cap xs hold x n news hs' (by omega) (by omega) (by
        have := growslice_fits (need := xs.length + n) (old := cap) (bytes := i0.bytes) (by omega) (by rw [hz2]; exact hbytes)
        exact this)
      have hgr := grown cap (by omega) (Value.ownBlock (.slice (some ⟨g, off, none⟩) xs.length cap))
      exact ⟨_, _, hr, hgr.1, hgr.2, .inr rfl⟩

theorem OwnO.src {P : Program} {w : World} {base e n : Nat} {tx : TypeId} {A : Option Addr} {c : Nat} {xs : List Value} (h : OwnO w base e (.slice A n c) xs) (hk : P.underlying tx = some (.slice e)) (h1 : ∀ u ∈ xs, u.oneCell' = true) :
    Src P 1 tx (.slice A n c) n xs w := by
  rcases h with ⟨h, rfl⟩ | ⟨g, off, cap, cur, fr, he, hb, hg, hnc, hm, hfit, htake, hfr⟩
  · cases h
    exact Src.ofNil w hk 0
  · have hrow : Row w (.slice A n c) xs ∨ xs = [] := by
      by_cases hx : 0 < xs.length
      · exact .inl (OwnO.row (.inr ⟨g, off, cap, cur, fr, he, hb, hg, hnc, hm, hfit, htake, hfr⟩) hx)
      · exact .inr (List.eq_nil_of_length_eq_zero (by omega))
    simp only [Value.slice.injEq] at he
    obtain ⟨rfl, rfl, rfl⟩ := he
    refine Src.ofSlice w hk ⟨g, off, none⟩ xs.length c xs (by simp) (fun j u hu => ?_) h1
    rw [show (⟨g, off, none⟩ : Addr).add j = ⟨g, off + j, none⟩ by unfold Addr.add; split <;> simp_all]
    rcases hrow with ⟨b, off', c', he, _, _, hc⟩ | rfl
    · simp only [Value.slice.injEq, Option.some.injEq, Addr.mk.injEq] at he
      obtain ⟨⟨rfl, rfl, _⟩, _⟩ := he
      exact hc j u hu
    · simp at hu
theorem own_mk {w : World} {base e c : Nat} (W : World) (hb : base ≤ W.heap.size) (cs : Array Value) (hw : w = W.alloc (.cells cs e)) (hc : c ≤ maxLen) (hs : cs.size = c) : OwnO w base e (.slice (some ⟨W.heap.size, 0, none⟩) 0 c) [] := by
  subst hw
  exact .inr ⟨W.heap.size, 0, c, cs, (0, 0), rfl, hb, heap_alloc_new W _, by simp, hc, by omega, by simp, .inl (Nat.le_refl _)⟩
theorem src_new {P : Program} (W : World) (e : Nat) {tx : TypeId} (cs : List Value) (n : Nat) (hn : cs.length = n) (hk : P.underlying tx = some (.slice e)) (h1 : ∀ u ∈ cs, u.oneCell' = true) :
    Src P 1 tx (.slice (some ⟨W.heap.size, 0, none⟩) n n) n cs (W.alloc (.cells cs.toArray e)) := by
  refine Src.ofSlice _ hk ⟨W.heap.size, 0, none⟩ n n cs (by omega) (fun j u hu => ?_) h1
  rw [show (⟨W.heap.size, 0, none⟩ : Addr).add j = ⟨W.heap.size, j, none⟩ by unfold Addr.add; split <;> simp_all]
  rw [cell_of_row _ _ _ _ _ _ (heap_alloc_new W _)]
  simpa using hu
def vlen : Value → Nat
  | .slice _ n _ => n
  | _ => 0

structure AppO (base e : Nat) (w0 W : World) (v : Value) (xs : List Value) (v1 : Value) (w1 : World) : Prop where
  own : OwnO w1 base e v1 xs
  below : Below base w0 w1
  grown : W.grownBy w1 v.ownBlock
  place : v1.ownBlock = v.ownBlock ∨ v1.ownBlock = some W.heap.size

theorem appO {w0 : World} (base : Nat) (hw : Region.wanted o (yielded ops a.tmps) = true) (s x : Operand) (t tx e : TypeId) (z : Value) (bytes : Nat)
    (ho : o.op = .call { callee := .builtin .append, args := #[s, x], argTypes := #[t, tx] })
    (ht : P.underlying t = some (.slice e)) (hinfo : (P.info? e).map (fun i => (i.zero, i.size, i.bytes)) = some (some z, 1, bytes)) (hz : z.cells.size = 1) (hb0 : 0 < bytes)
    (v : Value) (xs : List Value) (hs : a.eval s = v) (xv : Value) (n : Nat) (news : List Value) (hx : a.eval x = xv) (hsrc : Src P 1 tx xv n news w)
    (HO : OwnO w base e v xs) (HB : Below base w0 w) (hbase : base ≤ w.heap.size) (hbytes : (xs.length + n) * bytes ≤ 140737488355328)
    (h : ∀ v1 w1, AppO base e w0 w v (xs ++ news) v1 w1 → wpList P ops Q rest (a.put o.dst v1) w1) :
    wpList P ops Q (o :: rest) a w := by
  obtain ⟨v', w', hr, h1, h2, h3⟩ := run_append_off base t tx o.type e z bytes ht hinfo hz hb0 v xs HO xv n news hsrc hbytes hbase
  refine wpList_step fun K hK => ?_
  rw [if_pos hw]
  unfold Oper.wp execOp
  simp only [ho, resolve, invoke, builtin, Sem.run_bind, Sem.run_pure, Result.andThen_ok, List.map_toArray, List.map_cons, List.map_nil, hs, hx, hr]
  exact hK _ _ (h v' w' ⟨h1, HB.grown h2 hbase (fun k hk => (HO.lt k hk).1), h2, h3⟩)

theorem wpList_index_arr (hgd : o.guard = none) (t e n : Nat) (x ix : Operand) (ho : o.op = .index t x ix) (cs : Array Value) (k : IntKind) (i : Int) (v : Value)
    (hx : a.eval x = .agg cs) (hi : a.eval ix = .int k i) (ht : P.underlying t = some (.array n e)) (d : TypeDesc) (hu : P.underlying e = some d)
    (hd : (match d with | .struct _ | .array _ _ => true | _ => false) = false) (hs : (P.info? e).map (·.size) = some 1) (h0 : 0 ≤ i) (h1 : i < n) (hv : cs[i.toNat]? = some v)
    (h : wpList P ops Q rest (a.put o.dst v) w) : wpList P ops Q (o :: rest) a w := by
  refine wpList_plain hgd fun K hK => ?_
  unfold Oper.wp execOp
  cases hq : P.info? e with
  | none => simp [hq] at hs
  | some inf =>
    have hsz : inf.size = 1 := by simpa [hq] using hs
    have h01 : 0 ≤ i ∧ i < (n : Int) := ⟨h0, h1⟩
    have hru := run_underlying ht w
    have hag := run_isAgg_no e d hu hd w
    simp only [ho, hx, hi, Instr.index, asIntOf, Sem.run_bind, Sem.run_pure, Result.andThen_ok, hru, if_pos h01, sizeOf, typeInfo, program, Sem.run, hq, hsz, part, hag, Nat.mul_one, hv]
    exact hK _ _ h

theorem run_forIn_all (l : List Nat) (F : Nat → Option Bool × Unit → Sem (ForInStep (Option Bool × Unit))) (c : Nat → Bool)
    (hF : ∀ i ∈ l, ∀ s, (F i s).run P w = .ok (if c i = false then .done (some false, ()) else .yield (none, ())) w) :
    (forIn l ((none : Option Bool), ()) F).run P w = .ok ((if l.all c then none else some false), ()) w := by
  induction l with
  | nil => simp only [List.forIn_nil, Sem.run_pure, List.all_nil, if_true]
  | cons i l ih =>
    simp only [List.forIn_cons, Sem.run_bind, hF i (by simp) _, Result.andThen_ok]
    cases hc : c i with
    | false => simp [hc]
    | true =>
      simp only [List.all_cons, hc, Bool.true_and, Bool.true_eq_false, if_false]
      exact ih (fun j hj => hF j (by simp [hj]))

theorem run_equalIn_array (d t e n m : Nat) (xs ys : Array Value) (c : Nat → Bool) (ht : P.underlying t = some (.array n e)) (hs : (P.info? e).map (·.size) = some m)
    (hc : ∀ i, i < n → ∃ x y, (part e xs (i * m)).run P w = .ok x w ∧ (part e ys (i * m)).run P w = .ok y w ∧ (Op.equalIn d e x y).run P w = .ok (c i) w) :
    (Op.equalIn (d + 1) t (.agg xs) (.agg ys)).run P w = .ok ((List.range n).all c) w := by
  have hsz : (sizeOf e).run P w = .ok m w := by
    cases hq : P.info? e with
    | none => simp [hq] at hs
    | some inf =>
      have : inf.size = m := by simpa [hq] using hs
      simp only [sizeOf, typeInfo, program, Sem.run_bind, Sem.run, hq, this, Result.andThen_ok, Sem.run_pure]
  unfold Op.equalIn
  rw [Sem.run_bind, run_underlying ht w]
  simp only [Result.andThen_ok]
  rw [Sem.run_bind, hsz]
  simp only [Result.andThen_ok, Std.Legacy.Range.forIn_eq_forIn_range', Std.Legacy.Range.size]
  rw [Sem.run_bind, run_forIn_all _ _ c]
  · simp only [Result.andThen_ok]
    rw [show (n - 0 + 1 - 1) / 1 = n by omega, ← List.range_eq_range']
    cases h : (List.range n).all c <;> simp
  · intro i hi s
    obtain ⟨x, y, h1, h2, h3⟩ := hc i (by simp at hi; omega)
    simp only [Sem.run_bind, h1, h2, h3, Result.andThen_ok]
    cases c i <;> simp

theorem run_part_one (e : Nat) (dsc : TypeDesc) (xs : Array Value) (i : Nat) (v : Value) (he : P.underlying e = some dsc) (hd : (match dsc with | .struct _ | .array _ _ => true | _ => false) = false) (hv : xs[i]? = some v) :
    (part e xs i).run P w = .ok v w := by
  unfold part
  simp only [Sem.run_bind, run_isAgg_no e dsc he hd w, Result.andThen_ok, Bool.false_eq_true, if_false, hv, Sem.run_pure]

theorem all_eq (a b : List Int) (n : Nat) (ha : a.length = n) (hb : b.length = n) : ((List.range n).all fun i => a.getD i 0 == b.getD i 0) = decide (a = b) := by
  rw [Bool.eq_iff_iff, decide_eq_true_iff, List.all_eq_true]
  constructor
  · intro h
    apply List.ext_getElem (by omega)
    intro i h1 h2
    have := h i (by simp; omega)
    simpa [List.getD_eq_getElem?_getD, h1, h2] using this
  · rintro rfl i _
    simp

theorem run_equalIn_bytes (d t e n : Nat) (a b : List Int) (ht : P.underlying t = some (.array n e)) (he : P.underlying e = some (.int .u8)) (hs : (P.info? e).map (·.size) = some 1)
    (ha : a.length = n) (hb : b.length = n) : (Op.equalIn (d + 2) t (.agg (u8s a).toArray) (.agg (u8s b).toArray)).run P w = .ok (decide (a = b)) w := by
  rw [run_equalIn_array (d + 1) t e n 1 _ _ (fun i => a.getD i 0 == b.getD i 0) ht hs, all_eq a b n ha hb]
  intro i hi
  refine ⟨.int .u8 (a.getD i 0), .int .u8 (b.getD i 0), ?_, ?_, run_equalIn_int w d e .u8 .u8 _ _ he⟩
  · exact run_part_one e _ _ _ _ he rfl (by simp [u8s, List.getD_eq_getElem?_getD, show i < a.length by omega])
  · exact run_part_one e _ _ _ _ he rfl (by simp [u8s, List.getD_eq_getElem?_getD, show i < b.length by omega])

theorem run_eql_bytes (t e n : Nat) (a b : List Int) (ht : P.underlying t = some (.array n e)) (he : P.underlying e = some (.int .u8)) (hs : (P.info? e).map (·.size) = some 1)
    (ha : a.length = n) (hb : b.length = n) : (binOp .eql t (.agg (u8s a).toArray) (.agg (u8s b).toArray)).run P w = .ok (.bool (decide (a = b))) w := by
  rw [run_eql_struct, run_equalIn_bytes 9998 t e n a b ht he hs ha hb]
  rfl
end
end Go.Proofs.YtniknhhejlgdfaaGreatDoor
/- Words of 32 bits turned. -/
namespace Go.Proofs.YtniknhhejlgdfaaGreatDoor
open Go.RowKit

/-- Turned right: the divisor is 2^n, the factor 2^(32-n). -/
def rr (d m x : Int) : Int := bits .or .u32 (x / d) (x * m % 4294967296)
theorem or_comm_u32 (x y : Int) : bits .or .u32 x y = bits .or .u32 y x := by
  unfold bits
  dsimp only
  rw [BitVec.or_comm]
theorem and_2 : bits .and .u64 (IntKind.u64.wrap (-2)) 31 = 30 := by kernel_rfl
set_option maxHeartbeats 400000 in
theorem rotl_2 (x : Int) (_h0 : 0 ≤ x) (_h1 : x ≤ 4294967295) (w : World) :
    Calls Tryz.prog 154 #[.int .u32 x, .int .i64 (-2)] w fun e w' => e = .returned (.int .u32 (rr 4 1073741824 x)) ∧ w = w' := by
  have h := and_2
  go_enter Tryz.func154, Tryz.ntmps154
  go_wp2
  go_ret
  exact ⟨by rw [rr, or_comm_u32]; rfl, rfl⟩
set_option maxHeartbeats 400000 in
theorem right_2 (x : Int) (_h0 : 0 ≤ x) (_h1 : x ≤ 4294967295) (w : World) :
    Calls Tryz.prog 114 #[.int .u32 x, .int .u64 2] w fun e w' => e = .returned (.int .u32 (rr 4 1073741824 x)) ∧ w = w' := by
  go_enter Tryz.func114, Tryz.ntmps114
  go_wp2
  go_ret
  exact ⟨rfl, rfl⟩

theorem and_6 : bits .and .u64 (IntKind.u64.wrap (-6)) 31 = 26 := by kernel_rfl
set_option maxHeartbeats 400000 in
theorem rotl_6 (x : Int) (_h0 : 0 ≤ x) (_h1 : x ≤ 4294967295) (w : World) :
    Calls Tryz.prog 154 #[.int .u32 x, .int .i64 (-6)] w fun e w' => e = .returned (.int .u32 (rr 64 67108864 x)) ∧ w = w' := by
  have h := and_6
  go_enter Tryz.func154, Tryz.ntmps154
  go_wp2
  go_ret
  exact ⟨by rw [rr, or_comm_u32]; rfl, rfl⟩
set_option maxHeartbeats 400000 in
theorem right_6 (x : Int) (_h0 : 0 ≤ x) (_h1 : x ≤ 4294967295) (w : World) :
    Calls Tryz.prog 114 #[.int .u32 x, .int .u64 6] w fun e w' => e = .returned (.int .u32 (rr 64 67108864 x)) ∧ w = w' := by
  go_enter Tryz.func114, Tryz.ntmps114
  go_wp2
  go_ret
  exact ⟨rfl, rfl⟩

theorem and_7 : bits .and .u64 (IntKind.u64.wrap (-7)) 31 = 25 := by kernel_rfl
set_option maxHeartbeats 400000 in
theorem rotl_7 (x : Int) (_h0 : 0 ≤ x) (_h1 : x ≤ 4294967295) (w : World) :
    Calls Tryz.prog 154 #[.int .u32 x, .int .i64 (-7)] w fun e w' => e = .returned (.int .u32 (rr 128 33554432 x)) ∧ w = w' := by
  have h := and_7
  go_enter Tryz.func154, Tryz.ntmps154
  go_wp2
  go_ret
  exact ⟨by rw [rr, or_comm_u32]; rfl, rfl⟩
set_option maxHeartbeats 400000 in
theorem right_7 (x : Int) (_h0 : 0 ≤ x) (_h1 : x ≤ 4294967295) (w : World) :
    Calls Tryz.prog 114 #[.int .u32 x, .int .u64 7] w fun e w' => e = .returned (.int .u32 (rr 128 33554432 x)) ∧ w = w' := by
  go_enter Tryz.func114, Tryz.ntmps114
  go_wp2
  go_ret
  exact ⟨rfl, rfl⟩

theorem and_11 : bits .and .u64 (IntKind.u64.wrap (-11)) 31 = 21 := by kernel_rfl
set_option maxHeartbeats 400000 in
theorem rotl_11 (x : Int) (_h0 : 0 ≤ x) (_h1 : x ≤ 4294967295) (w : World) :
    Calls Tryz.prog 154 #[.int .u32 x, .int .i64 (-11)] w fun e w' => e = .returned (.int .u32 (rr 2048 2097152 x)) ∧ w = w' := by
  have h := and_11
  go_enter Tryz.func154, Tryz.ntmps154
  go_wp2
  go_ret
  exact ⟨by rw [rr, or_comm_u32]; rfl, rfl⟩
set_option maxHeartbeats 400000 in
theorem right_11 (x : Int) (_h0 : 0 ≤ x) (_h1 : x ≤ 4294967295) (w : World) :
    Calls Tryz.prog 114 #[.int .u32 x, .int .u64 11] w fun e w' => e = .returned (.int .u32 (rr 2048 2097152 x)) ∧ w = w' := by
  go_enter Tryz.func114, Tryz.ntmps114
  go_wp2
  go_ret
  exact ⟨rfl, rfl⟩

theorem and_13 : bits .and .u64 (IntKind.u64.wrap (-13)) 31 = 19 := by kernel_rfl
set_option maxHeartbeats 400000 in
theorem rotl_13 (x : Int) (_h0 : 0 ≤ x) (_h1 : x ≤ 4294967295) (w : World) :
    Calls Tryz.prog 154 #[.int .u32 x, .int .i64 (-13)] w fun e w' => e = .returned (.int .u32 (rr 8192 524288 x)) ∧ w = w' := by
  have h := and_13
  go_enter Tryz.func154, Tryz.ntmps154
  go_wp2
  go_ret
  exact ⟨by rw [rr, or_comm_u32]; rfl, rfl⟩
set_option maxHeartbeats 400000 in
theorem right_13 (x : Int) (_h0 : 0 ≤ x) (_h1 : x ≤ 4294967295) (w : World) :
    Calls Tryz.prog 114 #[.int .u32 x, .int .u64 13] w fun e w' => e = .returned (.int .u32 (rr 8192 524288 x)) ∧ w = w' := by
  go_enter Tryz.func114, Tryz.ntmps114
  go_wp2
  go_ret
  exact ⟨rfl, rfl⟩

theorem and_17 : bits .and .u64 (IntKind.u64.wrap (-17)) 31 = 15 := by kernel_rfl
set_option maxHeartbeats 400000 in
theorem rotl_17 (x : Int) (_h0 : 0 ≤ x) (_h1 : x ≤ 4294967295) (w : World) :
    Calls Tryz.prog 154 #[.int .u32 x, .int .i64 (-17)] w fun e w' => e = .returned (.int .u32 (rr 131072 32768 x)) ∧ w = w' := by
  have h := and_17
  go_enter Tryz.func154, Tryz.ntmps154
  go_wp2
  go_ret
  exact ⟨by rw [rr, or_comm_u32]; rfl, rfl⟩
set_option maxHeartbeats 400000 in
theorem right_17 (x : Int) (_h0 : 0 ≤ x) (_h1 : x ≤ 4294967295) (w : World) :
    Calls Tryz.prog 114 #[.int .u32 x, .int .u64 17] w fun e w' => e = .returned (.int .u32 (rr 131072 32768 x)) ∧ w = w' := by
  go_enter Tryz.func114, Tryz.ntmps114
  go_wp2
  go_ret
  exact ⟨rfl, rfl⟩

theorem and_18 : bits .and .u64 (IntKind.u64.wrap (-18)) 31 = 14 := by kernel_rfl
set_option maxHeartbeats 400000 in
theorem rotl_18 (x : Int) (_h0 : 0 ≤ x) (_h1 : x ≤ 4294967295) (w : World) :
    Calls Tryz.prog 154 #[.int .u32 x, .int .i64 (-18)] w fun e w' => e = .returned (.int .u32 (rr 262144 16384 x)) ∧ w = w' := by
  have h := and_18
  go_enter Tryz.func154, Tryz.ntmps154
  go_wp2
  go_ret
  exact ⟨by rw [rr, or_comm_u32]; rfl, rfl⟩
set_option maxHeartbeats 400000 in
theorem right_18 (x : Int) (_h0 : 0 ≤ x) (_h1 : x ≤ 4294967295) (w : World) :
    Calls Tryz.prog 114 #[.int .u32 x, .int .u64 18] w fun e w' => e = .returned (.int .u32 (rr 262144 16384 x)) ∧ w = w' := by
  go_enter Tryz.func114, Tryz.ntmps114
  go_wp2
  go_ret
  exact ⟨rfl, rfl⟩

theorem and_19 : bits .and .u64 (IntKind.u64.wrap (-19)) 31 = 13 := by kernel_rfl
set_option maxHeartbeats 400000 in
theorem rotl_19 (x : Int) (_h0 : 0 ≤ x) (_h1 : x ≤ 4294967295) (w : World) :
    Calls Tryz.prog 154 #[.int .u32 x, .int .i64 (-19)] w fun e w' => e = .returned (.int .u32 (rr 524288 8192 x)) ∧ w = w' := by
  have h := and_19
  go_enter Tryz.func154, Tryz.ntmps154
  go_wp2
  go_ret
  exact ⟨by rw [rr, or_comm_u32]; rfl, rfl⟩
set_option maxHeartbeats 400000 in
theorem right_19 (x : Int) (_h0 : 0 ≤ x) (_h1 : x ≤ 4294967295) (w : World) :
    Calls Tryz.prog 114 #[.int .u32 x, .int .u64 19] w fun e w' => e = .returned (.int .u32 (rr 524288 8192 x)) ∧ w = w' := by
  go_enter Tryz.func114, Tryz.ntmps114
  go_wp2
  go_ret
  exact ⟨rfl, rfl⟩

theorem and_22 : bits .and .u64 (IntKind.u64.wrap (-22)) 31 = 10 := by kernel_rfl
set_option maxHeartbeats 400000 in
theorem rotl_22 (x : Int) (_h0 : 0 ≤ x) (_h1 : x ≤ 4294967295) (w : World) :
    Calls Tryz.prog 154 #[.int .u32 x, .int .i64 (-22)] w fun e w' => e = .returned (.int .u32 (rr 4194304 1024 x)) ∧ w = w' := by
  have h := and_22
  go_enter Tryz.func154, Tryz.ntmps154
  go_wp2
  go_ret
  exact ⟨by rw [rr, or_comm_u32]; rfl, rfl⟩
set_option maxHeartbeats 400000 in
theorem right_22 (x : Int) (_h0 : 0 ≤ x) (_h1 : x ≤ 4294967295) (w : World) :
    Calls Tryz.prog 114 #[.int .u32 x, .int .u64 22] w fun e w' => e = .returned (.int .u32 (rr 4194304 1024 x)) ∧ w = w' := by
  go_enter Tryz.func114, Tryz.ntmps114
  go_wp2
  go_ret
  exact ⟨rfl, rfl⟩

theorem and_25 : bits .and .u64 (IntKind.u64.wrap (-25)) 31 = 7 := by kernel_rfl
set_option maxHeartbeats 400000 in
theorem rotl_25 (x : Int) (_h0 : 0 ≤ x) (_h1 : x ≤ 4294967295) (w : World) :
    Calls Tryz.prog 154 #[.int .u32 x, .int .i64 (-25)] w fun e w' => e = .returned (.int .u32 (rr 33554432 128 x)) ∧ w = w' := by
  have h := and_25
  go_enter Tryz.func154, Tryz.ntmps154
  go_wp2
  go_ret
  exact ⟨by rw [rr, or_comm_u32]; rfl, rfl⟩
set_option maxHeartbeats 400000 in
theorem right_25 (x : Int) (_h0 : 0 ≤ x) (_h1 : x ≤ 4294967295) (w : World) :
    Calls Tryz.prog 114 #[.int .u32 x, .int .u64 25] w fun e w' => e = .returned (.int .u32 (rr 33554432 128 x)) ∧ w = w' := by
  go_enter Tryz.func114, Tryz.ntmps114
  go_wp2
  go_ret
  exact ⟨rfl, rfl⟩
end Go.Proofs.YtniknhhejlgdfaaGreatDoor
/- SHA-256 on lists of numbers, in the model's own operations. -/
namespace Go.Proofs.YtniknhhejlgdfaaGreatDoor

def u32s (xs : List Int) : List Value := xs.map (Value.int .u32)
theorem u32s_len (xs : List Int) : (u32s xs).length = xs.length := by simp [u32s]

abbrev U (n : Int) : Prop := 0 ≤ n ∧ n ≤ 4294967295
abbrev B8 (n : Int) : Prop := 0 ≤ n ∧ n ≤ 255

def word (a b c d : Int) : Int := a * 16777216 + b * 65536 + c * 256 + d
def wordAt (bs : List Int) (i : Nat) : Int := word (bs.getD (4 * i) 0) (bs.getD (4 * i + 1) 0) (bs.getD (4 * i + 2) 0) (bs.getD (4 * i + 3) 0)
def words (bs : List Int) (n : Nat) : List Int := (List.range n).map (wordAt bs)

def sg0 (x : Int) : Int := bits .xor .u32 (bits .xor .u32 (rr 128 33554432 x) (rr 262144 16384 x)) (x / 8)
def sg1 (x : Int) : Int := bits .xor .u32 (bits .xor .u32 (rr 131072 32768 x) (rr 524288 8192 x)) (x / 1024)
def nextW (ws : List Int) (i : Nat) : Int :=
  (ws.getD (i - 16) 0 + sg0 (ws.getD (i - 15) 0) + ws.getD (i - 7) 0 + sg1 (ws.getD (i - 2) 0)) % 4294967296
/-- The words of a block, as far as there are 16 + k. -/
def sched (bs : List Int) : Nat → List Int
  | 0 => words bs 16
  | k + 1 => sched bs k ++ [nextW (sched bs k) (16 + k)]

theorem words_len (bs : List Int) (n : Nat) : (words bs n).length = n := by simp [words]
theorem words_succ (bs : List Int) (n : Nat) : words bs (n + 1) = words bs n ++ [wordAt bs n] := by simp [words, List.range_succ]
theorem sched_len (bs : List Int) (k : Nat) : (sched bs k).length = 16 + k := by
  induction k with
  | zero => exact words_len bs 16
  | succ k ih => simp only [sched, List.length_append, ih, List.length_cons, List.length_nil]; omega
theorem byte_at {bs : List Int} (hb : ∀ b ∈ bs, B8 b) (i : Nat) : B8 (bs.getD i 0) := by
  rw [List.getD_eq_getElem?_getD]
  cases h : bs[i]? with
  | none => simp [B8]
  | some v => exact hb v (List.mem_of_getElem? h)
theorem word_range {a b c d : Int} (ha : B8 a) (hb : B8 b) (hc : B8 c) (hd : B8 d) : U (word a b c d) := by
  unfold B8 at *; unfold U word; omega
theorem words_range {bs : List Int} (hb : ∀ b ∈ bs, B8 b) (n : Nat) : ∀ x ∈ words bs n, U x := by
  intro x hx
  obtain ⟨i, _, rfl⟩ := List.mem_map.1 hx
  exact word_range (byte_at hb _) (byte_at hb _) (byte_at hb _) (byte_at hb _)
theorem mod_range (x : Int) : U (x % 4294967296) := by unfold U; omega
theorem sched_range {bs : List Int} (hb : ∀ b ∈ bs, B8 b) (k : Nat) : ∀ x ∈ sched bs k, U x := by
  induction k with
  | zero => exact words_range hb 16
  | succ k ih =>
    intro x hx
    rcases List.mem_append.1 hx with h | h
    · exact ih x h
    · simp only [List.mem_cons, List.not_mem_nil, or_false] at h
      subst h
      exact mod_range _
theorem getD_range {xs : List Int} (h : ∀ x ∈ xs, U x) (i : Nat) : U (xs.getD i 0) := by
  rw [List.getD_eq_getElem?_getD]
  cases hx : xs[i]? with
  | none => simp [U]
  | some v => exact h v (List.mem_of_getElem? hx)

theorem or_word (a b c d : Int) (ha : B8 a) (hb : B8 b) (hc : B8 c) (hd : B8 d) :
    bits .or .u32 (bits .or .u32 (bits .or .u32 (IntKind.u32.wrap (IntKind.u32.wrap a * 16777216)) (IntKind.u32.wrap (IntKind.u32.wrap b * 65536))) (IntKind.u32.wrap (IntKind.u32.wrap c * 256))) (IntKind.u32.wrap d) = word a b c d := by
  have hk : ∀ n : Int, 0 ≤ n → n < 2 ^ 32 → IntKind.u32.wrap n = n := fun n h0 h1 => by rw [IntKind.wrap_u32]; omega
  unfold B8 at *
  rw [hk a (by omega) (by omega), hk b (by omega) (by omega), hk c (by omega) (by omega), hk d (by omega) (by omega)]
  rw [hk (a * 16777216) (by omega) (by omega), hk (b * 65536) (by omega) (by omega), hk (c * 256) (by omega) (by omega)]
  rw [bits_join .u32 32 (by decide) hk 24 (a * 16777216) (b * 65536) (by omega) (by omega) (by omega) (by omega) (by omega) (by omega)]
  rw [bits_join .u32 32 (by decide) hk 16 (a * 16777216 + b * 65536) (c * 256) (by omega) (by omega) (by omega) (by omega) (by omega) (by omega)]
  rw [bits_join .u32 32 (by decide) hk 8 (a * 16777216 + b * 65536 + c * 256) d (by omega) (by omega) (by omega) (by omega) (by omega) (by omega)]
  rfl

/-- A row as far as it is filled; noughts behind. -/
def pad (n : Nat) (xs : List Int) : List Int := xs ++ List.replicate (n - xs.length) 0
theorem pad_len (n : Nat) (xs : List Int) (h : xs.length ≤ n) : (pad n xs).length = n := by simp [pad]; omega
theorem pad_set (n : Nat) (xs : List Int) (v : Int) (h : xs.length < n) : (pad n xs).set xs.length v = pad n (xs ++ [v]) := by
  unfold pad
  rw [List.set_append_right _ _ (Nat.le_refl _), Nat.sub_self, List.length_append, List.length_singleton]
  obtain ⟨k, hk⟩ : ∃ k, n - xs.length = k + 1 := ⟨n - xs.length - 1, by omega⟩
  rw [hk, show n - (xs.length + 1) = k by omega, List.replicate_succ, List.set_cons_zero, List.append_assoc]
  rfl
theorem pad_full (n : Nat) (xs : List Int) (h : xs.length = n) : pad n xs = xs := by simp [pad, h]
theorem pad_getD (n : Nat) (xs : List Int) (i : Nat) (h : i < xs.length) : (pad n xs).getD i 0 = xs.getD i 0 := by
  simp [pad, List.getD_eq_getElem?_getD, List.getElem?_append_left h]

/-- The rounds' constants. -/
def kk : List Int := [1116352408, 1899447441, 3049323471, 3921009573, 961987163, 1508970993, 2453635748, 2870763221, 3624381080, 310598401, 607225278, 1426881987, 1925078388, 2162078206, 2614888103, 3248222580, 3835390401, 4022224774, 264347078, 604807628, 770255983, 1249150122, 1555081692, 1996064986, 2554220882, 2821834349, 2952996808, 3210313671, 3336571891, 3584528711, 113926993, 338241895, 666307205, 773529912, 1294757372, 1396182291, 1695183700, 1986661051, 2177026350, 2456956037, 2730485921, 2820302411, 3259730800, 3345764771, 3516065817, 3600352804, 4094571909, 275423344, 430227734, 506948616, 659060556, 883997877, 958139571, 1322822218, 1537002063, 1747873779, 1955562222, 2024104815, 2227730452, 2361852424, 2428436474, 2756734187, 3204031479, 3329325298]
theorem kk_len : kk.length = 64 := rfl
theorem kk_range : ∀ x ∈ kk, U x := by unfold U; decide

structure St where
  a : Int
  b : Int
  c : Int
  d : Int
  e : Int
  f : Int
  g : Int
  h : Int

def St.list (s : St) : List Int := [s.a, s.b, s.c, s.d, s.e, s.f, s.g, s.h]
def St.ok (s : St) : Prop := U s.a ∧ U s.b ∧ U s.c ∧ U s.d ∧ U s.e ∧ U s.f ∧ U s.g ∧ U s.h

def big1 (e : Int) : Int := bits .xor .u32 (bits .xor .u32 (rr 64 67108864 e) (rr 2048 2097152 e)) (rr 33554432 128 e)
def big0 (a : Int) : Int := bits .xor .u32 (bits .xor .u32 (rr 4 1073741824 a) (rr 8192 524288 a)) (rr 4194304 1024 a)
def chs (e f g : Int) : Int := bits .xor .u32 (bits .and .u32 e f) (bits .and .u32 (bits .xor .u32 (if IntKind.u32.signed = true then -1 else IntKind.u32.max) e) g)
def maj (a b c : Int) : Int := bits .xor .u32 (bits .xor .u32 (bits .and .u32 a b) (bits .and .u32 a c)) (bits .and .u32 b c)
def St.t1 (s : St) (k w : Int) : Int := (s.h + big1 s.e + chs s.e s.f s.g + k + w) % 4294967296
def St.t2 (s : St) : Int := (big0 s.a + maj s.a s.b s.c) % 4294967296
def St.rnd (s : St) (k w : Int) : St := ⟨(s.t1 k w + s.t2) % 4294967296, s.a, s.b, s.c, (s.d + s.t1 k w) % 4294967296, s.e, s.f, s.g⟩
def St.rnds (s : St) (ws : List Int) : Nat → St
  | 0 => s
  | k + 1 => (s.rnds ws k).rnd (kk.getD k 0) (ws.getD k 0)
theorem St.rnd_ok {s : St} (h : s.ok) (k w : Int) : (s.rnd k w).ok := by
  obtain ⟨h1, h2, h3, h4, h5, h6, h7, h8⟩ := h
  exact ⟨mod_range _, h1, h2, h3, mod_range _, h5, h6, h7⟩
theorem St.rnds_ok {s : St} (h : s.ok) (ws : List Int) : ∀ k, (s.rnds ws k).ok
  | 0 => h
  | k + 1 => St.rnd_ok (St.rnds_ok h ws k) _ _
/-- The state behind a block. -/
def St.add (s r : St) : St := ⟨(s.a + r.a) % 4294967296, (s.b + r.b) % 4294967296, (s.c + r.c) % 4294967296, (s.d + r.d) % 4294967296, (s.e + r.e) % 4294967296, (s.f + r.f) % 4294967296, (s.g + r.g) % 4294967296, (s.h + r.h) % 4294967296⟩
theorem St.add_ok (s r : St) : (s.add r).ok := ⟨mod_range _, mod_range _, mod_range _, mod_range _, mod_range _, mod_range _, mod_range _, mod_range _⟩
/-- A block's words. -/
def sch (bs : List Int) : List Int := sched bs 48
def St.comp (s : St) (bs : List Int) : St := s.add (s.rnds (sch bs) 64)

theorem St.list_ok {s : St} (h : s.ok) : ∀ x ∈ s.list, U x := by
  obtain ⟨h1, h2, h3, h4, h5, h6, h7, h8⟩ := h
  intro x hx
  simp only [St.list, List.mem_cons, List.not_mem_nil, or_false] at hx
  rcases hx with rfl | rfl | rfl | rfl | rfl | rfl | rfl | rfl <;> assumption
theorem St.add_at (s r : St) (j : Nat) (h : j < 8) : (s.add r).list.getD j 0 = (s.list.getD j 0 + r.list.getD j 0) % 4294967296 := by
  have : j = 0 ∨ j = 1 ∨ j = 2 ∨ j = 3 ∨ j = 4 ∨ j = 5 ∨ j = 6 ∨ j = 7 := by omega
  rcases this with rfl | rfl | rfl | rfl | rfl | rfl | rfl | rfl <;> rfl
/-- The first j have been written over. -/
def over (xs ys : List Int) (j : Nat) : List Int := ys.take j ++ xs.drop j
theorem over_len (xs ys : List Int) (j n : Nat) (hx : xs.length = n) (hy : ys.length = n) (hj : j ≤ n) : (over xs ys j).length = n := by simp [over]; omega
theorem over_zero (xs ys : List Int) : over xs ys 0 = xs := by simp [over]
theorem over_all (xs ys : List Int) (n : Nat) (hx : xs.length = n) (hy : ys.length = n) : over xs ys n = ys := by
  simp [over, List.take_of_length_le (show ys.length ≤ n by omega), List.drop_of_length_le (show xs.length ≤ n by omega)]
theorem over_at (xs ys : List Int) (j n : Nat) (_hx : xs.length = n) (hy : ys.length = n) (hj : j < n) : (over xs ys j).getD j 0 = xs.getD j 0 := by
  simp only [over, List.getD_eq_getElem?_getD]
  rw [List.getElem?_append_right (by simp; omega)]
  simp [List.length_take, show min j ys.length = j by omega]
theorem over_set (xs ys : List Int) (j n : Nat) (hx : xs.length = n) (hy : ys.length = n) (hj : j < n) : (over xs ys j).set j (ys.getD j 0) = over xs ys (j + 1) := by
  have ht : (ys.take j).length = j := by simp; omega
  unfold over
  rw [List.set_append_right _ _ (by omega), ht, Nat.sub_self, List.drop_eq_getElem_cons (by omega : j < xs.length), List.set_cons_zero, List.take_succ_eq_append_getElem (by omega : j < ys.length), List.append_assoc]
  simp [List.getD_eq_getElem?_getD, show j < ys.length by omega]

def St.init : St := ⟨1779033703, 3144134277, 1013904242, 2773480762, 1359893119, 2600822924, 528734635, 1541459225⟩
theorem St.init_ok : St.init.ok := by unfold St.ok U St.init; decide
/-- Behind so many blocks. -/
def stN (m : List Int) : Nat → St
  | 0 => St.init
  | k + 1 => (stN m k).comp ((m.drop (64 * k)).take 64)
theorem stN_ok (m : List Int) (k : Nat) : (stN m k).ok := by
  cases k with
  | zero => exact St.init_ok
  | succ k => exact St.add_ok _ _
theorem stN_append (m l : List Int) : ∀ k, 64 * k ≤ m.length → stN (m ++ l) k = stN m k
  | 0, _ => rfl
  | k + 1, h => by
    rw [stN, stN, stN_append m l k (by omega)]
    congr 1
    rw [List.drop_append_of_le_length (by omega), List.take_append_of_le_length (by simp; omega)]

def u8s_ok (m : List Int) : Prop := ∀ b ∈ m, B8 b
theorem u8s_ok.drop {m : List Int} (h : u8s_ok m) (k : Nat) : u8s_ok (m.drop k) := fun b hb => h b (List.mem_of_mem_drop hb)
theorem u8s_ok.take {m : List Int} (h : u8s_ok m) (k : Nat) : u8s_ok (m.take k) := fun b hb => h b (List.mem_of_mem_take hb)
theorem u8s_ok.append {m l : List Int} (h : u8s_ok m) (k : u8s_ok l) : u8s_ok (m ++ l) := fun b hb => by
  rcases List.mem_append.1 hb with hb | hb
  · exact h b hb
  · exact k b hb

/-! The padding, and the sum. -/
def zc (n : Nat) : Nat := (119 - n % 64) % 64
def be8 (n : Nat) : List Int := [((n : Int) * 8) / 72057594037927936 % 256, ((n : Int) * 8) / 281474976710656 % 256, ((n : Int) * 8) / 1099511627776 % 256, ((n : Int) * 8) / 4294967296 % 256,
  ((n : Int) * 8) / 16777216 % 256, ((n : Int) * 8) / 65536 % 256, ((n : Int) * 8) / 256 % 256, ((n : Int) * 8) % 256]
def padOf (n : Nat) : List Int := [128] ++ List.replicate (zc n) 0 ++ be8 n
def shaP (m : List Int) : List Int := m ++ padOf m.length
theorem be8_len (n : Nat) : (be8 n).length = 8 := rfl
theorem padOf_len (n : Nat) : (padOf n).length = zc n + 9 := by simp [padOf, be8_len]
theorem shaP_len (m : List Int) : (shaP m).length = m.length + zc m.length + 9 := by simp only [shaP, List.length_append, padOf_len]; omega
theorem shaP_mod (m : List Int) : (shaP m).length % 64 = 0 := by rw [shaP_len]; unfold zc; omega
theorem be8_ok (n : Nat) : u8s_ok (be8 n) := by
  intro b hb
  simp only [be8, List.mem_cons, List.not_mem_nil, or_false] at hb
  unfold B8
  omega
theorem padOf_ok (n : Nat) : u8s_ok (padOf n) := by
  refine u8s_ok.append (u8s_ok.append ?_ ?_) (be8_ok n)
  · intro b hb; simp at hb; subst hb; decide
  · intro b hb; obtain ⟨_, rfl⟩ := List.mem_replicate.1 hb; decide
theorem shaP_ok {m : List Int} (h : u8s_ok m) : u8s_ok (shaP m) := h.append (padOf_ok _)
theorem zc_at (n z : Nat) (h : z ≤ zc n) : ((n + 1 + z) % 64 = 56) ↔ z = zc n := by unfold zc at *; omega

def outAt (s : St) (i : Nat) : Int := (s.list.getD (i / 4) 0) / (if i % 4 = 0 then 16777216 else if i % 4 = 1 then 65536 else if i % 4 = 2 then 256 else 1) % 256
def outB (s : St) (n : Nat) : List Int := (List.range n).map (outAt s)
theorem outB_len (s : St) (n : Nat) : (outB s n).length = n := by simp [outB]
theorem outB_succ (s : St) (n : Nat) : outB s (n + 1) = outB s n ++ [outAt s n] := by simp [outB, List.range_succ]
theorem outB_ok (s : St) (n : Nat) : u8s_ok (outB s n) := by
  intro b hb
  obtain ⟨i, _, rfl⟩ := List.mem_map.1 hb
  unfold B8 outAt
  omega
def sha (m : List Int) : List Int := outB (stN (shaP m) ((shaP m).length / 64)) 32
theorem sha_len (m : List Int) : (sha m).length = 32 := outB_len _ _
theorem sha_ok (m : List Int) : u8s_ok (sha m) := outB_ok _ _
end Go.Proofs.YtniknhhejlgdfaaGreatDoor
/- What hash.schedule does. -/
namespace Go.Proofs.YtniknhhejlgdfaaGreatDoor
open Go.RowKit

theorem Tryz.size210 : (Tryz.prog.info? 210).map (·.size) = some 64 := by kernel_rfl

set_option maxHeartbeats 4000000 in
set_option maxRecDepth 100000 in
theorem sched_any (bs : List Int) (hb : ∀ b ∈ bs, B8 b) (b off n c : Nat) (hn : 64 ≤ n) (hn2 : n ≤ 9223372036854775807) (w : World) (hc : ∀ j, j < 64 → w.cell? ⟨b, off + j, none⟩ = some (.int .u8 (bs.getD j 0))) :
    Calls Tryz.prog 153 #[.slice (some ⟨b, off, none⟩) n c] w fun e w' => ∃ ws, Hid (ws = sch bs) ∧ ws.length = 64 ∧ (∀ x ∈ ws, U x) ∧ e = .returned (.agg (u32s ws).toArray) ∧ Below w.heap.size w w' := by
  have HC := Lib.hid hc
  have hbb : b < w.heap.size := World.block_lt_of_cell? w _ (hc 0 (by omega))
  clear hc
  go_enter Tryz.func153, Tryz.ntmps153
  go_wp2
  go_loopw [4, 10] (fun _ i wr => ∃ k : Nat, k ≤ 16 ∧ i = .int .i64 k ∧ wr.heap[w.heap.size + 1]? = some (.cells (u32s (pad 64 (words bs k))).toArray 210 (0, 0)) ∧ Below w.heap.size w wr ∧ Has wr w.heap.size 210 64)
    (fun _ i _ => 16 - (intOf i).toNat)
  case atStart => exact ⟨0, by omega, rfl, heap_alloc2_new w _ _, ((Below.refl _ _).alloc (Nat.le_refl _) _).alloc (by simp) _, ⟨_, rfl, heap_alloc2_old w _ _⟩⟩
  case round =>
    obtain ⟨k, hk, rfl, hblk, hbl, hhas⟩ := hrel
    by_cases hlt : k < 16
    · obtain ⟨x0, hx0⟩ : ∃ x, x = bs.getD (4 * k) 0 := ⟨_, rfl⟩
      obtain ⟨x1, hx1⟩ : ∃ x, x = bs.getD (4 * k + 1) 0 := ⟨_, rfl⟩
      obtain ⟨x2, hx2⟩ : ∃ x, x = bs.getD (4 * k + 2) 0 := ⟨_, rfl⟩
      obtain ⟨x3, hx3⟩ : ∃ x, x = bs.getD (4 * k + 3) 0 := ⟨_, rfl⟩
      have r0 : B8 x0 := hx0 ▸ byte_at hb _
      have r1 : B8 x1 := hx1 ▸ byte_at hb _
      have r2 : B8 x2 := hx2 ▸ byte_at hb _
      have r3 : B8 x3 := hx3 ▸ byte_at hb _
      have c0 : wr.cell? ⟨b, off + 4 * k, none⟩ = some (.int .u8 x0) := by rw [hbl.cell (p := ⟨b, off + 4 * k, none⟩) hbb, HC.out (4 * k) (by omega), hx0]
      have c1 : wr.cell? ⟨b, off + (4 * k + 1), none⟩ = some (.int .u8 x1) := by rw [hbl.cell (p := ⟨b, off + (4 * k + 1), none⟩) hbb, HC.out (4 * k + 1) (by omega), hx1]
      have c2 : wr.cell? ⟨b, off + (4 * k + 2), none⟩ = some (.int .u8 x2) := by rw [hbl.cell (p := ⟨b, off + (4 * k + 2), none⟩) hbb, HC.out (4 * k + 2) (by omega), hx2]
      have c3 : wr.cell? ⟨b, off + (4 * k + 3), none⟩ = some (.int .u8 x3) := by rw [hbl.cell (p := ⟨b, off + (4 * k + 3), none⟩) hbb, HC.out (4 * k + 3) (by omega), hx3]
      unfold B8 at r0 r1 r2 r3
      have H0 := Lib.hid hx0
      have H1 := Lib.hid hx1
      have H2 := Lib.hid hx2
      have H3 := Lib.hid hx3
      have HK := Lib.hid hblk
      clear hx0 hx1 hx2 hx3 hblk
      have w0 : IntKind.i64.wrap (4 * (k : Int)) = 4 * k := IntWalk.i64_in _ (by omega)
      have w1 : IntKind.i64.wrap (4 * (k : Int) + 1) = 4 * k + 1 := IntWalk.i64_in _ (by omega)
      have w2 : IntKind.i64.wrap (4 * (k : Int) + 2) = 4 * k + 2 := IntWalk.i64_in _ (by omega)
      have w3 : IntKind.i64.wrap (4 * (k : Int) + 3) = 4 * k + 3 := IntWalk.i64_in _ (by omega)
      have t0 : (4 * (k : Int)).toNat = 4 * k := by omega
      have t1 : (4 * (k : Int) + 1).toNat = 4 * k + 1 := by omega
      have t2 : (4 * (k : Int) + 2).toNat = 4 * k + 2 := by omega
      have t3 : (4 * (k : Int) + 3).toNat = 4 * k + 3 := by omega
      have n0 : 0 ≤ 4 * (k : Int) := by omega
      have n1 : 0 ≤ 4 * (k : Int) + 1 := by omega
      have n2 : 0 ≤ 4 * (k : Int) + 2 := by omega
      have n3 : 0 ≤ 4 * (k : Int) + 3 := by omega
      have l0 : 4 * (k : Int) < n := by omega
      have l1 : 4 * (k : Int) + 1 < n := by omega
      have l2 : 4 * (k : Int) + 2 < n := by omega
      have l3 : 4 * (k : Int) + 3 < n := by omega
      go_wp2
      go_still_tail 34, (by kernel_rfl)
      rw [or_word x0 x1 x2 x3 ⟨r0.1, r0.2⟩ ⟨r1.1, r1.2⟩ ⟨r2.1, r2.2⟩ ⟨r3.1, r3.2⟩]
      change wpList _ _ _ _ _ wr.drew
      have hlen : (u32s (pad 64 (words bs k))).length = 64 := by rw [u32s_len, pad_len _ _ (by rw [words_len]; omega)]
      have d0 : wr.drew.cell? ⟨w.heap.size + 1, k, none⟩ = some (u32s (pad 64 (words bs k)))[k] := blk_cell (w := wr.drew) HK.out k _ (by simp)
      have d1 : wr.drew.frozen? ⟨w.heap.size + 1, k, none⟩ = false := blk_free (w := wr.drew) HK.out k
      clear w0 w1 w2 w3 t0 t1 t2 t3 n0 n1 n2 n3 l0 l1 l2 l3 c0 c1 c2 c3
      go_wp2
      go_roundw
      case rel =>
        have e : (u32s (pad 64 (words bs k))).set k (.int .u32 (word x0 x1 x2 x3)) = u32s (pad 64 (words bs (k + 1))) := by
          have h := pad_set 64 (words bs k) (wordAt bs k) (by rw [words_len]; omega)
          rw [words_len] at h
          rw [words_succ, ← h, wordAt, ← H0.out, ← H1.out, ← H2.out, ← H3.out, u32s, u32s, List.map_set]
        refine ⟨k + 1, by omega, by go_num, ?_, ?_, ?_⟩
        · have := blk_set (w := wr.drew) HK.out k (.int .u32 (word x0 x1 x2 x3))
          rw [e] at this
          exact this
        · exact hbl.drew.setCell (by simp) _
        · exact Has.setCell (w := wr.drew) hhas _ _
      case measure => simp [intOf]; omega
    · have hkk : k = 16 := by omega
      rw [hkk] at hblk
      clear hkk
      go_wp2
      clear hlt hk
      obtain ⟨wo, rfl⟩ : ∃ wo : World, wo = wr := ⟨_, rfl⟩
      go_loopw [5, 6, 7, 8, 9] (fun i _ _ _ _ wr => ∃ k : Nat, k ≤ 48 ∧ i = .int .i64 (16 + (k : Int)) ∧ wr.heap[w.heap.size + 1]? = some (.cells (u32s (pad 64 (sched bs k))).toArray 210 (0, 0)) ∧ Below w.heap.size w wr ∧ Has wr w.heap.size 210 64)
        (fun i _ _ _ _ _ => 64 - (intOf i).toNat)
      case atStart => exact ⟨0, by omega, rfl, hblk, hbl, hhas⟩
      case round =>
        obtain ⟨k, hk, rfl, hblk, hbl, hhas⟩ := hrel
        by_cases hlt : k < 48
        · have sl := sched_len bs k
          have sr := sched_range hb k
          obtain ⟨xa, hxa⟩ : ∃ x, x = (sched bs k).getD k 0 := ⟨_, rfl⟩
          obtain ⟨xb, hxb⟩ : ∃ x, x = (sched bs k).getD (k + 1) 0 := ⟨_, rfl⟩
          obtain ⟨xc, hxc⟩ : ∃ x, x = (sched bs k).getD (k + 9) 0 := ⟨_, rfl⟩
          obtain ⟨xd, hxd⟩ : ∃ x, x = (sched bs k).getD (k + 14) 0 := ⟨_, rfl⟩
          have ra : U xa := hxa ▸ getD_range sr _
          have rb : U xb := hxb ▸ getD_range sr _
          have rc : U xc := hxc ▸ getD_range sr _
          have rd : U xd := hxd ▸ getD_range sr _
          have at_ : ∀ j, j < 16 + k → wr.cell? ⟨w.heap.size + 1, j, none⟩ = some (.int .u32 ((sched bs k).getD j 0)) := fun j hj => by
            refine blk_cell hblk j _ ?_
            rw [← pad_getD 64 (sched bs k) j (by omega)]
            have hpl := pad_len 64 (sched bs k) (by omega)
            simp [u32s, List.getD_eq_getElem?_getD, show j < (pad 64 (sched bs k)).length by omega]
          have ca : wr.cell? ⟨w.heap.size + 1, k, none⟩ = some (.int .u32 xa) := by rw [at_ k (by omega), hxa]
          have cb : wr.cell? ⟨w.heap.size + 1, k + 1, none⟩ = some (.int .u32 xb) := by rw [at_ (k + 1) (by omega), hxb]
          have cc : wr.cell? ⟨w.heap.size + 1, k + 9, none⟩ = some (.int .u32 xc) := by rw [at_ (k + 9) (by omega), hxc]
          have cd : wr.cell? ⟨w.heap.size + 1, k + 14, none⟩ = some (.int .u32 xd) := by rw [at_ (k + 14) (by omega), hxd]
          have hpl : (u32s (pad 64 (sched bs k))).length = 64 := by rw [u32s_len, pad_len _ _ (by omega)]
          obtain ⟨z0, d0⟩ : ∃ z, wr.cell? ⟨w.heap.size + 1, 16 + k, none⟩ = some z := ⟨_, blk_cell hblk (16 + k) (u32s (pad 64 (sched bs k)))[16 + k] (by simp)⟩
          have d1 : wr.frozen? ⟨w.heap.size + 1, 16 + k, none⟩ = false := blk_free hblk (16 + k)
          have HA := Lib.hid hxa
          have HB := Lib.hid hxb
          have HC' := Lib.hid hxc
          have HD := Lib.hid hxd
          have HK := Lib.hid hblk
          have SL := Lib.hid sl
          clear hxa hxb hxc hxd hblk at_ sl sr hpl
          unfold U at ra rb rc rd
          have e1 : IntKind.i64.wrap (16 + (k : Int) - 15) = k + 1 := (IntWalk.i64_in _ (by omega)).trans (by omega)
          have e2 : IntKind.i64.wrap (16 + (k : Int) - 2) = k + 14 := (IntWalk.i64_in _ (by omega)).trans (by omega)
          have e3 : IntKind.i64.wrap (16 + (k : Int) - 16) = k := (IntWalk.i64_in _ (by omega)).trans (by omega)
          have e4 : IntKind.i64.wrap (16 + (k : Int) - 7) = k + 9 := (IntWalk.i64_in _ (by omega)).trans (by omega)
          have n1 : 0 ≤ (k : Int) + 1 := by omega
          have n2 : 0 ≤ (k : Int) + 14 := by omega
          have n3 : 0 ≤ (k : Int) := by omega
          have n4 : 0 ≤ (k : Int) + 9 := by omega
          have t1 : ((k : Int) + 1).toNat = k + 1 := by omega
          have t2 : ((k : Int) + 14).toNat = k + 14 := by omega
          have t4 : ((k : Int) + 9).toNat = k + 9 := by omega
          have t5 : (16 + (k : Int)).toNat = 16 + k := by omega
          have l1 : (k : Int) + 1 < 64 := by omega
          have l2 : (k : Int) + 14 < 64 := by omega
          have l3 : (k : Int) < 64 := by omega
          have l4 : (k : Int) + 9 < 64 := by omega
          go_wp2_with fail
          go_quiet (fail)
          generalize hwq : wr.drewN _ = wq
          have qa : wq.cell? ⟨w.heap.size + 1, k, none⟩ = some (.int .u32 xa) := by rw [← hwq]; exact ca
          have qc : wq.cell? ⟨w.heap.size + 1, k + 9, none⟩ = some (.int .u32 xc) := by rw [← hwq]; exact cc
          have q0 : wq.cell? ⟨w.heap.size + 1, 16 + k, none⟩ = some z0 := by rw [← hwq]; exact d0
          have q1 : wq.frozen? ⟨w.heap.size + 1, 16 + k, none⟩ = false := by rw [← hwq]; exact d1
          have QK : Hid (wq.heap[w.heap.size + 1]? = some (.cells (u32s (pad 64 (sched bs k))).toArray 210 (0, 0))) := by rw [← hwq]; exact HK.out
          have qb : Below w.heap.size w wq := by rw [← hwq]; exact hbl.trans ⟨rfl, rfl, rfl, Nat.le_refl _, fun _ _ => rfl⟩
          have qh : Has wq w.heap.size 210 64 := by rw [← hwq]; exact hhas
          clear hwq ca cb cc cd d0 d1 HK hbl
          go_wp2_with (go_at_call 154; first | ((with_reducible refine (rotl_7 _ (by omega) (by omega) _).mono ?_); rintro e w' ⟨rfl, rfl⟩) | ((with_reducible refine (rotl_18 _ (by omega) (by omega) _).mono ?_); rintro e w' ⟨rfl, rfl⟩) | ((with_reducible refine (rotl_17 _ (by omega) (by omega) _).mono ?_); rintro e w' ⟨rfl, rfl⟩) | ((with_reducible refine (rotl_19 _ (by omega) (by omega) _).mono ?_); rintro e w' ⟨rfl, rfl⟩))
          go_still_tail 14, (by kernel_rfl)
          change wpList _ _ _ _ _ wq.drew
          have p0 : wq.drew.cell? ⟨w.heap.size + 1, 16 + k, none⟩ = some z0 := q0
          have p1 : wq.drew.frozen? ⟨w.heap.size + 1, 16 + k, none⟩ = false := q1
          go_wp2
          go_roundw
          case rel =>
            have e : (u32s (pad 64 (sched bs k))).set (16 + k) (.int .u32 (nextW (sched bs k) (16 + k))) = u32s (pad 64 (sched bs (k + 1))) := by
              have h := pad_set 64 (sched bs k) (nextW (sched bs k) (16 + k)) (by rw [SL.out]; omega)
              rw [SL.out] at h
              rw [sched, ← h, u32s, u32s, List.map_set]
            refine ⟨k + 1, by omega, by go_num, ?_, ?_, ?_⟩
            · have := blk_set (w := wq.drew) QK.out (16 + k) (.int .u32 (nextW (sched bs k) (16 + k)))
              rw [e] at this
              have hn : nextW (sched bs k) (16 + k) = (xa + sg0 xb + xc + sg1 xd) % 4294967296 := by
                rw [nextW, show 16 + k - 16 = k by omega, show 16 + k - 15 = k + 1 by omega, show 16 + k - 7 = k + 9 by omega, show 16 + k - 2 = k + 14 by omega, HA.out, HB.out, HC'.out, HD.out]
              rw [hn] at this
              exact this
            · exact qb.drew.setCell (by simp) _
            · exact Has.setCell (w := wq.drew) qh _ _
          case measure => simp [intOf]; omega
        · have hk48 : k = 48 := by omega
          have hsl : (sched bs k).length = 64 := by rw [sched_len]; omega
          have hra : wr.rangeAt (w.heap.size + 1) 0 (u32s (sched bs k)) := fun j v hv => by
            rw [pad_full 64 _ hsl] at hblk
            rw [Nat.zero_add]
            exact blk_cell hblk j v hv
          have hi : (Tryz.prog.info? 210).map (·.size) = some (u32s (sched bs k)).length := by
            rw [u32s_len, hsl]; exact Tryz.size210
          have HR := Lib.hid hra
          have HI := Lib.hid hi
          have H48 := Lib.hid hk48
          clear hra hi hk48 hblk hsl
          have h64 : (u32s (sched bs k)).length = 64 := by rw [u32s_len, sched_len, H48.out]
          have hone : ∀ v ∈ u32s (sched bs k), v.oneCell' = true := by
            intro v hv
            obtain ⟨x, _, rfl⟩ := List.mem_map.1 hv
            rfl
          have H64 := Lib.hid h64
          have HO := Lib.hid hone
          clear h64 hone
          go_wp2_with (first | (refine wpList_load_g rfl 210 (.tmp 3) rfl (w.heap.size + 1) 0 rfl (u32s (sched bs k)) _ HR.out Tryz.underlying210 rfl HI.out ?_) | (refine wpList_store_row rfl 210 (.tmp 2) (.tmp 92) rfl w.heap.size rfl (u32s (sched bs k)) rfl 210 (by rw [H64.out]; exact hhas) HI.out HO.out ?_; intro w1 hp))
          refine bodyPost_ret (v := .agg (u32s (sched bs k)).toArray) (results_cell_row rfl _ _ w.heap.size 210 _ (0, 0) _ rfl hp.blk Tryz.underlying210 rfl (by simpa using HI.out)) rfl ⟨_, (by rw [H48.out]; rfl : sched bs k = sch bs), by rw [sched_len, H48.out], sched_range hb k, rfl, hp.below hbl (Nat.le_refl _)⟩
end Go.Proofs.YtniknhhejlgdfaaGreatDoor
/- What the method take of hash's state does. -/
namespace Go.Proofs.YtniknhhejlgdfaaGreatDoor
open Go.RowKit

theorem Tryz.size209 : (Tryz.prog.info? 209).map (·.size) = some 1 := by kernel_rfl
theorem Tryz.size211 : (Tryz.prog.info? 211).map (·.size) = some 8 := by kernel_rfl

set_option maxHeartbeats 4000000 in
set_option maxRecDepth 100000 in
theorem take_any (s : St) (hs : s.ok) (rest : List Value) (T hb : Nat) (bs : List Int) (hbs : ∀ b ∈ bs, B8 b) (b off n c : Nat) (hn : 64 ≤ n) (hn2 : n ≤ 9223372036854775807) (w : World)
    (hblk : w.heap[hb]? = some (.cells (u32s s.list ++ rest).toArray T (0, 0))) (hk : w.rangeAt 18 0 (u32s kk))
    (hc : ∀ j, j < 64 → w.cell? ⟨b, off + j, none⟩ = some (.int .u8 (bs.getD j 0))) :
    Calls Tryz.prog 129 #[.pointer (some ⟨hb, 0, none⟩), .slice (some ⟨b, off, none⟩) n c] w fun e w' => e = .returned (.tuple #[]) ∧
      w'.heap[hb]? = some (.cells (u32s (s.comp bs).list ++ rest).toArray T (0, 0)) ∧ w.grownBy w' (some hb) := by
  obtain ⟨sa, sb, sc, sd, se, sf, sg, sh⟩ := s
  obtain ⟨ra, rb, rc, rd, re, rf, rg, rh⟩ := hs
  have HC := Lib.hid hc
  have HB := Lib.hid hblk
  have HK := Lib.hid hk
  clear hc hblk hk
  go_enter Tryz.func129, Tryz.ntmps129
  go_wp2_with fail
  refine (sched_any bs hbs b off n c hn hn2 _ HC.out).mono ?_
  rintro e w1 ⟨ws, HW, hwl, hwr, rfl, hb1⟩
  have hi : (Tryz.prog.info? 210).map (·.size) = some (u32s ws).length := by rw [u32s_len, hwl]; exact Tryz.size210
  have hone : ∀ v ∈ u32s ws, v.oneCell' = true := by
    intro v hv
    obtain ⟨x, _, rfl⟩ := List.mem_map.1 hv
    rfl
  have hhas : ∀ o : Array Value, o.size = 64 → Has (w1.alloc (.cells o 210)) w1.heap.size 210 (u32s ws).length := fun o ho => ⟨o, by rw [u32s_len, hwl, ho], heap_alloc_new w1 _⟩
  have HI := Lib.hid hi
  have HO := Lib.hid hone
  have HH := Lib.hid hhas
  have HR := Lib.hid hwr
  have HL := Lib.hid hwl
  clear hi hone hhas hwr hwl
  go_wp2_with (refine wpList_store_row rfl 210 (.tmp 4) (.tmp 21) rfl w1.heap.size rfl (u32s ws) rfl 210 (HH.out _ rfl) HI.out HO.out ?_; intro w2 hp)
  have hlt : hb < w.heap.size := blk_lt HB.out
  have hb2 : w2.heap[hb]? = some (.cells (u32s (St.list ⟨sa, sb, sc, sd, se, sf, sg, sh⟩) ++ rest).toArray T (0, 0)) := by
    rw [hp.other hb (by have := hb1.size; omega), Below.heap_alloc w1 _ hb (by have := hb1.size; omega)]
    exact blk_below HB.out hb1
  have c0 : w2.cell? ⟨hb, 0, none⟩ = some (.int .u32 sa) := blk_cell hb2 0 _ rfl
  have c1 : w2.cell? ⟨hb, 1, none⟩ = some (.int .u32 sb) := blk_cell hb2 1 _ rfl
  have c2 : w2.cell? ⟨hb, 2, none⟩ = some (.int .u32 sc) := blk_cell hb2 2 _ rfl
  have c3 : w2.cell? ⟨hb, 3, none⟩ = some (.int .u32 sd) := blk_cell hb2 3 _ rfl
  have c4 : w2.cell? ⟨hb, 4, none⟩ = some (.int .u32 se) := blk_cell hb2 4 _ rfl
  have c5 : w2.cell? ⟨hb, 5, none⟩ = some (.int .u32 sf) := blk_cell hb2 5 _ rfl
  have c6 : w2.cell? ⟨hb, 6, none⟩ = some (.int .u32 sg) := blk_cell hb2 6 _ rfl
  have c7 : w2.cell? ⟨hb, 7, none⟩ = some (.int .u32 sh) := blk_cell hb2 7 _ rfl
  have HB2 := Lib.hid hb2
  have hbl2 : Below w.heap.size w w2 := hp.below (hb1.alloc hb1.size _) hb1.size
  have HP := Lib.hid hp.blk
  have hP1 : w.heap.size ≤ w1.heap.size := hb1.size
  have hP2 : w1.heap.size < w2.heap.size := by rw [hp.size]; simp
  clear hb2 hp hb1
  unfold U at ra rb rc rd re rf rg rh
  go_quiet (fail)
  go_wp2_with fail
  go_quiet (fail)
  generalize hwq : w2.drewN _ = wq
  have HP2 : Hid (wq.heap[w1.heap.size]? = some (.cells (u32s ws).toArray 210 (0, 0))) := by rw [← hwq]; exact HP.out
  have HB3 : Hid (wq.heap[hb]? = some (.cells (u32s (St.list ⟨sa, sb, sc, sd, se, sf, sg, sh⟩) ++ rest).toArray T (0, 0))) := by rw [← hwq]; exact HB2.out
  have hbq : Below w.heap.size w wq := by rw [← hwq]; exact hbl2.trans ⟨rfl, rfl, rfl, Nat.le_refl _, fun _ _ => rfl⟩
  clear hwq hbl2 HB2 HP c0 c1 c2 c3 c4 c5 c6 c7
  go_wp2
  have HQ18 : Hid (wq.rangeAt 18 0 (u32s kk)) := range_below HK.out hbq
  go_loopw [5, 6, 7, 8, 9, 10, 11, 12, 13, 14, 15, 16, 17, 54] (fun va vc ve vg vb vd vf vh _ _ _ _ _ i wr => ∃ (k m : Nat) (pa pb pc pd pe pf pg ph : Int), k ≤ 64 ∧ i = .int .i64 k ∧ va = .int .u32 pa ∧ vb = .int .u32 pb ∧ vc = .int .u32 pc ∧ vd = .int .u32 pd ∧ ve = .int .u32 pe ∧ vf = .int .u32 pf ∧ vg = .int .u32 pg ∧ vh = .int .u32 ph ∧ wr = wq.drewN m ∧ (⟨pa, pb, pc, pd, pe, pf, pg, ph⟩ : St) = (⟨sa, sb, sc, sd, se, sf, sg, sh⟩ : St).rnds ws k)
    (fun _ _ _ _ _ _ _ _ _ _ _ _ _ i _ => 64 - (intOf i).toNat)
  case atStart => exact ⟨0, _, sa, sb, sc, sd, se, sf, sg, sh, by omega, rfl, rfl, rfl, rfl, rfl, rfl, rfl, rfl, rfl, rfl, rfl⟩
  case round =>
    obtain ⟨k, m, pa, pb, pc, pd, pe, pf, pg, ph, hk, rfl, rfl, rfl, rfl, rfl, rfl, rfl, rfl, rfl, rfl, hst⟩ := hrel
    obtain ⟨qa, qb, qc, qd, qe, qf, qg, qh⟩ : St.ok ⟨pa, pb, pc, pd, pe, pf, pg, ph⟩ := by rw [hst]; exact St.rnds_ok ⟨ra, rb, rc, rd, re, rf, rg, rh⟩ ws k
    have HS := Lib.hid hst
    clear hst
    by_cases hlt : k < 64
    · obtain ⟨kv, hkv⟩ : ∃ v, v = kk.getD k 0 := ⟨_, rfl⟩
      obtain ⟨wv, hwv⟩ : ∃ v, v = ws.getD k 0 := ⟨_, rfl⟩
      have rk : U kv := hkv ▸ getD_range kk_range k
      have rw_ : U wv := hwv ▸ getD_range HR.out k
      have ck : wq.cell? ⟨18, k, none⟩ = some (.int .u32 kv) := by
        have h := HQ18.out k (.int .u32 kv) (by rw [hkv]; simp [u32s, List.getD_eq_getElem?_getD, show k < kk.length by rw [kk_len]; exact hlt])
        rwa [Nat.zero_add] at h
      have cw : wq.cell? ⟨w1.heap.size, k, none⟩ = some (.int .u32 wv) := blk_cell HP2.out k _ (by have := HL.out; rw [hwv]; simp [u32s, List.getD_eq_getElem?_getD, show k < ws.length by omega])
      have HKV := Lib.hid hkv
      have HWV := Lib.hid hwv
      clear hkv hwv
      unfold U at qa qb qc qd qe qf qg qh rk rw_
      have k0 : 0 ≤ (k : Int) := by omega
      have k1 : (k : Int) < 64 := by omega
      go_wp2_with (go_at_call 154; first | ((with_reducible refine (rotl_6 _ (by omega) (by omega) _).mono ?_); rintro e w' ⟨rfl, rfl⟩) | ((with_reducible refine (rotl_11 _ (by omega) (by omega) _).mono ?_); rintro e w' ⟨rfl, rfl⟩) | ((with_reducible refine (rotl_25 _ (by omega) (by omega) _).mono ?_); rintro e w' ⟨rfl, rfl⟩))
      go_quiet (fail)
      go_wp2_with (go_at_call 154; first | ((with_reducible refine (rotl_2 _ (by omega) (by omega) _).mono ?_); rintro e w' ⟨rfl, rfl⟩) | ((with_reducible refine (rotl_13 _ (by omega) (by omega) _).mono ?_); rintro e w' ⟨rfl, rfl⟩) | ((with_reducible refine (rotl_22 _ (by omega) (by omega) _).mono ?_); rintro e w' ⟨rfl, rfl⟩))
      go_roundw
      case rel =>
        refine ⟨k + 1, _, _, _, _, _, _, _, _, _, by omega, by go_num, rfl, rfl, rfl, rfl, rfl, rfl, rfl, rfl, rfl, ?_⟩
        rw [St.rnds, ← HS.out, ← HKV.out, ← HWV.out]
        rfl
      case measure => simp [intOf]; omega
    · have hk64 : k = 64 := by omega
      have hg0 : w.grownBy (wq.drewN m) (some hb) := ⟨hbq.os, hbq.tape, hbq.output, hbq.size, fun j hj _ => hbq.block j hj⟩
      have H64 := Lib.hid hk64
      clear hk64
      go_wp2
      clear hlt hk
      obtain ⟨wo, hwo⟩ : ∃ wo : World, wo = wq.drewN m := ⟨_, rfl⟩
      rw [← hwo] at hg0 ⊢
      have HB4 : Hid (wo.heap[hb]? = some (.cells (u32s (St.list ⟨sa, sb, sc, sd, se, sf, sg, sh⟩) ++ rest).toArray T (0, 0))) := by rw [hwo]; exact HB3.out
      clear hwo
      obtain ⟨xs, hxs⟩ : ∃ xs, xs = St.list ⟨sa, sb, sc, sd, se, sf, sg, sh⟩ := ⟨_, rfl⟩
      obtain ⟨vs, hvs⟩ : ∃ vs, vs = St.list ⟨pa, pb, pc, pd, pe, pf, pg, ph⟩ := ⟨_, rfl⟩
      obtain ⟨ys, hys⟩ : ∃ ys, ys = (St.add ⟨sa, sb, sc, sd, se, sf, sg, sh⟩ ⟨pa, pb, pc, pd, pe, pf, pg, ph⟩).list := ⟨_, rfl⟩
      have xl : xs.length = 8 := by rw [hxs]; rfl
      have yl : ys.length = 8 := by rw [hys]; rfl
      have xr : ∀ x ∈ xs, U x := by rw [hxs]; exact St.list_ok ⟨ra, rb, rc, rd, re, rf, rg, rh⟩
      have vr : ∀ x ∈ vs, U x := by rw [hvs]; exact St.list_ok ⟨qa, qb, qc, qd, qe, qf, qg, qh⟩
      have yat : ∀ j, j < 8 → ys.getD j 0 = (xs.getD j 0 + vs.getD j 0) % 4294967296 := fun j hj => by rw [hys, hxs, hvs]; exact St.add_at _ _ j hj
      have hagg : Value.agg #[.int .u32 pa, .int .u32 pb, .int .u32 pc, .int .u32 pd, .int .u32 pe, .int .u32 pf, .int .u32 pg, .int .u32 ph] = .agg (u32s vs).toArray := by rw [hvs]; rfl
      rw [hagg]
      have vl : vs.length = 8 := by rw [hvs]; rfl
      have HB5 : Hid (wo.heap[hb]? = some (.cells (u32s xs ++ rest).toArray T (0, 0))) := by rw [hxs]; exact HB4.out
      have HYS := Lib.hid hys
      have XL := Lib.hid xl
      have YL := Lib.hid yl
      have VL := Lib.hid vl
      have YA := Lib.hid yat
      have XR := Lib.hid xr
      have VR := Lib.hid vr
      clear hxs hvs hys xl yl vl yat xr vr hagg HB4 HB3 HP2 HQ18 hbq
      go_loopw [18, 19, 128] (fun _ _ i wr => ∃ j : Nat, j ≤ 8 ∧ i = .int .i64 j ∧ wr.heap[hb]? = some (.cells (u32s (over xs ys j) ++ rest).toArray T (0, 0)) ∧ w.grownBy wr (some hb))
        (fun _ _ i _ => 8 - (intOf i).toNat)
      case atStart => exact ⟨0, by omega, rfl, by rw [over_zero]; exact HB5.out, hg0⟩
      case round =>
        obtain ⟨j, hj, rfl, hblk, hg⟩ := hrel
        by_cases hlt : j < 8
        · obtain ⟨xv, hxv⟩ : ∃ v, v = xs.getD j 0 := ⟨_, rfl⟩
          obtain ⟨vv, hvv⟩ : ∃ v, v = vs.getD j 0 := ⟨_, rfl⟩
          have rx : U xv := hxv ▸ getD_range XR.out j
          have rv : U vv := hvv ▸ getD_range VR.out j
          have hiv : (u32s vs).toArray[(j : Int).toNat]? = some (.int .u32 vv) := by
            have := VL.out
            simp [u32s, hvv, List.getD_eq_getElem?_getD, show j < vs.length by omega]
          have ol := over_len xs ys j 8 XL.out YL.out hj
          have cx : wr.cell? ⟨hb, j, none⟩ = some (.int .u32 xv) := by
            refine blk_cell hblk j _ ?_
            rw [List.getElem?_append_left (by rw [u32s_len]; omega), hxv, ← over_at xs ys j 8 XL.out YL.out hlt]
            simp [u32s, List.getD_eq_getElem?_getD, show j < (over xs ys j).length by omega]
          have fx : wr.frozen? ⟨hb, j, none⟩ = false := blk_free hblk j
          have hy : ys.getD j 0 = (xv + vv) % 4294967296 := by rw [YA.out j hlt, hxv, hvv]
          have HIV := Lib.hid hiv
          have HY := Lib.hid hy
          have HBL := Lib.hid hblk
          have OL := Lib.hid ol
          clear hxv hvv hiv hy hblk ol
          unfold U at rx rv
          have j0 : 0 ≤ (j : Int) := by omega
          have j1 : (j : Int) < 8 := by omega
          go_wp2_with (refine wpList_index_arr rfl 211 209 8 (.tmp 127) (.tmp 128) rfl (u32s vs).toArray .i64 j (.int .u32 vv) rfl rfl Tryz.underlying211 _ Tryz.underlying209 rfl Tryz.size209 (by omega) (by omega) HIV.out ?_)
          go_still_tail 8, (by kernel_rfl)
          change wpList _ _ _ _ _ wr.drew
          have cx2 : wr.drew.cell? ⟨hb, j, none⟩ = some (.int .u32 xv) := cx
          have fx2 : wr.drew.frozen? ⟨hb, j, none⟩ = false := fx
          go_wp2
          go_roundw
          case rel =>
            refine ⟨j + 1, by omega, by go_num, ?_, ?_⟩
            · have h := blk_set (w := wr.drew) HBL.out j (.int .u32 ((xv + vv) % 4294967296))
              rw [List.set_append_left _ _ (by rw [u32s_len, OL.out]; omega)] at h
              have e : (u32s (over xs ys j)).set j (.int .u32 ((xv + vv) % 4294967296)) = u32s (over xs ys (j + 1)) := by
                rw [← HY.out, ← over_set xs ys j 8 XL.out YL.out hlt, u32s, u32s, List.map_set]
              rw [e] at h
              exact h
            · exact World.grownBy.trans hg ⟨rfl, rfl, rfl, by simp, fun i hi hne => by
                have : i ≠ hb := fun e => hne (by rw [e])
                exact heap_setCell_other wr.drew ⟨hb, j, none⟩ i _ this⟩
          case measure => simp [intOf]; omega
        · have hj8 : j = 8 := by omega
          rw [hj8, over_all xs ys 8 XL.out YL.out] at hblk
          have HBL := Lib.hid hblk
          clear hblk hj8
          go_wp2
          go_end0
          refine ⟨rfl, ?_, hg⟩
          have hw := HW.out
          have hs := HS.out
          rw [H64.out, hw] at hs
          rw [St.comp, ← hs, ← HYS.out]
          exact HBL.out
end Go.Proofs.YtniknhhejlgdfaaGreatDoor
/- What hash.New does, and what a hash in memory is. -/
namespace Go.Proofs.YtniknhhejlgdfaaGreatDoor
open Go.RowKit

theorem Tryz.info5 : (Tryz.prog.info? 5).map (fun i => (i.zero, i.size, i.bytes)) = some (some (.int .u8 0), 1, 1) := by kernel_rfl
theorem Tryz.size223 : (Tryz.prog.info? 223).map (·.size) = some 8 := by kernel_rfl
theorem u8s_len' (bs : List Int) : (u8s bs).length = bs.length := by simp [u8s]

/-- A hash in block hb that has taken the bytes m in; rv: the slice of those that are left over. -/
structure HashAt (base : Nat) (w : World) (hb : Nat) (m : List Int) (rv : Value) : Prop where
  blk : w.heap[hb]? = some (.cells (u32s (stN m (m.length / 64)).list ++ [rv, .int .u64 m.length]).toArray 226 (0, 0))
  own : OwnO w base 5 rv (u8s (m.drop (64 * (m.length / 64))))
  ne : rv.ownBlock ≠ some hb
  bytes : u8s_ok m
  small : m.length ≤ 1099511627776

theorem HashAt.below {base : Nat} {w w' : World} {hb : Nat} {m : List Int} {rv : Value} (h : HashAt base w hb m rv) (hb' : Below w.heap.size w w') : HashAt base w' hb m rv :=
  ⟨blk_below h.blk hb', h.own.below hb', h.ne, h.bytes, h.small⟩

set_option maxHeartbeats 400000 in
theorem begin_any (w : World) : Calls Tryz.prog 128 #[] w fun e w' => e = .returned (.agg (u32s St.init.list).toArray) ∧ Below w.heap.size w w' := by
  go_enter Tryz.func128, Tryz.ntmps128
  go_wp2_with (refine wpList_store_row rfl 223 (.tmp 0) (.tmp 1) rfl w.heap.size rfl (u32s St.init.list) rfl 223 (has_new w _ _ _ rfl) Tryz.size223 (by decide) ?_; intro w1 hp)
  exact bodyPost_ret (v := .agg (u32s St.init.list).toArray) (results_cell_row rfl _ _ w.heap.size 223 _ (0, 0) _ rfl hp.blk Tryz.underlying223 rfl Tryz.size223) rfl ⟨rfl, hp.below ((Below.refl _ _).alloc (Nat.le_refl _) _) (Nat.le_refl _)⟩

set_option maxHeartbeats 400000 in
theorem new_any (w : World) : Calls Tryz.prog 99 #[] w fun e w' => ∃ hb, e = .returned (.pointer (some ⟨hb, 0, none⟩)) ∧ w.heap.size ≤ hb ∧ HashAt w.heap.size w' hb [] (.slice none 0 0) ∧ Below w.heap.size w w' := by
  go_enter Tryz.func99, Tryz.ntmps99
  go_wp2_with fail
  refine (begin_any _).mono ?_
  rintro e w1 ⟨rfl, hb1⟩
  go_wp2
  go_ret
  exact ⟨w1.heap.size, rfl, hb1.size, ⟨heap_alloc_new w1 _, .inl ⟨rfl, rfl⟩, by simp [Value.ownBlock], fun b hb => by simp at hb, by simp⟩, hb1.alloc hb1.size _⟩
end Go.Proofs.YtniknhhejlgdfaaGreatDoor
