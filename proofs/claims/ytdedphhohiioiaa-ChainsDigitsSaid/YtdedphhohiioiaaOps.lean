/- Laws on single operations. -/
import Derived.WalkKit
import Derived.WalkSpells
import Derived.Maps.AppendAt
import Derived.Deep.MidRow
import Derived.Lib.Hide
namespace Go.Proofs.Ytdedphhohiioiaa
open Go.RowKit

def u8s (bs : List Int) : List Value := bs.map (Value.int .u8)
def i64s (bs : List Int) : List Value := bs.map (Value.int .i64)

/-- A slice that is not nil reads as a list of cells. -/
def Row (w : World) (v : Value) (xs : List Value) : Prop :=
  ∃ b off c, v = .slice (some ⟨b, off, none⟩) xs.length c ∧ xs.length ≤ c ∧ c ≤ maxLen ∧ ∀ j u, xs[j]? = some u → w.cell? ⟨b, off + j, none⟩ = some u
theorem Row.below {w w' : World} {v : Value} {xs : List Value} (h : Row w v xs) (hb : Below w.heap.size w w') : Row w' v xs := by
  obtain ⟨b, off, c, hv, h1, h2, h3⟩ := h
  exact ⟨b, off, c, hv, h1, h2, fun j u hu => (hb.cell (p := ⟨b, off + j, none⟩) (World.block_lt_of_cell? w _ (h3 j u hu))).trans (h3 j u hu)⟩
theorem Row.of_own {w : World} {base e n : Nat} {v : Value} {xs : List Value} (h : w.ownsRow base e 1 v n xs) (hn : 0 < n) : Row w v xs := by
  rcases h.2 with ⟨_, rfl⟩ | ⟨g, cap, cur, rfl, _, hg, hnc, hm, hs, ht⟩
  · omega
  · have hl := h.1
    refine ⟨g, 0, cap, by rw [hl, Nat.mul_one], by omega, hm, fun j u hu => ?_⟩
    have := h.cells (g := g) rfl j u hu
    rwa [show (⟨g, 0, none⟩ : Addr).add j = ⟨g, 0 + j, none⟩ by unfold Addr.add; split <;> simp_all] at this

theorem i64_and3 (x : Int) (h0 : 0 ≤ x) (h1 : x < 1024) : bits .and .i64 x 3 = x % 4 :=
  bits_mask .i64 10 (by decide) (fun n a b => by simp only [IntKind.wrap_i64]; omega) 2 (by decide) x h0 h1

theorem own_empty {base e : Nat} (W : World) (cs : Array Value) (hc : cs = #[]) (hb : base ≤ W.heap.size) :
    (W.alloc (.cells cs e)).ownsRow base e 1 (.slice (some ⟨W.heap.size, 0, none⟩) 0 0) 0 [] := by
  subst hc
  exact World.ownsRow_made W #[] 0 hb (by simp) rfl
theorem below_app {B e s n : Nat} {w wr w1 : World} {v : Value} {xs : List Value} {o : Obj} (hb : Below B w wr) (hB : B ≤ wr.heap.size) (ho : wr.ownsRow B e s v n xs)
    (hg : (wr.alloc o).grownBy w1 v.ownBlock) : Below B w w1 :=
  (hb.alloc hB o).grown hg (by simp; omega) (fun k hk => (ho.lt k hk).1)

section
variable {P : Program} {ops : Array Oper} {Q : Exit → Act → World → Prop} {a : Act} {w : World} {rest : List Oper} {o : Oper}

theorem run_isAgg_no (t : TypeId) (d : TypeDesc) (hu : P.underlying t = some d) (hd : (match d with | .struct _ | .array _ _ => true | _ => false) = false) (w : World) :
    (isAgg t).run P w = .ok false w := by
  unfold isAgg
  rw [Sem.run_bind, run_underlying hu w]
  cases d <;> simp_all

theorem range_below {w w' : World} {b o : Nat} {cs : List Value} (h : w.rangeAt b o cs) (hb : Below w.heap.size w w') : w'.rangeAt b o cs :=
  fun j v hv => (hb.cell (p := ⟨b, o + j, none⟩) (World.block_lt_of_cell? w _ (h j v hv))).trans (h j v hv)
theorem range_new (w : World) (cs : List Value) (e : Nat) : (w.alloc (.cells cs.toArray e)).rangeAt w.heap.size 0 cs := fun j v hv => by
  rw [cell_of_row _ _ _ _ _ _ (heap_alloc_new w _)]
  simpa using hv
/-- An array is read; guarded or not. -/
theorem wpList_load_g (hw : Region.wanted o (yielded ops a.tmps) = true) (ty : TypeId) (x : Operand) (ho : o.op = .load ty x)
    (b f : Nat) (hx : a.eval x = .pointer (some ⟨b, f, none⟩)) (cs : List Value) (d : TypeDesc) (hc : w.rangeAt b f cs)
    (hu : P.underlying ty = some d) (hd : d.isRow = true) (hi : (P.info? ty).map (·.size) = some cs.length)
    (h : wpList P ops Q rest (a.put o.dst (.agg cs.toArray)) w) : wpList P ops Q (o :: rest) a w := by
  refine wpList_step fun K hK => ?_
  rw [if_pos hw]
  exact wp_load_mid ty x ho b f hx cs d hc hu hd hi (hK _ _ h)

structure App (base e size : Nat) (w0 W : World) (v : Value) (n : Nat) (xs : List Value) (v1 : Value) (w1 : World) : Prop where
  own : w1.ownsRow base e size v1 n xs
  below : Below base w0 w1
  grown : W.grownBy w1 v.ownBlock
  place : v1.ownBlock = v.ownBlock ∨ ∃ b, v1.ownBlock = some b ∧ W.heap.size ≤ b

theorem App.ne {base e size n : Nat} {w0 W w1 : World} {v v1 : Value} {xs : List Value} (h : App base e size w0 W v n xs v1 w1) {U : Nat} (hU : U < W.heap.size) (hne : v.ownBlock ≠ some U) :
    v1.ownBlock ≠ some U := by
  rcases h.place with h | ⟨b, h, hb⟩
  · rw [h]; exact hne
  · rw [h]; simp; omega
theorem App.blk {base e size n : Nat} {w0 W w1 : World} {v v1 : Value} {xs : List Value} (h : App base e size w0 W v n xs v1 w1) {U : Nat} {ob : Obj} (hU : W.heap[U]? = some ob) (hne : v.ownBlock ≠ some U) :
    w1.heap[U]? = some ob :=
  (h.grown.block U (Array.getElem?_eq_some_iff.1 hU).1 (fun e => hne e.symm)).trans hU

theorem appN {w0 : World} (base : Nat) (hgd : o.guard = none) (s x : Operand) (t e : TypeId) (z : Value) (size bytes : Nat)
    (ho : o.op = .call { callee := .builtin .append, args := #[s, x], argTypes := #[t, t] })
    (ht : P.underlying t = some (.slice e)) (hinfo : (P.info? e).map (fun i => (i.zero, i.size, i.bytes)) = some (some z, size, bytes)) (hz : z.cells.size = size) (hsz : 0 < size) (hb0 : 0 < bytes)
    (v : Value) (n : Nat) (xs : List Value) (hs : a.eval s = v) (ad : Addr) (m c : Nat) (news : List Value) (hx : a.eval x = .slice (some ad) m c) (hl : news.length = m * size)
    (hnews : ∀ j u, news[j]? = some u → w.cell? (ad.add j) = some u) (h1 : ∀ u ∈ news, u.oneCell' = true)
    (HO : w.ownsRow base e size v n xs) (HB : Below base w0 w) (hbase : base ≤ w.heap.size) (hbytes : (n + m) * bytes ≤ 140737488355328)
    (h : ∀ v1 w1, App base e size w0 w v (n + m) (xs ++ news) v1 w1 → wpList P ops Q rest (a.put o.dst v1) w1) :
    wpList P ops Q (o :: rest) a w := by
  obtain ⟨i0, hi, hzz⟩ := Option.map_eq_some_iff.1 hinfo
  simp only [Prod.mk.injEq] at hzz
  obtain ⟨hz0, hz1, hz2⟩ := hzz
  have hlen : n + m ≤ 140737488355328 := Nat.le_trans (Nat.le_mul_of_pos_right _ hb0) hbytes
  refine wpList_append_own_at w hgd s x t ho base e i0 z size bytes ht hi hz0 hz1 hz2 hz hsz v n xs hs HO ad m c news hx hl hnews h1 (by simp only [maxLen]; omega) hbytes hbase ?_
  intro v1 w1 hown hg _ hat
  refine h v1 w1 ⟨hown, HB.grown hg hbase (fun k hk => (HO.lt k hk).1), hg, ?_⟩
  rcases hat with hat | hat
  · exact .inl hat
  · exact .inr ⟨_, hat, Nat.le_refl _⟩

theorem app1 {w0 : World} (base : Nat) (hgd : o.guard = none) (s x : Operand) (t e : TypeId) (z : Value) (size bytes : Nat)
    (ho : o.op = .call { callee := .builtin .append, args := #[s, x], argTypes := #[t, t] })
    (ht : P.underlying t = some (.slice e)) (hinfo : (P.info? e).map (fun i => (i.zero, i.size, i.bytes)) = some (some z, size, bytes)) (hz : z.cells.size = size) (hsz : 0 < size) (hb0 : 0 < bytes)
    (v : Value) (n : Nat) (xs : List Value) (hs : a.eval s = v) (m : Nat) (news : List Value) (hx : a.eval x = .slice (some ⟨w.heap.size, 0, none⟩) m m) (hl : news.length = m * size)
    (h1 : ∀ u ∈ news, u.oneCell' = true)
    (HO : w.ownsRow base e size v n xs) (HB : Below base w0 w) (hbytes : (n + m) * bytes ≤ 140737488355328)
    (hbase : base ≤ w.heap.size)
    (h : ∀ v1 w1, App base e size w0 w v (n + m) (xs ++ news) v1 w1 → wpList P ops Q rest (a.put o.dst v1) w1) :
    wpList P ops Q (o :: rest) a (w.alloc (.cells news.toArray e)) := by
  refine appN base hgd s x t e z size bytes ho ht hinfo hz hsz hb0 v n xs hs ⟨w.heap.size, 0, none⟩ m m news hx hl ?_ h1 (HO.alloc _) (HB.alloc hbase _) (by simp; omega) hbytes ?_
  · intro j u hu
    rw [show (⟨w.heap.size, 0, none⟩ : Addr).add j = ⟨w.heap.size, j, none⟩ by unfold Addr.add; split <;> simp_all]
    rw [cell_of_row _ _ _ _ _ _ (heap_alloc_new w _)]
    simpa using hu
  · intro v1 w1 ha
    refine h v1 w1 ⟨ha.own, ha.below, World.grownBy.trans (World.grownBy_alloc w _ _) ha.grown, ?_⟩
    rcases ha.place with h | ⟨b, h, hb⟩
    · exact .inl h
    · exact .inr ⟨b, h, by simp at hb; omega⟩

theorem wpList_index_arr (hgd : o.guard = none) (t e n : Nat) (x ix : Operand) (ho : o.op = .index t x ix) (cs : Array Value) (k : IntKind) (i : Int) (v : Value)
    (hx : a.eval x = .agg cs) (hi : a.eval ix = .int k i) (ht : P.underlying t = some (.array n e)) (d : TypeDesc) (hu : P.underlying e = some d)
    (hd : (match d with | .struct _ | .array _ _ => true | _ => false) = false) (hs : (P.info? e).map (·.size) = some 1) (h0 : 0 ≤ i) (h1 : i < n) (hv : cs[i.toNat]? = some v)
    (h : wpList P ops Q rest (a.put o.dst v) w) : wpList P ops Q (o :: rest) a w := by
  refine wpList_plain hgd fun K hK => ?_
  unfold Oper.wp execOp
  cases hq : P.info? e with
  | none => simp [hq] at hs
  | some inf =>
    have hsz : inf.size = 1 := by simpa [hq] using hs
    have h01 : 0 ≤ i ∧ i < (n : Int) := ⟨h0, h1⟩
    have hru := run_underlying ht w
    have hag := run_isAgg_no e d hu hd w
    simp only [ho, hx, hi, Instr.index, asIntOf, Sem.run_bind, Sem.run_pure, Result.andThen_ok, hru, if_pos h01, sizeOf, typeInfo, program, Sem.run, hq, hsz, part, hag, Nat.mul_one, hv]
    exact hK _ _ h

theorem run_forIn_all (l : List Nat) (F : Nat → Option Bool × Unit → Sem (ForInStep (Option Bool × Unit))) (c : Nat → Bool)
    (hF : ∀ i ∈ l, ∀ s, (F i s).run P w = .ok (if c i = false then .done (some false, ()) else .yield (none, ())) w) :
    (forIn l ((none : Option Bool), ()) F).run P w = .ok ((if l.all c then none else some false), ()) w := by
  induction l with
  | nil => simp only [List.forIn_nil, Sem.run_pure, List.all_nil, if_true]
  | cons i l ih =>
    simp only [List.forIn_cons, Sem.run_bind, hF i (by simp) _, Result.andThen_ok]
    cases hc : c i with
    | false => simp [hc]
    | true =>
      simp only [List.all_cons, hc, Bool.true_and, Bool.true_eq_false, if_false]
      exact ih (fun j hj => hF j (by simp [hj]))

theorem run_equalIn_array (d t e n m : Nat) (xs ys : Array Value) (c : Nat → Bool) (ht : P.underlying t = some (.array n e)) (hs : (P.info? e).map (·.size) = some m)
    (hc : ∀ i, i < n → ∃ x y, (part e xs (i * m)).run P w = .ok x w ∧ (part e ys (i * m)).run P w = .ok y w ∧ (Op.equalIn d e x y).run P w = .ok (c i) w) :
    (Op.equalIn (d + 1) t (.agg xs) (.agg ys)).run P w = .ok ((List.range n).all c) w := by
  have hsz : (sizeOf e).run P w = .ok m w := by
    cases hq : P.info? e with
    | none => simp [hq] at hs
    | some inf =>
      have : inf.size = m := by simpa [hq] using hs
      simp only [sizeOf, typeInfo, program, Sem.run_bind, Sem.run, hq, this, Result.andThen_ok, Sem.run_pure]
  unfold Op.equalIn
  rw [Sem.run_bind, run_underlying ht w]
  simp only [Result.andThen_ok]
  rw [Sem.run_bind, hsz]
  simp only [Result.andThen_ok, Std.Legacy.Range.forIn_eq_forIn_range', Std.Legacy.Range.size]
  rw [Sem.run_bind, run_forIn_all _ _ c]
  · simp only [Result.andThen_ok]
    rw [show (n - 0 + 1 - 1) / 1 = n by omega, ← List.range_eq_range']
    cases h : (List.range n).all c <;> simp
  · intro i hi s
    obtain ⟨x, y, h1, h2, h3⟩ := hc i (by simp at hi; omega)
    simp only [Sem.run_bind, h1, h2, h3, Result.andThen_ok]
    cases c i <;> simp

theorem run_part_one (e : Nat) (dsc : TypeDesc) (xs : Array Value) (i : Nat) (v : Value) (he : P.underlying e = some dsc) (hd : (match dsc with | .struct _ | .array _ _ => true | _ => false) = false) (hv : xs[i]? = some v) :
    (part e xs i).run P w = .ok v w := by
  unfold part
  simp only [Sem.run_bind, run_isAgg_no e dsc he hd w, Result.andThen_ok, Bool.false_eq_true, if_false, hv, Sem.run_pure]

theorem all_eq (a b : List Int) (n : Nat) (ha : a.length = n) (hb : b.length = n) : ((List.range n).all fun i => a.getD i 0 == b.getD i 0) = decide (a = b) := by
  rw [Bool.eq_iff_iff, decide_eq_true_iff, List.all_eq_true]
  constructor
  · intro h
    apply List.ext_getElem (by omega)
    intro i h1 h2
    have := h i (by simp; omega)
    simpa [List.getD_eq_getElem?_getD, h1, h2] using this
  · rintro rfl i _
    simp

theorem run_equalIn_bytes (d t e n : Nat) (a b : List Int) (ht : P.underlying t = some (.array n e)) (he : P.underlying e = some (.int .u8)) (hs : (P.info? e).map (·.size) = some 1)
    (ha : a.length = n) (hb : b.length = n) : (Op.equalIn (d + 2) t (.agg (u8s a).toArray) (.agg (u8s b).toArray)).run P w = .ok (decide (a = b)) w := by
  rw [run_equalIn_array (d + 1) t e n 1 _ _ (fun i => a.getD i 0 == b.getD i 0) ht hs, all_eq a b n ha hb]
  intro i hi
  refine ⟨.int .u8 (a.getD i 0), .int .u8 (b.getD i 0), ?_, ?_, run_equalIn_int w d e .u8 .u8 _ _ he⟩
  · exact run_part_one e _ _ _ _ he rfl (by simp [u8s, List.getD_eq_getElem?_getD, show i < a.length by omega])
  · exact run_part_one e _ _ _ _ he rfl (by simp [u8s, List.getD_eq_getElem?_getD, show i < b.length by omega])

theorem run_neq_bytes (t e n : Nat) (a b : List Int) (ht : P.underlying t = some (.array n e)) (he : P.underlying e = some (.int .u8)) (hs : (P.info? e).map (·.size) = some 1)
    (ha : a.length = n) (hb : b.length = n) : (binOp .neq t (.agg (u8s a).toArray) (.agg (u8s b).toArray)).run P w = .ok (.bool (!decide (a = b))) w := by
  rw [run_neq_struct, run_equalIn_bytes 9998 t e n a b ht he hs ha hb]
  rfl
theorem run_eql_bytes (t e n : Nat) (a b : List Int) (ht : P.underlying t = some (.array n e)) (he : P.underlying e = some (.int .u8)) (hs : (P.info? e).map (·.size) = some 1)
    (ha : a.length = n) (hb : b.length = n) : (binOp .eql t (.agg (u8s a).toArray) (.agg (u8s b).toArray)).run P w = .ok (.bool (decide (a = b))) w := by
  rw [run_eql_struct, run_equalIn_bytes 9998 t e n a b ht he hs ha hb]
  rfl
end
end Go.Proofs.Ytdedphhohiioiaa
