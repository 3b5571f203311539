/- What the statements on the pool say, in plain lists; rows that grow beside a pool. -/
import Derived.Test.YtideopnblhbngaaDoorPlAlive
namespace Go.Proofs.YtideopnblhbngaaDoor
open Go.RowKit Go.Shelf

theorem rem_u64 (z : Int) (k : Nat) (hk : 0 < k) : ∃ r : Nat, (IntKind.u64.wrap z).tmod (k : Int) = r ∧ r < k := by
  have h0 : 0 ≤ IntKind.u64.wrap z := by rw [IntKind.wrap_u64]; omega
  rw [Int.tmod_eq_emod_of_nonneg h0]
  have h1 := Int.emod_nonneg (IntKind.u64.wrap z) (show (k : Int) ≠ 0 by omega)
  have h2 := Int.emod_lt_of_pos (IntKind.u64.wrap z) (show (0 : Int) < k by omega)
  exact ⟨((IntKind.u64.wrap z) % k).toNat, by omega, by omega⟩
theorem inT_nil (s : ByteArray) : inT [] s = false := rfl
theorem takeT_nil (ts : List ByteArray) (n : Nat) : takeT ts n [] = ts.take n := by
  unfold takeT
  rw [List.filter_eq_self.2 (fun s _ => by rw [inT_nil]; rfl)]
  rfl
theorem takeT_100 {ts : List ByteArray} (h : ts.length ≤ 16) : takeT ts 100 [] = ts := by
  rw [show (100 : Int) = ((100 : Nat) : Int) from rfl, takeT_nil, List.take_of_length_le (by omega)]
theorem inT_false (xs : List ByteArray) (z : ByteArray) : inT xs z = false ↔ z ∉ xs := by
  rw [← inT_iff]; cases inT xs z <;> simp
theorem dropT_take {ts : List ByteArray} (h : ts.Nodup) (k : Nat) : dropT ts (ts.take k) = ts.drop k := by
  unfold dropT
  have hd : ts.take k ++ ts.drop k = ts := List.take_append_drop k ts
  have hnd : (ts.take k ++ ts.drop k).Nodup := by rw [hd]; exact h
  obtain ⟨_, _, h3⟩ := List.nodup_append.1 hnd
  conv => lhs; rw [← hd]
  rw [List.filter_append, hd, List.filter_eq_nil_iff.2, List.nil_append, List.filter_eq_self.2]
  · intro x hx
    have : inT (ts.take k) x = false := (inT_false _ _).2 fun hm => h3 x hm x hx rfl
    rw [this]; rfl
  · intro x hx
    have : inT (ts.take k) x = true := (inT_iff _ _).2 hx
    rw [this]; simp
theorem takeT_rest {ts : List ByteArray} (h : ts.Nodup) (hz : ts.length ≤ 16) (k : Nat) : takeT ts 100 (ts.take k) = ts.drop k := by
  have := dropT_take h k
  unfold dropT at this
  unfold takeT
  rw [this, List.take_of_length_le (by simp; omega)]

/-- A row of slices that grows behind a world. -/
structure Gro (w0 : World) (base : Nat) (W : World) (v : Value) (xs : List (Value × List Int)) : Prop where
  own : OwnO W w0.heap.size 44 v (xs.map (·.1))
  el : ∀ y ∈ xs, BsF base w0 y.1 y.2
  bel : Below w0.heap.size w0 W
theorem Gro.lst {w0 W : World} {base : Nat} {v : Value} {xs : List (Value × List Int)} (h : Gro w0 base W v xs) (hb : base ≤ w0.heap.size) : Lst base W v xs :=
  ⟨h.own.mono hb, fun y hy => (h.el y hy).stay (Stay.of_below h.bel)⟩
theorem Gro.new (w0 : World) (base : Nat) : Gro w0 base (w0.alloc (.cells #[] 44)) (.slice (some ⟨w0.heap.size, 0, none⟩) 0 0) [] :=
  ⟨own_mk w0 (Nat.le_refl _) #[] rfl (by simp [maxLen]) rfl, fun y hy => by simp at hy, (Below.refl _ _).alloc (Nat.le_refl _) _⟩
theorem Gro.go {w0 W W' : World} {base : Nat} {v : Value} {xs : List (Value × List Int)} (h : Gro w0 base W v xs) (hb : Below W.heap.size W W') : Gro w0 base W' v xs :=
  ⟨h.own.below hb, h.el, h.bel.trans (hb.mono h.bel.size)⟩
theorem wpList_gro {ops : Array Oper} {rest : List Oper} {o : Oper} {a : Act} {w w0 : World} {Q : Exit → Act → World → Prop} {base : Nat} (hw : Region.wanted o (yielded ops a.tmps) = true) (s x : Operand)
    (ho : o.op = .call { callee := .builtin .append, args := #[s, x], argTypes := #[41, 41] }) (v : Value) (xs : List (Value × List Int)) (hs : a.eval s = v) (G : Gro w0 base w v xs)
    (A : Option Addr) (n c : Nat) (ys : List (Value × List Int)) (hx : a.eval x = .slice A n c) (hl : Lst base w0 (.slice A n c) ys) (N : Nat) (hN : N = xs.length + n) (hlen : N ≤ 1000)
    (h : ∀ A' c' w1, Gro w0 base w1 (.slice A' N c') (xs ++ ys) → wpList Tryd.prog ops Q rest (a.put o.dst (.slice A' N c')) w1) : wpList Tryd.prog ops Q (o :: rest) a w := by
  subst hN
  have hn := hl.len
  have hlw : Lst base w (.slice A n c) ys := hl.stay (Stay.of_below G.bel)
  have hsrc : Src Tryd.prog 1 41 (.slice A n c) n (ys.map (·.1)) w := hlw.own.src Tryd.underlying41 (one_lst ys hlw.el)
  refine appO (w0 := w0) w0.heap.size hw s x 41 41 44 (.slice none 0 0) 24 ho Tryd.underlying41 Tryd.info44 rfl (by omega) v (xs.map (·.1)) hs _ n _ hx hsrc G.own G.bel G.bel.size (by rw [List.length_map]; omega) fun v1 w1 ap => ?_
  obtain ⟨A', c', e, _⟩ := ap.own.len
  have : v1 = .slice A' (xs.length + n) c' := by rw [e]; simp [hn]
  subst this
  refine h A' c' w1 ⟨by have := ap.own; rwa [← List.map_append] at this, fun y hy => ?_, ap.below⟩
  rcases List.mem_append.1 hy with hy | hy
  · exact G.el y hy
  · exact hl.el y hy
end Go.Proofs.YtideopnblhbngaaDoor
