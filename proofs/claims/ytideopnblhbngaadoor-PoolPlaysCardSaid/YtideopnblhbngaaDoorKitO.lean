/- Calls of a pool that came in. -/
import Derived.Test.YtideopnblhbngaaDoorKitP
import Derived.Test.YtideopnblhbngaaDoorPlays
import Derived.Lib.SmallJoins
namespace Go.Proofs.YtideopnblhbngaaDoor
open Go.ChangeShapes Go.WideShapes Go.ChangeAt Go.RowKit

set_option maxRecDepth 100000 in
theorem open_bss_cells {H : Type} {enc : TypeId × Value → H} {W : World} {base : Nat} {spare : Nat → Bool} {held : Bool} {fuel : Nat} {cs : List Value} {x : DataW H × List MemPlace}
    (h : DataW.trod enc Tryd.prog W base spare held fuel 41 cs = some x) : ∃ bss A c, cs = [.slice A bss.length c] ∧ Bss W (.slice A bss.length c) bss := by
  have c44 : Tryd.prog.cellsOf 44 = 1 := by kernel_rfl
  rcases DataW.trod_slice Tryd.underlying41 h with ⟨rfl, _⟩ | ⟨a, n, c, elems, rest, k, _, rfl, _, _, hl, hm, hlen, hel, _, _⟩
  · exact ⟨[], none, 0, rfl, ⟨_, _, rfl⟩, fun h => absurd rfl h⟩
  · have each : ∀ i, ∃ ub : Value × List Int, i < n → W.cell? (a.add i) = some ub.1 ∧ Bs W ub.1 ub.2 := by
      intro i
      by_cases hi : i < n
      · have he := hel i hi
        rw [c44, Nat.mul_one, List.getElem?_eq_getElem (by omega), Option.bind_eq_some_iff] at he
        obtain ⟨cs', hcs, hy'⟩ := he
        obtain ⟨bs, A', c', rfl, hb⟩ := open_bs_cells hy'
        exact ⟨(_, bs), fun _ => ⟨cell_of_cells?_one hcs, hb⟩⟩
      · exact ⟨(undef, []), fun h => absurd h hi⟩
    obtain ⟨f, hff⟩ := Classical.axiomOfChoice each
    refine ⟨(List.range n).map fun i => (f i).2, some a, c, by simp, ⟨some a, c, rfl⟩, fun hne => ?_⟩
    have hn : 0 < n := by
      cases n with
      | zero => exact absurd rfl hne
      | succ => omega
    obtain ⟨b, off, sp⟩ := a
    obtain ⟨h0, _⟩ := hff 0 hn
    obtain rfl := spot_none h0
    refine ⟨b, off, c, rfl, by simpa using hl, hm, World.block_lt_of_cell? W _ h0, fun i hi => ?_⟩
    have hi : i < n := by simpa using hi
    obtain ⟨hi1, hi2⟩ := hff i hi
    rw [add_none] at hi1
    refine ⟨_, hi1, ?_⟩
    rw [List.getD_eq_getElem?_getD, List.getElem?_map, List.getElem?_range hi]
    exact hi2

set_option maxRecDepth 100000 in
theorem open_op {H : Type} {enc : TypeId × Value → H} {W : World} {base : Nat} {spare : Nat → Bool} {held : Bool} {fuel : Nat} {cs : List Value} {x : DataW H × List MemPlace}
    (h : DataW.trod enc Tryd.prog W base spare held fuel 69 cs = some x) : ∃ o : OpR, cs = ocells o ∧ Bs W o.tx o.tb ∧ Bss W o.ls o.lb := by
  obtain ⟨y0, y1, y2, y3, n, _, hl, h0, h1, h2, h3⟩ := Go.Joins.trod_struct4 Tryd.underlying69 h
  have c69 : Tryd.prog.cellsOf 69 = 4 := by kernel_rfl
  have c3 : Tryd.prog.cellsOf 3 = 1 := by kernel_rfl
  have c44 : Tryd.prog.cellsOf 44 = 1 := by kernel_rfl
  have c41 : Tryd.prog.cellsOf 41 = 1 := by kernel_rfl
  rw [c69] at hl
  obtain ⟨a0, a1, a2, a3, rfl⟩ : ∃ a0 a1 a2 a3, cs = [a0, a1, a2, a3] := by
    match cs, hl with
    | [a0, a1, a2, a3], _ => exact ⟨a0, a1, a2, a3, rfl⟩
  simp only [c3, List.drop_zero, List.take_succ_cons, List.take_zero] at h0
  simp only [c3, List.drop_succ_cons, List.drop_zero, List.take_succ_cons, List.take_zero] at h1
  simp only [c44, List.drop_succ_cons, List.drop_zero, List.take_succ_cons, List.take_zero] at h2
  simp only [c41, List.drop_succ_cons, List.drop_zero, List.take_succ_cons, List.take_zero] at h3
  obtain ⟨z0, e0, _, _⟩ := DataW.trod_int Tryd.underlying3 h0
  obtain ⟨z1, e1, _, _⟩ := DataW.trod_int Tryd.underlying3 h1
  obtain ⟨bs, A, c, e2, hb⟩ := open_bs_cells h2
  obtain ⟨bss, A', c', e3, hbs⟩ := open_bss_cells h3
  simp only [List.cons.injEq, and_true] at e0 e1 e2 e3
  subst e0 e1 e2 e3
  exact ⟨⟨z0, z1, _, _, bs, bss⟩, rfl, hb, hbs⟩

set_option maxRecDepth 100000 in
/-- A slice of calls that came in. -/
theorem open_ops {H : Type} {enc : TypeId × Value → H} {W : World} {base b0 : Nat} {r : Go.Reach} {spare : Nat → Bool} {held : Bool} {v : Value} {d : DataW H} {ps : List MemPlace} (hval : Value.okWide Tryd.prog W r b0 63 v)
    (h : DataW.Trod enc Tryd.prog W base spare held 63 v d ps) : ∃ os A n c, v = .slice A n c ∧ Opsl W (.slice A n c) os := by
  obtain ⟨fuel, hf⟩ := h
  obtain ⟨A, n, c, rfl⟩ := okWide_slice Tryd.underlying63 hval
  have c69 : Tryd.prog.cellsOf 69 = 4 := by kernel_rfl
  rcases DataW.trod_slice Tryd.underlying63 hf with ⟨hc, _⟩ | ⟨a, len, cap, elems, rest, k, _, hc, _, _, hl, hm, hlen, hel, _, _⟩
  · simp only [Value.cells, List.cons.injEq, Value.slice.injEq, and_true] at hc
    obtain ⟨rfl, rfl, rfl⟩ := hc
    exact ⟨[], none, 0, 0, rfl, ⟨_, _, rfl⟩, fun h => absurd rfl h, fun x hx => by simp at hx⟩
  · simp only [Value.cells, List.cons.injEq, Value.slice.injEq, and_true] at hc
    obtain ⟨rfl, rfl, rfl⟩ := hc
    have each : ∀ i, ∃ X : OpR, i < n → (Bs W X.tx X.tb ∧ Bss W X.ls X.lb) ∧ ∀ j u, (ocells X)[j]? = some u → W.cell? ((a.add (i * 4)).add j) = some u := by
      intro i
      by_cases hi : i < n
      · have he := hel i hi
        rw [c69, List.getElem?_eq_getElem (by omega), Option.bind_eq_some_iff] at he
        obtain ⟨cs', hcs, hy'⟩ := he
        obtain ⟨X, rfl, hX⟩ := open_op hy'
        refine ⟨X, fun _ => ⟨hX, fun j u hu => ?_⟩⟩
        have := (World.cells?_some hcs).2
        have hj : j < 4 := (List.getElem?_eq_some_iff.1 hu).1
        first
          | exact (this j hj).trans hu
          | exact (this.2 j hj).trans hu
      · exact ⟨⟨0, 0, undef, undef, [], []⟩, fun h => absurd h hi⟩
    obtain ⟨f, hff⟩ := Classical.axiomOfChoice each
    refine ⟨(List.range n).map f, some a, n, c, rfl, ⟨some a, c, by simp⟩, fun hne => ?_, fun x hx => ?_⟩
    · have hn : 0 < n := by
        cases n with
        | zero => exact absurd rfl hne
        | succ => omega
      obtain ⟨b, off, sp⟩ := a
      obtain ⟨_, h0⟩ := hff 0 hn
      have hc0 := h0 0 _ (show (ocells (f 0))[0]? = some _ from rfl)
      have hadd0 : (⟨b, off, sp⟩ : Addr).add (0 * 4) = ⟨b, off, sp⟩ := by simp [Addr.add]
      rw [hadd0] at hc0
      obtain rfl := spot_none hc0
      refine ⟨b, off, c, by simp, by simpa using hl, hm, World.block_lt_of_cell? W _ hc0, fun i o ho j u hu => ?_⟩
      have hi : i < n := by have := (List.getElem?_eq_some_iff.1 ho).1; simpa using this
      rw [List.getElem?_map, List.getElem?_range hi] at ho
      cases ho
      have := (hff i hi).2 j u hu
      rw [add_none, add_none] at this
      exact this
    · rw [List.mem_map] at hx
      obtain ⟨i, hi, rfl⟩ := hx
      exact (hff i (by simpa using hi)).1
end Go.Proofs.YtideopnblhbngaaDoor
