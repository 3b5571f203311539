/- Words that came in, and that their numbers are well formed. -/
import Derived.Test.YtideopnblhbngaaDoorKit
import Derived.Test.YtideopnblhbngaaDoorTalR
import Derived.Deep.Strs
namespace Go.Proofs.YtideopnblhbngaaDoor
open Go.ChangeShapes Go.WideShapes Go.ChangeAt Go.RowKit

set_option maxRecDepth 100000 in
theorem open_w3f {H : Type} {enc : TypeId × Value → H} {W : World} {base : Nat} {spare : Nat → Bool} {held : Bool} {fuel : Nat} {cs : List Value} {x : DataW H × List MemPlace}
    (h : DataW.trod enc Tryd.prog W base spare held fuel 85 cs = some x) : ∃ o : W3, cs = w3 o ∧ ((Lit.int .i64 o.1).wf = true ∧ (Lit.int .i64 o.2.1).wf = true) ∧ (Lit.int .i64 o.2.2).wf = true := by
  obtain ⟨y0, y1, y2, n, _, hl, h0, h1, h2⟩ := Go.Deep.trod_struct3 Tryd.underlying85 h
  have c85 : Tryd.prog.cellsOf 85 = 3 := by kernel_rfl
  have c3 : Tryd.prog.cellsOf 3 = 1 := by kernel_rfl
  rw [c85] at hl
  obtain ⟨a0, a1, a2, rfl⟩ : ∃ a0 a1 a2, cs = [a0, a1, a2] := by
    match cs, hl with
    | [a0, a1, a2], _ => exact ⟨a0, a1, a2, rfl⟩
  simp only [c3, List.drop_zero, List.take_succ_cons, List.take_zero] at h0
  simp only [c3, List.drop_succ_cons, List.drop_zero, List.take_succ_cons, List.take_zero] at h1
  simp only [c3, List.drop_succ_cons, List.drop_zero, List.take_succ_cons, List.take_zero] at h2
  obtain ⟨z0, e0, _, hw0⟩ := DataW.trod_int Tryd.underlying3 h0
  obtain ⟨z1, e1, _, hw1⟩ := DataW.trod_int Tryd.underlying3 h1
  obtain ⟨z2, e2, _, hw2⟩ := DataW.trod_int Tryd.underlying3 h2
  simp only [List.cons.injEq, and_true] at e0 e1 e2
  subst e0 e1 e2
  exact ⟨(z0, z1, z2), rfl, ⟨by simpa using hw0, by simpa using hw1⟩, by simpa using hw2⟩

set_option maxRecDepth 100000 in
/-- A slice of words that came in. -/
theorem open_wordsf {H : Type} {enc : TypeId × Value → H} {W : World} {base b0 : Nat} {r : Go.Reach} {spare : Nat → Bool} {held : Bool} {v : Value} {d : DataW H} {ps : List MemPlace} (hval : Value.okWide Tryd.prog W r b0 79 v)
    (h : DataW.Trod enc Tryd.prog W base spare held 79 v d ps) : ∃ xs A n c, v = .slice A n c ∧ Wsl W (.slice A n c) xs ∧ ∀ (i : Nat) (x : W3), xs[i]? = some x → ((Lit.int .i64 x.1).wf = true ∧ (Lit.int .i64 x.2.1).wf = true) ∧ (Lit.int .i64 x.2.2).wf = true := by
  obtain ⟨fuel, hf⟩ := h
  obtain ⟨A, n, c, rfl⟩ := okWide_slice Tryd.underlying79 hval
  have c85 : Tryd.prog.cellsOf 85 = 3 := by kernel_rfl
  rcases DataW.trod_slice Tryd.underlying79 hf with ⟨hc, _⟩ | ⟨a, len, cap, elems, rest, k, _, hc, _, _, hl, hm, hlen, hel, _, _⟩
  · simp only [Value.cells, List.cons.injEq, Value.slice.injEq, and_true] at hc
    obtain ⟨rfl, rfl, rfl⟩ := hc
    exact ⟨[], none, 0, 0, rfl, ⟨⟨_, _, rfl⟩, fun h => absurd rfl h⟩, fun i x h => by simp at h⟩
  · simp only [Value.cells, List.cons.injEq, Value.slice.injEq, and_true] at hc
    obtain ⟨rfl, rfl, rfl⟩ := hc
    have each : ∀ i, ∃ X : W3, i < n → (∀ j u, (w3 X)[j]? = some u → W.cell? ((a.add (i * 3)).add j) = some u) ∧ ((Lit.int .i64 X.1).wf = true ∧ (Lit.int .i64 X.2.1).wf = true) ∧ (Lit.int .i64 X.2.2).wf = true := by
      intro i
      by_cases hi : i < n
      · have he := hel i hi
        rw [c85, List.getElem?_eq_getElem (by omega), Option.bind_eq_some_iff] at he
        obtain ⟨cs', hcs, hy'⟩ := he
        obtain ⟨X, rfl, hwx⟩ := open_w3f hy'
        refine ⟨X, fun _ => ⟨fun j u hu => ?_, hwx⟩⟩
        have := (World.cells?_some hcs).2
        have hj : j < 3 := (List.getElem?_eq_some_iff.1 hu).1
        first
          | exact (this j hj).trans hu
          | exact (this.2 j hj).trans hu
      · exact ⟨(0, 0, 0), fun h => absurd h hi⟩
    obtain ⟨f, hff⟩ := Classical.axiomOfChoice each
    refine ⟨(List.range n).map f, some a, n, c, rfl, ⟨⟨some a, c, by simp⟩, fun hne => ?_⟩, fun i x hx => by
      have hi : i < n := by have := (List.getElem?_eq_some_iff.1 hx).1; simpa using this
      rw [List.getElem?_map, List.getElem?_range hi] at hx
      cases hx
      exact (hff i hi).2⟩
    have hn : 0 < n := by
      cases n with
      | zero => exact absurd rfl hne
      | succ => omega
    obtain ⟨b, off, sp⟩ := a
    have h0 := (hff 0 hn).1
    have hc0 := h0 0 _ (show (w3 (f 0))[0]? = some _ from rfl)
    have hadd0 : (⟨b, off, sp⟩ : Addr).add (0 * 3) = ⟨b, off, sp⟩ := by simp [Addr.add]
    rw [hadd0] at hc0
    obtain rfl := spot_none hc0
    refine ⟨b, off, c, by simp, by simpa using hl, hm, World.block_lt_of_cell? W _ hc0, fun i o ho j u hu => ?_⟩
    have hi : i < n := by have := (List.getElem?_eq_some_iff.1 ho).1; simpa using this
    rw [List.getElem?_map, List.getElem?_range hi] at ho
    cases ho
    have := (hff i hi).1 j u hu
    rw [add_none, add_none] at this
    exact this
end Go.Proofs.YtideopnblhbngaaDoor
