/- Slices of integers that came in. -/
import Derived.Test.YtideopnblhbngaaDoorKit
namespace Go.Proofs.YtideopnblhbngaaDoor
open Go.ChangeShapes Go.WideShapes Go.ChangeAt Go.RowKit

set_option maxRecDepth 100000 in
theorem open_ins {H : Type} {enc : TypeId × Value → H} {W : World} {base b0 : Nat} {r : Reach} {spare : Nat → Bool} {held : Bool} {v : Value} {d : DataW H} {ps : List MemPlace} (hval : Value.okWide Tryd.prog W r b0 28 v)
    (h : DataW.Trod enc Tryd.prog W base spare held 28 v d ps) : ∃ xs A n c, v = .slice A n c ∧ Ins W (.slice A n c) xs := by
  obtain ⟨fuel, hf⟩ := h
  obtain ⟨A, n, c, rfl⟩ := okWide_slice Tryd.underlying28 hval
  rcases open_ints Tryd.underlying28 Tryd.underlying3 (by kernel_rfl) hf with ⟨hc, _⟩ | ⟨a, len, cap, zs, hc, _, h1, h2, h3, _, h4, h5⟩
  · simp only [Value.cells, List.cons.injEq, Value.slice.injEq, and_true] at hc
    obtain ⟨rfl, rfl, rfl⟩ := hc
    exact ⟨[], none, 0, 0, rfl, Ins.nil⟩
  · simp only [Value.cells, List.cons.injEq, Value.slice.injEq, and_true] at hc
    obtain ⟨rfl, rfl, rfl⟩ := hc
    have hzl : n ≤ zs.length := by rw [h3]; split <;> omega
    have hl : (zs.take n).length = n := by rw [List.length_take]; omega
    refine ⟨zs.take n, some a, n, c, rfl, ⟨some a, c, by rw [hl]⟩, fun hne => ?_⟩
    have hn : 0 < n := by
      cases n with
      | zero => exact absurd rfl hne
      | succ => omega
    obtain ⟨b, off, sp⟩ := a
    have h0 := h4 0 (by omega)
    obtain rfl := spot_none h0
    refine ⟨b, off, c, by rw [hl], by rw [hl]; exact h1, h2, World.block_lt_of_cell? W _ h0, fun i hi => ?_⟩
    rw [hl] at hi
    have := h4 i (by omega)
    rw [add_none] at this
    rw [this]
    simp [List.getD_eq_getElem?_getD, hi]
end Go.Proofs.YtideopnblhbngaaDoor
