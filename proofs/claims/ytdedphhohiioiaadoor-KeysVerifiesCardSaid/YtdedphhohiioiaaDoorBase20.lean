/- Lemmas that laws of this seat rest on, part 20; each says its own conditions: KitS. -/
import Derived.Deep.Strs
import Derived.Test.YtdedphhohiioiaaDoorBase9
import Derived.Test.YtdedphhohiioiaaDoorBase18
/- Signatures that came in. -/
namespace Go.Proofs.YtdedphhohiioiaaDoor
open Go.ChangeShapes Go.WideShapes Go.ChangeAt Go.RowKit

set_option maxRecDepth 100000 in
theorem open_sig {H : Type} {enc : TypeId × Value → H} {W : World} {base : Nat} {spare : Nat → Bool} {held : Bool} {v : Value} {d : DataW H} {ps : List MemPlace}
    (h : DataW.Trod enc Tryd.prog W base spare held 88 v d ps) : ∃ l ds qs A B n c k e, v = sigV l (.slice A n c) (.slice B k e) ∧ n = ds.length ∧ k = qs.length ∧ Dgs W (.slice A n c) ds ∧ Dgs W (.slice B k e) qs := by
  obtain ⟨fuel, hf⟩ := h
  obtain ⟨y0, y1, y2, m, _, hl, h0, h1, h2⟩ := Go.Deep.trod_struct3 Tryd.underlying88 hf
  have c88 : Tryd.prog.cellsOf 88 = 3 := by kernel_rfl
  have c3 : Tryd.prog.cellsOf 3 = 1 := by kernel_rfl
  have c55 : Tryd.prog.cellsOf 55 = 1 := by kernel_rfl
  rw [c88] at hl
  have hv : ∃ cs, v = .agg cs := by
    cases v with
    | agg cs => exact ⟨cs, rfl⟩
    | _ => simp [Value.cells] at hl
  obtain ⟨cs, rfl⟩ := hv
  obtain ⟨cs⟩ := cs
  simp only [Value.cells] at hl h0 h1 h2
  obtain ⟨a0, a1, a2, rfl⟩ : ∃ a0 a1 a2, cs = [a0, a1, a2] := by
    match cs, hl with
    | [a0, a1, a2], _ => exact ⟨a0, a1, a2, rfl⟩
  simp only [c3, List.drop_zero, List.take_succ_cons, List.take_zero] at h0
  simp only [c55, List.drop_succ_cons, List.drop_zero, List.take_succ_cons, List.take_zero] at h1
  simp only [c55, List.drop_succ_cons, List.drop_zero, List.take_succ_cons, List.take_zero] at h2
  obtain ⟨z0, e0, _, _⟩ := DataW.trod_int Tryd.underlying3 h0
  obtain ⟨ds, A, c, e1, hd⟩ := open_dgs_cells h1
  obtain ⟨qs, B, e, e2, hq⟩ := open_dgs_cells h2
  simp only [List.cons.injEq, and_true] at e0 e1 e2
  subst e0 e1 e2
  exact ⟨z0, ds, qs, A, B, _, c, _, e, rfl, rfl, rfl, hd, hq⟩
end Go.Proofs.YtdedphhohiioiaaDoor
