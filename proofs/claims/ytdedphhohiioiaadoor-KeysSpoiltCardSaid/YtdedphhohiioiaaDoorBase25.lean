/- Lemmas that laws of this seat rest on, part 25; each says its own conditions: KitQ. -/
import Derived.Test.YtdedphhohiioiaaDoorBase9
import Derived.Test.YtdedphhohiioiaaDoorBase23
/- What KeysSpoilt is handed. -/
namespace Go.Proofs.YtdedphhohiioiaaDoor
open Go.ChangeShapes Go.WideShapes Go.ChangeAt Go.RowKit

set_option maxRecDepth 100000 in
theorem open_spoilt {H : Type} {enc : TypeId × Value → H} {W : World} {base : Nat} {spare : Nat → Bool} {held : Bool} {v : Value} {d : DataW H} {ps : List MemPlace}
    (h : DataW.Trod enc Tryd.prog W base spare held 99 v d ps) : ∃ x m lf at_ by_ way, v = .agg (spC x m lf at_ by_ way).toArray ∧ (x.length = 16 ∧ u8s_ok x) ∧ (m.length = 16 ∧ u8s_ok m) ∧ 0 ≤ by_ ∧ by_ ≤ 255 := by
  obtain ⟨fuel, hf⟩ := h
  obtain ⟨xs, n, _, _, hl, hlen, hp⟩ := DataW.trod_struct Tryd.underlying99 hf
  have c99 : Tryd.prog.cellsOf 99 = 36 := by kernel_rfl
  have c3 : Tryd.prog.cellsOf 3 = 1 := by kernel_rfl
  have c5 : Tryd.prog.cellsOf 5 = 1 := by kernel_rfl
  have c4 : Tryd.prog.cellsOf 4 = 1 := by kernel_rfl
  rw [c99] at hl
  have hv : ∃ cs, v = .agg cs := by
    cases v with
    | agg cs => exact ⟨cs, rfl⟩
    | _ => simp [Value.cells] at hl
  obtain ⟨cs, rfl⟩ := hv
  obtain ⟨cs⟩ := cs
  simp only [Value.cells] at hl hp
  obtain ⟨y0, y1, y2, y3, y4, y5, rfl⟩ : ∃ y0 y1 y2 y3 y4 y5, xs = [y0, y1, y2, y3, y4, y5] := by
    match xs, hlen with
    | [y0, y1, y2, y3, y4, y5], _ => exact ⟨y0, y1, y2, y3, y4, y5, rfl⟩
  have h0 : DataW.trod enc Tryd.prog W base spare held n 43 ((cs.drop 0).take (Tryd.prog.cellsOf 43)) = some y0 := hp 0 _ rfl
  have h1 : DataW.trod enc Tryd.prog W base spare held n 43 ((cs.drop 16).take (Tryd.prog.cellsOf 43)) = some y1 := hp 1 _ rfl
  have h2 : DataW.trod enc Tryd.prog W base spare held n 3 ((cs.drop 32).take (Tryd.prog.cellsOf 3)) = some y2 := hp 2 _ rfl
  have h3 : DataW.trod enc Tryd.prog W base spare held n 3 ((cs.drop 33).take (Tryd.prog.cellsOf 3)) = some y3 := hp 3 _ rfl
  have h4 : DataW.trod enc Tryd.prog W base spare held n 5 ((cs.drop 34).take (Tryd.prog.cellsOf 5)) = some y4 := hp 4 _ rfl
  have h5 : DataW.trod enc Tryd.prog W base spare held n 4 ((cs.drop 35).take (Tryd.prog.cellsOf 4)) = some y5 := hp 5 _ rfl
  rw [c43] at h0 h1
  rw [c3] at h2 h3
  rw [c5] at h4
  rw [c4] at h5
  obtain ⟨x, e0, lx, ox⟩ := open_dg_cells h0
  obtain ⟨m, e1, lm, om⟩ := open_dg_cells h1
  obtain ⟨lf, e2, _, _⟩ := DataW.trod_int Tryd.underlying3 h2
  obtain ⟨at_, e3, _, _⟩ := DataW.trod_int Tryd.underlying3 h3
  obtain ⟨by_, e4, _, wz⟩ := DataW.trod_int Tryd.underlying5 h4
  obtain ⟨way, e5, _⟩ := DataW.trod_bool Tryd.underlying4 h5
  have hby : 0 ≤ by_ ∧ by_ ≤ 255 := by
    simp only [Lit.wf, IntKind.min, IntKind.max, IntKind.signed, IntKind.bits] at wz
    simp at wz
    omega
  refine ⟨x, m, lf, at_, by_, way, ?_, ⟨lx, ox⟩, ⟨lm, om⟩, hby⟩
  have hcs : cs = cs.take 16 ++ ((cs.drop 16).take 16 ++ ((cs.drop 32).take 1 ++ ((cs.drop 33).take 1 ++ ((cs.drop 34).take 1 ++ (cs.drop 35).take 1)))) := by
    apply List.ext_getElem?
    intro k
    simp only [List.getElem?_append, List.getElem?_take, List.getElem?_drop, List.length_take, List.length_drop, hl]
    repeat' split
    all_goals first | rfl | (congr 1; omega) | (rw [List.getElem?_eq_none (by omega)])
  rw [List.drop_zero] at e0
  rw [e0, e1, e2, e3, e4, e5] at hcs
  rw [hcs, spC]
  simp
end Go.Proofs.YtdedphhohiioiaaDoor
