/- The pool's sentinels as they are laid; slices of slices of bytes that came in. -/
import Derived.Test.YtideopnblhbngaaDoorKit
import Derived.Test.YtideopnblhbngaaDoorAdd
namespace Go.Proofs.YtideopnblhbngaaDoor
open Go.ChangeShapes Go.WideShapes Go.ChangeAt Go.RowKit

theorem Tryd.gForm : Tryd.prog.globalNamed "quorate/api.ErrForm" = some 3 := by kernel_rfl
theorem Tryd.gFormT : (Tryd.prog.globals[3]?).map (·.type) = some 26 := by kernel_rfl
theorem Tryd.gFull : Tryd.prog.globalNamed "quorate/api.ErrFull" = some 4 := by kernel_rfl
theorem Tryd.gFullT : (Tryd.prog.globals[4]?).map (·.type) = some 26 := by kernel_rfl
abbrev laidQ : List (String × DataW Unit) := [("quorate/api.ErrForm", Rows.laid_quorate_api_ErrForm), ("quorate/api.ErrFull", Rows.laid_quorate_api_ErrFull), ("quorate/api.ErrTwice", Rows.laid_quorate_api_ErrTwice)]
set_option maxRecDepth 100000 in
theorem sen_of_laidQ {W : World} (h : laidMetH Tryd.prog laidQ W) : ∃ aF aT aU, PSen W aF aT aU := by
  rw [MakeChecks.laidMetH_plain _ _ _ (by kernel_rfl)] at h
  obtain ⟨aF, hF⟩ := sen_head h Tryd.gForm Tryd.gFormT
  obtain ⟨aU, hU⟩ := sen_head h.tail Tryd.gFull Tryd.gFullT
  obtain ⟨aT, hT⟩ := sen_head h.tail.tail Tryd.gTwice Tryd.gTwiceT
  exact ⟨aF, aT, aU, hF, hT, hU⟩
set_option maxRecDepth 100000 in
theorem door_metQ (os : Os) (args : Array Value) : laidMetH Tryd.prog laidQ ((World.doorLaid Tryd.prog 351 os).forCall (fun _ _ => 0) ⟨#[], args, []⟩).memory :=
  laidMetH_of_parts3 (fuel := 8) (laidMet_of_run' 8 (by kernel_rfl) (by kernel_rfl)) (by kernel_rfl) (by kernel_rfl)

set_option maxRecDepth 100000 in
theorem open_bs_cells {H : Type} {enc : TypeId × Value → H} {W : World} {base : Nat} {spare : Nat → Bool} {held : Bool} {fuel : Nat} {cs : List Value} {x : DataW H × List MemPlace}
    (h : DataW.trod enc Tryd.prog W base spare held fuel 44 cs = some x) : ∃ bs A c, cs = [.slice A bs.length c] ∧ Bs W (.slice A bs.length c) bs := by
  rcases open_ints Tryd.underlying44 Tryd.underlying5 (by kernel_rfl) h with ⟨rfl, _⟩ | ⟨a, n, c, zs, rfl, _, h1, h2, h3, _, h4, h5⟩
  · exact ⟨[], none, 0, rfl, Bs.nil⟩
  · have hzl : n ≤ zs.length := by rw [h3]; split <;> omega
    have hl : (zs.take n).length = n := by rw [List.length_take]; omega
    refine ⟨zs.take n, _, c, by rw [hl], ⟨⟨_, c, rfl⟩, fun hne => ?_, fun b hb => ?_⟩⟩
    · have hn : 0 < n := by
        cases n with
        | zero => exact absurd rfl hne
        | succ => omega
      obtain ⟨b, off, sp⟩ := a
      have h0 := h4 0 (by omega)
      obtain rfl := spot_none h0
      refine ⟨b, off, c, rfl, by rw [hl]; exact h1, h2, World.block_lt_of_cell? W _ h0, fun i hi => ?_⟩
      rw [hl] at hi
      have := h4 i (by omega)
      rw [add_none] at this
      rw [this]
      simp [List.getD_eq_getElem?_getD, hi]
    · have := h5 b (List.mem_of_mem_take hb)
      simp only [Lit.wf, IntKind.min, IntKind.max, IntKind.signed, IntKind.bits] at this
      simp at this
      omega

set_option maxRecDepth 100000 in
/-- A slice of slices of bytes that came in. -/
theorem open_bss {H : Type} {enc : TypeId × Value → H} {W : World} {base b0 : Nat} {r : Reach} {spare : Nat → Bool} {held : Bool} {v : Value} {d : DataW H} {ps : List MemPlace} (hval : Value.okWide Tryd.prog W r b0 41 v)
    (h : DataW.Trod enc Tryd.prog W base spare held 41 v d ps) : ∃ bss A n c, v = .slice A n c ∧ n = bss.length ∧ Bss W (.slice A n c) bss := by
  obtain ⟨fuel, hf⟩ := h
  obtain ⟨A, n, c, rfl⟩ := okWide_slice Tryd.underlying41 hval
  have c44 : Tryd.prog.cellsOf 44 = 1 := by kernel_rfl
  rcases DataW.trod_slice Tryd.underlying41 hf with ⟨hc, _⟩ | ⟨a, len, cap, elems, rest, k, _, hc, _, _, hl, hm, hlen, hel, _, _⟩
  · simp only [Value.cells, List.cons.injEq, Value.slice.injEq, and_true] at hc
    obtain ⟨rfl, rfl, rfl⟩ := hc
    exact ⟨[], none, 0, 0, rfl, rfl, ⟨_, _, rfl⟩, fun h => absurd rfl h⟩
  · simp only [Value.cells, List.cons.injEq, Value.slice.injEq, and_true] at hc
    obtain ⟨rfl, rfl, rfl⟩ := hc
    have each : ∀ i, ∃ ub : Value × List Int, i < n → W.cell? (a.add i) = some ub.1 ∧ Bs W ub.1 ub.2 := by
      intro i
      by_cases hi : i < n
      · have he := hel i hi
        rw [c44, Nat.mul_one, List.getElem?_eq_getElem (by omega), Option.bind_eq_some_iff] at he
        obtain ⟨cs', hcs, hy'⟩ := he
        obtain ⟨bs, A', c', rfl, hb⟩ := open_bs_cells hy'
        exact ⟨(_, bs), fun _ => ⟨cell_of_cells?_one hcs, hb⟩⟩
      · exact ⟨(undef, []), fun h => absurd h hi⟩
    obtain ⟨f, hff⟩ := Classical.axiomOfChoice each
    refine ⟨(List.range n).map fun i => (f i).2, some a, n, c, rfl, by simp, ⟨some a, c, by simp⟩, fun hne => ?_⟩
    have hn : 0 < n := by
      cases n with
      | zero => exact absurd rfl hne
      | succ => omega
    obtain ⟨b, off, sp⟩ := a
    obtain ⟨h0, _⟩ := hff 0 hn
    obtain rfl := spot_none h0
    refine ⟨b, off, c, by simp, by simpa using hl, hm, World.block_lt_of_cell? W _ h0, fun i hi => ?_⟩
    have hi : i < n := by simpa using hi
    obtain ⟨hi1, hi2⟩ := hff i hi
    rw [add_none] at hi1
    refine ⟨_, hi1, ?_⟩
    rw [List.getD_eq_getElem?_getD, List.getElem?_map, List.getElem?_range hi]
    exact hi2
end Go.Proofs.YtideopnblhbngaaDoor
