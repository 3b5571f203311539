/- What all cards of this seat share: the constants as they are laid, slices of bytes that came in. -/
import Derived.Test.YtdedphhohiioiaaDoorBytes
import Derived.Test.YtdedphhohiioiaaDoorOpen
import Derived.Test.YtdedphhohiioiaaDoorTie
import Derived.Test.YtdedphhohiioiaaDoorCards
import Derived.LaidMore
import Derived.OpenShut
import Derived.Stop.Joined
import Derived.Lib.LaidTab
import Derived.Lib.LaidU8
import Derived.SevenTiedAt
namespace Go.Proofs.YtdedphhohiioiaaDoor
open Go.ChangeShapes Go.WideShapes Go.ChangeAt Go.RowKit

theorem own : ownKnob Tryd.prog.godebug = none := by kernel_rfl
theorem laidOut : laidOutB Tryd.prog = true := by kernel_rfl
theorem Tryd.gK : Tryd.prog.globalNamed "quorate/hash.constants" = some 18 := by kernel_rfl
theorem Tryd.gKType : (Tryd.prog.globals[18]?).map (·.type) = some 104 := by kernel_rfl
theorem Tryd.cells103 : Tryd.prog.cellsOf 103 = 1 := by kernel_rfl
theorem Tryd.cells104 : Tryd.prog.cellsOf 104 = 64 := by kernel_rfl
theorem Tryd.globals : Tryd.prog.globals.size = 19 := by kernel_rfl

theorem kk_datum : (Rows.laid_quorate_hash_constants : DataW Unit) = Lib.tabData .u32 kk := by kernel_rfl

/-- The constants lie in their block. -/
theorem kk_range_of {W : World} (h : W.var? Tryd.prog "quorate/hash.constants" = some (kk.map fun z => Value.int .u32 z).toArray) : W.rangeAt 18 0 (u32s kk) := fun j v hv => by
  have := World.var?_cell Tryd.gK h j
  rw [Nat.zero_add, this]
  simpa [u32s] using hv
set_option maxRecDepth 100000 in
theorem kk_of_laid1 {W : World} (h : laidMetH Tryd.prog [("quorate/hash.constants", Rows.laid_quorate_hash_constants)] W) : W.rangeAt 18 0 (u32s kk) := by
  rw [MakeChecks.laidMetH_plain _ _ _ (by kernel_rfl), kk_datum] at h
  exact kk_range_of (Lib.tabIs_of_head Tryd.gK Tryd.gKType Tryd.underlying104 Tryd.underlying103 Tryd.cells103 Tryd.cells104 h)
theorem size_of_range {W : World} (h : W.rangeAt 18 0 (u32s kk)) : 18 < W.heap.size := by
  have := h 0 (.int .u32 (kk.getD 0 0)) rfl
  exact World.block_lt_of_cell? W _ this

set_option maxRecDepth 100000 in
/-- A slice of bytes that came in. -/
theorem open_bs {H : Type} {enc : TypeId × Value → H} {W : World} {base b0 : Nat} {r : Reach} {spare : Nat → Bool} {held : Bool} {v : Value} {d : DataW H} {ps : List MemPlace} (hval : Value.okWide Tryd.prog W r b0 22 v)
    (h : DataW.Trod enc Tryd.prog W base spare held 22 v d ps) : ∃ bs A n c, v = .slice A n c ∧ n = bs.length ∧ Bs W (.slice A n c) bs := by
  obtain ⟨fuel, hf⟩ := h
  obtain ⟨A, n, c, rfl⟩ := okWide_slice Tryd.underlying22 hval
  rcases open_ints Tryd.underlying22 Tryd.underlying5 (by kernel_rfl) hf with ⟨hc, _⟩ | ⟨a, len, cap, zs, hc, _, h1, h2, h3, _, h4, h5⟩
  · simp only [Value.cells, List.cons.injEq, Value.slice.injEq, and_true] at hc
    obtain ⟨rfl, rfl, rfl⟩ := hc
    exact ⟨[], none, 0, 0, rfl, rfl, Bs.nil⟩
  · simp only [Value.cells, List.cons.injEq, Value.slice.injEq, and_true] at hc
    obtain ⟨rfl, rfl, rfl⟩ := hc
    have hzl : n ≤ zs.length := by rw [h3]; split <;> omega
    have hl : (zs.take n).length = n := by rw [List.length_take]; omega
    refine ⟨zs.take n, _, n, c, rfl, hl.symm, ⟨⟨_, c, by rw [hl]⟩, fun hne => ?_, fun b hb => ?_⟩⟩
    · have hn : 0 < n := by
        cases n with
        | zero => exact absurd rfl hne
        | succ => omega
      obtain ⟨b, off, sp⟩ := a
      have h0 := h4 0 (by omega)
      have hsp : sp = none := by
        simp only [Addr.add, if_true, World.cell?] at h0
        split at h0
        · cases sp with
          | none => rfl
          | some x => simp at h0
        · cases h0
      subst hsp
      refine ⟨b, off, c, by rw [hl], by rw [hl]; exact h1, h2, World.block_lt_of_cell? W _ h0, fun i hi => ?_⟩
      rw [hl] at hi
      have := h4 i (by omega)
      rw [show (⟨b, off, none⟩ : Addr).add i = ⟨b, off + i, none⟩ by unfold Addr.add; split <;> simp_all] at this
      rw [this]
      simp [List.getD_eq_getElem?_getD, hi]
    · have := h5 b (List.mem_of_mem_take hb)
      simp only [Lit.wf, IntKind.min, IntKind.max, IntKind.signed, IntKind.bits] at this
      simp at this
      unfold B8
      omega

set_option maxRecDepth 100000 in
theorem door_met1 (os : Os) (args : Array Value) : laidMetH Tryd.prog [("quorate/hash.constants", Rows.laid_quorate_hash_constants)] ((World.doorLaid Tryd.prog 356 os).forCall (fun _ _ => 0) ⟨#[], args, []⟩).memory :=
  laidMetH_of_parts3 (fuel := 8) (laidMet_of_run' 8 (by kernel_rfl) (by kernel_rfl)) (by kernel_rfl) (by kernel_rfl)
end Go.Proofs.YtdedphhohiioiaaDoor
