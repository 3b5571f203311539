/- What all cards of this seat share: the sentinels as they are laid, slices of validators that came in. -/
import Derived.Test.YtideopnblhbngaaDoorCheck
import Derived.Test.YtideopnblhbngaaDoorOpen
import Derived.Test.YtideopnblhbngaaDoorIns
import Derived.Test.YtideopnblhbngaaDoorTie
import Derived.Test.YtideopnblhbngaaDoorCards
import Derived.LaidMore
import Derived.OpenShut
import Derived.Stop.Joined
import Derived.Stop.LaidErr
import Derived.SevenTiedAt
namespace Go.Proofs.YtideopnblhbngaaDoor
open Go.ChangeShapes Go.WideShapes Go.ChangeAt Go.RowKit

theorem own : ownKnob Tryd.prog.godebug = none := by kernel_rfl
theorem laidOut : laidOutB Tryd.prog = true := by kernel_rfl
theorem Tryd.gSet : Tryd.prog.globalNamed "quorate/api.ErrSet" = some 0 := by kernel_rfl
theorem Tryd.gSetT : (Tryd.prog.globals[0]?).map (·.type) = some 26 := by kernel_rfl
theorem Tryd.gRange : Tryd.prog.globalNamed "quorate/api.ErrRange" = some 1 := by kernel_rfl
theorem Tryd.gRangeT : (Tryd.prog.globals[1]?).map (·.type) = some 26 := by kernel_rfl
theorem Tryd.gTwice : Tryd.prog.globalNamed "quorate/api.ErrTwice" = some 2 := by kernel_rfl
theorem Tryd.gTwiceT : (Tryd.prog.globals[2]?).map (·.type) = some 26 := by kernel_rfl
theorem Tryd.cells182 : Tryd.prog.cellsOf 182 = 1 := by kernel_rfl
theorem Tryd.cells9 : Tryd.prog.cellsOf 9 = 1 := by kernel_rfl
theorem Tryd.star : "*" ++ "errors.errorString" = "*errors.errorString" := by decide
set_option maxRecDepth 100000 in
theorem Tryd.row157 (u : TypeId) (h : Tryd.prog.typeName? 3 u = some "*errors.errorString") : u = 157 :=
  typeName_ptr_named (nm := "errors.errorString") (by rw [Tryd.star]; kernel_rfl) (by kernel_rfl) (by decide) u (by rw [Tryd.star]; exact h)

/-- One sentinel that is laid. -/
theorem sen_head {n : String} {text : List UInt8} {r : List (String × DataW Unit)} {W : World} {g : Nat} (h : laidMet Tryd.prog ((n, .iface "*errors.errorString" (.ptr (.agg [.lit (.string text)]))) :: r) W)
    (hg : Tryd.prog.globalNamed n = some g) (ht : (Tryd.prog.globals[g]?).map (·.type) = some 26) : ∃ a : Addr, W.cell? ⟨g, 0, none⟩ = some (.iface 157 (.pointer (some a))) := by
  obtain ⟨a, _, hv, _⟩ := laid_sentinel h hg ht Tryd.underlying26 Tryd.row157 Tryd.underlying157 Tryd.underlying182 rfl rfl Tryd.underlying9 Tryd.cells182 Tryd.cells9
  exact ⟨a, World.var?_cell hg hv 0⟩

abbrev laidP : List (String × DataW Unit) := [("quorate/api.ErrRange", Rows.laid_quorate_api_ErrRange), ("quorate/api.ErrSet", Rows.laid_quorate_api_ErrSet), ("quorate/api.ErrTwice", Rows.laid_quorate_api_ErrTwice)]
set_option maxRecDepth 100000 in
theorem sen_of_laidP {W : World} (h : laidMetH Tryd.prog laidP W) : ∃ aS aR aT, Sen W aS aR aT := by
  rw [MakeChecks.laidMetH_plain _ _ _ (by kernel_rfl)] at h
  obtain ⟨aR, hR⟩ := sen_head h Tryd.gRange Tryd.gRangeT
  obtain ⟨aS, hS⟩ := sen_head h.tail Tryd.gSet Tryd.gSetT
  obtain ⟨aT, hT⟩ := sen_head h.tail.tail Tryd.gTwice Tryd.gTwiceT
  exact ⟨aS, aR, aT, hS, hR, hT⟩
set_option maxRecDepth 100000 in
theorem door_metP (os : Os) (args : Array Value) : laidMetH Tryd.prog laidP ((World.doorLaid Tryd.prog 351 os).forCall (fun _ _ => 0) ⟨#[], args, []⟩).memory :=
  laidMetH_of_parts3 (fuel := 8) (laidMet_of_run' 8 (by kernel_rfl) (by kernel_rfl)) (by kernel_rfl) (by kernel_rfl)

theorem spot_none {W : World} {b off : Nat} {sp} {u : Value} (h : W.cell? ((⟨b, off, sp⟩ : Addr).add 0) = some u) : sp = none := by
  simp only [Addr.add, if_true, World.cell?] at h
  split at h
  · cases sp with
    | none => rfl
    | some x => simp at h
  · cases h
theorem add_none (b off i : Nat) : (⟨b, off, none⟩ : Addr).add i = ⟨b, off + i, none⟩ := by unfold Addr.add; split <;> simp_all

set_option maxRecDepth 100000 in
/-- The cells of a validator that came in. -/
theorem open_va {H : Type} {enc : TypeId × Value → H} {W : World} {base : Nat} {spare : Nat → Bool} {held : Bool} {fuel : Nat} {cs : List Value} {x : DataW H × List MemPlace}
    (h : DataW.trod enc Tryd.prog W base spare held fuel 39 cs = some x) : ∃ X : Va, cs = vcells X ∧ X.1.length = 16 := by
  obtain ⟨y0, y1, n, _, hl, h0, h1⟩ := trod_struct2 Tryd.underlying39 h
  have c39 : Tryd.prog.cellsOf 39 = 17 := by kernel_rfl
  have c37 : Tryd.prog.cellsOf 37 = 16 := by kernel_rfl
  have c3 : Tryd.prog.cellsOf 3 = 1 := by kernel_rfl
  have c5 : Tryd.prog.cellsOf 5 = 1 := by kernel_rfl
  rw [c39] at hl
  have e0 : (Tryd.prog.cellsOf 37) = 16 := c37
  simp only [c37, List.drop_zero] at h0
  simp only [c3] at h1
  obtain ⟨xs, m, _, _, hl16, hxl, hel⟩ := DataW.trod_array Tryd.underlying37 h0
  obtain ⟨p, hp, _, _⟩ := DataW.trod_int Tryd.underlying3 h1
  have hcell : ∀ i, i < 16 → ∃ z, cs[i]? = some (.int .u8 z) := by
    intro i hi
    have hE := hel i hi
    rw [c5, Nat.mul_one, List.getElem?_eq_getElem (by omega)] at hE
    obtain ⟨z, e1, _, _⟩ := DataW.trod_int Tryd.underlying5 hE
    refine ⟨z, ?_⟩
    have h0 : ((((cs.take 16).drop i).take 1))[0]? = some (.int .u8 z) := by rw [e1]; rfl
    rw [List.getElem?_take, if_pos (by omega), List.getElem?_drop, List.getElem?_take, if_pos (by omega)] at h0
    simpa using h0
  refine ⟨((cs.take 16).map numOf, p), ?_, by simp; omega⟩
  apply List.ext_getElem?
  intro i
  unfold vcells
  have hul : (u8s (((cs.take 16).map numOf, p) : Va).1).length = 16 := by rw [u8s_len', List.length_map, List.length_take]; omega
  by_cases hi : i < 16
  · obtain ⟨z, hz⟩ := hcell i hi
    rw [List.getElem?_append_left (by omega), hz]
    simp [u8s, hi, hz, numOf]
  · rw [List.getElem?_append_right (by omega), hul]
    by_cases h16 : i = 16
    · subst h16
      have h2 : ((cs.drop 16).take 1)[0]? = some (.int .i64 p) := by rw [hp]; rfl
      rw [List.getElem?_take, if_pos (by omega), List.getElem?_drop] at h2
      simpa using h2
    · rw [List.getElem?_eq_none (by omega), List.getElem?_eq_none (by simp; omega)]

set_option maxRecDepth 100000 in
/-- A slice of validators that came in. -/
theorem open_vals {H : Type} {enc : TypeId × Value → H} {W : World} {base b0 : Nat} {r : Reach} {spare : Nat → Bool} {held : Bool} {v : Value} {d : DataW H} {ps : List MemPlace} (hval : Value.okWide Tryd.prog W r b0 22 v)
    (h : DataW.Trod enc Tryd.prog W base spare held 22 v d ps) : ∃ vs A n c, v = .slice A n c ∧ Vals W (.slice A n c) vs := by
  obtain ⟨fuel, hf⟩ := h
  obtain ⟨A, n, c, rfl⟩ := okWide_slice Tryd.underlying22 hval
  have c39 : Tryd.prog.cellsOf 39 = 17 := by kernel_rfl
  rcases DataW.trod_slice Tryd.underlying22 hf with ⟨hc, _⟩ | ⟨a, len, cap, elems, rest, k, _, hc, _, _, hl, hm, hlen, hel, _, _⟩
  · simp only [Value.cells, List.cons.injEq, Value.slice.injEq, and_true] at hc
    obtain ⟨rfl, rfl, rfl⟩ := hc
    exact ⟨[], none, 0, 0, rfl, ⟨_, _, rfl⟩, fun h => absurd rfl h, fun x hx => by simp at hx⟩
  · simp only [Value.cells, List.cons.injEq, Value.slice.injEq, and_true] at hc
    obtain ⟨rfl, rfl, rfl⟩ := hc
    have each : ∀ i, ∃ X : Va, i < n → X.1.length = 16 ∧ ∀ j u, (vcells X)[j]? = some u → W.cell? ((a.add (i * 17)).add j) = some u := by
      intro i
      by_cases hi : i < n
      · have he := hel i hi
        rw [c39, List.getElem?_eq_getElem (by omega), Option.bind_eq_some_iff] at he
        obtain ⟨cs', hcs, hy'⟩ := he
        obtain ⟨X, rfl, hX⟩ := open_va hy'
        refine ⟨X, fun _ => ⟨hX, fun j u hu => ?_⟩⟩
        have := (World.cells?_some hcs).2 
        have hj : j < 17 := by have := (List.getElem?_eq_some_iff.1 hu).1; rwa [vcells_len X hX] at this
        first
          | exact (this j hj).trans hu
          | exact (this.2 j hj).trans hu
      · exact ⟨([], 0), fun h => absurd h hi⟩
    obtain ⟨f, hff⟩ := Classical.axiomOfChoice each
    refine ⟨(List.range n).map f, some a, n, c, rfl, ⟨some a, c, by simp⟩, fun hne => ?_, fun x hx => ?_⟩
    · have hn : 0 < n := by
        cases n with
        | zero => exact absurd rfl hne
        | succ => omega
      obtain ⟨b, off, sp⟩ := a
      obtain ⟨hl0, h0⟩ := hff 0 hn
      have h00 : ∃ u, (vcells (f 0))[0]? = some u := ⟨_, List.getElem?_eq_getElem (by rw [vcells_len _ hl0]; omega)⟩
      obtain ⟨u, hu⟩ := h00
      have hc0 := h0 0 u hu
      have hadd0 : (⟨b, off, sp⟩ : Addr).add (0 * 17) = ⟨b, off, sp⟩ := by simp [Addr.add]
      rw [hadd0] at hc0
      obtain rfl := spot_none hc0
      refine ⟨b, off, c, by simp, by simpa using hl, hm, World.block_lt_of_cell? W _ hc0, fun i hi j u hu => ?_⟩
      have hi : i < n := by simpa using hi
      rw [List.getD_eq_getElem?_getD, List.getElem?_map, List.getElem?_range hi] at hu
      have := (hff i hi).2 j u hu
      rw [add_none, add_none] at this
      exact this
    · rw [List.mem_map] at hx
      obtain ⟨i, hi, rfl⟩ := hx
      exact (hff i (by simpa using hi)).1

theorem wf_u64 {z : Int} (h : (Lit.int .u64 z).wf = true) : 0 ≤ z ∧ z < 18446744073709551616 := by
  simp only [Lit.wf, IntKind.min, IntKind.max, IntKind.signed, IntKind.bits] at h
  simp at h
  omega
end Go.Proofs.YtideopnblhbngaaDoor
