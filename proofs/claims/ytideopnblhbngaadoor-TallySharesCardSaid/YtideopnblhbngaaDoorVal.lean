/- Validators as they lie; where a key is. -/
import Derived.Test.YtideopnblhbngaaDoorOps
import Derived.Test.YtideopnblhbngaaDoorExt
import Derived.Test.YtideopnblhbngaaDoorProg
namespace Go.Proofs.YtideopnblhbngaaDoor
open Go.RowKit

/-- A validator: the key's bytes, the power. -/
abbrev Va := List Int × Int
def vcells (x : Va) : List Value := u8s x.1 ++ [.int .i64 x.2]
theorem u8s_len' (xs : List Int) : (u8s xs).length = xs.length := by simp [u8s]
theorem vcells_len (x : Va) (h : x.1.length = 16) : (vcells x).length = 17 := by simp [vcells, u8s_len', h]
theorem one_u8s (xs : List Int) : ∀ v ∈ u8s xs, v.oneCell' = true := fun v hv => by simp [u8s] at hv; obtain ⟨a, _, rfl⟩ := hv; rfl
theorem one_vcells (x : Va) : ∀ v ∈ vcells x, v.oneCell' = true := fun v hv => by
  rcases List.mem_append.1 hv with h | h
  · exact one_u8s _ v h
  · simp at h; subst h; rfl

/-- A slice of validators. -/
structure Vals (w : World) (v : Value) (vs : List Va) : Prop where
  form : ∃ A c, v = .slice A vs.length c
  cells : vs ≠ [] → ∃ b off c, v = .slice (some ⟨b, off, none⟩) vs.length c ∧ vs.length ≤ c ∧ c ≤ maxLen ∧ b < w.heap.size ∧ ∀ i, i < vs.length → w.rangeAt b (off + i * 17) (vcells (vs.getD i ([], 0)))
  good : ∀ x ∈ vs, x.1.length = 16
theorem Vals.below {w w' : World} {v : Value} {vs : List Va} (h : Vals w v vs) (hb : Below w.heap.size w w') : Vals w' v vs := by
  refine ⟨h.form, fun hne => ?_, h.good⟩
  obtain ⟨b, off, c, e, h1, h2, h3, h4⟩ := h.cells hne
  exact ⟨b, off, c, e, h1, h2, Nat.lt_of_lt_of_le h3 hb.size, fun i hi => range_below (h4 i hi) hb⟩
theorem Vals.at {w : World} {v : Value} {vs : List Va} (h : Vals w v vs) (i : Nat) (hi : i < vs.length) : (vs.getD i ([], 0)).1.length = 16 := by
  rw [List.getD_eq_getElem?_getD, List.getElem?_eq_getElem hi]
  exact h.good _ (List.getElem_mem _)
theorem Vals.len {w : World} {A : Option Addr} {n c : Nat} {vs : List Va} (h : Vals w (.slice A n c) vs) : n = vs.length := by
  obtain ⟨A', c', e⟩ := h.form
  simp only [Value.slice.injEq] at e
  exact e.2.1
/-- What there is of the element at i. -/
theorem Vals.el {w : World} {A : Option Addr} {n c : Nat} {vs : List Va} (h : Vals w (.slice A n c) vs) (i : Nat) (hi : i < n) :
    ∃ b off, A = some ⟨b, off, none⟩ ∧ b < w.heap.size ∧ w.rangeAt b (off + i * 17) (vcells (vs.getD i ([], 0))) := by
  have hl := h.len
  obtain ⟨b, off, c', e, _, _, h3, h4⟩ := h.cells (by intro e; subst e; simp at hl; omega)
  simp only [Value.slice.injEq] at e
  exact ⟨b, off, e.1, h3, h4 i (by omega)⟩
theorem vcells_key {w : World} {b o : Nat} {x : Va} (h : w.rangeAt b o (vcells x)) : w.rangeAt b o (u8s x.1) := fun j v hv => by
  refine h j v ?_
  unfold vcells
  rw [List.getElem?_append_left (List.getElem?_eq_some_iff.1 hv).1]
  exact hv
theorem vcells_pow {w : World} {b o : Nat} {x : Va} (hl : x.1.length = 16) (h : w.rangeAt b o (vcells x)) : w.cell? ⟨b, o + 16, none⟩ = some (.int .i64 x.2) := by
  refine h 16 _ ?_
  unfold vcells
  rw [List.getElem?_append_right (by rw [u8s_len', hl]; exact Nat.le_refl _), u8s_len', hl]
  rfl

theorem Tryd.size39 : (Tryd.prog.info? 39).map (·.size) = some 17 := by kernel_rfl
theorem Tryd.size37 : (Tryd.prog.info? 37).map (·.size) = some 16 := by kernel_rfl

theorem run_eql37 (a b : List Int) (ha : a.length = 16) (hb : b.length = 16) (W : World) : (Op.equalIn 10000 37 (.agg (u8s a).toArray) (.agg (u8s b).toArray)).run Tryd.prog W = .ok (decide (a = b)) W :=
  run_equalIn_bytes 9998 37 5 16 a b Tryd.underlying37 Tryd.underlying5 (by kernel_rfl) ha hb

set_option maxHeartbeats 4000000 in
set_option maxRecDepth 100000 in
/-- Find's closure. -/
theorem find1_any (x : Va) (key : List Int) (hl : x.1.length = 16) (hk : key.length = 16) (bx : Nat) (w : World) (hx : w.rangeAt bx 0 (u8s key)) :
    Calls Tryd.prog 74 #[.agg (vcells x).toArray, .pointer (some ⟨bx, 0, none⟩)] w fun e w' => e = .returned (.bool (decide (x.1 = key))) ∧ Below w.heap.size w w' := by
  have hcell : (w.alloc (.cells (vcells x).toArray 39)).rangeAt w.heap.size 0 (u8s x.1) := vcells_key (range_new w (vcells x) 39)
  have hkey : (w.alloc (.cells (vcells x).toArray 39)).rangeAt bx 0 (u8s key) := range_below hx ((Below.refl _ _).alloc (Nat.le_refl _) _)
  have hi37 : (Tryd.prog.info? 37).map (·.size) = some (u8s x.1).length := by rw [u8s_len', hl]; exact Tryd.size37
  have hi37' : (Tryd.prog.info? 37).map (·.size) = some (u8s key).length := by rw [u8s_len', hk]; exact Tryd.size37
  have hrun := run_eql37 x.1 key hl hk
  have HC := Lib.hid hcell
  have HK := Lib.hid hkey
  have HI := Lib.hid hi37
  have HI' := Lib.hid hi37'
  clear hcell hkey hi37 hi37' hx
  go_enter Tryd.func74, Tryd.ntmps74
  go_wp2_with (first | (refine wpList_load_g rfl 37 (.tmp 4) rfl w.heap.size 0 rfl (u8s x.1) _ HC.out Tryd.underlying37 rfl HI.out ?_) | (refine wpList_load_g rfl 37 (.tmp 1) rfl bx 0 rfl (u8s key) _ HK.out Tryd.underlying37 rfl HI'.out ?_))
  go_ret
  exact ⟨rfl, (Below.refl _ _).alloc (Nat.le_refl _) _⟩
end Go.Proofs.YtideopnblhbngaaDoor
