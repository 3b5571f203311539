/- Single operations, for the end of the reference's sum. -/
import Derived.Test.YtdedphhohiioiaaDoorRefF
namespace Go.Proofs.YtdedphhohiioiaaDoor
open Go.RowKit

section
variable {P : Program} {ops : Array Oper} {Q : Exit → Act → World → Prop} {o : Oper} {rest : List Oper} {N : Nat} {f : Nat → Value} {w : World}
/-- The operation gives this value, and makes this world. -/
def Alc (P : Program) (o : Oper) (ρ : Operand → Value) (w : World) (V : Value) (w' : World) : Prop := (execOp ρ o).run P w = .ok (.value V) w'
theorem pla {V : Value} {w' : World} (hgd : o.guard = none) (hG : Alc P o (frm N f).eval w V w') (h : wpList P ops Q rest (frm N (updO f o.dst V)) w') : wpList P ops Q (o :: rest) (frm N f) w := by
  refine wpList_plain hgd fun K hK => ?_
  unfold Oper.wp
  rw [hG]
  refine hK _ _ ?_
  rw [frm_put]
  exact h
end
section
variable {o : Oper} {ρ : Operand → Value} {w : World}
theorem al105 (ho : o.op = .alloc 105) : Alc Tryd.prog o ρ w (.pointer (some ⟨w.heap.size, 0, none⟩)) (w.alloc (.cells (Array.replicate 8 (.int .u32 0)) 105)) := by
  unfold Alc execOp
  simp only [ho]
  go_simp
  rfl
theorem al25 (ho : o.op = .alloc 25) : Alc Tryd.prog o ρ w (.pointer (some ⟨w.heap.size, 0, none⟩)) (w.alloc (.cells (Array.replicate 32 (.int .u8 0)) 25)) := by
  unfold Alc execOp
  simp only [ho]
  go_simp
  rfl
theorem is_build25 {t : TypeId} (ht : t = 25) (ho : o.op = .build t #[]) : Val Tryd.prog o ρ w (.agg (u8s (List.replicate 32 0)).toArray) := by
  subst ht
  unfold Val execOp
  simp only [ho]
  go_simp
  rfl
theorem is_cut64 {x : Operand} {b off n c : Nat} (h1 : 64 ≤ n) (h2 : n ≤ c) (ho : o.op = .slice 22 x (some (.const (.int .i64 64))) none none) (hx : ρ x = .slice (some ⟨b, off, none⟩) n c) (hc : ρ (.const (.int .i64 64)) = .int .i64 64) :
    Val Tryd.prog o ρ w (.slice (some (if c = 64 then ⟨b, off, none⟩ else ⟨b, off + 64, none⟩)) (n - 64) (c - 64)) := by
  have g1 : (64 : Int) ≤ (n : Int) := by omega
  have g2 : (n : Int) ≤ (c : Int) := by omega
  have g3 : (64 : Int) ≤ (c : Int) := by omega
  have g4 : ¬ c = 0 := by omega
  unfold Val execOp
  simp only [ho, hx, Option.map_some, Option.map_none, hc]
  by_cases hcc : c = 64
  · subst hcc
    obtain rfl : n = 64 := by omega
    go_simp
  · go_simp
theorem is_quo4 {t t2 : TypeId} {x y : Operand} (i : Nat) (hi : i < 32) (ho : o.op = .binOp .quo t x y t2) (hx : ρ x = .int .i64 (i : Int)) (hy : ρ y = .int .i64 4) : Val Tryd.prog o ρ w (.int .i64 ((i / 4 : Nat) : Int)) := by
  have h1 : (0 : Int) ≤ (i : Int) := by omega
  have h2 : (i : Int) < 32 := by omega
  refine is_bin ho hx hy rfl ?_
  go_simp
  exact IntWalk.i64_in _ (by omega)
theorem is_rem4 {t t2 : TypeId} {x y : Operand} (i : Nat) (hi : i < 32) (ho : o.op = .binOp .rem t x y t2) (hx : ρ x = .int .i64 (i : Int)) (hy : ρ y = .int .i64 4) : Val Tryd.prog o ρ w (.int .i64 ((i % 4 : Nat) : Int)) := by
  have h1 : (0 : Int) ≤ (i : Int) := by omega
  have h2 : (i : Int) < 32 := by omega
  refine is_bin ho hx hy rfl ?_
  go_simp
  exact Int.tmod_eq_emod_of_nonneg h1
theorem is_convN {x : Operand} (n : Nat) (hn : n < 64) (ho : o.op = .convert 3 39 x) (hx : ρ x = .int .i64 (n : Int)) : Val Tryd.prog o ρ w (.int .u64 (n : Int)) := by
  have h1 : (n : Int) < 64 := by omega
  unfold Val execOp
  simp only [ho, hx]
  go_simp
  rw [IntKind.wrap_u64]
  omega
theorem is_shrN {t t2 : TypeId} {x y : Operand} {a : Int} (n : Nat) (d : Int) (hn : (n = 0 ∧ d = 1) ∨ (n = 8 ∧ d = 256) ∨ (n = 16 ∧ d = 65536) ∨ (n = 24 ∧ d = 16777216)) (ho : o.op = .binOp .shr t x y t2) (hx : ρ x = .int .u32 a) (hy : ρ y = .int .u64 (n : Int)) : Val Tryd.prog o ρ w (.int .u32 (a / d)) := by
  rcases hn with ⟨rfl, rfl⟩ | ⟨rfl, rfl⟩ | ⟨rfl, rfl⟩ | ⟨rfl, rfl⟩
  all_goals
    refine is_bin ho hx hy rfl ?_
    go_simp
theorem is_conv5 {x : Operand} {a : Int} (ho : o.op = .convert 103 5 x) (hx : ρ x = .int .u32 a) : Val Tryd.prog o ρ w (.int .u8 (a % 256)) := by
  unfold Val execOp
  simp only [ho, hx]
  go_simp
  exact IntKind.wrap_u8 a
end
theorem RV.set7 {W0 w : World} {B b6 b7 b8 b14 : Nat} {v : Value} {rows ws st tb vs : List Int} (h : RV W0 B b6 b7 b8 b14 v rows w ws st tb vs) (hB : B ≤ b6 ∧ b6 < b7 ∧ b7 < b8) (i : Nat) (x : Int) :
    RV W0 B b6 b7 b8 b14 v rows (w.setCell ⟨b7, i, none⟩ (.int .u32 x)) ws (st.set i x) tb vs :=
  ⟨h.rs.set7 hB i x, (heap_setCell_other w ⟨b7, i, none⟩ _ _ (by have := h.lt; simp; omega)).trans h.h14, h.lt⟩
def W14 (t : Nat) : Bool := Wr 237 248 20 t
def W7 (t : Nat) : Bool := t == 4 || (9 ≤ t && t ≤ 20) || (63 ≤ t && t ≤ 250)
theorem in7 {S : Nat → Bool} {f g : Nat → Value} (h : Same S f g) (hS : ∀ t, S t = true → W7 t = true) : Same W7 f g := h.mono fun t ht => by
  cases e : S t with
  | false => rfl
  | true => rw [hS t e] at ht; cases ht
theorem in7_8 : ∀ t, W8 t = true → W7 t = true := by
  intro t; simp only [W8, W7, Bool.or_eq_true, beq_iff_eq, Bool.and_eq_true, decide_eq_true_eq]; omega
theorem in7_10 : ∀ t, W10 t = true → W7 t = true := by
  intro t; simp only [W10, W7, Bool.or_eq_true, beq_iff_eq, Bool.and_eq_true, decide_eq_true_eq]; omega
theorem in7_12 : ∀ t, W12 t = true → W7 t = true := by
  intro t; simp only [W12, W7, Bool.or_eq_true, beq_iff_eq, Bool.and_eq_true, decide_eq_true_eq]; omega
theorem in7_14 : ∀ t, W14 t = true → W7 t = true := by
  intro t; simp only [W14, Wr, W7, Bool.or_eq_true, beq_iff_eq, Bool.and_eq_true, decide_eq_true_eq]; omega
end Go.Proofs.YtdedphhohiioiaaDoor
