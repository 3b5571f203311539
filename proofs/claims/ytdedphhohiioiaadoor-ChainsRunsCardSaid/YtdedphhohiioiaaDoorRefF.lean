/- The reference's sum: what its loops share. -/
import Derived.Test.YtdedphhohiioiaaDoorRefLoops
import Derived.Test.YtdedphhohiioiaaDoorFrm
namespace Go.Proofs.YtdedphhohiioiaaDoor
open Go.RowKit

theorem is_call2 {P : Program} {o : Oper} {ρ : Operand → Value} {w : World} {g : Nat} {x y : Operand} {ts : Array TypeId} {a b V : Value} {w' : World} (hen : ∀ args w, (callFunc g args).run P w = .ok (.enter g args) w)
    (ho : o.op = .call { callee := .value (.func g), args := #[x, y], argTypes := ts }) (hv : ρ (.func g) = .func (.func g) #[] #[]) (hx : ρ x = a) (hy : ρ y = b) (h : Calls P g #[a, b] w fun e w'' => e = .returned V ∧ w'' = w') : Cal P o ρ w V w' :=
  is_call (args := [x, y]) (vals := [a, b]) hen ho hv (by rw [List.map_cons, List.map_cons, List.map_nil, hx, hy]) h
theorem flip {P : Program} {g : Nat} {ar : Array Value} {w : World} {V : Value} (h : Calls P g ar w fun e w'' => e = .returned V ∧ w = w'') : Calls P g ar w fun e w'' => e = .returned V ∧ w'' = w := h.mono fun _ _ ⟨a, b⟩ => ⟨a, b.symm⟩
theorem mod_word (a b c d : Int) : IntKind.u32.wrap (IntKind.u32.wrap (IntKind.u32.wrap (a + b) + c) + d) = (a + b + c + d) % 4294967296 := by simp only [IntKind.wrap_u32]; omega
theorem i64_sub (a b : Int) (h0 : 0 ≤ a) (h1 : a ≤ 1000) (h2 : 0 ≤ b) (h3 : b ≤ 1000) : IntKind.i64.wrap (a - b) = a - b := IntWalk.i64_in _ (by omega)
theorem i64_add (a b : Int) (h0 : 0 ≤ a) (h1 : a ≤ 1099511627776) (h2 : 0 ≤ b) (h3 : b ≤ 1099511627776) : IntKind.i64.wrap (a + b) = a + b := IntWalk.i64_in _ (by omega)
theorem i64_mul (a b : Int) (h0 : 0 ≤ a) (h1 : a ≤ 1000) (h2 : 0 ≤ b) (h3 : b ≤ 1000) : IntKind.i64.wrap (a * b) = a * b := by
  have h : 0 ≤ a * b := Int.mul_nonneg h0 h2
  have h' : a * b ≤ 1000 * 1000 := Int.mul_le_mul h1 h3 h2 (by omega)
  exact IntWalk.i64_in _ (by omega)
section
variable {o : Oper} {ρ : Operand → Value} {w : World}
theorem is_conv103 {x : Operand} {a : Int} (ho : o.op = .convert 5 103 x) (hx : ρ x = .int .u8 a) : Val Tryd.prog o ρ w (.int .u32 (IntKind.u32.wrap a)) := by
  have e : Tryd.prog.intKind 103 = .u32 := by kernel_rfl
  have h := is_conv (P := Tryd.prog) (w := w) ho hx (by rw [Tryd.underlying5]; rfl) (by rw [e]; exact Tryd.underlying103)
  rwa [e] at h
end
theorem word_sum (a b c d : Int) (ha : B8 a) (hb : B8 b) (hc : B8 c) (hd : B8 d) :
    IntKind.u32.wrap (IntKind.u32.wrap (IntKind.u32.wrap (IntKind.u32.wrap (IntKind.u32.wrap a * 16777216) + IntKind.u32.wrap (IntKind.u32.wrap b * 65536)) + IntKind.u32.wrap (IntKind.u32.wrap c * 256)) + IntKind.u32.wrap d) = word a b c d := by
  unfold B8 at *
  unfold word
  simp only [IntKind.wrap_u32]
  omega
theorem four_i (i : Nat) (h : i < 16) : IntKind.i64.wrap (4 * (i : Int)) = ((4 * i : Nat) : Int) := (i64_mul 4 i (by omega) (by omega) (by omega) (by omega)).trans (by omega)
theorem four_id (i d : Nat) (h : i < 16) (hd : d < 4) : IntKind.i64.wrap (IntKind.i64.wrap (4 * (i : Int)) + (d : Int)) = ((4 * i + d : Nat) : Int) := by
  rw [four_i i h]
  exact (i64_add _ _ (by omega) (by omega) (by omega) (by omega)).trans (by omega)
structure RV (W0 : World) (B b6 b7 b8 b14 : Nat) (v : Value) (rows : List Int) (w : World) (ws st tb vs : List Int) : Prop where
  rs : RS W0 B b6 b7 b8 v rows w ws st tb
  h14 : w.heap[b14]? = some (.cells (u32s vs).toArray 105 (0, 0))
  lt : b8 < b14
theorem RV.drew {W0 w : World} {B b6 b7 b8 b14 : Nat} {v : Value} {rows ws st tb vs : List Int} (h : RV W0 B b6 b7 b8 b14 v rows w ws st tb vs) : RV W0 B b6 b7 b8 b14 v rows w.drew ws st tb vs := ⟨h.rs.drew, h.h14, h.lt⟩
theorem RS.put {W0 w w1 : World} {B b6 b7 b8 b t : Nat} {v : Value} {rows ws st tb : List Int} {cs : List Value} (h : RS W0 B b6 b7 b8 v rows w ws st tb) (hB : B ≤ b6 ∧ b6 < b7 ∧ b7 < b8) (hb : b8 < b) (hp : Put w b t cs w1) : RS W0 B b6 b7 b8 v rows w1 ws st tb :=
  ⟨h.own.kept (row := some b) ⟨hp.os, hp.tape, hp.output, Nat.le_of_eq hp.size.symm, fun k _ hne => hp.other k (fun e => hne (by rw [e]))⟩ (fun k hk e => by have := h.glt k hk; simp only [Option.some.injEq] at e; omega), h.glt,
    (hp.other _ (by omega)).trans h.h6, (hp.other _ (by omega)).trans h.h7, (hp.other _ (by omega)).trans h.h8, hp.below h.bel (by omega)⟩
theorem RV.put {W0 w w1 : World} {B b6 b7 b8 b14 : Nat} {v : Value} {rows ws st tb vs us : List Int} (h : RV W0 B b6 b7 b8 b14 v rows w ws st tb vs) (hB : B ≤ b6 ∧ b6 < b7 ∧ b7 < b8) (hp : Put w b14 105 (u32s us) w1) : RV W0 B b6 b7 b8 b14 v rows w1 ws st tb us :=
  ⟨h.rs.put hB h.lt hp, hp.blk, h.lt⟩
theorem RV.cell {W0 w : World} {B b6 b7 b8 b14 : Nat} {v : Value} {rows ws st tb vs : List Int} (h : RV W0 B b6 b7 b8 b14 v rows w ws st tb vs) (j : Nat) (x : Int) (hj : vs[j]? = some x) : w.cell? ⟨b14, j, none⟩ = some (.int .u32 x) :=
  blk_cell h.h14 j _ (by simp [u32s, hj])
theorem t1_sum (s : St) (k w : Int) : IntKind.u32.wrap (IntKind.u32.wrap (IntKind.u32.wrap (IntKind.u32.wrap (s.h + big1 s.e) + chs s.e s.f s.g) + k) + w) = s.t1 k w := by
  unfold St.t1
  simp only [IntKind.wrap_u32]
  omega
theorem t2_sum (s : St) : IntKind.u32.wrap (big0 s.a + maj s.a s.b s.c) = s.t2 := by
  unfold St.t2
  exact IntKind.wrap_u32 _
section
variable {o : Oper} {ρ : Operand → Value} {w : World}
theorem is_build105 {t : TypeId} {x0 x1 x2 x3 x4 x5 x6 x7 : Operand} {v0 v1 v2 v3 v4 v5 v6 v7 : Int} (ht : t = 105) (ho : o.op = .build t #[(0, x0), (1, x1), (2, x2), (3, x3), (4, x4), (5, x5), (6, x6), (7, x7)])
    (h0 : ρ x0 = .int .u32 v0) (h1 : ρ x1 = .int .u32 v1) (h2 : ρ x2 = .int .u32 v2) (h3 : ρ x3 = .int .u32 v3) (h4 : ρ x4 = .int .u32 v4) (h5 : ρ x5 = .int .u32 v5) (h6 : ρ x6 = .int .u32 v6) (h7 : ρ x7 = .int .u32 v7) :
    Val Tryd.prog o ρ w (.agg (u32s [v0, v1, v2, v3, v4, v5, v6, v7]).toArray) := by
  subst ht
  unfold Val execOp
  simp only [ho, List.map_toArray, List.map_cons, List.map_nil, h0, h1, h2, h3, h4, h5, h6, h7, Sem.run_bind]
  go_simp
  rfl
end
def regOf (id : Nat) : Code → Option Code
  | .region i ops b => if i = id then some (.region i ops b) else none
  | .block _ c => regOf id c
  | .loop c => regOf id c
  | .scope c => regOf id c
  | .seq a b => match regOf id a with
    | some c => some c
    | none => regOf id b
  | .cond _ a b => match regOf id a with
    | some c => some c
    | none => regOf id b
  | _ => none
noncomputable def refReg (id : Nat) : Code := (Tryd.f28.body.bind (regOf id)).getD .skip
def Wr (a b x t : Nat) : Bool := t == x || (a ≤ t && t ≤ b)
theorem Wr_false {a b x t : Nat} (h1 : t ≠ x) (h2 : t < a ∨ b < t) : Wr a b x t = false := by
  simp only [Wr, Bool.or_eq_false_iff, beq_eq_false_iff_ne, Bool.and_eq_false_iff, decide_eq_false_iff_not]
  exact ⟨h1, by omega⟩
def W12 (t : Nat) : Bool := (15 ≤ t && t ≤ 19) || (147 ≤ t && t ≤ 236)
def W8 (t : Nat) : Bool := t == 10 || (66 ≤ t && t ≤ 104)
def W10 (t : Nat) : Bool := (11 ≤ t && t ≤ 13) || (105 ≤ t && t ≤ 145)
end Go.Proofs.YtdedphhohiioiaaDoor
