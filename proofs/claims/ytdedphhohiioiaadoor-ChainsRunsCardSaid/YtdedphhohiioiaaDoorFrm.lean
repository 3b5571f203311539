/- Frames told slot by slot: single operations in a frame that is a function. -/
import Derived.Test.YtdedphhohiioiaaDoorRelyMore
import Derived.Still
import Derived.Test.YtdedphhohiioiaaDoorRows
namespace Go.Proofs.YtdedphhohiioiaaDoor
open Go.RowKit

/-- The frame of N slots that hold f. -/
def frm (N : Nat) (f : Nat → Value) : Act := ⟨(Array.range N).map f, []⟩
def upd (f : Nat → Value) (d : Nat) (v : Value) : Nat → Value := fun t => if t = d then v else f t
def updO (f : Nat → Value) : Option Nat → Value → Nat → Value
  | some d, v => upd f d v
  | none, _ => f

theorem frm_put (N : Nat) (f : Nat → Value) (d : Option Nat) (v : Value) : (frm N f).put d v = frm N (updO f d v) := by
  cases d with
  | none => rfl
  | some d =>
    show (⟨((Array.range N).map f).setIfInBounds d v, []⟩ : Act) = ⟨(Array.range N).map (upd f d v), []⟩
    congr 1
    apply Array.ext_getElem?
    intro i
    rw [Array.getElem?_setIfInBounds]
    by_cases h : d = i
    · subst h
      by_cases hd : d < N
      · simp [hd, upd]
      · simp [hd]
    · rw [if_neg h]
      by_cases hi : i < N
      · simp [hi, upd, show ¬ i = d from fun e => h e.symm]
      · simp [hi]
theorem frm_tmp {N t : Nat} {f : Nat → Value} {v : Value} (h : t < N) (e : f t = v) : (frm N f).eval (.tmp t) = v := by
  simp [Act.eval, frm, h, e]
/-- But for the slots in S the frames are the same. -/
def Same (S : Nat → Bool) (f g : Nat → Value) : Prop := ∀ t, S t = false → g t = f t
theorem Same.refl (S : Nat → Bool) (f : Nat → Value) : Same S f f := fun _ _ => rfl
theorem Same.trans {S : Nat → Bool} {f g h : Nat → Value} (a : Same S f g) (b : Same S g h) : Same S f h := fun t ht => (b t ht).trans (a t ht)
theorem Same.mono {S T : Nat → Bool} {f g : Nat → Value} (a : Same S f g) (h : ∀ t, T t = false → S t = false) : Same T f g := fun t ht => a t (h t ht)
theorem Same.some {S : Nat → Bool} {f g : Nat → Value} {d : Nat} (hd : S d = true) (v : Value) (a : Same S f g) : Same S f (updO g (some d) v) := fun t ht => by
  have : t ≠ d := fun e => by rw [e, hd] at ht; cases ht
  show (if t = d then v else g t) = f t
  rw [if_neg this]
  exact a t ht
theorem Same.none {S : Nat → Bool} {f g : Nat → Value} (v : Value) (a : Same S f g) : Same S f (updO g none v) := a
theorem frm_congr {N : Nat} {f g : Nat → Value} (h : ∀ t, t < N → f t = g t) : frm N f = frm N g := by
  unfold frm
  congr 1
  apply Array.ext
  · simp
  · intro i h1 h2
    have : i < N := by simpa using h1
    simp [h i this]
/-- Every frame is of that form. -/
theorem frm_of (a : Act) (h : a.defers = []) : a = frm a.tmps.size fun t => a.tmps.getD t undef := by
  obtain ⟨ts, ds⟩ := a
  obtain rfl : ds = [] := h
  unfold frm
  congr 1
  apply Array.ext
  · simp
  · intro i h1 h2
    have : i < ts.size := by simpa using h1
    simp [this]

section
variable {P : Program} {ops : Array Oper} {Q : Exit → Act → World → Prop} {o : Oper} {rest : List Oper} {N : Nat} {f : Nat → Value} {w : World}

/-- One operation of a region in the text's order. -/
theorem pl {S : Value → World → Prop} (hgd : o.guard = none) (hG : Gives P o (frm N f).eval w S) (h : ∀ v w', S v w' → wpList P ops Q rest (frm N (updO f o.dst v)) w') :
    wpList P ops Q (o :: rest) (frm N f) w := by
  refine wpList_plain hgd fun K hK => ?_
  unfold Oper.wp
  unfold Gives at hG
  generalize (execOp (frm N f).eval o).run P w = r at hG
  cases r with
  | halt x w' => simp at hG
  | ok x w' =>
    cases x with
    | value v =>
      refine hK _ _ ?_
      rw [frm_put]
      exact h v w' hG
    | skip =>
      refine hK _ _ ?_
      rw [frm_put]
      exact h undef w' hG
    | enter g args =>
      simp only [Oper.upon]
      refine Calls.mono hG ?_
      rintro e w'' ⟨v, rfl, hS⟩
      refine hK _ _ ?_
      rw [frm_put]
      exact h v w'' hS
    | _ => simp at hG
/-- The operation gives this value, and reads alone. -/
def Val (P : Program) (o : Oper) (ρ : Operand → Value) (w : World) (V : Value) : Prop := (execOp ρ o).run P w = .ok (.value V) w
def Put1 (P : Program) (o : Oper) (ρ : Operand → Value) (w w' : World) : Prop := (execOp ρ o).run P w = .ok .skip w'
def Cal (P : Program) (o : Oper) (ρ : Operand → Value) (w : World) (V : Value) (w' : World) : Prop := ∃ g args, (execOp ρ o).run P w = .ok (.enter g args) w ∧ Calls P g args w fun e w'' => e = .returned V ∧ w'' = w'
theorem plv {V : Value} (hgd : o.guard = none) (hG : Val P o (frm N f).eval w V) (h : wpList P ops Q rest (frm N (updO f o.dst V)) w) : wpList P ops Q (o :: rest) (frm N f) w := by
  refine wpList_plain hgd fun K hK => ?_
  unfold Oper.wp
  rw [hG]
  refine hK _ _ ?_
  rw [frm_put]
  exact h
theorem plw {w' : World} (hgd : o.guard = none) (hG : Put1 P o (frm N f).eval w w') (h : wpList P ops Q rest (frm N (updO f o.dst undef)) w') : wpList P ops Q (o :: rest) (frm N f) w := by
  refine wpList_plain hgd fun K hK => ?_
  unfold Oper.wp
  rw [hG]
  refine hK _ _ ?_
  rw [frm_put]
  exact h
theorem plc {V : Value} {w' : World} (hgd : o.guard = none) (hG : Cal P o (frm N f).eval w V w') (h : wpList P ops Q rest (frm N (updO f o.dst V)) w') : wpList P ops Q (o :: rest) (frm N f) w := by
  obtain ⟨g, args, hr, hc⟩ := hG
  refine wpList_plain hgd fun K hK => ?_
  unfold Oper.wp
  rw [hr]
  simp only [Oper.upon]
  refine hc.mono ?_
  rintro e w'' ⟨rfl, rfl⟩
  refine hK _ _ ?_
  rw [frm_put]
  exact h
theorem stv {R : Act → Prop} {V : Value} (hgd : o.guard = none) (hG : Val P o (frm N f).eval w V) (h : wpStill P ops w R rest (frm N (updO f o.dst V))) : wpStill P ops w R (o :: rest) (frm N f) := by
  refine wpStill_step fun K hK => ?_
  have hw : Region.wanted o (yielded ops (frm N f).tmps) = true := by simp [Region.wanted, hgd]
  rw [if_pos hw]
  unfold Oper.still
  rw [hG]
  refine ⟨rfl, hK _ ?_⟩
  rw [frm_put]
  exact h
theorem stc {R : Act → Prop} {V : Value} (hgd : o.guard = none) (hG : Cal P o (frm N f).eval w V w) (h : wpStill P ops w R rest (frm N (updO f o.dst V))) : wpStill P ops w R (o :: rest) (frm N f) := by
  obtain ⟨g, args, hr, hc⟩ := hG
  refine wpStill_step fun K hK => ?_
  have hw : Region.wanted o (yielded ops (frm N f).tmps) = true := by simp [Region.wanted, hgd]
  rw [if_pos hw]
  unfold Oper.still
  rw [hr]
  refine ⟨rfl, V, hc, hK _ ?_⟩
  rw [frm_put]
  exact h
end

section
variable {P : Program} {o : Oper} {ρ : Operand → Value} {w : World}
theorem is_move {x : Operand} {v : Value} (ho : o.op = .move x ∨ o.op = .assign x) (hx : ρ x = v) : Val P o ρ w v := by
  unfold Val execOp
  rcases ho with ho | ho <;> simp only [ho, hx, Sem.run_pure]
theorem is_bin {op : BinOp} {t t2 : TypeId} {x y : Operand} {a b v : Value} (ho : o.op = .binOp op t x y t2) (hx : ρ x = a) (hy : ρ y = b) (hg : (eqGuard op t x y a b).run P w = .ok () w) (hr : (binOp op t a b).run P w = .ok v w) : Val P o ρ w v := by
  unfold Val execOp
  simp only [ho, hx, hy, Sem.run_bind, hg, hr, Result.andThen_ok, Sem.run_pure]
theorem is_add {k : IntKind} {t t2 : TypeId} {x y : Operand} {a b : Int} (ho : o.op = .binOp .add t x y t2) (hx : ρ x = .int k a) (hy : ρ y = .int k b) : Val P o ρ w (.int k (k.wrap (a + b))) :=
  is_bin ho hx hy rfl (by rw [binOp_add]; rfl)
theorem is_sub {k : IntKind} {t t2 : TypeId} {x y : Operand} {a b : Int} (ho : o.op = .binOp .sub t x y t2) (hx : ρ x = .int k a) (hy : ρ y = .int k b) : Val P o ρ w (.int k (k.wrap (a - b))) :=
  is_bin ho hx hy rfl (by rw [binOp_sub]; rfl)
theorem is_mul {k : IntKind} {t t2 : TypeId} {x y : Operand} {a b : Int} (ho : o.op = .binOp .mul t x y t2) (hx : ρ x = .int k a) (hy : ρ y = .int k b) : Val P o ρ w (.int k (k.wrap (a * b))) :=
  is_bin ho hx hy rfl (by rw [binOp_mul]; rfl)
theorem is_and {k : IntKind} {t t2 : TypeId} {x y : Operand} {a b : Int} (ho : o.op = .binOp .and t x y t2) (hx : ρ x = .int k a) (hy : ρ y = .int k b) : Val P o ρ w (.int k (bits .and k a b)) :=
  is_bin ho hx hy rfl (by rw [binOp_and]; rfl)
theorem is_xor {k : IntKind} {t t2 : TypeId} {x y : Operand} {a b : Int} (ho : o.op = .binOp .xor t x y t2) (hx : ρ x = .int k a) (hy : ρ y = .int k b) : Val P o ρ w (.int k (bits .xor k a b)) :=
  is_bin ho hx hy rfl (by rw [binOp_xor]; rfl)
theorem is_lss {k : IntKind} {t t2 : TypeId} {x y : Operand} {a b : Int} (ho : o.op = .binOp .lss t x y t2) (hx : ρ x = .int k a) (hy : ρ y = .int k b) : Val P o ρ w (.bool (decide (a < b))) :=
  is_bin ho hx hy rfl (by rw [binOp_lss]; rfl)
theorem is_gtr {k : IntKind} {t t2 : TypeId} {x y : Operand} {a b : Int} (ho : o.op = .binOp .gtr t x y t2) (hx : ρ x = .int k a) (hy : ρ y = .int k b) : Val P o ρ w (.bool (decide (a > b))) :=
  is_bin ho hx hy rfl (by rw [binOp_gtr]; rfl)
theorem is_shr3 {t t2 : TypeId} {x y : Operand} {a : Int} (ho : o.op = .binOp .shr t x y t2) (hx : ρ x = .int .u32 a) (hy : ρ y = .int .u64 3) : Val P o ρ w (.int .u32 (a / 8)) :=
  is_bin ho hx hy rfl (by go_simp)
theorem is_shr10 {t t2 : TypeId} {x y : Operand} {a : Int} (ho : o.op = .binOp .shr t x y t2) (hx : ρ x = .int .u32 a) (hy : ρ y = .int .u64 10) : Val P o ρ w (.int .u32 (a / 1024)) :=
  is_bin ho hx hy rfl (by go_simp)
theorem is_un {op : UnOp} {t : TypeId} {x : Operand} {a v : Value} (ho : o.op = .unOp op t x) (hx : ρ x = a) (hr : (Op.unary op a).run P w = .ok v w) : Val P o ρ w v := by
  unfold Val execOp
  simp only [ho, hx, Sem.run_bind, hr, Result.andThen_ok, Sem.run_pure]
theorem is_not {t : TypeId} {x : Operand} {a : Int} (ho : o.op = .unOp .xor t x) (hx : ρ x = .int .u32 a) : Val P o ρ w (.int .u32 (bits .xor .u32 (if IntKind.u32.signed = true then -1 else IntKind.u32.max) a)) :=
  is_un ho hx (by go_simp)
theorem is_conv {s d : TypeId} {x : Operand} {k : IntKind} {a : Int} (ho : o.op = .convert s d x) (hx : ρ x = .int k a) (hs : (P.underlying s).isSome = true) (hd : P.underlying d = some (.int (P.intKind d))) :
    Val P o ρ w (.int (P.intKind d) ((P.intKind d).wrap a)) := by
  unfold Val execOp
  simp only [ho, hx, Sem.run_bind, run_convert_int w s d k a hs hd, Result.andThen_ok, Sem.run_pure]
theorem is_idx {t : TypeId} {x y : Operand} {a b v : Value} (ho : o.op = .indexAddr t x y) (hx : ρ x = a) (hy : ρ y = b) (hr : (Instr.indexAt t a b).run P w = .ok v w) : Val P o ρ w v := by
  unfold Val execOp
  simp only [ho, hx, hy, Sem.run_bind, hr, Result.andThen_ok, Sem.run_pure]
theorem is_load {t : TypeId} {x : Operand} {a v : Value} (ho : o.op = .load t x) (hx : ρ x = a) (hr : (Instr.loadAt t a).run P w = .ok v w) : Val P o ρ w v := by
  unfold Val execOp
  simp only [ho, hx, Sem.run_bind, hr, Result.andThen_ok, Sem.run_pure]
theorem is_call {g : Nat} {args : List Operand} {ts : Array TypeId} {vals : List Value} {V : Value} {w' : World} (hen : ∀ args w, (callFunc g args).run P w = .ok (.enter g args) w) (ho : o.op = .call { callee := .value (.func g), args := args.toArray, argTypes := ts })
    (hv : ρ (.func g) = .func (.func g) #[] #[]) (ha : args.map ρ = vals) (h : Calls P g vals.toArray w fun e w'' => e = .returned V ∧ w'' = w') : Cal P o ρ w V w' := by
  refine ⟨g, vals.toArray, ?_, h⟩
  unfold execOp
  simp only [ho, resolve, hv, List.map_toArray, ha, Sem.run_bind]
  simp only [Deferred.ofValue, Sem.run_pure, Result.andThen_ok, invoke, Array.append_empty, Array.empty_append, hen]
end

section
variable {o : Oper} {ρ : Operand → Value} {w : World}
theorem is_load103 {x : Operand} {b n : Nat} {v : Int} (ho : o.op = .load 103 x) (hx : ρ x = .pointer (some ⟨b, n, none⟩)) (hc : w.cell? ⟨b, n, none⟩ = some (.int .u32 v)) : Val Tryd.prog o ρ w (.int .u32 v) :=
  is_load ho hx (by go_simp)
theorem is_load5 {x : Operand} {b n : Nat} {v : Int} (ho : o.op = .load 5 x) (hx : ρ x = .pointer (some ⟨b, n, none⟩)) (hc : w.cell? ⟨b, n, none⟩ = some (.int .u8 v)) : Val Tryd.prog o ρ w (.int .u8 v) :=
  is_load ho hx (by go_simp)
theorem is_store103 {x y : Operand} {b n : Nat} {z : Value} {u : Int} (ho : o.op = .store 103 x y) (hx : ρ x = .pointer (some ⟨b, n, none⟩)) (hy : ρ y = .int .u32 u) (hc : w.cell? ⟨b, n, none⟩ = some z) (hf : w.frozen? ⟨b, n, none⟩ = false) :
    Put1 Tryd.prog o ρ w (w.setCell ⟨b, n, none⟩ (.int .u32 u)) := by
  unfold Put1 execOp
  simp only [ho, hx, hy]
  go_simp
theorem is_store5 {x y : Operand} {b n : Nat} {z : Value} {u : Int} (ho : o.op = .store 5 x y) (hx : ρ x = .pointer (some ⟨b, n, none⟩)) (hy : ρ y = .int .u8 u) (hc : w.cell? ⟨b, n, none⟩ = some z) (hf : w.frozen? ⟨b, n, none⟩ = false) :
    Put1 Tryd.prog o ρ w (w.setCell ⟨b, n, none⟩ (.int .u8 u)) := by
  unfold Put1 execOp
  simp only [ho, hx, hy]
  go_simp
theorem is_idx104 {x y : Operand} {b : Nat} {i : Int} (j : Nat) (hj : i = (j : Int)) (h1 : j < 64) (ho : o.op = .indexAddr 104 x y) (hx : ρ x = .pointer (some ⟨b, 0, none⟩)) (hy : ρ y = .int .i64 i) : Val Tryd.prog o ρ w (.pointer (some ⟨b, j, none⟩)) := by
  subst hj
  have h2 : (j : Int) < 64 := by omega
  exact is_idx ho hx hy (by go_simp)
theorem is_idx105 {x y : Operand} {b : Nat} {i : Int} (j : Nat) (hj : i = (j : Int)) (h1 : j < 8) (ho : o.op = .indexAddr 105 x y) (hx : ρ x = .pointer (some ⟨b, 0, none⟩)) (hy : ρ y = .int .i64 i) : Val Tryd.prog o ρ w (.pointer (some ⟨b, j, none⟩)) := by
  subst hj
  have h2 : (j : Int) < 8 := by omega
  exact is_idx ho hx hy (by go_simp)
theorem is_idx25 {x y : Operand} {b : Nat} {i : Int} (j : Nat) (hj : i = (j : Int)) (h1 : j < 32) (ho : o.op = .indexAddr 25 x y) (hx : ρ x = .pointer (some ⟨b, 0, none⟩)) (hy : ρ y = .int .i64 i) : Val Tryd.prog o ρ w (.pointer (some ⟨b, j, none⟩)) := by
  subst hj
  have h2 : (j : Int) < 32 := by omega
  exact is_idx ho hx hy (by go_simp)
theorem is_idx22 {x y : Operand} {b off n c : Nat} {i : Int} (j : Nat) (hj : i = (j : Int)) (h1 : j < n) (ho : o.op = .indexAddr 22 x y) (hx : ρ x = .slice (some ⟨b, off, none⟩) n c) (hy : ρ y = .int .i64 i) : Val Tryd.prog o ρ w (.pointer (some ⟨b, off + j, none⟩)) := by
  subst hj
  have h2 : (j : Int) < n := by omega
  exact is_idx ho hx hy (by go_simp)
theorem is_len22 {x : Operand} {A : Option Addr} {n c : Nat} (ho : o.op = .call { callee := .builtin .len, args := #[x], argTypes := #[22] }) (hx : ρ x = .slice A n c) : Val Tryd.prog o ρ w (.int .i64 n) := by
  unfold Val execOp
  simp only [ho, resolve, invoke, builtin, Sem.run_bind, Sem.run_pure, Result.andThen_ok, List.map_toArray, List.map_cons, List.map_nil, hx]
  go_simp
end
end Go.Proofs.YtdedphhohiioiaaDoor
