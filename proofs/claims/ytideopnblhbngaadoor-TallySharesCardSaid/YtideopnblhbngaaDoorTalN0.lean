/- Steps: a struct is built, boxed; a slice is made; validators are cloned. -/
import Derived.Test.YtideopnblhbngaaDoorRelyMore
import Derived.Test.YtideopnblhbngaaDoorWide
import Derived.Test.YtideopnblhbngaaDoorTalQ
import Derived.Test.YtideopnblhbngaaDoorTake
namespace Go.Proofs.YtideopnblhbngaaDoor
section
open Go.RowKit Go.Shelf
attribute [local go_sem] Oper.semAt_some
theorem gives_len2 {P : Program} {o : Oper} {ρ : Operand → Value} {w : World} {S : Value → World → Prop} (t e : TypeId) (x : Operand) (ho : o.op = .call { callee := .builtin .len, args := #[x], argTypes := #[t] }) (ht : P.underlying t = some (.slice e)) (A : Option Addr) (n c : Nat) (hx : ρ x = .slice A n c) (h : S (.int .i64 n) w) : Gives P o ρ w S := by
  refine gives_val (.int .i64 n) (w' := w) ?_ h
  unfold execOp
  simp only [ho, resolve, invoke, builtin, Sem.run_bind, Sem.run_pure, Result.andThen_ok, List.map_toArray, List.map_cons, List.map_nil, hx]
  simp [Builtin.len_, run_underlying ht]
  rfl
end
section
open Go.RowKit Go.Shelf
attribute [local go_sem] Oper.semAt_some

theorem gives_build2 {P : Program} {o : Oper} {ρ : Operand → Value} {w w' : World} {S : Value → World → Prop} (t : TypeId) (x y : Operand) (ho : o.op = .build t #[(0, x), (1, y)]) (a b v : Value) (hx : ρ x = a) (hy : ρ y = b)
    (hr : (Instr.build t #[(0, a), (1, b)]).run P w = .ok v w') (h : S v w') : Gives P o ρ w S := by
  refine gives_val v (w' := w') ?_ h
  unfold execOp
  simp only [ho, List.map_toArray, List.map_cons, List.map_nil, hx, hy]
  simp [hr]
theorem gives_boxOp {P : Program} {o : Oper} {ρ : Operand → Value} {w w' : World} {S : Value → World → Prop} (t : TypeId) (x : Operand) (ho : o.op = .box t x) (a v : Value) (hx : ρ x = a)
    (hr : (Instr.box t a).run P w = .ok v w') (h : S v w') : Gives P o ρ w S := by
  refine gives_val v (w' := w') ?_ h
  unfold execOp
  simp only [ho, hx]
  simp [hr]
theorem gives_makeSlice {P : Program} {o : Oper} {ρ : Operand → Value} {w w' : World} {S : Value → World → Prop} (t : TypeId) (x y : Operand) (ho : o.op = .makeSlice t x y) (a b v : Value) (hx : ρ x = a) (hy : ρ y = b)
    (hr : (Instr.makeSlice t a b).run P w = .ok v w') (h : S v w') : Gives P o ρ w S := by
  refine gives_val v (w' := w') ?_ h
  unfold execOp
  simp only [ho, hx, hy]
  simp [hr]

theorem own_form' {w : World} {base e s n : Nat} {v : Value} {xs : List Value} (h : w.ownsRow base e s v n xs) : ∃ A c, v = .slice A n c := by
  rcases h.2 with ⟨rfl, rfl⟩ | ⟨g, cap, cur, e1, _⟩
  · exact ⟨none, 0, rfl⟩
  · exact ⟨_, _, e1⟩
theorem made_at (z : Array Value) (hz : z.size = 3) (n i r : Nat) (hi : i < n) (hr : r < 3) : (madeCells z (n * 3))[i * 3 + r]? = z[r]? := by
  have h1 : i * 3 + r < n * 3 := by omega
  simp only [madeCells, Array.getElem?_map, Array.getElem?_range, h1, hz]
  simp
  rw [Nat.mod_eq_of_lt hr, Array.getElem?_eq_getElem (by omega), getElem!_pos z r (by omega)]
def vz39 : Value := .agg #[.int .u8 0, .int .u8 0, .int .u8 0, .int .u8 0, .int .u8 0, .int .u8 0, .int .u8 0, .int .u8 0, .int .u8 0, .int .u8 0, .int .u8 0, .int .u8 0, .int .u8 0, .int .u8 0, .int .u8 0, .int .u8 0, .int .i64 0]
theorem vinfo39 : (Tryd.prog.info? 39).map (fun i => (i.zero, i.size, i.bytes)) = some (some vz39, 17, 24) := by kernel_rfl
theorem rcells_len (vs : List Va) (h : ∀ x ∈ vs, x.1.length = 16) : (rcells vs).length = vs.length * 17 := by
  induction vs with
  | nil => rfl
  | cons x xs ih =>
    simp only [rcells, List.flatMap_cons, List.length_append, List.length_cons] at ih ⊢
    rw [ih (fun y hy => h y (List.mem_cons_of_mem _ hy)), vcells_len x (h x (by simp))]
    omega
theorem one_rcells (vs : List Va) : ∀ u ∈ rcells vs, u.oneCell' = true := by
  intro u hu
  obtain ⟨x, _, hx⟩ := List.mem_flatMap.1 hu
  exact one_vcells x u hx
set_option maxHeartbeats 4000000 in
set_option maxRecDepth 100000 in
theorem vclone_any (vs : List Va) (A : Option Addr) (n c : Nat) (w : World) (hv : Vals w (.slice A n c) vs) (hn : 1 ≤ n) (hz : n ≤ 1000) :
    Calls Tryd.prog 82 #[.slice A n c] w fun e w' => ∃ A' c', e = .returned (.slice A' n c') ∧ w'.ownsRow w.heap.size 39 17 (.slice A' n c') n (rcells vs) ∧ Below w.heap.size w w' := by
  have hl := hv.len
  obtain ⟨b, off, c2, e, h1, h2, h3, h4⟩ := hv.cells (by intro e; subst e; simp at hl; omega)
  simp only [Value.slice.injEq] at e
  obtain ⟨rfl, -, rfl⟩ := e
  have hnews : ∀ j u, (rcells vs)[j]? = some u → (w.alloc (.cells #[] 39)).cell? ((⟨b, off, none⟩ : Addr).add j) = some u := by
    intro j u hu
    have hj : j < vs.length * 17 := by have := (List.getElem?_eq_some_iff.1 hu).1; rwa [rcells_len vs hv.good] at this
    have hi : j / 17 < vs.length := by omega
    rw [show j = j / 17 * 17 + j % 17 by omega, rcells_at vs hv.good _ _ hi (by omega)] at hu
    have := h4 (j / 17) hi (j % 17) u hu
    rw [show (⟨b, off, none⟩ : Addr).add j = ⟨b, off + j / 17 * 17 + j % 17, none⟩ by unfold Addr.add; split <;> simp_all <;> omega]
    exact cell_on ((Below.refl _ _).alloc (Nat.le_refl _) _) this
  have hown : (w.alloc (.cells #[] 39)).ownsRow w.heap.size 39 17 (.slice (some ⟨w.heap.size, 0, none⟩) 0 0) 0 [] := ⟨rfl, .inr ⟨w.heap.size, 0, #[], rfl, Nat.le_refl _, heap_alloc_new w _, by simp, by simp [maxLen], by simp, by simp⟩⟩
  have hb : Below w.heap.size w (w.alloc (.cells #[] 39)) := (Below.refl _ _).alloc (Nat.le_refl _) _
  have hnil : (binOp .eql 22 (.slice (some ⟨b, off, none⟩) n c) (.slice none 0 0)).run Tryd.prog w = .ok (.bool false) w := by
    simp only [binOp]
    simp [run_equal_slice_nil w 22 39 (some ⟨b, off, none⟩) n c Tryd.underlying22]
  have HN := Lib.hid hnews
  have HO := Lib.hid hown
  have HB := Lib.hid hb
  have HL := Lib.hid hl
  have HG := Lib.hid hv.good
  clear hv hnews hown hb h1 h2 h3 h4 hl
  go_enter Tryd.func82, Tryd.ntmps82
  go_wp2_with (at_builtin; refine appN (w0 := w) w.heap.size rfl (.tmp 5) (.tmp 6) 22 39 vz39 17 24 rfl Tryd.underlying22 vinfo39 rfl (by omega) (by omega) _ 0 [] rfl ⟨b, off, none⟩ n c (rcells vs) rfl (by rw [rcells_len vs HG.out, HL.out]) HN.out (one_rcells vs) HO.out HB.out (by simp) (by omega) ?_; intro v5 w5 ap5; obtain ⟨A5, c5, rfl⟩ := own_form' ap5.own; have O5 := Lib.hid ap5.own; have B5 := Lib.hid ap5.below; clear ap5)
  go_ret
  exact ⟨A5, c5, by simp, by simpa using O5.out, B5.out⟩
end
end Go.Proofs.YtideopnblhbngaaDoor
