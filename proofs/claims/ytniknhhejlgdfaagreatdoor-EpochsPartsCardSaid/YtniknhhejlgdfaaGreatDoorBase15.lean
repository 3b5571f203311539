/- Lemmas that laws of this seat rest on, part 15; each says its own conditions: Ch, KitG, KitA, Chk1, ChM, AppS, SgO. -/
import Derived.Deep.Strs
import Derived.Lib.SmallJoins
import Derived.Maps.AppendAt
import Derived.Test.YtniknhhejlgdfaaGreatDoorBase7
import Derived.Test.YtniknhhejlgdfaaGreatDoorBase9
import Derived.Test.YtniknhhejlgdfaaGreatDoorBase11
import Derived.Test.YtniknhhejlgdfaaGreatDoorBase13
import Derived.Test.YtniknhhejlgdfaaGreatDoorBase14
/- A Change as data and as it lies; what the program asks of it, in plain words; an array's element of many cells. -/
namespace Go.Proofs.YtniknhhejlgdfaaGreatDoor
open Go.RowKit

structure Ch where
  b : Nat → Bk
  q : Qc
def Ch.qc (c : Ch) (i : Nat) : Qc := if i = 2 then c.q else (c.b (i + 1)).justify
def Q64 (q : Qc) : Prop := I64 q.epoch ∧ I64 q.round
def bl3 (f : Nat → List Value) : List Value := f 0 ++ (f 1 ++ f 2)
def chC (f : Nat → List Value) (cq : List Value) : List Value := bl3 f ++ cq
structure ChAt (w : World) (cs : List Value) (c : Ch) : Prop where
  ex : ∃ f cq, cs = chC f cq ∧ (∀ i, i < 3 → BkAt w (f i) (c.b i)) ∧ QcAt w cq c.q
  i64 : ∀ i, i < 3 → I64 (c.b i).epoch ∧ I64 (c.b i).round ∧ Q64 (c.qc i)
theorem ChAt.below {w w' : World} {cs : List Value} {c : Ch} (h : ChAt w cs c) (hb : Below w.heap.size w w') : ChAt w' cs c := by
  obtain ⟨f, cq, e, h1, h2⟩ := h.ex
  exact ⟨⟨f, cq, e, fun i hi => (h1 i hi).below hb, h2.below hb⟩, h.i64⟩

def all3 (p : Nat → Bool) : Bool := p 0 && (p 1 && p 2)
theorem all3_no {p : Nat → Bool} (i : Nat) (hi : i < 3) (h : p i = false) : all3 p = false := by
  have : i = 0 ∨ i = 1 ∨ i = 2 := by omega
  unfold all3
  rcases this with rfl | rfl | rfl <;> simp [h]
theorem all3_yes {p : Nat → Bool} (h : ∀ i, i < 3 → p i = true) : all3 p = true := by
  unfold all3
  rw [h 0 (by omega), h 1 (by omega), h 2 (by omega)]
  rfl
def idOk (c : Ch) (i : Nat) : Bool := (encB (c.b i)).isSome && (decide (i = 0) || decide ((c.b i).parent = idB (c.b (i - 1))))
def rdOk (c : Ch) (i : Nat) : Bool := decide (1 ≤ (c.b i).round ∧ (c.b i).round ≤ 1099511627776) && (decide (i = 0) || decide ((c.b i).round = (c.b (i - 1)).round + 1))
def ftOk (c : Ch) (i : Nat) : Bool := decide ((c.qc i).block = idB (c.b i) ∧ (c.qc i).epoch = (c.b i).epoch ∧ (c.qc i).round = (c.b i).round)
def epOk (e : Int) (c : Ch) (i : Nat) : Bool := decide ((c.b i).epoch = e)
/-- What joined answers. -/
def jN (c : Ch) : Nat := if all3 (idOk c) = true then (if all3 (rdOk c) = true then (if all3 (ftOk c) = true then 0 else 12) else 14) else 16
/-- What a ground's QC answers. -/
def qcN (vs : List Va) (e : Int) (gen : List Int) (q : Qc) : Nat := if q.round = 0 then qc0N vs e gen q.epoch q.block q.votes.length else qcrN vs e q.epoch q.round q.block q.votes
def qcsN (vs : List Va) (e : Int) (gen : List Int) (c : Ch) : Nat := if qcN vs e gen (c.qc 0) = 0 then (if qcN vs e gen (c.qc 1) = 0 then qcN vs e gen (c.qc 2) else qcN vs e gen (c.qc 1)) else qcN vs e gen (c.qc 0)
/-- What epochs.Check answers. -/
def chkN (vs : List Va) (e : Int) (gen : List Int) (c : Ch) : Nat :=
  if validB vs = false then 11 else if all3 (epOk e c) = false then 18 else if jN c ≠ 0 then jN c else if qcsN vs e gen c ≠ 0 then qcsN vs e gen c else if validB (c.b 0).next = true then 0 else 11
theorem qcN_le (vs : List Va) (e : Int) (gen : List Int) (q : Qc) : qcN vs e gen q ≤ 18 := by
  unfold qcN
  split
  · unfold qc0N
    have := beginN_le vs e q.epoch 0 0
    split
    · split <;> omega
    · exact this
  · exact qcrN_le _ _ _ _ _ _
theorem jN_le (c : Ch) : jN c ≤ 18 := by 
  unfold jN
  by_cases h1 : all3 (idOk c) = true <;> by_cases h2 : all3 (rdOk c) = true <;> by_cases h3 : all3 (ftOk c) = true <;> simp [h1, h2, h3]
theorem qcsN_le (vs : List Va) (e : Int) (gen : List Int) (c : Ch) : qcsN vs e gen c ≤ 18 := by
  unfold qcsN
  repeat' split
  all_goals exact qcN_le _ _ _ _
theorem chkN_le (vs : List Va) (e : Int) (gen : List Int) (c : Ch) : chkN vs e gen c ≤ 18 := by
  unfold chkN
  have := jN_le c
  have := qcsN_le vs e gen c
  repeat' split
  all_goals omega
theorem errN_zero {al : List Addr} {n : Nat} (hl : al.length = 18) (hn : n ≤ 18) : (n = 0 ∧ errN al n = .nilIface) ∨ (n ≠ 0 ∧ ∃ a, errN al n = errV a) := by
  rcases n with _ | n
  · exact .inl ⟨rfl, rfl⟩
  · refine .inr ⟨by omega, al[n]'(by omega), ?_⟩
    exact errN_at (List.getElem?_eq_getElem (by omega))

/-- An element of many cells of an array. -/
theorem run_isAgg_yes (t : TypeId) (hu : (Tryz.prog.underlying t).map (fun d => match d with | .struct _ | .array _ _ => true | _ => false) = some true) (w : World) : (isAgg t).run Tryz.prog w = .ok true w := by
  unfold isAgg
  cases hd : Tryz.prog.underlying t with
  | none => rw [hd] at hu; cases hu
  | some d =>
    rw [Sem.run_bind, run_underlying hd w]
    rw [hd] at hu
    cases d <;> simp_all
theorem run_index_agg (t e n sz : Nat) (ht : Tryz.prog.underlying t = some (.array n e)) (hu : (Tryz.prog.underlying e).map (fun d => match d with | .struct _ | .array _ _ => true | _ => false) = some true) (hs : (Tryz.prog.info? e).map (·.size) = some sz)
    (cs row : List Value) (i : Nat) (hi : i < n) (hr : (cs.drop (i * sz)).take sz = row) (k : IntKind) (w : World) : (Instr.index t (.agg cs.toArray) (.int k i)).run Tryz.prog w = .ok (.agg row.toArray) w := by
  cases hq : Tryz.prog.info? e with
  | none => simp [hq] at hs
  | some inf =>
    have hsz : inf.size = sz := by simpa [hq] using hs
    have h01 : 0 ≤ (i : Int) ∧ (i : Int) < (n : Int) := ⟨by omega, by omega⟩
    have hru := run_underlying ht w
    have hag := run_isAgg_yes e hu w
    simp only [Instr.index, asIntOf, Sem.run_bind, Sem.run_pure, Result.andThen_ok, hru, if_pos h01, sizeOf, typeInfo, program, Sem.run, hq, hsz, part, hag, if_true, Int.toNat_natCast]
    rw [← hr]
    simp [List.extract_toArray, List.extract_eq_take_drop]
section
variable {ops : Array Oper} {rest : List Oper} {o : Oper} {a : Act} {w : World} {Q : Exit → Act → World → Prop}
theorem wpList_ixG (hw : Region.wanted o (yielded ops a.tmps) = true) (t : TypeId) (x ix : Operand) (ho : o.op = .index t x ix) (cv iv v : Value) (hx : a.eval x = cv) (hi : a.eval ix = iv) (hr : (Instr.index t cv iv).run Tryz.prog w = .ok v w)
    (h : wpList Tryz.prog ops Q rest (a.put o.dst v) w) : wpList Tryz.prog ops Q (o :: rest) a w := by
  refine wpList_step fun K hK => ?_
  rw [if_pos hw]
  unfold Oper.wp execOp
  simp only [ho, hx, hi, Sem.run_bind, hr, Result.andThen_ok, Sem.run_pure]
  exact hK _ _ h
end
theorem bl3_at (f : Nat → List Value) (n i : Nat) (hf : ∀ j, j < 3 → (f j).length = n) (hi : i < 3) : ((bl3 f).drop (i * n)).take n = f i := by
  have h0 := hf 0 (by omega)
  have h1 := hf 1 (by omega)
  have h2 := hf 2 (by omega)
  have : i = 0 ∨ i = 1 ∨ i = 2 := by omega
  unfold bl3
  rcases this with rfl | rfl | rfl
  · rw [Nat.zero_mul, List.drop_zero, List.take_left' h0]
  · rw [Nat.one_mul, List.drop_left' h0, List.take_left' h1]
  · rw [show f 0 ++ (f 1 ++ f 2) = (f 0 ++ f 1) ++ f 2 by rw [List.append_assoc], List.drop_left' (by rw [List.length_append]; omega), List.take_of_length_le (by omega)]
theorem bl3_len (f : Nat → List Value) (n : Nat) (hf : ∀ j, j < 3 → (f j).length = n) : (bl3 f).length = 3 * n := by
  unfold bl3
  rw [List.length_append, List.length_append, hf 0 (by omega), hf 1 (by omega), hf 2 (by omega)]
  omega
theorem bl3_range {w : World} {b : Nat} {off : Nat} {f : Nat → List Value} (n : Nat) (hf : ∀ j, j < 3 → (f j).length = n) (h : w.rangeAt b off (bl3 f)) (i : Nat) (hi : i < 3) : w.rangeAt b (off + i * n) (f i) := fun j u hu => by
  rw [show off + i * n + j = off + (i * n + j) by omega]
  refine h _ u ?_
  have := bl3_at f n i hf hi
  rw [← this] at hu
  have hj : j < n := by
    have h1 := (List.getElem?_eq_some_iff.1 hu).1
    rw [List.length_take] at h1
    omega
  rw [List.getElem?_take, if_pos hj, List.getElem?_drop] at hu
  exact hu
theorem run_index33 (f : Nat → List Value) (hf : ∀ j, j < 3 → (f j).length = 39) (i : Nat) (hi : i < 3) (w : World) : (Instr.index 33 (.agg (bl3 f).toArray) (.int .i64 i)).run Tryz.prog w = .ok (.agg (f i).toArray) w :=
  run_index_agg 33 32 3 39 (by kernel_rfl) (by kernel_rfl) (by kernel_rfl) _ _ i hi (bl3_at f 39 i hf hi) _ _
theorem run_index102 (f : Nat → List Value) (hf : ∀ j, j < 3 → (f j).length = 19) (i : Nat) (hi : i < 3) (w : World) : (Instr.index 102 (.agg (bl3 f).toArray) (.int .i64 i)).run Tryz.prog w = .ok (.agg (f i).toArray) w :=
  run_index_agg 102 29 3 19 (by kernel_rfl) (by kernel_rfl) (by kernel_rfl) _ _ i hi (bl3_at f 19 i hf hi) _ _
theorem QcAt.len {w : World} {cs : List Value} {q : Qc} (h : QcAt w cs q) : cs.length = 19 := by
  obtain ⟨A, c, e, _⟩ := h.ex
  rw [e]
  exact qc_len _ _ _ _ h.blk.1
/-- What the QC of a block's cells is. -/
theorem BkAt.jus {w : World} {cs : List Value} {b : Bk} (h : BkAt w cs b) : ∃ q, (cs.drop 18).take 19 = q ∧ QcAt w q b.justify := by
  obtain ⟨q, A, c, B, d, e, h1, _, _⟩ := h.ex
  refine ⟨q, ?_, h1⟩
  rw [e]
  unfold bkC
  rw [← List.append_assoc, List.drop_left' (by simp [u8s_len', h.par.1]), List.take_left' h1.len]
end Go.Proofs.YtniknhhejlgdfaaGreatDoor
/- A ground that came in. -/
namespace Go.Proofs.YtniknhhejlgdfaaGreatDoor
open Go.ChangeShapes Go.WideShapes Go.ChangeAt Go.RowKit

set_option maxRecDepth 100000 in
theorem open_ground {H : Type} {enc : TypeId × Value → H} {W : World} {base : Nat} {spare : Nat → Bool} {held : Bool} {v : Value} {d : DataW H} {ps : List MemPlace}
    (h : DataW.Trod enc Tryz.prog W base spare held 26 v d ps) : ∃ e A n c g, v = .agg (gndC e (.slice A n c) g).toArray ∧ g.length = 16 := by
  have c27 : Tryz.prog.cellsOf 26 = 18 := by kernel_rfl
  have c3 : Tryz.prog.cellsOf 3 = 1 := by kernel_rfl
  have c22 : Tryz.prog.cellsOf 22 = 1 := by kernel_rfl
  have c24 : Tryz.prog.cellsOf 24 = 16 := by kernel_rfl
  obtain ⟨fuel, hf⟩ := h
  obtain ⟨y0, y1, y2, m, _, hlen, h0, h1, h2⟩ := Go.Deep.trod_struct3 Tryz.underlying26 hf
  rw [c27] at hlen
  have hv : ∃ cs, v = .agg cs := by
    cases v with
    | agg cs => exact ⟨cs, rfl⟩
    | _ => simp [Value.cells] at hlen
  obtain ⟨cs, rfl⟩ := hv
  simp only [Value.cells] at hlen h0 h1 h2
  simp only [c3, c22, c24] at h0 h1 h2
  obtain ⟨e, he, _, _⟩ := DataW.trod_int Tryz.underlying3 h0
  obtain ⟨g, hg, lg, _⟩ := open_dg_cells h2
  have hs : ∃ A n c, ((cs.toList.drop 1).take 1) = [.slice A n c] := by
    rcases DataW.trod_slice Tryz.underlying22 h1 with ⟨hc, _⟩ | ⟨a, len, cap, elems, rest, k, _, hc, _⟩
    · exact ⟨none, 0, 0, hc⟩
    · exact ⟨some a, len, cap, hc⟩
  obtain ⟨A, n, c, hs⟩ := hs
  refine ⟨e, A, n, c, g, ?_, lg⟩
  have : cs.toList = gndC e (.slice A n c) g := by
    have e0 : cs.toList = cs.toList.take 1 ++ ((cs.toList.drop 1).take 1 ++ (cs.toList.drop 2).take 16) := by
      rw [List.take_of_length_le (l := cs.toList.drop 2) (by rw [List.length_drop]; omega)]
      have h2 : cs.toList.drop 2 = (cs.toList.drop 1).drop 1 := by rw [List.drop_drop]
      rw [h2, List.take_append_drop, List.take_append_drop]
    rw [List.drop_zero] at he
    rw [e0, he, hs, hg]
    rfl
  rw [← this, Array.toArray_toList]
end Go.Proofs.YtniknhhejlgdfaaGreatDoor
/- What is asked of the proofs, as it came in: a ground and a QC. -/
namespace Go.Proofs.YtniknhhejlgdfaaGreatDoor
open Go.ChangeShapes Go.WideShapes Go.ChangeAt Go.RowKit

section
variable {H : Type} {enc : TypeId × Value → H} {W : World} {base : Nat} {spare : Nat → Bool} {held : Bool}
set_option maxRecDepth 100000 in
theorem open_sd_cells {fuel : Nat} {cs : List Value} {x : DataW H × List MemPlace} (h : DataW.trod enc Tryz.prog W base spare held fuel 58 cs = some x) : ∃ X : Sd, SdAt W cs X ∧ cs.length = 4 := by
  have c68 : Tryz.prog.cellsOf 58 = 4 := by kernel_rfl
  have c66 : Tryz.prog.cellsOf 56 = 3 := by kernel_rfl
  have c3 : Tryz.prog.cellsOf 3 = 1 := by kernel_rfl
  have c43' : Tryz.prog.cellsOf 54 = 1 := by kernel_rfl
  obtain ⟨y0, y1, m, _, hl, h0, h1⟩ := trod_struct2 Tryz.underlying58 h
  rw [c68] at hl
  obtain ⟨z0, z1, z2, m2, _, hl2, g0, g1, g2⟩ := Go.Deep.trod_struct3 Tryz.underlying56 h1
  obtain ⟨a0, a1, a2, a3, rfl⟩ : ∃ a0 a1 a2 a3, cs = [a0, a1, a2, a3] := by
    match cs, hl with
    | [a0, a1, a2, a3], _ => exact ⟨a0, a1, a2, a3, rfl⟩
  simp only [c3, List.drop_zero, List.take_succ_cons, List.take_zero] at h0
  simp only [c66, c3, List.drop_succ_cons, List.drop_zero, List.take_succ_cons, List.take_zero] at g0
  simp only [c66, c43', List.drop_succ_cons, List.drop_zero, List.take_succ_cons, List.take_zero] at g1 g2
  obtain ⟨w0, e0, _, _⟩ := DataW.trod_int Tryz.underlying3 h0
  obtain ⟨l0, f0, _, _⟩ := DataW.trod_int Tryz.underlying3 g0
  obtain ⟨ds, A, c, e1, hd⟩ := open_dgs_cells g1
  obtain ⟨qs, B, e, e2, hq⟩ := open_dgs_cells g2
  simp only [List.cons.injEq, and_true] at e0 f0 e1 e2
  subst e0 f0 e1 e2
  exact ⟨⟨w0, l0, ds, qs⟩, ⟨A, c, B, e, rfl, hd, hq⟩, rfl⟩

set_option maxRecDepth 100000 in
theorem open_sgs_cells {fuel : Nat} {cs : List Value} {x : DataW H × List MemPlace} (h : DataW.trod enc Tryz.prog W base spare held fuel 27 cs = some x) : ∃ xs A c, cs = [.slice A xs.length c] ∧ Sgs W (.slice A xs.length c) xs := by
  have c68 : Tryz.prog.cellsOf 58 = 4 := by kernel_rfl
  rcases DataW.trod_slice Tryz.underlying27 h with ⟨rfl, _⟩ | ⟨a, n, c, elems, rest, k, _, rfl, _, _, hl, hm, hlen, hel, _, _⟩
  · exact ⟨[], none, 0, rfl, ⟨_, _, rfl⟩, fun h => absurd rfl h⟩
  · have each : ∀ i, ∃ X : Sd × List Value, i < n → (SdAt W X.2 X.1 ∧ X.2.length = 4) ∧ ∀ j u, X.2[j]? = some u → W.cell? ((a.add (i * 4)).add j) = some u := by
      intro i
      by_cases hi : i < n
      · have he := hel i hi
        rw [c68, List.getElem?_eq_getElem (by omega), Option.bind_eq_some_iff] at he
        obtain ⟨cs', hcs, hy'⟩ := he
        obtain ⟨X, hX, hl4⟩ := open_sd_cells hy'
        refine ⟨(X, cs'), fun _ => ⟨⟨hX, hl4⟩, fun j u hu => ?_⟩⟩
        have := (World.cells?_some hcs).2
        have hj : j < 4 := by have := (List.getElem?_eq_some_iff.1 hu).1; rwa [hl4] at this
        first
          | exact (this j hj).trans hu
          | exact (this.2 j hj).trans hu
      · exact ⟨(Sd.none, []), fun h => absurd h hi⟩
    obtain ⟨f, hff⟩ := Classical.axiomOfChoice each
    refine ⟨(List.range n).map (fun i => (f i).1), some a, c, by simp, ⟨some a, c, by simp⟩, fun hne => ?_⟩
    have hn : 0 < n := by
      cases n with
      | zero => exact absurd rfl hne
      | succ => omega
    obtain ⟨b, off, sp⟩ := a
    obtain ⟨⟨_, hl0⟩, h0⟩ := hff 0 hn
    have h00 : ∃ u, (f 0).2[0]? = some u := ⟨_, List.getElem?_eq_getElem (by omega)⟩
    obtain ⟨u, hu⟩ := h00
    have hc0 := h0 0 u hu
    have hadd0 : (⟨b, off, sp⟩ : Addr).add (0 * 4) = ⟨b, off, sp⟩ := by simp [Addr.add]
    rw [hadd0] at hc0
    obtain rfl := spot_none hc0
    refine ⟨b, off, c, by simp, by simpa using hl, hm, World.block_lt_of_cell? W _ hc0, fun i hi => ?_⟩
    have hi : i < n := by simpa using hi
    refine ⟨(f i).2, fun j u hu => ?_, ?_⟩
    · have := (hff i hi).2 j u hu
      rw [add_none, add_none] at this
      exact this
    · rw [List.getD_eq_getElem?_getD, List.getElem?_map, List.getElem?_range hi]
      exact (hff i hi).1.1
theorem wf_i64 {n : Int} (h : (Lit.int .i64 n).wf = true) : I64 n := by
  unfold I64
  simp only [Lit.wf, IntKind.min, IntKind.max, IntKind.signed, IntKind.bits] at h
  simp at h
  omega
set_option maxRecDepth 100000 in
theorem open_vals_cells {fuel : Nat} {cs : List Value} {x : DataW H × List MemPlace} (h : DataW.trod enc Tryz.prog W base spare held fuel 22 cs = some x) : ∃ xs A c, cs = [.slice A xs.length c] ∧ Vals W (.slice A xs.length c) xs := by
  have c45 : Tryz.prog.cellsOf 90 = 17 := by kernel_rfl
  rcases DataW.trod_slice Tryz.underlying22 h with ⟨rfl, _⟩ | ⟨a, n, c, elems, rest, k, _, rfl, _, _, hl, hm, hlen, hel, _, _⟩
  · exact ⟨[], none, 0, rfl, ⟨_, _, rfl⟩, fun h => absurd rfl h, fun x hx => by simp at hx⟩
  · have each : ∀ i, ∃ X : Va, i < n → X.1.length = 16 ∧ ∀ j u, (vcells X)[j]? = some u → W.cell? ((a.add (i * 17)).add j) = some u := by
      intro i
      by_cases hi : i < n
      · have he := hel i hi
        rw [c45, List.getElem?_eq_getElem (by omega), Option.bind_eq_some_iff] at he
        obtain ⟨cs', hcs, hy'⟩ := he
        obtain ⟨X, rfl, hX⟩ := open_va hy'
        refine ⟨X, fun _ => ⟨hX, fun j u hu => ?_⟩⟩
        have := (World.cells?_some hcs).2
        have hj : j < 17 := by have := (List.getElem?_eq_some_iff.1 hu).1; rwa [vcells_len X hX] at this
        first
          | exact (this j hj).trans hu
          | exact (this.2 j hj).trans hu
      · exact ⟨([], 0), fun h => absurd h hi⟩
    obtain ⟨f, hff⟩ := Classical.axiomOfChoice each
    refine ⟨(List.range n).map f, some a, c, by simp, ⟨some a, c, by simp⟩, fun hne => ?_, fun x hx => ?_⟩
    · have hn : 0 < n := by
        cases n with
        | zero => exact absurd rfl hne
        | succ => omega
      obtain ⟨b, off, sp⟩ := a
      obtain ⟨hl0, h0⟩ := hff 0 hn
      have h00 : ∃ u, (vcells (f 0))[0]? = some u := ⟨_, List.getElem?_eq_getElem (by rw [vcells_len _ hl0]; omega)⟩
      obtain ⟨u, hu⟩ := h00
      have hc0 := h0 0 u hu
      have hadd0 : (⟨b, off, sp⟩ : Addr).add (0 * 17) = ⟨b, off, sp⟩ := by simp [Addr.add]
      rw [hadd0] at hc0
      obtain rfl := spot_none hc0
      refine ⟨b, off, c, by simp, by simpa using hl, hm, World.block_lt_of_cell? W _ hc0, fun i hi j u hu => ?_⟩
      have hi : i < n := by simpa using hi
      rw [List.getD_eq_getElem?_getD, List.getElem?_map, List.getElem?_range hi] at hu
      have := (hff i hi).2 j u hu
      rw [add_none, add_none] at this
      exact this
    · rw [List.mem_map] at hx
      obtain ⟨i, hi, rfl⟩ := hx
      exact (hff i (by simpa using hi)).1
set_option maxRecDepth 100000 in
theorem open_ground_cells {fuel : Nat} {cs : List Value} {x : DataW H × List MemPlace} (h : DataW.trod enc Tryz.prog W base spare held fuel 26 cs = some x) : ∃ e vs A c g, cs = gndC e (.slice A vs.length c) g ∧ Vals W (.slice A vs.length c) vs ∧ g.length = 16 := by
  have c27 : Tryz.prog.cellsOf 26 = 18 := by kernel_rfl
  have c3 : Tryz.prog.cellsOf 3 = 1 := by kernel_rfl
  have c22 : Tryz.prog.cellsOf 22 = 1 := by kernel_rfl
  have c24 : Tryz.prog.cellsOf 24 = 16 := by kernel_rfl
  obtain ⟨y0, y1, y2, m, _, hlen, h0, h1, h2⟩ := Go.Deep.trod_struct3 Tryz.underlying26 h
  rw [c27] at hlen
  simp only [c3, c22, c24] at h0 h1 h2
  obtain ⟨e, he, _, _⟩ := DataW.trod_int Tryz.underlying3 h0
  obtain ⟨g, hg, lg, _⟩ := open_dg_cells h2
  obtain ⟨vs, A, c, hs, hv⟩ := open_vals_cells h1
  refine ⟨e, vs, A, c, g, ?_, hv, lg⟩
  have e0 : cs = cs.take 1 ++ ((cs.drop 1).take 1 ++ (cs.drop 2).take 16) := by
    rw [List.take_of_length_le (l := cs.drop 2) (by rw [List.length_drop]; omega)]
    have h2 : cs.drop 2 = (cs.drop 1).drop 1 := by rw [List.drop_drop]
    rw [h2, List.take_append_drop, List.take_append_drop]
  rw [List.drop_zero] at he
  rw [e0, he, hs, hg]
  rfl
set_option maxRecDepth 100000 in
theorem open_qc_cells {fuel : Nat} {cs : List Value} {x : DataW H × List MemPlace} (h : DataW.trod enc Tryz.prog W base spare held fuel 29 cs = some x) : ∃ e r blk xs A c, cs = qcC e r blk (.slice A xs.length c) ∧ Sgs W (.slice A xs.length c) xs ∧ (blk.length = 16 ∧ u8s_ok blk) ∧ I64 e ∧ I64 r := by
  have c37 : Tryz.prog.cellsOf 29 = 19 := by kernel_rfl
  have c35 : Tryz.prog.cellsOf 27 = 1 := by kernel_rfl
  have c3 : Tryz.prog.cellsOf 3 = 1 := by kernel_rfl
  have c24 : Tryz.prog.cellsOf 24 = 16 := by kernel_rfl
  obtain ⟨y0, y1, y2, y3, m, _, hl, h0, h1, h2, h3⟩ := Go.Joins.trod_struct4 Tryz.underlying29 h
  rw [c37] at hl
  simp only [c3, c24, c35] at h0 h1 h2 h3
  obtain ⟨e, he, _, we⟩ := DataW.trod_int Tryz.underlying3 h0
  obtain ⟨r, hr, _, wr⟩ := DataW.trod_int Tryz.underlying3 h1
  obtain ⟨blk, hb, lb, ob⟩ := open_dg_cells h2
  obtain ⟨xs, A, c, hs, hx⟩ := open_sgs_cells h3
  refine ⟨e, r, blk, xs, A, c, ?_, hx, ⟨lb, ob⟩, wf_i64 we, wf_i64 wr⟩
  have e0 : cs = cs.take 1 ++ ((cs.drop 1).take 1 ++ ((cs.drop 2).take 16 ++ (cs.drop 18).take 1)) := by
    rw [List.take_of_length_le (l := cs.drop 18) (by rw [List.length_drop]; omega)]
    have h2 : cs.drop 2 = (cs.drop 1).drop 1 := by rw [List.drop_drop]
    have h18 : cs.drop 18 = (cs.drop 2).drop 16 := by rw [List.drop_drop]
    rw [h18, List.take_append_drop, h2, List.take_append_drop, List.take_append_drop]
  rw [List.drop_zero] at he
  rw [e0, he, hr, hb, hs]
  rfl
set_option maxRecDepth 100000 in
theorem open_asked {v : Value} {d : DataW H} {ps : List MemPlace} (h : DataW.Trod enc Tryz.prog W base spare held 83 v d ps) :
    ∃ e vs A c g qe qr blk xs B k tl, v = .agg (gndC e (.slice A vs.length c) g ++ (qcC qe qr blk (.slice B xs.length k) ++ tl)).toArray ∧ g.length = 16 ∧ Vals W (.slice A vs.length c) vs ∧ Sgs W (.slice B xs.length k) xs ∧ (blk.length = 16 ∧ u8s_ok blk) ∧ I64 qe ∧ I64 qr ∧ tl.length = 3 := by
  have c60 : Tryz.prog.cellsOf 83 = 40 := by kernel_rfl
  have c27 : Tryz.prog.cellsOf 26 = 18 := by kernel_rfl
  have c37 : Tryz.prog.cellsOf 29 = 19 := by kernel_rfl
  obtain ⟨fuel, hf⟩ := h
  obtain ⟨y0, y1, y2, m, _, hlen, h0, h1, _⟩ := Go.Deep.trod_struct3 Tryz.underlying83 hf
  rw [c60] at hlen
  have hv : ∃ cs, v = .agg cs := by
    cases v with
    | agg cs => exact ⟨cs, rfl⟩
    | _ => simp [Value.cells] at hlen
  obtain ⟨cs, rfl⟩ := hv
  simp only [Value.cells] at hlen h0 h1
  simp only [c27, c37] at h0 h1
  obtain ⟨e, vs, A, c, g, hg, hvs, lg⟩ := open_ground_cells h0
  obtain ⟨qe, qr, blk, xs, B, k, hq, hx, hb, i1, i2⟩ := open_qc_cells h1
  refine ⟨e, vs, A, c, g, qe, qr, blk, xs, B, k, cs.toList.drop 37, ?_, lg, hvs, hx, hb, i1, i2, by rw [List.length_drop]; omega⟩
  have e0 : cs.toList = cs.toList.take 18 ++ ((cs.toList.drop 18).take 19 ++ cs.toList.drop 37) := by
    have h37 : cs.toList.drop 37 = (cs.toList.drop 18).drop 19 := by rw [List.drop_drop]
    rw [h37, List.take_append_drop, List.take_append_drop]
  rw [List.drop_zero] at hg
  rw [← hg, ← hq, ← e0, Array.toArray_toList]
end
end Go.Proofs.YtniknhhejlgdfaaGreatDoor
/- Ground.QC of every QC; the blocks of another epoch; a Change's QCs; does a QC fit a block. -/
namespace Go.Proofs.YtniknhhejlgdfaaGreatDoor
open Go.RowKit

theorem qc_any (e : Int) (vs : List Va) (A : Option Addr) (n c : Nat) (gen : List Int) (hg : gen.length = 16) (cs : List Value) (q : Qc) (hi : Q64 q) (al : List Addr) (w : World) (hv : Vals w (.slice A n c) vs) (hs : SenN w al) (hk : w.rangeAt 18 0 (u32s kk)) (hq : QcAt w cs q) (hn : n ≤ 1000000) :
    Calls Tryz.prog 24 #[.agg (gndC e (.slice A n c) gen).toArray, .agg cs.toArray] w fun x w' => x = .returned (errN al (qcN vs e gen q)) ∧ Below w.heap.size w w' := by
  obtain ⟨B, d, rfl, hx⟩ := hq.ex
  unfold qcN
  by_cases hr : q.round = 0
  · rw [if_pos hr, hr]
    exact qc0_any e vs A n c gen hg q.epoch q.block hq.blk.1 B q.votes.length d al w hv hs
  · rw [if_neg hr]
    exact qcr_any e vs A n c gen hg q.epoch q.round hr hi.1 hi.2 q.block hq.blk.1 hq.blk.2 B q.votes.length d q.votes al w hv hs hk hx hn
theorem bk_0 {w : World} {b t : Nat} {cs : List Value} {B : Bk} {w0 : World} (h : w.heap[b]? = some (.cells cs.toArray t (0, 0))) (hB : BkAt w0 cs B) : w.cell? ⟨b, 0, none⟩ = some (.int .i64 B.epoch) ∧ w.cell? ⟨b, 1, none⟩ = some (.int .i64 B.round) := by
  obtain ⟨q, A, c, B', d, rfl, _, _, _⟩ := hB.ex
  exact ⟨blk_cell h 0 _ rfl, blk_cell h 1 _ rfl⟩
theorem qc_len' (e r : Int) (blk : List Int) (v : Value) (h : blk.length = 16) : (qcC e r blk v).length = 19 := qc_len e r blk v h
/-- The parent of a block that lies. -/
theorem bk_2 {w : World} {b t : Nat} {cs : List Value} {B : Bk} {w0 : World} (h : w.heap[b]? = some (.cells cs.toArray t (0, 0))) (hB : BkAt w0 cs B) : w.rangeAt b 2 (u8s B.parent) := by
  obtain ⟨q, A, c, B', d, rfl, _, _, _⟩ := hB.ex
  exact bk_par h
theorem one_bk {cs : List Value} {B : Bk} {w0 : World} (hB : BkAt w0 cs B) : ∀ u ∈ cs, u.oneCell' = true := by
  obtain ⟨q, A, c, B', d, rfl, hq, _, _⟩ := hB.ex
  obtain ⟨A2, c2, rfl, _⟩ := hq.ex
  intro u hu
  simp only [bkC, List.mem_append, List.mem_cons, List.not_mem_nil, or_false] at hu
  rcases hu with (rfl | rfl) | hu | hu | rfl | rfl
  · rfl
  · rfl
  · exact one_u8s _ u hu
  · exact one_qc _ _ _ _ rfl u hu
  · rfl
  · rfl
theorem one_qcAt {cs : List Value} {q : Qc} {w0 : World} (h : QcAt w0 cs q) : ∀ u ∈ cs, u.oneCell' = true := by
  obtain ⟨A, c, rfl, _⟩ := h.ex
  exact one_qc _ _ _ _ rfl
set_option maxHeartbeats 16000000 in
set_option maxRecDepth 100000 in
theorem other34_any (e : Int) (g : Nat) (cs : List Value) (b : Bk) (w : World) (hB : BkAt w cs b) (hc : w.cell? ⟨g, 0, none⟩ = some (.int .i64 e)) :
    Calls Tryz.prog 34 #[.agg cs.toArray, .pointer (some ⟨g, 0, none⟩)] w fun x w' => x = .returned (.bool (!decide (b.epoch = e))) ∧ Below w.heap.size w w' := by
  have b0 : Below w.heap.size w (w.alloc (.cells cs.toArray 32)) := (Below.refl _ _).alloc (Nat.le_refl _) _
  have c0 := (bk_0 (heap_alloc_new w (.cells cs.toArray 32)) hB).1
  have c1 := cell_on b0 hc
  clear hB hc
  go_enter Tryz.func34, Tryz.ntmps34
  go_wp2_with fail
  go_ret
  exact ⟨rfl, b0⟩
set_option maxHeartbeats 16000000 in
set_option maxRecDepth 100000 in
theorem index69_any (e : Int) (g : Nat) (f : Nat → List Value) (c : Ch) (B off : Nat) (w : World) (hr : w.rangeAt B off (bl3 f)) (hB : ∀ i, i < 3 → BkAt w (f i) (c.b i)) (hc : w.cell? ⟨g, 0, none⟩ = some (.int .i64 e)) :
    Calls Tryz.prog 69 #[.slice (some ⟨B, off, none⟩) 3 3, .func (.func 34) #[] #[.pointer (some ⟨g, 0, none⟩)]] w fun x w' => (∃ z : Int, x = .returned (.int .i64 z) ∧ (decide (0 ≤ z)) = !all3 (epOk e c)) ∧ Below w.heap.size w w' := by
  have HR := Lib.hid hr
  have HB := Lib.hid hB
  have HL := Lib.hid (fun j hj => (hB j hj).len)
  have HC := Lib.hid hc
  clear hr hB hc
  go_enter Tryz.func69, Tryz.ntmps69
  go_wp2
  go_loopw [5, 8] (fun _ x wr => ∃ (i : Nat), i ≤ 3 ∧ x = .int .i64 i ∧ Hid (∀ j, j < i → epOk e c j = true) ∧ Hid (Below w.heap.size w wr)) (fun _ x _ => 3 - (intOf x).toNat)
  case atStart => exact ⟨0, by omega, rfl, Lib.hid (fun j h => absurd h (by omega)), Lib.hid (Below.refl _ _)⟩
  case round =>
    obtain ⟨i, hi, rfl, hok, hbel⟩ := hrel
    by_cases hlt : i < 3
    · have hil : (i : Int) < 3 := by omega
      have RG := Lib.hid (range_below (bl3_range 39 HL.out HR.out i hlt) hbel.out)
      have BK := Lib.hid ((HB.out i hlt).below hbel.out)
      go_wp2_with (refine wpList_load_g rfl 32 (.tmp 14) rfl B (off + i * 39) rfl (f i) _ RG.out Tryz.underlying32 rfl (by rw [BK.out.len]; exact Tryz.size32) ?_)
      refine (other34_any e g (f i) (c.b i) wr BK.out (cell_on hbel.out HC.out)).mono ?_
      rintro _ w1 ⟨rfl, hb1⟩
      have B1 := Lib.hid (hbel.out.trans (hb1.mono hbel.out.size))
      clear hb1
      by_cases he : (c.b i).epoch = e
      · rw [decide_eq_true he]
        go_wp2_with fail
        go_roundw
        case rel => exact ⟨i + 1, by omega, by go_num, Lib.hid (fun j hj => by
          by_cases hji : j = i
          · subst hji; unfold epOk; exact decide_eq_true he
          · exact hok.out j (by omega)), B1⟩
        case measure => simp [intOf]; omega
      · rw [decide_eq_false he]
        go_wp2_with fail
        go_ret
        exact ⟨⟨_, rfl, by rw [all3_no i hlt (by unfold epOk; exact decide_eq_false he), decide_eq_true (by omega)]; rfl⟩, B1.out⟩
    · obtain rfl : i = 3 := by omega
      go_wp2
      go_ret
      exact ⟨⟨_, rfl, by rw [all3_yes hok.out]; rfl⟩, hbel.out⟩
set_option maxHeartbeats 16000000 in
set_option maxRecDepth 100000 in
theorem contains33_any (e : Int) (g : Nat) (f : Nat → List Value) (c : Ch) (B off : Nat) (w : World) (hr : w.rangeAt B off (bl3 f)) (hB : ∀ i, i < 3 → BkAt w (f i) (c.b i)) (hc : w.cell? ⟨g, 0, none⟩ = some (.int .i64 e)) :
    Calls Tryz.prog 33 #[.slice (some ⟨B, off, none⟩) 3 3, .func (.func 34) #[] #[.pointer (some ⟨g, 0, none⟩)]] w fun x w' => x = .returned (.bool (!all3 (epOk e c))) ∧ Below w.heap.size w w' := by
  have HI := Lib.hid (index69_any e g f c B off w hr hB hc)
  clear hr hB hc
  go_enter Tryz.func33, Tryz.ntmps33
  go_wp2_with fail
  refine HI.out.mono ?_
  rintro _ w1 ⟨⟨z, rfl, hz⟩, hb⟩
  have HZ := Lib.hid hz
  have HB := Lib.hid hb
  clear hz hb
  go_wp2_with fail
  go_ret
  exact ⟨by rw [← HZ.out]; rfl, HB.out⟩
theorem Tryz.size102 : (Tryz.prog.info? 102).map (·.size) = some 57 := by kernel_rfl
theorem len19 {α : Type} {l : List α} (h : l.length = 19) : ∃ a b c d e f g h i j k l' m n o p q r s, l = [a, b, c, d, e, f, g, h, i, j, k, l', m, n, o, p, q, r, s] := by
  match l, h with
  | [a, b, c, d, e, f, g, h, i, j, k, l', m, n, o, p, q, r, s], _ => exact ⟨a, b, c, d, e, f, g, h, i, j, k, l', m, n, o, p, q, r, s, rfl⟩
set_option maxRecDepth 100000 in
theorem build102 (x y z : List Value) (hx : x.length = 19) (hy : y.length = 19) (hz : z.length = 19) (W : World) : (Instr.build 102 #[(0, .agg x.toArray), (1, .agg y.toArray), (2, .agg z.toArray)]).run Tryz.prog W = .ok (.agg (x ++ (y ++ z)).toArray) W := by
  obtain ⟨_, _, _, _, _, _, _, _, _, _, _, _, _, _, _, _, _, _, _, rfl⟩ := len19 hx
  obtain ⟨_, _, _, _, _, _, _, _, _, _, _, _, _, _, _, _, _, _, _, rfl⟩ := len19 hy
  obtain ⟨_, _, _, _, _, _, _, _, _, _, _, _, _, _, _, _, _, _, _, rfl⟩ := len19 hz
  exact run_build W 102 _ _ (by kernel_rfl)
/-- The QC inside a block's cells. -/
theorem bk_18 {w : World} {b off : Nat} {cs q : List Value} (h : w.rangeAt b off cs) (hq : (cs.drop 18).take 19 = q) : w.rangeAt b (off + 18) q := fun j u hu => by
  rw [show off + 18 + j = off + (18 + j) by omega]
  refine h _ u ?_
  rw [← hq] at hu
  have hj := (List.getElem?_eq_some_iff.1 hu).1
  rw [List.length_take] at hj
  rw [List.getElem?_take, if_pos (by omega), List.getElem?_drop] at hu
  exact hu
theorem ch_range {w : World} {b t : Nat} {f : Nat → List Value} {cq : List Value} (hf : ∀ j, j < 3 → (f j).length = 39) (h : w.heap[b]? = some (.cells (chC f cq).toArray t (0, 0))) : w.rangeAt b 0 (bl3 f) ∧ w.rangeAt b 117 cq := by
  have r0 := blk_mid (pre := []) (ys := bl3 f) (post := cq) h rfl
  have r1 := blk_mid (pre := bl3 f) (ys := cq) (post := []) h (by rw [List.append_nil]; rfl)
  rw [bl3_len f 39 hf] at r1
  exact ⟨r0, r1⟩
/-- The cells of a Change's QCs. -/
theorem ch_qcs {w : World} {f : Nat → List Value} {cq : List Value} {c : Ch} (hB : ∀ i, i < 3 → BkAt w (f i) (c.b i)) (hq : QcAt w cq c.q) : ∃ g : Nat → List Value, g 2 = cq ∧ (∀ i, i < 2 → ((f (i + 1)).drop 18).take 19 = g i) ∧ ∀ i, i < 3 → QcAt w (g i) (c.qc i) := by
  obtain ⟨q0, h0, k0⟩ := (hB 1 (by omega)).jus
  obtain ⟨q1, h1, k1⟩ := (hB 2 (by omega)).jus
  refine ⟨fun i => if i = 0 then q0 else if i = 1 then q1 else cq, rfl, fun i hi => ?_, fun i hi => ?_⟩
  · have : i = 0 ∨ i = 1 := by omega
    rcases this with rfl | rfl
    · exact h0
    · exact h1
  · have : i = 0 ∨ i = 1 ∨ i = 2 := by omega
    rcases this with rfl | rfl | rfl
    · exact k0
    · exact k1
    · exact hq
set_option maxHeartbeats 16000000 in
set_option maxRecDepth 100000 in
theorem qcs_any (f g : Nat → List Value) (cq : List Value) (c : Ch) (w : World) (hB : ∀ i, i < 3 → BkAt w (f i) (c.b i)) (hg2 : g 2 = cq) (hg : ∀ i, i < 2 → ((f (i + 1)).drop 18).take 19 = g i) (hq : ∀ i, i < 3 → QcAt w (g i) (c.qc i)) :
    Calls Tryz.prog 36 #[.agg (chC f cq).toArray] w fun x w' => x = .returned (.agg (bl3 g).toArray) ∧ Below w.heap.size w w' := by
  have HL := Lib.hid (fun j hj => (hB j hj).len)
  obtain ⟨r0, r2⟩ := ch_range HL.out (heap_alloc_new w (.cells (chC f cq).toArray 35))
  have R0 := Lib.hid (show (w.alloc (.cells (chC f cq).toArray 35)).rangeAt w.heap.size 57 (g 0) from bk_18 (bl3_range 39 HL.out r0 1 (by omega)) (hg 0 (by omega)))
  have R1 := Lib.hid (show (w.alloc (.cells (chC f cq).toArray 35)).rangeAt w.heap.size 96 (g 1) from bk_18 (bl3_range 39 HL.out r0 2 (by omega)) (hg 1 (by omega)))
  have R2 := Lib.hid (show (w.alloc (.cells (chC f cq).toArray 35)).rangeAt w.heap.size 117 (g 2) by rw [hg2]; exact r2)
  have G0 := Lib.hid (hq 0 (by omega)).len
  have G1 := Lib.hid (hq 1 (by omega)).len
  have G2 := Lib.hid (hq 2 (by omega)).len
  have ONE := Lib.hid (show ∀ u ∈ bl3 g, u.oneCell' = true by
    intro u hu
    unfold bl3 at hu
    rcases List.mem_append.1 hu with h | h
    · exact one_qcAt (hq 0 (by omega)) u h
    · rcases List.mem_append.1 h with h | h
      · exact one_qcAt (hq 1 (by omega)) u h
      · exact one_qcAt (hq 2 (by omega)) u h)
  have LEN := Lib.hid (show (bl3 g).length = 57 by unfold bl3; rw [List.length_append, List.length_append, G0.out, G1.out, G2.out])
  clear hB hg2 hg hq r0 r2
  go_enter Tryz.func36, Tryz.ntmps36
  go_wp2_with (first | (refine wpList_load_g rfl 29 (.tmp 5) rfl w.heap.size 57 rfl (g 0) _ (range_below R0.out ((Below.refl _ _).alloc (Nat.le_refl _) _)) Tryz.underlying29 rfl (by rw [G0.out]; exact Tryz.size29) ?_) | (refine wpList_load_g rfl 29 (.tmp 9) rfl w.heap.size 96 rfl (g 1) _ (range_below R1.out ((Below.refl _ _).alloc (Nat.le_refl _) _)) Tryz.underlying29 rfl (by rw [G1.out]; exact Tryz.size29) ?_) | (refine wpList_load_g rfl 29 (.tmp 11) rfl w.heap.size 117 rfl (g 2) _ (range_below R2.out ((Below.refl _ _).alloc (Nat.le_refl _) _)) Tryz.underlying29 rfl (by rw [G2.out]; exact Tryz.size29) ?_) | (refine wpList_bld rfl 102 _ rfl #[(0, .agg (g 0).toArray), (1, .agg (g 1).toArray), (2, .agg (g 2).toArray)] (by simp only [List.map_toArray, List.map_cons, List.map_nil]; rfl) _ (build102 _ _ _ G0.out G1.out G2.out _) ?_) | (refine wpList_store_row rfl 102 (.tmp 2) (.tmp 13) rfl (w.heap.size + 1) rfl (g 0 ++ (g 1 ++ g 2)) rfl 102 (has_new2 _ _ _ _ _ (by rw [show (g 0 ++ (g 1 ++ g 2)).length = 57 from LEN.out]; rfl)) (by rw [show (g 0 ++ (g 1 ++ g 2)).length = 57 from LEN.out]; exact Tryz.size102) ONE.out ?_; intro w5 hp5; have K5 := Lib.hid hp5.blk; have B5 := Lib.hid (hp5.below (((Below.refl w.heap.size w).alloc (Nat.le_refl _) _).alloc (by simp) _) (by omega)); clear hp5))
  refine bodyPost_ret (v := .agg (bl3 g).toArray) (results_cell_row rfl _ _ (w.heap.size + 1) 102 _ (0, 0) _ rfl K5.out Tryz.underlying102 rfl (by rw [show (bl3 g).toArray.size = 57 from LEN.out]; exact Tryz.size102)) rfl ⟨rfl, B5.out⟩
set_option maxHeartbeats 16000000 in
set_option maxRecDepth 100000 in
theorem qfits_any (cq cb : List Value) (q : Qc) (b : Bk) (d : List Int) (hd : d.length = 16) (w : World) (hq : QcAt w cq q) (hB : BkAt w cb b) :
    Calls Tryz.prog 70 #[.agg cq.toArray, .agg (u8s d).toArray, .agg cb.toArray] w fun x w' => x = .returned (.bool (decide (q.block = d ∧ q.epoch = b.epoch ∧ q.round = b.round))) ∧ Below w.heap.size w w' := by
  obtain ⟨A, c, rfl, _⟩ := hq.ex
  have hbl := hq.blk.1
  obtain ⟨w1, hw1⟩ : ∃ x, x = w.alloc (.cells (qcC q.epoch q.round q.block (.slice A q.votes.length c)).toArray 29) := ⟨_, rfl⟩
  obtain ⟨w2, hw2⟩ : ∃ x, x = w1.alloc (.cells (u8s d).toArray 24) := ⟨_, rfl⟩
  obtain ⟨w3, hw3⟩ : ∃ x, x = w2.alloc (.cells cb.toArray 32) := ⟨_, rfl⟩
  have z1 : w1.heap.size = w.heap.size + 1 := by rw [hw1]; simp
  have z2 : w2.heap.size = w.heap.size + 2 := by rw [hw2]; simp [z1]
  have b1 : Below w.heap.size w w1 := by rw [hw1]; exact (Below.refl _ _).alloc (Nat.le_refl _) _
  have b2 : Below w1.heap.size w1 w2 := by rw [hw2]; exact (Below.refl _ _).alloc (Nat.le_refl _) _
  have b3 : Below w2.heap.size w2 w3 := by rw [hw3]; exact (Below.refl _ _).alloc (Nat.le_refl _) _
  have x1 : w1.heap[w.heap.size]? = some (.cells (qcC q.epoch q.round q.block (.slice A q.votes.length c)).toArray 29 (0, 0)) := by rw [hw1]; exact heap_alloc_new w _
  have x2 : w2.heap[w.heap.size + 1]? = some (.cells (u8s d).toArray 24 (0, 0)) := by have := heap_alloc_new w1 (.cells (u8s d).toArray 24); rwa [z1, ← hw2] at this
  have x3 : w3.heap[w.heap.size + 1 + 1]? = some (.cells cb.toArray 32 (0, 0)) := by have := heap_alloc_new w2 (.cells cb.toArray 32); rwa [z2, ← hw3] at this
  have y1 := blk_below (blk_below x1 b2) b3
  have y2 := blk_below x2 b3
  have c0 := blk_cell (xs := qcC q.epoch q.round q.block (.slice A q.votes.length c)) y1 0 _ rfl
  have c1 := blk_cell (xs := qcC q.epoch q.round q.block (.slice A q.votes.length c)) y1 1 _ rfl
  obtain ⟨d0, d1⟩ := bk_0 x3 hB
  have R2 := Lib.hid (qc_2 y1)
  have RD := Lib.hid (blk_range y2)
  have HB := Lib.hid (b1.trans ((b2.mono (by omega)).trans (b3.mono (by omega))))
  have HD := Lib.hid hd
  have HL := Lib.hid hbl
  clear hq hB b1 b2 b3 x1 x2 x3 y1 y2 z1 z2 hd hbl
  obtain ⟨qe, hqe⟩ : ∃ x, x = q.epoch := ⟨_, rfl⟩
  obtain ⟨qr, hqr⟩ : ∃ x, x = q.round := ⟨_, rfl⟩
  obtain ⟨be, hbe⟩ : ∃ x, x = b.epoch := ⟨_, rfl⟩
  obtain ⟨br, hbr⟩ : ∃ x, x = b.round := ⟨_, rfl⟩
  obtain ⟨qb, hqb⟩ : ∃ x, x = q.block := ⟨_, rfl⟩
  rw [← hqe, ← hqr, ← hqb] at hw1
  rw [← hqe, ← hqr, ← hbe, ← hbr, ← hqb]
  rw [← hqe] at c0
  rw [← hqr] at c1
  rw [← hbe] at d0
  rw [← hbr] at d1
  rw [← hqb] at R2 HL
  clear hqe hqr hbe hbr hqb
  subst hw3
  subst hw2
  subst hw1
  go_enter Tryz.func70, Tryz.ntmps70
  by_cases h1 : qb = d
  · subst h1
    by_cases h2 : qe = be
    · subst h2
      by_cases h3 : qr = br
      · subst h3
        go_wp2_with (first | (refine wpList_load_g rfl 24 (.tmp 7) rfl w.heap.size 2 rfl (u8s qb) _ R2.out Tryz.underlying24 rfl (hi24 qb HL.out) ?_) | (refine wpList_load_g rfl 24 (.tmp 4) rfl (w.heap.size + 1) 0 rfl (u8s qb) _ RD.out Tryz.underlying24 rfl (hi24 qb HL.out) ?_) | (refine wpList_binG rfl .eql 24 24 (.tmp 8) (.tmp 9) rfl (.agg (u8s qb).toArray) (.agg (u8s qb).toArray) (.bool true) rfl rfl (guard24 _ _ _ _ _ _) ((run_eql24 qb qb HL.out HL.out _).trans (by rw [decide_eq_true rfl])) ?_))
        go_ret
        exact ⟨by simp, HB.out⟩
      · go_wp2_with (first | (refine wpList_load_g rfl 24 (.tmp 7) rfl w.heap.size 2 rfl (u8s qb) _ R2.out Tryz.underlying24 rfl (hi24 qb HL.out) ?_) | (refine wpList_load_g rfl 24 (.tmp 4) rfl (w.heap.size + 1) 0 rfl (u8s qb) _ RD.out Tryz.underlying24 rfl (hi24 qb HL.out) ?_) | (refine wpList_binG rfl .eql 24 24 (.tmp 8) (.tmp 9) rfl (.agg (u8s qb).toArray) (.agg (u8s qb).toArray) (.bool true) rfl rfl (guard24 _ _ _ _ _ _) ((run_eql24 qb qb HL.out HL.out _).trans (by rw [decide_eq_true rfl])) ?_))
        go_ret
        exact ⟨by simp [h3], HB.out⟩
    · go_wp2_with (first | (refine wpList_load_g rfl 24 (.tmp 7) rfl w.heap.size 2 rfl (u8s qb) _ R2.out Tryz.underlying24 rfl (hi24 qb HL.out) ?_) | (refine wpList_load_g rfl 24 (.tmp 4) rfl (w.heap.size + 1) 0 rfl (u8s qb) _ RD.out Tryz.underlying24 rfl (hi24 qb HL.out) ?_) | (refine wpList_binG rfl .eql 24 24 (.tmp 8) (.tmp 9) rfl (.agg (u8s qb).toArray) (.agg (u8s qb).toArray) (.bool true) rfl rfl (guard24 _ _ _ _ _ _) ((run_eql24 qb qb HL.out HL.out _).trans (by rw [decide_eq_true rfl])) ?_))
      go_ret
      exact ⟨by simp [h2], HB.out⟩
  · go_wp2_with (first | (refine wpList_load_g rfl 24 (.tmp 7) rfl w.heap.size 2 rfl (u8s qb) _ R2.out Tryz.underlying24 rfl (hi24 qb HL.out) ?_) | (refine wpList_load_g rfl 24 (.tmp 4) rfl (w.heap.size + 1) 0 rfl (u8s d) _ RD.out Tryz.underlying24 rfl (hi24 d HD.out) ?_) | (refine wpList_binG rfl .eql 24 24 (.tmp 8) (.tmp 9) rfl (.agg (u8s qb).toArray) (.agg (u8s d).toArray) (.bool false) rfl rfl (guard24 _ _ _ _ _ _) ((run_eql24 qb d HL.out HD.out _).trans (by rw [decide_eq_false h1])) ?_))
    go_ret
    exact ⟨by simp [h1], HB.out⟩
end Go.Proofs.YtniknhhejlgdfaaGreatDoor
/- A store into the midst of a block; rows of three digests. -/
namespace Go.Proofs.YtniknhhejlgdfaaGreatDoor
open Go.RowKit
section
variable {ops : Array Oper} {rest : List Oper} {o : Oper} {a : Act} {w : World} {Q : Exit → Act → World → Prop}
theorem wpList_store_mid (hw : Region.wanted o (yielded ops a.tmps) = true) (ty : TypeId) (x y : Operand) (ho : o.op = .store ty x y)
    (b off : Nat) (hx : a.eval x = .pointer (some ⟨b, off, none⟩)) (cs : List Value) (hy : a.eval y = .agg cs.toArray) (t : Nat) (row : List Value) (hb : w.heap[b]? = some (.cells row.toArray t (0, 0)))
    (hi : (Tryz.prog.info? ty).map (·.size) = some cs.length) (h1 : ∀ v ∈ cs, v.oneCell' = true) (hfit : off + cs.length ≤ row.length) (new : List Value) (hn : row.take off ++ cs ++ row.drop (off + cs.length) = new)
    (h : ∀ w1, Put w b t new w1 → wpList Tryz.prog ops Q rest (a.put o.dst undef) w1) : wpList Tryz.prog ops Q (o :: rest) a w := by
  refine wpList_step fun K hK => ?_
  rw [if_pos hw]
  have hr := run_storeCells_fr (P := Tryz.prog) b off t (0, 0) cs 0 row.toArray w hb (.inl (Nat.le_refl _)) (by simpa using hfit) h1
  rw [Nat.add_zero, hn] at hr
  have hv : (storeVar ty ⟨b, off, none⟩ (.agg cs.toArray)).run Tryz.prog w = .ok () (w.setRow b new.toArray) := by
    cases hq : Tryz.prog.info? ty with
    | none => simp [hq] at hi
    | some i =>
      have hs : cs.length = i.size := by simp [hq] at hi; omega
      simp [storeVar, sizeOf, typeInfo, hq, Value.cells, hs, hr]
  unfold Oper.wp execOp
  simp only [ho, hx, hy, Instr.storeAt, Instr.sureAddr, Sem.run_bind, Sem.run_pure, Result.andThen_ok, hv]
  refine hK _ _ (h _ ⟨setRow_heap w b row.toArray _ t _ hb, fun k hk => setRow_other w b k _ hk, by simp, rfl, rfl, rfl⟩)
end
theorem gives_extract {P : Program} {o : Oper} {ρ : Operand → Value} {w : World} {S : Value → World → Prop} (x : Operand) (i : Nat) (ho : o.op = .extract x i) (xs : Array Value) (v : Value) (hx : ρ x = .tuple xs) (hv : xs[i]? = some v) (h : S v w) : Gives P o ρ w S := by
  refine gives_val v (w' := w) ?_ h
  unfold execOp
  simp only [ho, hx]
  simp [Instr.extract, hv, Sem.run_pure]
theorem gives_unOp {P : Program} {o : Oper} {ρ : Operand → Value} {w w' : World} {S : Value → World → Prop} (op : UnOp) (t : TypeId) (x : Operand) (ho : o.op = .unOp op t x) (a v : Value) (hx : ρ x = a) (hr : (Op.unary op a).run P w = .ok v w') (h : S v w') : Gives P o ρ w S := by
  refine gives_val v (w' := w') ?_ h
  unfold execOp
  simp only [ho, hx, Sem.run_bind, hr, Result.andThen_ok, Sem.run_pure]
theorem bl3_put (f : Nat → List Value) (n i : Nat) (x : List Value) (hf : ∀ j, j < 3 → (f j).length = n) (hx : x.length = n) (hi : i < 3) : (bl3 f).take (i * n) ++ x ++ (bl3 f).drop (i * n + x.length) = bl3 (fun j => if j = i then x else f j) := by
  have h0 := hf 0 (by omega)
  have h1 := hf 1 (by omega)
  have h2 := hf 2 (by omega)
  have : i = 0 ∨ i = 1 ∨ i = 2 := by omega
  unfold bl3
  rcases this with rfl | rfl | rfl
  · rw [Nat.zero_mul, Nat.zero_add, List.take_zero, List.nil_append, hx, List.drop_left' h0]
    simp
  · rw [Nat.one_mul, List.take_left' h0, hx, show f 0 ++ (f 1 ++ f 2) = (f 0 ++ f 1) ++ f 2 by rw [List.append_assoc], List.drop_left' (by rw [List.length_append]; omega)]
    simp
  · rw [hx, List.drop_of_length_le (by simp only [List.length_append]; omega), show f 0 ++ (f 1 ++ f 2) = (f 0 ++ f 1) ++ f 2 by rw [List.append_assoc], List.take_left' (by rw [List.length_append]; omega)]
    simp
def idsC (d : Nat → List Int) : List Value := bl3 (fun i => u8s (d i))
def idsTo (c : Ch) (i : Nat) : Nat → List Int := fun j => if j < i then idB (c.b j) else zero16
theorem idsTo_len (c : Ch) (i j : Nat) : (idsTo c i j).length = 16 := by
  unfold idsTo
  split
  · exact (idB_good _).1
  · rfl
theorem idsC_len (d : Nat → List Int) (h : ∀ j, (d j).length = 16) : (idsC d).length = 48 := by
  unfold idsC
  rw [bl3_len _ 16 (fun j _ => by rw [u8s_len', h j])]
theorem idsC_put (c : Ch) (i : Nat) (hi : i < 3) : (idsC (idsTo c i)).take (i * 16) ++ u8s (idB (c.b i)) ++ (idsC (idsTo c i)).drop (i * 16 + (u8s (idB (c.b i))).length) = idsC (idsTo c (i + 1)) := by
  unfold idsC
  rw [bl3_put _ 16 i _ (fun j _ => by rw [u8s_len', idsTo_len]) (by rw [u8s_len', (idB_good _).1]) hi]
  congr 1
  funext j
  unfold idsTo
  by_cases h : j = i
  · subst h
    rw [if_pos rfl, if_pos (by omega)]
  · rw [if_neg h]
    by_cases h2 : j < i
    · rw [if_pos h2, if_pos (by omega)]
    · rw [if_neg h2, if_neg (by omega)]
theorem idsC_range {w : World} {b : Nat} {t : Nat} {d : Nat → List Int} (hd : ∀ j, (d j).length = 16) (h : w.heap[b]? = some (.cells (idsC d).toArray t (0, 0))) (i : Nat) (hi : i < 3) : w.rangeAt b (i * 16) (u8s (d i)) := by
  have := bl3_range 16 (fun j _ => by rw [u8s_len', hd j]) (blk_range h) i hi
  rwa [Nat.zero_add] at this
end Go.Proofs.YtniknhhejlgdfaaGreatDoor
/- append of signatures to an own row, in a region that draws its order. -/
namespace Go.Proofs.YtniknhhejlgdfaaGreatDoor
open Go.RowKit

theorem Tryz.info68m : ∃ z, (Tryz.prog.info? 58).map (fun i => (i.zero, i.size, i.bytes)) = some (some z, 4, 64) ∧ z.cells.size = 4 := ⟨.agg #[.int .i64 0, .int .i64 0, .slice none 0 0, .slice none 0 0], by kernel_rfl, by kernel_rfl⟩
theorem gives_appS {o : Oper} {ρ : Operand → Value} {w : World} {S : Value → World → Prop} (s x : Operand) (ho : o.op = .call { callee := .builtin .append, args := #[s, x], argTypes := #[27, 27] })
    (base : Nat) (v : Value) (n : Nat) (ys : List Value) (hs : ρ s = v) (hown : w.ownsRow base 58 4 v n ys) (ad : Addr) (m c : Nat) (news : List Value) (hx : ρ x = .slice (some ad) m c) (hl : news.length = m * 4)
    (hnews : ∀ j u, news[j]? = some u → w.cell? (ad.add j) = some u) (h1 : ∀ u ∈ news, u.oneCell' = true) (h63 : n + m ≤ 1000) (hbase : base ≤ w.heap.size)
    (h : ∀ v' w', w'.ownsRow base 58 4 v' (n + m) (ys ++ news) → w.grownBy w' v.ownBlock → (v'.ownBlock = v.ownBlock ∨ v'.ownBlock = some w.heap.size) → S v' w') : Gives Tryz.prog o ρ w S := by
  obtain ⟨z, hz, hzs⟩ := Tryz.info68m
  obtain ⟨i, i1, i2, i3, i4⟩ := info_of hz
  obtain ⟨v', w', hr, h2, h3, _, h5⟩ := run_append_own_at (P := Tryz.prog) w base 27 o.type 58 i z 4 64 Tryz.underlying27 i1 i2 i3 i4 hzs (by omega) v n ys hown ad m c news hl hnews h1 (by simp only [maxLen]; omega) (by omega) hbase
  refine gives_val v' (w' := w') ?_ (h v' w' h2 h3 h5)
  unfold execOp
  simp only [ho, resolve, invoke, builtin, Sem.run_bind, Sem.run_pure, Result.andThen_ok, List.map_toArray, List.map_cons, List.map_nil, hs, hx, hr]
end Go.Proofs.YtniknhhejlgdfaaGreatDoor
/- A row of signatures that is one's own. -/
namespace Go.Proofs.YtniknhhejlgdfaaGreatDoor
open Go.RowKit

def sdcells (cls : List Cl) : List Value := cls.flatMap Cl.sd
theorem sdcells_len (cls : List Cl) : (sdcells cls).length = cls.length * 4 := by
  induction cls with
  | nil => rfl
  | cons a cls ih =>
    rw [show sdcells (a :: cls) = a.sd ++ sdcells cls by simp [sdcells], List.length_append, ih, List.length_cons]
    simp only [Cl.sd, List.length_cons, List.length_nil]
    omega
theorem sdcells_at (cls : List Cl) (i j : Nat) (hi : i < cls.length) (hj : j < 4) : (sdcells cls)[i * 4 + j]? = (cls[i]).sd[j]? := by
  induction cls generalizing i with
  | nil => simp at hi
  | cons a cls ih =>
    rw [show sdcells (a :: cls) = a.sd ++ sdcells cls by simp [sdcells]]
    have hl : a.sd.length = 4 := rfl
    cases i with
    | zero => rw [Nat.zero_mul, Nat.zero_add, List.getElem?_append_left (by omega)]; rfl
    | succ i =>
      rw [List.getElem?_append_right (by omega), hl, show (i + 1) * 4 + j - 4 = i * 4 + j by omega, ih i (by simpa using hi)]
      rfl
theorem Sgs.of_own {w : World} {base : Nat} {v : Value} {n : Nat} {cls : List Cl} (h : w.ownsRow base 58 4 v n (sdcells cls)) (hn : n = cls.length) (hat : ∀ a ∈ cls, ClAt w a) : Sgs w v (cls.map Cl.x) := by
  have hcells := @World.ownsRow.cells w base 58 4 v n (sdcells cls) h
  obtain ⟨_, h2⟩ := h
  rcases h2 with ⟨rfl, rfl⟩ | ⟨g, cap, cur, rfl, e1, e2, e3, e4, _, _⟩
  · cases cls with
    | nil => exact ⟨⟨_, _, rfl⟩, fun h => absurd rfl h⟩
    | cons => simp at hn
  · subst hn
    refine ⟨⟨some ⟨g, 0, none⟩, cap, by rw [List.length_map]⟩, fun _ => ⟨g, 0, cap, by rw [List.length_map], by rw [List.length_map]; exact e3, e4, blk_lt e2, fun i hi => ?_⟩⟩
    have hi' : i < cls.length := by simpa using hi
    refine ⟨(cls[i]).sd, fun j u hu => ?_, ?_⟩
    · have hj : j < 4 := (List.getElem?_eq_some_iff.1 hu).1
      have := hcells rfl (i * 4 + j) u (by rw [sdcells_at cls i j hi' hj]; exact hu)
      rw [show (⟨g, 0, none⟩ : Addr).add (i * 4 + j) = ⟨g, 0 + i * 4 + j, none⟩ by unfold Addr.add; split <;> simp_all] at this
      exact this
    · have hc := hat _ (List.getElem_mem hi')
      rw [List.getD_eq_getElem?_getD, List.getElem?_map, List.getElem?_eq_getElem hi']
      exact ⟨_, _, _, _, rfl, hc.1, hc.2⟩
/-- The claims of a slice of signatures. -/
theorem Sgs.cls {w : World} {A : Option Addr} {n c : Nat} {xs : List Sd} (h : Sgs w (.slice A n c) xs) (hn : 0 < n) :
    ∃ b off, ∃ cls : List Cl, A = some ⟨b, off, none⟩ ∧ cls.map Cl.x = xs ∧ (∀ a ∈ cls, ClAt w a) ∧ w.rangeAt b off (sdcells cls) ∧ n ≤ c := by
  have hl := h.len
  obtain ⟨b, off, c', e, h1, _, _, h4⟩ := h.cells (by rintro rfl; simp at hl; omega)
  simp only [Value.slice.injEq] at e
  obtain ⟨rfl, e1, rfl⟩ := e
  have each : ∀ i, ∃ a : Cl, i < n → ClAt w a ∧ a.x = xs.getD i Sd.none ∧ w.rangeAt b (off + i * 4) a.sd := by
    intro i
    by_cases hi : i < n
    · obtain ⟨cs, hr, hs⟩ := h4 i (by omega)
      obtain ⟨A', c2, B', d', e2, g1, g2⟩ := hs.ex
      rw [e2] at hr
      exact ⟨⟨xs.getD i Sd.none, A', c2, B', d'⟩, fun _ => ⟨⟨g1, g2⟩, rfl, hr⟩⟩
    · exact ⟨⟨Sd.none, none, 0, none, 0⟩, fun h => absurd h hi⟩
  obtain ⟨f, hf⟩ := Classical.axiomOfChoice each
  refine ⟨b, off, (List.range n).map f, rfl, ?_, ?_, ?_, by omega⟩
  · rw [List.map_map]
    apply List.ext_getElem?
    intro i
    rw [List.getElem?_map]
    by_cases hi : i < n
    · rw [List.getElem?_range hi, Option.map_some, List.getElem?_eq_getElem (by omega)]
      have := (hf i hi).2.1
      rw [List.getD_eq_getElem?_getD, List.getElem?_eq_getElem (by omega)] at this
      exact congrArg some this
    · rw [List.getElem?_eq_none (by simpa using hi), List.getElem?_eq_none (by omega)]
      rfl
  · intro a ha
    rw [List.mem_map] at ha
    obtain ⟨i, hi, rfl⟩ := ha
    exact (hf i (by simpa using hi)).1
  · intro q u hq
    have hq4 : q < n * 4 := by have := (List.getElem?_eq_some_iff.1 hq).1; rw [sdcells_len] at this; simpa using this
    have hi : q / 4 < n := by omega
    have hq2 := hq
    rw [show q = q / 4 * 4 + q % 4 by omega, sdcells_at _ (q / 4) (q % 4) (by simpa using hi) (by omega)] at hq2
    simp only [List.getElem_map, List.getElem_range] at hq2
    have := (hf (q / 4) hi).2.2 (q % 4) u hq2
    rwa [show off + q / 4 * 4 + q % 4 = off + q by omega] at this
end Go.Proofs.YtniknhhejlgdfaaGreatDoor
