/- Lemmas that laws of this seat rest on, part 18; each says its own conditions: AppD, KeyNew, Equal, KeySame, KeySign, KeyVer. -/
import Derived.StillTactics
import Derived.OwnWalk
import Derived.Laws.Pointers
import Derived.Test.YtdedphhohiioiaaDoorBase5
import Derived.Test.YtdedphhohiioiaaDoorBase6
import Derived.Test.YtdedphhohiioiaaDoorBase11
import Derived.Test.YtdedphhohiioiaaDoorBase16
/- append of one digest in a region that draws its order; worlds that change in some blocks alone. -/
namespace Go.Proofs.YtdedphhohiioiaaDoor
open Go.RowKit

/-- All but some blocks lie as they lay. -/
structure But (S : Nat → Prop) (w w' : World) : Prop where
  os : w'.os = w.os
  tape : w'.tape = w.tape
  output : w'.output = w.output
  size : w.heap.size ≤ w'.heap.size
  same : ∀ k, k < w.heap.size → ¬ S k → w'.heap[k]? = w.heap[k]?
theorem But.refl (S : Nat → Prop) (w : World) : But S w w := ⟨rfl, rfl, rfl, Nat.le_refl _, fun _ _ _ => rfl⟩
theorem But.of_below {S : Nat → Prop} {w w' : World} (h : Below w.heap.size w w') : But S w w' := ⟨h.os, h.tape, h.output, h.size, fun k hk _ => h.block k hk⟩
theorem But.trans {S : Nat → Prop} {a b c : World} (h : But S a b) (k : But S b c) : But S a c :=
  ⟨k.os.trans h.os, k.tape.trans h.tape, k.output.trans h.output, Nat.le_trans h.size k.size, fun i hi hs => (k.same i (Nat.lt_of_lt_of_le hi h.size) hs).trans (h.same i hi hs)⟩
theorem But.mono {S T : Nat → Prop} {a b : World} (h : But S a b) (hst : ∀ k, k < a.heap.size → S k → T k) : But T a b :=
  ⟨h.os, h.tape, h.output, h.size, fun i hi hs => h.same i hi fun hx => hs (hst i hi hx)⟩
theorem But.blk {S : Nat → Prop} {w w' : World} (h : But S w w') {g : Nat} {o : Obj} (hg : w.heap[g]? = some o) (hs : ¬ S g) : w'.heap[g]? = some o := (h.same g (blk_lt hg) hs).trans hg
theorem But.low {S : Nat → Prop} {w w' : World} {B : Nat} (h : But S w w') (hb : B ≤ w.heap.size) (hs : ∀ k, S k → B ≤ k) : Below B w w' :=
  ⟨h.os, h.tape, h.output, h.size, fun k hk => h.same k (by omega) fun hx => by have := hs k hx; omega⟩
theorem gives_nilCheck {P : Program} {o : Oper} {ρ : Operand → Value} {w : World} {S : Value → World → Prop} (x : Operand) (ho : o.op = .nilCheck x) (a : Addr) (hx : ρ x = .pointer (some a)) (h : S (.pointer (some a)) w) : Gives P o ρ w S := by
  refine gives_val _ (w' := w) ?_ h
  unfold execOp
  simp only [ho, hx]
  go_simp
theorem gives_fieldAddr' {P : Program} {o : Oper} {ρ : Operand → Value} {w w' : World} {S : Value → World → Prop} (t : TypeId) (x : Operand) (k : Nat) (ho : o.op = .fieldAddr t x k) (a v : Value) (hx : ρ x = a) (hr : (Instr.fieldAt t a k).run P w = .ok v w') (h : S v w') : Gives P o ρ w S := by
  refine gives_val v (w' := w') ?_ h
  unfold execOp
  simp only [ho, hx, Sem.run_bind, hr, Result.andThen_ok, Sem.run_pure]

theorem But.cellT {S : Nat → Prop} {w w' : World} (h : But S w w') {a : Addr} {v : Value} (hc : w.cell? a = some v) (hs : ¬ S a.block) : w'.cell? a = some v := by
  have hl := World.block_lt_of_cell? w a hc
  rw [← hc]
  exact World.cell?_of_block (h.same a.block hl hs)
theorem But.drewT {S : Nat → Prop} {w W : World} (h : But S w W) : But S w W.drew := h.trans ⟨rfl, rfl, rfl, Nat.le_refl _, fun _ _ _ => rfl⟩
theorem But.allocT {S : Nat → Prop} {w W : World} {o : Obj} (h : But S w W) : But S w (W.alloc o) := h.trans (But.of_below ((Below.refl _ _).alloc (Nat.le_refl _) _))
theorem But.grownT {S : Nat → Prop} {w W W' : World} {row : Option Nat} (h : But S w W) (hg : W.grownBy W' row) (hr : ∀ k, row = some k → S k) : But S w W' :=
  h.trans ⟨hg.os, hg.tape, hg.output, hg.size, fun k hk hs => hg.block k hk fun e => hs (hr k e.symm)⟩
theorem drew_cell {W : World} {a : Addr} {v : Value} (h : W.cell? a = some v) : W.drew.cell? a = some v := h
theorem alloc_cell {W : World} {a : Addr} {v : Value} {o : Obj} (h : W.cell? a = some v) : (W.alloc o).cell? a = some v := cell_on ((Below.refl _ _).alloc (Nat.le_refl _) _) h
theorem free_blk {W : World} {p : Nat} {cs : Array Value} {t : TypeId} (h : W.heap[p]? = some (.cells cs t (0, 0))) : W.frozen? ⟨p, 0, none⟩ = false := by simp [World.frozen?, h]
theorem drew_blk {W : World} {p : Nat} {o : Obj} (h : W.heap[p]? = some o) : W.drew.heap[p]? = some o := h
theorem alloc_blk {W : World} {p : Nat} {o o' : Obj} (h : W.heap[p]? = some o) : (W.alloc o').heap[p]? = some o := blk_below h ((Below.refl _ _).alloc (Nat.le_refl _) _)
theorem drew_own {W : World} {base e s n : Nat} {v : Value} {xs : List Value} (h : W.ownsRow base e s v n xs) : W.drew.ownsRow base e s v n xs := h
theorem alloc_own {W : World} {base e s n : Nat} {v : Value} {xs : List Value} {o : Obj} (h : W.ownsRow base e s v n xs) : (W.alloc o).ownsRow base e s v n xs := h.alloc _
theorem But.setCellT {S : Nat → Prop} {W : World} {p : Nat} {v : Value} (hs : S p) : But S W (W.setCell ⟨p, 0, none⟩ v) :=
  ⟨rfl, rfl, rfl, by rw [World.size_setCell]; exact Nat.le_refl _, fun k _ hk => heap_setCell_other W ⟨p, 0, none⟩ k v (fun e => hk (by rw [e]; exact hs))⟩
theorem setCell_blk {W : World} {p : Nat} {v v' : Value} {t : TypeId} (h : W.heap[p]? = some (.cells #[v] t (0, 0))) : (W.setCell ⟨p, 0, none⟩ v').heap[p]? = some (.cells #[v'] t (0, 0)) := by
  rw [heap_setCell_same W p 0 _ t v' h]; simp

theorem src16 {w : World} {b : Nat} {R : List Int} (hl : R.length = 16) (hb : w.heap[b]? = some (.cells (u8s R).toArray 43 (0, 0))) : Src Tryd.prog 16 55 (.slice (some ⟨b, 0, none⟩) 1 1) 1 (u8s R) w := by
  refine Src.ofSlice _ Tryd.underlying55 ⟨b, 0, none⟩ 1 1 (u8s R) (by rw [u8s_len', hl]) (fun j u hu => ?_) (one_u8s _)
  rw [show (⟨b, 0, none⟩ : Addr).add j = ⟨b, j, none⟩ by unfold Addr.add; split <;> simp_all]
  rw [cell_of_row _ _ _ _ _ _ hb]
  simpa using hu

/-- A block of digests that is written at n. -/
def putD (cur : Array Value) (n : Nat) (ns : List Value) : Array Value := (cur.toList.take (n * 16) ++ ns ++ cur.toList.drop (n * 16 + ns.length)).toArray
theorem putD_size (cur : Array Value) (n : Nat) (ns : List Value) (h : n * 16 + ns.length ≤ cur.size) : (putD cur n ns).size = cur.size := by
  simp [putD]; omega
theorem putD_take (cur : Array Value) (n : Nat) (ns : List Value) (h : n * 16 + ns.length ≤ cur.size) (hn : ns.length = 16) : (putD cur n ns).toList.take ((n + 1) * 16) = cur.toList.take (n * 16) ++ ns := by
  have hl : (cur.toList.take (n * 16) ++ ns).length = (n + 1) * 16 := by simp; omega
  unfold putD
  rw [List.take_append_of_le_length (by omega)]
  exact List.take_of_length_le (by omega)
theorem putD_twice (cur : Array Value) (n : Nat) (ns : List Value) (h : n * 16 + ns.length ≤ cur.size) : putD (putD cur n ns) n ns = putD cur n ns := by
  apply Array.ext'
  have hl : (cur.toList.take (n * 16)).length = n * 16 := by simp; omega
  have h1 : (putD cur n ns).toList.take (n * 16) = cur.toList.take (n * 16) := by
    unfold putD
    rw [List.append_assoc, List.take_append_of_le_length (by omega)]
    exact List.take_of_length_le (by omega)
  have h3 : (putD cur n ns).toList.drop (n * 16 + ns.length) = cur.toList.drop (n * 16 + ns.length) := by
    unfold putD
    rw [List.drop_append_of_le_length (by rw [List.length_append]; omega), List.drop_of_length_le (by rw [List.length_append]; omega)]
    rfl
  show (putD cur n ns).toList.take (n * 16) ++ ns ++ (putD cur n ns).toList.drop (n * 16 + ns.length) = _
  rw [h1, h3]
  rfl
theorem setCells_putD {w : World} {g n : Nat} {cur : Array Value} {ns : List Value} (hg : w.heap[g]? = some (.cells cur 43 (0, 0))) (h : n * 16 + ns.length ≤ cur.size) (h1 : ∀ v ∈ ns, v.oneCell' = true) : w.setCells g (n * 16) ns = w.setRow g (putD cur n ns) := by
  have ha := run_storeCells_fr (P := Tryd.prog) g (n * 16) 43 (0, 0) ns 0 cur w hg (.inl (Nat.le_refl _)) (by omega) h1
  have hb := run_storeCells_cells (P := Tryd.prog) g (n * 16) ns 0 w (fun j hj => by
    rw [cell_of_row _ _ _ _ _ _ hg, Array.getElem?_eq_getElem (by omega)]
    rfl) (fun j hj => by simp [World.frozen?, hg]) h1
  rw [ha] at hb
  simp only [Nat.add_zero] at hb
  injection hb with _ e
  exact e.symm

theorem gives_append_in {o : Oper} {ρ : Operand → Value} {w : World} {S : Value → World → Prop} (s x : Operand) (ho : o.op = .call { callee := .builtin .append, args := #[s, x], argTypes := #[55, 55] })
    (g n c b : Nat) (R : List Int) (hR : R.length = 16) (cur : Array Value) (hs : ρ s = .slice (some ⟨g, 0, none⟩) n c) (hx : ρ x = .slice (some ⟨b, 0, none⟩) 1 1) (hb : w.heap[b]? = some (.cells (u8s R).toArray 43 (0, 0))) (hg : w.heap[g]? = some (.cells cur 43 (0, 0))) (hc : cur.size = c * 16) (hn : n < c)
    (h : S (.slice (some ⟨g, 0, none⟩) (n + 1) c) (w.setRow g (putD cur n (u8s R)))) : Gives Tryd.prog o ρ w S := by
  obtain ⟨i0, hi, hzz⟩ := Option.map_eq_some_iff.1 Tryd.info43
  simp only [Prod.mk.injEq] at hzz
  obtain ⟨hz0, hz1, hz2⟩ := hzz
  have hul : (u8s R).length = 16 := by rw [u8s_len', hR]
  have hsrc : Src Tryd.prog i0.size 55 (.slice (some ⟨b, 0, none⟩) 1 1) 1 (u8s R) w := by rw [hz1]; exact src16 hR hb
  have hr := run_append_room_src (P := Tryd.prog) w 55 55 o.type 43 i0 Tryd.underlying55 hi g 0 n c _ 1 (u8s R) hsrc (by omega) (fun j hj => by
    rw [hz1, cell_of_row _ _ _ _ _ _ hg, Array.getElem?_eq_getElem (by omega)]
    rfl) (fun j hj => by simp [World.frozen?, hg])
  rw [hz1, Nat.zero_add, setCells_putD hg (by omega) (one_u8s _)] at hr
  refine gives_val _ (w' := w.setRow g (putD cur n (u8s R))) ?_ h
  unfold execOp
  simp only [ho, resolve, invoke, builtin, Sem.run_bind, Sem.run_pure, Result.andThen_ok, List.map_toArray, List.map_cons, List.map_nil, hs, hx, hr]

theorem gives_append_grow {o : Oper} {ρ : Operand → Value} {w : World} {S : Value → World → Prop} (s x : Operand) (ho : o.op = .call { callee := .builtin .append, args := #[s, x], argTypes := #[55, 55] })
    (base b n c : Nat) (A : Option Addr) (R : List Int) (hR : R.length = 16) (ds : List (List Int)) (hds : (dcells ds).length = n * 16) (hs : ρ s = .slice A n c) (hx : ρ x = .slice (some ⟨b, 0, none⟩) 1 1) (hb : w.heap[b]? = some (.cells (u8s R).toArray 43 (0, 0)))
    (hown : w.ownsRow base 43 16 (.slice A n c) n (dcells ds)) (hbase : base ≤ w.heap.size) (hn : c < n + 1) (hl : n ≤ 1000)
    (h : ∀ v w', v.ownBlock = some w.heap.size → w'.ownsRow base 43 16 v (n + 1) (dcells (ds ++ [R])) → Below w.heap.size w w' → S v w') : Gives Tryd.prog o ρ w S := by
  obtain ⟨i0, hi, hzz⟩ := Option.map_eq_some_iff.1 Tryd.info43
  simp only [Prod.mk.injEq] at hzz
  obtain ⟨hz0, hz1, hz2⟩ := hzz
  have hul : (u8s R).length = 16 := by rw [u8s_len', hR]
  have hsrc : Src Tryd.prog i0.size 55 (.slice (some ⟨b, 0, none⟩) 1 1) 1 (u8s R) w := by rw [hz1]; exact src16 hR hb
  have hold : (Builtin.firstCells i0.size n (.slice A n c)).run Tryd.prog w.drew = .ok (dcells ds).toArray w.drew := by
    rcases hown.2 with ⟨e, h0⟩ | ⟨g, cap, cur, e, _, hg, hnc, hm, hcs, ht⟩
    · simp only [Value.slice.injEq] at e
      obtain ⟨rfl, _, rfl⟩ := e
      subst h0
      have : dcells ds = [] := List.eq_nil_of_length_eq_zero (by omega)
      rw [this]
      simp [Builtin.firstCells]
    · simp only [Value.slice.injEq] at e
      obtain ⟨rfl, _, rfl⟩ := e
      refine run_firstCells_some (P := Tryd.prog) w.drew i0.size n ⟨g, 0, none⟩ n c (dcells ds) (by rw [hz1, hds]) ?_
      intro j u hu
      exact hown.cells (g := g) rfl j u hu
  have hr := run_append_grow_src (P := Tryd.prog) w 55 55 o.type 43 i0 _ Tryd.underlying55 hi hz0 A n c (dcells ds) hold (.slice (some ⟨b, 0, none⟩) 1 1) 1 (u8s R) hsrc hn (by omega) (by
    have := growslice_fits (need := n + 1) (old := c) (bytes := i0.bytes) (by omega) (by rw [hz2]; omega)
    exact this)
  have hge := grownCap_ge w (n + 1) c 43
  have hcm : grownCap w (n + 1) c 43 ≤ maxLen := grownCap_le_maxLen w (n + 1) c 43 (by simp only [maxLen]; omega)
  have hdc : dcells (ds ++ [R]) = dcells ds ++ u8s R := by rw [dcells_append, show dcells [R] = u8s R by simp [dcells]]
  refine gives_val (.slice (some ⟨w.heap.size, 0, none⟩) (n + 1) (grownCap w (n + 1) c 43)) (w' := w.drew.alloc (.cells ((dcells ds ++ u8s R).toArray ++ Builtin.zeroCells (Value.agg (Array.replicate 16 (.int .u8 0))).cells (grownCap w (n + 1) c 43 - (n + 1))) 43)) ?_ (h _ _ rfl ⟨by rw [hdc, List.length_append, hul]; omega, .inr ⟨w.heap.size, _, _, rfl, hbase, heap_alloc_new w.drew _, hge, hcm, ?_, ?_⟩⟩ ((Below.refl w.heap.size w).drew.alloc (Nat.le_refl _) _))
  · unfold execOp
    simp only [ho, resolve, invoke, builtin, Sem.run_bind, Sem.run_pure, Result.andThen_ok, List.map_toArray, List.map_cons, List.map_nil, hs, hx, hr]
  · simp only [Array.size_append, List.size_toArray, size_zeroCells, List.length_append, hul, hds]
    simp [Value.cells]
    omega
  · rw [Array.toList_append, hdc]
    rw [List.take_append_of_le_length (by simp [hul, hds]; omega)]
    exact List.take_of_length_le (by simp [hul, hds]; omega)
/-- Worlds that go on but that block g may be written, to just one thing. -/
def Ein (g : Nat) (tg : Array Value) (a b : World) : Prop := But (fun k => k = g) a b ∧ (b.heap[g]? = a.heap[g]? ∨ b.heap[g]? = some (.cells tg 43 (0, 0)))
theorem Ein.refl {g : Nat} {tg : Array Value} (a : World) : Ein g tg a a := ⟨But.refl _ _, .inl rfl⟩
theorem Ein.trans {g : Nat} {tg : Array Value} {a b c : World} (h : Ein g tg a b) (k : Ein g tg b c) : Ein g tg a c := by
  refine ⟨h.1.trans k.1, ?_⟩
  rcases k.2 with e | e
  · rcases h.2 with f | f
    · exact .inl (e.trans f)
    · exact .inr (e.trans f)
  · exact .inr e
theorem But.range {S : Nat → Prop} {w w' : World} (h : But S w w') {b o : Nat} {cs : List Value} (hc : w.rangeAt b o cs) (hs : ¬ S b) : w'.rangeAt b o cs := fun j u hu => h.cellT (hc j u hu) hs
end Go.Proofs.YtdedphhohiioiaaDoor
/- What keys.New does. -/
namespace Go.Proofs.YtdedphhohiioiaaDoor
open Go.RowKit

/-- The public digests of a seed's first leaves. -/
def lvT (x : List Int) (n : Nat) : List (List Int) := (List.range n).map fun (i : Nat) => publicC (i : Int) (pubE (i : Int) x 68)
theorem lvT_len (x : List Int) (n : Nat) : (lvT x n).length = n := by simp [lvT]
theorem lvT_succ (x : List Int) (n : Nat) : lvT x (n + 1) = lvT x n ++ [publicC (n : Int) (pubE (n : Int) x 68)] := by simp [lvT, List.range_succ]
theorem lvT_at (x : List Int) (n i : Nat) (h : i < n) : (lvT x n).getD i [] = publicC (i : Int) (pubE (i : Int) x 68) := by
  rw [List.getD_eq_getElem?_getD, List.getElem?_eq_getElem (by rw [lvT_len]; exact h)]
  simp [lvT]
theorem lvT_good (x : List Int) (n : Nat) : ∀ d ∈ lvT x n, d.length = 16 ∧ u8s_ok d := by
  intro d hd
  obtain ⟨i, _, rfl⟩ := List.mem_map.1 hd
  exact ⟨short_len _ _, short_ok _ _⟩

--PLAIN
/-- The cells of a key. -/
def KC (x : List Int) (v : Value) (r : List Int) : Array Value := (u8s x ++ [v] ++ u8s r).toArray
theorem KC_size (x : List Int) (v : Value) (r : List Int) (hx : x.length = 16) (hr : r.length = 16) : (KC x v r).size = 33 := by simp [KC, u8s_len', hx, hr]
theorem KC_build (x : List Int) (hx : x.length = 16) : List.foldl (fun (cs : Array Value) (y : Value × Nat) => cs.setIfInBounds y.2 y.1) #[.int .u8 0, .int .u8 0, .int .u8 0, .int .u8 0, .int .u8 0, .int .u8 0, .int .u8 0, .int .u8 0, .int .u8 0, .int .u8 0, .int .u8 0, .int .u8 0, .int .u8 0, .int .u8 0, .int .u8 0, .int .u8 0, .slice none 0 0, .int .u8 0, .int .u8 0, .int .u8 0, .int .u8 0, .int .u8 0, .int .u8 0, .int .u8 0, .int .u8 0, .int .u8 0, .int .u8 0, .int .u8 0, .int .u8 0, .int .u8 0, .int .u8 0, .int .u8 0, .int .u8 0] (u8s x).zipIdx = KC x (.slice none 0 0) zero16 := by
  have key : ∀ a0 a1 a2 a3 a4 a5 a6 a7 a8 a9 a10 a11 a12 a13 a14 a15 : Int, List.foldl (fun (cs : Array Value) (y : Value × Nat) => cs.setIfInBounds y.2 y.1) #[.int .u8 0, .int .u8 0, .int .u8 0, .int .u8 0, .int .u8 0, .int .u8 0, .int .u8 0, .int .u8 0, .int .u8 0, .int .u8 0, .int .u8 0, .int .u8 0, .int .u8 0, .int .u8 0, .int .u8 0, .int .u8 0, .slice none 0 0, .int .u8 0, .int .u8 0, .int .u8 0, .int .u8 0, .int .u8 0, .int .u8 0, .int .u8 0, .int .u8 0, .int .u8 0, .int .u8 0, .int .u8 0, .int .u8 0, .int .u8 0, .int .u8 0, .int .u8 0, .int .u8 0] (u8s [a0, a1, a2, a3, a4, a5, a6, a7, a8, a9, a10, a11, a12, a13, a14, a15]).zipIdx = KC [a0, a1, a2, a3, a4, a5, a6, a7, a8, a9, a10, a11, a12, a13, a14, a15] (.slice none 0 0) zero16 := by
    intro a0 a1 a2 a3 a4 a5 a6 a7 a8 a9 a10 a11 a12 a13 a14 a15
    kernel_rfl
  match x, hx with
  | [a0, a1, a2, a3, a4, a5, a6, a7, a8, a9, a10, a11, a12, a13, a14, a15], _ => exact key a0 a1 a2 a3 a4 a5 a6 a7 a8 a9 a10 a11 a12 a13 a14 a15
theorem KC_at (x : List Int) (v : Value) (r : List Int) (hx : x.length = 16) : (KC x v r)[16]? = some v := by
  match x, hx with
  | [_, _, _, _, _, _, _, _, _, _, _, _, _, _, _, _], _ => rfl
theorem KC_set (x : List Int) (v v' : Value) (r : List Int) (hx : x.length = 16) : (KC x v r).setIfInBounds 16 v' = KC x v' r := by
  match x, hx with
  | [_, _, _, _, _, _, _, _, _, _, _, _, _, _, _, _], _ => rfl
theorem KC_put (x : List Int) (v : Value) (r r' : List Int) (hx : x.length = 16) (hr : r.length = 16) (hr' : r'.length = 16) : ((KC x v r).toList.take 17 ++ u8s r' ++ (KC x v r).toList.drop (17 + (u8s r').length)).toArray = KC x v r' := by
  match x, hx, r, hr, r', hr' with
  | [_, _, _, _, _, _, _, _, _, _, _, _, _, _, _, _], _, [_, _, _, _, _, _, _, _, _, _, _, _, _, _, _, _], _, [_, _, _, _, _, _, _, _, _, _, _, _, _, _, _, _], _ => rfl
theorem KC_seed {w : World} {q : Nat} {x : List Int} {v : Value} {r : List Int} (h : w.heap[q]? = some (.cells (KC x v r) 127 (0, 0))) : w.rangeAt q 0 (u8s x) := fun j u hj => by
  rw [cell_of_row _ _ _ _ _ _ h]
  have hjl := (List.getElem?_eq_some_iff.1 hj).1
  simp only [KC, List.getElem?_toArray, Nat.zero_add]
  rw [List.append_assoc, List.getElem?_append_left hjl]
  exact hj
theorem KC_root {w : World} {q : Nat} {x : List Int} {v : Value} {r : List Int} (hx : x.length = 16) (h : w.heap[q]? = some (.cells (KC x v r) 127 (0, 0))) : w.rangeAt q 17 (u8s r) := fun j u hj => by
  rw [cell_of_row _ _ _ _ _ _ h]
  simp only [KC, List.getElem?_toArray]
  rw [List.getElem?_append_right (by simp [u8s_len', hx]), show 17 + j - (u8s x ++ [v]).length = j by simp [u8s_len', hx]]
  exact hj
theorem KC_cell {w : World} {q : Nat} {x : List Int} {v : Value} {r : List Int} (hx : x.length = 16) (h : w.heap[q]? = some (.cells (KC x v r) 127 (0, 0))) : w.cell? ⟨q, 16, none⟩ = some v := by
  rw [cell_of_row _ _ _ _ _ _ h, KC_at x v r hx]
theorem KC_free {w : World} {q o : Nat} {x : List Int} {v : Value} {r : List Int} (h : w.heap[q]? = some (.cells (KC x v r) 127 (0, 0))) : w.frozen? ⟨q, o, none⟩ = false := by simp [World.frozen?, h]
theorem KC_store {w : World} {q : Nat} {x : List Int} {v v' : Value} {r : List Int} (hx : x.length = 16) (h : w.heap[q]? = some (.cells (KC x v r) 127 (0, 0))) : (w.setCell ⟨q, 16, none⟩ v').heap[q]? = some (.cells (KC x v' r) 127 (0, 0)) := by
  rw [heap_setCell_same w q 16 _ 127 v' h, KC_set x v v' r hx]
theorem setCells_row {w : World} {g o t : Nat} {cur : Array Value} {ns : List Value} (hg : w.heap[g]? = some (.cells cur t (0, 0))) (h : o + ns.length ≤ cur.size) (h1 : ∀ v ∈ ns, v.oneCell' = true) : w.setCells g o ns = w.setRow g (cur.toList.take o ++ ns ++ cur.toList.drop (o + ns.length)).toArray := by
  have ha := run_storeCells_fr (P := Tryd.prog) g o t (0, 0) ns 0 cur w hg (.inl (Nat.le_refl _)) (by omega) h1
  have hb := run_storeCells_cells (P := Tryd.prog) g o ns 0 w (fun j hj => by
    rw [cell_of_row _ _ _ _ _ _ hg, Array.getElem?_eq_getElem (by omega)]
    rfl) (fun j hj => by simp [World.frozen?, hg]) h1
  rw [ha] at hb
  simp only [Nat.add_zero] at hb
  injection hb with _ e
  exact e.symm
theorem KC_setroot {w : World} {q : Nat} {x : List Int} {v : Value} {r r' : List Int} (hx : x.length = 16) (hr : r.length = 16) (hr' : r'.length = 16) (h : w.heap[q]? = some (.cells (KC x v r) 127 (0, 0))) : (w.setCells q 17 (u8s r')).heap[q]? = some (.cells (KC x v r') 127 (0, 0)) := by
  rw [setCells_row h (by rw [KC_size x v r hx hr, u8s_len', hr']; omega) (one_u8s _), setRow_heap w q _ _ 127 (0, 0) h, KC_put x v r r' hx hr hr']
theorem KC_there {w : World} {q : Nat} {x : List Int} {v : Value} {r : List Int} (hx : x.length = 16) (hr : r.length = 16) (h : w.heap[q]? = some (.cells (KC x v r) 127 (0, 0))) (o n : Nat) (hn : o + n ≤ 33) : w.there q o n := fun j hj => ⟨by
  rw [cell_of_row _ _ _ _ _ _ h, Array.getElem?_eq_getElem (by rw [KC_size x v r hx hr]; omega)]
  rfl, KC_free h⟩
/-- The own row after a write to another block. -/
theorem own_other {W W' : World} {base e s n q : Nat} {v : Value} {xs : List Value} (h : W.ownsRow base e s v n xs) (hs : W.heap.size ≤ W'.heap.size) (hb : ∀ k, k ≠ q → W'.heap[k]? = W.heap[k]?) (ho : W'.os = W.os) (ht : W'.tape = W.tape) (hp : W'.output = W.output) (hq : v.ownBlock ≠ some q) : W'.ownsRow base e s v n xs :=
  h.kept (row := some q) ⟨ho, ht, hp, hs, fun k _ hk => hb k fun e => hk (by rw [e])⟩ (by
    cases hv : v.ownBlock with
    | none => exact .inl rfl
    | some k => exact .inr fun e => hq (by rw [hv, ← e]))
/-- What a key is. -/
structure KeyAt (w : World) (q : Nat) (x : List Int) (A : Option Addr) (c : Nat) : Prop where
  blk : w.heap[q]? = some (.cells (KC x (.slice A 32 c) (rootT (lvT x 32))) 127 (0, 0))
  dgs : Dgs w (.slice A 32 c) (lvT x 32)
theorem KeyAt.below {w w' : World} {q : Nat} {x : List Int} {A : Option Addr} {c : Nat} (h : KeyAt w q x A c) (hb : Below w.heap.size w w') : KeyAt w' q x A c := ⟨blk_below h.blk hb, h.dgs.below hb⟩

set_option maxHeartbeats 8000000 in
set_option maxRecDepth 100000 in
theorem keyNew_any (x : List Int) (hl : x.length = 16) (hx : u8s_ok x) (w : World) (hk : w.rangeAt 18 0 (u32s kk)) (h18 : 18 < w.heap.size) :
    Calls Tryd.prog 61 #[.agg (u8s x).toArray] w fun e w' => ∃ q A c, e = .returned (.pointer (some ⟨q, 0, none⟩)) ∧ w.heap.size ≤ q ∧ KeyAt w' q x A c ∧ Below w.heap.size w w' := by
  have hi43 : ∀ V : List Int, V.length = 16 → (Tryd.prog.info? 43).map (·.size) = some (u8s V).length := fun V h => by rw [u8s_len', h]; exact Tryd.size43
  have hra : (w.alloc (.cells (u8s x).toArray 43)).rangeAt w.heap.size 0 (u8s x) := range_new w (u8s x) 43
  have hkb := KC_build x hl
  have HRA := Lib.hid hra
  have HK := Lib.hid hk
  have HX := Lib.hid hx
  have HL := Lib.hid hl
  have HKB := Lib.hid hkb
  clear hra hk hx hkb
  have hsz : (u8s x).length = 16 := by rw [u8s_len', hl]
  go_enter Tryd.func61, Tryd.ntmps61
  go_wp2_with (first | (refine wpList_load_g rfl 43 (.tmp 1) rfl w.heap.size 0 rfl (u8s x) _ HRA.out Tryd.underlying43 rfl (hi43 x HL.out) ?_))
  rw [HKB.out]
  have K0 := Lib.hid (heap_alloc_new (w.alloc (.cells (u8s x).toArray 43)) (.cells (KC x (.slice none 0 0) zero16) 127))
  rw [show (w.alloc (.cells (u8s x).toArray 43)).heap.size = w.heap.size + 1 by simp] at K0
  have S0 := Lib.hid (alloc_blk (o' := .cells (KC x (.slice none 0 0) zero16) 127) (heap_alloc_new w (.cells (u8s x).toArray 43)))
  have B0 := Lib.hid (((Below.refl w.heap.size w).alloc (Nat.le_refl _) (.cells (u8s x).toArray 43)).alloc (by simp) (.cells (KC x (.slice none 0 0) zero16) 127))
  go_loopw [12] (fun q wr => ∃ (i : Nat) (v : Value), i ≤ 32 ∧ q = .int .i64 i ∧ Hid (wr.heap[w.heap.size + 1]? = some (.cells (KC x v zero16) 127 (0, 0))) ∧ Hid (wr.heap[w.heap.size]? = some (.cells (u8s x).toArray 43 (0, 0))) ∧ Hid (wr.ownsRow (w.heap.size + 2) 43 16 v i (dcells (lvT x i))) ∧ Hid (Below w.heap.size w wr))
    (fun q _ => 32 - (intOf q).toNat)
  case atStart => exact ⟨0, .slice none 0 0, by omega, rfl, K0, S0, Lib.hid (World.ownsRow_nil _ _ _ _), B0⟩
  case round =>
    clear K0 S0 B0 HRA HKB
    obtain ⟨i, v, hi, rfl, KB, SB, OW, BL⟩ := hrel
    by_cases hlt : i < 32
    · have RA := Lib.hid (blk_range SB.out)
      have hz : w.heap.size ≤ wr.heap.size := BL.out.size
      have hil : (i : Int) < 32 := by omega
      go_wp2_with (first | (refine wpList_load_g rfl 43 (.tmp 1) rfl w.heap.size 0 rfl (u8s x) _ RA.out Tryd.underlying43 rfl (hi43 x HL.out) ?_))
      refine (public_ok x HL.out HX.out i (by omega) hil wr (range_below HK.out BL.out) (Nat.lt_of_lt_of_le h18 BL.out.size)).mono ?_
      rintro e w3 ⟨rfl, hb3⟩
      obtain ⟨PD, hPD⟩ : ∃ d, d = publicC (i : Int) (pubE (i : Int) x 68) := ⟨_, rfl⟩
      rw [← hPD]
      have PDL : Hid (PD.length = 16) := Lib.hid (by rw [hPD]; exact short_len _ _)
      have HLV : Hid (lvT x (i + 1) = lvT x i ++ [PD]) := Lib.hid (by rw [lvT_succ, ← hPD])
      have HN3 := Lib.hid (has_new w3 (Array.replicate 16 (Value.int .u8 0)) 43 (u8s PD).length (by rw [u8s_len', PDL.out]; rfl))
      obtain ⟨A, c, rfl⟩ := own_form OW.out
      have KB3 := Lib.hid (blk_below KB.out hb3)
      have SB3 := Lib.hid (blk_below SB.out hb3)
      have OW3 := Lib.hid (own_bel OW.out hb3)
      have B3 := Lib.hid (BL.out.trans (hb3.mono BL.out.size))
      clear hPD hb3 KB SB OW BL RA hz
      go_wp2_with (refine wpList_store_row rfl 43 (.tmp 5) (.tmp 19) rfl w3.heap.size rfl (u8s PD) rfl 43 HN3.out (hi43 PD PDL.out) (one_u8s _) ?_; intro w4 hp4; have L4 : Below w3.heap.size w3 w4 := (hp4.below ((Below.refl _ _).alloc (Nat.le_refl _) _) (Nat.le_refl _)); have KB4 := Lib.hid (blk_below KB3.out L4); have SB4 := Lib.hid (blk_below SB3.out L4); have OW4 := Lib.hid (own_bel OW3.out L4); have B4 := Lib.hid (B3.out.trans (L4.mono B3.out.size)); have RP4 := Lib.hid (blk_range hp4.blk); have TB4 := Lib.hid hp4.blk; have Z34 := Lib.hid (show w3.heap.size < w4.heap.size by rw [hp4.size]; simp); clear hp4 L4)
      have KC4 := Lib.hid (KC_cell HL.out KB4.out)
      have HOL := Lib.hid OW4.out.1
      have HLT3 : Hid (∀ k, Value.ownBlock (.slice A i c) = some k → k < w3.heap.size) := Lib.hid fun k e => (OW3.out.lt k e).2
      have hl3 := blk_lt KB3.out
      have Z4 : Hid (w.heap.size + 2 ≤ w4.heap.size) := Lib.hid (by have := Z34.out; omega)
      have hl3' := Lib.hid hl3
      clear hl3 KB3 SB3 OW3 B3 HN3
      by_cases hroom : i < c
      · obtain ⟨g, cur, rfl, hbg, hgc, hcm, hcs, htk, hgt⟩ : ∃ g cur, A = some ⟨g, 0, none⟩ ∧ w.heap.size + 2 ≤ g ∧ w4.heap[g]? = some (.cells cur 43 (0, 0)) ∧ c ≤ maxLen ∧ cur.size = c * 16 ∧ cur.toList.take (i * 16) = dcells (lvT x i) ∧ ¬ w3.heap.size = g := by
          have hlt3 := HLT3.out
          rcases OW4.out.2 with ⟨e, h0⟩ | ⟨g, cap, cur, e, hb, hg, hnc, hm, hs, ht⟩
          · simp only [Value.slice.injEq] at e
            omega
          · simp only [Value.slice.injEq] at e
            obtain ⟨rfl, _, rfl⟩ := e
            exact ⟨g, cur, rfl, hb, hg, hm, hs, ht, fun e => by have := hlt3 g rfl; omega⟩
        have HBG := Lib.hid hbg
        have HGC := Lib.hid hgc
        have HCM := Lib.hid hcm
        have HCS := Lib.hid hcs
        have HTK := Lib.hid htk
        have HTG := Lib.hid hgt
        have HG0 := Lib.hid (blk_lt hgc)
        have HQG : Hid (¬ w.heap.size + 1 = g) := Lib.hid (by omega)
        clear hbg hgc hcm hcs htk hgt
        refine wp_region_rely2 (by kernel_rfl) 8 (by kernel_rfl) (by kernel_rfl) (Ein g (putD cur i (u8s PD))) Ein.refl Ein.trans (fun ix => match ix with
          | 0 => fun _ v => v = .pointer (some ⟨w.heap.size + 1, 0, none⟩)
          | 1 => fun _ v => v = .pointer (some ⟨w.heap.size + 1, 0, none⟩)
          | 2 => fun _ v => v = .pointer (some ⟨w.heap.size + 1, 0, none⟩)
          | 3 => fun _ v => v = .pointer (some ⟨w.heap.size + 1, 16, none⟩)
          | 4 => fun _ v => v = .slice (some ⟨g, 0, none⟩) i c
          | 5 => fun _ v => v = .agg (u8s PD).toArray
          | 6 => fun w v => ∃ b, v = .slice (some ⟨b, 0, none⟩) 1 1 ∧ w.heap[b]? = some (.cells (u8s PD).toArray 43 (0, 0)) ∧ b ≠ g
          | 7 => fun w v => v = .slice (some ⟨g, 0, none⟩) (i + 1) c ∧ w.heap[g]? = some (.cells (putD cur i (u8s PD)) 43 (0, 0))
          | _ => fun _ _ => False) ?_
        simp (maxSteps := 10000000) only [Rely, List.take_succ_cons, List.take_zero, List.drop_succ_cons, List.drop_zero, Nat.reduceAdd, Nat.zero_add, Act.put, List.setIfInBounds_toArray, List.set_cons_succ, List.set_cons_zero]
        refine ⟨?_, ?_, ?_, ?_, ?_, ?_, ?_, ?_, ?_⟩
        · refine step_plain rfl fun vs w5 hE hd => ?_
          exact gives_move _ (.pointer (some ⟨w.heap.size + 1, 0, none⟩)) (.inl rfl) rfl ⟨Ein.refl _, fun _ _ => rfl⟩
        · refine step_plain rfl fun vs w5 hE hd => ?_
          exact gives_move _ (.pointer (some ⟨w.heap.size + 1, 0, none⟩)) (.inl rfl) rfl ⟨Ein.refl _, fun _ _ => rfl⟩
        · refine step_plain rfl fun vs w5 hE hd => ?_
          exact gives_nilCheck _ rfl ⟨w.heap.size + 1, 0, none⟩ (show vs 1 = _ from (hd.1)) ⟨Ein.refl _, fun _ _ => rfl⟩
        · refine step_plain rfl fun vs w5 hE hd => ?_
          exact gives_fieldAddr' 127 _ 1 rfl (.pointer (some ⟨w.heap.size + 1, 0, none⟩)) _ (show vs 2 = _ from (hd.1)) (by go_simp) ⟨Ein.refl _, fun _ _ => rfl⟩
        · refine step_plain rfl fun vs w5 hE hd => ?_
          have hc := (hE.1.cellT (drew_cell KC4.out) HQG.out)
          exact gives_loadAt 55 _ rfl (.pointer (some ⟨w.heap.size + 1, 16, none⟩)) (.slice (some ⟨g, 0, none⟩) i c) (show vs 3 = _ from hd.1) (by go_simp) ⟨Ein.refl _, fun _ _ => rfl⟩
        · refine step_plain rfl fun vs w5 hE hd => ?_
          exact gives_load_row 43 _ rfl w3.heap.size 0 rfl (u8s PD) _ (hE.1.range (w := w4.drew) RP4.out HTG.out) Tryd.underlying43 rfl (hi43 PD PDL.out) ⟨Ein.refl _, fun _ _ => rfl⟩
        · refine step_plain rfl fun vs w5 hE hd => ?_
          have hgl : g < w5.heap.size := Nat.lt_of_lt_of_le HG0.out hE.1.size
          refine gives_build 55 1 _ rfl #[(0, .agg (u8s PD).toArray)] (by simp [Act.eval, show vs 5 = _ from (hd.1)]) _ (build55 PD PDL.out w5) ⟨⟨But.of_below ((Below.refl _ _).alloc (Nat.le_refl _) _), .inl (Below.heap_alloc _ _ g hgl)⟩, fun w'' hE2 => ?_⟩
          exact ⟨w5.heap.size, rfl, hE2.1.blk (heap_alloc_new w5 _) (by omega), by omega⟩
        · refine step_plain rfl fun vs w5 hE hd => ?_
          obtain ⟨b, hb7, hbb, hbg⟩ := hd.2.1
          have hcases : ∃ cu : Array Value, w5.heap[g]? = some (.cells cu 43 (0, 0)) ∧ cu.size = c * 16 ∧ putD cu i (u8s PD) = putD cur i (u8s PD) := by
            have hpl : (u8s PD).length = 16 := by rw [u8s_len', PDL.out]
            have := HCS.out
            rcases hE.2 with h | h
            · exact ⟨cur, h.trans HGC.out, HCS.out, rfl⟩
            · exact ⟨_, h, by rw [putD_size _ _ _ (by omega)]; exact HCS.out, putD_twice _ _ _ (by omega)⟩
          obtain ⟨cu, hcu, hcus, heq⟩ := hcases
          have hnew : (w5.setRow g (putD cu i (u8s PD))).heap[g]? = some (.cells (putD cur i (u8s PD)) 43 (0, 0)) := by rw [heq]; exact setRow_heap w5 g cu _ 43 (0, 0) hcu
          refine gives_append_in _ _ rfl g i c b PD PDL.out cu (show vs 4 = _ from (hd.1)) (show vs 6 = _ from hb7) hbb hcu hcus hroom ⟨⟨⟨rfl, rfl, rfl, by simp, fun k _ hk => setRow_other w5 g k _ hk⟩, .inr hnew⟩, fun w'' hE2 => ⟨rfl, ?_⟩⟩
          rcases hE2.2 with h | h
          · exact h.trans hnew
          · exact h
        · intro vs w5 hE hR
          obtain ⟨hl7, hg7⟩ := hR 7 (by omega)
          have hl0 : vs 0 = .pointer (some ⟨w.heap.size + 1, 0, none⟩) := hR 0 (by omega)
          rw [hl7, hl0]
          have hk5 : w5.heap[w.heap.size + 1]? = some (.cells (KC x (.slice (some ⟨g, 0, none⟩) i c) zero16) 127 (0, 0)) := hE.1.blk (drew_blk KB4.out) HQG.out
          have hs5 : w5.heap[w.heap.size]? = some (.cells (u8s x).toArray 43 (0, 0)) := hE.1.blk (drew_blk SB4.out) (by have := HBG.out; omega)
          have hb5 : Below w.heap.size w w5 := B4.out.trans (((But.drewT (But.refl _ _)).trans hE.1).low B4.out.size (by have := HBG.out; intro k hk; omega))
          have ho5 : w5.ownsRow (w.heap.size + 2) 43 16 (.slice (some ⟨g, 0, none⟩) (i + 1) c) (i + 1) (dcells (lvT x (i + 1))) := by
            have hpl : (u8s PD).length = 16 := by rw [u8s_len', PDL.out]
            have h1 := HCS.out
            rw [HLV.out, dcells_append, show dcells [PD] = u8s PD by simp [dcells]]
            refine ⟨by rw [List.length_append, hpl, HOL.out]; omega, .inr ⟨g, c, _, rfl, HBG.out, hg7, by omega, HCM.out, by rw [putD_size _ _ _ (by omega)]; exact h1, ?_⟩⟩
            rw [putD_take _ _ _ (by omega) hpl, HTK.out]
          have hc5 := KC_cell HL.out hk5
          have hf5 : w5.frozen? ⟨w.heap.size + 1, 16, none⟩ = false := KC_free hk5
          have K6 := Lib.hid (KC_store (v' := .slice (some ⟨g, 0, none⟩) (i + 1) c) HL.out hk5)
          have S6 := Lib.hid ((heap_setCell_other w5 ⟨w.heap.size + 1, 16, none⟩ w.heap.size (.slice (some ⟨g, 0, none⟩) (i + 1) c) (by simp)).trans hs5)
          have B6 := Lib.hid (hb5.setCell (p := ⟨w.heap.size + 1, 16, none⟩) (Nat.le_succ _) (.slice (some ⟨g, 0, none⟩) (i + 1) c))
          have O6 := Lib.hid (own_other (q := w.heap.size + 1) (W' := w5.setCell ⟨w.heap.size + 1, 16, none⟩ (.slice (some ⟨g, 0, none⟩) (i + 1) c)) ho5 (by rw [World.size_setCell]; exact Nat.le_refl _) (fun k hk => heap_setCell_other w5 ⟨w.heap.size + 1, 16, none⟩ k _ hk) rfl rfl rfl (by have := HBG.out; simp [Value.ownBlock]; omega))
          clear hR hE hl0 hk5 hs5 hb5 ho5 hl7 hg7
          go_wp2_with fail
          go_roundw
          case rel => exact ⟨i + 1, .slice (some ⟨g, 0, none⟩) (i + 1) c, by omega, by go_num, K6, S6, O6, B6⟩
          case measure => simp [intOf]; omega
      · skip
        refine wp_region_rely2 (by kernel_rfl) 8 (by kernel_rfl) (by kernel_rfl) Ext Ext.refl Ext.trans (fun ix => match ix with
          | 0 => fun _ v => v = .pointer (some ⟨w.heap.size + 1, 0, none⟩)
          | 1 => fun _ v => v = .pointer (some ⟨w.heap.size + 1, 0, none⟩)
          | 2 => fun _ v => v = .pointer (some ⟨w.heap.size + 1, 0, none⟩)
          | 3 => fun _ v => v = .pointer (some ⟨w.heap.size + 1, 16, none⟩)
          | 4 => fun _ v => v = .slice A i c
          | 5 => fun _ v => v = .agg (u8s PD).toArray
          | 6 => fun w v => ∃ b, v = .slice (some ⟨b, 0, none⟩) 1 1 ∧ w.heap[b]? = some (.cells (u8s PD).toArray 43 (0, 0))
          | 7 => fun W v => (∃ b, v.ownBlock = some b ∧ w4.heap.size ≤ b) ∧ W.ownsRow (w.heap.size + 2) 43 16 v (i + 1) (dcells (lvT x i ++ [PD]))
          | _ => fun _ _ => False) ?_
        simp (maxSteps := 10000000) only [Rely, List.take_succ_cons, List.take_zero, List.drop_succ_cons, List.drop_zero, Nat.reduceAdd, Nat.zero_add, Act.put, List.setIfInBounds_toArray, List.set_cons_succ, List.set_cons_zero]
        refine ⟨?_, ?_, ?_, ?_, ?_, ?_, ?_, ?_, ?_⟩
        · refine step_plain rfl fun vs w5 hE hd => ?_
          exact gives_move _ (.pointer (some ⟨w.heap.size + 1, 0, none⟩)) (.inl rfl) rfl ⟨Ext.refl _, fun _ _ => rfl⟩
        · refine step_plain rfl fun vs w5 hE hd => ?_
          exact gives_move _ (.pointer (some ⟨w.heap.size + 1, 0, none⟩)) (.inl rfl) rfl ⟨Ext.refl _, fun _ _ => rfl⟩
        · refine step_plain rfl fun vs w5 hE hd => ?_
          exact gives_nilCheck _ rfl ⟨w.heap.size + 1, 0, none⟩ (show vs 1 = _ from (hd.1)) ⟨Ext.refl _, fun _ _ => rfl⟩
        · refine step_plain rfl fun vs w5 hE hd => ?_
          exact gives_fieldAddr' 127 _ 1 rfl (.pointer (some ⟨w.heap.size + 1, 0, none⟩)) _ (show vs 2 = _ from (hd.1)) (by go_simp) ⟨Ext.refl _, fun _ _ => rfl⟩
        · refine step_plain rfl fun vs w5 hE hd => ?_
          have hc := (cell_on (ext_of_drew hE) KC4.out)
          exact gives_loadAt 55 _ rfl (.pointer (some ⟨w.heap.size + 1, 16, none⟩)) (.slice A i c) (show vs 3 = _ from hd.1) (by go_simp) ⟨Ext.refl _, fun _ _ => rfl⟩
        · refine step_plain rfl fun vs w5 hE hd => ?_
          exact gives_load_row 43 _ rfl w3.heap.size 0 rfl (u8s PD) _ (range_below RP4.out (ext_of_drew hE)) Tryd.underlying43 rfl (hi43 PD PDL.out) ⟨Ext.refl _, fun _ _ => rfl⟩
        · refine step_plain rfl fun vs w5 hE hd => ?_
          refine gives_build 55 1 _ rfl #[(0, .agg (u8s PD).toArray)] (by simp [Act.eval, show vs 5 = _ from (hd.1)]) _ (build55 PD PDL.out w5) ⟨(Below.refl _ _).alloc (Nat.le_refl _) _, fun w'' hE2 => ?_⟩
          exact ⟨w5.heap.size, rfl, blk_below (heap_alloc_new w5 _) hE2⟩
        · refine step_plain rfl fun vs w5 hE hd => ?_
          obtain ⟨b, hb7, hbb⟩ := hd.2.1
          have hbs : w4.heap.size ≤ w5.heap.size := (ext_of_drew hE).size
          have hz4 := Z4.out
          refine gives_append_grow _ _ rfl (w.heap.size + 2) b i c A PD PDL.out (lvT x i) HOL.out (show vs 4 = _ from (hd.1)) (show vs 6 = _ from hb7) hbb (own_bel OW4.out (ext_of_drew hE)) (by omega) (by omega) (by omega) fun v w' h1 h2 h3 => ⟨h3, fun w'' hE2 => ⟨⟨_, h1, hbs⟩, own_bel h2 hE2⟩⟩
        · intro vs w5 hE hR
          obtain ⟨⟨b8, hb8, hbl8⟩, hown8⟩ := hR 7 (by omega)
          have hl0 : vs 0 = .pointer (some ⟨w.heap.size + 1, 0, none⟩) := hR 0 (by omega)
          rw [hl0]
          obtain ⟨v8, hv8⟩ : ∃ v, v = vs 7 := ⟨_, rfl⟩
          rw [← hv8] at hb8 hown8 ⊢
          obtain ⟨g, c8, _, rfl, hbg8, _⟩ := own_blk2 (by omega) hown8
          have HBG : Hid (w.heap.size + 2 ≤ g) := Lib.hid hbg8
          have hk5 : w5.heap[w.heap.size + 1]? = some (.cells (KC x (.slice A i c) zero16) 127 (0, 0)) := blk_below KB4.out (ext_of_drew hE)
          have hs5 : w5.heap[w.heap.size]? = some (.cells (u8s x).toArray 43 (0, 0)) := blk_below SB4.out (ext_of_drew hE)
          have hb5 : Below w.heap.size w w5 := B4.out.trans ((ext_of_drew hE).mono B4.out.size)
          have ho5 : w5.ownsRow (w.heap.size + 2) 43 16 (.slice (some ⟨g, 0, none⟩) (i + 1) c8) (i + 1) (dcells (lvT x (i + 1))) := by rw [HLV.out]; exact hown8
          clear hbg8 hv8 hbl8 hb8 hown8
          have hc5 := KC_cell HL.out hk5
          have hf5 : w5.frozen? ⟨w.heap.size + 1, 16, none⟩ = false := KC_free hk5
          have K6 := Lib.hid (KC_store (v' := .slice (some ⟨g, 0, none⟩) (i + 1) c8) HL.out hk5)
          have S6 := Lib.hid ((heap_setCell_other w5 ⟨w.heap.size + 1, 16, none⟩ w.heap.size (.slice (some ⟨g, 0, none⟩) (i + 1) c8) (by simp)).trans hs5)
          have B6 := Lib.hid (hb5.setCell (p := ⟨w.heap.size + 1, 16, none⟩) (Nat.le_succ _) (.slice (some ⟨g, 0, none⟩) (i + 1) c8))
          have O6 := Lib.hid (own_other (q := w.heap.size + 1) (W' := w5.setCell ⟨w.heap.size + 1, 16, none⟩ (.slice (some ⟨g, 0, none⟩) (i + 1) c8)) ho5 (by rw [World.size_setCell]; exact Nat.le_refl _) (fun k hk => heap_setCell_other w5 ⟨w.heap.size + 1, 16, none⟩ k _ hk) rfl rfl rfl (by have := HBG.out; simp [Value.ownBlock]; omega))
          clear hR hE hl0 hk5 hs5 hb5 ho5
          go_wp2_with fail
          go_roundw
          case rel => exact ⟨i + 1, .slice (some ⟨g, 0, none⟩) (i + 1) c8, by omega, by go_num, K6, S6, O6, B6⟩
          case measure => simp [intOf]; omega
    · obtain rfl : i = 32 := by omega
      obtain ⟨A, c, rfl⟩ := own_form OW.out
      have DG := Lib.hid (Dgs.of_own OW.out (lvT_len x 32).symm (lvT_good x 32))
      have hcell := KC_cell HL.out KB.out
      go_wp2_with fail
      refine (root_ok (lvT x 32) A 32 c wr DG.out (lvT_len x 32).symm rfl (range_below HK.out BL.out) (Nat.lt_of_lt_of_le h18 BL.out.size)).mono ?_
      rintro e w3 ⟨rfl, hb3⟩
      have hgr := rootT_good (lvT x 32) (lvT_len x 32) (lvT_good x 32)
      obtain ⟨RT, hRT⟩ : ∃ d, d = rootT (lvT x 32) := ⟨_, rfl⟩
      rw [← hRT] at hgr ⊢
      have HRT := Lib.hid hRT
      have RTL := Lib.hid hgr.1
      have HN3 := Lib.hid (has_new w3 (Array.replicate 16 (Value.int .u8 0)) 43 (u8s RT).length (by rw [u8s_len', RTL.out]; rfl))
      have KB3 := Lib.hid (blk_below KB.out hb3)
      have OW3 := Lib.hid (own_bel OW.out hb3)
      have B3 := Lib.hid (BL.out.trans (hb3.mono BL.out.size))
      clear hRT hgr hb3 hcell KB SB OW BL DG
      go_wp2_with (first | (refine wpList_store_row rfl 43 (.tmp 7) (.tmp 40) rfl w3.heap.size rfl (u8s RT) rfl 43 HN3.out (hi43 RT RTL.out) (one_u8s _) ?_; intro w4 hp4; have L4 : Below w3.heap.size w3 w4 := (hp4.below ((Below.refl _ _).alloc (Nat.le_refl _) _) (Nat.le_refl _)); have KB4 := Lib.hid (blk_below KB3.out L4); have OW4 := Lib.hid (own_bel OW3.out L4); have B4 := Lib.hid (B3.out.trans (L4.mono B3.out.size)); have RT4 := Lib.hid (blk_range hp4.blk); clear hp4 L4) | (refine wpList_load_g rfl 43 (.tmp 7) rfl w3.heap.size 0 rfl (u8s RT) _ RT4.out Tryd.underlying43 rfl (hi43 RT RTL.out) ?_) | (refine wpList_store_mid rfl 43 (.tmp 47) (.tmp 45) rfl (w.heap.size + 1) 17 (u8s RT).toArray rfl rfl (KC_there HL.out rfl KB4.out 17 _ (by rw [List.size_toArray, u8s_len', RTL.out]; omega)) (by simpa using hi43 RT RTL.out) (all_oneCell_toArray (one_u8s _)) ?_))
      obtain ⟨w5, hw5⟩ : ∃ y, y = w4.setCells (w.heap.size + 1) 17 (u8s RT).toArray.toList := ⟨_, rfl⟩
      have hk5 : w5.heap[w.heap.size + 1]? = some (.cells (KC x (.slice A 32 c) RT) 127 (0, 0)) := by rw [hw5]; exact KC_setroot HL.out rfl RTL.out KB4.out
      have hb5 : Below w.heap.size w w5 := by rw [hw5]; exact setCells_below _ (Nat.le_succ _) _ _ _ B4.out
      have ho5 : w5.ownsRow (w.heap.size + 2) 43 16 (.slice A 32 c) 32 (dcells (lvT x 32)) := by
        have hnq : Value.ownBlock (.slice A 32 c) ≠ some (w.heap.size + 1) := fun e => by have := (OW4.out.lt _ e).1; omega
        rw [hw5, setCells_row KB4.out (by rw [KC_size x _ _ HL.out rfl, u8s_len', RTL.out]; omega) (one_u8s _)]
        exact own_other (q := w.heap.size + 1) OW4.out (by simp) (fun k hk => setRow_other w4 _ k _ hk) rfl rfl rfl hnq
      rw [← hw5]
      have K5 := Lib.hid hk5
      have D5 := Lib.hid (Dgs.of_own ho5 (lvT_len x 32).symm (lvT_good x 32))
      have B5 := Lib.hid hb5
      clear hw5 hk5 hb5 ho5
      go_wp2_with fail
      go_ret
      exact ⟨_, A, c, rfl, Nat.le_succ _, ⟨by rw [← HRT.out]; exact K5.out, D5.out⟩, B5.out⟩
end Go.Proofs.YtdedphhohiioiaaDoor
/- What slices.Equal of digests does. -/
namespace Go.Proofs.YtdedphhohiioiaaDoor
open Go.RowKit

set_option maxHeartbeats 4000000 in
set_option maxRecDepth 100000 in
theorem equal_any (xs ys : List (List Int)) (A A' : Option Addr) (n n' c c' : Nat) (w : World) (hx : Dgs w (.slice A n c) xs) (hy : Dgs w (.slice A' n' c') ys) (hn : n = xs.length) (hn' : n' = ys.length) (hz : n ≤ 1000000) :
    Calls Tryd.prog 88 #[.slice A n c, .slice A' n' c'] w fun e w' => e = .returned (.bool (decide (xs = ys))) ∧ Below w.heap.size w w' := by
  have HXS := Lib.hid hx
  have HYS := Lib.hid hy
  have HN := Lib.hid hn
  have HN' := Lib.hid hn'
  clear hx hy hn hn'
  by_cases hne : n = n'
  · subst hne
    go_enter Tryd.func88, Tryd.ntmps88
    go_wp2
    go_loopw [5, 13] (fun _ k wr => ∃ (i : Nat), i ≤ n ∧ k = .int .i64 i ∧ Hid (xs.take i = ys.take i) ∧ Hid (Below w.heap.size w wr))
      (fun _ k _ => n - (intOf k).toNat)
    case atStart => exact ⟨0, by omega, rfl, Lib.hid rfl, Lib.hid (Below.refl _ _)⟩
    case round =>
      obtain ⟨i, hi, rfl, htk, hbel⟩ := hrel
      by_cases hlt : i < n
      · have hi1 : i < xs.length := by have := HN.out; omega
        have hi2 : i < ys.length := by have := HN'.out; omega
        obtain ⟨b, off, c1, e1, _, _, _, h4⟩ := (HXS.out.below hbel.out).cells (by intro e; rw [e] at hi1; simp at hi1)
        obtain ⟨b', off', c1', e1', _, _, _, h4'⟩ := (HYS.out.below hbel.out).cells (by intro e; rw [e] at hi2; simp at hi2)
        simp only [Value.slice.injEq] at e1 e1'
        obtain ⟨rfl, -, rfl⟩ := e1
        obtain ⟨rfl, -, rfl⟩ := e1'
        have ra := h4 i hi1
        have rb := h4' i hi2
        obtain ⟨dl, do1⟩ := HXS.out.at i hi1
        obtain ⟨dl', do2⟩ := HYS.out.at i hi2
        have ht1 : xs.take (i + 1) = xs.take i ++ [xs.getD i []] := by rw [List.take_succ_eq_append_getElem hi1]; simp [List.getD_eq_getElem?_getD, hi1]
        have ht2 : ys.take (i + 1) = ys.take i ++ [ys.getD i []] := by rw [List.take_succ_eq_append_getElem hi2]; simp [List.getD_eq_getElem?_getD, hi2]
        have hne2 : xs.getD i [] ≠ ys.getD i [] → xs ≠ ys := fun h e => h (by rw [e])
        obtain ⟨DA, hDA⟩ : ∃ d, d = xs.getD i [] := ⟨_, rfl⟩
        obtain ⟨DB, hDB⟩ : ∃ d, d = ys.getD i [] := ⟨_, rfl⟩
        rw [← hDA] at ra dl ht1 hne2
        rw [← hDB] at rb dl' ht2 hne2
        have hi43 : (Tryd.prog.info? 43).map (·.size) = some (u8s DA).length := by rw [u8s_len', dl]; exact Tryd.size43
        have hi43' : (Tryd.prog.info? 43).map (·.size) = some (u8s DB).length := by rw [u8s_len', dl']; exact Tryd.size43
        have RA := Lib.hid ra
        have RB := Lib.hid rb
        have HT1 := Lib.hid ht1
        have HT2 := Lib.hid ht2
        have HNE := Lib.hid hne2
        have HI := Lib.hid hi43
        have HI' := Lib.hid hi43'
        have HDL := Lib.hid dl
        have HDL' := Lib.hid dl'
        clear ra rb ht1 ht2 hne2 hi43 hi43' dl dl' do1 do2 hDA hDB h4 h4' hi1 hi2
        have hil : (i : Int) < n := by omega
        go_wp2_with fail
--[
        refine wp_region_rely (by kernel_rfl) 9 (by kernel_rfl) (by kernel_rfl) Ext Ext.refl Ext.trans (fun ix => match ix with
          | 0 => fun _ v => v = .slice (some ⟨b, off, none⟩) n c
          | 1 => fun _ v => v = .int .i64 i
          | 2 => fun _ v => v = .pointer (some ⟨b, off + i * 16, none⟩)
          | 3 => fun _ v => v = .agg (u8s DA).toArray
          | 4 => fun _ v => v = .slice (some ⟨b', off', none⟩) n c'
          | 5 => fun _ v => v = .int .i64 i
          | 6 => fun _ v => v = .pointer (some ⟨b', off' + i * 16, none⟩)
          | 7 => fun _ v => v = .agg (u8s DB).toArray
          | 8 => fun _ v => v = .bool (!decide (DA = DB))
          | _ => fun _ _ => False) ?_
        simp (maxSteps := 10000000) only [Rely, List.take_succ_cons, List.take_zero, List.drop_succ_cons, List.drop_zero, Nat.reduceAdd, Nat.zero_add, Act.put, List.setIfInBounds_toArray, List.set_cons_succ, List.set_cons_zero]
        refine ⟨?_, ?_, ?_, ?_, ?_, ?_, ?_, ?_, ?_, ?_⟩
        · refine step_plain rfl fun vs w1 hE hd => ?_
          exact gives_move _ (.slice (some ⟨b, off, none⟩) n c) (.inl rfl) rfl ⟨Ext.refl _, fun _ _ => rfl⟩
        · refine step_plain rfl fun vs w1 hE hd => ?_
          exact gives_move _ (.int .i64 i) (.inl rfl) rfl ⟨Ext.refl _, fun _ _ => rfl⟩
        · refine step_plain rfl fun vs w1 hE hd => ?_
          exact gives_indexAt 55 _ _ rfl (.slice (some ⟨b, off, none⟩) n c) (.int .i64 i) (.pointer (some ⟨b, off + i * 16, none⟩)) (show vs 0 = _ from hd.1) (show vs 1 = _ from hd.2.1) (by go_simp) ⟨Ext.refl _, fun _ _ => rfl⟩
        · refine step_plain rfl fun vs w1 hE hd => ?_
          exact gives_load_row 43 _ rfl b (off + i * 16) (show vs 2 = _ from (hd.1)) (u8s DA) _ (range_below RA.out (ext_of_drew hE)) Tryd.underlying43 rfl HI.out ⟨Ext.refl _, fun _ _ => rfl⟩
        · refine step_plain rfl fun vs w1 hE hd => ?_
          exact gives_move _ (.slice (some ⟨b', off', none⟩) n c') (.inl rfl) rfl ⟨Ext.refl _, fun _ _ => rfl⟩
        · refine step_plain rfl fun vs w1 hE hd => ?_
          exact gives_move _ (.int .i64 i) (.inl rfl) rfl ⟨Ext.refl _, fun _ _ => rfl⟩
        · refine step_plain rfl fun vs w1 hE hd => ?_
          exact gives_indexAt 55 _ _ rfl (.slice (some ⟨b', off', none⟩) n c') (.int .i64 i) (.pointer (some ⟨b', off' + i * 16, none⟩)) (show vs 4 = _ from hd.1) (show vs 5 = _ from hd.2.1) (by go_simp) ⟨Ext.refl _, fun _ _ => rfl⟩
        · refine step_plain rfl fun vs w1 hE hd => ?_
          exact gives_load_row 43 _ rfl b' (off' + i * 16) (show vs 6 = _ from (hd.1)) (u8s DB) _ (range_below RB.out (ext_of_drew hE)) Tryd.underlying43 rfl HI'.out ⟨Ext.refl _, fun _ _ => rfl⟩
        · refine step_plain rfl fun vs w1 hE hd => ?_
          exact gives_binOp .neq 43 _ _ _ rfl (.agg (u8s DA).toArray) (.agg (u8s DB).toArray) (.bool (!decide (DA = DB))) (show vs 3 = _ from (hd.1)) (show vs 7 = _ from (hd.2.1)) (by go_simp) (run_neq43 DA DB HDL.out HDL'.out _) ⟨Ext.refl _, fun _ _ => rfl⟩
        · intro vs w2 hE hR
          have h8 : vs 8 = .bool (!decide (DA = DB)) := hR 8 (by omega)
          rw [h8]
          have hb2 : Below w.heap.size w w2 := hbel.out.trans (Below.mono (ext_of_drew hE) hbel.out.size)
          have HB2 := Lib.hid hb2
          clear hR hE h8 hb2
          by_cases heq : DA = DB
          · rw [show (!decide (DA = DB)) = false by simp [heq]]
            go_wp2
            go_roundw
            case rel => exact ⟨i + 1, by omega, by go_num, Lib.hid (by rw [HT1.out, HT2.out, htk.out, heq]), HB2⟩
            case measure => simp [intOf]; omega
          · rw [show (!decide (DA = DB)) = true by simp [heq]]
            go_wp2
            go_ret
            exact ⟨by rw [decide_eq_false (HNE.out heq)]; rfl, HB2.out⟩
--]
      · obtain rfl : i = n := by omega
        have he : xs = ys := by
          have := htk.out
          rwa [List.take_of_length_le (by rw [HN.out]; exact Nat.le_refl _), List.take_of_length_le (by rw [HN'.out]; exact Nat.le_refl _)] at this
        have HE := Lib.hid he
        clear he
        go_wp2
        go_ret
        exact ⟨by rw [decide_eq_true HE.out]; rfl, hbel.out⟩
  · have hni : ((n : Int) != n') = true := by simp; omega
    go_enter Tryd.func88, Tryd.ntmps88
    go_wp2
    go_ret
    exact ⟨by rw [decide_eq_false (fun e => hne (by rw [HN.out, HN'.out, e]))]; rfl, Below.refl _ _⟩
end Go.Proofs.YtdedphhohiioiaaDoor
/- What keys.Same, the reference's Same, Key.Root and Left do. -/
namespace Go.Proofs.YtdedphhohiioiaaDoor
open Go.RowKit

set_option maxHeartbeats 4000000 in
set_option maxRecDepth 100000 in
theorem ksame_any (l l' : Int) (xs xs' ps ps' : List (List Int)) (A A' B B' : Option Addr) (n n' c c' m m' d d' : Nat) (w : World)
    (hx : Dgs w (.slice A n c) xs) (hx' : Dgs w (.slice A' n' c') xs') (hp : Dgs w (.slice B m d) ps) (hp' : Dgs w (.slice B' m' d') ps')
    (hn : n = xs.length ∧ n' = xs'.length ∧ m = ps.length ∧ m' = ps'.length) (hz : n ≤ 1000000) (hz2 : m ≤ 1000000) :
    Calls Tryd.prog 64 #[.agg #[.int .i64 l, .slice A n c, .slice B m d], .agg #[.int .i64 l', .slice A' n' c', .slice B' m' d']] w fun e w' => e = .returned (.bool (decide (l = l' ∧ xs = xs' ∧ ps = ps'))) ∧ Below w.heap.size w w' := by
  have HX := Lib.hid hx
  have HX' := Lib.hid hx'
  have HP := Lib.hid hp
  have HP' := Lib.hid hp'
  have HN := Lib.hid hn
  have B0 := Lib.hid (((Below.refl w.heap.size w).alloc (Nat.le_refl _) (.cells #[.int .i64 l, .slice A n c, .slice B m d] 88)).alloc (by simp) (.cells #[.int .i64 l', .slice A' n' c', .slice B' m' d'] 88))
  clear hx hx' hp hp' hn
  by_cases hl : l = l'
  · subst hl
    have hll : (l == l) = true := by simp
    go_enter Tryd.func64, Tryd.ntmps64
    go_wp2_with fail
    refine (equal_any xs xs' A A' n n' c c' _ (HX.out.below B0.out) (HX'.out.below B0.out) HN.out.1 HN.out.2.1 hz).mono ?_
    rintro e w2 ⟨rfl, hb2⟩
    have h20 := blk_below (alloc_blk (o' := .cells #[.int .i64 l, .slice A' n' c', .slice B' m' d'] 88) (heap_alloc_new w (.cells #[.int .i64 l, .slice A n c, .slice B m d] 88))) hb2
    have h21 := blk_below (heap_alloc_new (w.alloc (.cells #[.int .i64 l, .slice A n c, .slice B m d] 88)) (.cells #[.int .i64 l, .slice A' n' c', .slice B' m' d'] 88)) hb2
    rw [show (w.alloc (.cells #[.int .i64 l, .slice A n c, .slice B m d] 88)).heap.size = w.heap.size + 1 by simp] at h21
    have hc0 : w2.cell? ⟨w.heap.size, 2, none⟩ = some (.slice B m d) := by rw [cell_of_row _ _ _ _ _ _ h20]; rfl
    have hc1 : w2.cell? ⟨w.heap.size + 1, 2, none⟩ = some (.slice B' m' d') := by rw [cell_of_row _ _ _ _ _ _ h21]; rfl
    have B2 := Lib.hid (B0.out.trans (hb2.mono B0.out.size))
    clear hb2 h20 h21
    by_cases hxx : xs = xs'
    · rw [decide_eq_true hxx]
      have HXX := Lib.hid hxx
      clear hxx
      go_wp2_with fail
      refine (equal_any ps ps' B B' m m' d d' w2 (HP.out.below B2.out) (HP'.out.below B2.out) HN.out.2.2.1 HN.out.2.2.2 hz2).mono ?_
      rintro e w3 ⟨rfl, hb3⟩
      have B3 := Lib.hid (B2.out.trans (hb3.mono B2.out.size))
      clear hb3
      by_cases hpp : ps = ps'
      · rw [decide_eq_true hpp]
        have HPP := Lib.hid hpp
        clear hpp
        go_wp2_with fail
        go_ret
        exact ⟨by show Ending.returned (.bool true) = _; simp [HXX.out, HPP.out], B3.out⟩
      · rw [decide_eq_false hpp]
        have HPP := Lib.hid hpp
        clear hpp
        go_wp2_with fail
        go_ret
        exact ⟨by show Ending.returned (.bool false) = _; simp [HPP.out], B3.out⟩
    · rw [decide_eq_false hxx]
      have HXX := Lib.hid hxx
      clear hxx
      go_wp2_with fail
      go_ret
      exact ⟨by show Ending.returned (.bool false) = _; simp [HXX.out], B2.out⟩
  · have hll : (l == l') = false := by simp [hl]
    have HLL := Lib.hid hl
    clear hl
    go_enter Tryd.func64, Tryd.ntmps64
    go_wp2_with fail
    go_ret
    exact ⟨by show Ending.returned (.bool false) = _; simp [HLL.out], B0.out⟩

set_option maxHeartbeats 4000000 in
set_option maxRecDepth 100000 in
theorem krsame_any (l l' : Int) (xs xs' ps ps' : List (List Int)) (A A' B B' : Option Addr) (n n' c c' m m' d d' : Nat) (w : World)
    (hx : Dgs w (.slice A n c) xs) (hx' : Dgs w (.slice A' n' c') xs') (hp : Dgs w (.slice B m d) ps) (hp' : Dgs w (.slice B' m' d') ps')
    (hn : n = xs.length ∧ n' = xs'.length ∧ m = ps.length ∧ m' = ps'.length) (hz : n ≤ 1000000) (hz2 : m ≤ 1000000) :
    Calls Tryd.prog 67 #[.agg #[.int .i64 l, .slice A n c, .slice B m d], .agg #[.int .i64 l', .slice A' n' c', .slice B' m' d']] w fun e w' => e = .returned (.bool (decide (l = l' ∧ xs = xs' ∧ ps = ps'))) ∧ Below w.heap.size w w' := by
  have HX := Lib.hid hx
  have HX' := Lib.hid hx'
  have HP := Lib.hid hp
  have HP' := Lib.hid hp'
  have HN := Lib.hid hn
  have B0 := Lib.hid (((Below.refl w.heap.size w).alloc (Nat.le_refl _) (.cells #[.int .i64 l, .slice A n c, .slice B m d] 88)).alloc (by simp) (.cells #[.int .i64 l', .slice A' n' c', .slice B' m' d'] 88))
  clear hx hx' hp hp' hn
  by_cases hl : l = l'
  · subst hl
    have hll : (l == l) = true := by simp
    go_enter Tryd.func67, Tryd.ntmps67
    go_wp2_with fail
    refine (same_any xs xs' A A' n n' c c' _ (HX.out.below B0.out) (HX'.out.below B0.out) HN.out.1 HN.out.2.1 hz).mono ?_
    rintro e w2 ⟨rfl, hb2⟩
    have h20 := blk_below (alloc_blk (o' := .cells #[.int .i64 l, .slice A' n' c', .slice B' m' d'] 88) (heap_alloc_new w (.cells #[.int .i64 l, .slice A n c, .slice B m d] 88))) hb2
    have h21 := blk_below (heap_alloc_new (w.alloc (.cells #[.int .i64 l, .slice A n c, .slice B m d] 88)) (.cells #[.int .i64 l, .slice A' n' c', .slice B' m' d'] 88)) hb2
    rw [show (w.alloc (.cells #[.int .i64 l, .slice A n c, .slice B m d] 88)).heap.size = w.heap.size + 1 by simp] at h21
    have hc0 : w2.cell? ⟨w.heap.size, 2, none⟩ = some (.slice B m d) := by rw [cell_of_row _ _ _ _ _ _ h20]; rfl
    have hc1 : w2.cell? ⟨w.heap.size + 1, 2, none⟩ = some (.slice B' m' d') := by rw [cell_of_row _ _ _ _ _ _ h21]; rfl
    have B2 := Lib.hid (B0.out.trans (hb2.mono B0.out.size))
    clear hb2 h20 h21
    by_cases hxx : xs = xs'
    · rw [decide_eq_true hxx]
      have HXX := Lib.hid hxx
      clear hxx
      go_wp2_with fail
      refine (same_any ps ps' B B' m m' d d' w2 (HP.out.below B2.out) (HP'.out.below B2.out) HN.out.2.2.1 HN.out.2.2.2 hz2).mono ?_
      rintro e w3 ⟨rfl, hb3⟩
      have B3 := Lib.hid (B2.out.trans (hb3.mono B2.out.size))
      clear hb3
      by_cases hpp : ps = ps'
      · rw [decide_eq_true hpp]
        have HPP := Lib.hid hpp
        clear hpp
        go_wp2_with fail
        go_ret
        exact ⟨by show Ending.returned (.bool true) = _; simp [HXX.out, HPP.out], B3.out⟩
      · rw [decide_eq_false hpp]
        have HPP := Lib.hid hpp
        clear hpp
        go_wp2_with fail
        go_ret
        exact ⟨by show Ending.returned (.bool false) = _; simp [HPP.out], B3.out⟩
    · rw [decide_eq_false hxx]
      have HXX := Lib.hid hxx
      clear hxx
      go_wp2_with fail
      go_ret
      exact ⟨by show Ending.returned (.bool false) = _; simp [HXX.out], B2.out⟩
  · have hll : (l == l') = false := by simp [hl]
    have HLL := Lib.hid hl
    clear hl
    go_enter Tryd.func67, Tryd.ntmps67
    go_wp2_with fail
    go_ret
    exact ⟨by show Ending.returned (.bool false) = _; simp [HLL.out], B0.out⟩

set_option maxHeartbeats 4000000 in
set_option maxRecDepth 100000 in
theorem keyRoot_any (q : Nat) (x : List Int) (hx : x.length = 16) (A : Option Addr) (c : Nat) (w : World) (h : KeyAt w q x A c) :
    Calls Tryd.prog 63 #[.pointer (some ⟨q, 0, none⟩)] w fun e w' => e = .returned (.agg (u8s (rootT (lvT x 32))).toArray) ∧ Below w.heap.size w w' := by
  have hgr := rootT_good (lvT x 32) (lvT_len x 32) (lvT_good x 32)
  have hra := KC_root hx h.blk
  obtain ⟨RT, hRT⟩ : ∃ d, d = rootT (lvT x 32) := ⟨_, rfl⟩
  rw [← hRT] at hgr hra ⊢
  have hi43 : (Tryd.prog.info? 43).map (·.size) = some (u8s RT).length := by rw [u8s_len', hgr.1]; exact Tryd.size43
  have HI := Lib.hid hi43
  have hh0 : Has (w.alloc (.cells (Array.replicate 16 (Value.int .u8 0)) 43)) w.heap.size 43 (u8s RT).length := has_new w _ _ _ (by rw [u8s_len', hgr.1]; rfl)
  have H0 := Lib.hid hh0
  have RA := Lib.hid (World.rangeAt_alloc hra (.cells (Array.replicate 16 (Value.int .u8 0)) 43))
  have B0 := Lib.hid ((Below.refl w.heap.size w).alloc (Nat.le_refl _) (.cells (Array.replicate 16 (Value.int .u8 0)) 43))
  clear hh0 hra hi43 hRT hgr
  go_enter Tryd.func63, Tryd.ntmps63
  go_wp2_with (first | (refine wpList_load_g rfl 43 (.tmp 5) rfl q 17 rfl (u8s RT) _ RA.out Tryd.underlying43 rfl HI.out ?_) | (refine wpList_store_row rfl 43 (.tmp 2) (.tmp 6) rfl w.heap.size rfl (u8s RT) rfl 43 H0.out HI.out (one_u8s _) ?_; intro w10 hp10))
  refine bodyPost_ret (v := .agg (u8s RT).toArray) (results_cell_row rfl _ _ w.heap.size 43 _ (0, 0) _ rfl hp10.blk Tryd.underlying43 rfl (by simpa using HI.out)) rfl ⟨rfl, hp10.below B0.out (Nat.le_refl _)⟩

set_option maxHeartbeats 4000000 in
set_option maxRecDepth 100000 in
theorem left_any (l : Int) (w : World) :
    Calls Tryd.prog 66 #[.int .i64 l] w fun e w' => e = .returned (.int .i64 (32 - min (max l 0) 32)) ∧ w' = w := by
  go_enter Tryd.func66, Tryd.ntmps66
  go_wp2_with fail
  go_ret
  exact ⟨rfl, rfl⟩
end Go.Proofs.YtdedphhohiioiaaDoor
/- What Key.Sign does. -/
namespace Go.Proofs.YtdedphhohiioiaaDoor
open Go.RowKit

/-- A signature as a value. -/
abbrev sigV (l : Int) (v u : Value) : Value := .agg #[.int .i64 l, v, u]
def sig0 : List Value := [.int .i64 0, .slice none 0 0, .slice none 0 0]
theorem Tryd.size88' : (Tryd.prog.info? 88).map (·.size) = some 3 := by kernel_rfl
/-- Worlds that go on, in which block r stays as it is. -/
def EO (n₀ r : Nat) (a b : World) : Prop := Below n₀ a b ∧ (a.heap[r]? = some (Obj.cells sig0.toArray 88 (0, 0)) → b.heap[r]? = some (Obj.cells sig0.toArray 88 (0, 0)))
theorem EO.refl (n₀ r : Nat) (a : World) : EO n₀ r a a := ⟨Below.refl _ _, id⟩
theorem EO.trans {n₀ r : Nat} {a b c : World} (h : EO n₀ r a b) (k : EO n₀ r b c) : EO n₀ r a c := ⟨h.1.trans k.1, fun x => k.2 (h.2 x)⟩
theorem eo_cell {w W0 wq : World} {r : Nat} {p : Addr} {v : Value} (hb : Below w.heap.size w W0) (hE : EO w.heap.size r W0.drew wq) (hc : w.cell? p = some v) : wq.cell? p = some v :=
  ((hb.drew.trans hE.1).cell (World.block_lt_of_cell? w p hc)).trans hc
theorem one_sig0 : ∀ v ∈ sig0, v.oneCell' = true := by
  intro v hv
  simp only [sig0, List.mem_cons, List.not_mem_nil, or_false] at hv
  rcases hv with rfl | rfl | rfl <;> rfl

set_option maxHeartbeats 8000000 in
set_option maxRecDepth 100000 in
theorem ksign_range (p : Value) (m : List Int) (l : Int) (hneg : l < 0) (aR : Addr) (w : World) (hf : w.cell? ⟨1, 0, none⟩ = some (errV aR)) :
    Calls Tryd.prog 62 #[p, .int .i64 l, .agg (u8s m).toArray] w fun e w' => e = .returned (.tuple #[sigV 0 (.slice none 0 0) (.slice none 0 0), errV aR]) ∧ Below w.heap.size w w' := by
  obtain ⟨W0, hW0⟩ : ∃ W0, W0 = (w.alloc (.cells (u8s m).toArray 43)).alloc (Obj.cells sig0.toArray 88) := ⟨_, rfl⟩
  have b0 : Below w.heap.size w W0 := by rw [hW0]; exact ((Below.refl _ _).alloc (Nat.le_refl _) _).alloc (by simp) _
  have q2 : W0.heap[w.heap.size + 1]? = some (Obj.cells sig0.toArray 88 (0, 0)) := by
    rw [hW0]
    have := heap_alloc_new (w.alloc (.cells (u8s m).toArray 43)) (Obj.cells sig0.toArray 88)
    rwa [World.size_alloc] at this
  have CR := Lib.hid hf
  have B0 := Lib.hid b0
  have HZ := Lib.hid q2
  clear b0 q2 hf
  
  go_enter Tryd.func62, Tryd.ntmps62
  go_wp2_with fail
  try change Code.wp _ _ _ _ ((w.alloc (.cells (u8s m).toArray 43)).alloc (Obj.cells sig0.toArray 88))
  rw [← hW0]
  clear hW0
  refine wp_region_rely3 (by kernel_rfl) 3 (by kernel_rfl) (by kernel_rfl) (EO w.heap.size (w.heap.size + 1)) (EO.refl _ _) EO.trans (fun ix => match ix with
    | 0 => fun _ v => v = .agg sig0.toArray
    | 1 => fun _ v => v = errV aR
    | 2 => fun _ v => v = undef
    | _ => fun _ _ => False) ?_
  simp (maxSteps := 10000000) only [Rely, List.take_succ_cons, List.take_zero, List.drop_succ_cons, List.drop_zero, Nat.reduceAdd, Nat.zero_add, Act.put, List.setIfInBounds_toArray, List.set_cons_succ, List.set_cons_zero]
  refine ⟨?_, ?_, ?_, ?_⟩
  · refine step_plain rfl fun vs wq hE hd => ?_
    exact gives_val (.agg sig0.toArray) (w' := wq) (by go_simp; rfl) ⟨EO.refl _ _ _, fun _ _ => rfl⟩
  · refine step_plain rfl fun vs wq hE hd => ?_
    have hc := eo_cell B0.out hE CR.out
    exact gives_loadAt 57 _ rfl (.pointer (some ⟨1, 0, none⟩)) (errV aR) rfl (by go_simp) ⟨EO.refl _ _ _, fun _ _ => rfl⟩
  · refine step_plain rfl fun vs wq hE hd => ?_
    refine gives_store_row 88 _ _ rfl (w.heap.size + 1) rfl sig0 (hd.1) 88 ⟨_, by rw [List.size_toArray], hE.2 HZ.out⟩ Tryd.size88' one_sig0 fun w3 hp3 => ⟨⟨hp3.below (Below.refl _ _) (by omega), fun _ => hp3.blk⟩, fun _ _ => rfl⟩
  · intro vs w2 hE hR
    have h1 : vs 1 = errV aR := hR 1 (by omega)
    rw [h1]
    have HB2 := Lib.hid (B0.out.drew.trans hE.1)
    have HZ2 := Lib.hid (hE.2 HZ.out)
    clear hR hE h1
    go_wp2_with fail
    refine bodyPost_ret (v := .tuple #[.agg sig0.toArray, errV aR]) (results_cell_row_tmp rfl _ _ (w.heap.size + 1) 88 _ (0, 0) _ rfl HZ2.out Tryd.underlying88 rfl Tryd.size88' rfl) rfl ⟨rfl, HB2.out⟩

set_option maxHeartbeats 8000000 in
set_option maxRecDepth 100000 in
theorem ksign_spent (p : Value) (m : List Int) (l : Int) (hbig : 32 ≤ l) (aR : Addr) (w : World) (hf : w.cell? ⟨4, 0, none⟩ = some (errV aR)) :
    Calls Tryd.prog 62 #[p, .int .i64 l, .agg (u8s m).toArray] w fun e w' => e = .returned (.tuple #[sigV 0 (.slice none 0 0) (.slice none 0 0), errV aR]) ∧ Below w.heap.size w w' := by
  obtain ⟨W0, hW0⟩ : ∃ W0, W0 = (w.alloc (.cells (u8s m).toArray 43)).alloc (Obj.cells sig0.toArray 88) := ⟨_, rfl⟩
  have b0 : Below w.heap.size w W0 := by rw [hW0]; exact ((Below.refl _ _).alloc (Nat.le_refl _) _).alloc (by simp) _
  have q2 : W0.heap[w.heap.size + 1]? = some (Obj.cells sig0.toArray 88 (0, 0)) := by
    rw [hW0]
    have := heap_alloc_new (w.alloc (.cells (u8s m).toArray 43)) (Obj.cells sig0.toArray 88)
    rwa [World.size_alloc] at this
  have CR := Lib.hid hf
  have B0 := Lib.hid b0
  have HZ := Lib.hid q2
  clear b0 q2 hf
  have hn0 : ¬ l < 0 := by omega
  go_enter Tryd.func62, Tryd.ntmps62
  go_wp2_with fail
  try change Code.wp _ _ _ _ ((w.alloc (.cells (u8s m).toArray 43)).alloc (Obj.cells sig0.toArray 88))
  rw [← hW0]
  clear hW0
  refine wp_region_rely3 (by kernel_rfl) 3 (by kernel_rfl) (by kernel_rfl) (EO w.heap.size (w.heap.size + 1)) (EO.refl _ _) EO.trans (fun ix => match ix with
    | 0 => fun _ v => v = .agg sig0.toArray
    | 1 => fun _ v => v = errV aR
    | 2 => fun _ v => v = undef
    | _ => fun _ _ => False) ?_
  simp (maxSteps := 10000000) only [Rely, List.take_succ_cons, List.take_zero, List.drop_succ_cons, List.drop_zero, Nat.reduceAdd, Nat.zero_add, Act.put, List.setIfInBounds_toArray, List.set_cons_succ, List.set_cons_zero]
  refine ⟨?_, ?_, ?_, ?_⟩
  · refine step_plain rfl fun vs wq hE hd => ?_
    exact gives_val (.agg sig0.toArray) (w' := wq) (by go_simp; rfl) ⟨EO.refl _ _ _, fun _ _ => rfl⟩
  · refine step_plain rfl fun vs wq hE hd => ?_
    have hc := eo_cell B0.out hE CR.out
    exact gives_loadAt 57 _ rfl (.pointer (some ⟨4, 0, none⟩)) (errV aR) rfl (by go_simp) ⟨EO.refl _ _ _, fun _ _ => rfl⟩
  · refine step_plain rfl fun vs wq hE hd => ?_
    refine gives_store_row 88 _ _ rfl (w.heap.size + 1) rfl sig0 (hd.1) 88 ⟨_, by rw [List.size_toArray], hE.2 HZ.out⟩ Tryd.size88' one_sig0 fun w3 hp3 => ⟨⟨hp3.below (Below.refl _ _) (by omega), fun _ => hp3.blk⟩, fun _ _ => rfl⟩
  · intro vs w2 hE hR
    have h1 : vs 1 = errV aR := hR 1 (by omega)
    rw [h1]
    have HB2 := Lib.hid (B0.out.drew.trans hE.1)
    have HZ2 := Lib.hid (hE.2 HZ.out)
    clear hR hE h1
    go_wp2_with fail
    refine bodyPost_ret (v := .tuple #[.agg sig0.toArray, errV aR]) (results_cell_row_tmp rfl _ _ (w.heap.size + 1) 88 _ (0, 0) _ rfl HZ2.out Tryd.underlying88 rfl Tryd.size88' rfl) rfl ⟨rfl, HB2.out⟩

set_option maxHeartbeats 8000000 in
set_option maxRecDepth 100000 in
theorem ksign_ok (q : Nat) (x : List Int) (hl : x.length = 16) (hx : u8s_ok x) (A : Option Addr) (c : Nat) (i : Nat) (hi32 : i < 32) (m : List Int) (hlm : m.length = 16) (hm : u8s_ok m) (w : World) (h : KeyAt w q x A c)
    (hk : w.rangeAt 18 0 (u32s kk)) (h18 : 18 < w.heap.size) :
    Calls Tryd.prog 62 #[.pointer (some ⟨q, 0, none⟩), .int .i64 (i : Int), .agg (u8s m).toArray] w fun e w' => ∃ v u, e = .returned (.tuple #[sigV i v u, .nilIface]) ∧
      w'.ownsRow w.heap.size 43 16 v 68 (dcells (sigC i x m 68)) ∧ w'.ownsRow w.heap.size 43 16 u 5 (dcells (wayT (lvT x 32) i 5)) ∧ Below w.heap.size w w' := by
  have hi43 : ∀ V : List Int, V.length = 16 → (Tryd.prog.info? 43).map (·.size) = some (u8s V).length := fun V h => by rw [u8s_len', h]; exact Tryd.size43
  obtain ⟨W0, hW0⟩ : ∃ W0, W0 = (w.alloc (.cells (u8s m).toArray 43)).alloc (Obj.cells sig0.toArray 88) := ⟨_, rfl⟩
  have b0 : Below w.heap.size w W0 := by rw [hW0]; exact ((Below.refl _ _).alloc (Nat.le_refl _) _).alloc (by simp) _
  have q2 : W0.heap[w.heap.size + 1]? = some (Obj.cells sig0.toArray 88 (0, 0)) := by
    rw [hW0]
    have := heap_alloc_new (w.alloc (.cells (u8s m).toArray 43)) (Obj.cells sig0.toArray 88)
    rwa [World.size_alloc] at this
  have m0 : W0.rangeAt w.heap.size 0 (u8s m) := by rw [hW0]; exact World.rangeAt_alloc (range_new w (u8s m) 43) _
  have B0 := Lib.hid b0
  have HZ := Lib.hid q2
  have M0 := Lib.hid m0
  have H0 := Lib.hid (h.below b0)
  have HK := Lib.hid hk
  have HX := Lib.hid hx
  have HL := Lib.hid hl
  have HM := Lib.hid hm
  have HLM := Lib.hid hlm
  clear b0 q2 m0 h hk hx hl hm hlm
  have hil : (i : Int) < 32 := by omega
  have hnn : ¬ (i : Int) < 0 := by omega
  have hnb : ¬ (32 : Int) ≤ i := by omega
  go_enter Tryd.func62, Tryd.ntmps62
  go_wp2_with fail
  try change Code.wp _ _ _ _ ((w.alloc (.cells (u8s m).toArray 43)).alloc (Obj.cells sig0.toArray 88))
  rw [← hW0]
  clear hW0
  refine wp_region_rely2 (by kernel_rfl) 11 (by kernel_rfl) (by kernel_rfl) Ext Ext.refl Ext.trans (fun ix => match ix with
    | 0 => fun _ v => v = .pointer (some ⟨q, 0, none⟩)
    | 1 => fun _ v => v = .pointer (some ⟨q, 0, none⟩)
    | 2 => fun _ v => v = .pointer (some ⟨q, 0, none⟩)
    | 3 => fun _ v => v = .agg (u8s x).toArray
    | 4 => fun _ v => v = .int .i64 i
    | 5 => fun _ v => v = .agg (u8s m).toArray
    | 6 => fun W v => ∃ u, v = .tuple #[u, .nilIface] ∧ W.ownsRow w.heap.size 43 16 u 68 (dcells (sigC i x m 68))
    | 7 => fun W v => ∃ u, v = .tuple #[u, .nilIface] ∧ W.ownsRow w.heap.size 43 16 u 68 (dcells (sigC i x m 68))
    | 8 => fun W v => W.ownsRow w.heap.size 43 16 v 68 (dcells (sigC i x m 68))
    | 9 => fun _ v => v = .nilIface
    | 10 => fun W v => W.ownsRow w.heap.size 43 16 v 68 (dcells (sigC i x m 68))
    | _ => fun _ _ => False) ?_
  simp (maxSteps := 10000000) only [Rely, List.take_succ_cons, List.take_zero, List.drop_succ_cons, List.drop_zero, Nat.reduceAdd, Nat.zero_add, Act.put, List.setIfInBounds_toArray, List.set_cons_succ, List.set_cons_zero]
  refine ⟨?_, ?_, ?_, ?_, ?_, ?_, ?_, ?_, ?_, ?_, ?_, ?_⟩
  · refine step_plain rfl fun vs w5 hE hd => ?_
    exact gives_move _ (.pointer (some ⟨q, 0, none⟩)) (.inl rfl) rfl ⟨Ext.refl _, fun _ _ => rfl⟩
  · refine step_plain rfl fun vs w5 hE hd => ?_
    exact gives_nilCheck _ rfl ⟨q, 0, none⟩ (show vs 0 = _ from (hd.1)) ⟨Ext.refl _, fun _ _ => rfl⟩
  · refine step_plain rfl fun vs w5 hE hd => ?_
    exact gives_fieldAddr' 127 _ 0 rfl (.pointer (some ⟨q, 0, none⟩)) _ (show vs 1 = _ from (hd.1)) (by go_simp) ⟨Ext.refl _, fun _ _ => rfl⟩
  · refine step_plain rfl fun vs w5 hE hd => ?_
    exact gives_load_row 43 _ rfl q 0 (show vs 2 = _ from hd.1) (u8s x) _ (range_below (KC_seed H0.out.blk) (ext_of_drew hE)) Tryd.underlying43 rfl (hi43 x HL.out) ⟨Ext.refl _, fun _ _ => rfl⟩
  · refine step_plain rfl fun vs w5 hE hd => ?_
    exact gives_move _ (.int .i64 i) (.inl rfl) rfl ⟨Ext.refl _, fun _ _ => rfl⟩
  · refine step_plain rfl fun vs w5 hE hd => ?_
    exact gives_load_row 43 _ rfl w.heap.size 0 rfl (u8s m) _ (range_below M0.out (ext_of_drew hE)) Tryd.underlying43 rfl (hi43 m HLM.out) ⟨Ext.refl _, fun _ _ => rfl⟩
  · refine step_plain rfl fun vs w5 hE hd => ?_
    have hb5 := B0.out.trans ((ext_of_drew hE).mono B0.out.size)
    refine gives_call 47 (enters_of Tryd.func47 (by kernel_rfl) rfl) _ _ rfl rfl [.agg (u8s x).toArray, .int .i64 i, .agg (u8s m).toArray] (congr (congrArg (fun a b => a :: b) (show vs 3 = _ from hd.1)) (congr (congrArg (fun a b => a :: b) (show vs 4 = _ from hd.2.1)) (congrArg (fun a => [a]) (show vs 5 = _ from hd.2.2.1)))) ?_
    refine (sign_any x HL.out HX.out i (by omega) hil m HLM.out HM.out w5 (range_below HK.out hb5) (Nat.lt_of_lt_of_le h18 hb5.size)).mono ?_
    rintro _ w6 ⟨u, rfl, ho, hb6⟩
    exact ⟨_, rfl, hb6, fun w'' hE2 => ⟨u, rfl, own_bel (ownsRow_mono ho hb5.size) hE2⟩⟩
  · refine step_plain rfl fun vs w5 hE hd => ?_
    obtain ⟨u, hu, ho⟩ := hd.1
    exact gives_move _ _ (.inl rfl) (show vs 6 = _ from hu) ⟨Ext.refl _, fun w'' hE2 => ⟨u, rfl, own_bel ho hE2⟩⟩
  · refine step_plain rfl fun vs w5 hE hd => ?_
    obtain ⟨u, hu, ho⟩ := hd.1
    exact gives_val u (w' := w5) (by unfold execOp; simp [show vs 7 = _ from hu]; go_simp) ⟨Ext.refl _, fun w'' hE2 => own_bel ho hE2⟩
  · refine step_plain rfl fun vs w5 hE hd => ?_
    obtain ⟨u, hu, ho⟩ := hd.1
    exact gives_val .nilIface (w' := w5) (by unfold execOp; simp [show vs 7 = _ from hu]; go_simp) ⟨Ext.refl _, fun w'' hE2 => rfl⟩
  · refine step_plain rfl fun vs w5 hE hd => ?_
    exact gives_move _ (vs 8) (.inr rfl) rfl ⟨Ext.refl _, fun w'' hE2 => own_bel hd.1 hE2⟩
  · intro vs w5 hE hR
    have h9 : vs 9 = .nilIface := hR 9 (by omega)
    have ho5 := hR 10 (by omega)
    obtain ⟨A5, c5, hv5⟩ := own_form ho5
    rw [hv5] at ho5
    rw [h9, hv5]
    have B5 := Lib.hid (B0.out.trans ((ext_of_drew hE).mono B0.out.size))
    have H5 := Lib.hid (H0.out.below (ext_of_drew hE))
    have Z5 := Lib.hid (blk_below HZ.out (ext_of_drew hE))
    have O5 := Lib.hid ho5
    have hcell := KC_cell HL.out H5.out.blk
    clear hR hE h9 ho5 hv5
    go_wp2_with fail
    refine (path_ok (lvT x 32) A 32 c i hi32 w5 H5.out.dgs (lvT_len x 32).symm rfl (range_below HK.out B5.out) (Nat.lt_of_lt_of_le h18 B5.out.size)).mono ?_
    rintro e w6 ⟨u, rfl, ro6, hb6⟩
    obtain ⟨A6, c6, rfl⟩ := own_form ro6
    have P6 := Lib.hid (ownsRow_mono ro6 B5.out.size)
    have O6 := Lib.hid (own_bel O5.out hb6)
    have Z6 := Lib.hid (blk_below Z5.out hb6)
    have B6 := Lib.hid (B5.out.trans (hb6.mono B5.out.size))
    have HONE : ∀ v ∈ [Value.int .i64 (i : Int), .slice A5 68 c5, .slice A6 5 c6], v.oneCell' = true := by
      intro v hv
      simp only [List.mem_cons, List.not_mem_nil, or_false] at hv
      rcases hv with rfl | rfl | rfl <;> rfl
    have HN := Lib.hid HONE
    clear ro6 hb6 hcell HONE
    go_wp2_with (refine wpList_store_row rfl 88 (.tmp 6) (.tmp 51) rfl (w.heap.size + 1) rfl [.int .i64 (i : Int), .slice A5 68 c5, .slice A6 5 c6] rfl 88 ⟨sig0.toArray, rfl, Z6.out⟩ Tryd.size88' HN.out ?_; intro w7 hp7)
    refine bodyPost_ret (v := .tuple #[sigV i (.slice A5 68 c5) (.slice A6 5 c6), .nilIface]) (results_cell_row_tmp rfl _ _ (w.heap.size + 1) 88 _ (0, 0) _ rfl hp7.blk Tryd.underlying88 rfl Tryd.size88' rfl) rfl ⟨_, _, rfl, ?_, ?_, hp7.below B6.out (by omega)⟩
    · exact own_other (q := w.heap.size + 1) O6.out (Nat.le_of_eq hp7.size.symm) hp7.other hp7.os hp7.tape hp7.output (own_not O6.out Z6.out (by decide))
    · exact own_other (q := w.heap.size + 1) P6.out (Nat.le_of_eq hp7.size.symm) hp7.other hp7.os hp7.tape hp7.output (own_not P6.out Z6.out (by decide))
end Go.Proofs.YtdedphhohiioiaaDoor
/- What keys.Verify does. -/
namespace Go.Proofs.YtdedphhohiioiaaDoor
open Go.RowKit

/-- Whether a signature is right. -/
def rightC (rt m : List Int) (l : Int) (ds ps : List (List Int)) : Bool :=
  decide ((0 ≤ l ∧ l < 32) ∧ ds.length = 68 ∧ ps.length = 5 ∧ climbAt (publicC l (recE l ds m 68)) l.toNat ps 5 = rt)
theorem run_eql43 (a b : List Int) (ha : a.length = 16) (hb : b.length = 16) (W : World) : (binOp .eql 43 (.agg (u8s a).toArray) (.agg (u8s b).toArray)).run Tryd.prog W = .ok (.bool (decide (a = b))) W :=
  run_eql_bytes 43 5 16 a b Tryd.underlying43 Tryd.underlying5 (by kernel_rfl) ha hb

set_option maxHeartbeats 8000000 in
set_option maxRecDepth 100000 in
theorem verify_any (rt m : List Int) (hrl : rt.length = 16) (hlm : m.length = 16) (hm : u8s_ok m) (l : Int) (ds ps : List (List Int)) (A B : Option Addr) (n c k d : Nat) (aR aF : Addr) (w : World)
    (hx : Dgs w (.slice A n c) ds) (hp : Dgs w (.slice B k d) ps) (hn : n = ds.length ∧ k = ps.length) (hr : w.cell? ⟨1, 0, none⟩ = some (errV aR)) (hf : w.cell? ⟨0, 0, none⟩ = some (errV aF))
    (hk : w.rangeAt 18 0 (u32s kk)) (h18 : 18 < w.heap.size) :
    Calls Tryd.prog 69 #[.agg (u8s rt).toArray, .agg (u8s m).toArray, sigV l (.slice A n c) (.slice B k d)] w fun e w' => e = .returned (.bool (rightC rt m l ds ps)) ∧ Below w.heap.size w w' := by
  have hi43 : ∀ V : List Int, V.length = 16 → (Tryd.prog.info? 43).map (·.size) = some (u8s V).length := fun V h => by rw [u8s_len', h]; exact Tryd.size43
  have b0 : Below w.heap.size w (((w.alloc (.cells (u8s rt).toArray 43)).alloc (.cells (u8s m).toArray 43)).alloc (.cells #[.int .i64 l, .slice A n c, .slice B k d] 88)) := by exact (((Below.refl _ _).alloc (Nat.le_refl _) _).alloc (by simp) _).alloc (by simp; omega) _
  have r0 : (((w.alloc (.cells (u8s rt).toArray 43)).alloc (.cells (u8s m).toArray 43)).alloc (.cells #[.int .i64 l, .slice A n c, .slice B k d] 88)).rangeAt w.heap.size 0 (u8s rt) := by exact World.rangeAt_alloc (World.rangeAt_alloc (range_new w (u8s rt) 43) _) _
  have m0 : (((w.alloc (.cells (u8s rt).toArray 43)).alloc (.cells (u8s m).toArray 43)).alloc (.cells #[.int .i64 l, .slice A n c, .slice B k d] 88)).rangeAt (w.heap.size + 1) 0 (u8s m) := by
    have := range_new (w.alloc (.cells (u8s rt).toArray 43)) (u8s m) 43
    rw [World.size_alloc] at this
    exact World.rangeAt_alloc this _
  have s0 : (((w.alloc (.cells (u8s rt).toArray 43)).alloc (.cells (u8s m).toArray 43)).alloc (.cells #[.int .i64 l, .slice A n c, .slice B k d] 88)).heap[w.heap.size + 2]? = some (.cells #[.int .i64 l, .slice A n c, .slice B k d] 88 (0, 0)) := by
    have := heap_alloc_new ((w.alloc (.cells (u8s rt).toArray 43)).alloc (.cells (u8s m).toArray 43)) (.cells #[.int .i64 l, .slice A n c, .slice B k d] 88)
    rwa [World.size_alloc, World.size_alloc] at this
  have B0 := Lib.hid b0
  have R0 := Lib.hid r0
  have M0 := Lib.hid m0
  have S0 := Lib.hid s0
  have X0 := Lib.hid (hx.below b0)
  have P0 := Lib.hid (hp.below b0)
  have CR := Lib.hid (cell_on b0 hr)
  have CF := Lib.hid (cell_on b0 hf)
  have HK := Lib.hid hk
  have HM := Lib.hid hm
  have HLM := Lib.hid hlm
  have HRL := Lib.hid hrl
  have HN := Lib.hid hn
  have c0 : (((w.alloc (.cells (u8s rt).toArray 43)).alloc (.cells (u8s m).toArray 43)).alloc (.cells #[.int .i64 l, .slice A n c, .slice B k d] 88)).cell? ⟨w.heap.size + 2, 0, none⟩ = some (.int .i64 l) := by rw [cell_of_row _ _ _ _ _ _ s0]; rfl
  have c1 : (((w.alloc (.cells (u8s rt).toArray 43)).alloc (.cells (u8s m).toArray 43)).alloc (.cells #[.int .i64 l, .slice A n c, .slice B k d] 88)).cell? ⟨w.heap.size + 2, 1, none⟩ = some (.slice A n c) := by rw [cell_of_row _ _ _ _ _ _ s0]; rfl
  clear b0 r0 m0 s0 hx hp hr hf hk hm hlm hrl hn
  go_enter Tryd.func69, Tryd.ntmps69
  go_wp2_with (refine wpList_load_g rfl 43 (.tmp 4) rfl (w.heap.size + 1) 0 rfl (u8s m) _ M0.out Tryd.underlying43 rfl (hi43 m HLM.out) ?_)
  change Calls _ _ _ (((w.alloc (.cells (u8s rt).toArray 43)).alloc (.cells (u8s m).toArray 43)).alloc (.cells #[.int .i64 l, .slice A n c, .slice B k d] 88)) _
  generalize (((w.alloc (.cells (u8s rt).toArray 43)).alloc (.cells (u8s m).toArray 43)).alloc (.cells #[.int .i64 l, .slice A n c, .slice B k d] 88)) = W0 at *
  clear c0 c1
  by_cases hin : 0 ≤ l ∧ l < 32
  case neg =>
    refine (recover_range l A n c m aR W0 hin CR.out).mono ?_
    rintro e w2 ⟨rfl, hb2⟩
    have B2 := Lib.hid (B0.out.trans (hb2.mono B0.out.size))
    have HIN := Lib.hid hin
    clear hb2 hin
    go_wp2_with (refine wpList_store_row rfl 43 (.tmp 7) (.tmp 17) rfl w2.heap.size rfl (u8s zero16) rfl 43 (has_new w2 (Array.replicate 16 (Value.int .u8 0)) 43 (u8s zero16).length (by rw [u8s_len', zero16_len]; rfl)) (hi43 zero16 zero16_len) (one_u8s _) ?_; intro w3 hp3; have L3 : Below w2.heap.size w2 w3 := (hp3.below ((Below.refl _ _).alloc (Nat.le_refl _) _) (Nat.le_refl _)); have T3 := Lib.hid (blk_range hp3.blk); have B3 := Lib.hid (B2.out.trans (L3.mono B2.out.size)); clear hp3)
    go_ret
    exact ⟨by unfold rightC; rw [decide_eq_false fun h => HIN.out h.1]; rfl, B3.out⟩
  by_cases h68 : n = 68
  case neg =>
    refine (recover_form l A n c m aF W0 hin.1 hin.2 h68 CF.out).mono ?_
    rintro e w2 ⟨rfl, hb2⟩
    have B2 := Lib.hid (B0.out.trans (hb2.mono B0.out.size))
    have H68 := Lib.hid h68
    clear hb2 hin h68
    go_wp2_with (refine wpList_store_row rfl 43 (.tmp 7) (.tmp 17) rfl w2.heap.size rfl (u8s zero16) rfl 43 (has_new w2 (Array.replicate 16 (Value.int .u8 0)) 43 (u8s zero16).length (by rw [u8s_len', zero16_len]; rfl)) (hi43 zero16 zero16_len) (one_u8s _) ?_; intro w3 hp3; have L3 : Below w2.heap.size w2 w3 := (hp3.below ((Below.refl _ _).alloc (Nat.le_refl _) _) (Nat.le_refl _)); have T3 := Lib.hid (blk_range hp3.blk); have B3 := Lib.hid (B2.out.trans (L3.mono B2.out.size)); clear hp3)
    go_ret
    exact ⟨by unfold rightC; rw [decide_eq_false fun h => H68.out (HN.out.1.trans h.2.1)]; rfl, B3.out⟩
  obtain ⟨i, rfl⟩ : ∃ i : Nat, l = i := ⟨l.toNat, by omega⟩
  have hi32 : i < 32 := by omega
  refine (recover_ok i A n c ds m W0 hin.1 hin.2 (fun W hW => X0.out.below hW) HN.out.1 h68 HLM.out HM.out (range_below HK.out B0.out) (Nat.lt_of_lt_of_le h18 B0.out.size)).mono ?_
  rintro e w2 ⟨rfl, hb2⟩
  obtain ⟨PD, hPD⟩ : ∃ p, p = publicC (i : Int) (recE (i : Int) ds m 68) := ⟨_, rfl⟩
  have hpl : PD.length = 16 ∧ u8s_ok PD := by rw [hPD]; exact ⟨short_len _ _, short_ok _ _⟩
  have PDL := Lib.hid hpl
  have HPD := Lib.hid hPD
  rw [← hPD]
  have B2 := Lib.hid (B0.out.trans (hb2.mono B0.out.size))
  have S2 := Lib.hid (blk_below S0.out hb2)
  have R2 := Lib.hid (range_below R0.out hb2)
  have P2 := Lib.hid (P0.out.below hb2)
  have CF2 := Lib.hid (cell_on hb2 CF.out)
  have H68 := Lib.hid h68
  clear hb2 hPD hpl hin h68
  have hil : (i : Int) < 32 := by omega
  go_wp2_with (first | (refine wpList_store_row rfl 43 (.tmp 7) (.tmp 17) rfl w2.heap.size rfl (u8s PD) rfl 43 (has_new w2 (Array.replicate 16 (Value.int .u8 0)) 43 (u8s PD).length (by rw [u8s_len', PDL.out.1]; rfl)) (hi43 PD PDL.out.1) (one_u8s _) ?_; intro w3 hp3; have L3 : Below w2.heap.size w2 w3 := (hp3.below ((Below.refl _ _).alloc (Nat.le_refl _) _) (Nat.le_refl _)); have T3 := Lib.hid (blk_range hp3.blk); have B3 := Lib.hid (B2.out.trans (L3.mono B2.out.size)); clear hp3; have S3 := Lib.hid (blk_below S2.out L3); have R3 := Lib.hid (range_below R2.out L3); have P3 := Lib.hid (P2.out.below L3); have CF3 := Lib.hid (cell_on L3 CF2.out); have c0 : w3.cell? ⟨w.heap.size + 2, 0, none⟩ = some (.int .i64 (i : Int)) := (by rw [cell_of_row _ _ _ _ _ _ S3.out]; rfl); have c2 : w3.cell? ⟨w.heap.size + 2, 2, none⟩ = some (.slice B k d) := (by rw [cell_of_row _ _ _ _ _ _ S3.out]; rfl)) | (refine wpList_load_g rfl 43 (.tmp 7) rfl w2.heap.size 0 rfl (u8s PD) _ T3.out Tryd.underlying43 rfl (hi43 PD PDL.out.1) ?_))
  clear c0 c2
  by_cases h5 : k = 5
  case neg =>
    refine (climb_form PD i B k d aF w3 (by omega) hil h5 CF3.out).mono ?_
    rintro e w4 ⟨rfl, hb4⟩
    have B4 := Lib.hid (B3.out.trans (hb4.mono B3.out.size))
    have H5 := Lib.hid h5
    clear hb4 h5
    go_wp2_with (refine wpList_store_row rfl 43 (.tmp 9) (.tmp 28) rfl w4.heap.size rfl (u8s zero16) rfl 43 (has_new w4 (Array.replicate 16 (Value.int .u8 0)) 43 (u8s zero16).length (by rw [u8s_len', zero16_len]; rfl)) (hi43 zero16 zero16_len) (one_u8s _) ?_; intro w5 hp5; have L5 : Below w4.heap.size w4 w5 := (hp5.below ((Below.refl _ _).alloc (Nat.le_refl _) _) (Nat.le_refl _)); have T5 := Lib.hid (blk_range hp5.blk); have B5 := Lib.hid (B4.out.trans (L5.mono B4.out.size)); clear hp5)
    go_ret
    exact ⟨by unfold rightC; rw [decide_eq_false fun h => H5.out (HN.out.2.trans h.2.2.1)]; rfl, B5.out⟩
  refine (climb_in PD PDL.out.1 PDL.out.2 i hi32 ps B k d w3 P3.out HN.out.2 h5 (range_below HK.out B3.out) (Nat.lt_of_lt_of_le h18 B3.out.size)).mono ?_
  rintro e w4 ⟨rfl, hb4⟩
  have hcg := climb_good PD i ps PDL.out.1 PDL.out.2 k
  obtain ⟨TP, hTP⟩ : ∃ t, t = climbAt PD i ps k := ⟨_, rfl⟩
  rw [← hTP] at hcg ⊢
  have HTP := Lib.hid hTP
  have TPL := Lib.hid hcg.1
  have H5 := Lib.hid h5
  have B4 := Lib.hid (B3.out.trans (hb4.mono B3.out.size))
  have R4 := Lib.hid (range_below R3.out hb4)
  clear hb4 hcg hTP h5
  have hfin : rightC rt m i ds ps = decide (TP = rt) := by
    unfold rightC
    rw [decide_eq_decide]
    rw [HTP.out, H5.out, HPD.out]
    constructor
    · exact fun h => h.2.2.2
    · exact fun h => ⟨⟨by omega, hil⟩, by rw [← HN.out.1, H68.out], by rw [← HN.out.2, H5.out], h⟩
  have HF := Lib.hid hfin
  have hrun := run_eql43 TP rt TPL.out HRL.out
  clear hfin
  go_wp2_with (first | (refine wpList_store_row rfl 43 (.tmp 9) (.tmp 28) rfl w4.heap.size rfl (u8s TP) rfl 43 (has_new w4 (Array.replicate 16 (Value.int .u8 0)) 43 (u8s TP).length (by rw [u8s_len', TPL.out]; rfl)) (hi43 TP TPL.out) (one_u8s _) ?_; intro w5 hp5; have L5 : Below w4.heap.size w4 w5 := (hp5.below ((Below.refl _ _).alloc (Nat.le_refl _) _) (Nat.le_refl _)); have T5 := Lib.hid (blk_range hp5.blk); have B5 := Lib.hid (B4.out.trans (L5.mono B4.out.size)); clear hp5; have R5 := Lib.hid (range_below R4.out L5)) | (refine wpList_load_g rfl 43 (.tmp 9) rfl w4.heap.size 0 rfl (u8s TP) _ T5.out Tryd.underlying43 rfl (hi43 TP TPL.out) ?_) | (refine wpList_load_g rfl 43 (.tmp 3) rfl w.heap.size 0 rfl (u8s rt) _ R5.out Tryd.underlying43 rfl (hi43 rt HRL.out) ?_))
  go_ret
  exact ⟨by rw [HF.out]; rfl, B5.out⟩
end Go.Proofs.YtdedphhohiioiaaDoor
