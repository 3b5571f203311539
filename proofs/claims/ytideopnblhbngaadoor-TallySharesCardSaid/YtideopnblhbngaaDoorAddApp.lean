/- append of one text in a region that draws its order. -/
import Derived.Test.YtideopnblhbngaaDoorPool
namespace Go.Proofs.YtideopnblhbngaaDoor
open Go.RowKit

theorem Tryd.info9 : (Tryd.prog.info? 9).map (fun i => (i.zero, i.size, i.bytes)) = some (some (Value.string ByteArray.empty), 1, 16) := by kernel_rfl
theorem src1 {w : World} {b : Nat} {T : ByteArray} (hb : w.heap[b]? = some (.cells #[.string T] 9 (0, 0))) : Src Tryd.prog 1 65 (.slice (some ⟨b, 0, none⟩) 1 1) 1 [.string T] w := by
  refine Src.ofSlice _ Tryd.underlying65 ⟨b, 0, none⟩ 1 1 [.string T] rfl (fun j u hu => ?_) (fun u hu => by simp at hu; subst hu; rfl)
  rw [show (⟨b, 0, none⟩ : Addr).add j = ⟨b, j, none⟩ by unfold Addr.add; split <;> simp_all]
  rw [cell_of_row _ _ _ _ _ _ hb]
  simpa using hu

/-- A block of texts that is written at n. -/
def putAt (cur : Array Value) (n : Nat) (T : ByteArray) : Array Value := (cur.toList.take n ++ [Value.string T] ++ cur.toList.drop (n + 1)).toArray
theorem putAt_size (cur : Array Value) (n : Nat) (T : ByteArray) (h : n < cur.size) : (putAt cur n T).size = cur.size := by
  simp [putAt]; omega
theorem putAt_take (cur : Array Value) (n : Nat) (T : ByteArray) (h : n < cur.size) : (putAt cur n T).toList.take (n + 1) = cur.toList.take n ++ [Value.string T] := by
  have hl : (cur.toList.take n ++ [Value.string T]).length = n + 1 := by simp; omega
  unfold putAt
  rw [List.take_append_of_le_length (by simp; omega)]
  exact List.take_of_length_le (by omega)
theorem putAt_twice (cur : Array Value) (n : Nat) (T : ByteArray) (h : n < cur.size) : putAt (putAt cur n T) n T = putAt cur n T := by
  apply Array.ext'
  have hl : (cur.toList.take n).length = n := by simp; omega
  have h1 : (putAt cur n T).toList.take n = cur.toList.take n := by
    unfold putAt
    rw [List.append_assoc, List.take_append_of_le_length (by omega)]
    exact List.take_of_length_le (by omega)
  have h3 : (putAt cur n T).toList.drop (n + 1) = cur.toList.drop (n + 1) := by
    unfold putAt
    rw [List.drop_append_of_le_length (by simp; omega), List.drop_of_length_le (by simp; omega)]
    simp
  show (putAt cur n T).toList.take n ++ [Value.string T] ++ (putAt cur n T).toList.drop (n + 1) = _
  rw [h1, h3]
  rfl

theorem gives_append_in {o : Oper} {ρ : Operand → Value} {w : World} {S : Value → World → Prop} (s x : Operand) (ho : o.op = .call { callee := .builtin .append, args := #[s, x], argTypes := #[65, 65] })
    (g n c b : Nat) (T : ByteArray) (cur : Array Value) (hs : ρ s = .slice (some ⟨g, 0, none⟩) n c) (hx : ρ x = .slice (some ⟨b, 0, none⟩) 1 1) (hb : w.heap[b]? = some (.cells #[.string T] 9 (0, 0))) (hg : w.heap[g]? = some (.cells cur 9 (0, 0))) (hc : cur.size = c) (hn : n < c)
    (h : S (.slice (some ⟨g, 0, none⟩) (n + 1) c) (w.setRow g (putAt cur n T))) : Gives Tryd.prog o ρ w S := by
  refine gives_val _ (w' := w.setRow g (putAt cur n T)) ?_ h
  obtain ⟨i0, hi, hzz⟩ := Option.map_eq_some_iff.1 Tryd.info9
  simp only [Prod.mk.injEq] at hzz
  obtain ⟨hz0, hz1, hz2⟩ := hzz
  have hst := run_storeCells_fr (P := Tryd.prog) g n 9 (0, 0) [.string T] 0 cur w hg (.inl (Nat.le_refl _)) (by simp; omega) (by simp [Value.oneCell'])
  simp only [Nat.add_zero] at hst
  have hsrc := src1 hb
  have hroom : n + 1 ≤ c := by omega
  have hr : (Builtin.append_ #[65, 65] o.type #[.slice (some ⟨g, 0, none⟩) n c, .slice (some ⟨b, 0, none⟩) 1 1]).run Tryd.prog w = .ok (.slice (some ⟨g, 0, none⟩) (n + 1) c) (w.setRow g (putAt cur n T)) := by
    have hcells := hsrc.cells
    have hlen := hsrc.len
    simp [Builtin.append_, run_underlying Tryd.underlying65, sizeOf, typeInfo, hi, hz1, hlen, hroom, hcells, Addr.add_lit, hst, putAt]
  unfold execOp
  simp only [ho, resolve, invoke, builtin, Sem.run_bind, Sem.run_pure, Result.andThen_ok, List.map_toArray, List.map_cons, List.map_nil, hs, hx, hr]

theorem gives_append_grow {o : Oper} {ρ : Operand → Value} {w : World} {S : Value → World → Prop} (s x : Operand) (ho : o.op = .call { callee := .builtin .append, args := #[s, x], argTypes := #[65, 65] })
    (base b c : Nat) (A : Option Addr) (T : ByteArray) (ts : List ByteArray) (hs : ρ s = .slice A ts.length c) (hx : ρ x = .slice (some ⟨b, 0, none⟩) 1 1) (hb : w.heap[b]? = some (.cells #[.string T] 9 (0, 0)))
    (hown : w.ownsRow base 9 1 (.slice A ts.length c) ts.length (strs ts)) (hbase : base ≤ w.heap.size) (hn : c < ts.length + 1) (hl : ts.length ≤ 100)
    (h : ∀ v w', v.ownBlock = some w.heap.size → w'.ownsRow base 9 1 v (ts.length + 1) (strs (ts ++ [T])) → Below w.heap.size w w' → S v w') : Gives Tryd.prog o ρ w S := by
  obtain ⟨i0, hi, hzz⟩ := Option.map_eq_some_iff.1 Tryd.info9
  simp only [Prod.mk.injEq] at hzz
  obtain ⟨hz0, hz1, hz2⟩ := hzz
  have hsrc : Src Tryd.prog i0.size 65 (.slice (some ⟨b, 0, none⟩) 1 1) 1 [.string T] w := by rw [hz1]; exact src1 hb
  have hold : (Builtin.firstCells i0.size ts.length (.slice A ts.length c)).run Tryd.prog w.drew = .ok (strs ts).toArray w.drew := by
    rcases hown.2 with ⟨e, h0⟩ | ⟨g, cap, cur, e, _, hg, hnc, hm, hcs, ht⟩
    · simp only [Value.slice.injEq] at e
      obtain ⟨rfl, _, rfl⟩ := e
      have : ts = [] := List.eq_nil_of_length_eq_zero h0
      subst this
      simp [Builtin.firstCells, strs]
    · simp only [Value.slice.injEq] at e
      obtain ⟨rfl, _, rfl⟩ := e
      refine run_firstCells_some (P := Tryd.prog) w.drew i0.size ts.length ⟨g, 0, none⟩ ts.length c (strs ts) (by rw [hz1, Nat.mul_one, strs_len]) ?_
      intro j u hu
      exact hown.cells (g := g) rfl j u hu
  have hr := run_append_grow_src (P := Tryd.prog) w 65 65 o.type 9 i0 _ Tryd.underlying65 hi hz0 A ts.length c (strs ts) hold (.slice (some ⟨b, 0, none⟩) 1 1) 1 [.string T] hsrc hn (by omega) (by
    have := growslice_fits (need := ts.length + 1) (old := c) (bytes := i0.bytes) (by omega) (by rw [hz2]; omega)
    exact this)
  have hge := grownCap_ge w (ts.length + 1) c 9
  have hcm : grownCap w (ts.length + 1) c 9 ≤ maxLen := grownCap_le_maxLen w (ts.length + 1) c 9 (by simp only [maxLen]; omega)
  refine gives_val (.slice (some ⟨w.heap.size, 0, none⟩) (ts.length + 1) (grownCap w (ts.length + 1) c 9)) (w' := w.drew.alloc (.cells ((strs ts ++ [Value.string T]).toArray ++ Builtin.zeroCells (Value.string ByteArray.empty).cells (grownCap w (ts.length + 1) c 9 - (ts.length + 1))) 9)) ?_ (h _ _ rfl ⟨by simp [strs], .inr ⟨w.heap.size, _, _, rfl, hbase, heap_alloc_new w.drew _, hge, hcm, ?_, ?_⟩⟩ ((Below.refl w.heap.size w).drew.alloc (Nat.le_refl _) _))
  · unfold execOp
    simp only [ho, resolve, invoke, builtin, Sem.run_bind, Sem.run_pure, Result.andThen_ok, List.map_toArray, List.map_cons, List.map_nil, hs, hx, hr]
  · simp only [Array.size_append, List.size_toArray, size_zeroCells, List.length_append, strs_len, List.length_cons, List.length_nil]
    simp [Value.cells]
    omega
  · rw [Array.toList_append]
    have : (strs ts ++ [Value.string T]) = strs (ts ++ [T]) := by simp [strs]
    rw [this]
    simp only [Nat.mul_one]
    rw [List.take_append_of_le_length (by simp [strs])]
    exact List.take_of_length_le (by simp [strs])
end Go.Proofs.YtideopnblhbngaaDoor
