/- The pool as it lies; New, Len, Has. -/
import Derived.Test.YtideopnblhbngaaDoorAmong
import Derived.Test.YtideopnblhbngaaDoorCheck
namespace Go.Proofs.YtideopnblhbngaaDoor
open Go.RowKit

/-- The pool's block p, with the slice v of the texts ts. -/
structure PoolAt (base p : Nat) (v : Value) (ts : List ByteArray) (w : World) : Prop where
  blk : w.heap[p]? = some (.cells #[v] 109 (0, 0))
  own : w.ownsRow base 9 1 v ts.length (strs ts)
  hp : base ≤ p
theorem PoolAt.form {base p : Nat} {v : Value} {ts : List ByteArray} {w : World} (h : PoolAt base p v ts w) : ∃ A c, v = .slice A ts.length c := (Txs.of_own h.own).form
theorem PoolAt.cell {base p : Nat} {v : Value} {ts : List ByteArray} {w : World} (h : PoolAt base p v ts w) : w.cell? ⟨p, 0, none⟩ = some v := by simp [World.cell?, h.blk]
theorem PoolAt.below {base p : Nat} {v : Value} {ts : List ByteArray} {w w' : World} (h : PoolAt base p v ts w) (hb : Below w.heap.size w w') : PoolAt base p v ts w' :=
  ⟨blk_below h.blk hb, h.own.kept (row := none) ⟨hb.os, hb.tape, hb.output, hb.size, fun k hk _ => hb.block k hk⟩ (by cases h' : v.ownBlock <;> simp), h.hp⟩
/-- The blocks that are the pool's. -/
def PoolS (p : Nat) (v : Value) (k : Nat) : Prop := k = p ∨ v.ownBlock = some k
/-- All but some blocks lie as they lay. -/
structure But (S : Nat → Prop) (w w' : World) : Prop where
  os : w'.os = w.os
  tape : w'.tape = w.tape
  output : w'.output = w.output
  size : w.heap.size ≤ w'.heap.size
  same : ∀ k, k < w.heap.size → ¬ S k → w'.heap[k]? = w.heap[k]?
theorem But.refl (S : Nat → Prop) (w : World) : But S w w := ⟨rfl, rfl, rfl, Nat.le_refl _, fun _ _ _ => rfl⟩
theorem But.of_below {S : Nat → Prop} {w w' : World} (h : Below w.heap.size w w') : But S w w' := ⟨h.os, h.tape, h.output, h.size, fun k hk _ => h.block k hk⟩
theorem But.trans {S : Nat → Prop} {a b c : World} (h : But S a b) (k : But S b c) : But S a c :=
  ⟨k.os.trans h.os, k.tape.trans h.tape, k.output.trans h.output, Nat.le_trans h.size k.size, fun i hi hs => (k.same i (Nat.lt_of_lt_of_le hi h.size) hs).trans (h.same i hi hs)⟩
theorem But.mono {S T : Nat → Prop} {a b : World} (h : But S a b) (hst : ∀ k, k < a.heap.size → S k → T k) : But T a b :=
  ⟨h.os, h.tape, h.output, h.size, fun i hi hs => h.same i hi fun hx => hs (hst i hi hx)⟩
theorem But.blk {S : Nat → Prop} {w w' : World} (h : But S w w') {g : Nat} {o : Obj} (hg : w.heap[g]? = some o) (hs : ¬ S g) : w'.heap[g]? = some o := (h.same g (blk_lt hg) hs).trans hg
theorem But.low {S : Nat → Prop} {w w' : World} {B : Nat} (h : But S w w') (hb : B ≤ w.heap.size) (hs : ∀ k, S k → B ≤ k) : Below B w w' :=
  ⟨h.os, h.tape, h.output, h.size, fun k hk => h.same k (by omega) fun hx => by have := hs k hx; omega⟩
theorem PoolAt.low {base p : Nat} {v : Value} {ts : List ByteArray} {w : World} (h : PoolAt base p v ts w) : ∀ k, PoolS p v k → base ≤ k := by
  rintro k (rfl | hk)
  · exact h.hp
  · exact (h.own.lt k hk).1
/-- A block of another type is not the pool's. -/
theorem PoolAt.notS {base p : Nat} {v : Value} {ts : List ByteArray} {w : World} (h : PoolAt base p v ts w) {k : Nat} {cs : Array Value} {t : TypeId} {fr : Nat × Nat} (hk : w.heap[k]? = some (.cells cs t fr)) (h9 : t ≠ 9) (h109 : t ≠ 109) : ¬ PoolS p v k := by
  rintro (rfl | e)
  · rw [h.blk] at hk; cases hk; exact h109 rfl
  · rcases h.own.2 with ⟨rfl, _⟩ | ⟨g, _, _, rfl, _, hg, _⟩
    · simp [Value.ownBlock] at e
    · simp only [Value.ownBlock, Option.some.injEq] at e
      subst e
      rw [hg] at hk
      cases hk
      exact h9 rfl

theorem gives_nilCheck {P : Program} {o : Oper} {ρ : Operand → Value} {w : World} {S : Value → World → Prop} (x : Operand) (ho : o.op = .nilCheck x) (a : Addr) (hx : ρ x = .pointer (some a)) (h : S (.pointer (some a)) w) : Gives P o ρ w S := by
  refine gives_val _ (w' := w) ?_ h
  unfold execOp
  simp only [ho, hx]
  go_simp
theorem gives_fieldAddr' {P : Program} {o : Oper} {ρ : Operand → Value} {w w' : World} {S : Value → World → Prop} (t : TypeId) (x : Operand) (k : Nat) (ho : o.op = .fieldAddr t x k) (a v : Value) (hx : ρ x = a) (hr : (Instr.fieldAt t a k).run P w = .ok v w') (h : S v w') : Gives P o ρ w S := by
  refine gives_val v (w' := w') ?_ h
  unfold execOp
  simp only [ho, hx, Sem.run_bind, hr, Result.andThen_ok, Sem.run_pure]

set_option maxHeartbeats 4000000 in
set_option maxRecDepth 100000 in
theorem new_any (w : World) : Calls Tryd.prog 25 #[] w fun e w' => e = .returned (.pointer (some ⟨w.heap.size, 0, none⟩)) ∧ w' = w.alloc (.cells #[.slice none 0 0] 109) := by
  go_enter Tryd.func25, Tryd.ntmps25
  go_wp2_with fail
  go_ret
  exact ⟨rfl, rfl⟩
theorem new_pool (w : World) : PoolAt w.heap.size w.heap.size (.slice none 0 0) [] (w.alloc (.cells #[.slice none 0 0] 109)) :=
  ⟨heap_alloc_new w _, World.ownsRow_nil _ _ _ _, Nat.le_refl _⟩

set_option maxHeartbeats 4000000 in
set_option maxRecDepth 100000 in
theorem len_any (base p : Nat) (v : Value) (ts : List ByteArray) (w : World) (h : PoolAt base p v ts w) :
    Calls Tryd.prog 31 #[.pointer (some ⟨p, 0, none⟩)] w fun e w' => e = .returned (.int .i64 ts.length) ∧ w' = w := by
  obtain ⟨A, c, rfl⟩ := h.form
  have hc := h.cell
  clear h
  go_enter Tryd.func31, Tryd.ntmps31
  go_wp2_with fail
  go_ret
  exact ⟨rfl, rfl⟩

set_option maxHeartbeats 4000000 in
set_option maxRecDepth 100000 in
theorem has_any (base p : Nat) (v : Value) (ts : List ByteArray) (bs : List Int) (B : Option Addr) (m d : Nat) (w : World) (h : PoolAt base p v ts w) (hx : Bs w (.slice B m d) bs) (hz : ts.length ≤ 1000) :
    Calls Tryd.prog 32 #[.pointer (some ⟨p, 0, none⟩), .slice B m d] w fun e w' => e = .returned (.bool (inT ts (strOfNums bs))) ∧ Below w.heap.size w w' := by
  obtain ⟨A, c, rfl⟩ := h.form
  have HC := Lib.hid h.cell
  have HT := Lib.hid (Txs.of_own h.own)
  have HX := Lib.hid hx
  obtain ⟨n, hn⟩ : ∃ n, n = ts.length := ⟨_, rfl⟩
  rw [← hn] at HC HT hz
  clear h hx hn
  go_enter Tryd.func32, Tryd.ntmps32
  go_wp2_with fail
  refine wp_region_rely (by kernel_rfl) 7 (by kernel_rfl) (by kernel_rfl) Ext Ext.refl Ext.trans (fun ix => match ix with
    | 0 => fun _ v => v = .pointer (some ⟨p, 0, none⟩)
    | 1 => fun _ v => v = .pointer (some ⟨p, 0, none⟩)
    | 2 => fun _ v => v = .pointer (some ⟨p, 0, none⟩)
    | 3 => fun _ v => v = .slice A n c
    | 4 => fun _ v => v = .slice B m d
    | 5 => fun _ v => v = .string (strOfNums bs)
    | 6 => fun _ v => v = .bool (inT ts (strOfNums bs))
    | _ => fun _ _ => False) ?_
  simp (maxSteps := 10000000) only [Rely, List.take_succ_cons, List.take_zero, List.drop_succ_cons, List.drop_zero, Nat.reduceAdd, Nat.zero_add, Act.put, List.setIfInBounds_toArray, List.set_cons_succ, List.set_cons_zero]
  refine ⟨?_, ?_, ?_, ?_, ?_, ?_, ?_, ?_⟩
  · refine step_plain rfl fun vs w1 hE hd => ?_
    exact gives_move _ (.pointer (some ⟨p, 0, none⟩)) (.inl rfl) rfl ⟨Ext.refl _, fun _ _ => rfl⟩
  · refine step_plain rfl fun vs w1 hE hd => ?_
    exact gives_nilCheck _ rfl ⟨p, 0, none⟩ (show vs 0 = _ from (hd.1)) ⟨Ext.refl _, fun _ _ => rfl⟩
  · refine step_plain rfl fun vs w1 hE hd => ?_
    exact gives_fieldAddr' 109 _ 0 rfl (.pointer (some ⟨p, 0, none⟩)) _ (show vs 1 = _ from (hd.1)) (by go_simp) ⟨Ext.refl _, fun _ _ => rfl⟩
  · refine step_plain rfl fun vs w1 hE hd => ?_
    have hc := cell_on (ext_of_drew hE) HC.out
    exact gives_loadAt 65 _ rfl (.pointer (some ⟨p, 0, none⟩)) (.slice A n c) (show vs 2 = _ from hd.1) (by go_simp) ⟨Ext.refl _, fun _ _ => rfl⟩
  · refine step_plain rfl fun vs w1 hE hd => ?_
    exact gives_move _ (.slice B m d) (.inl rfl) rfl ⟨Ext.refl _, fun _ _ => rfl⟩
  · refine step_plain rfl fun vs w1 hE hd => ?_
    exact gives_convert 44 9 _ rfl (.slice B m d) _ (show vs 4 = _ from (hd.1)) (conv_bs HX.out _ (ext_of_drew hE)) ⟨Ext.refl _, fun _ _ => rfl⟩
  · refine step_plain rfl fun vs w1 hE hd => ?_
    refine gives_call 72 Tryd.call72 _ _ rfl rfl [.slice A n c, .string (strOfNums bs)] ?_ ?_
    · show [vs 3, vs 5] = _
      rw [show vs 3 = _ from (hd.1), show vs 5 = _ from (hd.2.1)]
    · refine (containsT_any ts (strOfNums bs) A n c w1 (HT.out.below (ext_of_drew hE)) (by omega)).mono ?_
      rintro e w2 ⟨rfl, rfl⟩
      exact ⟨_, rfl, Ext.refl _, fun _ _ => rfl⟩
  · intro vs w2 hE hR
    have hl6 : vs 6 = .bool (inT ts (strOfNums bs)) := hR 6 (by omega)
    rw [hl6]
    have hb2 := Lib.hid (ext_of_drew hE)
    clear hR hE hl6
    go_wp2_with fail
    go_ret
    exact ⟨rfl, hb2.out⟩
end Go.Proofs.YtideopnblhbngaaDoor
