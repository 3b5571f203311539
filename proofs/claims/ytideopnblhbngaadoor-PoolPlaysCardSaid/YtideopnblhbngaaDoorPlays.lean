/- What stands over PoolPlays: two pools; the calls as they lie. -/
import Derived.Test.YtideopnblhbngaaDoorRef17b
import Derived.Test.YtideopnblhbngaaDoorTakeB
import Derived.Test.YtideopnblhbngaaDoorBytes
import Derived.Test.YtideopnblhbngaaDoorNum
import Derived.Test.YtideopnblhbngaaDoorRely4
namespace Go.Proofs.YtideopnblhbngaaDoor
open Go.RowKit Go.Shelf

theorem PoolAt.rowblk' {base p : Nat} {v : Value} {ts : List ByteArray} {w : World} (h : PoolAt base p v ts w) : ∀ k, v.ownBlock = some k → ∃ cs, w.heap[k]? = some (.cells cs 9 (0, 0)) := by
  intro k hk
  rcases h.own.2 with ⟨rfl, _⟩ | ⟨g, _, cur, rfl, _, hg, _⟩
  · simp [Value.ownBlock] at hk
  · obtain rfl : g = k := by simpa [Value.ownBlock] using hk
    exact ⟨cur, hg⟩
theorem RefAt.rowblk {base p : Nat} {v : Value} {ts : List ByteArray} {w : World} (h : RefAt base p v ts w) : ∀ k, v.ownBlock = some k → ∃ cs, w.heap[k]? = some (.cells cs 9 (0, 0)) := by
  intro k hk
  rcases h.own.2 with ⟨rfl, _⟩ | ⟨g, _, cur, rfl, _, hg, _⟩
  · simp [Value.ownBlock] at hk
  · obtain rfl : g = k := by simpa [Value.ownBlock] using hk
    exact ⟨cur, hg⟩
theorem own_same {w w' : World} {base e s n : Nat} {v : Value} {xs : List Value} (h : w.ownsRow base e s v n xs) (hs : ∀ k, v.ownBlock = some k → w'.heap[k]? = w.heap[k]?) : w'.ownsRow base e s v n xs := by
  rcases h with ⟨hl, h1 | ⟨g, cap, cur, hv, hb, hg, rest⟩⟩
  · exact ⟨hl, .inl h1⟩
  · exact ⟨hl, .inr ⟨g, cap, cur, hv, hb, (hs g (by rw [hv]; rfl)).trans hg, rest⟩⟩
theorem PoolAt.same {base p : Nat} {v : Value} {ts : List ByteArray} {w w' : World} (h : PoolAt base p v ts w) (hp : w'.heap[p]? = w.heap[p]?) (hs : ∀ k, v.ownBlock = some k → w'.heap[k]? = w.heap[k]?) : PoolAt base p v ts w' :=
  ⟨hp.trans h.blk, own_same h.own hs, h.hp⟩
theorem RefAt.same {base p : Nat} {v : Value} {ts : List ByteArray} {w w' : World} (h : RefAt base p v ts w) (hp : w'.heap[p]? = w.heap[p]?) (hs : ∀ k, v.ownBlock = some k → w'.heap[k]? = w.heap[k]?) : RefAt base p v ts w' :=
  ⟨hp.trans h.blk, own_same h.own hs, h.hp⟩

/-- Two pools that lie apart. -/
structure PP (M : Nat → Prop) (base p q : Nat) (v u : Value) (tp tr : List ByteArray) (w0 w : World) : Prop where
  pool : PoolAt base p v tp w
  ref : RefAt base q u tr w
  ne : ∀ k, v.ownBlock = some k → u.ownBlock = some k → False
  low : Below base w0 w
  le : base ≤ w.heap.size
  mks : ∀ k, M k → base ≤ k ∧ w.heap[k]? = some (.deferred (some []))
section
variable {M : Nat → Prop} {base p q : Nat} {v u : Value} {tp tr : List ByteArray} {w0 w w' : World}
theorem PP.below (h : PP M base p q v u tp tr w0 w) (hb : Below w.heap.size w w') : PP M base p q v u tp tr w0 w' :=
  ⟨h.pool.below hb, h.ref.below hb, h.ne, h.low.trans (hb.mono h.le), Nat.le_trans h.le hb.size, fun k hk => ⟨(h.mks k hk).1, (hb.block k (Array.getElem?_eq_some_iff.1 (h.mks k hk).2).1).trans (h.mks k hk).2⟩⟩
/-- What is neither pool's. -/
def NoPool (p q : Nat) (v u : Value) (k : Nat) : Prop := ¬ PoolS p v k ∧ ¬ PoolS q u k
theorem PP.no (h : PP M base p q v u tp tr w0 w) {k : Nat} {cs : Array Value} {t : TypeId} {fr : Nat × Nat} (hk : w.heap[k]? = some (.cells cs t fr)) (h9 : t ≠ 9) (h109 : t ≠ 109) (h67 : t ≠ 67) : NoPool p q v u k := by
  refine ⟨h.pool.notS hk h9 h109, ?_⟩
  rintro (rfl | e)
  · rw [h.ref.blk] at hk; cases hk; exact h67 rfl
  · obtain ⟨cs', hg⟩ := h.ref.rowblk k e
    rw [hg] at hk; cases hk; exact h9 rfl
theorem PP.refLow (h : PP M base p q v u tp tr w0 w) : ∀ k, PoolS q u k → base ≤ k := by
  rintro k (rfl | hk)
  · exact h.ref.hp
  · exact (h.ref.own.lt k hk).1
/-- The pool has been written. -/
theorem PP.putPool {v' : Value} {tp' : List ByteArray} (h : PP M base p q v u tp tr w0 w) (hp : PoolAt base p v' tp' w') (hb : But (PoolS p v) w w') (hpl : ∀ k, v'.ownBlock = some k → v.ownBlock = some k ∨ w.heap.size ≤ k) : PP M base p q v' u tp' tr w0 w' := by
  have hq : ¬ PoolS p v q := h.pool.notS h.ref.blk (by decide) (by decide)
  have hu : ∀ k, u.ownBlock = some k → ¬ PoolS p v k := fun k hk hs => by
    obtain ⟨cs, hg⟩ := h.ref.rowblk k hk
    rcases hs with rfl | hs
    · rw [h.pool.blk] at hg; cases hg
    · exact h.ne k hs hk
  refine ⟨hp, h.ref.same (hb.same q (blk_lt h.ref.blk) hq) (fun k hk => ?_), fun k hk hk2 => ?_, h.low.trans (hb.low h.le h.pool.low), Nat.le_trans h.le hb.size, fun k hk => ⟨(h.mks k hk).1, ?_⟩⟩
  · obtain ⟨cs, hg⟩ := h.ref.rowblk k hk
    exact hb.same k (blk_lt hg) (hu k hk)
  · rcases hpl k hk with h1 | h1
    · exact h.ne k h1 hk2
    · obtain ⟨cs, hg⟩ := h.ref.rowblk k hk2
      have := blk_lt hg
      omega
  · refine (hb.same k (Array.getElem?_eq_some_iff.1 (h.mks k hk).2).1 fun hs => ?_).trans (h.mks k hk).2
    have h2 := (h.mks k hk).2
    rcases hs with rfl | hs
    · rw [h.pool.blk] at h2; cases h2
    · obtain ⟨cs, hg⟩ := h.pool.rowblk' k hs
      rw [hg] at h2; cases h2
/-- The reference's pool has been written. -/
theorem PP.putRef {u' : Value} {tr' : List ByteArray} (h : PP M base p q v u tp tr w0 w) (hp : RefAt base q u' tr' w') (hb : But (PoolS q u) w w') (hpl : ∀ k, u'.ownBlock = some k → u.ownBlock = some k ∨ w.heap.size ≤ k) : PP M base p q v u' tp tr' w0 w' := by
  have hq : ¬ PoolS q u p := by
    rintro (rfl | hs)
    · have := h.ref.blk; rw [h.pool.blk] at this; cases this
    · obtain ⟨cs, hg⟩ := h.ref.rowblk p hs
      rw [h.pool.blk] at hg; cases hg
  have hu : ∀ k, v.ownBlock = some k → ¬ PoolS q u k := fun k hk hs => by
    obtain ⟨cs, hg⟩ := h.pool.rowblk' k hk
    rcases hs with rfl | hs
    · rw [h.ref.blk] at hg; cases hg
    · exact h.ne k hk hs
  refine ⟨h.pool.same (hb.same p (blk_lt h.pool.blk) hq) (fun k hk => ?_), hp, fun k hk hk2 => ?_, h.low.trans (hb.low h.le h.refLow), Nat.le_trans h.le hb.size, fun k hk => ⟨(h.mks k hk).1, ?_⟩⟩
  · obtain ⟨cs, hg⟩ := h.pool.rowblk' k hk
    exact hb.same k (blk_lt hg) (hu k hk)
  · rcases hpl k hk2 with h1 | h1
    · exact h.ne k hk h1
    · obtain ⟨cs, hg⟩ := h.pool.rowblk' k hk
      have := blk_lt hg
      omega
  · refine (hb.same k (Array.getElem?_eq_some_iff.1 (h.mks k hk).2).1 fun hs => ?_).trans (h.mks k hk).2
    have h2 := (h.mks k hk).2
    rcases hs with rfl | hs
    · rw [h.ref.blk] at h2; cases h2
    · obtain ⟨cs, hg⟩ := h.ref.rowblk k hs
      rw [hg] at h2; cases h2
/-- A cell that is neither pool's has been written. -/
theorem PP.set {g o : Nat} {cs : Array Value} {t : TypeId} {fr : Nat × Nat} {x : Value} (h : PP M base p q v u tp tr w0 w) (hg : w.heap[g]? = some (.cells cs t fr)) (h9 : t ≠ 9) (h109 : t ≠ 109) (h67 : t ≠ 67) (hb : base ≤ g) : PP M base p q v u tp tr w0 (w.setCell ⟨g, o, none⟩ x) := by
  obtain ⟨n1, n2⟩ := h.no hg h9 h109 h67
  have oth : ∀ k, k ≠ g → (w.setCell ⟨g, o, none⟩ x).heap[k]? = w.heap[k]? := fun k hk => heap_setCell_other w ⟨g, o, none⟩ k x hk
  refine ⟨h.pool.same (oth p fun e => n1 (.inl e.symm)) (fun k hk => oth k fun e => n1 (.inr (by rw [← e]; exact hk))), h.ref.same (oth q fun e => n2 (.inl e.symm)) (fun k hk => oth k fun e => n2 (.inr (by rw [← e]; exact hk))), h.ne, ?_, by rw [World.size_setCell]; exact h.le, fun k hk => ⟨(h.mks k hk).1, (oth k fun e => by have h2 := (h.mks k hk).2; rw [e, hg] at h2; cases h2).trans (h.mks k hk).2⟩⟩
  exact h.low.trans ⟨rfl, rfl, rfl, by rw [World.size_setCell]; exact Nat.le_refl _, fun k hk => oth k (by omega)⟩
/-- A loop over a function has left its mark. -/
theorem PP.mark {D : Nat} (h : PP M base p q v u tp tr w0 w) (hD : w.heap[D]? = some (.deferred (some []))) (hb : base ≤ D) : PP (fun k => M k ∨ k = D) base p q v u tp tr w0 w :=
  ⟨h.pool, h.ref, h.ne, h.low, h.le, fun k hk => by
    rcases hk with hk | rfl
    · exact h.mks k hk
    · exact ⟨hb, hD⟩⟩
theorem PP.monoM {M' : Nat → Prop} (h : PP M base p q v u tp tr w0 w) (hm : ∀ k, M' k → M k) : PP M' base p q v u tp tr w0 w :=
  ⟨h.pool, h.ref, h.ne, h.low, h.le, fun k hk => h.mks k (hm k hk)⟩
end

/-- One call, as it came in. -/
structure OpR where
  kd : Int
  nn : Int
  tx : Value
  ls : Value
  tb : List Int
  lb : List (List Int)
def ocells (o : OpR) : List Value := [.int .i64 o.kd, .int .i64 o.nn, o.tx, o.ls]
structure Opsl (w : World) (v : Value) (os : List OpR) : Prop where
  form : ∃ A c, v = .slice A os.length c
  cells : os ≠ [] → ∃ b off c, v = .slice (some ⟨b, off, none⟩) os.length c ∧ os.length ≤ c ∧ c ≤ maxLen ∧ b < w.heap.size ∧ ∀ (i : Nat) (o : OpR), os[i]? = some o → w.rangeAt b (off + i * 4) (ocells o)
  each : ∀ o ∈ os, Bs w o.tx o.tb ∧ Bss w o.ls o.lb
theorem Opsl.below {w w' : World} {v : Value} {os : List OpR} (h : Opsl w v os) (hb : Below w.heap.size w w') : Opsl w' v os := by
  refine ⟨h.form, fun hne => ?_, fun o ho => ⟨(h.each o ho).1.below hb, (h.each o ho).2.below hb⟩⟩
  obtain ⟨b, off, c, e, h1, h2, h3, h4⟩ := h.cells hne
  exact ⟨b, off, c, e, h1, h2, Nat.lt_of_lt_of_le h3 hb.size, fun i o ho => range_below (h4 i o ho) hb⟩
theorem Opsl.len {w : World} {A : Option Addr} {n c : Nat} {os : List OpR} (h : Opsl w (.slice A n c) os) : n = os.length := by
  obtain ⟨A', c', e⟩ := h.form
  simp only [Value.slice.injEq] at e
  exact e.2.1
theorem Opsl.el {w : World} {A : Option Addr} {n c : Nat} {os : List OpR} (h : Opsl w (.slice A n c) os) (i : Nat) (hi : i < n) :
    ∃ b off o Bt mt dt Al ml cl, A = some ⟨b, off, none⟩ ∧ o ∈ os ∧ o.tx = .slice Bt mt dt ∧ o.ls = .slice Al ml cl ∧ w.rangeAt b (off + i * 4) (ocells o) ∧ Bs w (.slice Bt mt dt) o.tb ∧ Bss w (.slice Al ml cl) o.lb := by
  have hl := h.len
  obtain ⟨b, off, c', e, _, _, _, h4⟩ := h.cells (by intro e; subst e; simp at hl; omega)
  simp only [Value.slice.injEq] at e
  have hi' : i < os.length := by omega
  have hm := List.getElem_mem hi'
  obtain ⟨h5, h6⟩ := h.each _ hm
  obtain ⟨Bt, dt, e1⟩ := h5.form
  obtain ⟨Al, cl, e2⟩ := h6.form
  exact ⟨b, off, os[i], Bt, _, dt, Al, _, cl, e.1, hm, e1, e2, h4 i _ (List.getElem?_eq_getElem hi'), by rw [← e1]; exact h5, by rw [← e2]; exact h6⟩
end Go.Proofs.YtideopnblhbngaaDoor
