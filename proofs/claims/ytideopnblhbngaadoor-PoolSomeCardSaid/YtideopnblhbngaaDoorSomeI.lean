/- What stands over PoolSome's loop. -/
import Derived.Test.YtideopnblhbngaaDoorPoolLaw
import Derived.Test.YtideopnblhbngaaDoorRely3
namespace Go.Proofs.YtideopnblhbngaaDoor
open Go.RowKit Go.Shelf

theorem PSt.turn {base p : Nat} {v : Value} {ts : List ByteArray} {aF aT aU : Addr} {w0 W W' : World} (h : PSt base p v ts aF aT aU w0 W) (ho : W'.os = W.os) (ht : W'.tape = W.tape) (hu : W'.output = W.output) (hz : W.heap.size ≤ W'.heap.size)
    (hp : W'.heap[p]? = W.heap[p]?) (hrow : ∀ k, v.ownBlock = some k → W'.heap[k]? = W.heap[k]?) (hlow : ∀ k, k < w0.heap.size → W'.heap[k]? = W.heap[k]?) (h5 : 5 ≤ w0.heap.size) : PSt base p v ts aF aT aU w0 W' := by
  have hcell : ∀ (k : Nat) (u : Value), k < 5 → W.cell? ⟨k, 0, none⟩ = some u → W'.cell? ⟨k, 0, none⟩ = some u := fun k u hk hc => by
    rw [← hc]
    exact World.cell?_of_block (hlow k (by omega))
  refine ⟨⟨hp.trans h.at_.blk, ?_, h.at_.hp⟩, ⟨hcell 3 _ (by omega) h.sen.f, hcell 2 _ (by omega) h.sen.t, hcell 4 _ (by omega) h.sen.u⟩,
    ⟨ho.trans h.stay.os, ht.trans h.stay.tape, hu.trans h.stay.output, Nat.le_trans h.stay.size hz, fun k hk hx => (hlow k hk).trans (h.stay.same k hk hx)⟩, h.five, Nat.le_trans h.le hz, h.few, h.siz, h.nd⟩
  rcases h.at_.own with ⟨hl, h1 | ⟨g, cap, cur, hv, hb, hg, rest⟩⟩
  · exact ⟨hl, .inl h1⟩
  · exact ⟨hl, .inr ⟨g, cap, cur, hv, hb, (hrow g (by rw [hv]; rfl)).trans hg, rest⟩⟩

structure SI (base p B3 B4 B5 B8 B9 r m cw : Nat) (Aw : Option Addr) (ts : List ByteArray) (os : List (Value × ByteArray)) (aF aT aU : Addr) (w0 : World) (row0 : Option Nat) (j : Nat) (W : World) : Prop where
  b3 : Boxed W B3 3 (.int .i64 r)
  b4 : Boxed W B4 4 (.bool false)
  b5 : Boxed W B5 42 (.pointer (some ⟨p, 0, none⟩))
  b8 : Boxed W B8 41 (.slice Aw m cw)
  b9 : Boxed W B9 3 (.int .i64 j)
  pool : ∃ v, PSt base p v (ts.drop j) aF aT aU w0 W ∧ v.ownBlock = row0
  own : OwnO W base 44 (.slice Aw m cw) (os.map (·.1))
  fact : ∀ y ∈ os, FactB y W
  jr : j ≤ r
  jm : j ≤ m
section
variable {base p B3 B4 B5 B8 B9 r m cw : Nat} {Aw : Option Addr} {ts : List ByteArray} {os : List (Value × ByteArray)} {aF aT aU : Addr} {w0 : World} {row0 : Option Nat} {j : Nat} {W : World}
theorem OwnO.blk {w : World} {b e : Nat} {v : Value} {xs : List Value} (h : OwnO w b e v xs) : ∀ k, v.ownBlock = some k → ∃ cs fr, w.heap[k]? = some (.cells cs e fr) := by
  intro k hk
  rcases h with ⟨rfl, _⟩ | ⟨g, off, cap, cur, fr, rfl, _, hg, _⟩
  · simp [Value.ownBlock] at hk
  · obtain rfl : g = k := by simpa [Value.ownBlock] using hk
    exact ⟨cur, fr, hg⟩
theorem PoolAt.rowblk {v : Value} {w : World} (h : PoolAt base p v ts w) : ∀ k, v.ownBlock = some k → ∃ cs, w.heap[k]? = some (.cells cs 9 (0, 0)) := by
  intro k hk
  rcases h.own.2 with ⟨rfl, _⟩ | ⟨g, _, cur, rfl, _, hg, _⟩
  · simp [Value.ownBlock] at hk
  · obtain rfl : g = k := by simpa [Value.ownBlock] using hk
    exact ⟨cur, hg⟩
theorem SI.cells {W' : World} (h : SI base p B3 B4 B5 B8 B9 r m cw Aw ts os aF aT aU w0 row0 j W) (ho : W'.os = W.os) (ht : W'.tape = W.tape) (hu : W'.output = W.output) (hz : W.heap.size ≤ W'.heap.size)
    (hc : ∀ (k : Nat) (cs : Array Value) (t : TypeId) (fr : Nat × Nat), W.heap[k]? = some (.cells cs t fr) → W'.heap[k]? = W.heap[k]?) (hlow : ∀ k, k < w0.heap.size → W'.heap[k]? = W.heap[k]?) (h5 : 5 ≤ w0.heap.size) : SI base p B3 B4 B5 B8 B9 r m cw Aw ts os aF aT aU w0 row0 j W' := by
  obtain ⟨v, hp, hv⟩ := h.pool
  have bx : ∀ {B : Nat} {t : TypeId} {u : Value}, Boxed W B t u → Boxed W' B t u := fun hb => (hc _ _ _ _ hb).trans hb
  refine ⟨bx h.b3, bx h.b4, bx h.b5, bx h.b8, bx h.b9, ⟨v, hp.turn ho ht hu hz (hc _ _ _ _ hp.at_.blk) (fun k hk => ?_) hlow h5, hv⟩, h.own.same fun k hk _ => ?_, fun y hy => (h.fact y hy).same fun k hk _ => ?_, h.jr, h.jm⟩
  · obtain ⟨cs, hb⟩ := hp.at_.rowblk k hk; exact hc _ _ _ _ hb
  · obtain ⟨cs, fr, hb⟩ := h.own.blk k hk; exact hc _ _ _ _ hb
  · obtain ⟨cs, fr, hb⟩ := (h.fact y hy).blk k hk; exact hc _ _ _ _ hb
theorem SI.go {W' : World} (h : SI base p B3 B4 B5 B8 B9 r m cw Aw ts os aF aT aU w0 row0 j W) (hb : Below W.heap.size W W') (h5 : 5 ≤ w0.heap.size) : SI base p B3 B4 B5 B8 B9 r m cw Aw ts os aF aT aU w0 row0 j W' := by
  obtain ⟨v, hp, _⟩ := h.pool
  exact h.cells hb.os hb.tape hb.output hb.size (fun k _ _ _ hk => hb.block k (blk_lt hk)) (fun k hk => hb.block k (Nat.lt_of_lt_of_le hk hp.stay.size)) h5
theorem SI.own_from {B : Nat} (hB : w0.heap.size ≤ B) (h5 : 5 ≤ w0.heap.size) (f : List (Value × ByteArray) → Nat) : OwnFrom B (fun pre W => SI base p B3 B4 B5 B8 B9 r m cw Aw ts os aF aT aU w0 row0 (f pre) W) := by
  intro s X Y row hs hg hr
  refine hs.cells hg.os hg.tape hg.output hg.size (fun k cs t fr hk => hg.block k (blk_lt hk) fun e => ?_) (fun k hk => ?_) h5
  · obtain ⟨_, o, ho, hc⟩ := hr k e.symm
    rw [hk] at ho; cases ho; cases hc
  · obtain ⟨v, hp, _⟩ := hs.pool
    exact hg.block k (Nat.lt_of_lt_of_le hk hp.stay.size) fun e => by have := (hr k e.symm).1; omega
/-- One is dropped. -/
theorem SI.dropped {W' : World} {v v' : Value} (h : SI base p B3 B4 B5 B8 B9 r m cw Aw ts os aF aT aU w0 row0 j W) (hp : PSt base p v (ts.drop j) aF aT aU w0 W) (hv : v'.ownBlock = row0) (hb : But (PoolS p v) W W') (hp' : PSt base p v' (ts.drop (j + 1)) aF aT aU w0 W')
    (h9 : w0.heap.size ≤ B9) (hb9 : base ≤ B9) (h5 : 5 ≤ w0.heap.size) (e3 : B3 ≠ B9) (hr : j + 1 ≤ r) (hm : j + 1 ≤ m) : SI base p B3 B4 B5 B8 B9 r m cw Aw ts os aF aT aU w0 row0 (j + 1) (W'.setCell ⟨B9, 0, none⟩ (.int .i64 ((j : Int) + 1))) := by
  have sm : ∀ (k : Nat) (cs : Array Value) (t : TypeId) (fr : Nat × Nat), t ≠ 9 → t ≠ 109 → W.heap[k]? = some (.cells cs t fr) → W'.heap[k]? = some (.cells cs t fr) := fun k cs t fr h9 h109 hk => hb.blk hk (hp.at_.notS hk h9 h109)
  have b9 : Boxed W' B9 3 (.int .i64 j) := sm _ _ _ _ (by decide) (by decide) h.b9
  have st : ∀ (k : Nat) (cs : Array Value) (t : TypeId) (fr : Nat × Nat), t ≠ 3 → W'.heap[k]? = some (.cells cs t fr) → (W'.setCell ⟨B9, 0, none⟩ (.int .i64 ((j : Int) + 1))).heap[k]? = some (.cells cs t fr) := fun k cs t fr ht hk =>
    (heap_setCell_other W' ⟨B9, 0, none⟩ k _ (fun e => by
      have hb' : W'.heap[B9]? = _ := b9
      have e' : k = B9 := e
      rw [← e', hk] at hb'
      cases hb'
      exact ht rfl)).trans hk
  have two : ∀ (k : Nat) (cs : Array Value) (t : TypeId) (fr : Nat × Nat), t ≠ 9 → t ≠ 109 → t ≠ 3 → W.heap[k]? = some (.cells cs t fr) → (W'.setCell ⟨B9, 0, none⟩ (.int .i64 ((j : Int) + 1))).heap[k]? = some (.cells cs t fr) := fun k cs t fr h1 h2 h3 hk => st k cs t fr h3 (sm k cs t fr h1 h2 hk)
  refine ⟨(show Boxed W' B3 3 _ from sm _ _ _ _ (by decide) (by decide) h.b3).other e3 _, two _ _ _ _ (by decide) (by decide) (by decide) h.b4, two _ _ _ _ (by decide) (by decide) (by decide) h.b5, two _ _ _ _ (by decide) (by decide) (by decide) h.b8, b9.set _, ⟨v', ?_, hv⟩, h.own.same fun k hk _ => ?_, fun y hy => (h.fact y hy).same fun k hk _ => ?_, hr, hm⟩
  · refine hp'.turn rfl rfl rfl (by rw [World.size_setCell]; exact Nat.le_refl _) ?_ (fun k hk => ?_) (fun k hk => heap_setCell_other W' ⟨B9, 0, none⟩ k _ (by show k ≠ B9; omega)) h5
    · rw [st _ _ _ _ (by decide) hp'.at_.blk, hp'.at_.blk]
    · obtain ⟨cs, hg⟩ := hp'.at_.rowblk k hk
      rw [st _ _ _ _ (by decide) hg, hg]
  · obtain ⟨cs, fr, hg⟩ := h.own.blk k hk
    rw [two _ _ _ _ (by decide) (by decide) (by decide) hg, hg]
  · obtain ⟨cs, fr, hg⟩ := (h.fact y hy).blk k hk
    rw [two _ _ _ _ (by decide) (by decide) (by decide) hg, hg]
end
/-- The rest of a row, as the code takes it. -/
theorem own_slice {w : World} {base n c k : Nat} {A : Option Addr} {us : List Value} (h : OwnO w base 44 (.slice A n c) us) (hk : k ≤ n) (hn : n ≤ 1000) :
    ∃ A' c', (∀ W : World, (Instr.sliceAt 41 (.slice A n c) (some (.int .i64 (k : Int))) none none).run Tryd.prog W = .ok (.slice A' (n - k) c') W) ∧ OwnO w base 44 (.slice A' (n - k) c') (us.drop k) := by
  rcases h with ⟨h, hu⟩ | ⟨g, off, cap, cur, fr, e, hb, hg, hnc, hm, hfit, htk, hfr⟩
  · simp only [Value.slice.injEq] at h
    obtain ⟨rfl, rfl, rfl⟩ := h
    obtain rfl : k = 0 := by omega
    subst hu
    exact ⟨none, 0, fun W => by go_simp, .inl ⟨rfl, rfl⟩⟩
  · have e' := e
    simp only [Value.slice.injEq] at e
    obtain ⟨rfl, rfl, rfl⟩ := e
    have ho : OwnO w base 44 (.slice (some ⟨g, off, none⟩) us.length c) us := .inr ⟨g, off, c, cur, fr, rfl, hb, hg, hnc, hm, hfit, htk, hfr⟩
    refine ⟨_, _, fun W => ?_, ho.drop hk⟩
    have h1 : ¬ c < us.length := by omega
    have h2 : ¬ us.length < k := by omega
    go_simp
    first | (split <;> rfl) | (rw [if_pos (by omega)]; split <;> rfl)
/-- As the walk of a round sees it. -/
theorem drop_first {ts : List ByteArray} (h : ts.Nodup) (j : Nat) (hj : j < ts.length) : dropT (ts.drop j) [ts[j]] = ts.drop (j + 1) := by
  have hd : ts.drop j = ts[j] :: ts.drop (j + 1) := List.drop_eq_getElem_cons hj
  have hnd : (ts.drop j).Nodup := h.sublist (List.drop_sublist _ _)
  rw [hd] at hnd ⊢
  have h2 := (List.nodup_cons.1 hnd).1
  unfold dropT
  rw [List.filter_cons_of_neg (by rw [(inT_iff _ _).2 (by simp)]; simp), List.filter_eq_self.2]
  intro s hs
  have : inT [ts[j]] s = false := (inT_false _ _).2 fun hm => h2 (by rw [List.mem_singleton] at hm; rw [← hm]; exact hs)
  rw [this]; rfl
end Go.Proofs.YtideopnblhbngaaDoor
