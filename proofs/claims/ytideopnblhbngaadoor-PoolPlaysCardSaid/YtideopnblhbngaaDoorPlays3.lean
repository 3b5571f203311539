/- What PoolPlays's writing loops and its gathering loop keep. -/
import Derived.Test.YtideopnblhbngaaDoorPlays2
namespace Go.Proofs.YtideopnblhbngaaDoor
open Go.RowKit Go.Shelf

theorem gives_len2 {P : Program} {o : Oper} {ρ : Operand → Value} {w : World} {S : Value → World → Prop} (t e : TypeId) (x : Operand) (ho : o.op = .call { callee := .builtin .len, args := #[x], argTypes := #[t] }) (ht : P.underlying t = some (.slice e)) (A : Option Addr) (n c : Nat) (hx : ρ x = .slice A n c) (h : S (.int .i64 n) w) : Gives P o ρ w S := by
  refine gives_val (.int .i64 n) (w' := w) ?_ h
  unfold execOp
  simp only [ho, resolve, invoke, builtin, Sem.run_bind, Sem.run_pure, Result.andThen_ok, List.map_toArray, List.map_cons, List.map_nil, hx]
  simp [Builtin.len_, run_underlying ht]
  rfl
theorem but_drew {S : Nat → Prop} {w W : World} (h : But S w.drew W) : But S w W := ⟨h.os, h.tape, h.output, h.size, h.same⟩
theorem OwnO.wr5 {b B : Nat} {W : World} {v : Value} {bs : List Int} (h : OwnO W b 5 v (u8s bs)) (hb : ∀ k, v.ownBlock = some k → B ≤ k) : Wr5 B W v bs.length := by
  rcases Wr5.of_own h with h | ⟨g, off, c, cur, fr, e, _, rest⟩
  · exact .inl h
  · exact .inr ⟨g, off, c, cur, fr, e, hb g (by rw [e]; rfl), rest⟩
theorem OwnO.lenMax {W : World} {b e : Nat} {A : Option Addr} {n c : Nat} {xs : List Value} (h : OwnO W b e (.slice A n c) xs) : n ≤ maxLen := by
  rcases h with ⟨e, _⟩ | ⟨g, off, cap, cur, fr, e, _, _, h1, h2, _⟩
  · simp only [Value.slice.injEq] at e
    rw [e.2.1]
    exact Nat.zero_le _
  · simp only [Value.slice.injEq] at e
    omega
/-- Two pools alike; a call as it lies; a list of bytes that may be written over. -/
structure TkI (M : Nat → Prop) (w1 : World) (v u : Value) (ts : List ByteArray) (g : Nat) (cs : Array Value) (l : Value) (os : List (Value × ByteArray)) (W : World) : Prop where
  pp : PP M w1.heap.size w1.heap.size (w1.heap.size + 1) v u ts ts w1 W
  bo : W.heap[g]? = some (.cells cs 69 (0, 0))
  ro : W.ownsRow w1.heap.size 44 1 l os.length (os.map (·.1))
  wr : ∀ y ∈ os, ∃ A n c, y.1 = .slice A n c ∧ Wr5 w1.heap.size W y.1 n ∧ n ≤ maxLen
section
variable {M : Nat → Prop} {w1 : World} {v u : Value} {ts : List ByteArray} {g : Nat} {cs : Array Value} {l : Value} {os : List (Value × ByteArray)} {W : World}
theorem TkI.set {b o : Nat} {cs' : Array Value} {fr : Nat × Nat} (h : TkI M w1 v u ts g cs l os W) (hb : W.heap[b]? = some (.cells cs' 5 fr)) (hl : w1.heap.size ≤ b) (x : Int) : TkI M w1 v u ts g cs l os (W.setCell ⟨b, o, none⟩ (.int .u8 x)) := by
  have oth : ∀ k, k ≠ b → (W.setCell ⟨b, o, none⟩ (.int .u8 x)).heap[k]? = W.heap[k]? := fun k hk => heap_setCell_other W ⟨b, o, none⟩ k _ hk
  refine ⟨h.pp.set hb (by decide) (by decide) (by decide) hl, (oth g fun e => ?_).trans h.bo, own_same h.ro fun k hk => oth k fun e => ?_, fun y hy => ?_⟩
  · have := h.bo
    rw [e, hb] at this
    cases this
  · subst e
    exact own_not h.ro hb (by decide) hk
  · obtain ⟨A, n, c, e, hw⟩ := h.wr y hy
    exact ⟨A, n, c, e, hw.1.set hb x, hw.2⟩
theorem TkI.below {W' : World} (h : TkI M w1 v u ts g cs l os W) (hb : Below W.heap.size W W') : TkI M w1 v u ts g cs l os W' :=
  ⟨h.pp.below hb, blk_below h.bo hb, h.ro.kept (row := none) ⟨hb.os, hb.tape, hb.output, hb.size, fun k hk _ => hb.block k hk⟩ (by cases h' : l.ownBlock <;> simp), fun y hy => by
    obtain ⟨A, n, c, e, hw⟩ := h.wr y hy
    exact ⟨A, n, c, e, hw.1.same fun k cs fr _ hk => hb.block k (blk_lt hk), hw.2⟩⟩
theorem TkI.el (h : TkI M w1 v u ts g cs l os W) (i : Nat) (hi : i < os.length) : ∃ b c A n d, l = .slice (some ⟨b, 0, none⟩) os.length c ∧ W.cell? ⟨b, i, none⟩ = some (.slice A n d) ∧ (∃ y ∈ os, y.1 = .slice A n d) := by
  have hm := List.getElem_mem hi
  obtain ⟨A, n, d, e, hw⟩ := h.wr _ hm
  rcases h.ro.2 with ⟨_, h0⟩ | ⟨b, c, cur, e1, rest⟩
  · exact absurd h0 (by omega)
  · refine ⟨b, c, A, n, d, e1, ?_, _, hm, e⟩
    have := h.ro.cells (g := b) (by rw [e1]; rfl) i (.slice A n d) (by simp [hi, e])
    rwa [show (⟨b, 0, none⟩ : Addr).add i = ⟨b, i, none⟩ by unfold Addr.add; split <;> simp_all] at this
theorem TkI.at (h : TkI M w1 v u ts g cs l os W) {A : Option Addr} {n d : Nat} (hy : ∃ y ∈ os, y.1 = .slice A n d) : Wr5 w1.heap.size W (.slice A n d) n ∧ n ≤ maxLen := by
  obtain ⟨y, hm, e⟩ := hy
  obtain ⟨A', n', c', e', hw⟩ := h.wr y hm
  rw [e'] at hw e
  simp only [Value.slice.injEq] at e
  obtain ⟨rfl, rfl, rfl⟩ := e
  exact hw
end

/-- What the loop that gathers a pool's texts holds. -/
structure GaI (wz : World) (ga : Nat) (ss : List ByteArray) (W : World) : Prop where
  bx : ∃ v, Boxed W ga 65 v ∧ W.ownsRow wz.heap.size 9 1 v ss.length (strs ss)
  bel : Below wz.heap.size wz W
theorem GaI.own {wz : World} {ga B : Nat} {α : Type} (f : List α → List ByteArray) (hB : wz.heap.size ≤ B) : OwnFrom B (fun pre W => GaI wz ga (f pre) W) := by
  intro s X Y row hs hg hr
  have hr' := fun k e => (hr k e).2
  obtain ⟨v, hv, ho⟩ := hs.bx
  exact ⟨⟨v, boxed_kept' hv hg hr', own_kept' ho hg hr'⟩, hs.bel.grown hg hs.bel.size fun k e => by have := (hr k e).1; omega⟩

theorem wpIn_rangeFuncFA {n : Nat} {P : Program} {α : Type} {g : Operand} {ps : Array Tmp} {assign body : Code} {Q : Exit → Act → World → Prop} {a : Act} {w : World}
    {gf : Nat} {lb : Array Value} (hg : a.eval g = .func (.func gf) #[] lb) (eg : ∀ args w, (callFunc gf args).run P w = .ok (.enter gf args) w)
    {encs : α → Array Value} {Fact : α → World → Prop} {Kp : World → World → Prop} {S Sp : List α → Prop} {N : Nat} {w0 : World} (hseq : SeqF (n - 1) P gf lb encs Fact Kp S Sp N w0)
    (hF : ∀ (x : α) (W : World) (l : Nat) (o o' : Obj), W.heap[l]? = some o → o.isCells = false → Fact x W → Fact x (W.putObj l o'))
    (hKt : ∀ {A B C : World}, Kp A B → Kp B C → Kp A C) (hKb : ∀ (W : World) (l : Nat) (o o' : Obj), w.heap.size ≤ l → W.heap[l]? = some o → o.isCells = false → o.isWalk = false → Kp W (W.putObj l o')) (hb0 : Below w0.heap.size w0 w) (hps : ∀ x, (encs x).size = ps.size)
    (I : List α → World → Prop) (Ix : Code → List α → World → Prop) (hI : OwnFrom w.heap.size I) (hIx : ∀ c, OwnFrom w.heap.size (Ix c)) (h0 : I [] w) (A1 : Act → α → Act)
    (hassign : ∀ (l : Nat) (x : α) (W : World) (K : Act → World → Prop), K (A1 a x) W →
      assign.wpIn (Fence.wide.inRound l) (n - 1 - 1) P (Exit.then K (fun _ _ _ => False)) { tmps := (ps.zip (encs x)).foldl (fun t (p, v) => t.setIfInBounds p v) a.tmps, defers := [] } W)
    (hbody : ∀ (l : Nat) (pre : List α) (x : α) (W : World), I pre W → Fact x W → pre.length < N → body.wpIn (Fence.wide.inRound l) (n - 1 - 1) P (ownPostG w.heap.size Kp I Ix (pre ++ [x]) W) (A1 a x) W)
    (hdone : ∀ (D : Nat) (xs : List α) (W : World), w.heap.size ≤ D → S xs → I xs W → W.heap[D]? = some (.deferred (some [])) → Q .normal { a with defers := { target := .collected D, args := #[] } :: a.defers } W)
    (hstop : ∀ (D : Nat) (c : Code) (pre : List α) (W : World), w.heap.size ≤ D → Sp pre → Ix c pre W → W.heap[D]? = some (.deferred (some [])) → c.wpIn Fence.wide n P Q { a with defers := { target := .collected D, args := #[] } :: a.defers } W) :
    (Code.rangeFunc g ps assign body).wpIn Fence.wide n P Q a w :=
  wpIn_rangeFuncF hg eg hseq hF hKt hKb hb0 hps I Ix hI hIx h0 (A1 a) hassign hbody hdone hstop

/-- The marks that loops over functions leave. -/
def inM (ds : List Deferred) (k : Nat) : Prop := ({ target := .collected k, args := #[] } : Deferred) ∈ ds
def Marks (ds : List Deferred) : Prop := ds.Nodup ∧ ∀ d ∈ ds, ∃ k, d = { target := .collected k, args := #[] }
theorem Marks.nil : Marks [] := ⟨List.nodup_nil, fun _ h => by cases h⟩
theorem Marks.cons {ds : List Deferred} {D : Nat} (h : Marks ds) (hD : ¬ inM ds D) : Marks ({ target := .collected D, args := #[] } :: ds) :=
  ⟨List.nodup_cons.2 ⟨hD, h.1⟩, fun d hd => by
    rcases List.mem_cons.1 hd with rfl | hd
    · exact ⟨D, rfl⟩
    · exact h.2 d hd⟩
theorem inM_cons {ds : List Deferred} {D k : Nat} (h : inM ({ target := .collected D, args := #[] } :: ds) k) : inM ds k ∨ k = D := by
  rcases List.mem_cons.1 h with h | h
  · right
    simpa using h
  · exact .inl h
theorem below_putObj {B k : Nat} {w0 w : World} (h : Below B w0 w) (hk : B ≤ k) (o : Obj) : Below B w0 (w.putObj k o) :=
  ⟨h.os, h.tape, h.output, by simpa [World.putObj] using h.size, fun j hj => (World.putObj_heap_other (by omega)).trans (h.block j hj)⟩
theorem leaves_marks {F : Fence} {n : Nat} {P : Program} {fn : Func} {tmps : Array Value} {R : Ending → World → Prop} {B : Nat} {w0 : World} {v : Value} (hres : ∀ W, (results fn tmps).run P W = .ok v W) (hR : ∀ W, Below B w0 W → R (.returned v) W) :
    ∀ (ds : List Deferred) (w : World), Marks ds → (∀ k, inM ds k → B ≤ k ∧ w.heap[k]? = some (.deferred (some []))) → Below B w0 w → LeavesInM F n P fn tmps R ds .returning w
  | [], w, _, _, hb => ⟨v, hres w, hR w hb⟩
  | d :: ds, w, hm, hk, hb => by
    obtain ⟨k, rfl⟩ := hm.2 d (by simp)
    obtain ⟨hB, hD⟩ := hk k (by simp [inM])
    refine ⟨by simp, .inl ⟨k, _, rfl, run_takeDeferred hD, leaves_marks hres hR ds _ ⟨(List.nodup_cons.1 hm.1).2, fun d hd => hm.2 d (List.mem_cons_of_mem _ hd)⟩ (fun j hj => ?_) (below_putObj hb hB _)⟩⟩
    obtain ⟨h1, h2⟩ := hk j (List.mem_cons_of_mem _ hj)
    refine ⟨h1, (World.putObj_heap_other fun e => ?_).trans h2⟩
    subst e
    exact (List.nodup_cons.1 hm.1).1 hj
theorem arr_range (a : Array Value) (n : Nat) (h : a.size = n) : a = ((List.range n).map fun i => a.getD i undef).toArray := by
  refine Array.ext (by simp [h]) fun i h1 h2 => ?_
  simp [h1]
end Go.Proofs.YtideopnblhbngaaDoor
