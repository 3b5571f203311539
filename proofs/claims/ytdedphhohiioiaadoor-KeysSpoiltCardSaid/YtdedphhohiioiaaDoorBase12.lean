/- Lemmas that laws of this seat rest on, part 12; each says its own conditions: SeqP, KpR, ChainsRunsW, Chunk, SeqN, TreeP. -/
import Derived.RowKit
import Derived.Test.YtdedphhohiioiaaDoorBase5
import Derived.Test.YtdedphhohiioiaaDoorBase6
import Derived.Test.YtdedphhohiioiaaDoorBase7
import Derived.Test.YtdedphhohiioiaaDoorBase8
/- A range over an iterator that hands out slices: each round is told what its element reads as, and what came so far. -/
namespace Go.Proofs.YtdedphhohiioiaaDoor
open Go.RowKit Go.Shelf

/-- An iterator's contract: a round is run where the element's fact holds. -/
def SeqP {α : Type} (n : Nat) (P : Program) (g : Nat) (lb : Array Value) (encs : α → Array Value) (Fact : α → World → Prop) (Kp : World → World → Prop) (S Sp : List α → Prop) (N : Nat) (w : World) : Prop :=
  ∀ (l : Nat) (J Jx : List α → World → Prop) (W : World), Below w.heap.size w W → AbidesFrom W.heap.size J → AbidesFrom W.heap.size Jx →
    (∀ pre x W1, J pre W1 → Fact x W1 → pre.length < N → Sp (pre ++ [x]) → YieldAt Fence.wide (n - 1) P l (encs x) W1 fun e W' =>
      (e = .returned (.bool true) ∧ J (pre ++ [x]) W' ∧ Kp W1 W') ∨ (e = .returned (.bool false) ∧ Jx (pre ++ [x]) W')) →
    J [] W →
    CallsIn Fence.wide n P g (#[.func (.yield l) #[] #[]] ++ lb) W fun e W' => (∃ v, e = .returned v) ∧ ((∃ xs, S xs ∧ J xs W') ∨ (∃ pre, Sp pre ∧ Jx pre W'))

variable {n : Nat} {P : Program}

/-- The loop: as the kit's law that lets the body write what lay ahead of it; each round knows its element's fact besides. -/
theorem wpIn_rangeFuncP {α : Type} {g : Operand} {ps : Array Tmp} {assign body : Code} {Q : Exit → Act → World → Prop} {a : Act} {w : World}
    {gf : Nat} {lb : Array Value} (hg : a.eval g = .func (.func gf) #[] lb) (eg : ∀ args w, (callFunc gf args).run P w = .ok (.enter gf args) w)
    {encs : α → Array Value} {Fact : α → World → Prop} {Kp : World → World → Prop} {S Sp : List α → Prop} {N : Nat} {w0 : World} (hseq : SeqP (n - 1) P gf lb encs Fact Kp S Sp N w0)
    (hF : ∀ (x : α) (W : World) (l : Nat) (o o' : Obj), W.heap[l]? = some o → o.isCells = false → Fact x W → Fact x (W.putObj l o'))
    (hKt : ∀ {A B C : World}, Kp A B → Kp B C → Kp A C) (hKb : ∀ (W : World) (l : Nat) (o o' : Obj), w.heap.size ≤ l → W.heap[l]? = some o → o.isCells = false → o.isWalk = false → Kp W (W.putObj l o')) (hb0 : Below w0.heap.size w0 w) (hps : ∀ x, (encs x).size = ps.size)
    (I : List α → World → Prop) (Ix : Code → List α → World → Prop) (hI : OwnFrom w.heap.size I) (hIx : ∀ c, OwnFrom w.heap.size (Ix c)) (h0 : I [] w) (a₁ : α → Act)
    (hassign : ∀ (l : Nat) (x : α) (W : World) (K : Act → World → Prop), K (a₁ x) W →
      assign.wpIn (Fence.wide.inRound l) (n - 1 - 1) P (Exit.then K (fun _ _ _ => False)) { tmps := (ps.zip (encs x)).foldl (fun t (p, v) => t.setIfInBounds p v) a.tmps, defers := [] } W)
    (hbody : ∀ (l : Nat) (pre : List α) (x : α) (W : World), I pre W → Fact x W → pre.length < N → Sp (pre ++ [x]) → body.wpIn (Fence.wide.inRound l) (n - 1 - 1) P (ownPostG w.heap.size Kp I Ix (pre ++ [x]) W) (a₁ x) W)
    (hdone : ∀ (D : Nat) (xs : List α) (W : World), w.heap.size ≤ D → S xs → I xs W → W.heap[D]? = some (.deferred (some [])) → Q .normal { a with defers := { target := .collected D, args := #[] } :: a.defers } W)
    (hstop : ∀ (D : Nat) (c : Code) (pre : List α) (W : World), w.heap.size ≤ D → Sp pre → Ix c pre W → W.heap[D]? = some (.deferred (some [])) → c.wpIn Fence.wide n P Q { a with defers := { target := .collected D, args := #[] } :: a.defers } W) :
    (Code.rangeFunc g ps assign body).wpIn Fence.wide n P Q a w := by
  refine wpIn_rangeFunc fun fn hfn => ?_
  obtain ⟨L, hL⟩ : ∃ L : LoopState → Option Code → Loop, L = fun st pe => { state := st, pending := pe, fn, tmps := a.tmps, params := ps, assign, body, defers := w.heap.size } := ⟨_, rfl⟩
  obtain ⟨V, hV⟩ : ∃ V, V = (w.alloc (.deferred (some []))).alloc (.loop (L .ready none)) := ⟨_, rfl⟩
  have hsz : V.heap.size = w.heap.size + 2 := by rw [hV]; simp
  have hrec : V.heap[w.heap.size + 1]? = some (.loop (L .ready none)) := by
    rw [hV]
    have := World.alloc_heap_new (w.alloc (.deferred (some []))) (.loop (L .ready none))
    rwa [World.size_alloc] at this
  have hdef : V.heap[w.heap.size]? = some (.deferred (some [])) := by
    rw [hV]
    exact (Below.heap_alloc _ _ _ (by simp)).trans (World.alloc_heap_new w _)
  have hIV : I [] V := by rw [hV]; exact hI.alloc _ (hI.alloc _ h0)
  have hbV : Below w0.heap.size w0 V := by
    rw [hV]
    exact hb0.trans ((((Below.refl _ w).alloc (Nat.le_refl _) _).alloc (by simp) _).mono hb0.size)
  refine ⟨w.heap.size + 1, [{ target := .collected w.heap.size, args := #[] }], V, { target := .fn (.func gf) lb, args := #[.func (.yield (w.heap.size + 1)) #[] #[]] }, V, gf,
    #[.func (.yield (w.heap.size + 1)) #[] #[]] ++ lb, V, by rw [hV, hL]; exact run_enterLoop_outer _ _ _ _ _, by simp only [resolve, hg]; simp [go_sem], fun f' hf' => trivial, by simp [invoke, go_sem, eg], (fun h => by cases h), ?_⟩
  have hrow : ∀ {X : World} {row : Option Nat}, (∀ r, row = some r → V.heap.size ≤ r ∧ ∃ o : Obj, X.heap[r]? = some o ∧ o.isWalk = true) → (∀ r, row = some r → w.heap.size ≤ r ∧ ∃ o : Obj, X.heap[r]? = some o ∧ o.isCells = false) :=
    fun hr r e => by
      obtain ⟨hB, o, ho, hw⟩ := hr r e
      exact ⟨by omega, o, ho, Obj.not_cells_of_walk hw⟩
  refine (hseq (w.heap.size + 1)
    (fun pre W => I pre W ∧ W.heap[w.heap.size + 1]? = some (.loop (L .ready none)) ∧ W.heap[w.heap.size]? = some (.deferred (some [])))
    (fun pre W => ∃ c, Ix c pre W ∧ W.heap[w.heap.size + 1]? = some (.loop (L .done (some c))) ∧ W.heap[w.heap.size]? = some (.deferred (some [])))
    V hbV ?_ ?_ ?_ ⟨hIV, hrec, hdef⟩).mono ?_
  · intro s A B row hs hg' hr
    exact ⟨hI s A B row hs.1 hg' (hrow hr), (grownBy_keeps hg' (fun r e => (hr r e).2) hs.2.1 rfl).trans hs.2.1, (grownBy_keeps hg' (fun r e => (hr r e).2) hs.2.2 rfl).trans hs.2.2⟩
  · rintro s A B row ⟨c, hc, hl, hk⟩ hg' hr
    exact ⟨c, hIx c s A B row hc hg' (hrow hr), (grownBy_keeps hg' (fun r e => (hr r e).2) hl rfl).trans hl, (grownBy_keeps hg' (fun r e => (hr r e).2) hk rfl).trans hk⟩
  · rintro pre x W ⟨hi, hl, hk⟩ hfact hlen hsp
    have hlt : w.heap.size + 1 < W.heap.size := (Array.getElem?_eq_some_iff.1 hl).1
    have hy := run_yield (P := P) (args := encs x) hl (by rw [hL]; exact hps x)
    rw [hL] at hy
    refine ⟨fn, _, assign, body, hy, roundIn_of_wpIn hfn (hassign _ x W _ ⟨_, run_beginRound hl (by rw [hL]), ?_⟩)⟩
    obtain ⟨U, hU⟩ : ∃ U, U = W.putObj (w.heap.size + 1) (.loop { L .ready none with state := .busy }) := ⟨_, rfl⟩
    have hl2 : U.heap[w.heap.size + 1]? = some (.loop { L .ready none with state := .busy }) := by rw [hU]; exact World.putObj_heap_same hlt
    have hk2 : U.heap[w.heap.size]? = some (.deferred (some [])) := by rw [hU]; exact (World.putObj_heap_other (by omega)).trans hk
    have hw2 : Kp W U := by rw [hU]; exact hKb _ _ _ _ (by omega) hl rfl rfl
    rw [← hU]
    refine wpIn_mono (hbody _ pre x U (by rw [hU]; exact hI.putObj _ hi (by omega) hl rfl) (by rw [hU]; exact hF _ _ _ _ _ hl rfl hfact) hlen hsp) ?_
    have fin : ∀ (jump : Option Code) (W3 : World), KeepsFrom w.heap.size U W3 →
        (Instr.endRound (w.heap.size + 1) jump).run P W3 = .ok (.bool jump.isNone) (W3.putObj (w.heap.size + 1) (.loop (L (if jump.isNone then .ready else .done) jump))) ∧
        W3.heap[w.heap.size + 1]? = some (.loop { L .ready none with state := .busy }) ∧
        (W3.putObj (w.heap.size + 1) (.loop (L (if jump.isNone then .ready else .done) jump))).heap[w.heap.size + 1]? = some (.loop (L (if jump.isNone then .ready else .done) jump)) ∧
        (W3.putObj (w.heap.size + 1) (.loop (L (if jump.isNone then .ready else .done) jump))).heap[w.heap.size]? = some (.deferred (some [])) := by
      intro jump W3 hk3
      have hl3 := hk3.same _ _ (by omega) hl2 rfl
      have he := run_endRound (P := P) jump hl3
      rw [hL] at he ⊢
      rw [hL] at hl3
      exact ⟨he, hl3, World.putObj_heap_same (Array.getElem?_eq_some_iff.1 hl3).1, (World.putObj_heap_other (by omega)).trans (hk3.same _ _ (Nat.le_refl _) hk2 rfl)⟩
    have leave : ∀ (c : Code) (W3 : World), KeepsFrom w.heap.size U W3 → Ix c (pre ++ [x]) W3 → ∃ v W4, (Instr.endRound (w.heap.size + 1) (some c)).run P W3 = .ok v W4 ∧
        ((v = .bool true ∧ (I (pre ++ [x]) W4 ∧ W4.heap[w.heap.size + 1]? = some (.loop (L .ready none)) ∧ W4.heap[w.heap.size]? = some (.deferred (some []))) ∧ Kp W W4) ∨
         (v = .bool false ∧ ∃ c, Ix c (pre ++ [x]) W4 ∧ W4.heap[w.heap.size + 1]? = some (.loop (L .done (some c))) ∧ W4.heap[w.heap.size]? = some (.deferred (some [])))) := by
      intro c W3 hk3 hi3
      obtain ⟨hr, hl3, hl4, hk4⟩ := fin (some c) W3 hk3
      exact ⟨_, _, hr, .inr ⟨rfl, c, (hIx c).putObj _ hi3 (by omega) hl3 rfl, hl4, hk4⟩⟩
    rintro e a3 W3 hp
    cases e with
    | normal =>
      obtain ⟨hk3, hkp3, hi3⟩ := hp
      obtain ⟨hr, hl3, hl4, hk4⟩ := fin none W3 hk3
      exact ⟨_, _, hr, .inl ⟨rfl, ⟨hI.putObj _ hi3 (by omega) hl3 rfl, hl4, hk4⟩, hKt (hKt hw2 hkp3) (hKb _ _ _ _ (by omega) hl3 rfl rfl)⟩⟩
    | ret =>
      obtain ⟨hr, hl3, hl4, hk4⟩ := fin (some .ret) W3 hp.1
      exact ⟨_, _, hr, .inr ⟨rfl, _, (hIx _).putObj _ hp.2 (by omega) hl3 rfl, hl4, hk4⟩⟩
    | exit id =>
      obtain ⟨hr, hl3, hl4, hk4⟩ := fin (some (.exit id)) W3 hp.1
      exact ⟨_, _, hr, .inr ⟨rfl, _, (hIx _).putObj _ hp.2 (by omega) hl3 rfl, hl4, hk4⟩⟩
    | goto t =>
      obtain ⟨hr, hl3, hl4, hk4⟩ := fin (some (.goto t)) W3 hp.1
      exact ⟨_, _, hr, .inr ⟨rfl, _, (hIx _).putObj _ hp.2 (by omega) hl3 rfl, hl4, hk4⟩⟩
    | panic ch => exact hp.elim
    | outgrown => exact hp.elim
  · rintro e W2 ⟨⟨v, rfl⟩, (⟨xs, hS, hi, hl, hk⟩ | ⟨pre, hSp, c, hi, hl, hk⟩)⟩
    · have he := run_endLoop (P := P) hl (by rw [hL]; simp)
      rw [hL] at he
      exact ⟨none, _, he, hdone _ xs _ (Nat.le_refl _) hS (hI.putObj _ hi (by omega) hl rfl) ((World.putObj_heap_other (by omega)).trans hk)⟩
    · have he := run_endLoop (P := P) hl (by rw [hL]; simp)
      rw [hL] at he
      exact ⟨some c, _, he, hstop _ c pre _ (Nat.le_refl _) hSp ((hIx c).putObj _ hi (by omega) hl rfl) ((World.putObj_heap_other (by omega)).trans hk)⟩
end Go.Proofs.YtdedphhohiioiaaDoor
/- What rounds keep that gather in a box; slices of digests and the blocks that they lie in. -/
namespace Go.Proofs.YtdedphhohiioiaaDoor
open Go.RowKit Go.Shelf

/-- The block of the row that lies in a box. -/
def rowOf (ga : Nat) (W : World) : Option Nat := (W.cell? ⟨ga, 0, none⟩).bind Value.ownBlock
theorem rowOf_same {ga : Nat} {W W' : World} (h : W'.heap[ga]? = W.heap[ga]?) : rowOf ga W' = rowOf ga W := by
  unfold rowOf
  rw [World.cell?_of_block (a := ⟨ga, 0, none⟩) h]
theorem rowOf_below {ga : Nat} {W W' : World} (hg : ga < W.heap.size) (h : Below W.heap.size W W') : rowOf ga W' = rowOf ga W := rowOf_same (h.block ga hg)
theorem rowOf_boxed {ga : Nat} {t : TypeId} {v : Value} {W : World} (h : Boxed W ga t v) : rowOf ga W = v.ownBlock := by
  unfold rowOf
  rw [h.cell]
  rfl
/-- What a round keeps that writes the blocks of L and the row in the box ga. -/
structure KpR (L : List Nat) (ga : Nat) (W W' : World) : Prop where
  same : ∀ (k : Nat) (o : Obj), W.heap[k]? = some o → o.isCells = true → k ∉ L → rowOf ga W ≠ some k → W'.heap[k]? = some o
  row : ∀ b, rowOf ga W' = some b → rowOf ga W = some b ∨ W.heap.size ≤ b
  lt : (∀ b, rowOf ga W = some b → b < W.heap.size) → ∀ b, rowOf ga W' = some b → b < W'.heap.size
  dfr : ∀ (k : Nat) (ds : Option (List Deferred)), W.heap[k]? = some (.deferred ds) → W'.heap[k]? = some (.deferred ds)
  size : W.heap.size ≤ W'.heap.size
theorem kpr_t {L : List Nat} {ga : Nat} {X Y Z : World} (h : KpR L ga X Y) (k : KpR L ga Y Z) : KpR L ga X Z := by
  refine ⟨fun i o hi ho hL hn => k.same i o (h.same i o hi ho hL hn) ho hL fun e => ?_, fun b hb => ?_, fun hx b hb => k.lt (h.lt hx) b hb, fun i ds hi => k.dfr i ds (h.dfr i ds hi), Nat.le_trans h.size k.size⟩
  · rcases h.row i e with h1 | h1
    · exact hn h1
    · have := blk_lt hi
      omega
  · rcases k.row b hb with h1 | h1
    · exact h.row b h1
    · exact .inr (Nat.le_trans h.size h1)
theorem kpr_b {L : List Nat} {ga : Nat} (W : World) (l : Nat) (r : Loop) (o' : Obj) (hg : ga < l) (hl : W.heap[l]? = some (.loop r)) : KpR L ga W (W.putObj l o') :=
  ⟨fun k oc hk hc _ _ => by
    have hne : k ≠ l := fun e => by subst e; rw [hk] at hl; cases hl; cases hc
    exact (World.putObj_heap_other hne).trans hk, fun b hb => .inl (by rw [← hb]; exact (rowOf_same (World.putObj_heap_other (by omega))).symm), fun hx b hb => by
      rw [rowOf_same (World.putObj_heap_other (by omega))] at hb
      have := hx b hb
      simpa [World.putObj] using this, fun k ds hk => by
      have hne : k ≠ l := fun e => by subst e; rw [hk] at hl; cases hl
      exact (World.putObj_heap_other hne).trans hk, by simp [World.putObj]⟩
theorem kpr_below {L : List Nat} {ga : Nat} {W W' : World} (hg : ga < W.heap.size) (h : Below W.heap.size W W') : KpR L ga W W' :=
  ⟨fun k o hk _ _ _ => blk_below hk h, fun b hb => .inl (by rw [← hb]; exact (rowOf_below hg h).symm), fun hx b hb => by rw [rowOf_below hg h] at hb; exact Nat.lt_of_lt_of_le (hx b hb) h.size, fun k ds hk => blk_below hk h, h.size⟩
/-- These blocks stay. -/
def KeepB (L : List Nat) (W W' : World) : Prop := ∀ j ∈ L, ∀ (o : Obj), o.isCells = true → W.heap[j]? = some o → W'.heap[j]? = some o
theorem keepB_t {L : List Nat} {X Y Z : World} (h : KeepB L X Y) (k : KeepB L Y Z) : KeepB L X Z := fun j hj o ho hx => k j hj o ho (h j hj o ho hx)
theorem keepB_b {L : List Nat} (W : World) (l : Nat) (o o' : Obj) (hl : W.heap[l]? = some o) (ho : o.isCells = false) : KeepB L W (W.putObj l o') := fun j _ oc hc hk => by
  have hne : j ≠ l := fun e => by subst e; rw [hk] at hl; cases hl; rw [hc] at ho; cases ho
  exact (World.putObj_heap_other hne).trans hk
theorem keepB_below {L : List Nat} {W W' : World} (h : Below W.heap.size W W') : KeepB L W W' := fun _ _ _ _ hk => blk_below hk h

theorem Dgs.same {w w' : World} {v : Value} {ds : List (List Int)} (h : Dgs w v ds) (hs : ∀ k, v.ownBlock = some k → w'.heap[k]? = w.heap[k]?) : Dgs w' v ds := by
  refine ⟨h.form, fun hne => ?_, h.good⟩
  obtain ⟨b, off, c, rfl, h1, h2, h3, h4⟩ := h.cells hne
  have hb := hs b rfl
  refine ⟨b, off, c, rfl, h1, h2, ?_, fun i hi j u hu => ?_⟩
  · obtain ⟨o, ho⟩ : ∃ o, w.heap[b]? = some o := ⟨_, Array.getElem?_eq_getElem h3⟩
    exact blk_lt (hb.trans ho)
  · rw [World.cell?_of_block (a := ⟨b, off + i * 16 + j, none⟩) hb]
    exact h4 i hi j u hu
theorem Dgs.blk {w : World} {v : Value} {ds : List (List Int)} (h : Dgs w v ds) (hne : ds ≠ []) : ∃ k o, v.ownBlock = some k ∧ w.heap[k]? = some o ∧ o.isCells = true := by
  obtain ⟨b, off, c, rfl, h1, h2, h3, h4⟩ := h.cells hne
  refine ⟨b, w.heap[b], rfl, Array.getElem?_eq_getElem h3, ?_⟩
  have hl : 0 < ds.length := List.length_pos_iff.2 hne
  obtain ⟨dl, _⟩ := h.at 0 hl
  have hc := h4 0 hl 0 (.int .u8 ((ds.getD 0 []).getD 0 0)) (by simp [u8s, List.getD_eq_getElem?_getD, List.getElem?_eq_getElem (show 0 < (ds.getD 0 []).length by omega)] at *; rw [List.getElem?_eq_getElem (by omega)]; simp)
  unfold World.cell? at hc
  rw [Array.getElem?_eq_getElem h3] at hc
  cases hx : w.heap[b] with
  | cells cs t fr => rfl
  | _ => rw [hx] at hc; simp at hc
end Go.Proofs.YtdedphhohiioiaaDoor
/- The law ChainsRuns, walked. -/
namespace Go.Proofs.YtdedphhohiioiaaDoor
open Go.RowKit

theorem gives_max {P : Program} {o : Oper} {ρ : Operand → Value} {w : World} {S : Value → World → Prop} (x y : Operand) (ts : Array TypeId) (ho : o.op = .call { callee := .builtin .max, args := #[x, y], argTypes := ts }) (a b : Int) (hx : ρ x = .int .i64 a) (hy : ρ y = .int .i64 b) (h : S (.int .i64 (max a b)) w) : Gives P o ρ w S := by
  refine gives_val (.int .i64 (max a b)) (w' := w) ?_ h
  unfold execOp
  simp only [ho, resolve, invoke, builtin, Sem.run_bind, Sem.run_pure, Result.andThen_ok, List.map_toArray, List.map_cons, List.map_nil, hx, hy]
  go_simp
theorem gives_min {P : Program} {o : Oper} {ρ : Operand → Value} {w : World} {S : Value → World → Prop} (x y : Operand) (ts : Array TypeId) (ho : o.op = .call { callee := .builtin .min, args := #[x, y], argTypes := ts }) (a b : Int) (hx : ρ x = .int .i64 a) (hy : ρ y = .int .i64 b) (h : S (.int .i64 (min a b)) w) : Gives P o ρ w S := by
  refine gives_val (.int .i64 (min a b)) (w' := w) ?_ h
  unfold execOp
  simp only [ho, resolve, invoke, builtin, Sem.run_bind, Sem.run_pure, Result.andThen_ok, List.map_toArray, List.map_cons, List.map_nil, hx, hy]
  go_simp

set_option maxHeartbeats 4000000 in
set_option maxRecDepth 100000 in
theorem chainsRuns_any (x : List Int) (hl : x.length = 16) (hx : u8s_ok x) (p0 p1 fr to : Int) (w : World) (hk : w.rangeAt 18 0 (u32s kk)) (h18 : 18 < w.heap.size) :
    Calls Tryd.prog 10 #[.agg (u8s x).toArray, .agg #[.int .i64 p0, .int .i64 p1], .agg #[.int .i64 fr, .int .i64 to]] w fun e w' => e = .returned (.bool true) ∧ Below w.heap.size w w' := by
  have HK := Lib.hid hk
  have HL := Lib.hid hl
  have HX := Lib.hid hx
  clear hk hl hx
  have hi43 : ∀ V : List Int, V.length = 16 → (Tryd.prog.info? 43).map (·.size) = some (u8s V).length := fun V h => by rw [u8s_len', h]; exact Tryd.size43
  obtain ⟨W0, hW0⟩ : ∃ W0, W0 = ((w.alloc (.cells (u8s x).toArray 43)).alloc (.cells #[.int .i64 p0, .int .i64 p1] 49)).alloc (.cells #[.int .i64 fr, .int .i64 to] 49) := ⟨_, rfl⟩
  have q0 : W0.heap[w.heap.size]? = some (.cells (u8s x).toArray 43 (0, 0)) := by
    rw [hW0, Below.heap_alloc _ _ _ (by simp; omega), Below.heap_alloc _ _ _ (by simp)]
    exact heap_alloc_new w _
  have q1 : W0.heap[w.heap.size + 1]? = some (.cells #[.int .i64 p0, .int .i64 p1] 49 (0, 0)) := by
    rw [hW0, Below.heap_alloc _ _ _ (by simp)]
    have := heap_alloc_new (w.alloc (.cells (u8s x).toArray 43)) (.cells #[.int .i64 p0, .int .i64 p1] 49)
    simpa using this
  have q2 : W0.heap[w.heap.size + 1 + 1]? = some (.cells #[.int .i64 fr, .int .i64 to] 49 (0, 0)) := by
    rw [hW0]
    have := heap_alloc_new ((w.alloc (.cells (u8s x).toArray 43)).alloc (.cells #[.int .i64 p0, .int .i64 p1] 49)) (.cells #[.int .i64 fr, .int .i64 to] 49)
    simpa using this
  have hB0 : Below w.heap.size w W0 := by rw [hW0]; exact (((Below.refl _ _).alloc (Nat.le_refl _) _).alloc (by simp) _).alloc (by simp; omega) _
  have c50 : W0.cell? ⟨w.heap.size + 1 + 1, 0, none⟩ = some (.int .i64 fr) := blk_cell q2 0 _ rfl
  have c51 : W0.cell? ⟨w.heap.size + 1 + 1, 1, none⟩ = some (.int .i64 to) := blk_cell q2 1 _ rfl
  go_enter Tryd.func10, Tryd.ntmps10
  go_wp2_with fail
  rw [← hW0]
  have Q0 := Lib.hid q0
  have Q1 := Lib.hid q1
  have HB0 := Lib.hid hB0
  clear hW0 q0 q1 q2 hB0
  go_quiet (fail)
  go_wp2_with fail
  refine (alive_chains _).mono ?_
  rintro e w1 ⟨rfl, hb1⟩
  have hb1' : Below W0.heap.size W0 w1 := ⟨hb1.os, hb1.tape, hb1.output, hb1.size, hb1.block⟩
  have B1 := Lib.hid (HB0.out.trans (hb1'.mono HB0.out.size))
  have R0 := Lib.hid (blk_below Q0.out hb1')
  have R1 := Lib.hid (blk_below Q1.out hb1')
  have c40 : w1.cell? ⟨w.heap.size + 1, 0, none⟩ = some (.int .i64 p0) := blk_cell R1.out 0 _ rfl
  have c41 : w1.cell? ⟨w.heap.size + 1, 1, none⟩ = some (.int .i64 p1) := blk_cell R1.out 1 _ rfl
  clear hb1 hb1' Q0 Q1 HB0 c50 c51
  go_wp2_with (refine wpList_load_g rfl 43 (.tmp 3) rfl w.heap.size 0 rfl (u8s x) _ (blk_range R0.out) Tryd.underlying43 rfl (hi43 x HL.out) ?_)
  refine (run_any x HL.out HX.out p0 p1 fr to _ (range_below HK.out B1.out) (Nat.lt_of_lt_of_le h18 B1.out.size)).mono ?_
  rintro e w3 ⟨rfl, hb3⟩
  obtain ⟨V, hV⟩ : ∃ v, v = runC p0 p1 x fr to := ⟨_, rfl⟩
  rw [← hV]
  have hlv : V.length = 16 := by rw [hV]; exact (run_good p0 p1 x fr to HL.out HX.out).1
  have B3 := Lib.hid (B1.out.trans (hb3.mono B1.out.size))
  have R3 := Lib.hid (blk_below R0.out hb3)
  have R13 := Lib.hid (blk_below R1.out hb3)
  have hh3 : ∀ Z : Array Value, Z.size = 16 → Has (w3.alloc (.cells Z 43)) w3.heap.size 43 (u8s V).length := fun Z hZ => has_new w3 _ _ _ (by rw [hZ, u8s_len', hlv])
  have HV := Lib.hid hV
  obtain ⟨SC, hSC⟩ : ∃ s, s = secretC p0 p1 x := ⟨_, rfl⟩
  have hsl : SC.length = 16 := by rw [hSC]; exact short_len _ _
  have hsameS := run_same16 SC hsl
  have hsameV := run_same16 V hlv
  have HSC := Lib.hid hSC.symm
  have HSC2 : Hid (short 1 [x, [p0 % 256], [p1 % 256]] = SC) := Lib.hid (by rw [hSC]; rfl)
  have hlx := HL.out
  clear hV hb3 hSC c40 c41 R0 R1 B1
  go_wp2_with (refine wpList_store_row rfl 43 (.tmp 9) (.tmp 23) rfl w3.heap.size rfl (u8s V) rfl 43 (hh3 _ rfl) (hi43 V hlv) (one_u8s _) ?_; intro w4 hp4; have L4 : Below w3.heap.size w3 w4 := (hp4.below ((Below.refl _ _).alloc (Nat.le_refl _) _) (Nat.le_refl _)); have RV4 := Lib.hid (blk_range hp4.blk); have BS4 := Lib.hid (B3.out.trans (L4.mono B3.out.size)); have RX4 := Lib.hid (blk_range (blk_below R3.out L4)); have R14 := Lib.hid (blk_below R13.out L4); clear hp4 L4)
  have C0 : Hid (∀ W, Ext w4 W → W.cell? ⟨w.heap.size + 1, 0, none⟩ = some (.int .i64 p0)) := Lib.hid fun W h => blk_cell (blk_below R14.out h) 0 _ rfl
  have C1 : Hid (∀ W, Ext w4 W → W.cell? ⟨w.heap.size + 1, 1, none⟩ = some (.int .i64 p1)) := Lib.hid fun W h => blk_cell (blk_below R14.out h) 1 _ rfl
  clear R14 R13 R3 B3
  refine wp_region_rely (by kernel_rfl) 13 (by kernel_rfl) (by kernel_rfl) Ext Ext.refl Ext.trans (fun i => match i with
    | 0 => fun _ v => v = .agg (u8s x).toArray
    | 1 => fun _ v => v = .pointer (some ⟨w.heap.size + 1, 0, none⟩)
    | 2 => fun _ v => v = .int .i64 p0
    | 3 => fun _ v => v = .pointer (some ⟨w.heap.size + 1, 1, none⟩)
    | 4 => fun _ v => v = .int .i64 p1
    | 5 => fun _ v => v = .agg (u8s SC).toArray
    | 6 => fun _ v => v = .agg (u8s x).toArray
    | 7 => fun _ v => v = .pointer (some ⟨w.heap.size + 1, 0, none⟩)
    | 8 => fun _ v => v = .int .i64 p0
    | 9 => fun _ v => v = .pointer (some ⟨w.heap.size + 1, 1, none⟩)
    | 10 => fun _ v => v = .int .i64 p1
    | 11 => fun _ v => v = .agg (u8s SC).toArray
    | 12 => fun _ v => v = .bool false
    | _ => fun _ _ => False) ?_
  simp (maxSteps := 10000000) only [Rely, List.take_succ_cons, List.take_zero, List.drop_succ_cons, List.drop_zero, Nat.reduceAdd, Nat.zero_add, Act.put, List.setIfInBounds_toArray, List.set_cons_succ, List.set_cons_zero]
  refine ⟨?_, ?_, ?_, ?_, ?_, ?_, ?_, ?_, ?_, ?_, ?_, ?_, ?_, ?_⟩
  · refine step_plain rfl fun vs w1 hE hd => ?_
    exact gives_load_row 43 _ rfl w.heap.size 0 rfl (u8s x) _ (range_below RX4.out (ext_of_drew hE)) Tryd.underlying43 rfl (hi43 x (by assumption)) ⟨Ext.refl _, fun _ _ => rfl⟩
  · refine step_plain rfl fun vs w1 hE hd => ?_
    exact gives_indexAt 49 _ _ rfl (.pointer (some ⟨w.heap.size + 1, 0, none⟩)) (Value.int IntKind.i64 0) (.pointer (some ⟨w.heap.size + 1, 0, none⟩)) rfl rfl (by go_simp) ⟨Ext.refl _, fun _ _ => rfl⟩
  · refine step_plain rfl fun vs w1 hE hd => ?_
    have hc := C0.out w1 (ext_of_drew hE)
    exact gives_loadAt 3 _ rfl (.pointer (some ⟨w.heap.size + 1, 0, none⟩)) (.int .i64 p0) (show vs 1 = _ from hd.1) (by go_simp) ⟨Ext.refl _, fun _ _ => rfl⟩
  · refine step_plain rfl fun vs w1 hE hd => ?_
    exact gives_indexAt 49 _ _ rfl (.pointer (some ⟨w.heap.size + 1, 0, none⟩)) (Value.int IntKind.i64 1) (.pointer (some ⟨w.heap.size + 1, 1, none⟩)) rfl rfl (by go_simp) ⟨Ext.refl _, fun _ _ => rfl⟩
  · refine step_plain rfl fun vs w1 hE hd => ?_
    have hc := C1.out w1 (ext_of_drew hE)
    exact gives_loadAt 3 _ rfl (.pointer (some ⟨w.heap.size + 1, 1, none⟩)) (.int .i64 p1) (show vs 3 = _ from hd.1) (by go_simp) ⟨Ext.refl _, fun _ _ => rfl⟩
  · refine step_plain rfl fun vs w1 hE hd => ?_
    refine gives_call 38 Tryd.call38 _ _ rfl rfl [.agg (u8s x).toArray, .int .i64 p0, .int .i64 p1] ?_ ?_
    · show [vs 0, vs 2, vs 4] = _
      rw [show vs 0 = _ from (hd.1), show vs 2 = _ from (hd.2.1), show vs 4 = _ from (hd.2.2.1)]
    · refine (secret_any x HL.out HX.out p0 p1 w1 (range_below HK.out (BS4.out.trans (Below.mono (ext_of_drew hE) BS4.out.size))) (by have := (BS4.out.trans (Below.mono (ext_of_drew hE) BS4.out.size)).size; omega)).mono ?_
      rintro e w2 ⟨rfl, hb⟩
      exact ⟨_, rfl, hb, fun _ _ => congrArg (fun o => Value.agg (u8s o).toArray) HSC.out⟩
  · refine step_plain rfl fun vs w1 hE hd => ?_
    exact gives_load_row 43 _ rfl w.heap.size 0 rfl (u8s x) _ (range_below RX4.out (ext_of_drew hE)) Tryd.underlying43 rfl (hi43 x (by assumption)) ⟨Ext.refl _, fun _ _ => rfl⟩
  · refine step_plain rfl fun vs w1 hE hd => ?_
    exact gives_indexAt 49 _ _ rfl (.pointer (some ⟨w.heap.size + 1, 0, none⟩)) (Value.int IntKind.i64 0) (.pointer (some ⟨w.heap.size + 1, 0, none⟩)) rfl rfl (by go_simp) ⟨Ext.refl _, fun _ _ => rfl⟩
  · refine step_plain rfl fun vs w1 hE hd => ?_
    have hc := C0.out w1 (ext_of_drew hE)
    exact gives_loadAt 3 _ rfl (.pointer (some ⟨w.heap.size + 1, 0, none⟩)) (.int .i64 p0) (show vs 7 = _ from hd.1) (by go_simp) ⟨Ext.refl _, fun _ _ => rfl⟩
  · refine step_plain rfl fun vs w1 hE hd => ?_
    exact gives_indexAt 49 _ _ rfl (.pointer (some ⟨w.heap.size + 1, 0, none⟩)) (Value.int IntKind.i64 1) (.pointer (some ⟨w.heap.size + 1, 1, none⟩)) rfl rfl (by go_simp) ⟨Ext.refl _, fun _ _ => rfl⟩
  · refine step_plain rfl fun vs w1 hE hd => ?_
    have hc := C1.out w1 (ext_of_drew hE)
    exact gives_loadAt 3 _ rfl (.pointer (some ⟨w.heap.size + 1, 1, none⟩)) (.int .i64 p1) (show vs 9 = _ from hd.1) (by go_simp) ⟨Ext.refl _, fun _ _ => rfl⟩
  · refine step_plain rfl fun vs w1 hE hd => ?_
    refine gives_call 39 Tryd.call39 _ _ rfl rfl [.agg (u8s x).toArray, .int .i64 p0, .int .i64 p1] ?_ ?_
    · show [vs 6, vs 8, vs 10] = _
      rw [show vs 6 = _ from (hd.1), show vs 8 = _ from (hd.2.1), show vs 10 = _ from (hd.2.2.1)]
    · refine (refSecret_any x HL.out HX.out p0 p1 w1).mono ?_
      rintro e w2 ⟨rfl, hb⟩
      exact ⟨_, rfl, hb, fun _ _ => congrArg (fun o => Value.agg (u8s o).toArray) HSC2.out⟩
  · refine step_plain rfl fun vs w1 hE hd => ?_
    exact gives_binOp .neq 43 _ _ _ rfl (.agg (u8s SC).toArray) (.agg (u8s SC).toArray) (.bool false) (show vs 5 = _ from hd.1) (show vs 11 = _ from hd.2.1) (by go_simp) (by go_simp) ⟨Ext.refl _, fun _ _ => rfl⟩
  · intro vs w2 hE hR
    have h12 : vs 12 = .bool false := hR 12 (by omega)
    rw [h12]
    have E7 : Hid (Ext w4 w2) := Lib.hid (ext_of_drew hE)
    have B7 : Hid (Below w.heap.size w w2) := Lib.hid (BS4.out.trans (Below.mono E7.out BS4.out.size))
    clear hR hE h12
    by_cases hge : to ≤ fr
    · have hvx : V = x := by
        rw [HV.out, runC]
        exact walk_none _ _ _ _ _ (by omega)
      subst hvx
      clear HV
      go_wp2_with (first | (refine wpList_load_g rfl 43 (.tmp 9) rfl w3.heap.size 0 rfl (u8s V) _ (range_below RV4.out E7.out) Tryd.underlying43 rfl (hi43 V hlv) ?_) | (refine wpList_load_g rfl 43 (.tmp 3) rfl w.heap.size 0 rfl (u8s V) _ (range_below RX4.out E7.out) Tryd.underlying43 rfl (hi43 V hlv) ?_))
      go_ret
      exact ⟨rfl, B7.out⟩
    · obtain ⟨fn, hfn⟩ : ∃ n : Nat, n = (max fr 0).toNat := ⟨_, rfl⟩
      have HFN : Hid (max fr 0 = (fn : Int)) := Lib.hid (by omega)
      have HV2 : Hid (walkC p0 p1 x fn (min to 3).toNat = V) := Lib.hid (by rw [HV.out, runC, hfn])
      clear hfn
      go_wp2_with fail
      refine wp_region_rely (by kernel_rfl) 12 (by kernel_rfl) (by kernel_rfl) Ext Ext.refl Ext.trans (fun i => match i with
        | 0 => fun _ v => v = .agg (u8s V).toArray
        | 1 => fun _ v => v = .agg (u8s x).toArray
        | 2 => fun _ v => v = .pointer (some ⟨w.heap.size + 1, 0, none⟩)
        | 3 => fun _ v => v = .int .i64 p0
        | 4 => fun _ v => v = .pointer (some ⟨w.heap.size + 1, 1, none⟩)
        | 5 => fun _ v => v = .int .i64 p1
        | 6 => fun _ v => v = .int .i64 fr
        | 7 => fun _ v => v = .int .i64 (max fr 0)
        | 8 => fun _ v => v = .int .i64 to
        | 9 => fun _ v => v = .int .i64 (min to 3)
        | 10 => fun _ v => v = .agg (u8s V).toArray
        | 11 => fun _ v => v = .bool true
        | _ => fun _ _ => False) ?_
      simp (maxSteps := 10000000) only [Rely, List.take_succ_cons, List.take_zero, List.drop_succ_cons, List.drop_zero, Nat.reduceAdd, Nat.zero_add, Act.put, List.setIfInBounds_toArray, List.set_cons_succ, List.set_cons_zero]
      refine ⟨?_, ?_, ?_, ?_, ?_, ?_, ?_, ?_, ?_, ?_, ?_, ?_, ?_⟩
      · refine step_plain rfl fun vs w1 hE hd => ?_
        exact gives_load_row 43 _ rfl w3.heap.size 0 rfl (u8s V) _ (range_below RV4.out (Ext.trans E7.out (ext_of_drew hE))) Tryd.underlying43 rfl (hi43 V (by assumption)) ⟨Ext.refl _, fun _ _ => rfl⟩
      · refine step_plain rfl fun vs w1 hE hd => ?_
        exact gives_load_row 43 _ rfl w.heap.size 0 rfl (u8s x) _ (range_below RX4.out (Ext.trans E7.out (ext_of_drew hE))) Tryd.underlying43 rfl (hi43 x (by assumption)) ⟨Ext.refl _, fun _ _ => rfl⟩
      · refine step_plain rfl fun vs w1 hE hd => ?_
        exact gives_indexAt 49 _ _ rfl (.pointer (some ⟨w.heap.size + 1, 0, none⟩)) (Value.int IntKind.i64 0) (.pointer (some ⟨w.heap.size + 1, 0, none⟩)) rfl rfl (by go_simp) ⟨Ext.refl _, fun _ _ => rfl⟩
      · refine step_plain rfl fun vs w1 hE hd => ?_
        have hc := C0.out w1 (Ext.trans E7.out (ext_of_drew hE))
        exact gives_loadAt 3 _ rfl (.pointer (some ⟨w.heap.size + 1, 0, none⟩)) (.int .i64 p0) (show vs 2 = _ from hd.1) (by go_simp) ⟨Ext.refl _, fun _ _ => rfl⟩
      · refine step_plain rfl fun vs w1 hE hd => ?_
        exact gives_indexAt 49 _ _ rfl (.pointer (some ⟨w.heap.size + 1, 0, none⟩)) (Value.int IntKind.i64 1) (.pointer (some ⟨w.heap.size + 1, 1, none⟩)) rfl rfl (by go_simp) ⟨Ext.refl _, fun _ _ => rfl⟩
      · refine step_plain rfl fun vs w1 hE hd => ?_
        have hc := C1.out w1 (Ext.trans E7.out (ext_of_drew hE))
        exact gives_loadAt 3 _ rfl (.pointer (some ⟨w.heap.size + 1, 1, none⟩)) (.int .i64 p1) (show vs 4 = _ from hd.1) (by go_simp) ⟨Ext.refl _, fun _ _ => rfl⟩
      · refine step_plain rfl fun vs w1 hE hd => ?_
        exact gives_move _ (.int .i64 fr) (.inl rfl) rfl ⟨Ext.refl _, fun _ _ => rfl⟩
      · refine step_plain rfl fun vs w1 hE hd => ?_
        exact gives_max _ _ _ rfl fr 0 (show vs 6 = _ from (hd.1)) rfl ⟨Ext.refl _, fun _ _ => rfl⟩
      · refine step_plain rfl fun vs w1 hE hd => ?_
        exact gives_move _ (.int .i64 to) (.inl rfl) rfl ⟨Ext.refl _, fun _ _ => rfl⟩
      · refine step_plain rfl fun vs w1 hE hd => ?_
        exact gives_min _ _ _ rfl to 3 (show vs 8 = _ from (hd.1)) rfl ⟨Ext.refl _, fun _ _ => rfl⟩
      · refine step_plain rfl fun vs w1 hE hd => ?_
        refine gives_call 40 Tryd.call40 _ _ rfl rfl [.agg (u8s x).toArray, .int .i64 p0, .int .i64 p1, .int .i64 fn, .int .i64 (min to 3)] ?_ ?_
        · show [vs 1, vs 3, vs 5, vs 7, vs 9] = _
          rw [show vs 1 = _ from (hd.1), show vs 3 = _ from (hd.2.1), show vs 5 = _ from (hd.2.2.1), show vs 7 = _ from (hd.2.2.2.1), show vs 9 = _ from (hd.2.2.2.2.1), HFN.out]
        · refine (refRun_any x HL.out HX.out p0 p1 fn (min to 3) (by omega) w1).mono ?_
          rintro e w2 ⟨rfl, hb⟩
          exact ⟨_, rfl, hb, fun _ _ => congrArg (fun o => Value.agg (u8s o).toArray) HV2.out⟩
      · refine step_plain rfl fun vs w1 hE hd => ?_
        exact gives_binOp .eql 43 _ _ _ rfl (.agg (u8s V).toArray) (.agg (u8s V).toArray) (.bool true) (show vs 0 = _ from hd.1) (show vs 10 = _ from hd.2.1) (by go_simp) (by go_simp) ⟨Ext.refl _, fun _ _ => rfl⟩
      · intro vs w2 hE hR
        have h11 : vs 11 = .bool true := hR 11 (by omega)
        rw [h11]
        have hfin : Below w.heap.size w w2 := B7.out.trans (Below.mono (ext_of_drew hE) B7.out.size)
        clear hR hE h11
        go_wp2
        go_ret
        exact ⟨rfl, hfin⟩
end Go.Proofs.YtdedphhohiioiaaDoor
/- slices.Chunk of digests, by twos. -/
namespace Go.Proofs.YtdedphhohiioiaaDoor
open Go.RowKit Go.Shelf
attribute [local go_sem] Oper.semAt_some

theorem elem55 : Tryd.prog.underlying 55 = some (.slice (Tryd.prog.elem 55)) := by kernel_rfl
theorem sizeOf55 (W : World) : (sizeOf (Tryd.prog.elem 55)).run Tryd.prog W = .ok 16 W := by kernel_rfl
theorem slice55_l (b off n c lo : Nat) (h1 : lo < n) (h2 : n ≤ c) (W : World) : (Instr.sliceAt 55 (.slice (some ⟨b, off, none⟩) n c) (some (.int .i64 (lo : Int))) none none).run Tryd.prog W = .ok (.slice (some ⟨b, off + lo * 16, none⟩) (n - lo) (c - lo)) W := by
  rw [run_sliceAt_slice W 55 _ _ _ _ elem55, run_slice_l W 55 _ n c elem55 .i64 lo (by omega) (by omega), sizeOf55]
  simp only [Result.andThen_ok, sliced, Int.toNat_natCast]
  rw [if_neg (by omega)]
  simp [Addr.add]
theorem slice55_lhm (b off n c lo hi : Nat) (h1 : lo < hi) (h2 : hi ≤ c) (W : World) : (Instr.sliceAt 55 (.slice (some ⟨b, off, none⟩) n c) (some (.int .i64 (lo : Int))) (some (.int .i64 (hi : Int))) (some (.int .i64 (hi : Int)))).run Tryd.prog W = .ok (.slice (some ⟨b, off + lo * 16, none⟩) (hi - lo) (hi - lo)) W := by
  rw [run_sliceAt_slice W 55 _ _ _ _ elem55, run_slice_lhm W 55 _ n c elem55 .i64 .i64 .i64 lo hi hi (by omega) (by omega) (by omega) (by omega), sizeOf55]
  simp only [Result.andThen_ok, sliced, Int.toNat_natCast]
  rw [if_neg (by omega)]
  simp [Addr.add]
theorem gives_len55 {o : Oper} {ρ : Operand → Value} {w : World} {S : Value → World → Prop} (x : Operand) (ho : o.op = .call { callee := .builtin .len, args := #[x], argTypes := #[55] }) (A : Option Addr) (n c : Nat) (hx : ρ x = .slice A n c) (h : S (.int .i64 n) w) : Gives Tryd.prog o ρ w S := by
  refine gives_val (.int .i64 n) (w' := w) ?_ h
  unfold execOp
  simp only [ho, resolve, invoke, builtin, Sem.run_bind, Sem.run_pure, Result.andThen_ok, List.map_toArray, List.map_cons, List.map_nil, hx]
  simp [Builtin.len_, run_underlying Tryd.underlying55]
  rfl
theorem wpListIn_slice {n : Nat} {P : Program} {ops : Array Oper} {Q : Exit → Act → World → Prop} {a : Act} {w : World} {rest : List Oper} {o : Oper} {F : Fence} (hF : ∃ ro, F = AtRound ro) (hw : Region.wanted o (yielded ops a.tmps) = true) (t : TypeId) (x : Operand) (lo hi mx : Option Operand) (ho : o.op = .slice t x lo hi mx)
    (vx v : Value) (l h' m : Option Value) (hx : a.eval x = vx) (hl : lo.map a.eval = l) (hh : hi.map a.eval = h') (hm : mx.map a.eval = m) (hr : (Instr.sliceAt t vx l h' m).run P w = .ok v w) (h : wpListIn F n P ops Q rest (a.put o.dst v) w) : wpListIn F n P ops Q (o :: rest) a w := by
  obtain ⟨ro, rfl⟩ := hF
  refine wpListIn_op ro hw (fun c e => by rw [ho] at e; cases e) fun K hK => ?_
  unfold Oper.wp execOp
  simp only [ho, hx, hl, hh, hm, Sem.run_bind, hr, Result.andThen_ok, Sem.run_pure]
  exact hK _ _ h

/-- The j-th two of a slice. -/
def twoV (b off j : Nat) : Value := .slice (some ⟨b, off + 2 * j * 16, none⟩) 2 2

set_option maxHeartbeats 4000000 in
set_option maxRecDepth 100000 in
theorem chunk_in (n : Nat) (hn : 1 ≤ n) (l bC bK b off c h : Nat) (w0 W : World) (J Jx : List Nat → World → Prop)
    (hW : Below w0.heap.size w0 W) (hJ : AbidesFrom W.heap.size J)
    (hY : ∀ pre x W1, J pre W1 → pre.length < h → pre ++ [x] = List.range (pre.length + 1) → YieldAt Fence.wide (n - 1) Tryd.prog l #[twoV b off x] W1 fun e W' =>
      (e = .returned (.bool true) ∧ J (pre ++ [x]) W' ∧ KeepB [bC, bK] W1 W') ∨ (e = .returned (.bool false) ∧ Jx (pre ++ [x]) W'))
    (hC : Boxed w0 bC 55 (.slice (some ⟨b, off, none⟩) (2 * h) c)) (hK : Boxed w0 bK 3 (.int .i64 2)) (hc : 2 * h ≤ c) (hh : h ≤ 1000) (h0 : J [] W) :
    CallsIn Fence.wide n Tryd.prog 95 #[.func (.yield l) #[] #[], .pointer (some ⟨bC, 0, none⟩), .pointer (some ⟨bK, 0, none⟩)] W fun e W' => (∃ v, e = .returned v) ∧
      ((∃ ys, ys = List.range h ∧ J ys W') ∨ (∃ pre, pre = List.range pre.length ∧ Jx pre W')) := by
  have XC := Lib.hid (show Boxed W bC 55 _ from blk_below hC hW)
  have XK := Lib.hid (show Boxed W bK 3 _ from blk_below hK hW)
  have HJ := Lib.hid hJ
  have HY := Lib.hid hY
  have J0 := Lib.hid h0
  clear hW hY hJ h0 hC hK
  refine callsIn_of_wp Tryd.func95 rfl trivial ?_ rfl
  simp only [Tryd.ntmps95, List.size_toArray, List.length_cons, List.length_nil, Nat.reduceAdd, Nat.reduceSub, Array.replicate_succ, Array.replicate_zero, List.push_toArray, List.append_toArray, List.nil_append, List.cons_append]
  gi_wp2
  gi_loopw [4] (fun i wr => ∃ j : Nat, j ≤ h ∧ i = .int .i64 ((2 * j : Nat) : Int) ∧ Hid (J (List.range j) wr) ∧ Hid (Boxed wr bC 55 (.slice (some ⟨b, off, none⟩) (2 * h) c)) ∧ Hid (Boxed wr bK 3 (.int .i64 2)))
    (fun i _ => 2 * h - (intOf i).toNat)
  case atStart => exact ⟨0, Nat.zero_le _, rfl, J0, XC, XK⟩
  case round =>
    clear J0 XC XK
    obtain ⟨j, hj, rfl, hJs, hxc, hxk⟩ := hrel
    have CC := Lib.hid hxc.out.cell
    have CK := Lib.hid hxk.out.cell
    have cc := CC.out
    have ck := CK.out
    by_cases hlt : j < h
    · have hil : ((2 * j : Nat) : Int) < ((2 * h : Nat) : Int) := by omega
      gi_wp2_with fail
      refine wpIn_region_rely5 wideF ?hq (by kernel_rfl) (by kernel_rfl) 6 (by kernel_rfl) (by kernel_rfl) Ext Ext.refl Ext.trans (fun ix => match ix with
        | 0 => fun _ v => v = .int .i64 2
        | 1 => fun _ v => v = .slice (some ⟨b, off, none⟩) (2 * h) c
        | 2 => fun _ v => v = .int .i64 ((2 * j : Nat) : Int)
        | 3 => fun _ v => v = .slice (some ⟨b, off + 2 * j * 16, none⟩) (2 * h - 2 * j) (c - 2 * j)
        | 4 => fun _ v => v = .int .i64 ((2 * h - 2 * j : Nat) : Int)
        | 5 => fun _ v => v = .int .i64 2
        | _ => fun _ _ => False) ?_
      case hq => (rintro ⟨_, _, h⟩; exact nomatch h.1)
      simp (maxSteps := 10000000) only [Rely, List.take_succ_cons, List.take_zero, List.drop_succ_cons, List.drop_zero, Nat.reduceAdd, Nat.zero_add, Act.put, List.setIfInBounds_toArray, List.set_cons_succ, List.set_cons_zero]
      refine ⟨?_, ?_, ?_, ?_, ?_, ?_, ?_⟩
      · refine step_plain rfl fun vs wq hE hd => ?_
        have hc := cell_on (bel_drew1 hE) CK.out
        exact gives_loadAt 3 _ rfl (.pointer (some ⟨bK, 0, none⟩)) (.int .i64 2) rfl (by go_simp) ⟨Ext.refl _, fun _ _ => rfl⟩
      · refine step_plain rfl fun vs wq hE hd => ?_
        have hc := cell_on (bel_drew1 hE) CC.out
        exact gives_loadAt 55 _ rfl (.pointer (some ⟨bC, 0, none⟩)) (.slice (some ⟨b, off, none⟩) (2 * h) c) rfl (by go_simp) ⟨Ext.refl _, fun _ _ => rfl⟩
      · refine step_plain rfl fun vs wq hE hd => ?_
        exact gives_move _ (.int .i64 ((2 * j : Nat) : Int)) (.inl rfl) rfl ⟨Ext.refl _, fun _ _ => rfl⟩
      · refine step_plain rfl fun vs wq hE hd => ?_
        exact gives_slice 55 _ _ _ _ rfl (.slice (some ⟨b, off, none⟩) (2 * h) c) (.slice (some ⟨b, off + 2 * j * 16, none⟩) (2 * h - 2 * j) (c - 2 * j)) (some (.int .i64 ((2 * j : Nat) : Int))) none none (show vs 1 = _ from (hd.1)) (congrArg some (show vs 2 = _ from (hd.2.1))) rfl rfl (slice55_l b off (2 * h) c (2 * j) (by omega) (by omega) _) ⟨Ext.refl _, fun _ _ => rfl⟩
      · refine step_plain rfl fun vs wq hE hd => ?_
        exact gives_len55 _ rfl _ (2 * h - 2 * j) _ (show vs 3 = _ from (hd.1)) ⟨Ext.refl _, fun _ _ => rfl⟩
      · refine step_plain rfl fun vs wq hE hd => ?_
        exact gives_min _ _ _ rfl 2 ((2 * h - 2 * j : Nat) : Int) (show vs 0 = _ from (hd.1)) (show vs 4 = _ from (hd.2.1)) (by rw [show min (2 : Int) ((2 * h - 2 * j : Nat) : Int) = 2 by omega]; exact ⟨Ext.refl _, fun _ _ => rfl⟩)
      · intro vs w2 hE hR
        have h5 : vs 5 = .int .i64 2 := hR 5 (by omega)
        rw [h5]
        have L1 : Below wr.heap.size wr w2 := bel_drew1 hE
        have XC2 := Lib.hid (show Boxed w2 bC 55 (.slice (some ⟨b, off, none⟩) (2 * h) c) from blk_below hxc.out L1)
        have XK2 := Lib.hid (show Boxed w2 bK 3 (.int .i64 2) from blk_below hxk.out L1)
        obtain ⟨fn, tmps, assign, body, hy, hRR⟩ := HY.out _ j w2 (abide_ext HJ.out hJs.out L1) (by rw [List.length_range]; exact hlt) (by rw [List.length_range, List.range_succ])
        have HRR := Lib.hid hRR
        simp only [twoV] at hy
        have cc2 := XC2.out.cell
        have ck2 := XK2.out.cell
        have hw2 : IntKind.i64.wrap (((2 * j : Nat) : Int) + 2) = ((2 * j + 2 : Nat) : Int) := by rw [IntKind.wrap_i64]; omega
        clear hR hE h5 L1 hRR hJs hxc hxk cc ck CC CK
        refine wpList_done ?_
        gi_wp2_with (refine wpListIn_slice wideF rfl 55 (.tmp 20) _ _ _ rfl (.slice (some ⟨b, off, none⟩) (2 * h) c) (.slice (some ⟨b, off + 2 * j * 16, none⟩) 2 2) (some (.int .i64 ((2 * j : Nat) : Int))) (some (.int .i64 ((2 * j + 2 : Nat) : Int))) (some (.int .i64 ((2 * j + 2 : Nat) : Int))) rfl rfl rfl rfl (by have := slice55_lhm b off (2 * h) c (2 * j) (2 * j + 2) (by omega) (by omega) w2; rwa [show 2 * j + 2 - 2 * j = 2 by omega] at this) ?_)
        refine HRR.out.mono ?_
        rintro e W3 (⟨rfl, hJ3, hk3⟩ | ⟨rfl, hJx3⟩)
        · have XC3 := Lib.hid (show Boxed W3 bC 55 (.slice (some ⟨b, off, none⟩) (2 * h) c) from hk3 bC (by simp) _ rfl XC2.out)
          have XK3 := Lib.hid (show Boxed W3 bK 3 (.int .i64 2) from hk3 bK (by simp) _ rfl XK2.out)
          have J3 := Lib.hid hJ3
          have ck3 := XK3.out.cell
          clear hJ3 hk3 HRR hy cc2 ck2
          gi_wp2
          go_roundw
          case rel => exact ⟨j + 1, by omega, by rw [show 2 * (j + 1) = 2 * j + 2 by omega]; go_num, Lib.hid (by rw [List.range_succ]; exact J3.out), XC3, XK3⟩
          case measure => simp [intOf]; omega
        · clear HRR hy
          gi_wp2
          refine bodyPost_ret (results_none rfl _ _ _) rfl ?_
          exact ⟨⟨_, rfl⟩, .inr ⟨_, by rw [List.length_append, List.length_range, List.length_cons, List.length_nil, List.range_succ], hJx3⟩⟩
    · obtain rfl : j = h := by omega
      gi_wp2
      go_end0
      exact ⟨⟨_, rfl⟩, .inl ⟨_, rfl, hJs.out⟩⟩
theorem chunk_stops (n : Nat) (hn : 1 ≤ n) (bC bK b off c h : Nat) (w0 : World) (hC : Boxed w0 bC 55 (.slice (some ⟨b, off, none⟩) (2 * h) c)) (hK : Boxed w0 bK 3 (.int .i64 2)) (hc : 2 * h ≤ c) (hh : h ≤ 1000) :
    SeqP n Tryd.prog 95 #[.pointer (some ⟨bC, 0, none⟩), .pointer (some ⟨bK, 0, none⟩)] (fun x : Nat => #[twoV b off x]) (fun _ _ => True) (KeepB [bC, bK]) (fun ys => ys = List.range h) (fun pre => pre = List.range pre.length) h w0 :=
  fun l J Jx W hW hJ _ hY h0 => chunk_in n hn l bC bK b off c h w0 W J Jx hW hJ (fun pre x W1 h1 h2 h3 => hY pre x W1 h1 trivial h2 (show pre ++ [x] = List.range (pre ++ [x]).length by rw [List.length_append]; exact h3)) hC hK hc hh h0
theorem chunk_any (A : Option Addr) (n c : Nat) (w : World) : Calls Tryd.prog 92 #[.slice A n c, .int .i64 2] w fun e w' => e = .returned (.func (.func 95) #[] #[.pointer (some ⟨w.heap.size, 0, none⟩), .pointer (some ⟨w.heap.size + 1, 0, none⟩)]) ∧ w' = (w.alloc (.cells #[.slice A n c] 55)).alloc (.cells #[.int .i64 2] 3) := by
  go_enter Tryd.func92, Tryd.ntmps92
  go_wp2
  go_ret
  exact ⟨rfl, rfl⟩
end Go.Proofs.YtdedphhohiioiaaDoor
/- A range over an iterator that hands out slices: each round is told what its element reads as, and what came so far; the iterator may hold loops over functions of its own. -/
namespace Go.Proofs.YtdedphhohiioiaaDoor
open Go.RowKit Go.Shelf

/-- The blocks of deferred calls stay. -/
def Dfr (B : Nat) (X Y : World) : Prop := ∀ (k : Nat) (ds : Option (List Deferred)), B ≤ k → X.heap[k]? = some (.deferred ds) → Y.heap[k]? = some (.deferred ds)
/-- An iterator's contract: a round is run where the element's fact holds. -/
def SeqN {α : Type} (n : Nat) (P : Program) (g : Nat) (lb : Array Value) (encs : α → Array Value) (Fact : α → World → Prop) (Kp : World → World → Prop) (S Sp : List α → Prop) (N : Nat) (w : World) : Prop :=
  ∀ (l : Nat) (J Jx : List α → World → Prop) (W : World), Below w.heap.size w W → OwnFrom W.heap.size J → OwnFrom W.heap.size Jx →
    (∀ pre x W1, J pre W1 → Fact x W1 → pre.length < N → Sp (pre ++ [x]) → YieldAt Fence.wide (n - 1) P l (encs x) W1 fun e W' =>
      (e = .returned (.bool true) ∧ J (pre ++ [x]) W' ∧ Kp W1 W') ∨ (e = .returned (.bool false) ∧ Jx (pre ++ [x]) W' ∧ Dfr W.heap.size W1 W')) →
    J [] W →
    CallsIn Fence.wide n P g (#[.func (.yield l) #[] #[]] ++ lb) W fun e W' => (∃ v, e = .returned v) ∧ ((∃ xs, S xs ∧ J xs W') ∨ (∃ pre, Sp pre ∧ Jx pre W'))

variable {n : Nat} {P : Program}

/-- The loop: as the kit's law that lets the body write what lay ahead of it; each round knows its element's fact besides. -/
theorem wpIn_rangeFuncN {α : Type} {g : Operand} {ps : Array Tmp} {assign body : Code} {Q : Exit → Act → World → Prop} {a : Act} {w : World}
    {gf : Nat} {lb : Array Value} (hg : a.eval g = .func (.func gf) #[] lb) (eg : ∀ args w, (callFunc gf args).run P w = .ok (.enter gf args) w)
    {encs : α → Array Value} {Fact : α → World → Prop} {Kp : World → World → Prop} {S Sp : List α → Prop} {N : Nat} {w0 : World} (hseq : SeqN (n - 1) P gf lb encs Fact Kp S Sp N w0)
    (hF : ∀ (x : α) (W : World) (l : Nat) (o o' : Obj), W.heap[l]? = some o → o.isCells = false → Fact x W → Fact x (W.putObj l o'))
    (hKt : ∀ {A B C : World}, Kp A B → Kp B C → Kp A C) (hKb : ∀ (W : World) (l : Nat) (r : Loop) (o' : Obj), w.heap.size ≤ l → W.heap[l]? = some (.loop r) → Kp W (W.putObj l o')) (hb0 : Below w0.heap.size w0 w) (hps : ∀ x, (encs x).size = ps.size)
    (I : List α → World → Prop) (Ix : Code → List α → World → Prop) (hI : OwnFrom w.heap.size I) (hIx : ∀ c, OwnFrom w.heap.size (Ix c)) (h0 : I [] w) (a₁ : α → Act)
    (hassign : ∀ (l : Nat) (x : α) (W : World) (K : Act → World → Prop), K (a₁ x) W →
      assign.wpIn (Fence.wide.inRound l) (n - 1 - 1) P (Exit.then K (fun _ _ _ => False)) { tmps := (ps.zip (encs x)).foldl (fun t (p, v) => t.setIfInBounds p v) a.tmps, defers := [] } W)
    (hbody : ∀ (l : Nat) (pre : List α) (x : α) (W : World), I pre W → Fact x W → pre.length < N → Sp (pre ++ [x]) → body.wpIn (Fence.wide.inRound l) (n - 1 - 1) P (ownPostG w.heap.size Kp I Ix (pre ++ [x]) W) (a₁ x) W)
    (hdone : ∀ (D : Nat) (xs : List α) (W : World), w.heap.size ≤ D → S xs → I xs W → W.heap[D]? = some (.deferred (some [])) → Q .normal { a with defers := { target := .collected D, args := #[] } :: a.defers } W)
    (hstop : ∀ (D : Nat) (c : Code) (pre : List α) (W : World), w.heap.size ≤ D → Sp pre → Ix c pre W → W.heap[D]? = some (.deferred (some [])) → c.wpIn Fence.wide n P Q { a with defers := { target := .collected D, args := #[] } :: a.defers } W) :
    (Code.rangeFunc g ps assign body).wpIn Fence.wide n P Q a w := by
  refine wpIn_rangeFunc fun fn hfn => ?_
  obtain ⟨L, hL⟩ : ∃ L : LoopState → Option Code → Loop, L = fun st pe => { state := st, pending := pe, fn, tmps := a.tmps, params := ps, assign, body, defers := w.heap.size } := ⟨_, rfl⟩
  obtain ⟨V, hV⟩ : ∃ V, V = (w.alloc (.deferred (some []))).alloc (.loop (L .ready none)) := ⟨_, rfl⟩
  have hsz : V.heap.size = w.heap.size + 2 := by rw [hV]; simp
  have hrec : V.heap[w.heap.size + 1]? = some (.loop (L .ready none)) := by
    rw [hV]
    have := World.alloc_heap_new (w.alloc (.deferred (some []))) (.loop (L .ready none))
    rwa [World.size_alloc] at this
  have hdef : V.heap[w.heap.size]? = some (.deferred (some [])) := by
    rw [hV]
    exact (Below.heap_alloc _ _ _ (by simp)).trans (World.alloc_heap_new w _)
  have hIV : I [] V := by rw [hV]; exact hI.alloc _ (hI.alloc _ h0)
  have hbV : Below w0.heap.size w0 V := by
    rw [hV]
    exact hb0.trans ((((Below.refl _ w).alloc (Nat.le_refl _) _).alloc (by simp) _).mono hb0.size)
  refine ⟨w.heap.size + 1, [{ target := .collected w.heap.size, args := #[] }], V, { target := .fn (.func gf) lb, args := #[.func (.yield (w.heap.size + 1)) #[] #[]] }, V, gf,
    #[.func (.yield (w.heap.size + 1)) #[] #[]] ++ lb, V, by rw [hV, hL]; exact run_enterLoop_outer _ _ _ _ _, by simp only [resolve, hg]; simp [go_sem], fun f' hf' => trivial, by simp [invoke, go_sem, eg], (fun h => by cases h), ?_⟩
  have hrow : ∀ {X : World} {row : Option Nat}, (∀ r, row = some r → V.heap.size ≤ r ∧ ∃ o : Obj, X.heap[r]? = some o ∧ o.isCells = false) → (∀ r, row = some r → w.heap.size ≤ r ∧ ∃ o : Obj, X.heap[r]? = some o ∧ o.isCells = false) :=
    fun hr r e => ⟨by have := (hr r e).1; omega, (hr r e).2⟩
  have hkeep : ∀ {X Y : World} {row : Option Nat} {k : Nat} {o : Obj}, X.grownBy Y row → (∀ r, row = some r → V.heap.size ≤ r ∧ ∃ o : Obj, X.heap[r]? = some o ∧ o.isCells = false) → k < V.heap.size → X.heap[k]? = some o → Y.heap[k]? = some o :=
    fun hg' hr hk ho => (hg'.block _ (blk_lt ho) fun e => by have := (hr _ e.symm).1; omega).trans ho
  refine (hseq (w.heap.size + 1)
    (fun pre W => I pre W ∧ W.heap[w.heap.size + 1]? = some (.loop (L .ready none)) ∧ W.heap[w.heap.size]? = some (.deferred (some [])))
    (fun pre W => ∃ c, Ix c pre W ∧ W.heap[w.heap.size + 1]? = some (.loop (L .done (some c))) ∧ W.heap[w.heap.size]? = some (.deferred (some [])))
    V hbV ?_ ?_ ?_ ⟨hIV, hrec, hdef⟩).mono ?_
  · intro s A B row hs hg' hr
    exact ⟨hI s A B row hs.1 hg' (hrow hr), hkeep hg' hr (by omega) hs.2.1, hkeep hg' hr (by omega) hs.2.2⟩
  · rintro s A B row ⟨c, hc, hl, hk⟩ hg' hr
    exact ⟨c, hIx c s A B row hc hg' (hrow hr), hkeep hg' hr (by omega) hl, hkeep hg' hr (by omega) hk⟩
  · rintro pre x W ⟨hi, hl, hk⟩ hfact hlen hsp
    have hlt : w.heap.size + 1 < W.heap.size := (Array.getElem?_eq_some_iff.1 hl).1
    have hy := run_yield (P := P) (args := encs x) hl (by rw [hL]; exact hps x)
    rw [hL] at hy
    refine ⟨fn, _, assign, body, hy, roundIn_of_wpIn hfn (hassign _ x W _ ⟨_, run_beginRound hl (by rw [hL]), ?_⟩)⟩
    obtain ⟨U, hU⟩ : ∃ U, U = W.putObj (w.heap.size + 1) (.loop { L .ready none with state := .busy }) := ⟨_, rfl⟩
    have hl2 : U.heap[w.heap.size + 1]? = some (.loop { L .ready none with state := .busy }) := by rw [hU]; exact World.putObj_heap_same hlt
    have hk2 : U.heap[w.heap.size]? = some (.deferred (some [])) := by rw [hU]; exact (World.putObj_heap_other (by omega)).trans hk
    have hw2 : Kp W U := by rw [hU]; exact hKb _ _ _ _ (by omega) hl
    rw [← hU]
    refine wpIn_mono (hbody _ pre x U (by rw [hU]; exact hI.putObj _ hi (by omega) hl rfl) (by rw [hU]; exact hF _ _ _ _ _ hl rfl hfact) hlen hsp) ?_
    have fin : ∀ (jump : Option Code) (W3 : World), KeepsFrom w.heap.size U W3 →
        (Instr.endRound (w.heap.size + 1) jump).run P W3 = .ok (.bool jump.isNone) (W3.putObj (w.heap.size + 1) (.loop (L (if jump.isNone then .ready else .done) jump))) ∧
        W3.heap[w.heap.size + 1]? = some (.loop { L .ready none with state := .busy }) ∧
        (W3.putObj (w.heap.size + 1) (.loop (L (if jump.isNone then .ready else .done) jump))).heap[w.heap.size + 1]? = some (.loop (L (if jump.isNone then .ready else .done) jump)) ∧
        (W3.putObj (w.heap.size + 1) (.loop (L (if jump.isNone then .ready else .done) jump))).heap[w.heap.size]? = some (.deferred (some [])) := by
      intro jump W3 hk3
      have hl3 := hk3.same _ _ (by omega) hl2 rfl
      have he := run_endRound (P := P) jump hl3
      rw [hL] at he ⊢
      rw [hL] at hl3
      exact ⟨he, hl3, World.putObj_heap_same (Array.getElem?_eq_some_iff.1 hl3).1, (World.putObj_heap_other (by omega)).trans (hk3.same _ _ (Nat.le_refl _) hk2 rfl)⟩
    have dfr : ∀ (W3 : World) (o' : Obj), KeepsFrom w.heap.size U W3 → Dfr V.heap.size W (W3.putObj (w.heap.size + 1) o') := fun W3 o' hk3 k ds hB hd => by
      have hne : k ≠ w.heap.size + 1 := by omega
      have h1 : U.heap[k]? = some (.deferred ds) := by rw [hU]; exact (World.putObj_heap_other hne).trans hd
      exact (World.putObj_heap_other hne).trans (hk3.same k _ (by omega) h1 rfl)
    have leave : ∀ (c : Code) (W3 : World), KeepsFrom w.heap.size U W3 → Ix c (pre ++ [x]) W3 → ∃ v W4, (Instr.endRound (w.heap.size + 1) (some c)).run P W3 = .ok v W4 ∧
        ((v = .bool true ∧ (I (pre ++ [x]) W4 ∧ W4.heap[w.heap.size + 1]? = some (.loop (L .ready none)) ∧ W4.heap[w.heap.size]? = some (.deferred (some []))) ∧ Kp W W4) ∨
         (v = .bool false ∧ (∃ c, Ix c (pre ++ [x]) W4 ∧ W4.heap[w.heap.size + 1]? = some (.loop (L .done (some c))) ∧ W4.heap[w.heap.size]? = some (.deferred (some []))) ∧ Dfr V.heap.size W W4)) := by
      intro c W3 hk3 hi3
      obtain ⟨hr, hl3, hl4, hk4⟩ := fin (some c) W3 hk3
      exact ⟨_, _, hr, .inr ⟨rfl, ⟨c, (hIx c).putObj _ hi3 (by omega) hl3 rfl, hl4, hk4⟩, dfr _ _ hk3⟩⟩
    rintro e a3 W3 hp
    cases e with
    | normal =>
      obtain ⟨hk3, hkp3, hi3⟩ := hp
      obtain ⟨hr, hl3, hl4, hk4⟩ := fin none W3 hk3
      exact ⟨_, _, hr, .inl ⟨rfl, ⟨hI.putObj _ hi3 (by omega) hl3 rfl, hl4, hk4⟩, hKt (hKt hw2 hkp3) (hKb _ _ _ _ (by omega) hl3)⟩⟩
    | ret =>
      obtain ⟨hr, hl3, hl4, hk4⟩ := fin (some .ret) W3 hp.1
      exact ⟨_, _, hr, .inr ⟨rfl, ⟨_, (hIx _).putObj _ hp.2 (by omega) hl3 rfl, hl4, hk4⟩, dfr _ _ hp.1⟩⟩
    | exit id =>
      obtain ⟨hr, hl3, hl4, hk4⟩ := fin (some (.exit id)) W3 hp.1
      exact ⟨_, _, hr, .inr ⟨rfl, ⟨_, (hIx _).putObj _ hp.2 (by omega) hl3 rfl, hl4, hk4⟩, dfr _ _ hp.1⟩⟩
    | goto t =>
      obtain ⟨hr, hl3, hl4, hk4⟩ := fin (some (.goto t)) W3 hp.1
      exact ⟨_, _, hr, .inr ⟨rfl, ⟨_, (hIx _).putObj _ hp.2 (by omega) hl3 rfl, hl4, hk4⟩, dfr _ _ hp.1⟩⟩
    | panic ch => exact hp.elim
    | outgrown => exact hp.elim
  · rintro e W2 ⟨⟨v, rfl⟩, (⟨xs, hS, hi, hl, hk⟩ | ⟨pre, hSp, c, hi, hl, hk⟩)⟩
    · have he := run_endLoop (P := P) hl (by rw [hL]; simp)
      rw [hL] at he
      exact ⟨none, _, he, hdone _ xs _ (Nat.le_refl _) hS (hI.putObj _ hi (by omega) hl rfl) ((World.putObj_heap_other (by omega)).trans hk)⟩
    · have he := run_endLoop (P := P) hl (by rw [hL]; simp)
      rw [hL] at he
      exact ⟨some c, _, he, hstop _ c pre _ (Nat.le_refl _) hSp ((hIx c).putObj _ hi (by omega) hl rfl) ((World.putObj_heap_other (by omega)).trans hk)⟩
theorem wpIn_rangeFuncNA {n : Nat} {P : Program} {α : Type} {g : Operand} {ps : Array Tmp} {assign body : Code} {Q : Exit → Act → World → Prop} {a : Act} {w : World}
    {gf : Nat} {lb : Array Value} (hg : a.eval g = .func (.func gf) #[] lb) (eg : ∀ args w, (callFunc gf args).run P w = .ok (.enter gf args) w)
    {encs : α → Array Value} {Fact : α → World → Prop} {Kp : World → World → Prop} {S Sp : List α → Prop} {N : Nat} {w0 : World} (hseq : SeqN (n - 1) P gf lb encs Fact Kp S Sp N w0)
    (hF : ∀ (x : α) (W : World) (l : Nat) (o o' : Obj), W.heap[l]? = some o → o.isCells = false → Fact x W → Fact x (W.putObj l o'))
    (hKt : ∀ {A B C : World}, Kp A B → Kp B C → Kp A C) (hKb : ∀ (W : World) (l : Nat) (r : Loop) (o' : Obj), w.heap.size ≤ l → W.heap[l]? = some (.loop r) → Kp W (W.putObj l o')) (hb0 : Below w0.heap.size w0 w) (hps : ∀ x, (encs x).size = ps.size)
    (I : List α → World → Prop) (Ix : Code → List α → World → Prop) (hI : OwnFrom w.heap.size I) (hIx : ∀ c, OwnFrom w.heap.size (Ix c)) (h0 : I [] w) (A1 : Act → α → Act)
    (hassign : ∀ (l : Nat) (x : α) (W : World) (K : Act → World → Prop), K (A1 a x) W →
      assign.wpIn (Fence.wide.inRound l) (n - 1 - 1) P (Exit.then K (fun _ _ _ => False)) { tmps := (ps.zip (encs x)).foldl (fun t (p, v) => t.setIfInBounds p v) a.tmps, defers := [] } W)
    (hbody : ∀ (l : Nat) (pre : List α) (x : α) (W : World), I pre W → Fact x W → pre.length < N → Sp (pre ++ [x]) → body.wpIn (Fence.wide.inRound l) (n - 1 - 1) P (ownPostG w.heap.size Kp I Ix (pre ++ [x]) W) (A1 a x) W)
    (hdone : ∀ (D : Nat) (xs : List α) (W : World), w.heap.size ≤ D → S xs → I xs W → W.heap[D]? = some (.deferred (some [])) → Q .normal { a with defers := { target := .collected D, args := #[] } :: a.defers } W)
    (hstop : ∀ (D : Nat) (c : Code) (pre : List α) (W : World), w.heap.size ≤ D → Sp pre → Ix c pre W → W.heap[D]? = some (.deferred (some [])) → c.wpIn Fence.wide n P Q { a with defers := { target := .collected D, args := #[] } :: a.defers } W) :
    (Code.rangeFunc g ps assign body).wpIn Fence.wide n P Q a w :=
  wpIn_rangeFuncN hg eg hseq hF hKt hKb hb0 hps I Ix hI hIx h0 (A1 a) hassign hbody hdone hstop
theorem own_ext {β : Type} {B : Nat} {J : β → World → Prop} (hJ : OwnFrom B J) {s : β} {w w' : World} (h : J s w) (hb : Below w.heap.size w w') : J s w' :=
  hJ s w w' none h ⟨hb.os, hb.tape, hb.output, hb.size, fun k hk _ => hb.block k hk⟩ (fun r e => by cases e)
/-- The marks of loops over functions that ended, when the function is left. -/
def mark (D : Nat) : Deferred := { target := .collected D, args := #[] }
theorem leaves_marks {F : Fence} {fn : Func} {tmps : Array Value} {R : Ending → World → Prop} (Z : World → Prop) (B : Nat) : ∀ (Ds : List Nat) (w : World), Ds.Nodup → (∀ D ∈ Ds, B ≤ D ∧ w.heap[D]? = some (.deferred (some []))) →
    (∀ W D, B ≤ D → W.heap[D]? = some (.deferred (some [])) → Z W → Z (W.putObj D (.deferred none))) → Z w → (∀ W, Z W → LeavesIn F n P fn tmps R [] .returning W) → LeavesInM F n P fn tmps R (Ds.map mark) .returning w
  | [], w, _, _, _, h0, he => he w h0
  | D :: Ds, w, hn, hd, hz, h0, he => by
    have hD := hd D (by simp)
    refine ⟨by simp, .inl ⟨D, _, rfl, run_takeDeferred hD.2, ?_⟩⟩
    rw [List.nodup_cons] at hn
    refine leaves_marks Z B Ds _ hn.2 (fun E hE => ⟨(hd E (by simp [hE])).1, ?_⟩) hz (hz w D hD.1 hD.2 h0) he
    have hne : E ≠ D := fun e => hn.1 (e ▸ hE)
    exact (World.putObj_heap_other hne).trans (hd E (by simp [hE])).2
end Go.Proofs.YtdedphhohiioiaaDoor
/- Trees of joined digests, plain: level by level, and by halves. -/
namespace Go.Proofs.YtdedphhohiioiaaDoor

section
variable {α : Type} (J : α → α → α) (d : α)
/-- The level above. -/
def up : List α → List α
  | a :: b :: r => J a b :: up r
  | _ => []
/-- The k-th level. -/
def lev (l : List α) : Nat → List α
  | 0 => l
  | k + 1 => up J (lev l k)
/-- The one beside. -/
def fl (q : Nat) : Nat := if q % 2 = 0 then q + 1 else q - 1
/-- A way up of k digests. -/
def wayP (l : List α) (i k : Nat) : List α := (List.range k).map (fun j => (lev J l j).getD (fl (i / 2 ^ j)) d)
/-- The root of 2^k digests by halves. -/
def rootH : Nat → List α → α
  | 0, l => l.getD 0 d
  | k + 1, l => J (rootH k (l.take (2 ^ k))) (rootH k (l.drop (2 ^ k)))
/-- A way up by halves. -/
def wayH : Nat → List α → Nat → List α
  | 0, _, _ => []
  | k + 1, l, i => if i < 2 ^ k then wayH k (l.take (2 ^ k)) i ++ [rootH J d k (l.drop (2 ^ k))] else wayH k (l.drop (2 ^ k)) (i - 2 ^ k) ++ [rootH J d k (l.take (2 ^ k))]
/-- What a leaf comes to. -/
def climbP (x : α) (n : Nat) (ds : List α) : Nat → α
  | 0 => x
  | i + 1 => if (n / 2 ^ i) % 2 = 1 then J (ds.getD i d) (climbP x n ds i) else J (climbP x n ds i) (ds.getD i d)

theorem up_len : ∀ (l : List α) (m : Nat), l.length = 2 * m → (up J l).length = m
  | [], m, h => by
    simp only [List.length_nil] at h
    obtain rfl : m = 0 := by omega
    rfl
  | [a], m, h => by simp at h; omega
  | a :: b :: r, m, h => by
    simp only [List.length_cons] at h
    obtain ⟨m', rfl⟩ : ∃ m', m = m' + 1 := ⟨m - 1, by omega⟩
    have ih := up_len r m' (by omega)
    simp [up, ih]
theorem up_at : ∀ (l : List α) (k : Nat), 2 * k + 1 < l.length → (up J l).getD k d = J (l.getD (2 * k) d) (l.getD (2 * k + 1) d)
  | [], k, h => by simp at h
  | [a], k, h => by simp at h
  | a :: b :: r, 0, _ => by simp [up]
  | a :: b :: r, k + 1, h => by
    simp only [List.length_cons] at h
    have ih := up_at r k (by omega)
    rw [show 2 * (k + 1) = 2 * k + 2 by omega, show 2 * k + 2 + 1 = 2 * k + 1 + 2 by omega]
    simpa [up] using ih
theorem up_app : ∀ (l : List α) (r : List α) (m : Nat), l.length = 2 * m → up J (l ++ r) = up J l ++ up J r
  | [], r, m, _ => by simp [up]
  | [a], r, m, h => by simp at h; omega
  | a :: b :: l, r, m, h => by
    simp only [List.length_cons] at h
    have ih := up_app l r (m - 1) (by omega)
    simp [up, ih]
theorem lev_len (l : List α) (k : Nat) (h : l.length = 2 ^ k) : ∀ j, j ≤ k → (lev J l j).length = 2 ^ (k - j)
  | 0, _ => by simpa [lev] using h
  | j + 1, hj => by
    have ih := lev_len l k h j (by omega)
    refine up_len J _ _ (ih.trans ?_)
    rw [show k - j = k - (j + 1) + 1 by omega, Nat.pow_succ]
    omega
theorem lev_app (l r : List α) (k : Nat) (h : l.length = 2 ^ k) : ∀ j, j ≤ k → lev J (l ++ r) j = lev J l j ++ lev J r j
  | 0, _ => rfl
  | j + 1, hj => by
    have ih := lev_app l r k h j (by omega)
    have hl := lev_len J l k h j (by omega)
    show up J (lev J (l ++ r) j) = _
    rw [ih]
    refine up_app J _ _ (2 ^ (k - (j + 1))) (hl.trans ?_)
    rw [show k - j = k - (j + 1) + 1 by omega, Nat.pow_succ]
    omega
/-- The top level is the root by halves. -/
theorem lev_root : ∀ (k : Nat) (l : List α), l.length = 2 ^ k → lev J l k = [rootH J d k l]
  | 0, l, h => by
    match l, h with
    | [a], _ => rfl
  | k + 1, l, h => by
    have hp : 2 ^ (k + 1) = 2 ^ k + 2 ^ k := by rw [Nat.pow_succ]; omega
    have h1 : (l.take (2 ^ k)).length = 2 ^ k := by rw [List.length_take]; omega
    have h2 : (l.drop (2 ^ k)).length = 2 ^ k := by rw [List.length_drop]; omega
    have e := lev_app J (l.take (2 ^ k)) (l.drop (2 ^ k)) k h1 k (Nat.le_refl _)
    rw [List.take_append_drop, lev_root k _ h1, lev_root k _ h2] at e
    show up J (lev J l k) = _
    rw [e]
    rfl
theorem fl_lt {q m : Nat} (h : q < 2 * m) : fl q < 2 * m := by
  unfold fl
  split <;> omega
theorem fl_add (m q : Nat) : fl (2 * m + q) = 2 * m + fl q := by
  unfold fl
  have e : (2 * m + q) % 2 = q % 2 := by omega
  rw [e]
  split <;> omega
theorem pow_two (a : Nat) (h : 1 ≤ a) : 2 ^ a = 2 * 2 ^ (a - 1) := by
  obtain ⟨b, rfl⟩ : ∃ b, a = b + 1 := ⟨a - 1, by omega⟩
  rw [Nat.pow_succ, Nat.add_sub_cancel]; omega
theorem div_lt (i k j : Nat) (h : i < 2 ^ k) (hj : j ≤ k) : i / 2 ^ j < 2 ^ (k - j) := by
  rw [Nat.div_lt_iff_lt_mul (Nat.two_pow_pos j), ← Nat.pow_add, show k - j + j = k by omega]
  exact h
/-- A way up, level by level, is the one by halves. -/
theorem way_halves : ∀ (k : Nat) (l : List α) (i : Nat), l.length = 2 ^ k → i < 2 ^ k → wayP J d l i k = wayH J d k l i
  | 0, _, _, _, _ => rfl
  | k + 1, l, i, h, hi => by
    have hp : 2 ^ (k + 1) = 2 ^ k + 2 ^ k := by rw [Nat.pow_succ]; omega
    have h1 : (l.take (2 ^ k)).length = 2 ^ k := by rw [List.length_take]; omega
    have h2 : (l.drop (2 ^ k)).length = 2 ^ k := by rw [List.length_drop]; omega
    have hlev : ∀ j, j ≤ k → lev J l j = lev J (l.take (2 ^ k)) j ++ lev J (l.drop (2 ^ k)) j := fun j hj => by
      have e := lev_app J (l.take (2 ^ k)) (l.drop (2 ^ k)) k h1 j hj
      rwa [List.take_append_drop] at e
    have htop : lev J l k = [rootH J d k (l.take (2 ^ k)), rootH J d k (l.drop (2 ^ k))] := by
      rw [hlev k (Nat.le_refl _), lev_root J d k _ h1, lev_root J d k _ h2]; rfl
    have hsplit : wayP J d l i (k + 1) = (List.range k).map (fun j => (lev J l j).getD (fl (i / 2 ^ j)) d) ++ [(lev J l k).getD (fl (i / 2 ^ k)) d] := by
      unfold wayP
      rw [List.range_succ, List.map_append]
      rfl
    rw [hsplit]
    show _ = if i < 2 ^ k then _ else _
    by_cases hlt : i < 2 ^ k
    · rw [if_pos hlt, ← way_halves k _ i h1 hlt, htop, Nat.div_eq_of_lt hlt]
      congr 1
      unfold wayP
      refine List.map_congr_left fun j hj => ?_
      have hjk : j < k := List.mem_range.1 hj
      have hl1 := lev_len J _ k h1 j (by omega)
      have hq := div_lt i k j hlt (by omega)
      rw [pow_two (k - j) (by omega)] at hl1 hq
      have hf := fl_lt hq
      rw [hlev j (by omega), List.getD_eq_getElem?_getD, List.getElem?_append_left (by omega), ← List.getD_eq_getElem?_getD]
    · have hi' : i - 2 ^ k < 2 ^ k := by omega
      rw [if_neg hlt, ← way_halves k _ (i - 2 ^ k) h2 hi', htop]
      have hdk : i / 2 ^ k = 1 := by
        rw [show i = 2 ^ k + (i - 2 ^ k) by omega, Nat.add_div_left _ (Nat.two_pow_pos k), Nat.div_eq_of_lt hi']
      rw [hdk]
      congr 1
      unfold wayP
      refine List.map_congr_left fun j hj => ?_
      have hjk : j < k := List.mem_range.1 hj
      have hl1 := lev_len J _ k h1 j (by omega)
      have hd : i / 2 ^ j = 2 ^ (k - j) + (i - 2 ^ k) / 2 ^ j := by
        have e : i = (i - 2 ^ k) + 2 ^ (k - j) * 2 ^ j := by
          rw [← Nat.pow_add, show k - j + j = k by omega]; omega
        have e2 : i / 2 ^ j = ((i - 2 ^ k) + 2 ^ (k - j) * 2 ^ j) / 2 ^ j := congrArg (· / 2 ^ j) e
        rw [e2, Nat.add_mul_div_right _ _ (Nat.two_pow_pos j)]
        omega
      rw [hd, hlev j (by omega), pow_two (k - j) (by omega), fl_add, List.getD_eq_getElem?_getD, List.getElem?_append_right (by rw [hl1, pow_two (k - j) (by omega)]; omega), hl1, pow_two (k - j) (by omega), Nat.add_sub_cancel_left, ← List.getD_eq_getElem?_getD]
/-- A leaf with its way up comes to its level's digest. -/
theorem climb_lev (k : Nat) (l : List α) (i : Nat) (h : l.length = 2 ^ k) (hi : i < 2 ^ k) : ∀ j, j ≤ k → climbP J d (l.getD i d) i (wayP J d l i k) j = (lev J l j).getD (i / 2 ^ j) d
  | 0, _ => by simp [climbP, lev]
  | j + 1, hj => by
    have ih := climb_lev k l i h hi j (by omega)
    have hlen := lev_len J l k h j (by omega)
    have hq := div_lt i k j hi (by omega)
    have hway : (wayP J d l i k).getD j d = (lev J l j).getD (fl (i / 2 ^ j)) d := by
      unfold wayP
      rw [List.getD_eq_getElem?_getD, List.getElem?_map, List.getElem?_range (by omega)]
      rfl
    have hd2 : i / 2 ^ (j + 1) = (i / 2 ^ j) / 2 := by rw [Nat.pow_succ, Nat.div_div_eq_div_mul]
    have hpw := pow_two (k - j) (by omega)
    obtain ⟨q, hqq⟩ : ∃ q, q = i / 2 ^ j := ⟨_, rfl⟩
    rw [← hqq] at hq ih hway hd2
    show (if (i / 2 ^ j) % 2 = 1 then J _ _ else J _ _) = _
    rw [← hqq, ih, hway, hd2]
    have hup : (lev J l (j + 1)).getD (q / 2) d = J ((lev J l j).getD (2 * (q / 2)) d) ((lev J l j).getD (2 * (q / 2) + 1) d) := up_at J d _ _ (by omega)
    rw [hup]
    by_cases ho : q % 2 = 1
    · rw [if_pos ho]
      have e1 : fl q = 2 * (q / 2) := by unfold fl; rw [if_neg (by omega)]; omega
      have e2 : q = 2 * (q / 2) + 1 := by omega
      rw [e1, ← e2]
    · rw [if_neg ho]
      have e1 : fl q = 2 * (q / 2) + 1 := by unfold fl; rw [if_pos (by omega)]; omega
      have e2 : q = 2 * (q / 2) := by omega
      rw [e1, ← e2]
theorem climb_root (k : Nat) (l : List α) (i : Nat) (h : l.length = 2 ^ k) (hi : i < 2 ^ k) : climbP J d (l.getD i d) i (wayP J d l i k) k = rootH J d k l := by
  rw [climb_lev J d k l i h hi k (Nat.le_refl _), lev_root J d k l h, Nat.div_eq_of_lt hi]
  rfl
end
end Go.Proofs.YtdedphhohiioiaaDoor
