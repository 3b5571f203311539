/- Lemmas that laws of this seat rest on, part 23; each says its own conditions: Spoilt. -/
import Derived.Test.YtdedphhohiioiaaDoorBase21
/- What KeysSpoilt needs: a struct of six, copies of digests in a region, a byte that is changed. -/
namespace Go.Proofs.YtdedphhohiioiaaDoor
open Go.RowKit Go.Shelf

theorem bits_xor_u8_nat (a b : Nat) (ha : a < 256) (hb : b < 256) : bits .xor .u8 (a : Int) (b : Int) = ((a ^^^ b : Nat) : Int) := by
  have hx : a ^^^ b < 2 ^ 8 := Nat.xor_lt_two_pow (by omega) (by omega)
  have h1 : (BitVec.ofInt 8 (a : Int)).toNat = a := by
    rw [BitVec.ofInt_natCast, BitVec.toNat_ofNat]; exact Nat.mod_eq_of_lt (by omega)
  have h2 : (BitVec.ofInt 8 (b : Int)).toNat = b := by
    rw [BitVec.ofInt_natCast, BitVec.toNat_ofNat]; exact Nat.mod_eq_of_lt (by omega)
  show IntKind.u8.wrap ((BitVec.ofInt 8 (a : Int) ^^^ BitVec.ofInt 8 (b : Int)).toNat : Int) = _
  rw [BitVec.toNat_xor, h1, h2]
  simp only [IntKind.wrap, IntKind.bits, IntKind.signed]
  simp
  omega
theorem xor_same (a b : Int) (ha : 0 ≤ a ∧ a ≤ 255) (hb : 0 ≤ b ∧ b ≤ 255) : (0 ≤ bits .xor .u8 a b ∧ bits .xor .u8 a b ≤ 255) ∧ (bits .xor .u8 a b = a ↔ b = 0) := by
  obtain ⟨n, rfl⟩ : ∃ n : Nat, a = n := ⟨a.toNat, by omega⟩
  obtain ⟨k, rfl⟩ : ∃ k : Nat, b = k := ⟨b.toNat, by omega⟩
  rw [bits_xor_u8_nat n k (by omega) (by omega)]
  have hx : n ^^^ k < 2 ^ 8 := Nat.xor_lt_two_pow (by omega) (by omega)
  refine ⟨⟨by omega, by omega⟩, ?_⟩
  constructor
  · intro h
    have h1 : n ^^^ k = n := by omega
    have h2 : n ^^^ (n ^^^ k) = n ^^^ n := by rw [h1]
    rw [← Nat.xor_assoc, Nat.xor_self, Nat.zero_xor] at h2
    omega
  · intro h
    have : k = 0 := by omega
    subst this
    simp

/-- The cells of what KeysSpoilt is handed. -/
def spC (x m : List Int) (lf at_ z : Int) (way : Bool) : List Value := u8s x ++ u8s m ++ [.int .i64 lf, .int .i64 at_, .int .u8 z, .bool way]
theorem sp_seed {w : World} {q : Nat} {x m : List Int} {lf at_ z : Int} {way : Bool} (h : w.heap[q]? = some (.cells (spC x m lf at_ z way).toArray 99 (0, 0))) : w.rangeAt q 0 (u8s x) := fun j u hj => by
  rw [cell_of_row _ _ _ _ _ _ h]
  have hjl := (List.getElem?_eq_some_iff.1 hj).1
  simp only [spC, List.getElem?_toArray, Nat.zero_add]
  rw [List.append_assoc, List.getElem?_append_left hjl]
  exact hj
theorem sp_dig {w : World} {q : Nat} {x m : List Int} {lf at_ z : Int} {way : Bool} (hx : x.length = 16) (h : w.heap[q]? = some (.cells (spC x m lf at_ z way).toArray 99 (0, 0))) : w.rangeAt q 16 (u8s m) := fun j u hj => by
  rw [cell_of_row _ _ _ _ _ _ h]
  have hjl := (List.getElem?_eq_some_iff.1 hj).1
  simp only [spC, List.getElem?_toArray]
  rw [List.append_assoc, List.getElem?_append_right (by rw [u8s_len', hx]; omega), u8s_len', hx, show 16 + j - 16 = j by omega, List.getElem?_append_left hjl]
  exact hj
theorem sp_cell {w : World} {q : Nat} {x m : List Int} {lf at_ z : Int} {way : Bool} (hx : x.length = 16) (hm : m.length = 16) (h : w.heap[q]? = some (.cells (spC x m lf at_ z way).toArray 99 (0, 0))) :
    w.cell? ⟨q, 32, none⟩ = some (.int .i64 lf) ∧ w.cell? ⟨q, 33, none⟩ = some (.int .i64 at_) ∧ w.cell? ⟨q, 34, none⟩ = some (.int .u8 z) ∧ w.cell? ⟨q, 35, none⟩ = some (.bool way) := by
  have hl : (u8s x ++ u8s m).length = 32 := by simp [u8s_len', hx, hm]
  refine ⟨?_, ?_, ?_, ?_⟩ <;>
  · rw [cell_of_row _ _ _ _ _ _ h]
    simp only [spC, List.getElem?_toArray]
    rw [List.getElem?_append_right (by omega), hl]
    rfl

theorem gives_append_copy {o : Oper} {ρ : Operand → Value} {w : World} {S : Value → World → Prop} (s x : Operand) (ho : o.op = .call { callee := .builtin .append, args := #[s, x], argTypes := #[55, 55] })
    (base g0 g n c : Nat) (ds : List (List Int)) (hs : ρ s = .slice (some ⟨g0, 0, none⟩) 0 0) (hx : ρ x = .slice (some ⟨g, 0, none⟩) n c) (hn0 : 0 < n) (hn : n = ds.length) (hnl : n ≤ 1000)
    (hd : Dgs w (.slice (some ⟨g, 0, none⟩) n c) ds) (hbase : base ≤ w.heap.size)
    (h : ∀ v w', v.ownBlock = some w.heap.size → w'.ownsRow base 43 16 v n (dcells ds) → Below w.heap.size w w' → S v w') : Gives Tryd.prog o ρ w S := by
  obtain ⟨i0, hi, hzz⟩ := Option.map_eq_some_iff.1 Tryd.info43
  simp only [Prod.mk.injEq] at hzz
  obtain ⟨hz0, hz1, hz2⟩ := hzz
  have hul : (dcells ds).length = n * 16 := by rw [dcells_len ds (fun d hd' => (hd.good d hd').1), hn]
  have hsrc : Src Tryd.prog i0.size 55 (.slice (some ⟨g, 0, none⟩) n c) n (dcells ds) w := by
    rw [hz1]
    exact Src.ofSlice _ Tryd.underlying55 ⟨g, 0, none⟩ n c (dcells ds) hul (add_cell' (hd.flat hn hn0)) (dcells_one ds)
  have hold : (Builtin.firstCells i0.size 0 (.slice (some ⟨g0, 0, none⟩) 0 0)).run Tryd.prog w.drew = .ok ([] : List Value).toArray w.drew :=
    run_firstCells_some (P := Tryd.prog) w.drew i0.size 0 ⟨g0, 0, none⟩ 0 0 [] (by simp) (by intro j u hu; simp at hu)
  have hr := run_append_grow_src (P := Tryd.prog) w 55 55 o.type 43 i0 _ Tryd.underlying55 hi hz0 (some ⟨g0, 0, none⟩) 0 0 [] hold (.slice (some ⟨g, 0, none⟩) n c) n (dcells ds) hsrc (by omega) (by omega) (by
    have := growslice_fits (need := 0 + n) (old := 0) (bytes := i0.bytes) (by omega) (by rw [hz2]; omega)
    exact this)
  have hge := grownCap_ge w (0 + n) 0 43
  have hcm : grownCap w (0 + n) 0 43 ≤ maxLen := grownCap_le_maxLen w (0 + n) 0 43 (by simp only [maxLen]; omega)
  refine gives_val (.slice (some ⟨w.heap.size, 0, none⟩) (0 + n) (grownCap w (0 + n) 0 43)) (w' := w.drew.alloc (.cells (([] ++ dcells ds).toArray ++ Builtin.zeroCells (Value.agg (Array.replicate 16 (.int .u8 0))).cells (grownCap w (0 + n) 0 43 - (0 + n))) 43)) ?_ (h _ _ rfl ⟨hul, .inr ⟨w.heap.size, grownCap w (0 + n) 0 43, _, by rw [Nat.zero_add], hbase, heap_alloc_new w.drew _, by omega, hcm, ?_, ?_⟩⟩ ((Below.refl w.heap.size w).drew.alloc (Nat.le_refl _) _))
  · unfold execOp
    simp only [ho, resolve, invoke, builtin, Sem.run_bind, Sem.run_pure, Result.andThen_ok, List.map_toArray, List.map_cons, List.map_nil, hs, hx, hr]
  · simp only [Array.size_append, List.size_toArray, size_zeroCells, List.nil_append, hul]
    simp [Value.cells]
    simp only [Nat.zero_add] at hge
    omega
  · rw [Array.toList_append, List.nil_append]
    rw [List.take_append_of_le_length (by simp [hul])]
    exact List.take_of_length_le (by simp [hul])

theorem first_u8 (d : List Int) (h : d.length = 16) : (u8s d)[0]? = some (.int .u8 (d.getD 0 0)) := by
  match d, h with
  | a :: _, _ => rfl
/-- A byte of a digest is changed. -/
theorem dgs_setbyte {w : World} {g n c a : Nat} {y : Int} {ds : List (List Int)} (h : Dgs w (.slice (some ⟨g, 0, none⟩) n c) ds) (hn : n = ds.length) (hy : 0 ≤ y ∧ y ≤ 255) :
    Dgs (w.setCell ⟨g, a * 16, none⟩ (.int .u8 y)) (.slice (some ⟨g, 0, none⟩) n c) (ds.set a ((ds.getD a []).set 0 y)) := by
  have hgood : ∀ d ∈ ds.set a ((ds.getD a []).set 0 y), d.length = 16 ∧ u8s_ok d := by
    intro d hd
    obtain ⟨k, hk, rfl⟩ := List.mem_iff_getElem.1 hd
    have hk' : k < ds.length := by simpa using hk
    rw [List.getElem_set]
    split
    · rename_i e
      subst e
      obtain ⟨h1, h2⟩ := h.at a hk'
      refine ⟨by rw [List.length_set]; exact h1, fun b hb => ?_⟩
      rcases List.mem_or_eq_of_mem_set hb with hb | rfl
      · exact h2 b hb
      · exact hy
    · exact h.good _ (List.getElem_mem _)
  refine ⟨⟨some ⟨g, 0, none⟩, c, by rw [List.length_set, hn]⟩, fun hne => ?_, hgood⟩
  have hne' : ds ≠ [] := by intro e; rw [e] at hne; simp at hne
  obtain ⟨b, off, c', e, h1, h2, h3, h4⟩ := h.cells hne'
  simp only [Value.slice.injEq, Option.some.injEq, Addr.mk.injEq] at e
  obtain ⟨⟨rfl, rfl, -⟩, -, rfl⟩ := e
  refine ⟨g, 0, c, by rw [List.length_set, hn], by rw [List.length_set]; exact h1, h2, by rw [World.size_setCell]; exact h3, fun i hi j u hu => ?_⟩
  rw [List.length_set] at hi
  have hl := (h.at i hi).1
  by_cases hia : i = a
  · subst hia
    have hx : (ds.set i ((ds.getD i []).set 0 y)).getD i [] = (ds.getD i []).set 0 y := by
      rw [List.getD_eq_getElem?_getD, List.getElem?_set_self hi]; rfl
    rw [hx] at hu
    have hj : j < 16 := by have := (List.getElem?_eq_some_iff.1 hu).1; rw [u8s_len', List.length_set, hl] at this; exact this
    have hold : ∃ u0, (u8s (ds.getD i []))[j]? = some u0 := ⟨_, List.getElem?_eq_getElem (by rw [u8s_len', hl]; exact hj)⟩
    obtain ⟨u0, hu0⟩ := hold
    have hc := h4 i hi j u0 hu0
    by_cases hj0 : j = 0
    · subst hj0
      simp only [u8s, List.getElem?_map] at hu
      rw [List.getElem?_set_self (by omega)] at hu
      simp only [Option.map_some, Option.some.injEq] at hu
      subst hu
      rw [show 0 + i * 16 + 0 = i * 16 by omega] at hc ⊢
      exact World.cell?_setCell_same' w _ _ (by rw [hc]; rfl)
    · rw [World.cell?_setCell_other w _ _ _ (show (⟨g, i * 16, none⟩ : Addr) ≠ ⟨g, 0 + i * 16 + j, none⟩ from fun e => by simp only [Addr.mk.injEq, true_and, and_true] at e; omega)]
      refine h4 i hi j u ?_
      simp only [u8s, List.getElem?_map] at hu ⊢
      rwa [List.getElem?_set_ne (by omega)] at hu
  · have hx : (ds.set a ((ds.getD a []).set 0 y)).getD i [] = ds.getD i [] := by
      rw [List.getD_eq_getElem?_getD, List.getElem?_set_ne (by omega), ← List.getD_eq_getElem?_getD]
    rw [hx] at hu
    have hj : j < 16 := by have := (List.getElem?_eq_some_iff.1 hu).1; rw [u8s_len', hl] at this; exact this
    rw [World.cell?_setCell_other w _ _ _ (show (⟨g, a * 16, none⟩ : Addr) ≠ ⟨g, 0 + i * 16 + j, none⟩ from fun e => by simp only [Addr.mk.injEq, true_and, and_true] at e; omega)]
    exact h4 i hi j u hu
/-- Slices that begin their blocks, of which one is written. -/
theorem dgs_two {w : World} {g h n c k d a : Nat} {b0 z : Int} {ds ps : List (List Int)} (hg : Dgs w (.slice (some ⟨g, 0, none⟩) n c) ds) (hn : n = ds.length) (hh : Dgs w (.slice (some ⟨h, 0, none⟩) k d) ps) (hk : k = ps.length) (ha : a < k)
    (hb0 : b0 = (ps.getD a []).getD 0 0) (hz : 0 ≤ z ∧ z ≤ 255) :
    ∃ ds' ps', Dgs (w.setCell ⟨h, a * 16, none⟩ (.int .u8 (bits .xor .u8 b0 z))) (.slice (some ⟨g, 0, none⟩) n c) ds' ∧ Dgs (w.setCell ⟨h, a * 16, none⟩ (.int .u8 (bits .xor .u8 b0 z))) (.slice (some ⟨h, 0, none⟩) k d) ps' ∧
      ds'.length = ds.length ∧ ps'.length = ps.length ∧ ((ds' = ds ∧ ps' = ps) ↔ z = 0) ∧ ((ps' = ps) ↔ z = 0) := by
  obtain ⟨hl, hok⟩ := hh.at a (by omega)
  have hb : 0 ≤ b0 ∧ b0 ≤ 255 := by
    rw [hb0, List.getD_eq_getElem?_getD, List.getElem?_eq_getElem (by omega)]
    exact hok _ (List.getElem_mem _)
  obtain ⟨hy, hxe⟩ := xor_same b0 z hb hz
  have hcell : w.cell? ⟨h, a * 16, none⟩ = some (.int .u8 b0) := by
    obtain ⟨b, off, c', e, _, _, _, h4⟩ := hh.cells (by intro e; rw [e] at hk; simp at hk; omega)
    simp only [Value.slice.injEq, Option.some.injEq, Addr.mk.injEq] at e
    obtain ⟨⟨rfl, rfl, -⟩, -, -⟩ := e
    have := h4 a (by omega) 0 (.int .u8 b0) (by rw [hb0]; exact first_u8 _ hl)
    rwa [show 0 + a * 16 + 0 = a * 16 by omega] at this
  have hsame : ∀ e : List Int, e.length = 16 → e.getD 0 0 = b0 → (e.set 0 (bits .xor .u8 b0 z) = e ↔ z = 0) := by
    intro e he h0
    rw [← hxe]
    constructor
    · intro hs
      have := congrArg (fun q : List Int => q.getD 0 0) hs
      simp only [List.getD_eq_getElem?_getD] at this h0
      rw [List.getElem?_set_self (by omega)] at this
      rw [h0] at this
      exact this
    · intro hs
      rw [hs]
      apply List.ext_getElem?
      intro j
      by_cases hj : j = 0
      · subst hj
        rw [List.getElem?_set_self (by omega), List.getElem?_eq_getElem (by omega)]
        rw [List.getD_eq_getElem?_getD, List.getElem?_eq_getElem (by omega)] at h0
        rw [← h0]; rfl
      · rw [List.getElem?_set_ne (by omega)]
  have hset : ∀ (q : List (List Int)), (∀ hq : a < q.length, (q.getD a []).length = 16 ∧ (q.getD a []).getD 0 0 = b0) → z = 0 → q.set a ((q.getD a []).set 0 (bits .xor .u8 b0 z)) = q := by
    intro q hq hz0
    by_cases haq : a < q.length
    · obtain ⟨q1, q2⟩ := hq haq
      rw [(hsame _ q1 q2).2 hz0]
      apply List.ext_getElem?
      intro j
      by_cases hj : j = a
      · subst hj
        rw [List.getElem?_set_self haq, List.getD_eq_getElem?_getD, List.getElem?_eq_getElem haq]; rfl
      · rw [List.getElem?_set_ne (by omega)]
    · rw [List.set_eq_of_length_le (by omega)]
  have hps : (ps.set a ((ps.getD a []).set 0 (bits .xor .u8 b0 z)) = ps ↔ z = 0) := by
    constructor
    · intro hs
      have := congrArg (fun q : List (List Int) => q.getD a []) hs
      simp only [List.getD_eq_getElem?_getD] at this
      rw [List.getElem?_set_self (by omega)] at this
      simp only [Option.getD_some] at this
      rw [← List.getD_eq_getElem?_getD] at this
      exact (hsame _ hl hb0.symm).1 this
    · exact hset ps (fun _ => ⟨hl, hb0.symm⟩)
  by_cases hgh : g = h
  · subst hgh
    refine ⟨_, _, dgs_setbyte hg hn hy, dgs_setbyte hh hk hy, List.length_set .., List.length_set .., ⟨fun e => hps.1 e.2, fun e => ⟨hset ds (fun hq => ?_) e, hps.2 e⟩⟩, hps⟩
    obtain ⟨q1, _⟩ := hg.at a hq
    refine ⟨q1, ?_⟩
    obtain ⟨b, off, c', e, _, _, _, h4⟩ := hg.cells (by intro e; rw [e] at hq; simp at hq)
    simp only [Value.slice.injEq, Option.some.injEq, Addr.mk.injEq] at e
    obtain ⟨⟨rfl, rfl, -⟩, -, -⟩ := e
    have := h4 a hq 0 (.int .u8 ((ds.getD a []).getD 0 0)) (first_u8 _ q1)
    rw [show 0 + a * 16 + 0 = a * 16 by omega, hcell] at this
    simp only [Option.some.injEq, Value.int.injEq, true_and] at this
    exact this.symm
  · refine ⟨ds, _, hg.same fun q hq => ?_, dgs_setbyte hh hk hy, rfl, List.length_set .., ⟨fun e => hps.1 e.2, fun e => ⟨rfl, hps.2 e⟩⟩, hps⟩
    simp only [Value.ownBlock, Option.some.injEq] at hq
    subst hq
    exact heap_setCell_other w ⟨h, a * 16, none⟩ g _ hgh
end Go.Proofs.YtdedphhohiioiaaDoor
