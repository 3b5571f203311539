/- Lemmas that laws of this seat rest on, part 19; each says its own conditions: AppS, SgO, App0, Who, ProofsFewerW, KitA. -/
import Derived.Maps.AppendAt
import Derived.Deep.Upon
import Derived.Deep.DeepAppendWide
import Derived.Lib.SmallJoins
import Derived.Test.YtniknhhejlgdfaaDoorBase7
import Derived.Test.YtniknhhejlgdfaaDoorBase8
import Derived.Test.YtniknhhejlgdfaaDoorBase17
import Derived.Test.YtniknhhejlgdfaaDoorBase18
/- append of signatures to an own row, in a region that draws its order. -/
namespace Go.Proofs.YtniknhhejlgdfaaDoor
open Go.RowKit

def scells (xs : List (List Value)) : List Value := xs.flatten
theorem Tryd.info68m : ∃ z, (Tryd.prog.info? 68).map (fun i => (i.zero, i.size, i.bytes)) = some (some z, 4, 64) ∧ z.cells.size = 4 := ⟨.agg #[.int .i64 0, .int .i64 0, .slice none 0 0, .slice none 0 0], by kernel_rfl, by kernel_rfl⟩
theorem gives_appS {o : Oper} {ρ : Operand → Value} {w : World} {S : Value → World → Prop} (s x : Operand) (ho : o.op = .call { callee := .builtin .append, args := #[s, x], argTypes := #[35, 35] })
    (base : Nat) (v : Value) (n : Nat) (ys : List Value) (hs : ρ s = v) (hown : w.ownsRow base 68 4 v n ys) (ad : Addr) (m c : Nat) (news : List Value) (hx : ρ x = .slice (some ad) m c) (hl : news.length = m * 4)
    (hnews : ∀ j u, news[j]? = some u → w.cell? (ad.add j) = some u) (h1 : ∀ u ∈ news, u.oneCell' = true) (h63 : n + m ≤ 1000) (hbase : base ≤ w.heap.size)
    (h : ∀ v' w', w'.ownsRow base 68 4 v' (n + m) (ys ++ news) → w.grownBy w' v.ownBlock → (v'.ownBlock = v.ownBlock ∨ v'.ownBlock = some w.heap.size) → S v' w') : Gives Tryd.prog o ρ w S := by
  obtain ⟨z, hz, hzs⟩ := Tryd.info68m
  obtain ⟨i, i1, i2, i3, i4⟩ := info_of hz
  obtain ⟨v', w', hr, h2, h3, _, h5⟩ := run_append_own_at (P := Tryd.prog) w base 35 o.type 68 i z 4 64 Tryd.underlying35 i1 i2 i3 i4 hzs (by omega) v n ys hown ad m c news hl hnews h1 (by simp only [maxLen]; omega) (by omega) hbase
  refine gives_val v' (w' := w') ?_ (h v' w' h2 h3 h5)
  unfold execOp
  simp only [ho, resolve, invoke, builtin, Sem.run_bind, Sem.run_pure, Result.andThen_ok, List.map_toArray, List.map_cons, List.map_nil, hs, hx, hr]
theorem slice35_lo (b off k c j : Nat) (hj : j < k) (hkc : k ≤ c) (W : World) : (Instr.sliceAt 35 (.slice (some ⟨b, off, none⟩) k c) none (some (.int .i64 j)) none).run Tryd.prog W = .ok (.slice (some ⟨b, off, none⟩) j c) W := by
  have h1 : (j : Int) ≤ c := by omega
  have h2 : (j : Int) ≤ k := by omega
  go_simp
theorem slice35_hi (b off k c j : Nat) (hj : j < k) (hkc : k ≤ c) : ∃ ad : Addr, (ad = ⟨b, off + (j + 1) * 4, none⟩ ∨ k = j + 1) ∧ ∀ W : World, (Instr.sliceAt 35 (.slice (some ⟨b, off, none⟩) k c) (some (.int .i64 ((j : Int) + 1))) none none).run Tryd.prog W = .ok (.slice (some ad) (k - (j + 1)) (c - (j + 1))) W := by
  have h1 : (j : Int) + 1 ≤ c := by omega
  have h2 : (j : Int) + 1 ≤ k := by omega
  have h0 : (0 : Int) ≤ (j : Int) + 1 := by omega
  by_cases hc : c = j + 1
  · refine ⟨⟨b, off, none⟩, .inr (by omega), fun W => ?_⟩
    go_simp
  · refine ⟨⟨b, off + (j + 1) * 4, none⟩, .inl rfl, fun W => ?_⟩
    go_simp
end Go.Proofs.YtniknhhejlgdfaaDoor
/- A row of signatures that is one's own. -/
namespace Go.Proofs.YtniknhhejlgdfaaDoor
open Go.RowKit

def sdcells (cls : List Cl) : List Value := cls.flatMap Cl.sd
theorem sdcells_len (cls : List Cl) : (sdcells cls).length = cls.length * 4 := by
  induction cls with
  | nil => rfl
  | cons a cls ih =>
    rw [show sdcells (a :: cls) = a.sd ++ sdcells cls by simp [sdcells], List.length_append, ih, List.length_cons]
    simp only [Cl.sd, List.length_cons, List.length_nil]
    omega
theorem sdcells_app (xs ys : List Cl) : sdcells (xs ++ ys) = sdcells xs ++ sdcells ys := by simp [sdcells]
theorem sdcells_at (cls : List Cl) (i j : Nat) (hi : i < cls.length) (hj : j < 4) : (sdcells cls)[i * 4 + j]? = (cls[i]).sd[j]? := by
  induction cls generalizing i with
  | nil => simp at hi
  | cons a cls ih =>
    rw [show sdcells (a :: cls) = a.sd ++ sdcells cls by simp [sdcells]]
    have hl : a.sd.length = 4 := rfl
    cases i with
    | zero => rw [Nat.zero_mul, Nat.zero_add, List.getElem?_append_left (by omega)]; rfl
    | succ i =>
      rw [List.getElem?_append_right (by omega), hl, show (i + 1) * 4 + j - 4 = i * 4 + j by omega, ih i (by simpa using hi)]
      rfl
theorem one_sdcells (cls : List Cl) : ∀ u ∈ sdcells cls, u.oneCell' = true := by
  intro u hu
  simp only [sdcells, List.mem_flatMap] at hu
  obtain ⟨a, _, ha⟩ := hu
  exact one_clsd a u ha
theorem Sgs.of_own {w : World} {base : Nat} {v : Value} {n : Nat} {cls : List Cl} (h : w.ownsRow base 68 4 v n (sdcells cls)) (hn : n = cls.length) (hat : ∀ a ∈ cls, ClAt w a) : Sgs w v (cls.map Cl.x) := by
  have hcells := @World.ownsRow.cells w base 68 4 v n (sdcells cls) h
  obtain ⟨_, h2⟩ := h
  rcases h2 with ⟨rfl, rfl⟩ | ⟨g, cap, cur, rfl, e1, e2, e3, e4, _, _⟩
  · cases cls with
    | nil => exact ⟨⟨_, _, rfl⟩, fun h => absurd rfl h⟩
    | cons => simp at hn
  · subst hn
    refine ⟨⟨some ⟨g, 0, none⟩, cap, by rw [List.length_map]⟩, fun _ => ⟨g, 0, cap, by rw [List.length_map], by rw [List.length_map]; exact e3, e4, blk_lt e2, fun i hi => ?_⟩⟩
    have hi' : i < cls.length := by simpa using hi
    refine ⟨(cls[i]).sd, fun j u hu => ?_, ?_⟩
    · have hj : j < 4 := (List.getElem?_eq_some_iff.1 hu).1
      have := hcells rfl (i * 4 + j) u (by rw [sdcells_at cls i j hi' hj]; exact hu)
      rw [show (⟨g, 0, none⟩ : Addr).add (i * 4 + j) = ⟨g, 0 + i * 4 + j, none⟩ by unfold Addr.add; split <;> simp_all] at this
      exact this
    · have hc := hat _ (List.getElem_mem hi')
      rw [List.getD_eq_getElem?_getD, List.getElem?_map, List.getElem?_eq_getElem hi']
      exact ⟨_, _, _, _, rfl, hc.1, hc.2⟩
/-- The claims of a slice of signatures. -/
theorem Sgs.cls {w : World} {A : Option Addr} {n c : Nat} {xs : List Sd} (h : Sgs w (.slice A n c) xs) (hn : 0 < n) :
    ∃ b off, ∃ cls : List Cl, A = some ⟨b, off, none⟩ ∧ cls.map Cl.x = xs ∧ (∀ a ∈ cls, ClAt w a) ∧ w.rangeAt b off (sdcells cls) ∧ n ≤ c := by
  have hl := h.len
  obtain ⟨b, off, c', e, h1, _, _, h4⟩ := h.cells (by rintro rfl; simp at hl; omega)
  simp only [Value.slice.injEq] at e
  obtain ⟨rfl, e1, rfl⟩ := e
  have each : ∀ i, ∃ a : Cl, i < n → ClAt w a ∧ a.x = xs.getD i Sd.none ∧ w.rangeAt b (off + i * 4) a.sd := by
    intro i
    by_cases hi : i < n
    · obtain ⟨cs, hr, hs⟩ := h4 i (by omega)
      obtain ⟨A', c2, B', d', e2, g1, g2⟩ := hs.ex
      rw [e2] at hr
      exact ⟨⟨xs.getD i Sd.none, A', c2, B', d'⟩, fun _ => ⟨⟨g1, g2⟩, rfl, hr⟩⟩
    · exact ⟨⟨Sd.none, none, 0, none, 0⟩, fun h => absurd h hi⟩
  obtain ⟨f, hf⟩ := Classical.axiomOfChoice each
  refine ⟨b, off, (List.range n).map f, rfl, ?_, ?_, ?_, by omega⟩
  · rw [List.map_map]
    apply List.ext_getElem?
    intro i
    rw [List.getElem?_map]
    by_cases hi : i < n
    · rw [List.getElem?_range hi, Option.map_some, List.getElem?_eq_getElem (by omega)]
      have := (hf i hi).2.1
      rw [List.getD_eq_getElem?_getD, List.getElem?_eq_getElem (by omega)] at this
      exact congrArg some this
    · rw [List.getElem?_eq_none (by simpa using hi), List.getElem?_eq_none (by omega)]
      rfl
  · intro a ha
    rw [List.mem_map] at ha
    obtain ⟨i, hi, rfl⟩ := ha
    exact (hf i (by simpa using hi)).1
  · intro q u hq
    have hq4 : q < n * 4 := by have := (List.getElem?_eq_some_iff.1 hq).1; rw [sdcells_len] at this; simpa using this
    have hi : q / 4 < n := by omega
    have hq2 := hq
    rw [show q = q / 4 * 4 + q % 4 by omega, sdcells_at _ (q / 4) (q % 4) (by simpa using hi) (by omega)] at hq2
    simp only [List.getElem_map, List.getElem_range] at hq2
    have := (hf (q / 4) hi).2.2 (q % 4) u hq2
    rwa [show off + q / 4 * 4 + q % 4 = off + q by omega] at this
end Go.Proofs.YtniknhhejlgdfaaDoor
/- append to a row of no cells leaves all that was. -/
namespace Go.Proofs.YtniknhhejlgdfaaDoor
open Go.RowKit

set_option maxRecDepth 100000 in
theorem gives_app0 {o : Oper} {ρ : Operand → Value} {w : World} {S : Value → World → Prop} (s x : Operand) (ho : o.op = .call { callee := .builtin .append, args := #[s, x], argTypes := #[35, 35] })
    (base g : Nat) (hs : ρ s = .slice (some ⟨g, 0, none⟩) 0 0) (hg : w.heap[g]? = some (.cells #[] 68 (0, 0))) (hbg : base ≤ g) (ad : Addr) (m c : Nat) (news : List Value) (hx : ρ x = .slice (some ad) m c) (hl : news.length = m * 4)
    (hnews : ∀ j u, news[j]? = some u → w.cell? (ad.add j) = some u) (h1 : ∀ u ∈ news, u.oneCell' = true) (h63 : m ≤ 1000) (hbase : base ≤ w.heap.size)
    (h : ∀ v' w', w'.ownsRow base 68 4 v' m news → Ext w w' → S v' w') : Gives Tryd.prog o ρ w S := by
  obtain ⟨z, hz, hzs⟩ := Tryd.info68m
  obtain ⟨i, i1, i2, i3, i4⟩ := info_of hz
  have hsrc : Src Tryd.prog i.size 35 (.slice (some ad) m c) m news w := by rw [i3]; exact Src.ofSlice w Tryd.underlying35 ad m c news hl hnews h1
  by_cases hm : m = 0
  · subst hm
    have hn : news = [] := List.eq_nil_of_length_eq_zero (by simpa using hl)
    subst hn
    have hr := run_append_nothing w 35 35 o.type 68 i Tryd.underlying35 i1 (some ⟨g, 0, none⟩) 0 0 (Nat.le_refl _) (.slice (some ad) 0 c) hsrc
    refine gives_val _ (w' := w) ?_ (h _ w ⟨rfl, .inr ⟨g, 0, #[], rfl, hbg, hg, Nat.le_refl _, by simp [maxLen], rfl, rfl⟩⟩ (Ext.refl _))
    unfold execOp
    simp only [ho, resolve, invoke, builtin, Sem.run_bind, Sem.run_pure, Result.andThen_ok, List.map_toArray, List.map_cons, List.map_nil, hs, hx, hr]
  · have hr := run_append_grow_src w 35 35 o.type 68 i z Tryd.underlying35 i1 i2 (some ⟨g, 0, none⟩) 0 0 [] (by simp [Builtin.firstCells, loadCells, loadCellsFrom]) (.slice (some ad) m c) m news hsrc (by omega) (by omega) (by
      rw [i4]
      exact Nat.le_trans (Nat.mul_le_mul_right _ (nextslicecap_le_wide (by omega))) (by omega))
    have hge := grownCap_ge w (0 + m) 0 68
    have hle := grownCap_le_maxLen w (0 + m) 0 68 (by simp only [maxLen]; omega)
    obtain ⟨GC, hGC⟩ : ∃ x, x = grownCap w (0 + m) 0 68 := ⟨_, rfl⟩
    rw [← hGC] at hr hge hle
    obtain ⟨OB, hOB⟩ : ∃ x, x = (([] ++ news).toArray ++ Builtin.zeroCells z.cells (GC - (0 + m))) := ⟨_, rfl⟩
    rw [← hOB] at hr
    rw [Nat.zero_add] at hr hge hOB
    have hsz : OB.size = GC * 4 := by
      rw [hOB]
      simp only [List.nil_append, Array.size_append, List.size_toArray, size_zeroCells, hzs, hl]
      rw [← Nat.add_mul]
      rw [show m + (GC - m) = GC by omega]
    have htk : OB.toList.take (m * 4) = news := by
      rw [hOB, ← hl]
      simp only [List.nil_append, Array.toList_append]
      exact List.take_left
    refine gives_val (.slice (some ⟨w.heap.size, 0, none⟩) m GC) (w' := w.drew.alloc (.cells OB 68)) ?_ (h _ _ ⟨hl, .inr ⟨w.heap.size, GC, OB, rfl, hbase, heap_alloc_new w.drew _, hge, hle, hsz, htk⟩⟩ ?_)
    · unfold execOp
      simp only [ho, resolve, invoke, builtin, Sem.run_bind, Sem.run_pure, Result.andThen_ok, List.map_toArray, List.map_cons, List.map_nil, hs, hx, hr]
    · exact ⟨rfl, rfl, rfl, by simp, fun k hk => heap_alloc_old w.drew _ hk⟩
end Go.Proofs.YtniknhhejlgdfaaDoor
/- append of one number to an own row of numbers; a row that is made empty. -/
namespace Go.Proofs.YtniknhhejlgdfaaDoor
open Go.RowKit
theorem own_ge {w : World} {base e s n : Nat} {v : Value} {xs : List Value} (h : w.ownsRow base e s v n xs) : ∀ k, v.ownBlock = some k → base ≤ k := by
  obtain ⟨_, h2⟩ := h
  rcases h2 with ⟨rfl, rfl⟩ | ⟨g, cap, cur, rfl, e1, _⟩
  · intro k hk; simp [Value.ownBlock] at hk
  · intro k hk
    simp only [Value.ownBlock, Option.some.injEq] at hk
    omega
section
variable {ops : Array Oper} {rest : List Oper} {o : Oper} {a : Act} {w : World} {Q : Exit → Act → World → Prop}
theorem wpList_appI (hgd : o.guard = none) (s x : Operand) (ho : o.op = .call { callee := .builtin .append, args := #[s, x], argTypes := #[64, 64] }) (base : Nat) (v : Value) (n : Nat) (xs : List Int) (hs : a.eval s = v) (hown : w.ownsRow base 3 1 v n (i64s xs))
    (g : Nat) (u : Int) (hx : a.eval x = .slice (some ⟨g, 0, none⟩) 1 1) (hr : w.rangeAt g 0 [.int .i64 u]) (hn : n ≤ 1000000) (hbase : base ≤ w.heap.size)
    (h : ∀ A c w1, w1.ownsRow base 3 1 (.slice A (n + 1) c) (n + 1) (i64s (xs ++ [u])) → Below base w w1 → wpList Tryd.prog ops Q rest (a.put o.dst (.slice A (n + 1) c)) w1) : wpList Tryd.prog ops Q (o :: rest) a w := by
  obtain ⟨i3, hi3, hz30, hz31, hz32⟩ := info_of Tryd.info3m
  refine wpList_append_own_at _ hgd s x 64 ho base 3 i3 (.int .i64 0) 1 8 Tryd.underlying64 hi3 hz30 hz31 hz32 rfl (by decide) v n _ hs hown ⟨g, 0, none⟩ 1 1 [.int .i64 u] hx rfl (add_cell hr) (by simp [Value.oneCell']) (by simp only [maxLen]; omega) (by omega) hbase ?_
  intro v9 w9 hown9 hgrow9 _ _
  obtain ⟨A9, c9, rfl⟩ := own_form hown9
  refine h A9 c9 w9 ?_ ((Below.refl base w).grown hgrow9 hbase (own_ge hown))
  have e : i64s (xs ++ [u]) = i64s xs ++ [.int .i64 u] := by simp [i64s]
  rw [e]
  exact hown9
theorem wpList_appS (hgd : o.guard = none) (s x : Operand) (ho : o.op = .call { callee := .builtin .append, args := #[s, x], argTypes := #[35, 35] }) (base : Nat) (v : Value) (n : Nat) (ys : List Value) (hs : a.eval s = v) (hown : w.ownsRow base 68 4 v n ys)
    (ad : Addr) (m c : Nat) (news : List Value) (hx : a.eval x = .slice (some ad) m c) (hl : news.length = m * 4)
    (hnews : ∀ j u, news[j]? = some u → w.cell? (ad.add j) = some u) (h1 : ∀ u ∈ news, u.oneCell' = true) (h63 : n + m ≤ 1000) (hbase : base ≤ w.heap.size)
    (h : ∀ A c w1, w1.ownsRow base 68 4 (.slice A (n + m) c) (n + m) (ys ++ news) → Below base w w1 → wpList Tryd.prog ops Q rest (a.put o.dst (.slice A (n + m) c)) w1) : wpList Tryd.prog ops Q (o :: rest) a w := by
  obtain ⟨z, hz, hzs⟩ := Tryd.info68m
  obtain ⟨i, i1, i2, i3, i4⟩ := info_of hz
  refine wpList_append_own_at _ hgd s x 35 ho base 68 i z 4 64 Tryd.underlying35 i1 i2 i3 i4 hzs (by decide) v n _ hs hown ad m c news hx hl hnews h1 (by simp only [maxLen]; omega) (by omega) hbase ?_
  intro v9 w9 hown9 hgrow9 _ _
  obtain ⟨A9, c9, rfl⟩ := own_form hown9
  exact h A9 c9 w9 hown9 ((Below.refl base w).grown hgrow9 hbase (own_ge hown))
end
set_option maxRecDepth 100000 in
theorem build64_1 (u : Int) (w : World) : (Instr.buildSlice 64 1 #[(0, .int .i64 u)]).run Tryd.prog w = .ok (.slice (some ⟨w.heap.size, 0, none⟩) 1 1) (w.alloc (.cells #[.int .i64 u] 3)) := by
  go_simp
set_option maxRecDepth 100000 in
theorem build35_0 (w : World) : (Instr.buildSlice 35 0 #[]).run Tryd.prog w = .ok (.slice (some ⟨w.heap.size, 0, none⟩) 0 0) (w.alloc (.cells #[] 68)) := by
  go_simp
theorem sd_lo {w : World} {b off : Nat} {cls : List Cl} (h : w.rangeAt b off (sdcells cls)) (j : Nat) : ∀ i u, (sdcells (cls.take j))[i]? = some u → w.cell? ((⟨b, off, none⟩ : Addr).add i) = some u := fun i u hu => by
  rw [show (⟨b, off, none⟩ : Addr).add i = ⟨b, off + i, none⟩ by unfold Addr.add; split <;> simp_all]
  refine h i u ?_
  rw [← List.take_append_drop j cls, sdcells_app, List.getElem?_append_left (List.getElem?_eq_some_iff.1 hu).1]
  exact hu
theorem sd_hi {w : World} {b off : Nat} {cls : List Cl} (h : w.rangeAt b off (sdcells cls)) (j : Nat) (hj : j < cls.length) (ad : Addr) (had : ad = ⟨b, off + (j + 1) * 4, none⟩ ∨ cls.length = j + 1) : ∀ i u, (sdcells (cls.drop (j + 1)))[i]? = some u → w.cell? (ad.add i) = some u := fun i u hu => by
  rcases had with rfl | e
  · rw [show (⟨b, off + (j + 1) * 4, none⟩ : Addr).add i = ⟨b, off + ((j + 1) * 4 + i), none⟩ by unfold Addr.add; split <;> simp_all; omega]
    refine h _ u ?_
    have e : sdcells cls = sdcells (cls.take (j + 1)) ++ sdcells (cls.drop (j + 1)) := by rw [← sdcells_app, List.take_append_drop]
    rw [e, List.getElem?_append_right (by rw [sdcells_len, List.length_take]; omega), sdcells_len, List.length_take, show (j + 1) * 4 + i - min (j + 1) cls.length * 4 = i by omega]
    exact hu
  · rw [List.drop_of_length_le (by omega)] at hu
    simp [sdcells] at hu
end Go.Proofs.YtniknhhejlgdfaaDoor
/- ProofsFewer: what the law does. -/
namespace Go.Proofs.YtniknhhejlgdfaaDoor
open Go.RowKit

/-- The cells of what is asked. -/
theorem asked_facts {w : World} {b : Nat} {e qe qr : Int} {A B : Option Addr} {n c k d : Nat} {g blk : List Int} {tl : List Value} (hg : g.length = 16) (hb : blk.length = 16) (h : w.heap[b]? = some (.cells (gndC e (.slice A n c) g ++ (qcC qe qr blk (.slice B k d) ++ tl)).toArray 60 (0, 0))) :
    w.rangeAt b 0 (gndC e (.slice A n c) g) ∧ w.rangeAt b 18 (qcC qe qr blk (.slice B k d)) ∧ w.cell? ⟨b, 18, none⟩ = some (.int .i64 qe) ∧ w.cell? ⟨b, 19, none⟩ = some (.int .i64 qr) ∧ w.cell? ⟨b, 36, none⟩ = some (.slice B k d) := by
  have r0 := blk_mid (pre := []) (ys := gndC e (.slice A n c) g) (post := qcC qe qr blk (.slice B k d) ++ tl) h rfl
  have r1 := blk_mid (pre := gndC e (.slice A n c) g) (ys := qcC qe qr blk (.slice B k d)) (post := tl) h rfl
  rw [gnd_len _ _ _ hg] at r1
  refine ⟨r0, r1, r1 0 _ rfl, r1 1 _ rfl, r1 18 _ ?_⟩
  unfold qcC
  rw [List.getElem?_append_right (by simp [u8s_len', hb])]
  simp [u8s_len', hb]
theorem qc_set (e r : Int) (blk : List Int) (v u : Value) (hb : blk.length = 16) : (qcC e r blk v).set 18 u = qcC e r blk u := by
  unfold qcC
  rw [List.set_append_right _ _ (by simp [u8s_len', hb])]
  simp [u8s_len', hb]
theorem own_setLo {w : World} {base e s n b : Nat} {v : Value} {xs : List Value} (h : w.ownsRow base e s v n xs) (hb : b < base) (i : Nat) (u : Value) : (w.setCell ⟨b, i, none⟩ u).ownsRow base e s v n xs := by
  obtain ⟨h1, h2⟩ := h
  refine ⟨h1, ?_⟩
  rcases h2 with h2 | ⟨g, cap, cur, e1, e2, e3, rest⟩
  · exact .inl h2
  · exact .inr ⟨g, cap, cur, e1, e2, (heap_setCell_other w ⟨b, i, none⟩ g u (by show g ≠ b; omega)).trans e3, rest⟩
theorem rem_at (z : Int) (k : Nat) (hk : 0 < k) (hk2 : k ≤ 1000) : ∃ j : Nat, wrap64 ((IntKind.u64.wrap z).tmod (k : Int)) = (j : Int) ∧ j < k := by
  have h0 : 0 ≤ IntKind.u64.wrap z := by rw [IntKind.wrap_u64]; omega
  rw [Int.tmod_eq_emod_of_nonneg h0]
  have h1 := Int.emod_nonneg (IntKind.u64.wrap z) (show (k : Int) ≠ 0 by omega)
  have h2 := Int.emod_lt_of_pos (IntKind.u64.wrap z) (show (0 : Int) < k by omega)
  refine ⟨(IntKind.u64.wrap z % (k : Int)).toNat, ?_, by omega⟩
  unfold wrap64
  omega
set_option maxHeartbeats 16000000 in
set_option maxRecDepth 100000 in
theorem proofsFewer_any (e : Int) (vs : List Va) (A : Option Addr) (n c : Nat) (g : List Int) (hg : g.length = 16) (qe qr : Int) (hI1 : I64 qe) (hI2 : I64 qr) (blk : List Int) (hb : blk.length = 16) (hbo : u8s_ok blk) (B : Option Addr) (k d : Nat) (xs : List Sd) (tl : List Value) (z : Int) (hz : I64 z) (al : List Addr) (w : World)
    (hv : Vals w (.slice A n c) vs) (hx : Sgs w (.slice B k d) xs) (hs : SenN w al) (hk : w.rangeAt 18 0 (u32s kk)) :
    Calls Tryd.prog 6 #[.agg (gndC e (.slice A n c) g ++ (qcC qe qr blk (.slice B k d) ++ tl)).toArray, .int .i64 z] w fun x w' => x = .returned (.bool true) ∧ Below w.heap.size w w' := by
  have b0 : Below w.heap.size w (w.alloc (.cells (gndC e (.slice A n c) g ++ (qcC qe qr blk (.slice B k d) ++ tl)).toArray 60)) := (Below.refl _ _).alloc (Nat.le_refl _) _
  have V0 := Lib.hid (hv.below b0)
  have S0 := Lib.hid (hs.below b0)
  have X0 := Lib.hid (hx.below b0)
  have K0 := Lib.hid (range_below hk b0)
  have R0 := Lib.hid (heap_alloc_new w (.cells (gndC e (.slice A n c) g ++ (qcC qe qr blk (.slice B k d) ++ tl)).toArray 60))
  have B0 := Lib.hid b0
  have HG := Lib.hid hg
  have HB := Lib.hid hb
  have HBO := Lib.hid hbo
  have HI1 := Lib.hid hI1
  have HI2 := Lib.hid hI2
  have HZ := Lib.hid hz
  clear b0 hv hx hs hk hg hb hbo hI1 hI2 hz
  go_enter Tryd.func6, Tryd.ntmps6
  go_wp2_with fail
  refine (alive11_any al _ S0.out).mono ?_
  rintro _ w1 ⟨rfl, hb1⟩
  have V1 := Lib.hid (V0.out.below hb1)
  have S1 := Lib.hid (S0.out.below hb1)
  have X1 := Lib.hid (X0.out.below hb1)
  have R1 := Lib.hid (blk_below R0.out hb1)
  have B1 := Lib.hid (B0.out.trans (hb1.mono B0.out.size))
  have K1 := Lib.hid (range_below K0.out hb1)
  clear hb1 K0
  clear V0 S0 X0 R0 B0
  have hgl := Lib.hid (gnd_len e (.slice A n c) g HG.out)
  have hql := Lib.hid (qc_len qe qr blk (.slice B k d) HB.out)
  obtain ⟨r0, _, _, _, _⟩ := asked_facts HG.out HB.out R1.out
  have RG := Lib.hid r0
  clear r0
  by_cases h7 : 7 < n
  · have h7' : (7 : Int) < n := by omega
    go_wp2_with (first | (refine wpList_load_g rfl 27 (.tmp 13) rfl w.heap.size 0 rfl (gndC e (.slice A n c) g) _ RG.out Tryd.underlying27 rfl (by rw [hgl.out]; exact Tryd.size27) ?_) | (refine wpList_store_row rfl 27 (.tmp 5) (.tmp 14) rfl w1.heap.size rfl (gndC e (.slice A n c) g) rfl 27 (has_new w1 _ _ _ (by rw [hgl.out]; rfl)) (by rw [hgl.out]; exact Tryd.size27) (one_gnd _ _ _ rfl) ?_; intro w2 hp2; have L2 : Below w1.heap.size w1 w2 := hp2.below ((Below.refl _ _).alloc (Nat.le_refl _) _) (Nat.le_refl _); have V2 := Lib.hid (V1.out.below L2); have S2 := Lib.hid (S1.out.below L2); have X2 := Lib.hid (X1.out.below L2); have R2 := Lib.hid (blk_below R1.out L2); have B2 := Lib.hid (B1.out.trans (L2.mono B1.out.size)); have G2 := Lib.hid hp2.blk; have K2 := Lib.hid (range_below K1.out L2); have c5 := gnd_1 G2.out; obtain ⟨_, q2, c18, c19, c36⟩ := asked_facts HG.out HB.out R2.out; have RQ := Lib.hid q2; clear hp2 L2 q2))
    go_ret
    exact ⟨rfl, B2.out⟩
  have h7' : ¬ (7 : Int) < n := by omega
  have N7 := Lib.hid (show n ≤ 7 by omega)
  go_wp2_with (first | (refine wpList_load_g rfl 27 (.tmp 13) rfl w.heap.size 0 rfl (gndC e (.slice A n c) g) _ RG.out Tryd.underlying27 rfl (by rw [hgl.out]; exact Tryd.size27) ?_) | (refine wpList_store_row rfl 27 (.tmp 5) (.tmp 14) rfl w1.heap.size rfl (gndC e (.slice A n c) g) rfl 27 (has_new w1 _ _ _ (by rw [hgl.out]; rfl)) (by rw [hgl.out]; exact Tryd.size27) (one_gnd _ _ _ rfl) ?_; intro w2 hp2; have L2 : Below w1.heap.size w1 w2 := hp2.below ((Below.refl _ _).alloc (Nat.le_refl _) _) (Nat.le_refl _); have V2 := Lib.hid (V1.out.below L2); have S2 := Lib.hid (S1.out.below L2); have X2 := Lib.hid (X1.out.below L2); have R2 := Lib.hid (blk_below R1.out L2); have B2 := Lib.hid (B1.out.trans (L2.mono B1.out.size)); have G2 := Lib.hid hp2.blk; have K2 := Lib.hid (range_below K1.out L2); have c5 := gnd_1 G2.out; obtain ⟨_, q2, c18, c19, c36⟩ := asked_facts HG.out HB.out R2.out; have RQ := Lib.hid q2; clear hp2 L2 q2) | (refine wpList_load_g (by have h8 := N7.out; simp [Region.wanted, yielded]; omega) 37 (.tmp 20) rfl w.heap.size 18 rfl (qcC qe qr blk (.slice B k d)) _ RQ.out Tryd.underlying37 rfl (by rw [hql.out]; exact Tryd.size37) ?_))
  refine (bigQC_any qe qr blk HB.out B k d xs w2 X2.out).mono ?_
  rintro _ w3 ⟨b, rfl, hbk, hb3⟩
  have V3 := Lib.hid (V2.out.below hb3)
  have S3 := Lib.hid (S2.out.below hb3)
  have X3 := Lib.hid (X2.out.below hb3)
  have R3 := Lib.hid (blk_below R2.out hb3)
  have G3 := Lib.hid (blk_below G2.out hb3)
  have B3 := Lib.hid (B2.out.trans (hb3.mono B2.out.size))
  have K3 := Lib.hid (range_below K2.out hb3)
  clear hb3 K2 c5 c18 c19 c36 RQ
  have c53 := gnd_1 G3.out
  obtain ⟨_, q3, c183, c193, c363⟩ := asked_facts HG.out HB.out R3.out
  have RQ := Lib.hid q3
  have RG3 := Lib.hid (blk_range G3.out)
  clear q3
  clear V2 S2 X2 R2 G2 B2
  cases b with
  | true =>
    go_wp2_with fail
    go_ret
    exact ⟨rfl, B3.out⟩
  | false =>
  have K12 := Lib.hid (hbk rfl)
  clear hbk
  by_cases hr : qr < 1
  · go_wp2_with fail
    go_ret
    exact ⟨rfl, B3.out⟩
  have HR := Lib.hid (show 1 ≤ qr by omega)
  go_wp2_with (first | (refine wpList_load_g (by have h8 := N7.out; have h9 := HR.out; simp [Region.wanted, yielded]; omega) 27 (.tmp 5) rfl w1.heap.size 0 rfl (gndC e (.slice A n c) g) _ RG3.out Tryd.underlying27 rfl (by rw [hgl.out]; exact Tryd.size27) ?_) | (refine wpList_load_g (by have h8 := N7.out; have h9 := HR.out; simp [Region.wanted, yielded]; omega) 37 (.tmp 32) rfl w.heap.size 18 rfl (qcC qe qr blk (.slice B k d)) _ RQ.out Tryd.underlying37 rfl (by rw [hql.out]; exact Tryd.size37) ?_))
  refine (qcr_any e vs A n c g HG.out qe qr (by have := HR.out; omega) HI1.out HI2.out blk HB.out HBO.out B k d xs al w3 V3.out S3.out K3.out X3.out (by have := N7.out; omega)).mono ?_
  rintro _ w4 ⟨rfl, hb4⟩
  have V4 := Lib.hid (V3.out.below hb4)
  have S4 := Lib.hid (S3.out.below hb4)
  have X4 := Lib.hid (X3.out.below hb4)
  have R4 := Lib.hid (blk_below R3.out hb4)
  have G4 := Lib.hid (blk_below G3.out hb4)
  have B4 := Lib.hid (B3.out.trans (hb4.mono B3.out.size))
  have K4 := Lib.hid (range_below K3.out hb4)
  clear hb4 K3 c53 c183 c193 c363 RQ RG3
  clear V3 S3 X3 R3 G3 B3
  by_cases hq0 : qcrN vs e qe qr blk xs = 0
  case neg =>
    obtain ⟨N, hN⟩ : ∃ N, N = qcrN vs e qe qr blk xs := ⟨_, rfl⟩
    have hle := qcrN_le vs e qe qr blk xs
    rw [← hN] at hq0 hle ⊢
    obtain ⟨j, rfl⟩ : ∃ j, N = j + 1 := ⟨N - 1, by omega⟩
    obtain ⟨a, ha⟩ := S4.out.at j (by omega)
    rw [errN_at ha]
    clear ha hN hle hq0
    go_wp2_with fail
    go_ret
    exact ⟨rfl, B4.out⟩
  rw [hq0, show errN al 0 = Value.nilIface from rfl]
  have hbg : beginN vs e qe qr 0 = 0 := by
    unfold qcrN at hq0
    split at hq0
    · assumption
    · exact hq0
  have hqq : quorumQ vs (fvD qe qr blk) xs = true := by
    unfold qcrN at hq0
    rw [if_pos hbg] at hq0
    split at hq0
    · assumption
    · cases hq0
  have HBG := Lib.hid hbg
  have HQQ := Lib.hid hqq
  have hkp : 0 < k := by have := quorumQ_pos _ _ _ hqq; have := X4.out.len; omega
  have HKP := Lib.hid hkp
  obtain ⟨_, q4, c18, c19, c36⟩ := asked_facts HG.out HB.out R4.out
  have RQ := Lib.hid q4
  clear q4 hq0 hbg hqq
  have hk0 : ¬ k = 0 := by omega
  have hk9 := K12.out
  obtain ⟨j, hj, hjk⟩ : ∃ j : Nat, wrap64 ((IntKind.u64.wrap z).tmod (k : Int)) = (j : Int) ∧ j < k := rem_at z k hkp (by omega)
  have HJ := Lib.hid hj
  have HJK := Lib.hid hjk
  clear hj hjk
  go_wp2_with (first | (refine wpList_load_g rfl 37 (.tmp 46) rfl w.heap.size 18 rfl (qcC qe qr blk (.slice B k d)) _ RQ.out Tryd.underlying37 rfl (by rw [hql.out]; exact Tryd.size37) ?_) | (refine wpList_store_row rfl 37 (.tmp 6) (.tmp 47) rfl w4.heap.size rfl (qcC qe qr blk (.slice B k d)) rfl 37 (has_new w4 _ _ _ (by rw [hql.out]; rfl)) (by rw [hql.out]; exact Tryd.size37) (one_qc _ _ _ _ rfl) ?_; intro w5 hp5; have L5 : Below w4.heap.size w4 w5 := hp5.below ((Below.refl _ _).alloc (Nat.le_refl _) _) (Nat.le_refl _); have V5 := Lib.hid (V4.out.below L5); have S5 := Lib.hid (S4.out.below L5); have X5 := Lib.hid (X4.out.below L5); have R5 := Lib.hid (blk_below R4.out L5); have G5 := Lib.hid (blk_below G4.out L5); have B5 := Lib.hid (B4.out.trans (L5.mono B4.out.size)); have Q5 := Lib.hid hp5.blk; have K5 := Lib.hid (range_below K4.out L5); have L45 := Lib.hid L5; clear hp5 L5))
  rw [HJ.out]
  obtain ⟨bX, oX, cls, rfl, hcx, hcat, hrg, hkc⟩ := X4.out.cls HKP.out
  have hcl : cls.length = k := by rw [X4.out.len, ← hcx, List.length_map]
  obtain ⟨ad, had, hsl⟩ := slice35_hi bX oX k d j HJK.out hkc
  have RGX := Lib.hid (range_below hrg L45.out)
  have HCX := Lib.hid hcx
  have HCA := Lib.hid hcat
  have HKC := Lib.hid hkc
  have HCL := Lib.hid hcl
  have HAD := Lib.hid had
  have HSL := Lib.hid hsl
  obtain ⟨_, _, _, _, d36⟩ := asked_facts HG.out HB.out R5.out
  have D36 := Lib.hid d36
  have hj9 : (j : Int) ≤ 12 := by have := HJK.out; omega
  clear d36 hrg hcx hcat hkc hcl had hsl c18 c19 c36 RQ
  
  refine wp_region_rely3 (by kernel_rfl) 13 (by kernel_rfl) (by kernel_rfl) Ext Ext.refl Ext.trans (fun ix => match ix with
    | 0 => fun W v => ∃ g, v = .slice (some ⟨g, 0, none⟩) 0 0 ∧ W.heap[g]? = some (.cells #[] 68 (0, 0)) ∧ w5.heap.size ≤ g
    | 1 => fun _ v => v = .pointer (some ⟨w.heap.size, 18, none⟩)
    | 2 => fun _ v => v = .pointer (some ⟨w.heap.size, 36, none⟩)
    | 3 => fun _ v => v = .slice (some ⟨bX, oX, none⟩) k d
    | 4 => fun _ v => v = .int .i64 (j : Int)
    | 5 => fun _ v => v = .slice (some ⟨bX, oX, none⟩) j d
    | 6 => fun W v => W.ownsRow w5.heap.size 68 4 v j (sdcells (cls.take j))
    | 7 => fun _ v => v = .pointer (some ⟨w.heap.size, 18, none⟩)
    | 8 => fun _ v => v = .pointer (some ⟨w.heap.size, 36, none⟩)
    | 9 => fun _ v => v = .slice (some ⟨bX, oX, none⟩) k d
    | 10 => fun _ v => v = .int .i64 (j : Int)
    | 11 => fun _ v => v = .int .i64 ((j : Int) + 1)
    | 12 => fun _ v => v = .slice (some ad) (k - (j + 1)) (d - (j + 1))
    | _ => fun _ _ => False) ?_
  simp (maxSteps := 10000000) only [Rely, List.take_succ_cons, List.take_zero, List.drop_succ_cons, List.drop_zero, Nat.reduceAdd, Nat.zero_add, Act.put, List.setIfInBounds_toArray, List.set_cons_succ, List.set_cons_zero]
  refine ⟨?_, ?_, ?_, ?_, ?_, ?_, ?_, ?_, ?_, ?_, ?_, ?_, ?_, ?_⟩
  · refine step_plain rfl fun rv wq hE hd => ?_
    refine gives_build 35 0 _ rfl #[] (by simp) _ (build35_0 _) ⟨(Below.refl _ _).alloc (Nat.le_refl _) _, fun w6 h6 => ⟨wq.heap.size, rfl, blk_below (heap_alloc_new wq (.cells #[] 68)) h6, (ext_of_drew hE).size⟩⟩
  · refine step_plain rfl fun rv wq hE hd => ?_
    exact gives_fieldAddr' 60 _ 1 rfl (.pointer (some ⟨w.heap.size, 0, none⟩)) _ rfl (by go_simp) ⟨Ext.refl _, fun _ _ => rfl⟩
  · refine step_plain rfl fun rv wq hE hd => ?_
    exact gives_fieldAddr' 37 _ 3 rfl (.pointer (some ⟨w.heap.size, 18, none⟩)) _ (show rv 1 = _ from hd.1) (by go_simp) ⟨Ext.refl _, fun _ _ => rfl⟩
  · refine step_plain rfl fun rv wq hE hd => ?_
    have hc := cell_on (ext_of_drew hE) D36.out
    exact gives_loadAt 35 _ rfl (.pointer (some ⟨w.heap.size, 36, none⟩)) (.slice (some ⟨bX, oX, none⟩) k d) (show rv 2 = _ from hd.1) (by go_simp) ⟨Ext.refl _, fun _ _ => rfl⟩
  · refine step_plain rfl fun rv wq hE hd => ?_
    exact gives_move _ (.int .i64 (j : Int)) (.inl rfl) rfl ⟨Ext.refl _, fun _ _ => rfl⟩
  · refine step_plain rfl fun rv wq hE hd => ?_
    exact gives_slice 35 _ none (some (.tmp 52)) none rfl (.slice (some ⟨bX, oX, none⟩) k d) _ none (some (.int .i64 (j : Int))) none (show rv 3 = _ from hd.1) rfl (congrArg some (show rv 4 = _ from hd.2.1)) rfl (slice35_lo bX oX k d j HJK.out HKC.out _) ⟨Ext.refl _, fun _ _ => rfl⟩
  · refine step_plain rfl fun rv wq hE hd => ?_
    obtain ⟨g, e0, hg0, hgl⟩ := hd.1
    refine gives_app0 (.tmp 48) (.tmp 53) rfl w5.heap.size g e0 hg0 hgl ⟨bX, oX, none⟩ j d (sdcells (cls.take j)) (show rv 5 = _ from hd.2.1) (by rw [sdcells_len, List.length_take, HCL.out, Nat.min_eq_left (Nat.le_of_lt HJK.out)]) (sd_lo (range_below RGX.out (ext_of_drew hE)) j) (one_sdcells _) (by omega) (ext_of_drew hE).size (fun v' W hv hX => ⟨hX, fun W2 h2 => own_bel hv h2⟩)
  · refine step_plain rfl fun rv wq hE hd => ?_
    exact gives_fieldAddr' 60 _ 1 rfl (.pointer (some ⟨w.heap.size, 0, none⟩)) _ rfl (by go_simp) ⟨Ext.refl _, fun _ _ => rfl⟩
  · refine step_plain rfl fun rv wq hE hd => ?_
    exact gives_fieldAddr' 37 _ 3 rfl (.pointer (some ⟨w.heap.size, 18, none⟩)) _ (show rv 7 = _ from hd.1) (by go_simp) ⟨Ext.refl _, fun _ _ => rfl⟩
  · refine step_plain rfl fun rv wq hE hd => ?_
    have hc := cell_on (ext_of_drew hE) D36.out
    exact gives_loadAt 35 _ rfl (.pointer (some ⟨w.heap.size, 36, none⟩)) (.slice (some ⟨bX, oX, none⟩) k d) (show rv 8 = _ from hd.1) (by go_simp) ⟨Ext.refl _, fun _ _ => rfl⟩
  · refine step_plain rfl fun rv wq hE hd => ?_
    exact gives_move _ (.int .i64 (j : Int)) (.inl rfl) rfl ⟨Ext.refl _, fun _ _ => rfl⟩
  · refine step_plain rfl fun rv wq hE hd => ?_
    exact gives_binOp .add 3 _ _ _ rfl (.int .i64 (j : Int)) (Value.int .i64 1) (.int .i64 ((j : Int) + 1)) (show rv 10 = _ from hd.1) rfl (by go_simp) (by go_simp; rw [IntKind.wrap_i64]; omega) ⟨Ext.refl _, fun _ _ => rfl⟩
  · refine step_plain rfl fun rv wq hE hd => ?_
    exact gives_slice 35 _ (some (.tmp 59)) none none rfl (.slice (some ⟨bX, oX, none⟩) k d) _ (some (.int .i64 ((j : Int) + 1))) none none (show rv 9 = _ from hd.1) (congrArg some (show rv 11 = _ from hd.2.1)) rfl rfl (HSL.out _) ⟨Ext.refl _, fun _ _ => rfl⟩
  · intro rv wq hE hR
    have h6 : wq.ownsRow w5.heap.size 68 4 (rv 6) j (sdcells (cls.take j)) := hR 6 (by omega)
    have h12 : rv 12 = _ := hR 12 (by omega)
    have LE := ext_of_drew hE
    clear hR hE
    refine wpList_appS rfl (.tmp 54) (.tmp 60) rfl w5.heap.size (rv 6) j _ rfl h6 ad (k - (j + 1)) (d - (j + 1)) (sdcells (cls.drop (j + 1))) h12 (by rw [sdcells_len, List.length_drop, HCL.out]) (sd_hi (range_below RGX.out LE) j (by rw [HCL.out]; exact HJK.out) ad (by rw [HCL.out]; exact HAD.out)) (one_sdcells _) (by have := HJK.out; omega) LE.size ?_
    intro A7 c7 w7 o7 b7
    have L7 := Lib.hid (Below.trans LE b7)
    have hcl2 : (cls.take j ++ cls.drop (j + 1)).length = j + (k - (j + 1)) := by rw [List.length_append, List.length_take, List.length_drop, HCL.out]; have := HJK.out; omega
    rw [← sdcells_app] at o7
    have hyc : (cls.take j ++ cls.drop (j + 1)).map Cl.x = xs.take j ++ xs.drop (j + 1) := by rw [List.map_append, List.map_take, List.map_drop, HCX.out]
    have hca : ∀ x ∈ cls.take j ++ cls.drop (j + 1), ClAt w4 x := fun x hx => HCA.out x (by rcases List.mem_append.1 hx with h | h; exact List.mem_of_mem_take h; exact List.mem_of_mem_drop h)
    obtain ⟨mv, hmv⟩ : ∃ m, m = j + (k - (j + 1)) := ⟨_, rfl⟩
    obtain ⟨cs7, hcs7⟩ : ∃ m, m = cls.take j ++ cls.drop (j + 1) := ⟨_, rfl⟩
    obtain ⟨ys, hys⟩ : ∃ m, m = xs.take j ++ xs.drop (j + 1) := ⟨_, rfl⟩
    rw [← hmv] at o7 hcl2 ⊢
    rw [← hcs7] at o7 hcl2 hca hyc
    rw [← hys] at hyc
    have M12 := Lib.hid (show mv ≤ 12 by have := HJK.out; have := K12.out; omega)
    have O7 := Lib.hid o7
    have HCS := Lib.hid hcl2
    have HYC := Lib.hid hyc
    have HCC := Lib.hid hca
    have HQW := Lib.hid (show quorumQ vs (fvD qe qr blk) ys = enoughB vs (ys.map (·.who)) by rw [hys]; exact quorumQ_without vs _ xs j (by have := HJK.out; rw [← X4.out.len]; exact this) HQQ.out)
    have Q7 := Lib.hid (blk_below Q5.out L7.out)
    have q18 := qc_3 HB.out Q7.out
    have f18 := blk_free Q7.out 18
    clear hcs7 hys hcl2 hyc hca hmv h6 h12 LE b7 o7
    have c18 : ((w7.setCell ⟨w4.heap.size, 18, none⟩ (.slice A7 mv c7)).alloc (.cells #[] 3)).cell? ⟨w4.heap.size, 18, none⟩ = some (.slice A7 mv c7) := by
      have h1 := blk_set Q7.out 18 (.slice A7 mv c7)
      rw [qc_set _ _ _ _ _ HB.out] at h1
      exact qc_3 HB.out (blk_below h1 ((Below.refl _ _).alloc (Nat.le_refl _) _))
    go_wp2_with fail
    obtain ⟨w8, hw8⟩ : ∃ x, x = w7.setCell ⟨w4.heap.size, 18, none⟩ (.slice A7 mv c7) := ⟨_, rfl⟩
    have z4 : w4.heap.size < w5.heap.size := blk_lt Q5.out
    have b48 : Below w4.heap.size w4 w8 := by
      rw [hw8]
      exact (L45.out.trans (L7.out.mono L45.out.size)).setCell (p := ⟨w4.heap.size, 18, none⟩) (Nat.le_refl _) _
    have V8 := Lib.hid (V4.out.below b48)
    have S8 := Lib.hid (S4.out.below b48)
    have R8 := Lib.hid (blk_below R4.out b48)
    have G8 := Lib.hid (blk_below G4.out b48)
    have B8 := Lib.hid (B4.out.trans (b48.mono B4.out.size))
    have K8 := Lib.hid (range_below K4.out b48)
    have hq8 : w8.heap[w4.heap.size]? = some (.cells (qcC qe qr blk (.slice A7 mv c7)).toArray 37 (0, 0)) := by
      rw [hw8]
      have := blk_set Q7.out 18 (.slice A7 mv c7)
      rwa [qc_set _ _ _ _ _ HB.out] at this
    have Q8 := Lib.hid hq8
    have W8 := Lib.hid (X4.out.below b48)
    have Y8 := Lib.hid (show Sgs w8 (.slice A7 mv c7) ys by
      rw [← HYC.out]
      refine Sgs.of_own (base := w5.heap.size) ?_ HCS.out.symm (fun x hx => ⟨(HCC.out x hx).1.below b48, (HCC.out x hx).2.below b48⟩)
      rw [hw8]
      exact own_setLo O7.out z4 _ _)
    rw [← hw8]
    have z8 : w8.heap.size = w7.heap.size := by rw [hw8]; simp
    rw [← z8]
    clear hw8 z8 c18 z4 b48 hq8 q18 f18 V4 S4 X4 R4 G4 B4 K4 V5 S5 X5 R5 G5 B5 Q5 K5 Q7 O7 L7 HCS HYC HCC HAD HSL RGX HCX HCA HCL HKC D36
    have OW := Lib.hid (World.ownsRow_made (e := 3) (base := w8.heap.size) (size := 1) w8 #[] 0 (Nat.le_refl _) (by simp) rfl)
    have BW := Lib.hid ((Below.refl w8.heap.size w8).alloc (Nat.le_refl _) (.cells #[] 3))
    have HYL := Lib.hid Y8.out.len
    clear hj9
    go_loopw [7, 9, 67] (fun s7 _ x wr => ∃ (i : Nat) (A : Option Addr) (c : Nat), i ≤ mv ∧ s7 = .slice A i c ∧ x = .int .i64 i ∧ Hid (wr.ownsRow w8.heap.size 3 1 (.slice A i c) i (i64s ((ys.map (·.who)).take i))) ∧ Hid (Below w8.heap.size w8 wr)) (fun _ _ x _ => mv - (intOf x).toNat)
    case atStart => exact ⟨0, _, _, Nat.zero_le _, rfl, rfl, OW, BW⟩
    case round =>
      clear OW BW
      obtain ⟨i, A1, c1, hi, rfl, rfl, hown, hbel⟩ := hrel
      by_cases hlt : i < mv
      · obtain ⟨b, off, a, rfl, hb, hr, hax⟩ := Y8.out.cl i hlt
        have hlen : i < ys.length := by rw [← HYL.out]; exact hlt
        have htk : (ys.map (·.who)).take i ++ [a.1.x.who] = (ys.map (·.who)).take (i + 1) := by
          rw [List.take_succ_eq_append_getElem (by simpa using hlen), List.getElem_map, hax, List.getD_eq_getElem?_getD, List.getElem?_eq_getElem hlen]
          rfl
        have HR := Lib.hid (range_below hr hbel.out)
        have HTK := Lib.hid htk
        have hi9 : i < 12 := by have := M12.out; omega
        have hil : (i : Int) < mv := by omega
        clear hr hax hb htk hlen
        go_wp2_with (first | (refine wpList_load_g rfl 68 (.tmp 69) rfl b (off + i * 4) rfl a.1.sd _ HR.out Tryd.underlying68 rfl Tryd.size68 ?_) | (refine wpList_store_row rfl 68 (.tmp 9) (.tmp 70) rfl wr.heap.size rfl a.1.sd rfl 68 (has_new wr _ _ _ rfl) Tryd.size68 (one_clsd a.1) ?_; intro wz hp1; have L1 : Below wr.heap.size wr wz := hp1.below ((Below.refl _ _).alloc (Nat.le_refl _) _) (Nat.le_refl _); have B1 := Lib.hid (hbel.out.trans (L1.mono hbel.out.size)); have c0 := blk_cell (xs := a.1.sd) hp1.blk 0 _ rfl; have OX := Lib.hid ((own_bel hown.out L1).alloc (.cells #[.int .i64 a.1.x.who] 3)); clear hp1 L1) | (at_builtin; refine wpList_appI rfl (.tmp 71) (.tmp 74) rfl w8.heap.size _ i _ rfl OX.out wz.heap.size a.1.x.who rfl (range_new wz [.int .i64 a.1.x.who] 3) (by omega) (by have := B1.out.size; simp; omega) ?_; intro A9 c9 w9 o9 b9; have O9 := Lib.hid o9; have B9 := Lib.hid ((B1.out.alloc B1.out.size (.cells #[.int .i64 a.1.x.who] 3)).trans b9); clear o9 b9))
        go_roundw
        case rel => exact ⟨i + 1, A9, c9, by omega, rfl, by go_num, Lib.hid (by rw [← HTK.out]; exact O9.out), B9⟩
        case measure => simp [intOf]; omega
      · obtain rfl : i = mv := by omega
        have hww : (ys.map (·.who)).take i = ys.map (·.who) := List.take_of_length_le (by rw [List.length_map, ← HYL.out]; exact Nat.le_refl _)
        have hins := ins_of_own hown.out
        rw [hww] at hins
        have HI := Lib.hid hins
        have VR := Lib.hid (V8.out.below hbel.out)
        have SR := Lib.hid (S8.out.below hbel.out)
        have RR := Lib.hid (blk_below R8.out hbel.out)
        have GR := Lib.hid (blk_below G8.out hbel.out)
        have QR := Lib.hid (blk_below Q8.out hbel.out)
        have YR := Lib.hid (Y8.out.below hbel.out)
        have WR := Lib.hid (W8.out.below hbel.out)
        have KR := Lib.hid (range_below K8.out hbel.out)
        have BR := Lib.hid (B8.out.trans (hbel.out.mono B8.out.size))
        have RGR := Lib.hid (blk_range GR.out)
        have RQR := Lib.hid (blk_range QR.out)
        have hql7 := Lib.hid (qc_len qe qr blk (.slice A7 i c7) HB.out)
        have CG := Lib.hid (gnd_1 GR.out)
        clear hww hins hown hbel W8 V8 S8 R8 G8 Q8 Y8 K8 B8
        obtain ⟨aP, iP⟩ := SR.out.at 11 (by omega)
        have IP := Lib.hid iP
        clear iP
        have hqn : qcrN vs e qe qr blk ys = if enoughB vs (ys.map (·.who)) = true then 0 else 12 := by
          unfold qcrN
          rw [if_pos HBG.out, HQW.out]
        have HQN := Lib.hid hqn
        clear hqn
        obtain ⟨EB, hEB⟩ : ∃ b, b = enoughB vs (ys.map (·.who)) := ⟨_, rfl⟩
        have HEB := Lib.hid hEB
        rw [← hEB] at HQN
        clear hEB
        go_wp2_with fail
        have hne : (EB = true → errN al (qcrN vs e qe qr blk ys) = .nilIface) ∧ (EB = false → errN al (qcrN vs e qe qr blk ys) = errV aP) := by
          rw [HQN.out]
          exact ⟨fun h => by rw [h]; rfl, fun h => by rw [h]; exact errN_at IP.out⟩
        obtain ⟨hne1, hne2⟩ := hne
        cases EB with
        | true =>
          refine wp_region_rely3 (by kernel_rfl) 9 (by kernel_rfl) (by kernel_rfl) Ext Ext.refl Ext.trans (fun ix => match ix with
            | 0 => fun _ v => v = .agg (gndC e (.slice A n c) g).toArray
            | 1 => fun _ v => v = .agg (qcC qe qr blk (.slice A7 i c7)).toArray
            | 2 => fun _ v => v = .nilIface
            | 3 => fun _ v => v = .bool true
            | 4 => fun _ v => v = .pointer (some ⟨w1.heap.size, 1, none⟩)
            | 5 => fun _ v => v = .slice A n c
            | 6 => fun _ v => v = .slice A1 i c1
            | 7 => fun _ v => v = .bool true
            | 8 => fun _ v => v = .bool false
            | _ => fun _ _ => False) ?_
          simp (maxSteps := 10000000) only [Rely, List.take_succ_cons, List.take_zero, List.drop_succ_cons, List.drop_zero, Nat.reduceAdd, Nat.zero_add, Act.put, List.setIfInBounds_toArray, List.set_cons_succ, List.set_cons_zero]
          refine ⟨?_, ?_, ?_, ?_, ?_, ?_, ?_, ?_, ?_, ?_⟩
          · refine step_plain rfl fun rv wq hE hd => ?_
            exact gives_load_row 27 _ rfl (w1.heap.size) (0) rfl ((gndC e (.slice A n c) g)) _ (range_below RGR.out (ext_of_drew hE)) Tryd.underlying27 rfl (by rw [hgl.out]; exact Tryd.size27) ⟨Ext.refl _, fun _ _ => rfl⟩
          · refine step_plain rfl fun rv wq hE hd => ?_
            exact gives_load_row 37 _ rfl (w4.heap.size) (0) rfl ((qcC qe qr blk (.slice A7 i c7))) _ (range_below RQR.out (ext_of_drew hE)) Tryd.underlying37 rfl (by rw [hql7.out]; exact Tryd.size37) ⟨Ext.refl _, fun _ _ => rfl⟩
          · refine step_plain rfl fun rv wq hE hd => ?_
            refine gives_call 23 (enters_of Tryd.func23 (by kernel_rfl) rfl) _ _ rfl rfl [.agg (gndC e (.slice A n c) g).toArray, .agg (qcC qe qr blk (.slice A7 i c7)).toArray] (congr (congrArg (fun a b => a :: b) (show rv 0 = _ from hd.1)) (congrArg (fun a => [a]) (show rv 1 = _ from hd.2.1))) ?_
            have LE := ext_of_drew hE
            refine (qcr_any e vs A n c g HG.out qe qr (by have := HR.out; omega) HI1.out HI2.out blk HB.out HBO.out A7 i c7 ys al wq (VR.out.below LE) (SR.out.below LE) (range_below KR.out LE) (YR.out.below LE) (by have := N7.out; omega)).mono ?_
            rintro _ w'' ⟨rfl, hb⟩
            exact ⟨_, rfl, hb, fun _ _ => hne1 rfl⟩
          · refine step_plain rfl fun rv wq hE hd => ?_
            exact gives_binOp .eql 29 _ _ _ rfl (.nilIface) (.nilIface) (.bool true) (show rv 2 = _ from hd.1) rfl (by go_simp) (by go_simp) ⟨Ext.refl _, fun _ _ => rfl⟩
          · refine step_plain rfl fun rv wq hE hd => ?_
            exact gives_fieldAddr' 27 _ 1 rfl (.pointer (some ⟨w1.heap.size, 0, none⟩)) _ rfl (by go_simp) ⟨Ext.refl _, fun _ _ => rfl⟩
          · refine step_plain rfl fun rv wq hE hd => ?_
            have hc := cell_on (ext_of_drew hE) CG.out
            exact gives_loadAt 22 _ rfl (.pointer (some ⟨w1.heap.size, 1, none⟩)) (.slice A n c) (show rv 4 = _ from hd.1) (by go_simp) ⟨Ext.refl _, fun _ _ => rfl⟩
          · refine step_plain rfl fun rv wq hE hd => ?_
            exact gives_move _ (.slice A1 i c1) (.inl rfl) rfl ⟨Ext.refl _, fun _ _ => rfl⟩
          · refine step_plain rfl fun rv wq hE hd => ?_
            refine gives_call 24 (enters_of Tryd.func24 (by kernel_rfl) rfl) _ _ rfl rfl [.slice A n c, .slice A1 i c1] (congr (congrArg (fun a b => a :: b) (show rv 5 = _ from hd.1)) (congrArg (fun a => [a]) (show rv 6 = _ from hd.2.1))) ?_
            have LE := ext_of_drew hE
            refine (refEnough_any vs (ys.map (·.who)) A A1 n c i c1 wq (VR.out.below LE) (HI.out.below LE) (by have := N7.out; omega) (by have := M12.out; omega)).mono ?_
            rintro _ w'' ⟨rfl, hb⟩
            exact ⟨_, rfl, hb, fun _ _ => by rw [← HEB.out]; rfl⟩
          · refine step_plain rfl fun rv wq hE hd => ?_
            exact gives_binOp .neq 4 _ _ _ rfl (.bool true) (.bool true) (.bool false) (show rv 3 = _ from hd.1) (show rv 7 = _ from hd.2.1) (by go_simp) (by go_simp) ⟨Ext.refl _, fun _ _ => rfl⟩
          · intro rv wq hE hR
            have h8 : rv 8 = .bool false := hR 8 (by omega)
            rw [h8]
            have L9 := ext_of_drew hE
            have V9 := Lib.hid (VR.out.below L9)
            have S9 := Lib.hid (SR.out.below L9)
            have X9 := Lib.hid (YR.out.below L9)
            have R9 := Lib.hid (blk_below RR.out L9)
            have G9 := Lib.hid (blk_below GR.out L9)
            have K9 := Lib.hid (range_below KR.out L9)
            have B9 := Lib.hid (BR.out.trans (L9.mono BR.out.size))
            clear hR h8 L9
            obtain ⟨_, q9, d18, _, _⟩ := asked_facts HG.out HB.out R9.out
            have RQ9 := Lib.hid q9
            clear q9 d18
            have W9 := Lib.hid (WR.out.below (ext_of_drew hE))
            clear hE
            go_wp2_with (first | (refine wpList_load_g rfl 37 (.tmp 86) rfl w.heap.size 18 rfl (qcC qe qr blk (.slice (some ⟨bX, oX, none⟩) k d)) _ RQ9.out Tryd.underlying37 rfl (by rw [hql.out]; exact Tryd.size37) ?_) | (refine wpList_store_row rfl 37 (.tmp 10) (.tmp 87) rfl wq.heap.size rfl (qcC qe qr blk (.slice (some ⟨bX, oX, none⟩) k d)) rfl 37 (has_new wq _ _ _ (by rw [hql.out]; rfl)) (by rw [hql.out]; exact Tryd.size37) (one_qc _ _ _ _ rfl) ?_; intro wa hpa; have LA := Lib.hid (hpa.below ((Below.refl wq.heap.size wq).alloc (Nat.le_refl _) _) (Nat.le_refl _)); have QA := Lib.hid hpa.blk; have e0 := blk_cell (xs := qcC qe qr blk (.slice (some ⟨bX, oX, none⟩) k d)) hpa.blk 0 _ rfl; have f0 := blk_free hpa.blk 0; clear hpa) | (refine wpList_load_g rfl 27 (.tmp 5) rfl w1.heap.size 0 rfl (gndC e (.slice A n c) g) _ (blk_range (blk_below G9.out (LA.out.setCell (p := ⟨wq.heap.size, 0, none⟩) (Nat.le_refl _) _))) Tryd.underlying27 rfl (by rw [hgl.out]; exact Tryd.size27) ?_) | (refine wpList_load_g rfl 37 (.tmp 10) rfl wq.heap.size 0 rfl (qcC (wrap64 (qe + 1)) qr blk (.slice (some ⟨bX, oX, none⟩) k d)) _ (blk_range (blk_set QA.out 0 _)) Tryd.underlying37 rfl (by rw [qc_len _ _ _ _ HB.out]; exact Tryd.size37) ?_))
            have LZ := LA.out.setCell (p := ⟨wq.heap.size, 0, none⟩) (Nat.le_refl _) (.int .i64 (wrap64 (qe + 1)))
            obtain ⟨wz, hwz⟩ : ∃ x, x = wa.setCell ⟨wq.heap.size, 0, none⟩ (.int .i64 (wrap64 (qe + 1))) := ⟨_, rfl⟩
            rw [← hwz] at LZ ⊢
            have VZ := Lib.hid (V9.out.below LZ)
            have SZ := Lib.hid (S9.out.below LZ)
            have XZ := Lib.hid (W9.out.below LZ)
            have KZ := Lib.hid (range_below K9.out LZ)
            have BZ := Lib.hid (B9.out.trans (LZ.mono B9.out.size))
            have hq2 : I64 (wrap64 (qe + 1)) := by have := HI1.out; unfold I64 at *; unfold wrap64; omega
            have hn3 : qcrN vs e (wrap64 (qe + 1)) qr blk xs = 18 := by
              have h1 := HBG.out
              have h2 := HI1.out
              have h3 : wrap64 (qe + 1) ≠ qe := by unfold I64 at h2; unfold wrap64; omega
              unfold beginN at h1
              unfold qcrN beginN
              by_cases hv : validB vs = false
              · rw [if_pos hv] at h1; cases h1
              · rw [if_neg hv] at h1
                by_cases he : qe = e
                · subst he
                  rw [if_neg hv, if_pos h3]
                  rfl
                · rw [if_pos he] at h1; cases h1
            obtain ⟨q2, hq2e⟩ : ∃ x, x = wrap64 (qe + 1) := ⟨_, rfl⟩
            rw [← hq2e] at hq2 hn3 ⊢
            have HQ2 := Lib.hid hq2
            have HN3 := Lib.hid hn3
            clear hwz LZ hq2 hn3 hq2e
            refine (qcr_any e vs A n c g HG.out q2 qr (by have := HR.out; omega) HQ2.out HI2.out blk HB.out HBO.out (some ⟨bX, oX, none⟩) k d xs al wz VZ.out SZ.out KZ.out XZ.out (by have := N7.out; omega)).mono ?_
            rintro _ wy ⟨rfl, hby⟩
            rw [HN3.out]
            have SY := Lib.hid (SZ.out.below hby)
            have BY := Lib.hid (BZ.out.trans (hby.mono BZ.out.size))
            clear hby
            go_wp2_with fail
            refine (num_any al 18 (by omega) wy SY.out).mono ?_
            rintro _ wx ⟨rfl, hbx⟩
            have BX := Lib.hid (BY.out.trans (hbx.mono BY.out.size))
            clear hbx
            go_wp2_with fail
            go_ret
            exact ⟨rfl, BX.out⟩
        | false =>
          refine wp_region_rely3 (by kernel_rfl) 9 (by kernel_rfl) (by kernel_rfl) Ext Ext.refl Ext.trans (fun ix => match ix with
            | 0 => fun _ v => v = .agg (gndC e (.slice A n c) g).toArray
            | 1 => fun _ v => v = .agg (qcC qe qr blk (.slice A7 i c7)).toArray
            | 2 => fun _ v => v = errV aP
            | 3 => fun _ v => v = .bool false
            | 4 => fun _ v => v = .pointer (some ⟨w1.heap.size, 1, none⟩)
            | 5 => fun _ v => v = .slice A n c
            | 6 => fun _ v => v = .slice A1 i c1
            | 7 => fun _ v => v = .bool false
            | 8 => fun _ v => v = .bool false
            | _ => fun _ _ => False) ?_
          simp (maxSteps := 10000000) only [Rely, List.take_succ_cons, List.take_zero, List.drop_succ_cons, List.drop_zero, Nat.reduceAdd, Nat.zero_add, Act.put, List.setIfInBounds_toArray, List.set_cons_succ, List.set_cons_zero]
          refine ⟨?_, ?_, ?_, ?_, ?_, ?_, ?_, ?_, ?_, ?_⟩
          · refine step_plain rfl fun rv wq hE hd => ?_
            exact gives_load_row 27 _ rfl (w1.heap.size) (0) rfl ((gndC e (.slice A n c) g)) _ (range_below RGR.out (ext_of_drew hE)) Tryd.underlying27 rfl (by rw [hgl.out]; exact Tryd.size27) ⟨Ext.refl _, fun _ _ => rfl⟩
          · refine step_plain rfl fun rv wq hE hd => ?_
            exact gives_load_row 37 _ rfl (w4.heap.size) (0) rfl ((qcC qe qr blk (.slice A7 i c7))) _ (range_below RQR.out (ext_of_drew hE)) Tryd.underlying37 rfl (by rw [hql7.out]; exact Tryd.size37) ⟨Ext.refl _, fun _ _ => rfl⟩
          · refine step_plain rfl fun rv wq hE hd => ?_
            refine gives_call 23 (enters_of Tryd.func23 (by kernel_rfl) rfl) _ _ rfl rfl [.agg (gndC e (.slice A n c) g).toArray, .agg (qcC qe qr blk (.slice A7 i c7)).toArray] (congr (congrArg (fun a b => a :: b) (show rv 0 = _ from hd.1)) (congrArg (fun a => [a]) (show rv 1 = _ from hd.2.1))) ?_
            have LE := ext_of_drew hE
            refine (qcr_any e vs A n c g HG.out qe qr (by have := HR.out; omega) HI1.out HI2.out blk HB.out HBO.out A7 i c7 ys al wq (VR.out.below LE) (SR.out.below LE) (range_below KR.out LE) (YR.out.below LE) (by have := N7.out; omega)).mono ?_
            rintro _ w'' ⟨rfl, hb⟩
            exact ⟨_, rfl, hb, fun _ _ => hne2 rfl⟩
          · refine step_plain rfl fun rv wq hE hd => ?_
            exact gives_binOp .eql 29 _ _ _ rfl (errV aP) (.nilIface) (.bool false) (show rv 2 = _ from hd.1) rfl (by go_simp) (by go_simp) ⟨Ext.refl _, fun _ _ => rfl⟩
          · refine step_plain rfl fun rv wq hE hd => ?_
            exact gives_fieldAddr' 27 _ 1 rfl (.pointer (some ⟨w1.heap.size, 0, none⟩)) _ rfl (by go_simp) ⟨Ext.refl _, fun _ _ => rfl⟩
          · refine step_plain rfl fun rv wq hE hd => ?_
            have hc := cell_on (ext_of_drew hE) CG.out
            exact gives_loadAt 22 _ rfl (.pointer (some ⟨w1.heap.size, 1, none⟩)) (.slice A n c) (show rv 4 = _ from hd.1) (by go_simp) ⟨Ext.refl _, fun _ _ => rfl⟩
          · refine step_plain rfl fun rv wq hE hd => ?_
            exact gives_move _ (.slice A1 i c1) (.inl rfl) rfl ⟨Ext.refl _, fun _ _ => rfl⟩
          · refine step_plain rfl fun rv wq hE hd => ?_
            refine gives_call 24 (enters_of Tryd.func24 (by kernel_rfl) rfl) _ _ rfl rfl [.slice A n c, .slice A1 i c1] (congr (congrArg (fun a b => a :: b) (show rv 5 = _ from hd.1)) (congrArg (fun a => [a]) (show rv 6 = _ from hd.2.1))) ?_
            have LE := ext_of_drew hE
            refine (refEnough_any vs (ys.map (·.who)) A A1 n c i c1 wq (VR.out.below LE) (HI.out.below LE) (by have := N7.out; omega) (by have := M12.out; omega)).mono ?_
            rintro _ w'' ⟨rfl, hb⟩
            exact ⟨_, rfl, hb, fun _ _ => by rw [← HEB.out]; rfl⟩
          · refine step_plain rfl fun rv wq hE hd => ?_
            exact gives_binOp .neq 4 _ _ _ rfl (.bool false) (.bool false) (.bool false) (show rv 3 = _ from hd.1) (show rv 7 = _ from hd.2.1) (by go_simp) (by go_simp) ⟨Ext.refl _, fun _ _ => rfl⟩
          · intro rv wq hE hR
            have h8 : rv 8 = .bool false := hR 8 (by omega)
            rw [h8]
            have L9 := ext_of_drew hE
            have V9 := Lib.hid (VR.out.below L9)
            have S9 := Lib.hid (SR.out.below L9)
            have X9 := Lib.hid (YR.out.below L9)
            have R9 := Lib.hid (blk_below RR.out L9)
            have G9 := Lib.hid (blk_below GR.out L9)
            have K9 := Lib.hid (range_below KR.out L9)
            have B9 := Lib.hid (BR.out.trans (L9.mono BR.out.size))
            clear hR h8 L9
            obtain ⟨_, q9, d18, _, _⟩ := asked_facts HG.out HB.out R9.out
            have RQ9 := Lib.hid q9
            clear q9 d18
            have W9 := Lib.hid (WR.out.below (ext_of_drew hE))
            clear hE
            go_wp2_with (first | (refine wpList_load_g rfl 37 (.tmp 86) rfl w.heap.size 18 rfl (qcC qe qr blk (.slice (some ⟨bX, oX, none⟩) k d)) _ RQ9.out Tryd.underlying37 rfl (by rw [hql.out]; exact Tryd.size37) ?_) | (refine wpList_store_row rfl 37 (.tmp 10) (.tmp 87) rfl wq.heap.size rfl (qcC qe qr blk (.slice (some ⟨bX, oX, none⟩) k d)) rfl 37 (has_new wq _ _ _ (by rw [hql.out]; rfl)) (by rw [hql.out]; exact Tryd.size37) (one_qc _ _ _ _ rfl) ?_; intro wa hpa; have LA := Lib.hid (hpa.below ((Below.refl wq.heap.size wq).alloc (Nat.le_refl _) _) (Nat.le_refl _)); have QA := Lib.hid hpa.blk; have e0 := blk_cell (xs := qcC qe qr blk (.slice (some ⟨bX, oX, none⟩) k d)) hpa.blk 0 _ rfl; have f0 := blk_free hpa.blk 0; clear hpa) | (refine wpList_load_g rfl 27 (.tmp 5) rfl w1.heap.size 0 rfl (gndC e (.slice A n c) g) _ (blk_range (blk_below G9.out (LA.out.setCell (p := ⟨wq.heap.size, 0, none⟩) (Nat.le_refl _) _))) Tryd.underlying27 rfl (by rw [hgl.out]; exact Tryd.size27) ?_) | (refine wpList_load_g rfl 37 (.tmp 10) rfl wq.heap.size 0 rfl (qcC (wrap64 (qe + 1)) qr blk (.slice (some ⟨bX, oX, none⟩) k d)) _ (blk_range (blk_set QA.out 0 _)) Tryd.underlying37 rfl (by rw [qc_len _ _ _ _ HB.out]; exact Tryd.size37) ?_))
            have LZ := LA.out.setCell (p := ⟨wq.heap.size, 0, none⟩) (Nat.le_refl _) (.int .i64 (wrap64 (qe + 1)))
            obtain ⟨wz, hwz⟩ : ∃ x, x = wa.setCell ⟨wq.heap.size, 0, none⟩ (.int .i64 (wrap64 (qe + 1))) := ⟨_, rfl⟩
            rw [← hwz] at LZ ⊢
            have VZ := Lib.hid (V9.out.below LZ)
            have SZ := Lib.hid (S9.out.below LZ)
            have XZ := Lib.hid (W9.out.below LZ)
            have KZ := Lib.hid (range_below K9.out LZ)
            have BZ := Lib.hid (B9.out.trans (LZ.mono B9.out.size))
            have hq2 : I64 (wrap64 (qe + 1)) := by have := HI1.out; unfold I64 at *; unfold wrap64; omega
            have hn3 : qcrN vs e (wrap64 (qe + 1)) qr blk xs = 18 := by
              have h1 := HBG.out
              have h2 := HI1.out
              have h3 : wrap64 (qe + 1) ≠ qe := by unfold I64 at h2; unfold wrap64; omega
              unfold beginN at h1
              unfold qcrN beginN
              by_cases hv : validB vs = false
              · rw [if_pos hv] at h1; cases h1
              · rw [if_neg hv] at h1
                by_cases he : qe = e
                · subst he
                  rw [if_neg hv, if_pos h3]
                  rfl
                · rw [if_pos he] at h1; cases h1
            obtain ⟨q2, hq2e⟩ : ∃ x, x = wrap64 (qe + 1) := ⟨_, rfl⟩
            rw [← hq2e] at hq2 hn3 ⊢
            have HQ2 := Lib.hid hq2
            have HN3 := Lib.hid hn3
            clear hwz LZ hq2 hn3 hq2e
            refine (qcr_any e vs A n c g HG.out q2 qr (by have := HR.out; omega) HQ2.out HI2.out blk HB.out HBO.out (some ⟨bX, oX, none⟩) k d xs al wz VZ.out SZ.out KZ.out XZ.out (by have := N7.out; omega)).mono ?_
            rintro _ wy ⟨rfl, hby⟩
            rw [HN3.out]
            have SY := Lib.hid (SZ.out.below hby)
            have BY := Lib.hid (BZ.out.trans (hby.mono BZ.out.size))
            clear hby
            go_wp2_with fail
            refine (num_any al 18 (by omega) wy SY.out).mono ?_
            rintro _ wx ⟨rfl, hbx⟩
            have BX := Lib.hid (BY.out.trans (hbx.mono BY.out.size))
            clear hbx
            go_wp2_with fail
            go_ret
            exact ⟨rfl, BX.out⟩
  
end Go.Proofs.YtniknhhejlgdfaaDoor
/- What is asked of the proofs, as it came in: a ground and a QC. -/
namespace Go.Proofs.YtniknhhejlgdfaaDoor
open Go.ChangeShapes Go.WideShapes Go.ChangeAt Go.RowKit

section
variable {H : Type} {enc : TypeId × Value → H} {W : World} {base : Nat} {spare : Nat → Bool} {held : Bool}
set_option maxRecDepth 100000 in
theorem open_sd_cells {fuel : Nat} {cs : List Value} {x : DataW H × List MemPlace} (h : DataW.trod enc Tryd.prog W base spare held fuel 68 cs = some x) : ∃ X : Sd, SdAt W cs X ∧ cs.length = 4 := by
  have c68 : Tryd.prog.cellsOf 68 = 4 := by kernel_rfl
  have c66 : Tryd.prog.cellsOf 66 = 3 := by kernel_rfl
  have c3 : Tryd.prog.cellsOf 3 = 1 := by kernel_rfl
  have c43' : Tryd.prog.cellsOf 43 = 1 := by kernel_rfl
  obtain ⟨y0, y1, m, _, hl, h0, h1⟩ := trod_struct2 Tryd.underlying68 h
  rw [c68] at hl
  obtain ⟨z0, z1, z2, m2, _, hl2, g0, g1, g2⟩ := Go.Deep.trod_struct3 Tryd.underlying66 h1
  obtain ⟨a0, a1, a2, a3, rfl⟩ : ∃ a0 a1 a2 a3, cs = [a0, a1, a2, a3] := by
    match cs, hl with
    | [a0, a1, a2, a3], _ => exact ⟨a0, a1, a2, a3, rfl⟩
  simp only [c3, List.drop_zero, List.take_succ_cons, List.take_zero] at h0
  simp only [c66, c3, List.drop_succ_cons, List.drop_zero, List.take_succ_cons, List.take_zero] at g0
  simp only [c66, c43', List.drop_succ_cons, List.drop_zero, List.take_succ_cons, List.take_zero] at g1 g2
  obtain ⟨w0, e0, _, _⟩ := DataW.trod_int Tryd.underlying3 h0
  obtain ⟨l0, f0, _, _⟩ := DataW.trod_int Tryd.underlying3 g0
  obtain ⟨ds, A, c, e1, hd⟩ := open_dgs_cells g1
  obtain ⟨qs, B, e, e2, hq⟩ := open_dgs_cells g2
  simp only [List.cons.injEq, and_true] at e0 f0 e1 e2
  subst e0 f0 e1 e2
  exact ⟨⟨w0, l0, ds, qs⟩, ⟨A, c, B, e, rfl, hd, hq⟩, rfl⟩

set_option maxRecDepth 100000 in
theorem open_sgs_cells {fuel : Nat} {cs : List Value} {x : DataW H × List MemPlace} (h : DataW.trod enc Tryd.prog W base spare held fuel 35 cs = some x) : ∃ xs A c, cs = [.slice A xs.length c] ∧ Sgs W (.slice A xs.length c) xs := by
  have c68 : Tryd.prog.cellsOf 68 = 4 := by kernel_rfl
  rcases DataW.trod_slice Tryd.underlying35 h with ⟨rfl, _⟩ | ⟨a, n, c, elems, rest, k, _, rfl, _, _, hl, hm, hlen, hel, _, _⟩
  · exact ⟨[], none, 0, rfl, ⟨_, _, rfl⟩, fun h => absurd rfl h⟩
  · have each : ∀ i, ∃ X : Sd × List Value, i < n → (SdAt W X.2 X.1 ∧ X.2.length = 4) ∧ ∀ j u, X.2[j]? = some u → W.cell? ((a.add (i * 4)).add j) = some u := by
      intro i
      by_cases hi : i < n
      · have he := hel i hi
        rw [c68, List.getElem?_eq_getElem (by omega), Option.bind_eq_some_iff] at he
        obtain ⟨cs', hcs, hy'⟩ := he
        obtain ⟨X, hX, hl4⟩ := open_sd_cells hy'
        refine ⟨(X, cs'), fun _ => ⟨⟨hX, hl4⟩, fun j u hu => ?_⟩⟩
        have := (World.cells?_some hcs).2
        have hj : j < 4 := by have := (List.getElem?_eq_some_iff.1 hu).1; rwa [hl4] at this
        first
          | exact (this j hj).trans hu
          | exact (this.2 j hj).trans hu
      · exact ⟨(Sd.none, []), fun h => absurd h hi⟩
    obtain ⟨f, hff⟩ := Classical.axiomOfChoice each
    refine ⟨(List.range n).map (fun i => (f i).1), some a, c, by simp, ⟨some a, c, by simp⟩, fun hne => ?_⟩
    have hn : 0 < n := by
      cases n with
      | zero => exact absurd rfl hne
      | succ => omega
    obtain ⟨b, off, sp⟩ := a
    obtain ⟨⟨_, hl0⟩, h0⟩ := hff 0 hn
    have h00 : ∃ u, (f 0).2[0]? = some u := ⟨_, List.getElem?_eq_getElem (by omega)⟩
    obtain ⟨u, hu⟩ := h00
    have hc0 := h0 0 u hu
    have hadd0 : (⟨b, off, sp⟩ : Addr).add (0 * 4) = ⟨b, off, sp⟩ := by simp [Addr.add]
    rw [hadd0] at hc0
    obtain rfl := spot_none hc0
    refine ⟨b, off, c, by simp, by simpa using hl, hm, World.block_lt_of_cell? W _ hc0, fun i hi => ?_⟩
    have hi : i < n := by simpa using hi
    refine ⟨(f i).2, fun j u hu => ?_, ?_⟩
    · have := (hff i hi).2 j u hu
      rw [add_none, add_none] at this
      exact this
    · rw [List.getD_eq_getElem?_getD, List.getElem?_map, List.getElem?_range hi]
      exact (hff i hi).1.1
theorem wf_i64 {n : Int} (h : (Lit.int .i64 n).wf = true) : I64 n := by
  unfold I64
  simp only [Lit.wf, IntKind.min, IntKind.max, IntKind.signed, IntKind.bits] at h
  simp at h
  omega
set_option maxRecDepth 100000 in
theorem open_vals_cells {fuel : Nat} {cs : List Value} {x : DataW H × List MemPlace} (h : DataW.trod enc Tryd.prog W base spare held fuel 22 cs = some x) : ∃ xs A c, cs = [.slice A xs.length c] ∧ Vals W (.slice A xs.length c) xs := by
  have c45 : Tryd.prog.cellsOf 45 = 17 := by kernel_rfl
  rcases DataW.trod_slice Tryd.underlying22 h with ⟨rfl, _⟩ | ⟨a, n, c, elems, rest, k, _, rfl, _, _, hl, hm, hlen, hel, _, _⟩
  · exact ⟨[], none, 0, rfl, ⟨_, _, rfl⟩, fun h => absurd rfl h, fun x hx => by simp at hx⟩
  · have each : ∀ i, ∃ X : Va, i < n → X.1.length = 16 ∧ ∀ j u, (vcells X)[j]? = some u → W.cell? ((a.add (i * 17)).add j) = some u := by
      intro i
      by_cases hi : i < n
      · have he := hel i hi
        rw [c45, List.getElem?_eq_getElem (by omega), Option.bind_eq_some_iff] at he
        obtain ⟨cs', hcs, hy'⟩ := he
        obtain ⟨X, rfl, hX⟩ := open_va hy'
        refine ⟨X, fun _ => ⟨hX, fun j u hu => ?_⟩⟩
        have := (World.cells?_some hcs).2
        have hj : j < 17 := by have := (List.getElem?_eq_some_iff.1 hu).1; rwa [vcells_len X hX] at this
        first
          | exact (this j hj).trans hu
          | exact (this.2 j hj).trans hu
      · exact ⟨([], 0), fun h => absurd h hi⟩
    obtain ⟨f, hff⟩ := Classical.axiomOfChoice each
    refine ⟨(List.range n).map f, some a, c, by simp, ⟨some a, c, by simp⟩, fun hne => ?_, fun x hx => ?_⟩
    · have hn : 0 < n := by
        cases n with
        | zero => exact absurd rfl hne
        | succ => omega
      obtain ⟨b, off, sp⟩ := a
      obtain ⟨hl0, h0⟩ := hff 0 hn
      have h00 : ∃ u, (vcells (f 0))[0]? = some u := ⟨_, List.getElem?_eq_getElem (by rw [vcells_len _ hl0]; omega)⟩
      obtain ⟨u, hu⟩ := h00
      have hc0 := h0 0 u hu
      have hadd0 : (⟨b, off, sp⟩ : Addr).add (0 * 17) = ⟨b, off, sp⟩ := by simp [Addr.add]
      rw [hadd0] at hc0
      obtain rfl := spot_none hc0
      refine ⟨b, off, c, by simp, by simpa using hl, hm, World.block_lt_of_cell? W _ hc0, fun i hi j u hu => ?_⟩
      have hi : i < n := by simpa using hi
      rw [List.getD_eq_getElem?_getD, List.getElem?_map, List.getElem?_range hi] at hu
      have := (hff i hi).2 j u hu
      rw [add_none, add_none] at this
      exact this
    · rw [List.mem_map] at hx
      obtain ⟨i, hi, rfl⟩ := hx
      exact (hff i (by simpa using hi)).1
set_option maxRecDepth 100000 in
theorem open_ground_cells {fuel : Nat} {cs : List Value} {x : DataW H × List MemPlace} (h : DataW.trod enc Tryd.prog W base spare held fuel 27 cs = some x) : ∃ e vs A c g, cs = gndC e (.slice A vs.length c) g ∧ Vals W (.slice A vs.length c) vs ∧ g.length = 16 := by
  have c27 : Tryd.prog.cellsOf 27 = 18 := by kernel_rfl
  have c3 : Tryd.prog.cellsOf 3 = 1 := by kernel_rfl
  have c22 : Tryd.prog.cellsOf 22 = 1 := by kernel_rfl
  have c24 : Tryd.prog.cellsOf 24 = 16 := by kernel_rfl
  obtain ⟨y0, y1, y2, m, _, hlen, h0, h1, h2⟩ := Go.Deep.trod_struct3 Tryd.underlying27 h
  rw [c27] at hlen
  simp only [c3, c22, c24] at h0 h1 h2
  obtain ⟨e, he, _, _⟩ := DataW.trod_int Tryd.underlying3 h0
  obtain ⟨g, hg, lg, _⟩ := open_dg_cells h2
  obtain ⟨vs, A, c, hs, hv⟩ := open_vals_cells h1
  refine ⟨e, vs, A, c, g, ?_, hv, lg⟩
  have e0 : cs = cs.take 1 ++ ((cs.drop 1).take 1 ++ (cs.drop 2).take 16) := by
    rw [List.take_of_length_le (l := cs.drop 2) (by rw [List.length_drop]; omega)]
    have h2 : cs.drop 2 = (cs.drop 1).drop 1 := by rw [List.drop_drop]
    rw [h2, List.take_append_drop, List.take_append_drop]
  rw [List.drop_zero] at he
  rw [e0, he, hs, hg]
  rfl
set_option maxRecDepth 100000 in
theorem open_qc_cells {fuel : Nat} {cs : List Value} {x : DataW H × List MemPlace} (h : DataW.trod enc Tryd.prog W base spare held fuel 37 cs = some x) : ∃ e r blk xs A c, cs = qcC e r blk (.slice A xs.length c) ∧ Sgs W (.slice A xs.length c) xs ∧ (blk.length = 16 ∧ u8s_ok blk) ∧ I64 e ∧ I64 r := by
  have c37 : Tryd.prog.cellsOf 37 = 19 := by kernel_rfl
  have c35 : Tryd.prog.cellsOf 35 = 1 := by kernel_rfl
  have c3 : Tryd.prog.cellsOf 3 = 1 := by kernel_rfl
  have c24 : Tryd.prog.cellsOf 24 = 16 := by kernel_rfl
  obtain ⟨y0, y1, y2, y3, m, _, hl, h0, h1, h2, h3⟩ := Go.Joins.trod_struct4 Tryd.underlying37 h
  rw [c37] at hl
  simp only [c3, c24, c35] at h0 h1 h2 h3
  obtain ⟨e, he, _, we⟩ := DataW.trod_int Tryd.underlying3 h0
  obtain ⟨r, hr, _, wr⟩ := DataW.trod_int Tryd.underlying3 h1
  obtain ⟨blk, hb, lb, ob⟩ := open_dg_cells h2
  obtain ⟨xs, A, c, hs, hx⟩ := open_sgs_cells h3
  refine ⟨e, r, blk, xs, A, c, ?_, hx, ⟨lb, ob⟩, wf_i64 we, wf_i64 wr⟩
  have e0 : cs = cs.take 1 ++ ((cs.drop 1).take 1 ++ ((cs.drop 2).take 16 ++ (cs.drop 18).take 1)) := by
    rw [List.take_of_length_le (l := cs.drop 18) (by rw [List.length_drop]; omega)]
    have h2 : cs.drop 2 = (cs.drop 1).drop 1 := by rw [List.drop_drop]
    have h18 : cs.drop 18 = (cs.drop 2).drop 16 := by rw [List.drop_drop]
    rw [h18, List.take_append_drop, h2, List.take_append_drop, List.take_append_drop]
  rw [List.drop_zero] at he
  rw [e0, he, hr, hb, hs]
  rfl
set_option maxRecDepth 100000 in
theorem open_asked {v : Value} {d : DataW H} {ps : List MemPlace} (h : DataW.Trod enc Tryd.prog W base spare held 60 v d ps) :
    ∃ e vs A c g qe qr blk xs B k tl, v = .agg (gndC e (.slice A vs.length c) g ++ (qcC qe qr blk (.slice B xs.length k) ++ tl)).toArray ∧ g.length = 16 ∧ Vals W (.slice A vs.length c) vs ∧ Sgs W (.slice B xs.length k) xs ∧ (blk.length = 16 ∧ u8s_ok blk) ∧ I64 qe ∧ I64 qr ∧ tl.length = 3 := by
  have c60 : Tryd.prog.cellsOf 60 = 40 := by kernel_rfl
  have c27 : Tryd.prog.cellsOf 27 = 18 := by kernel_rfl
  have c37 : Tryd.prog.cellsOf 37 = 19 := by kernel_rfl
  obtain ⟨fuel, hf⟩ := h
  obtain ⟨y0, y1, y2, m, _, hlen, h0, h1, _⟩ := Go.Deep.trod_struct3 Tryd.underlying60 hf
  rw [c60] at hlen
  have hv : ∃ cs, v = .agg cs := by
    cases v with
    | agg cs => exact ⟨cs, rfl⟩
    | _ => simp [Value.cells] at hlen
  obtain ⟨cs, rfl⟩ := hv
  simp only [Value.cells] at hlen h0 h1
  simp only [c27, c37] at h0 h1
  obtain ⟨e, vs, A, c, g, hg, hvs, lg⟩ := open_ground_cells h0
  obtain ⟨qe, qr, blk, xs, B, k, hq, hx, hb, i1, i2⟩ := open_qc_cells h1
  refine ⟨e, vs, A, c, g, qe, qr, blk, xs, B, k, cs.toList.drop 37, ?_, lg, hvs, hx, hb, i1, i2, by rw [List.length_drop]; omega⟩
  have e0 : cs.toList = cs.toList.take 18 ++ ((cs.toList.drop 18).take 19 ++ cs.toList.drop 37) := by
    have h37 : cs.toList.drop 37 = (cs.toList.drop 18).drop 19 := by rw [List.drop_drop]
    rw [h37, List.take_append_drop, List.take_append_drop]
  rw [List.drop_zero] at hg
  rw [← hg, ← hq, ← e0, Array.toArray_toList]
end
end Go.Proofs.YtniknhhejlgdfaaDoor
