/- Appends in a region that draws its order: a row that comes to be a list, piece by piece. -/
import Derived.Test.YtideopnblhbngaaDoorPoolLaw
namespace Go.Proofs.YtideopnblhbngaaDoor
open Go.RowKit

/-- Below B nothing changes; from B on a row's first cells that are L's stay L's, and rows of one cell stay. -/
def Keep (L : List Value) (B : Nat) (a b : World) : Prop :=
  Below B a b ∧ ∀ g (cur : Array Value), B ≤ g → a.heap[g]? = some (.cells cur 44 (0, 0)) → ∃ cur' : Array Value, b.heap[g]? = some (.cells cur' 44 (0, 0)) ∧ cur'.size = cur.size ∧ (∀ m, m ≤ L.length → cur.toList.take m = L.take m → cur'.toList.take m = L.take m) ∧ (cur.size = 1 → cur' = cur)
theorem Keep.refl {L : List Value} {B : Nat} (a : World) : Keep L B a a := ⟨Below.refl _ _, fun _ cur _ h => ⟨cur, h, rfl, fun _ _ h => h, fun _ => rfl⟩⟩
theorem Keep.trans {L : List Value} {B : Nat} {a b c : World} (h : Keep L B a b) (k : Keep L B b c) : Keep L B a c := by
  refine ⟨h.1.trans k.1, fun g cur hg hc => ?_⟩
  obtain ⟨c1, h1, s1, p1, e1⟩ := h.2 g cur hg hc
  obtain ⟨c2, h2, s2, p2, e2⟩ := k.2 g c1 hg h1
  exact ⟨c2, h2, s2.trans s1, fun m hm he => p2 m hm (p1 m hm he), fun hs => by rw [e2 (by rw [s1]; exact hs), e1 hs]⟩
theorem Keep.of_below {L : List Value} {B : Nat} {a b : World} (h : Below a.heap.size a b) (hB : B ≤ a.heap.size) : Keep L B a b :=
  ⟨h.mono hB, fun _ cur _ hc => ⟨cur, blk_below hc h, rfl, fun _ _ h => h, fun _ => rfl⟩⟩
/-- The row v is the first n of L. -/
def RowL (L : List Value) (B : Nat) (w : World) (v : Value) (n : Nat) : Prop := n ≤ L.length ∧ w.ownsRow B 44 1 v n (L.take n) ∧ (n = 0 → ∃ A, v = .slice A 0 0)
theorem RowL.keep {L : List Value} {B : Nat} {a b : World} {v : Value} {n : Nat} (h : RowL L B a v n) (k : Keep L B a b) : RowL L B b v n := by
  refine ⟨h.1, ⟨h.2.1.1, ?_⟩, h.2.2⟩
  rcases h.2.1.2 with h0 | ⟨g, cap, cur, rfl, hb, hg, hnc, hm, hs, ht⟩
  · exact .inl h0
  · obtain ⟨cur', h1, s1, p1, _⟩ := k.2 g cur hb hg
    refine .inr ⟨g, cap, cur', rfl, hb, h1, hnc, hm, s1.trans hs, ?_⟩
    rw [Nat.mul_one] at ht ⊢
    exact p1 n h.1 ht
theorem src_keep {L : List Value} {B g : Nat} {a b : World} {x : Value} (k : Keep L B a b) (hg : B ≤ g) (h : a.heap[g]? = some (.cells #[x] 44 (0, 0))) : b.heap[g]? = some (.cells #[x] 44 (0, 0)) := by
  obtain ⟨cur', h1, _, _, e⟩ := k.2 g _ hg h
  rw [h1, e rfl]

theorem gives_append_keep {o : Oper} {ρ : Operand → Value} {w : World} {S : Value → World → Prop} (s x : Operand) (ho : o.op = .call { callee := .builtin .append, args := #[s, x], argTypes := #[41, 41] })
    (L : List Value) (B n k : Nat) (v u : Value) (hs : ρ s = v) (hx : ρ x = u) (hR : RowL L B w v n) (hsrc : Src Tryd.prog 1 41 u k ((L.drop n).take k) w) (hnk : n + k ≤ L.length) (hL : L.length ≤ 1000) (hB : B ≤ w.heap.size)
    (h : ∀ v' w', RowL L B w' v' (n + k) → Keep L B w w' → S v' w') : Gives Tryd.prog o ρ w S := by
  obtain ⟨i0, hi, hzz⟩ := Option.map_eq_some_iff.1 Tryd.info44
  simp only [Prod.mk.injEq] at hzz
  obtain ⟨hz0, hz1, hz2⟩ := hzz
  have hs' : Src Tryd.prog i0.size 41 u k ((L.drop n).take k) w := by rw [hz1]; exact hsrc
  obtain ⟨_, hown, hzero⟩ := hR
  have hnl : ((L.drop n).take k).length = k := by have := hsrc.newsLen; omega
  have htk : L.take n ++ (L.drop n).take k = L.take (n + k) := by rw [List.take_add]
  have hln : (L.take n).length = n := by rw [List.length_take]; omega
  have hex : ∃ v' w', (Builtin.append_ #[41, 41] o.type #[v, u]).run Tryd.prog w = .ok v' w' ∧ RowL L B w' v' (n + k) ∧ Keep L B w w' := by
    by_cases hroom : ∃ A c, v = .slice A n c ∧ n + k ≤ c ∨ (v = .slice A n c ∧ n + k = 0)
    · obtain ⟨A, c, hAc⟩ := hroom
      rcases hown.2 with ⟨rfl, h0⟩ | ⟨g, cap, cur, rfl, hb, hg, hnc, hm, hcs, ht⟩
      · have hk0 : k = 0 := by rcases hAc with ⟨e, h⟩ | ⟨_, h⟩ <;> simp_all <;> omega
        subst hk0 h0
        refine ⟨.slice none 0 0, w, ?_, ⟨Nat.zero_le _, ⟨by simp, .inl ⟨rfl, rfl⟩⟩, fun _ => ⟨none, rfl⟩⟩, Keep.refl _⟩
        have hc := hsrc.cells
        have hl := hsrc.len
        rcases hsrc.kind with ⟨e', hk⟩ | hk <;> simp [Builtin.append_, run_underlying Tryd.underlying41, sizeOf, typeInfo, hi, hz1, hl, hsrc.cells]
      · have hroom : n + k ≤ cap := by
          rcases hAc with ⟨e, h⟩ | ⟨e, h⟩
          · simp only [Value.slice.injEq] at e; omega
          · omega
        have hst := run_storeCells_fr (P := Tryd.prog) g n 44 (0, 0) ((L.drop n).take k) 0 cur w hg (.inl (Nat.le_refl _)) (by omega) hsrc.one
        simp only [Nat.add_zero, hnl] at hst
        rw [Nat.mul_one] at ht
        have hcur : cur.toList.take n ++ (L.drop n).take k ++ cur.toList.drop (n + k) = L.take (n + k) ++ cur.toList.drop (n + k) := by rw [ht, htk]
        rw [hcur] at hst
        have hlk : (L.take (n + k)).length = n + k := by rw [List.length_take]; omega
        have hcl : cur.toList.length = cur.size := by simp
        refine ⟨.slice (some ⟨g, 0, none⟩) (n + k) cap, w.setRow g (L.take (n + k) ++ cur.toList.drop (n + k)).toArray, ?_, ⟨hnk, ⟨by rw [hlk, Nat.mul_one], .inr ⟨g, cap, _, rfl, hb, setRow_heap w g cur _ 44 _ hg, hroom, hm, ?_, ?_⟩⟩, fun h0 => ?_⟩, ⟨⟨rfl, rfl, rfl, by simp, fun k' hk' => setRow_other w g k' _ (by omega)⟩, fun g' cur' hg' hc' => ?_⟩⟩
        · have hc := hsrc.cells
          have hl := hsrc.len
          simp [Builtin.append_, run_underlying Tryd.underlying41, sizeOf, typeInfo, hi, hz1, hl, hroom, hc, Addr.add_lit, hst]
        · simp only [List.size_toArray, List.length_append, hlk, List.length_drop, hcl]
          omega
        · simp only [Nat.mul_one]
          rw [List.take_append_of_le_length (by omega), List.take_of_length_le (by omega)]
        · obtain ⟨A', e⟩ := hzero (by omega)
          simp only [Value.slice.injEq] at e
          exact ⟨_, by rw [h0, e.2.2]⟩
        · by_cases hgg : g' = g
          · subst hgg
            rw [hg] at hc'
            cases hc'
            refine ⟨_, setRow_heap w g' cur _ 44 _ hg, ?_, fun m hm1 hm2 => ?_, fun h1 => ?_⟩
            · simp only [List.size_toArray, List.length_append, hlk, List.length_drop, hcl]
              omega
            · simp only
              by_cases hmk : m ≤ n + k
              · rw [List.take_append_of_le_length (by omega), List.take_take, Nat.min_eq_left hmk]
              · have : cur.toList.take (n + k) = L.take (n + k) := by
                  have h2 := congrArg (List.take (n + k)) hm2
                  rwa [List.take_take, List.take_take, Nat.min_eq_left (by omega)] at h2
                rw [← this, List.take_append_drop]
                exact hm2
            · by_cases hn0 : n = 0
              · obtain ⟨A', e⟩ := hzero hn0
                simp only [Value.slice.injEq] at e
                omega
              · have hk0 : k = 0 := by omega
                subst hk0
                rw [Nat.add_zero, ← ht, List.take_append_drop]
          · exact ⟨cur', (setRow_other w g g' _ hgg).trans hc', rfl, fun _ _ h => h, fun _ => rfl⟩
    · obtain ⟨A, c, rfl⟩ := own_form hown
      have hgr : c < n + k := by
        rcases Nat.lt_or_ge c (n + k) with h | h
        · exact h
        · exact absurd ⟨A, c, .inl ⟨rfl, h⟩⟩ hroom
      have hold : (Builtin.firstCells i0.size n (.slice A n c)).run Tryd.prog w.drew = .ok (L.take n).toArray w.drew := by
        rcases hown.2 with ⟨e, h0⟩ | ⟨g, cap, cur, e, _, hg, hnc, hm, hcs, ht⟩
        · simp only [Value.slice.injEq] at e
          obtain ⟨rfl, _, rfl⟩ := e
          subst h0
          simp [Builtin.firstCells]
        · simp only [Value.slice.injEq] at e
          obtain ⟨rfl, _, rfl⟩ := e
          refine run_firstCells_some (P := Tryd.prog) w.drew i0.size n ⟨g, 0, none⟩ n c (L.take n) (by rw [hz1, Nat.mul_one, hln]) ?_
          intro j y hy
          exact hown.cells (g := g) rfl j y hy
      have hr := run_append_grow_src (P := Tryd.prog) w 41 41 o.type 44 i0 _ Tryd.underlying41 hi hz0 A n c (L.take n) hold u k _ hs' hgr (by omega) (by
        have := growslice_fits (need := n + k) (old := c) (bytes := i0.bytes) (by omega) (by rw [hz2]; omega)
        exact this)
      have hge := grownCap_ge w (n + k) c 44
      have hcm : grownCap w (n + k) c 44 ≤ maxLen := grownCap_le_maxLen w (n + k) c 44 (by simp only [maxLen]; omega)
      have hlk : (L.take (n + k)).length = n + k := by rw [List.length_take]; omega
      rw [htk] at hr
      refine ⟨_, _, hr, ⟨hnk, ⟨by rw [hlk, Nat.mul_one], .inr ⟨w.heap.size, _, _, rfl, hB, heap_alloc_new w.drew _, hge, hcm, ?_, ?_⟩⟩, fun h0 => by omega⟩, Keep.of_below ((Below.refl w.heap.size w).drew.alloc (Nat.le_refl _) _) hB⟩
      · simp only [Array.size_append, List.size_toArray, size_zeroCells, hlk]
        simp [Value.cells]
        omega
      · rw [Array.toList_append]
        simp only [Nat.mul_one]
        rw [List.take_append_of_le_length (by rw [hlk]; exact Nat.le_refl _), List.take_of_length_le (by omega)]
  obtain ⟨v', w', hr, h1, h2⟩ := hex
  refine gives_val v' (w' := w') ?_ (h v' w' h1 h2)
  unfold execOp
  simp only [ho, resolve, invoke, builtin, Sem.run_bind, Sem.run_pure, Result.andThen_ok, List.map_toArray, List.map_cons, List.map_nil, hs, hx, hr]
end Go.Proofs.YtideopnblhbngaaDoor
