/- A tally as it lies; what of it is picked. -/
import Derived.Test.YtideopnblhbngaaDoorPAlive
import Derived.Test.YtideopnblhbngaaDoorPool
import Derived.Deep.MidRow
namespace Go.Proofs.YtideopnblhbngaaDoor
open Go.RowKit Go.Shelf

/-- A word: whether it was said, its key, its thing. -/
abbrev Wd (K : Type) := Bool × K × Int
section
variable {K : Type}
def wcell (ek : K → Value) (x : Wd K) : List Value := [.bool x.1, ek x.2.1, .int .i64 x.2.2]
def selAt (q : K → Bool) (ws : List (Wd K)) (i : Nat) : Option (Int × Int) :=
  match ws[i]? with
  | some (true, k, x) => if q k then some ((i : Int), x) else none
  | _ => none
/-- Places and things of those words, of the first j, whose key is such a one. -/
def sel (q : K → Bool) (ws : List (Wd K)) (j : Nat) : List (Int × Int) := (List.range j).filterMap (selAt q ws)
theorem sel_zero (q : K → Bool) (ws : List (Wd K)) : sel q ws 0 = [] := rfl
theorem sel_yes {q : K → Bool} {ws : List (Wd K)} {j : Nat} {k : K} {x : Int} (h : ws[j]? = some (true, k, x)) (hq : q k = true) : sel q ws (j + 1) = sel q ws j ++ [((j : Int), x)] := by
  unfold sel
  rw [List.range_succ, List.filterMap_append]
  simp [selAt, h, hq]
theorem sel_no {q : K → Bool} {ws : List (Wd K)} {j : Nat} (h : selAt q ws j = none) : sel q ws (j + 1) = sel q ws j := by
  unfold sel
  rw [List.range_succ, List.filterMap_append]
  simp [h]
theorem selAt_unsaid {q : K → Bool} {ws : List (Wd K)} {j : Nat} {k : K} {x : Int} (h : ws[j]? = some (false, k, x)) : selAt q ws j = none := by simp [selAt, h]
theorem selAt_other {q : K → Bool} {ws : List (Wd K)} {j : Nat} {k : K} {x : Int} (h : ws[j]? = some (true, k, x)) (hq : q k = false) : selAt q ws j = none := by simp [selAt, h, hq]
theorem sel_pre (q : K → Bool) (ws : List (Wd K)) : ∀ (d j : Nat), ∃ r, sel q ws (j + d) = sel q ws j ++ r
  | 0, j => ⟨[], by simp⟩
  | d + 1, j => by
    obtain ⟨r, hr⟩ := sel_pre q ws d j
    rw [← Nat.add_assoc]
    cases h : selAt q ws (j + d) with
    | none => exact ⟨r, by rw [sel_no h, hr]⟩
    | some y =>
      refine ⟨r ++ [y], ?_⟩
      have : sel q ws (j + d + 1) = sel q ws (j + d) ++ [y] := by
        unfold sel
        rw [List.range_succ, List.filterMap_append]
        simp [h]
      rw [this, hr, List.append_assoc]
theorem sel_take {q : K → Bool} {ws : List (Wd K)} {j n : Nat} (h : j ≤ n) : sel q ws j = (sel q ws n).take (sel q ws j).length ∧ (sel q ws j).length ≤ (sel q ws n).length := by
  obtain ⟨r, hr⟩ := sel_pre q ws (n - j) j
  rw [show j + (n - j) = n by omega] at hr
  rw [hr]
  simp
theorem sel_len (q : K → Bool) (ws : List (Wd K)) (j : Nat) : (sel q ws j).length ≤ j := by
  unfold sel
  have := List.length_filterMap_le (selAt q ws) (List.range j)
  simpa using this
theorem sel_range (q : K → Bool) (ws : List (Wd K)) (j : Nat) : ∀ y ∈ sel q ws j, 0 ≤ y.1 ∧ y.1 < j := by
  intro y hy
  unfold sel at hy
  obtain ⟨i, hi, h⟩ := List.mem_filterMap.1 hy
  rw [List.mem_range] at hi
  unfold selAt at h
  split at h
  · split at h
    · cases h
      constructor <;> simp <;> omega
    · cases h
  · cases h

/-- What some blocks hold is kept. -/
def KeepL (L : List Nat) (W W' : World) : Prop := ∀ k ∈ L, ∀ cs t fr, W.heap[k]? = some (.cells cs t fr) → W'.heap[k]? = some (.cells cs t fr)
theorem keepL_t {L : List Nat} {X Y Z : World} (h : KeepL L X Y) (k : KeepL L Y Z) : KeepL L X Z := fun i hi cs t fr e => k i hi cs t fr (h i hi cs t fr e)
theorem keepL_below {L : List Nat} {W W' : World} (h : Below W.heap.size W W') : KeepL L W W' := fun _ _ _ _ _ e => blk_below e h
theorem keepL_b {L : List Nat} (W : World) (l : Nat) (o o' : Obj) (hl : W.heap[l]? = some o) (ho : o.isCells = false) : KeepL L W (W.putObj l o') := fun k _ cs t fr hk => by
  have hne : k ≠ l := fun e => by subst e; rw [hk] at hl; cases hl; cases ho
  exact (World.putObj_heap_other hne).trans hk
theorem cell_obj {W : World} {k o : Nat} {v : Value} (h : W.cell? ⟨k, o, none⟩ = some v) : ∃ cs t fr, W.heap[k]? = some (.cells cs t fr) := by
  unfold World.cell? at h
  simp only at h
  split at h
  · rename_i cs t fr hk
    exact ⟨cs, t, fr, hk⟩
  · cases h
theorem keepL_cell {L : List Nat} {W W' : World} (h : KeepL L W W') {k o : Nat} {v : Value} (hk : k ∈ L) (hc : W.cell? ⟨k, o, none⟩ = some v) : W'.cell? ⟨k, o, none⟩ = some v := by
  obtain ⟨cs, t, fr, e⟩ := cell_obj hc
  rw [← hc]
  exact World.cell?_of_block (a := ⟨k, o, none⟩) ((h k hk cs t fr e).trans e.symm)

/-- A tally, as it lies. -/
structure TalAt (T E : Nat) (ek : K → Value) (base p g : Nat) (A : Option Addr) (n c cw : Nat) (vs : List Va) (ws : List (Wd K)) (w : World) : Prop where
  blk : w.heap[p]? = some (.cells #[.slice A n c, .slice (some ⟨g, 0, none⟩) n cw] T (0, 0))
  own : w.ownsRow base 39 17 (.slice A n c) n (rcells vs)
  wds : ∃ cur, w.heap[g]? = some (.cells cur E (0, 0)) ∧ ∀ (i : Nat) (x : Wd K), ws[i]? = some x → cur[i * 3]? = some (.bool x.1) ∧ cur[i * 3 + 1]? = some (ek x.2.1) ∧ cur[i * 3 + 2]? = some (.int .i64 x.2.2)
  nv : n = vs.length
  nw : n = ws.length
  good : ∀ x ∈ vs, x.1.length = 16
  hp : base ≤ p
  hg : base ≤ g
  hc : n ≤ cw ∧ cw ≤ maxLen
variable {T E : Nat} {ek : K → Value} {base p g : Nat} {A : Option Addr} {n c cw : Nat} {vs : List Va} {ws : List (Wd K)} {w w' : World}
theorem TalAt.vals (h : TalAt T E ek base p g A n c cw vs ws w) : Vals w (.slice A n c) vs := Vals.of_own h.own h.nv h.good
theorem TalAt.cell0 (h : TalAt T E ek base p g A n c cw vs ws w) : w.cell? ⟨p, 0, none⟩ = some (.slice A n c) := by simp [World.cell?, h.blk]
theorem TalAt.cell1 (h : TalAt T E ek base p g A n c cw vs ws w) : w.cell? ⟨p, 1, none⟩ = some (.slice (some ⟨g, 0, none⟩) n cw) := by simp [World.cell?, h.blk]
theorem TalAt.below (h : TalAt T E ek base p g A n c cw vs ws w) (hb : Below w.heap.size w w') : TalAt T E ek base p g A n c cw vs ws w' := by
  obtain ⟨cur, h1, h2⟩ := h.wds
  exact ⟨blk_below h.blk hb, h.own.kept (row := none) ⟨hb.os, hb.tape, hb.output, hb.size, fun k hk _ => hb.block k hk⟩ (by cases h' : (Value.slice A n c).ownBlock <;> simp), ⟨cur, blk_below h1 hb, h2⟩, h.nv, h.nw, h.good, h.hp, h.hg, h.hc⟩
theorem TalAt.range (h : TalAt T E ek base p g A n c cw vs ws w) {i : Nat} {x : Wd K} (hx : ws[i]? = some x) : w.rangeAt g (i * 3) (wcell ek x) := by
  obtain ⟨cur, h1, h2⟩ := h.wds
  obtain ⟨e0, e1, e2⟩ := h2 i x hx
  intro j u hu
  rw [cell_of_row _ _ _ _ _ _ h1]
  match j, hu with
  | 0, hu => cases hu; exact e0
  | 1, hu => cases hu; exact e1
  | 2, hu => cases hu; exact e2
  | j + 3, hu => simp [wcell] at hu
theorem TalAt.rangeK (h : TalAt T E ek base p g A n c cw vs ws w) (hk : ∀ cs t fr, w.heap[g]? = some (.cells cs t fr) → w'.heap[g]? = some (.cells cs t fr)) {i : Nat} {x : Wd K} (hx : ws[i]? = some x) : w'.rangeAt g (i * 3) (wcell ek x) := by
  obtain ⟨cur, h1, h2⟩ := h.wds
  intro j u hu
  rw [← h.range hx j u hu]
  exact World.cell?_of_block (a := ⟨g, i * 3 + j, none⟩) ((hk _ _ _ h1).trans h1.symm)
theorem TalAt.there (h : TalAt T E ek base p g A n c cw vs ws w) {i : Nat} (hi : i < n) : w.there g (i * 3) 3 := by
  obtain ⟨cur, h1, h2⟩ := h.wds
  obtain ⟨e0, e1, e2⟩ := h2 i _ (List.getElem?_eq_getElem (by rw [← h.nw]; exact hi))
  have hf : ∀ o, w.frozen? ⟨g, o, none⟩ = false := fun o => by
    simp [World.frozen?, h1]
  intro j hj
  refine ⟨?_, hf _⟩
  rw [cell_of_row _ _ _ _ _ _ h1]
  match j, hj with
  | 0, _ => rw [Nat.add_zero, e0]; rfl
  | 1, _ => rw [e1]; rfl
  | 2, _ => rw [e2]; rfl
theorem TalAt.same (h : TalAt T E ek base p g A n c cw vs ws w) (hb : But (fun k => k = g) w w') (hp : p ≠ g) (ho : ∀ k, (Value.slice A n c).ownBlock = some k → k ≠ g) {ws' : List (Wd K)}
    (hl : ws'.length = ws.length) (hw : ∃ cur, w'.heap[g]? = some (.cells cur E (0, 0)) ∧ ∀ (i : Nat) (x : Wd K), ws'[i]? = some x → cur[i * 3]? = some (.bool x.1) ∧ cur[i * 3 + 1]? = some (ek x.2.1) ∧ cur[i * 3 + 2]? = some (.int .i64 x.2.2)) :
    TalAt T E ek base p g A n c cw vs ws' w' := by
  refine ⟨hb.blk h.blk hp, ?_, hw, h.nv, by rw [hl]; exact h.nw, h.good, h.hp, h.hg, h.hc⟩
  rcases h.own with ⟨hl', h1 | ⟨b, cap, cur, hv, hbb, hg', rest⟩⟩
  · exact ⟨hl', .inl h1⟩
  · exact ⟨hl', .inr ⟨b, cap, cur, hv, hbb, hb.blk hg' (ho b (by rw [hv]; rfl)), rest⟩⟩
theorem TalAt.apart (h : TalAt T E ek base p g A n c cw vs ws w) (hTE : T ≠ E) (hE : E ≠ 39) : p ≠ g ∧ ∀ k, (Value.slice A n c).ownBlock = some k → k ≠ g := by
  obtain ⟨cur, h1, _⟩ := h.wds
  refine ⟨fun e => ?_, fun k hk e => ?_⟩
  · have := h.blk
    rw [e, h1] at this
    cases this
    exact hTE rfl
  · subst e
    rcases h.own with ⟨_, ⟨e, _⟩ | ⟨b, cap, cur', hv, _, hg', _⟩⟩
    · rw [e] at hk; simp [Value.ownBlock] at hk
    · rw [hv] at hk
      obtain rfl : b = k := by simpa [Value.ownBlock] using hk
      rw [h1] at hg'
      cases hg'
      exact hE rfl
theorem setCells3 (w : World) (g o : Nat) (a b c : Value) : w.setCells g o [a, b, c] = ((w.setCell ⟨g, o, none⟩ a).setCell ⟨g, o + 1, none⟩ b).setCell ⟨g, o + 2, none⟩ c := rfl
theorem set_at {W : World} {g i : Nat} {cs : Array Value} {t : TypeId} {fr : Nat × Nat} (h : W.heap[g]? = some (.cells cs t fr)) (v : Value) : (W.setCell ⟨g, i, none⟩ v).heap[g]? = some (.cells (cs.setIfInBounds i v) t fr) := by
  unfold World.setCell
  simp only
  rw [Array.getElem?_modify, if_pos rfl, h]
  simp
theorem but_set {S : Nat → Prop} {W : World} {g o : Nat} (v : Value) (hs : S g) : But S W (W.setCell ⟨g, o, none⟩ v) :=
  ⟨rfl, rfl, rfl, by rw [World.size_setCell]; exact Nat.le_refl _, fun k _ hk => heap_setCell_other W ⟨g, o, none⟩ k v (fun e => hk (by rw [show k = g from e]; exact hs))⟩
/-- A word has been put. -/
theorem TalAt.put (h : TalAt T E ek base p g A n c cw vs ws w) (hTE : T ≠ E) (hE : E ≠ 39) {i : Nat} (hi : i < n) (y : Wd K) :
    TalAt T E ek base p g A n c cw vs (ws.set i y) (w.setCells g (i * 3) (wcell ek y)) ∧ But (fun k => k = g) w (w.setCells g (i * 3) (wcell ek y)) := by
  obtain ⟨hpg, hog⟩ := h.apart hTE hE
  obtain ⟨cur, h1, h2⟩ := h.wds
  have hbut : But (fun k => k = g) w (w.setCells g (i * 3) (wcell ek y)) := by
    unfold wcell
    rw [setCells3]
    exact ((but_set (S := fun k => k = g) _ rfl).trans (but_set (S := fun k => k = g) _ rfl)).trans (but_set (S := fun k => k = g) _ rfl)
  refine ⟨h.same hbut hpg hog (by simp) ⟨((cur.setIfInBounds (i * 3) (.bool y.1)).setIfInBounds (i * 3 + 1) (ek y.2.1)).setIfInBounds (i * 3 + 2) (.int .i64 y.2.2), ?_, ?_⟩, hbut⟩
  · unfold wcell
    rw [setCells3]
    exact set_at (set_at (set_at h1 _) _) _
  · intro j x hx
    rw [List.getElem?_set] at hx
    have hs : i * 3 + 2 < cur.size := by
      have := (h2 i _ (List.getElem?_eq_getElem (by rw [← h.nw]; exact hi))).2.2
      exact (Array.getElem?_eq_some_iff.1 this).1
    split at hx
    · rename_i e
      subst e
      rw [if_pos (by rw [← h.nw]; exact hi)] at hx
      cases hx
      simp only [Array.getElem?_setIfInBounds, Array.size_setIfInBounds]
      refine ⟨?_, ?_, ?_⟩
      · rw [if_neg (by omega), if_neg (by omega), if_pos trivial, if_pos (by omega)]
      · rw [if_neg (by omega), if_pos trivial, if_pos (by omega)]
      · rw [if_pos trivial, if_pos (by omega)]
    · rename_i hne
      obtain ⟨e0, e1, e2⟩ := h2 j x hx
      simp only [Array.getElem?_setIfInBounds, Array.size_setIfInBounds]
      refine ⟨?_, ?_, ?_⟩
      · rw [if_neg (by omega), if_neg (by omega), if_neg (by omega)]; exact e0
      · rw [if_neg (by omega), if_neg (by omega), if_neg (by omega)]; exact e1
      · rw [if_neg (by omega), if_neg (by omega), if_neg (by omega)]; exact e2
end
end Go.Proofs.YtideopnblhbngaaDoor
