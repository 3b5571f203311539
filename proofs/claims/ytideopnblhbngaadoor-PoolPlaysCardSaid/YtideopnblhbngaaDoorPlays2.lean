/- What PoolPlays's round keeps; bytes that may be written over. -/
import Derived.Test.YtideopnblhbngaaDoorPlays
import Derived.Test.YtideopnblhbngaaDoorPoolFullW
import Derived.Test.YtideopnblhbngaaDoorAllR
namespace Go.Proofs.YtideopnblhbngaaDoor
open Go.RowKit Go.Shelf

/-- What a pool's texts are. -/
def GoodT (ts : List ByteArray) : Prop := ts.length ≤ 16 ∧ (∀ s ∈ ts, 1 ≤ s.size ∧ s.size ≤ 16) ∧ ts.Nodup
theorem GoodT.nil : GoodT [] := ⟨by simp, by simp, List.nodup_nil⟩
theorem GoodT.add {ts : List ByteArray} {bs : List Int} (h : GoodT ts) : GoodT (addT ts bs) := ⟨addT_few h.1, addT_siz h.2.1, addT_nd h.2.2⟩
theorem GoodT.drop {ts wo : List ByteArray} (h : GoodT ts) : GoodT (dropT ts wo) :=
  ⟨Nat.le_trans (dropT_len ts wo) h.1, fun s hs => h.2.1 s (List.mem_filter.1 hs).1, h.2.2.sublist List.filter_sublist⟩
/-- Two pools alike, and a call as it lies. -/
structure PlI (M : Nat → Prop) (w1 : World) (g : Nat) (cs : Array Value) (W : World) : Prop where
  pl : ∃ v u ts, PP M w1.heap.size w1.heap.size (w1.heap.size + 1) v u ts ts w1 W ∧ GoodT ts
  bo : W.heap[g]? = some (.cells cs 69 (0, 0))
theorem PlI.below {M : Nat → Prop} {w1 : World} {g : Nat} {cs : Array Value} {W W' : World} (h : PlI M w1 g cs W) (hb : Below W.heap.size W W') : PlI M w1 g cs W' := by
  obtain ⟨v, u, ts, hp, hg⟩ := h.pl
  exact ⟨⟨v, u, ts, hp.below hb, hg⟩, blk_below h.bo hb⟩

theorem numAdd (ts : List ByteArray) (bs : List Int) (al : List Addr) (aF aT aU : Addr) (w : World) (h : SenN w al) (hF : al[3]? = some aF) (hT : al[16]? = some aT) (hU : al[7]? = some aU) :
    Calls Tryd.prog 38 #[addV ts bs aF aT aU] w fun e w' => e = .returned (.int .i64 (addN ts bs)) ∧ Below w.heap.size w w' := by
  unfold addV addN
  split
  · exact num_err al 3 aF w h hF
  · split
    · exact num_err al 16 aT w h hT
    · split
      · exact num_err al 7 aU w h hU
      · refine (num_nil w).mono ?_
        rintro _ _ ⟨rfl, rfl⟩
        exact ⟨rfl, Below.refl _ _⟩

section
variable {P : Program} {ops : Array Oper} {E Z : World → World → Prop} {mu : Nat} {R : Nat → World → Value → Prop} {w0 : World}
theorem step_other4 {f : (Nat → Value) → Act} {i : Nat} {o : Oper} (hg : o.guard = none) (hi : i ≠ mu) (h : ∀ vs w, E w0 w → Deps R vs w o.after.toList → Gives P o (f vs).eval w (fun v w' => (E w w' ∧ Z w w') ∧ ∀ w'', E w' w'' → R i w'' v)) : StepOk4 P ops E Z mu R w0 f i o := by
  intro vs w h1 _ h3
  rw [if_pos (by simp [Region.wanted, hg])]
  exact (h vs w h1 h3).mono4 fun v w' hh => ⟨hh.1.1, fun _ => hh.1.2, fun w'' h4 => hh.2 w'' (by rwa [if_neg hi] at h4)⟩
theorem step_mu4 {f : (Nat → Value) → Act} {o : Oper} (hg : o.guard = none) (h : ∀ vs w, E w0 w → Z w0 w → Deps R vs w o.after.toList → Gives P o (f vs).eval w (fun v w' => E w w' ∧ ∀ w'', Z w' w'' → R mu w'' v)) : StepOk4 P ops E Z mu R w0 f mu o := by
  intro vs w h1 h2 h3
  rw [if_pos (by simp [Region.wanted, hg])]
  exact (h vs w h1 (h2 rfl) h3).mono4 fun v w' hh => ⟨hh.1, fun hn => absurd rfl hn, fun w'' h4 => hh.2 w'' (by rwa [if_pos rfl] at h4)⟩
end

/-- Bytes that may be written. -/
def Wr5 (base : Nat) (W : World) (v : Value) (n : Nat) : Prop :=
  n = 0 ∨ ∃ g off c cur fr, v = .slice (some ⟨g, off, none⟩) n c ∧ base ≤ g ∧ W.heap[g]? = some (.cells cur 5 fr) ∧ off + n ≤ cur.size ∧ (fr.2 ≤ fr.1 ∨ cur.size ≤ fr.1) ∧ ∀ i, i < n → ∃ x : Int, cur[off + i]? = some (.int .u8 x)
theorem Wr5.of_own {base : Nat} {W : World} {v : Value} {bs : List Int} (h : OwnO W base 5 v (u8s bs)) : Wr5 base W v bs.length := by
  rcases h with ⟨rfl, h0⟩ | ⟨g, off, cap, cur, fr, rfl, hb, hg, h1, h2, h3, h4, h5⟩
  · exact .inl (by simpa [u8s] using h0)
  · refine .inr ⟨g, off, cap, cur, fr, by simp [u8s], hb, hg, by simp [u8s] at h1; omega, h5, fun i hi => ⟨bs.getD i 0, ?_⟩⟩
    have e := congrArg (fun l => l[i]?) h4
    simp only [u8s, List.length_map, List.getElem?_take, if_pos hi, List.getElem?_drop, List.getElem?_map] at e
    rw [Array.getElem?_toList] at e
    rw [e, List.getD_eq_getElem?_getD, List.getElem?_eq_getElem hi]
    rfl
theorem setCell_at {W : World} {g i : Nat} {cs : Array Value} {t : TypeId} {fr : Nat × Nat} (h : W.heap[g]? = some (.cells cs t fr)) (v : Value) : (W.setCell ⟨g, i, none⟩ v).heap[g]? = some (.cells (cs.setIfInBounds i v) t fr) := by
  have hl := blk_lt h
  unfold World.setCell
  simp only
  rw [Array.getElem?_modify, if_pos rfl, h]
  simp
theorem Wr5.set {base g o : Nat} {W : World} {v : Value} {n : Nat} {cs : Array Value} {fr : Nat × Nat} (h : Wr5 base W v n) (hg : W.heap[g]? = some (.cells cs 5 fr)) (x : Int) : Wr5 base (W.setCell ⟨g, o, none⟩ (.int .u8 x)) v n := by
  rcases h with h | ⟨b, off, c, cur, fr', rfl, hb, hh, h1, h2, h3⟩
  · exact .inl h
  · by_cases e : b = g
    · subst e
      rw [hg] at hh
      cases hh
      refine .inr ⟨b, off, c, _, _, rfl, hb, setCell_at hg _, by simpa using h1, by simpa using h2, fun i hi => ?_⟩
      obtain ⟨y, hy⟩ := h3 i hi
      rw [Array.getElem?_setIfInBounds]
      split
      · split
        · exact ⟨x, rfl⟩
        · exfalso
          omega
      · exact ⟨y, hy⟩
    · exact .inr ⟨b, off, c, cur, fr', rfl, hb, (heap_setCell_other W ⟨g, o, none⟩ b _ e).trans hh, h1, h2, h3⟩
theorem Wr5.same {base : Nat} {W W' : World} {v : Value} {n : Nat} (h : Wr5 base W v n) (hs : ∀ k cs fr, base ≤ k → W.heap[k]? = some (.cells cs 5 fr) → W'.heap[k]? = W.heap[k]?) : Wr5 base W' v n := by
  rcases h with h | ⟨g, off, c, cur, fr, rfl, hb, hg, h1, h2, h3⟩
  · exact .inl h
  · exact .inr ⟨g, off, c, cur, fr, rfl, hb, (hs g cur fr hb hg).trans hg, h1, h2, h3⟩
theorem Wr5.at {base : Nat} {W : World} {A : Option Addr} {n c i : Nat} (h : Wr5 base W (.slice A n c) n) (hi : i < n) : ∃ g off x cs fr, A = some ⟨g, off, none⟩ ∧ base ≤ g ∧ W.heap[g]? = some (.cells cs 5 fr) ∧ W.cell? ⟨g, off + i, none⟩ = some (.int .u8 x) ∧ W.frozen? ⟨g, off + i, none⟩ = false := by
  rcases h with h | ⟨g, off, c', cur, fr, e, hb, hg, h1, h2, h3⟩
  · omega
  · obtain ⟨x, hx⟩ := h3 i hi
    simp only [Value.slice.injEq] at e
    refine ⟨g, off, x, cur, fr, e.1, hb, hg, by rw [cell_of_row _ _ _ _ _ _ hg]; exact hx, ?_⟩
    simp only [World.frozen?, hg]
    rw [Bool.and_eq_false_iff, decide_eq_false_iff_not, decide_eq_false_iff_not]
    rcases h2 with h2 | h2 <;> omega
end Go.Proofs.YtideopnblhbngaaDoor
