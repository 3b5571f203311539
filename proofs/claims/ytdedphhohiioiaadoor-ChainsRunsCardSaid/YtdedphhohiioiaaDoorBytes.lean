/- Slices of bytes that are handed on. -/
import Derived.Test.YtdedphhohiioiaaDoorStr
namespace Go.Proofs.YtdedphhohiioiaaDoor
open Go.RowKit

theorem cell_same {w w' : World} {b : Nat} (h : w'.heap[b]? = w.heap[b]?) (o : Nat) : w'.cell? ⟨b, o, none⟩ = w.cell? ⟨b, o, none⟩ := by
  simp only [World.cell?, h]

/-- A slice that reads as these bytes. -/
structure Bs (w : World) (v : Value) (bs : List Int) : Prop where
  form : ∃ A c, v = .slice A bs.length c
  cells : bs ≠ [] → ∃ b off c, v = .slice (some ⟨b, off, none⟩) bs.length c ∧ bs.length ≤ c ∧ c ≤ maxLen ∧ b < w.heap.size ∧ ∀ i, i < bs.length → w.cell? ⟨b, off + i, none⟩ = some (.int .u8 (bs.getD i 0))
  ok : u8s_ok bs

theorem Bs.same {w w' : World} {v : Value} {bs : List Int} (h : Bs w v bs) (hs : ∀ k, v.ownBlock = some k → k < w.heap.size → w'.heap[k]? = w.heap[k]?) : Bs w' v bs := by
  refine ⟨h.form, fun hne => ?_, h.ok⟩
  obtain ⟨b, off, c, rfl, h1, h2, h3, h4⟩ := h.cells hne
  have e := hs b rfl h3
  refine ⟨b, off, c, rfl, h1, h2, ?_, fun i hi => (cell_same e _).trans (h4 i hi)⟩
  obtain ⟨x, hx⟩ : ∃ x, w.heap[b]? = some x := ⟨_, Array.getElem?_eq_getElem h3⟩
  exact blk_lt (e.trans hx)
theorem Bs.below {w w' : World} {v : Value} {bs : List Int} (h : Bs w v bs) (hb : Below w.heap.size w w') : Bs w' v bs :=
  h.same fun k _ hk => hb.block k hk
theorem Bs.src {w : World} {v : Value} {bs : List Int} (h : Bs w v bs) : Src Tryd.prog 1 22 v bs.length (u8s bs) w := by
  cases hbs : bs with
  | nil =>
    obtain ⟨A, c, hv⟩ := h.form
    rw [hbs] at hv
    subst hv
    cases A with
    | none => exact Src.ofNil _ Tryd.underlying22 c
    | some a => exact Src.ofSlice _ Tryd.underlying22 a 0 c [] rfl (fun j u hu => by simp at hu) (fun u hu => by cases hu)
  | cons x xs =>
    rw [← hbs]
    obtain ⟨b, off, c, rfl, h1, h2, h3, h4⟩ := h.cells (by rw [hbs]; simp)
    refine Src.ofSlice _ Tryd.underlying22 _ _ c _ (by simp [u8s]) (fun j u hu => ?_) (one_u8s bs)
    have hj : j < bs.length := by
      have := (List.getElem?_eq_some_iff.1 hu).1
      simpa [u8s] using this
    rw [show (⟨b, off, none⟩ : Addr).add j = ⟨b, off + j, none⟩ by unfold Addr.add; split <;> simp_all, h4 j hj, ← hu]
    simp [u8s, List.getD_eq_getElem?_getD, hj]
theorem Bs.of_blk {w : World} {g t : Nat} {bs : List Int} {c : Nat} {fr : Nat × Nat} (h : w.heap[g]? = some (.cells (u8s bs).toArray t fr)) (hok : u8s_ok bs) (h1 : bs.length ≤ c) (h2 : c ≤ maxLen) : Bs w (.slice (some ⟨g, 0, none⟩) bs.length c) bs :=
  ⟨⟨_, _, rfl⟩, fun _ => ⟨g, 0, c, rfl, h1, h2, blk_lt h, fun i hi => by
    rw [Nat.zero_add]
    simp only [World.cell?, h]
    simp [u8s, List.getD_eq_getElem?_getD, hi]⟩, hok⟩
theorem Bs.of_own {w : World} {base : Nat} {v : Value} {bs : List Int} (h : OwnO w base 5 v (u8s bs)) (hok : u8s_ok bs) : Bs w v bs := by
  refine ⟨?_, fun hne => ?_, hok⟩
  · obtain ⟨A, c, he, _⟩ := h.len
    exact ⟨A, c, by rw [he, u8s_len']⟩
  · have hl : 0 < bs.length := by cases bs with | nil => exact absurd rfl hne | cons => simp
    obtain ⟨b, off, c, he, h1, h2, h3⟩ := h.row (by rw [u8s_len']; exact hl)
    rw [u8s_len'] at he h1
    subst he
    exact ⟨b, off, c, rfl, h1, h2, (h.lt b rfl).2, fun i hi => h3 i _ (by simp [u8s, List.getD_eq_getElem?_getD, hi])⟩
theorem Bs.nil {w : World} {A : Option Addr} {c : Nat} : Bs w (.slice A 0 c) [] := ⟨⟨A, c, rfl⟩, fun h => absurd rfl h, fun b hb => by cases hb⟩
theorem Bs.new (w : World) (bs : List Int) (hok : u8s_ok bs) (hl : bs.length ≤ 1099511627776) (fr : Nat × Nat) : Bs (w.alloc (.cells (u8s bs).toArray 5 fr)) (.slice (some ⟨w.heap.size, 0, none⟩) bs.length bs.length) bs :=
  Bs.of_blk (heap_alloc_new w _) hok (Nat.le_refl _) (by unfold maxLen; omega)

theorem write_bs (base hb : Nat) (m bs : List Int) (rv v : Value) (w : World) (H : HashAt base w hb m rv) (hv : Bs w v bs) (hne : v.ownBlock ≠ some hb) (hsm : m.length + bs.length ≤ 1099511627776)
    (hk : w.rangeAt 18 0 (u32s kk)) (hg1 : 18 < base) (hbase : base ≤ hb) :
    Calls Tryd.prog 32 #[.pointer (some ⟨hb, 0, none⟩), v] w fun e w' => e = .returned (.tuple #[]) ∧
      ∃ rv', HashAt base w' hb (m ++ bs) rv' ∧ (rv'.ownBlock = rv.ownBlock ∨ ∃ b, rv'.ownBlock = some b ∧ w.heap.size ≤ b) ∧ Only hb rv.ownBlock w w' := by
  obtain ⟨A, c, rfl⟩ := hv.form
  exact write_any base hb m bs rv A bs.length c w H hv.ok rfl hsm (fun w' hw => (hv.same fun k hk hlt => hw k hlt fun e => hne (by rw [hk, e])).src) hk hg1 hbase
theorem sumF_bs (bs : List Int) (v : Value) (w : World) (hv : Bs w v bs) (hsm : bs.length ≤ 1099511627776) (hk : w.rangeAt 18 0 (u32s kk)) (h18 : 18 < w.heap.size) :
    Calls Tryd.prog 27 #[v] w fun e w' => e = .returned (.agg (u8s (sha bs)).toArray) ∧ Below w.heap.size w w' := by
  obtain ⟨A, c, rfl⟩ := hv.form
  exact sumF_any bs A bs.length c w hv.ok rfl hsm (fun w' hw => (hv.same fun k _ hlt => hw k hlt).src) hk h18

/-- What Write has left is below whatever it did not make. -/
theorem Only.low {base hb : Nat} {m : List Int} {rv : Value} {w w' : World} (h : Only hb rv.ownBlock w w') (H : HashAt base w hb m rv) (hb' : base ≤ hb) (hw : base ≤ w.heap.size) : Below base w w' :=
  h.below hb' (fun k hk => (H.own.lt k hk).1) hw
end Go.Proofs.YtdedphhohiioiaaDoor
