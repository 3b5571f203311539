/- Slices of bytes, of such slices, of texts. -/
import Derived.Test.YtideopnblhbngaaDoorVal
import Derived.Laws.BytesArg
import Derived.Lib.ConvBytes
import Derived.Lib.SlBytesRow
import Derived.Laws.Cover3
namespace Go.Proofs.YtideopnblhbngaaDoor
open Go.RowKit

def u8s_ok (m : List Int) : Prop := ∀ b ∈ m, 0 ≤ b ∧ b ≤ 255
theorem cell_same {w w' : World} {b : Nat} (h : w'.heap[b]? = w.heap[b]?) (o : Nat) : w'.cell? ⟨b, o, none⟩ = w.cell? ⟨b, o, none⟩ := by
  simp only [World.cell?, h]
/-- A slice that reads as these bytes. -/
structure Bs (w : World) (v : Value) (bs : List Int) : Prop where
  form : ∃ A c, v = .slice A bs.length c
  cells : bs ≠ [] → ∃ b off c, v = .slice (some ⟨b, off, none⟩) bs.length c ∧ bs.length ≤ c ∧ c ≤ maxLen ∧ b < w.heap.size ∧ ∀ i, i < bs.length → w.cell? ⟨b, off + i, none⟩ = some (.int .u8 (bs.getD i 0))
  ok : u8s_ok bs
theorem Bs.same {w w' : World} {v : Value} {bs : List Int} (h : Bs w v bs) (hs : ∀ k, v.ownBlock = some k → k < w.heap.size → w'.heap[k]? = w.heap[k]?) : Bs w' v bs := by
  refine ⟨h.form, fun hne => ?_, h.ok⟩
  obtain ⟨b, off, c, rfl, h1, h2, h3, h4⟩ := h.cells hne
  have e := hs b rfl h3
  refine ⟨b, off, c, rfl, h1, h2, ?_, fun i hi => (cell_same e _).trans (h4 i hi)⟩
  obtain ⟨x, hx⟩ : ∃ x, w.heap[b]? = some x := ⟨_, Array.getElem?_eq_getElem h3⟩
  exact blk_lt (e.trans hx)
theorem Bs.below {w w' : World} {v : Value} {bs : List Int} (h : Bs w v bs) (hb : Below w.heap.size w w') : Bs w' v bs :=
  h.same fun k _ hk => hb.block k hk
theorem Bs.of_own {w : World} {base : Nat} {v : Value} {bs : List Int} (h : OwnO w base 5 v (u8s bs)) (hok : u8s_ok bs) : Bs w v bs := by
  refine ⟨?_, fun hne => ?_, hok⟩
  · obtain ⟨A, c, he, _⟩ := h.len
    exact ⟨A, c, by rw [he, u8s_len']⟩
  · have hl : 0 < bs.length := by cases bs with | nil => exact absurd rfl hne | cons => simp
    obtain ⟨b, off, c, he, h1, h2, h3⟩ := h.row (by rw [u8s_len']; exact hl)
    rw [u8s_len'] at he h1
    subst he
    exact ⟨b, off, c, rfl, h1, h2, (h.lt b rfl).2, fun i hi => h3 i _ (by simp [u8s, List.getD_eq_getElem?_getD, hi])⟩
theorem Bs.nil {w : World} {A : Option Addr} {c : Nat} : Bs w (.slice A 0 c) [] := ⟨⟨A, c, rfl⟩, fun h => absurd rfl h, fun b hb => by cases hb⟩
theorem Bs.len {w : World} {A : Option Addr} {n c : Nat} {bs : List Int} (h : Bs w (.slice A n c) bs) : n = bs.length := by
  obtain ⟨A', c', e⟩ := h.form
  simp only [Value.slice.injEq] at e
  exact e.2.1
theorem conv_bs {w : World} {v : Value} {bs : List Int} (h : Bs w v bs) : ∀ W, Ext w W → (convert 44 9 v).run Tryd.prog W = .ok (.string (strOfNums bs)) W := fun W hE => by
  have hW := h.below hE
  by_cases hne : bs = []
  · obtain ⟨A, c, rfl⟩ := h.form
    subst hne
    cases A with
    | none => exact run_convert_bytes_nil W 44 5 Tryd.underlying44 Tryd.underlying5 0 c 9 Tryd.underlying9
    | some a =>
      show (convert 44 9 (.slice (some a) 0 c)).run Tryd.prog W = _
      rw [run_convert_bytes_string W 44 9 5 (some a) 0 c Tryd.underlying44 Tryd.underlying5 Tryd.underlying9]
      simp [Conv.bytesToString, loadCells, strOfNums]
      rfl
  · obtain ⟨b, off, c, rfl, _, _, _, h4⟩ := hW.cells hne
    exact run_convert_bytes_arg W 44 5 Tryd.underlying44 Tryd.underlying5 b off bs.length c bs rfl h4 9 Tryd.underlying9
theorem wpList_conv_str {ops : Array Oper} {rest : List Oper} {o : Oper} {a : Act} {w : World} {Q : Exit → Act → World → Prop} (hw : Region.wanted o (yielded ops a.tmps) = true) (x : Operand) (ho : o.op = .convert 44 9 x) (v : Value) (bs : List Int)
    (hx : a.eval x = v) (hv : Bs w v bs) (h : wpList Tryd.prog ops Q rest (a.put o.dst (.string (strOfNums bs))) w) : wpList Tryd.prog ops Q (o :: rest) a w := by
  refine wpList_step fun K hK => ?_
  rw [if_pos hw]
  unfold Oper.wp execOp
  simp only [ho, hx, Sem.run_bind, Sem.run_pure, Result.andThen_ok, conv_bs hv w (Below.refl _ _)]
  exact hK _ _ h

/-- A string's bytes. -/
def sb (s : ByteArray) : List Int := s.data.toList.map fun b => (b.toNat : Int)
theorem sb_len (s : ByteArray) : (sb s).length = s.size := by simp [sb]
theorem sb_ok (s : ByteArray) : u8s_ok (sb s) := by
  intro b hb
  obtain ⟨x, _, rfl⟩ := List.mem_map.1 hb
  have := x.toNat_lt
  omega
theorem sb_str (bs : List Int) (h : u8s_ok bs) : sb (strOfNums bs) = bs := by
  unfold sb
  rw [strOfNums_data, List.map_map]
  conv => rhs; rw [← List.map_id bs]
  refine List.map_congr_left fun x hx => ?_
  have hx := h x hx
  have : (UInt8.ofNat x.toNat).toNat = x.toNat := by
    rw [UInt8.toNat_ofNat']
    omega
  simp only [Function.comp_apply, this, id]
  omega
theorem str_sb (s : ByteArray) : strOfNums (sb s) = s := by
  have : (strOfNums (sb s)).data = s.data := by
    apply Array.ext'
    rw [strOfNums_data, sb, List.map_map]
    conv => rhs; rw [← List.map_id s.data.toList]
    refine List.map_congr_left fun x _ => ?_
    simp
  cases s
  cases h : strOfNums (sb _)
  rw [h] at this
  simp_all
theorem str_inj {a b : List Int} (ha : u8s_ok a) (hb : u8s_ok b) (h : strOfNums a = strOfNums b) : a = b := by
  rw [← sb_str a ha, ← sb_str b hb, h]

theorem own_conv {base e : Nat} (w : World) (s : ByteArray) (hs : s.size ≤ 140737488355328) (hb : base ≤ w.heap.size) :
    OwnO (Lib.bytesWorld w e s) base e (.slice (some ⟨w.heap.size, 0, none⟩) s.size (grownCap w s.size 0 e)) (u8s (sb s)) := by
  have hge := grownCap_ge w s.size 0 e
  have hcm : grownCap w s.size 0 e ≤ maxLen := grownCap_le_maxLen w s.size 0 e (by simp only [maxLen]; omega)
  have hl : (u8s (sb s)).length = s.size := by rw [u8s_len', sb_len]
  have hsz : (Lib.bytesCells w e s).size = grownCap w s.size 0 e := by simp [Lib.bytesCells]; omega
  refine .inr ⟨w.heap.size, 0, _, _, _, by rw [hl], hb, Lib.bytesWorld_at_new w e s, by rw [hl]; exact hge, hcm, by rw [hsz]; omega, ?_, .inr (Nat.le_refl _)⟩
  rw [List.drop_zero, Lib.bytesCells, Array.toList_append]
  have : (s.data.map fun b => Value.int .u8 b.toNat).toList = u8s (sb s) := by simp [u8s, sb]
  rw [this]
  exact List.take_left
theorem below_conv (w : World) (e : TypeId) (s : ByteArray) : Below w.heap.size w (Lib.bytesWorld w e s) :=
  ⟨rfl, rfl, rfl, by rw [Lib.bytesWorld_size]; omega, fun k hk => Lib.bytesWorld_at_old w e s k hk⟩

/-- A slice of slices of bytes. -/
structure Bss (w : World) (v : Value) (ps : List (List Int)) : Prop where
  form : ∃ A c, v = .slice A ps.length c
  cells : ps ≠ [] → ∃ b off c, v = .slice (some ⟨b, off, none⟩) ps.length c ∧ ps.length ≤ c ∧ c ≤ maxLen ∧ b < w.heap.size ∧ ∀ i, i < ps.length → ∃ u, w.cell? ⟨b, off + i, none⟩ = some u ∧ Bs w u (ps.getD i [])
theorem Bss.below {w w' : World} {v : Value} {ps : List (List Int)} (h : Bss w v ps) (hb : Below w.heap.size w w') : Bss w' v ps := by
  refine ⟨h.form, fun hne => ?_⟩
  obtain ⟨b, off, c, e, h1, h2, h3, h4⟩ := h.cells hne
  refine ⟨b, off, c, e, h1, h2, Nat.lt_of_lt_of_le h3 hb.size, fun i hi => ?_⟩
  obtain ⟨u, hu, hbs⟩ := h4 i hi
  exact ⟨u, (hb.cell (p := ⟨b, off + i, none⟩) h3).trans hu, hbs.below hb⟩
theorem Bss.len {w : World} {A : Option Addr} {n c : Nat} {ps : List (List Int)} (h : Bss w (.slice A n c) ps) : n = ps.length := by
  obtain ⟨A', c', e⟩ := h.form
  simp only [Value.slice.injEq] at e
  exact e.2.1
theorem Bss.el {w : World} {A : Option Addr} {n c : Nat} {ps : List (List Int)} (h : Bss w (.slice A n c) ps) (i : Nat) (hi : i < n) :
    ∃ b off B m d, A = some ⟨b, off, none⟩ ∧ w.cell? ⟨b, off + i, none⟩ = some (.slice B m d) ∧ Bs w (.slice B m d) (ps.getD i []) := by
  have hl := h.len
  obtain ⟨b, off, c', e, _, _, h3, h4⟩ := h.cells (by intro e; subst e; simp at hl; omega)
  simp only [Value.slice.injEq] at e
  obtain ⟨u, hu, hb⟩ := h4 i (by omega)
  obtain ⟨B, d, rfl⟩ := hb.form
  exact ⟨b, off, B, _, d, e.1, hu, hb⟩
theorem Bss.nil {w : World} {A : Option Addr} {c : Nat} : Bss w (.slice A 0 c) [] := ⟨⟨A, c, rfl⟩, fun h => absurd rfl h⟩

def strs (ss : List ByteArray) : List Value := ss.map Value.string
theorem strs_len (ss : List ByteArray) : (strs ss).length = ss.length := by simp [strs]
theorem one_strs (xs : List ByteArray) : ∀ v ∈ strs xs, v.oneCell' = true := by
  intro v hv
  obtain ⟨x, _, rfl⟩ := List.mem_map.1 hv
  rfl
/-- A slice of strings. -/
structure Txs (w : World) (v : Value) (ss : List ByteArray) : Prop where
  form : ∃ A c, v = .slice A ss.length c
  cells : ss ≠ [] → ∃ b off c, v = .slice (some ⟨b, off, none⟩) ss.length c ∧ ss.length ≤ c ∧ c ≤ maxLen ∧ b < w.heap.size ∧ ∀ i, i < ss.length → w.cell? ⟨b, off + i, none⟩ = some (.string (ss.getD i ByteArray.empty))
theorem Txs.below {w w' : World} {v : Value} {ss : List ByteArray} (h : Txs w v ss) (hb : Below w.heap.size w w') : Txs w' v ss := by
  refine ⟨h.form, fun hne => ?_⟩
  obtain ⟨b, off, c, e, h1, h2, h3, h4⟩ := h.cells hne
  exact ⟨b, off, c, e, h1, h2, Nat.lt_of_lt_of_le h3 hb.size, fun i hi => (hb.cell (p := ⟨b, off + i, none⟩) h3).trans (h4 i hi)⟩
theorem Txs.len {w : World} {A : Option Addr} {n c : Nat} {ss : List ByteArray} (h : Txs w (.slice A n c) ss) : n = ss.length := by
  obtain ⟨A', c', e⟩ := h.form
  simp only [Value.slice.injEq] at e
  exact e.2.1
theorem Txs.el {w : World} {A : Option Addr} {n c : Nat} {ss : List ByteArray} (h : Txs w (.slice A n c) ss) (i : Nat) (hi : i < n) :
    ∃ b off, A = some ⟨b, off, none⟩ ∧ b < w.heap.size ∧ w.cell? ⟨b, off + i, none⟩ = some (.string (ss.getD i ByteArray.empty)) := by
  have hl := h.len
  obtain ⟨b, off, c', e, _, _, h3, h4⟩ := h.cells (by intro e; subst e; simp at hl; omega)
  simp only [Value.slice.injEq] at e
  exact ⟨b, off, e.1, h3, h4 i (by omega)⟩
theorem Txs.of_own {w : World} {base n : Nat} {v : Value} {ss : List ByteArray} (h : w.ownsRow base 9 1 v n (strs ss)) : Txs w v ss := by
  have hl : ss.length = n := by have := h.1; simpa [strs] using this
  rcases h.2 with ⟨rfl, h0⟩ | ⟨g, cap, cur, rfl, hb, hg, hnc, hm, hs, ht⟩
  · subst h0
    rw [List.eq_nil_of_length_eq_zero hl]
    exact ⟨⟨_, _, rfl⟩, fun h => absurd rfl h⟩
  · refine ⟨⟨_, cap, by rw [hl]⟩, fun hne => ⟨g, 0, cap, by rw [hl], by omega, hm, blk_lt hg, fun i hi => ?_⟩⟩
    have := h.cells (g := g) rfl i (.string (ss.getD i ByteArray.empty)) (by simp [strs, List.getD_eq_getElem?_getD, hi])
    rwa [show (⟨g, 0, none⟩ : Addr).add i = ⟨g, 0 + i, none⟩ by unfold Addr.add; split <;> simp_all] at this
end Go.Proofs.YtideopnblhbngaaDoor
