/- The reference's tally: Enough, Put. -/
import Derived.Test.YtideopnblhbngaaDoorTalR
import Derived.Test.YtideopnblhbngaaDoorTalN
import Derived.Test.YtideopnblhbngaaDoorRefEn
import Derived.Test.YtideopnblhbngaaDoorRely4
namespace Go.Proofs.YtideopnblhbngaaDoor
section
open Go.RowKit Go.Shelf
attribute [local go_sem] Oper.semAt_some

theorem gives_append {P : Program} {o : Oper} {ρ : Operand → Value} {w : World} {S : Value → World → Prop} (s x : Operand) (t : TypeId) (ho : o.op = .call { callee := .builtin .append, args := #[s, x], argTypes := #[t, t] })
    (base : Nat) (e : TypeId) (i : TypeInfo) (z : Value) (size bytes : Nat) (ht : P.underlying t = some (.slice e)) (hi : P.info? e = some i) (hz : i.zero = some z)
    (hsize : i.size = size) (hby : i.bytes = bytes) (hzs : z.cells.size = size) (hsz : 0 < size)
    (v : Value) (n : Nat) (xs : List Value) (hs : ρ s = v) (hown : w.ownsRow base e size v n xs)
    (ad : Addr) (m c : Nat) (news : List Value) (hx : ρ x = .slice (some ad) m c) (hl : news.length = m * size) (hnews : ∀ j u, news[j]? = some u → w.cell? (ad.add j) = some u) (h1 : ∀ u ∈ news, u.oneCell' = true)
    (h63 : n + m ≤ maxLen) (hbytes : (n + m) * bytes ≤ 140737488355328) (hbase : base ≤ w.heap.size)
    (h : ∀ v' w', w'.ownsRow base e size v' (n + m) (xs ++ news) → w.grownBy w' v.ownBlock → (v'.ownBlock = v.ownBlock ∨ v'.ownBlock = some w.heap.size) → S v' w') : Gives P o ρ w S := by
  obtain ⟨v', w', hr, h2, h3, h4, h5⟩ := run_append_own_at (P := P) w base t o.type e i z size bytes ht hi hz hsize hby hzs hsz v n xs hown ad m c news hl hnews h1 h63 hbytes hbase
  refine gives_val v' (w' := w') ?_ (h v' w' h2 h3 h5)
  unfold execOp
  simp only [ho, resolve, invoke, builtin, Sem.run_bind, Sem.run_pure, Result.andThen_ok, List.map_toArray, List.map_cons, List.map_nil, hs, hx]
  simp [hr, Result.andThen]

section
variable {P : Program} {ops : Array Oper} {E Z : World → World → Prop} {mu : Nat} {R : Nat → World → Value → Prop} {w0 : World}
theorem step4o {f : (Nat → Value) → Act} {i : Nat} {o : Oper} (hg : o.guard = none) (hi : i ≠ mu) (h : ∀ vs w, E w0 w → Deps R vs w o.after.toList → Gives P o (f vs).eval w (fun v w' => (E w w' ∧ Z w w') ∧ ∀ w'', E w' w'' → R i w'' v)) : StepOk4 P ops E Z mu R w0 f i o := by
  intro vs w h1 _ h3
  rw [if_pos (by simp [Region.wanted, hg])]
  exact (h vs w h1 h3).mono4 fun v w' hh => ⟨hh.1.1, fun _ => hh.1.2, fun w'' h4 => hh.2 w'' (by rwa [if_neg hi] at h4)⟩
theorem step4m {f : (Nat → Value) → Act} {o : Oper} (hg : o.guard = none) (h : ∀ vs w, E w0 w → Z w0 w → Deps R vs w o.after.toList → Gives P o (f vs).eval w (fun v w' => E w w' ∧ ∀ w'', Z w' w'' → R mu w'' v)) : StepOk4 P ops E Z mu R w0 f mu o := by
  intro vs w h1 h2 h3
  rw [if_pos (by simp [Region.wanted, hg])]
  exact (h vs w h1 (h2 rfl) h3).mono4 fun v w' hh => ⟨hh.1, fun hn => absurd rfl hn, fun w'' h4 => hh.2 w'' (by rwa [if_pos rfl] at h4)⟩
end
theorem gives_buildT {P : Program} {o : Oper} {ρ : Operand → Value} {w w' : World} {S : Value → World → Prop} (t : TypeId) (x : Operand) (ho : o.op = .buildSlice t 1 #[(0, x)]) (u : Value) (hx : ρ x = u) (v : Value)
    (hr : (Instr.buildSlice t 1 #[(0, u)]).run P w = .ok v w') (h : S v w') : Gives P o ρ w S :=
  gives_build t 1 _ ho #[(0, u)] (by simp [hx]) v hr h
theorem cell_one {W : World} {b : Nat} {u : Value} {t : TypeId} (h : W.heap[b]? = some (.cells #[u] t (0, 0))) : ∀ j v, ([u] : List Value)[j]? = some v → W.cell? ((⟨b, 0, none⟩ : Addr).add j) = some v := by
  intro j v hv
  match j, hv with
  | 0, hv =>
    cases hv
    simp [Addr.add, World.cell?, h]
  | j + 1, hv => simp at hv
theorem but_drewT {S : Nat → Prop} {w W : World} (h : But S w.drew W) : But S w W := ⟨h.os, h.tape, h.output, h.size, h.same⟩

/-- The words of the first n places that have a key: places and things. -/
def saidL (n : Nat) (xs : List W3) (k : Int) : List (Int × Int) := (List.range n).flatMap fun (i : Nat) => (xs.filter fun w => decide (w.2.1 = (i : Int)) && decide (w.1 = k)).map fun w => ((i : Int), w.2.2)
theorem saidL_succ (n : Nat) (xs : List W3) (k : Int) : saidL (n + 1) xs k = saidL n xs k ++ (xs.filter fun w => decide (w.2.1 = (n : Int)) && decide (w.1 = k)).map fun w => ((n : Int), w.2.2) := by
  simp [saidL, List.range_succ]
/-- .. and of one place, of the first j words. -/
def saidI (i j : Nat) (xs : List W3) (k : Int) : List (Int × Int) := ((xs.take j).filter fun w => decide (w.2.1 = (i : Int)) && decide (w.1 = k)).map fun w => ((i : Int), w.2.2)
theorem saidI_all (i : Nat) (xs : List W3) (k : Int) : saidI i xs.length xs k = (xs.filter fun w => decide (w.2.1 = (i : Int)) && decide (w.1 = k)).map fun w => ((i : Int), w.2.2) := by
  unfold saidI
  rw [List.take_length]
theorem saidI_yes {i j : Nat} {xs : List W3} {k x : Int} (h : xs[j]? = some (k, (i : Int), x)) : saidI i (j + 1) xs k = saidI i j xs k ++ [((i : Int), x)] := by
  unfold saidI
  rw [List.take_add_one, h, List.filter_append, List.map_append]
  simp
theorem saidI_no {i j : Nat} {xs : List W3} {k kk who x : Int} (h : xs[j]? = some (kk, who, x)) (hn : ¬ (who = i ∧ kk = k)) : saidI i (j + 1) xs k = saidI i j xs k := by
  unfold saidI
  rw [List.take_add_one, h, List.filter_append, List.map_append]
  have : (decide (who = (i : Int)) && decide (kk = k)) = false := by
    rw [Bool.and_eq_false_iff, decide_eq_false_iff_not, decide_eq_false_iff_not]
    by_cases h1 : who = (i : Int)
    · exact .inr fun h2 => hn ⟨h1, h2⟩
    · exact .inl h1
  simp [this]
theorem saidI_len (i j : Nat) (xs : List W3) (k : Int) : (saidI i j xs k).length ≤ j := by
  unfold saidI
  rw [List.length_map]
  have h1 := List.length_filter_le (fun w : W3 => decide (w.2.1 = (i : Int)) && decide (w.1 = k)) (xs.take j)
  rw [List.length_take] at h1
  omega
theorem saidL_len (xs : List W3) (k : Int) : ∀ n, (saidL n xs k).length ≤ n * xs.length
  | 0 => by simp [saidL]
  | n + 1 => by
    have ih := saidL_len xs k n
    rw [saidL_succ, List.length_append, List.length_map]
    have h1 := List.length_filter_le (fun w : W3 => decide (w.2.1 = (n : Int)) && decide (w.1 = k)) xs
    rw [Nat.add_mul]
    omega

/-- What the loops that gather hold. -/
structure SdI (w : World) (v1 v2 : Value) (ln : Nat) (ys : List (Int × Int)) (W : World) : Prop where
  o1 : W.ownsRow w.heap.size 3 1 v1 ln (i64s (ys.map (·.1)))
  o2 : W.ownsRow w.heap.size 3 1 v2 ln (i64s (ys.map (·.2)))
  ne : ∀ k, v1.ownBlock = some k → v2.ownBlock = some k → False
  bel : Below w.heap.size w W
  len : ln = ys.length
theorem SdI.below {w W W' : World} {v1 v2 : Value} {ln : Nat} {ys : List (Int × Int)} (h : SdI w v1 v2 ln ys W) (hb : Below W.heap.size W W') : SdI w v1 v2 ln ys W' :=
  ⟨h.o1.kept (row := none) ⟨hb.os, hb.tape, hb.output, hb.size, fun k hk _ => hb.block k hk⟩ (by cases h' : v1.ownBlock <;> simp), h.o2.kept (row := none) ⟨hb.os, hb.tape, hb.output, hb.size, fun k hk _ => hb.block k hk⟩ (by cases h' : v2.ownBlock <;> simp), h.ne, h.bel.trans (hb.mono h.bel.size), h.len⟩

def w3s (xs : List W3) : List Value := xs.flatMap w3
theorem w3s_len (xs : List W3) : (w3s xs).length = xs.length * 3 := by
  induction xs with
  | nil => rfl
  | cons x xs ih => simp only [w3s, List.flatMap_cons, List.length_append, List.length_cons, w3] at ih ⊢; rw [ih]; simp; omega
theorem w3s_at : ∀ (xs : List W3) (i : Nat) (x : W3) (r : Nat), xs[i]? = some x → r < 3 → (w3s xs)[i * 3 + r]? = (w3 x)[r]?
  | [], i, x, r, h, _ => by simp at h
  | y :: ys, 0, x, r, h, hr => by
    simp only [List.getElem?_cons_zero, Option.some.injEq] at h
    subst h
    simp only [w3s, List.flatMap_cons]
    rw [List.getElem?_append_left (by simp [w3]; omega)]
    congr 1
    omega
  | y :: ys, i + 1, x, r, h, hr => by
    have ih := w3s_at ys i x r (by simpa using h) hr
    simp only [w3s, List.flatMap_cons] at ih ⊢
    rw [List.getElem?_append_right (by simp [w3]; omega), ← ih]
    congr 1
    simp [w3]
    omega
theorem w3s_snoc (xs : List W3) (x : W3) : w3s (xs ++ [x]) = w3s xs ++ w3 x := by simp [w3s]
/-- The reference's tally, as it lies. -/
structure RTalAt (base q : Nat) (A A' : Option Addr) (n c m c' : Nat) (vs : List Va) (xs : List W3) (w : World) : Prop where
  blk : w.heap[q]? = some (.cells #[.slice A n c, .slice A' m c'] 100 (0, 0))
  vals : Vals w (.slice A n c) vs
  own : w.ownsRow base 85 3 (.slice A' m c') m (w3s xs)
  len : m = xs.length
  hq : base ≤ q
theorem RTalAt.wds {base q : Nat} {A A' : Option Addr} {n c m c' : Nat} {vs : List Va} {xs : List W3} {w : World} (h : RTalAt base q A A' n c m c' vs xs w) : Wsl w (.slice A' m c') xs := by
  refine ⟨⟨A', c', by rw [h.len]⟩, fun hne => ?_⟩
  rcases h.own with ⟨hl, ⟨e, h0⟩ | ⟨g, cap, cur, e, hb, hg, h1, h2, h3, h4⟩⟩
  · have := h.len
    rw [h0] at this
    exact absurd (List.eq_nil_of_length_eq_zero this.symm) hne
  · simp only [Value.slice.injEq] at e
    obtain ⟨rfl, -, rfl⟩ := e
    refine ⟨g, 0, c', by rw [h.len], by rw [← h.len]; exact h1, h2, blk_lt hg, fun i x hx j u hu => ?_⟩
    have hj : j < 3 := (List.getElem?_eq_some_iff.1 hu).1
    have hi : i < m := by rw [h.len]; exact (List.getElem?_eq_some_iff.1 hx).1
    rw [cell_of_row _ _ _ _ _ _ hg, ← Array.getElem?_toList]
    have h5 : (cur.toList.take (m * 3))[i * 3 + j]? = some u := by rw [h4, w3s_at xs i x j hx hj]; exact hu
    rw [List.getElem?_take, if_pos (by omega)] at h5
    rw [Nat.zero_add]
    exact h5
theorem RTalAt.below {base q : Nat} {A A' : Option Addr} {n c m c' : Nat} {vs : List Va} {xs : List W3} {w w' : World} (h : RTalAt base q A A' n c m c' vs xs w) (hb : Below w.heap.size w w') : RTalAt base q A A' n c m c' vs xs w' :=
  ⟨blk_below h.blk hb, h.vals.below hb, h.own.kept (row := none) ⟨hb.os, hb.tape, hb.output, hb.size, fun k hk _ => hb.block k hk⟩ (by cases h' : (Value.slice A' m c').ownBlock <;> simp), h.len, h.hq⟩

set_option maxHeartbeats 8000000 in
set_option maxRecDepth 100000 in
theorem refSaid_any (base q : Nat) (A A' : Option Addr) (n c m c' : Nat) (vs : List Va) (xs : List W3) (k : Int) (w : World) (ht : RTalAt base q A A' n c m c' vs xs w) (hz : n ≤ 100) (hz2 : m ≤ 100) :
    Calls Tryd.prog 61 #[.pointer (some ⟨q, 0, none⟩), .int .i64 k] w fun e w' => (∃ v1 v2, e = .returned (.tuple #[v1, v2]) ∧ SdI w v1 v2 (saidL n xs k).length (saidL n xs k) w') := by
  obtain ⟨i0, hi0, hz0, hz1, hz2'⟩ := info_parts Tryd.info3
  have HT := Lib.hid ht
  have HM := Lib.hid ht.wds.len
  clear ht
  have hs0 : SdI w (.slice (some ⟨w.heap.size, 0, none⟩) 0 0) (.slice (some ⟨w.heap.size + 1, 0, none⟩) 0 0) 0 (saidL 0 xs k) ((w.alloc (.cells #[] 3)).alloc (.cells #[] 3)) := by
    have b1 : Below w.heap.size w (w.alloc (.cells #[] 3)) := (Below.refl _ _).alloc (Nat.le_refl _) _
    have b2 : Below (w.alloc (.cells #[] 3)).heap.size (w.alloc (.cells #[] 3)) ((w.alloc (.cells #[] 3)).alloc (.cells #[] 3)) := (Below.refl _ _).alloc (Nat.le_refl _) _
    have o1 : (w.alloc (.cells #[] 3)).ownsRow w.heap.size 3 1 (.slice (some ⟨w.heap.size, 0, none⟩) 0 0) 0 [] := own_empty w #[] rfl (Nat.le_refl _)
    have o2 : ((w.alloc (.cells #[] 3)).alloc (.cells #[] 3)).ownsRow w.heap.size 3 1 (.slice (some ⟨(w.alloc (.cells #[] 3)).heap.size, 0, none⟩) 0 0) 0 [] := own_empty (w.alloc (.cells #[] 3)) #[] rfl (by simp)
    rw [World.size_alloc] at o2
    refine ⟨o1.kept (row := none) ⟨b2.os, b2.tape, b2.output, b2.size, fun k hk _ => b2.block k hk⟩ (by simp [Value.ownBlock]), o2, fun j h1 h2 => ?_, b1.trans (b2.mono (by simp)), rfl⟩
    simp [Value.ownBlock] at h1 h2
    omega
  have H0 := Lib.hid hs0
  have hb0 : Below w.heap.size w ((w.alloc (.cells #[] 3)).alloc (.cells #[] 3)) := hs0.bel
  have c0 := blk_cell (HT.out.below hb0).blk 0 _ rfl
  clear hs0 hb0
  go_enter Tryd.func61, Tryd.ntmps61
  go_wp2
  clear c0
  go_loopw [6, 7, 18] (fun a b x wr => ∃ (i : Nat) (A1 A2 : Option Addr) (d1 d2 ln : Nat), i ≤ n ∧ x = .int .i64 i ∧ a = .slice A1 ln d1 ∧ b = .slice A2 ln d2 ∧ Hid (SdI w (.slice A1 ln d1) (.slice A2 ln d2) ln (saidL i xs k) wr))
    (fun _ _ x _ => n - (intOf x).toNat)
  case atStart => exact ⟨0, _, _, _, _, 0, by omega, rfl, rfl, rfl, H0⟩
  case round =>
    clear H0
    obtain ⟨i, A1, A2, d1, d2, ln, hi, rfl, rfl, rfl, SI⟩ := hrel
    have c1 := blk_cell (HT.out.below SI.out.bel).blk 1 _ rfl
    by_cases hlt : i < n
    · have hil : (i : Int) < n := by omega
      obtain ⟨wo, hwo⟩ : ∃ x, x = wr := ⟨_, rfl⟩
      subst hwo
      have hS0 : Hid (SdI w (.slice A1 ln d1) (.slice A2 ln d2) ln (saidL i xs k ++ saidI i 0 xs k) wo) := Lib.hid (by simpa [saidI] using SI.out)
      have hsl := saidL_len xs k i
      have hle : (saidL i xs k).length ≤ 10000 := by
        have h1 := HM.out
        have : i * xs.length ≤ 100 * 100 := Nat.mul_le_mul (by omega) (by omega)
        omega
      clear SI hsl
      go_wp2
      go_loopw [6, 7, 26] (fun a b x wr => ∃ (j : Nat) (A1 A2 : Option Addr) (d1 d2 ln : Nat), j ≤ m ∧ x = .int .i64 j ∧ a = .slice A1 ln d1 ∧ b = .slice A2 ln d2 ∧ Hid (SdI w (.slice A1 ln d1) (.slice A2 ln d2) ln (saidL i xs k ++ saidI i j xs k) wr))
        (fun _ _ x _ => m - (intOf x).toNat)
      case atStart => exact ⟨0, _, _, _, _, _, by omega, rfl, rfl, rfl, hS0⟩
      case round =>
        clear hS0 c1
        obtain ⟨j, A1, A2, d1, d2, ln, hj, rfl, rfl, rfl, SI⟩ := hrel
        by_cases hjl : j < m
        · have hjl' : (j : Int) < m := by omega
          obtain ⟨b, off, kk, who, x, rfl, hmc, hX, e0, e1, e2⟩ := (HT.out.below SI.out.bel).wds.el j hjl
          have HX := Lib.hid hX
          have hbx : Below wr.heap.size wr (wr.alloc (.cells #[.int .i64 kk, .int .i64 who, .int .i64 x] 85)) := (Below.refl _ _).alloc (Nat.le_refl _) _
          have SB := Lib.hid (SI.out.below hbx)
          have hln : ln ≤ 20000 := by
            have h1 := SI.out.len
            have h2 := saidI_len i j xs k
            rw [List.length_append] at h1
            omega
          clear hX hbx SI
          by_cases hm : who = i ∧ kk = k
          · obtain ⟨rfl, rfl⟩ := hm
            go_wp2_with fail
            obtain ⟨wb, hwb⟩ : ∃ y, y = wr.alloc (.cells #[.int .i64 kk, .int .i64 (i : Int), .int .i64 x] 85) := ⟨_, rfl⟩
            have hBX : wb.heap[wr.heap.size]? = some (.cells #[.int .i64 kk, .int .i64 (i : Int), .int .i64 x] 85 (0, 0)) := by rw [hwb]; exact heap_alloc_new wr _
            have BX := Lib.hid hBX
            rw [← hwb] at SB ⊢
            clear hwb hBX
            have hb0 : w.heap.size ≤ wb.heap.size := SB.out.bel.size
            have hS1 : ∀ j, (Value.slice A1 ln d1).ownBlock = some j → j < wb.heap.size := fun j hj => (SB.out.o1.lt j hj).2
            have hS2 : ∀ j, (Value.slice A2 ln d2).ownBlock = some j → j < wb.heap.size := fun j hj => (SB.out.o2.lt j hj).2
            have HS1 := Lib.hid hS1
            have HS2 := Lib.hid hS2
            have HBN : Hid (¬ (Value.slice A1 ln d1).ownBlock = some wr.heap.size) := Lib.hid (fun e => own_not SB.out.o1 BX.out (by decide) e)
            clear hS1 hS2
            obtain ⟨S, hS⟩ : ∃ S : Nat → Prop, S = fun j => (Value.slice A1 ln d1).ownBlock = some j := ⟨_, rfl⟩
            have HSS : Hid (∀ j, S j ↔ (Value.slice A1 ln d1).ownBlock = some j) := Lib.hid (fun j => by rw [hS])
            clear hS
            refine wp_region_rely4 (by kernel_rfl) 8 (by kernel_rfl) (by kernel_rfl) (But S) Ext 3 (But.refl _) Ext.refl Ext.trans But.trans (fun ix => match ix with
              | 0 => fun _ y => y = .slice A1 ln d1
              | 1 => fun _ y => y = .int .i64 i
              | 2 => fun W y => ∃ b, y = .slice (some ⟨b, 0, none⟩) 1 1 ∧ W.heap[b]? = some (.cells #[.int .i64 i] 3 (0, 0)) ∧ wb.heap.size ≤ b
              | 3 => fun W y => W.ownsRow w.heap.size 3 1 y (ln + 1) (i64s ((saidL i xs kk ++ saidI i (j + 1) xs kk).map (·.1))) ∧ (∀ t, y.ownBlock = some t → (Value.slice A1 ln d1).ownBlock = some t ∨ wb.heap.size ≤ t)
              | 4 => fun _ y => y = .slice A2 ln d2
              | 5 => fun _ y => y = .pointer (some ⟨wr.heap.size, 2, none⟩)
              | 6 => fun _ y => y = .int .i64 x
              | 7 => fun W y => ∃ b, y = .slice (some ⟨b, 0, none⟩) 1 1 ∧ W.heap[b]? = some (.cells #[.int .i64 x] 3 (0, 0)) ∧ wb.heap.size ≤ b
              | _ => fun _ _ => False) ?_
            simp (maxSteps := 10000000) only [Rely4, List.take_succ_cons, List.take_zero, List.drop_succ_cons, List.drop_zero, Nat.reduceAdd, Nat.zero_add, Act.put, List.setIfInBounds_toArray, List.set_cons_succ, List.set_cons_zero]
            have e1' : i64s ((saidL i xs kk ++ saidI i (j + 1) xs kk).map (·.1)) = i64s ((saidL i xs kk ++ saidI i j xs kk).map (·.1)) ++ [.int .i64 (i : Int)] := by rw [saidI_yes HX.out, ← List.append_assoc, List.map_append]; simp [i64s]
            have e2' : i64s ((saidL i xs kk ++ saidI i (j + 1) xs kk).map (·.2)) = i64s ((saidL i xs kk ++ saidI i j xs kk).map (·.2)) ++ [.int .i64 x] := by rw [saidI_yes HX.out, ← List.append_assoc, List.map_append]; simp [i64s]
            have HE1 := Lib.hid e1'
            have HE2 := Lib.hid e2'
            clear e1' e2'
            have notS : Hid (∀ b, wb.heap.size ≤ b → ¬ S b) := Lib.hid (fun b hb hs => by have := HS1.out b ((HSS.out b).1 hs); omega)
            refine ⟨?_, ?_, ?_, ?_, ?_, ?_, ?_, ?_, ?_⟩
            · refine step4o rfl (by decide) fun vs wq hE hd => ?_
              exact gives_move _ (.slice A1 ln d1) (.inl rfl) rfl ⟨⟨But.refl _ _, Ext.refl _⟩, fun _ _ => rfl⟩
            · refine step4o rfl (by decide) fun vs wq hE hd => ?_
              exact gives_move _ (.int .i64 i) (.inl rfl) rfl ⟨⟨But.refl _ _, Ext.refl _⟩, fun _ _ => rfl⟩
            · refine step4o rfl (by decide) fun vs wq hE hd => ?_
              have hq : wb.heap.size ≤ wq.heap.size := (but_drewT hE).size
              have hbl : Below wq.heap.size wq (wq.alloc (.cells #[.int .i64 i] 3)) := (Below.refl _ _).alloc (Nat.le_refl _) _
              exact gives_buildT 28 _ rfl (.int .i64 i) (show vs 1 = _ from hd.1) (.slice (some ⟨wq.heap.size, 0, none⟩) 1 1) (w' := wq.alloc (.cells #[.int .i64 i] 3)) (by go_simp) ⟨⟨But.of_below hbl, hbl⟩, fun W2 h2 => ⟨wq.heap.size, rfl, h2.blk (heap_alloc_new wq _) (notS.out _ hq), hq⟩⟩
            · refine step4m rfl fun vs wq hE hZ hd => ?_
              have hbz := ext_of_drew hZ
              obtain ⟨b, h2, hb, hbl⟩ := hd.2.1
              have own := (SB.out.below hbz).o1
              refine gives_append _ _ 28 rfl w.heap.size 3 i0 (.int .i64 0) 1 8 Tryd.underlying28 hi0 hz0 hz1 hz2' rfl (by decide) (.slice A1 ln d1) ln _ (show vs 0 = _ from hd.1) own ⟨b, 0, none⟩ 1 1 [.int .i64 i] (show vs 2 = _ from h2) rfl (cell_one hb) (by simp [Value.oneCell']) (by simp only [maxLen]; omega) (by omega) (Nat.le_trans hb0 hbz.size) ?_
              intro v' w' ho hg hp
              refine ⟨⟨hg.os, hg.tape, hg.output, hg.size, fun t ht hs => hg.block t ht (fun e => hs ((HSS.out t).2 e.symm))⟩, fun W2 h2 => ⟨?_, fun t htt => ?_⟩⟩
              · rw [HE1.out]
                exact ho.kept (row := none) ⟨h2.os, h2.tape, h2.output, h2.size, fun k hk _ => h2.block k hk⟩ (by cases h' : v'.ownBlock <;> simp)
              · rcases hp with h | h
                · exact .inl (by rw [← h]; exact htt)
                · rw [h] at htt
                  cases htt
                  exact .inr hbz.size
            · refine step4o rfl (by decide) fun vs wq hE hd => ?_
              exact gives_move _ (.slice A2 ln d2) (.inl rfl) rfl ⟨⟨But.refl _ _, Ext.refl _⟩, fun _ _ => rfl⟩
            · refine step4o rfl (by decide) fun vs wq hE hd => ?_
              exact gives_fieldAddr' 85 _ 2 rfl (.pointer (some ⟨wr.heap.size, 0, none⟩)) (.pointer (some ⟨wr.heap.size, 2, none⟩)) rfl (by go_simp) ⟨⟨But.refl _ _, Ext.refl _⟩, fun _ _ => rfl⟩
            · refine step4o rfl (by decide) fun vs wq hE hd => ?_
              have hc := blk_cell ((but_drewT hE).blk BX.out (fun hs => HBN.out ((HSS.out _).1 hs))) 2 _ rfl
              exact gives_loadAt 3 _ rfl (.pointer (some ⟨wr.heap.size, 2, none⟩)) (.int .i64 x) (show vs 5 = _ from hd.1) (by go_simp) ⟨⟨But.refl _ _, Ext.refl _⟩, fun _ _ => rfl⟩
            · refine step4o rfl (by decide) fun vs wq hE hd => ?_
              have hq : wb.heap.size ≤ wq.heap.size := (but_drewT hE).size
              have hbl : Below wq.heap.size wq (wq.alloc (.cells #[.int .i64 x] 3)) := (Below.refl _ _).alloc (Nat.le_refl _) _
              exact gives_buildT 28 _ rfl (.int .i64 x) (show vs 6 = _ from hd.1) (.slice (some ⟨wq.heap.size, 0, none⟩) 1 1) (w' := wq.alloc (.cells #[.int .i64 x] 3)) (by go_simp) ⟨⟨But.of_below hbl, hbl⟩, fun W2 h2 => ⟨wq.heap.size, rfl, h2.blk (heap_alloc_new wq _) (notS.out _ hq), hq⟩⟩
            · intro vs wz hE hR
              obtain ⟨ho3, hp3⟩ := hR 3 (by omega)
              have h4 : vs 4 = .slice A2 ln d2 := hR 4 (by omega)
              obtain ⟨b7, h7, hb7, hl7⟩ := hR 7 (by omega)
              obtain ⟨A3, d3, e3⟩ := own_form ho3
              rw [e3] at ho3 hp3
              have hB := but_drewT hE
              have hO2 : wz.ownsRow w.heap.size 3 1 (.slice A2 ln d2) ln (i64s ((saidL i xs kk ++ saidI i j xs kk).map (·.2))) := by
                rcases SB.out.o2 with ⟨hl', h1 | ⟨g, cap, cur, hv, hbb, hg2, rest⟩⟩
                · exact ⟨hl', .inl h1⟩
                · exact ⟨hl', .inr ⟨g, cap, cur, hv, hbb, hB.blk hg2 (fun hs => SB.out.ne g ((HSS.out g).1 hs) (by rw [hv]; rfl)), rest⟩⟩
              have hBelow : Below w.heap.size w wz := SB.out.bel.trans (hB.low hb0 (fun t hs => (SB.out.o1.lt t ((HSS.out t).1 hs)).1))
              have O2 := Lib.hid hO2
              have O3 := Lib.hid ho3
              have P3 := Lib.hid hp3
              have HB := Lib.hid hBelow
              have HC7 := Lib.hid (cell_one hb7)
              have hzb : w.heap.size ≤ wz.heap.size := hBelow.size
              have HZB := Lib.hid hB.size
              rw [e3, h4, h7]
              clear hR hE ho3 hp3 e3 h4 h7 hb7 hB hO2 hBelow notS BX HBN
              go_wp2_with (at_builtin; refine wpList_append_own_at _ rfl _ _ 28 rfl w.heap.size 3 i0 (.int .i64 0) 1 8 Tryd.underlying28 hi0 hz0 hz1 hz2' rfl (by decide) (.slice A2 ln d2) ln _ rfl O2.out ⟨b7, 0, none⟩ 1 1 [.int .i64 x] rfl rfl HC7.out (by simp [Value.oneCell']) (by simp only [maxLen]; omega) (by omega) hzb ?_; intro v9 w9 hown9 hgrow9 _ hat9; obtain ⟨A9, d9, rfl⟩ := own_form hown9; have O9 := Lib.hid hown9; have G9 := Lib.hid hgrow9; have AT9 := Lib.hid hat9; clear hown9 hgrow9 hat9)
              go_roundw
              case rel =>
                refine ⟨j + 1, _, _, _, _, ln + 1, by omega, by go_num, rfl, rfl, Lib.hid ⟨?_, by rw [HE2.out]; exact O9.out, ?_, ?_, ?_⟩⟩
                · exact O3.out.kept G9.out (by
                    cases h' : (Value.slice A3 (ln + 1) d3).ownBlock with
                    | none => simp
                    | some t =>
                      right
                      intro e
                      rcases P3.out t h' with h | h
                      · exact SB.out.ne t h (by rw [e])
                      · have := HS2.out t (by rw [e])
                        omega)
                · intro t ht1 ht2
                  have hlt1 := (O3.out.lt t ht1).2
                  rcases AT9.out with h | h
                  · rw [h] at ht2
                    rcases P3.out t ht1 with h3 | h3
                    · exact SB.out.ne t h3 ht2
                    · have := HS2.out t ht2
                      omega
                  · rw [h] at ht2
                    cases ht2
                    omega
                · exact HB.out.grown G9.out HB.out.size (fun t e => (SB.out.o2.lt t e).1)
                · have h1 := SB.out.len
                  rw [saidI_yes HX.out, ← List.append_assoc, List.length_append, ← h1]
                  rfl
              case measure => simp [intOf]; omega
          · have SN : Hid (SdI w (.slice A1 ln d1) (.slice A2 ln d2) ln (saidL i xs k ++ saidI i (j + 1) xs k) (wr.alloc (.cells #[.int .i64 kk, .int .i64 who, .int .i64 x] 85))) := Lib.hid (by rw [saidI_no HX.out hm]; exact SB.out)
            by_cases h1 : who = i
            · have h2 : (kk == k) = false := by simp; exact fun e => hm ⟨h1, e⟩
              have h1' : (who == (i : Int)) = true := by simp [h1]
              clear hm h1
              go_wp2_with fail
              go_roundw
              case rel => exact ⟨j + 1, _, _, _, _, _, by omega, by go_num, rfl, rfl, SN⟩
              case measure => simp [intOf]; omega
            · have h2 : (who == (i : Int)) = false := by simp [h1]
              clear hm h1
              go_wp2_with fail
              go_roundw
              case rel => exact ⟨j + 1, _, _, _, _, _, by omega, by go_num, rfl, rfl, SN⟩
              case measure => simp [intOf]; omega
        · have hjm : j = m := by omega
          subst hjm
          have SN : Hid (SdI w (.slice A1 ln d1) (.slice A2 ln d2) ln (saidL (i + 1) xs k) wr) := Lib.hid (by rw [saidL_succ, ← saidI_all, ← HM.out]; exact SI.out)
          go_wp2_with fail
          go_roundw
          case rel => exact ⟨i + 1, _, _, _, _, _, by omega, by go_num, rfl, rfl, SN⟩
          case measure => simp [intOf]; omega
    · have hin : i = n := by omega
      subst hin
      go_wp2_with fail
      go_ret2
      have hl := SI.out.len
      exact ⟨_, _, rfl, by rw [← hl]; exact SI.out⟩
end
section
open Go.RowKit Go.Shelf
attribute [local go_sem] Oper.semAt_some

/-- Who said a key, by the reference. -/
def whoR (n : Nat) (xs : List W3) (k : Int) : List Int := (saidL n xs k).map (·.1)
set_option maxHeartbeats 8000000 in
set_option maxRecDepth 100000 in
theorem refEnT_any (base q : Nat) (A A' : Option Addr) (n c m c' : Nat) (vs : List Va) (xs : List W3) (k : Int) (w : World) (ht : RTalAt base q A A' n c m c' vs xs w) (hz : n ≤ 100) (hz2 : m ≤ 100) :
    Calls Tryd.prog 62 #[.pointer (some ⟨q, 0, none⟩), .int .i64 k] w fun e w' => e = .returned (.bool (enoughB vs (whoR n xs k))) ∧ Below w.heap.size w w' := by
  have HT := Lib.hid ht
  clear ht
  go_enter Tryd.func62, Tryd.ntmps62
  go_wp2_with fail
  refine (refSaid_any base q A A' n c m c' vs xs k w HT.out hz hz2).mono ?_
  rintro _ w1 ⟨v1, v2, rfl, sd⟩
  obtain ⟨A1, d1, rfl⟩ := own_form sd.o1
  have HI := Lib.hid (Ins.of_own sd.o1)
  have hln : (saidL n xs k).length ≤ 10000 := by
    have h1 := saidL_len xs k n
    have h2 := HT.out.len
    have : n * xs.length ≤ 100 * 100 := Nat.mul_le_mul hz (by omega)
    omega
  have T1 := Lib.hid (HT.out.below sd.bel)
  have B1 := Lib.hid sd.bel
  have c0 := blk_cell T1.out.blk 0 _ rfl
  obtain ⟨ln, hl⟩ : ∃ y, y = (saidL n xs k).length := ⟨_, rfl⟩
  rw [← hl] at HI hln ⊢
  clear sd hl
  go_wp2_with fail
  refine (refEnough_any vs (whoR n xs k) A A1 n c ln d1 w1 T1.out.vals HI.out (by omega) (by omega)).mono ?_
  rintro _ w2 ⟨rfl, bel2⟩
  have B2 := Lib.hid (B1.out.trans (bel2.mono B1.out.size))
  clear bel2
  go_wp2_with fail
  go_ret
  exact ⟨rfl, B2.out⟩

/-- Has somebody spoken? -/
def rsaid (xs : List W3) (who : Int) : Bool := xs.any fun y => decide (y.2.1 = who)
theorem rsaid_snoc (xs : List W3) (x : W3) (who : Int) : rsaid (xs ++ [x]) who = (rsaid xs who || decide (x.2.1 = who)) := by simp [rsaid]
def rok (n : Nat) (xs : List W3) (who : Int) : Bool := decide (0 ≤ who ∧ who < n) && !rsaid xs who
def rputE (n : Nat) (xs : List W3) (who : Int) : Int := if 0 ≤ who ∧ who < n then (if rsaid xs who then 17 else 0) else 1
def rputW (n : Nat) (xs : List W3) (y : W3) : List W3 := if rok n xs y.2.1 then xs ++ [y] else xs
def rputB (vs : List Va) (n : Nat) (xs : List W3) (y : W3) : Bool := rok n xs y.2.1 && !enoughB vs (whoR n xs y.1) && enoughB vs (whoR n (rputW n xs y) y.1)
theorem rput_out {vs : List Va} {n : Nat} {xs : List W3} {y : W3} (h : ¬ (0 ≤ y.2.1 ∧ y.2.1 < n)) : rputB vs n xs y = false ∧ rputE n xs y.2.1 = 1 ∧ rputW n xs y = xs := by
  have hr : rok n xs y.2.1 = false := by unfold rok; rw [decide_eq_false h]; rfl
  exact ⟨by unfold rputB; rw [hr]; rfl, by unfold rputE; rw [if_neg h], by unfold rputW; rw [hr]; rfl⟩
theorem rput_said {vs : List Va} {n : Nat} {xs : List W3} {y : W3} (h : 0 ≤ y.2.1 ∧ y.2.1 < n) (hs : rsaid xs y.2.1 = true) : rputB vs n xs y = false ∧ rputE n xs y.2.1 = 17 ∧ rputW n xs y = xs := by
  have hr : rok n xs y.2.1 = false := by unfold rok; rw [hs]; simp
  exact ⟨by unfold rputB; rw [hr]; rfl, by unfold rputE; rw [if_pos h, hs]; rfl, by unfold rputW; rw [hr]; rfl⟩
theorem rput_ok {vs : List Va} {n : Nat} {xs : List W3} {y : W3} (h : 0 ≤ y.2.1 ∧ y.2.1 < n) (hs : rsaid xs y.2.1 = false) : rputB vs n xs y = (!enoughB vs (whoR n xs y.1) && enoughB vs (whoR n (xs ++ [y]) y.1)) ∧ rputE n xs y.2.1 = 0 ∧ rputW n xs y = xs ++ [y] := by
  have hr : rok n xs y.2.1 = true := by unfold rok; rw [decide_eq_true h, hs]; rfl
  have hw : rputW n xs y = xs ++ [y] := by unfold rputW; rw [hr]; rfl
  exact ⟨by unfold rputB; rw [hr, hw]; simp, by unfold rputE; rw [if_pos h, hs]; rfl, hw⟩
theorem rsaid_upto {xs : List W3} {who : Int} {j : Nat} {y : W3} (h : xs[j]? = some y) : rsaid (xs.take (j + 1)) who = (rsaid (xs.take j) who || decide (y.2.1 = who)) := by
  rw [List.take_add_one, h]
  exact rsaid_snoc _ _ _
theorem rsaid_mem {xs : List W3} {who : Int} {j : Nat} {y : W3} (h : xs[j]? = some y) (e : y.2.1 = who) : rsaid xs who = true := by
  unfold rsaid
  rw [List.any_eq_true]
  exact ⟨y, List.mem_of_getElem? h, decide_eq_true e⟩
/-- What Put of the reference writes. -/
def RS (q : Nat) (v : Value) (j : Nat) : Prop := j = q ∨ v.ownBlock = some j
theorem info85 : (Tryd.prog.info? 85).map (fun i => (i.zero, i.size, i.bytes)) = some (some (.agg #[.int .i64 0, .int .i64 0, .int .i64 0]), 3, 24) := by kernel_rfl
theorem cells_three {W : World} {b : Nat} {x y z : Value} {t : TypeId} (h : W.heap[b]? = some (.cells #[x, y, z] t (0, 0))) : ∀ j v, ([x, y, z] : List Value)[j]? = some v → W.cell? ((⟨b, 0, none⟩ : Addr).add j) = some v := by
  intro j v hv
  rw [show (⟨b, 0, none⟩ : Addr).add j = ⟨b, j, none⟩ by unfold Addr.add; split <;> simp_all, cell_of_row _ _ _ _ _ _ h]
  simpa using hv

set_option maxHeartbeats 8000000 in
set_option maxRecDepth 100000 in
theorem refPut_any (base q : Nat) (A A' : Option Addr) (n c m c' : Nat) (vs : List Va) (xs : List W3) (k who x : Int) (w : World) (ht : RTalAt base q A A' n c m c' vs xs w) (hz : n ≤ 100) (hz2 : m ≤ 90) (hbw : base ≤ w.heap.size) (hst : ∀ W, Below base w W → Vals W (.slice A n c) vs) :
    Calls Tryd.prog 60 #[.pointer (some ⟨q, 0, none⟩), .agg #[.int .i64 k, .int .i64 who, .int .i64 x]] w fun e w' => e = .returned (.tuple #[.bool (rputB vs n xs (k, who, x)), .int .i64 (rputE n xs who)]) ∧
      (∃ A2 m2 c2, RTalAt base q A A2 n c m2 c2 vs (rputW n xs (k, who, x)) w') ∧ But (RS q (.slice A' m c')) w w' := by
  have hbx : Below w.heap.size w (w.alloc (.cells #[.int .i64 k, .int .i64 who, .int .i64 x] 85)) := (Below.refl _ _).alloc (Nat.le_refl _) _
  have HT0 := Lib.hid ht
  have HST := Lib.hid hst
  clear hst
  have HT := Lib.hid (ht.below hbx)
  have HBX := Lib.hid hbx
  have c0 := blk_cell HT.out.blk 0 _ rfl
  have c1 := blk_cell HT.out.blk 1 _ rfl
  have HX0 := Lib.hid (heap_alloc_new w (.cells #[.int .i64 k, .int .i64 who, .int .i64 x] 85))
  have HNV := Lib.hid ht.vals.len
  clear ht hbx
  by_cases hneg : who < 0
  · have hE : Hid (rputB vs n xs (k, who, x) = false ∧ rputE n xs who = 1 ∧ rputW n xs (k, who, x) = xs) := Lib.hid (rput_out (by show ¬ (0 ≤ who ∧ who < n); omega))
    go_enter Tryd.func60, Tryd.ntmps60
    go_wp2
    go_quiet (fail)
    go_wp2
    go_ret2
    exact ⟨by rw [hE.out.1, hE.out.2.1]; rfl, ⟨A', m, c', by rw [hE.out.2.2]; exact HT.out.below (below_drewN _ _)⟩, But.of_below (HBX.out.trans ((below_drewN _ _).mono HBX.out.size))⟩
  by_cases hbig : (n : Int) ≤ who
  · have hE : Hid (rputB vs n xs (k, who, x) = false ∧ rputE n xs who = 1 ∧ rputW n xs (k, who, x) = xs) := Lib.hid (rput_out (by show ¬ (0 ≤ who ∧ who < n); omega))
    go_enter Tryd.func60, Tryd.ntmps60
    go_wp2
    go_quiet (fail)
    go_wp2
    go_ret2
    exact ⟨by rw [hE.out.1, hE.out.2.1]; rfl, ⟨A', m, c', by rw [hE.out.2.2]; exact HT.out.below (below_drewN _ _)⟩, But.of_below (HBX.out.trans ((below_drewN _ _).mono HBX.out.size))⟩
  have hrange : 0 ≤ who ∧ who < n := by omega
  go_enter Tryd.func60, Tryd.ntmps60
  go_wp2
  go_quiet (fail)
  obtain ⟨w1, hw1⟩ : ∃ y, y = (w.alloc (.cells #[.int .i64 k, .int .i64 who, .int .i64 x] 85)).drewN nq := ⟨_, rfl⟩
  have T1 : Hid (RTalAt base q A A' n c m c' vs xs w1) := Lib.hid (by rw [hw1]; exact HT.out.below (below_drewN _ _))
  have X1 : Hid (w1.heap[w.heap.size]? = some (.cells #[.int .i64 k, .int .i64 who, .int .i64 x] 85 (0, 0))) := Lib.hid (by rw [hw1]; exact HX0.out)
  have B1 : Hid (Below w.heap.size w w1) := Lib.hid (by rw [hw1]; exact HBX.out.trans ((below_drewN _ _).mono HBX.out.size))
  rw [← hw1]
  clear hw1 c0 c1 HT HBX HX0
  have c1 := blk_cell T1.out.blk 1 _ rfl
  go_wp2
  go_loopw [27] (fun y wr => ∃ j : Nat, j ≤ m ∧ y = .int .i64 j ∧ Hid (rsaid (xs.take j) who = false) ∧ Hid (Below w1.heap.size w1 wr))
    (fun y _ => m - (intOf y).toNat)
  case atStart => exact ⟨0, by omega, rfl, Lib.hid rfl, Lib.hid (Below.refl _ _)⟩
  case round =>
    obtain ⟨j, hj, rfl, NS, BR⟩ := hrel
    have f1 := blk_cell (blk_below X1.out BR.out) 1 _ rfl
    have hl3 : w.heap.size < wr.heap.size := blk_lt (blk_below X1.out BR.out)
    clear c1
    by_cases hlt : j < m
    · have hil : (j : Int) < m := by omega
      obtain ⟨b, off, k2, who2, x2, rfl, hmc, hX, e0, e1, e2⟩ := (T1.out.below BR.out).wds.el j hlt
      have HX := Lib.hid hX
      clear hX
      by_cases he : who2 = who
      · subst he
        have hE : Hid (rputB vs n xs (k, who2, x) = false ∧ rputE n xs who2 = 17 ∧ rputW n xs (k, who2, x) = xs) := Lib.hid (rput_said hrange (rsaid_mem HX.out rfl))
        go_wp2_with fail
        go_ret2
        have hB2 := BR.out.alloc BR.out.size (.cells #[.int .i64 k2, .int .i64 who2, .int .i64 x2] 85)
        exact ⟨by rw [hE.out.1, hE.out.2.1]; rfl, ⟨_, m, c', by rw [hE.out.2.2]; exact T1.out.below hB2⟩, But.of_below (B1.out.trans (hB2.mono B1.out.size))⟩
      · have hb2 : (who2 == who) = false := by simp [he]
        go_wp2_with fail
        go_roundw
        case rel => exact ⟨j + 1, by omega, by go_num, Lib.hid (by rw [rsaid_upto HX.out, NS.out]; simp [he]), Lib.hid (BR.out.alloc BR.out.size _)⟩
        case measure => simp [intOf]; omega
    · have hjm : j = m := by omega
      subst hjm
      have hns : rsaid xs who = false := by
        have h := NS.out
        rwa [T1.out.len, List.take_length] at h
      have hE : Hid (rputB vs n xs (k, who, x) = (!enoughB vs (whoR n xs k) && enoughB vs (whoR n (xs ++ [(k, who, x)]) k)) ∧ rputE n xs who = 0 ∧ rputW n xs (k, who, x) = xs ++ [(k, who, x)]) := Lib.hid (rput_ok hrange hns)
      have f0 := blk_cell (blk_below X1.out BR.out) 0 _ rfl
      have T2 := Lib.hid (T1.out.below BR.out)
      have X2 := Lib.hid (blk_below X1.out BR.out)
      have B2 := Lib.hid (B1.out.trans (BR.out.mono B1.out.size))
      clear hns NS BR T1 X1 B1 hneg hbig hlt
      go_wp2_with fail
      refine (refEnT_any base q A A' n c j c' vs xs k wr T2.out hz (by omega)).mono ?_
      rintro _ w3 ⟨rfl, bel3⟩
      obtain ⟨eb, heb⟩ : ∃ y, y = enoughB vs (whoR n xs k) := ⟨_, rfl⟩
      rw [← heb] at hE ⊢
      have T3 := Lib.hid (T2.out.below bel3)
      have X3 := Lib.hid (blk_below X2.out bel3)
      have B3 := Lib.hid (B2.out.trans (bel3.mono B2.out.size))
      clear bel3 heb T2 X2 B2 f0 f1
      go_wp2_with fail
      have hbw3 : base ≤ w3.heap.size := Nat.le_trans hbw B3.out.size
      have hrow : ∀ t, (Value.slice A' j c').ownBlock = some t → t < w3.heap.size := fun t h => (T3.out.own.lt t h).2
      have HROW := Lib.hid hrow
      have hpq := own_not T3.out.own T3.out.blk (by decide)
      have HPQ := Lib.hid hpq
      have hqlt : q < w3.heap.size := blk_lt T3.out.blk
      have HC1 := Lib.hid (blk_cell T3.out.blk 1 _ rfl)
      clear hrow hpq
      obtain ⟨S, hS⟩ : ∃ S : Nat → Prop, S = fun t => (Value.slice A' j c').ownBlock = some t := ⟨_, rfl⟩
      have HSS : Hid (∀ t, S t ↔ (Value.slice A' j c').ownBlock = some t) := Lib.hid (fun t => by rw [hS])
      clear hS
      have hSw : ∀ t, w3.heap.size ≤ t → ¬ S t := fun t ht hs => by have := HROW.out t ((HSS.out t).1 hs); omega
      have hSq : ¬ S q := fun hs => HPQ.out ((HSS.out q).1 hs)
      have hSx : ¬ S w.heap.size := fun hs => by
        rcases T3.out.own with ⟨_, ⟨e, _⟩ | ⟨g, cap, cur, e, hb, hg, _⟩⟩
        · have := (HSS.out _).1 hs
          rw [e] at this
          simp [Value.ownBlock] at this
        · have h1 := (HSS.out _).1 hs
          have h2 := (T3.out.own.lt _ h1)
          have h3 := HT0.out.own.lt _ h1
          omega
      have NSW := Lib.hid hSw
      have NSQ := Lib.hid hSq
      have NSX := Lib.hid hSx
      clear hSw hSq hSx
      refine wp_region_rely4 (by kernel_rfl) 8 (by kernel_rfl) (by kernel_rfl) (But S) Ext 7 (But.refl _) Ext.refl Ext.trans But.trans (fun ix => match ix with
        | 0 => fun _ y => y = .pointer (some ⟨q, 0, none⟩)
        | 1 => fun _ y => y = .pointer (some ⟨q, 0, none⟩)
        | 2 => fun _ y => y = .pointer (some ⟨q, 0, none⟩)
        | 3 => fun _ y => y = .pointer (some ⟨q, 1, none⟩)
        | 4 => fun _ y => y = .slice A' j c'
        | 5 => fun _ y => y = .agg #[.int .i64 k, .int .i64 who, .int .i64 x]
        | 6 => fun W y => ∃ b, y = .slice (some ⟨b, 0, none⟩) 1 1 ∧ W.heap[b]? = some (.cells #[.int .i64 k, .int .i64 who, .int .i64 x] 85 (0, 0)) ∧ w3.heap.size ≤ b
        | 7 => fun W y => W.ownsRow base 85 3 y (j + 1) (w3s (xs ++ [(k, who, x)])) ∧ (∀ t, y.ownBlock = some t → (Value.slice A' j c').ownBlock = some t ∨ w3.heap.size ≤ t)
        | _ => fun _ _ => False) ?_
      simp (maxSteps := 10000000) only [Rely4, List.take_succ_cons, List.take_zero, List.drop_succ_cons, List.drop_zero, Nat.reduceAdd, Nat.zero_add, Act.put, List.setIfInBounds_toArray, List.set_cons_succ, List.set_cons_zero]
      obtain ⟨i0, hi0, hz0, hz1, hz2'⟩ := info_parts3 info85
      refine ⟨?_, ?_, ?_, ?_, ?_, ?_, ?_, ?_, ?_⟩
      · refine step4o rfl (by decide) fun vs wq hE hd => ?_
        exact gives_move _ (.pointer (some ⟨q, 0, none⟩)) (.inl rfl) rfl ⟨⟨But.refl _ _, Ext.refl _⟩, fun _ _ => rfl⟩
      · refine step4o rfl (by decide) fun vs wq hE hd => ?_
        exact gives_move _ (.pointer (some ⟨q, 0, none⟩)) (.inl rfl) rfl ⟨⟨But.refl _ _, Ext.refl _⟩, fun _ _ => rfl⟩
      · refine step4o rfl (by decide) fun vs wq hE hd => ?_
        exact gives_nilCheck _ rfl ⟨q, 0, none⟩ (show vs 1 = _ from hd.1) ⟨⟨But.refl _ _, Ext.refl _⟩, fun _ _ => rfl⟩
      · refine step4o rfl (by decide) fun vs wq hE hd => ?_
        exact gives_fieldAddr' 100 _ 1 rfl (.pointer (some ⟨q, 0, none⟩)) (.pointer (some ⟨q, 1, none⟩)) (show vs 2 = _ from hd.1) (by go_simp) ⟨⟨But.refl _ _, Ext.refl _⟩, fun _ _ => rfl⟩
      · refine step4o rfl (by decide) fun vs wq hE hd => ?_
        have hc := (but_drewT hE).cellT HC1.out NSQ.out
        exact gives_loadAt 79 _ rfl (.pointer (some ⟨q, 1, none⟩)) (.slice A' j c') (show vs 3 = _ from hd.1) (by go_simp) ⟨⟨But.refl _ _, Ext.refl _⟩, fun _ _ => rfl⟩
      · refine step4o rfl (by decide) fun vs wq hE hd => ?_
        have hb := (but_drewT hE).blk X3.out NSX.out
        have g0 := blk_cell hb 0 _ rfl
        have g1 := blk_cell hb 1 _ rfl
        have g2 := blk_cell hb 2 _ rfl
        exact gives_loadAt 85 _ rfl (.pointer (some ⟨w.heap.size, 0, none⟩)) (.agg #[.int .i64 k, .int .i64 who, .int .i64 x]) rfl (by go_simp) ⟨⟨But.refl _ _, Ext.refl _⟩, fun _ _ => rfl⟩
      · refine step4o rfl (by decide) fun vs wq hE hd => ?_
        have hq : w3.heap.size ≤ wq.heap.size := (but_drewT hE).size
        have hbl : Below wq.heap.size wq (wq.alloc (.cells #[.int .i64 k, .int .i64 who, .int .i64 x] 85)) := (Below.refl _ _).alloc (Nat.le_refl _) _
        exact gives_buildT 79 _ rfl (.agg #[.int .i64 k, .int .i64 who, .int .i64 x]) (show vs 5 = _ from hd.1) (.slice (some ⟨wq.heap.size, 0, none⟩) 1 1) (w' := wq.alloc (.cells #[.int .i64 k, .int .i64 who, .int .i64 x] 85)) (by go_simp) ⟨⟨But.of_below hbl, hbl⟩, fun W2 h2 => ⟨wq.heap.size, rfl, h2.blk (heap_alloc_new wq _) (NSW.out _ hq), hq⟩⟩
      · refine step4m rfl fun vs wq hE hZ hd => ?_
        have hbz := ext_of_drew hZ
        obtain ⟨b, h6, hb, hbl⟩ := hd.2.1
        have own := (T3.out.below hbz).own
        refine gives_append _ _ 79 rfl base 85 i0 (.agg #[.int .i64 0, .int .i64 0, .int .i64 0]) 3 24 Tryd.underlying79 hi0 hz0 hz1 hz2' rfl (by decide) (.slice A' j c') j _ (show vs 4 = _ from hd.1) own ⟨b, 0, none⟩ 1 1 [.int .i64 k, .int .i64 who, .int .i64 x] (show vs 6 = _ from h6) rfl (cells_three hb) (by simp [Value.oneCell']) (by simp only [maxLen]; omega) (by omega) (Nat.le_trans hbw3 hbz.size) ?_
        intro v' w' ho hg hp
        refine ⟨⟨hg.os, hg.tape, hg.output, hg.size, fun t ht hs => hg.block t ht (fun e => hs ((HSS.out t).2 e.symm))⟩, fun W2 h2 => ⟨?_, fun t htt => ?_⟩⟩
        · rw [w3s_snoc]
          exact ho.kept (row := none) ⟨h2.os, h2.tape, h2.output, h2.size, fun k hk _ => h2.block k hk⟩ (by cases h' : v'.ownBlock <;> simp)
        · rcases hp with h | h
          · exact .inl (by rw [← h]; exact htt)
          · rw [h] at htt
            cases htt
            exact .inr hbz.size
      · intro vv wz hE hR
        obtain ⟨ho7, hp7⟩ := hR 7 (by omega)
        have h0 : vv 0 = .pointer (some ⟨q, 0, none⟩) := hR 0 (by omega)
        obtain ⟨A7, d7, e7⟩ := own_form ho7
        rw [e7] at ho7 hp7
        have hB := but_drewT hE
        have hblk := hB.blk T3.out.blk NSQ.out
        have hX := hB.blk X3.out NSX.out
        have HBK := Lib.hid hblk
        have c1 := blk_cell hblk 1 _ rfl
        have hf : ∀ o, wz.frozen? ⟨q, o, none⟩ = false := fun o => by simp [World.frozen?, hblk]
        have hf1 := hf 1
        have O7 := Lib.hid ho7
        have P7 := Lib.hid hp7
        have HB := Lib.hid hB
        have HX := Lib.hid hX
        have hq7 : ¬ (Value.slice A7 (j + 1) d7).ownBlock = some q := fun h => by
          rcases P7.out q h with h | h
          · exact HPQ.out h
          · omega
        have HQ7 := Lib.hid hq7
        rw [e7, h0]
        clear hR hE ho7 hp7 e7 h0 hB hblk hX hf hq7
        have hbase : ∀ W, But (RS q (.slice A' j c')) w3 W → Below base w W := fun W hW => (B3.out.mono hbw).trans (hW.low hbw3 (fun t ht => by
          rcases ht with rfl | ht
          · exact T3.out.hq
          · exact (T3.out.own.lt t ht).1))
        have HBASE := Lib.hid hbase
        have hall : But (RS q (.slice A' j c')) w3 (wz.setCell ⟨q, 1, none⟩ (.slice A7 (j + 1) d7)) := (HB.out.mono (fun t _ ht => .inr ((HSS.out t).1 ht))).trans (but_set (S := RS q (.slice A' j c')) _ (.inl rfl))
        have HALL := Lib.hid hall
        have hRT : RTalAt base q A A7 n c (j + 1) d7 vs (xs ++ [(k, who, x)]) (wz.setCell ⟨q, 1, none⟩ (.slice A7 (j + 1) d7)) := by
          refine ⟨set_at HBK.out _, HST.out _ (hbase _ hall), ?_, by rw [List.length_append, ← T3.out.len]; rfl, T3.out.hq⟩
          rcases O7.out with ⟨hl', h1 | ⟨g, cap, cur, hv, hbb, hg2, rest⟩⟩
          · exact ⟨hl', .inl h1⟩
          · refine ⟨hl', .inr ⟨g, cap, cur, hv, hbb, ?_, rest⟩⟩
            exact (heap_setCell_other wz ⟨q, 1, none⟩ g _ (fun e => HQ7.out (by rw [hv]; show some g = some q; rw [show g = q from e]))).trans hg2
        have HRT := Lib.hid hRT
        have hbx0 : (wz.setCell ⟨q, 1, none⟩ (.slice A7 (j + 1) d7)).cell? ⟨w.heap.size, 0, none⟩ = some (.int .i64 k) := by
          have hne : w.heap.size ≠ q := fun e => by
            have h1 := HX.out
            rw [e, HBK.out] at h1
            cases h1
          rw [cell_of_row _ _ _ _ _ _ ((heap_setCell_other wz ⟨q, 1, none⟩ w.heap.size _ hne).trans HX.out)]
          rfl
        have f0 := hbx0
        have g0 := blk_cell HX.out 0 _ rfl
        have hne : ¬ w.heap.size = q := fun e => by
          have h1 := HX.out
          rw [e, HBK.out] at h1
          cases h1
        have hne' : ¬ q = w.heap.size := fun e => hne e.symm
        have HWB := Lib.hid (But.of_below (S := RS q (.slice A' j c')) B3.out)
        clear hbase hall hRT hbx0
        cases eb with
        | true =>
          go_wp2_with fail
          go_ret2
          exact ⟨by rw [hE.out.1, hE.out.2.1]; rfl, ⟨A7, j + 1, d7, by rw [hE.out.2.2]; exact HRT.out⟩, HWB.out.trans HALL.out⟩
        | false =>
          obtain ⟨w9, hw9⟩ : ∃ y, y = wz.setCell ⟨q, 1, none⟩ (.slice A7 (j + 1) d7) := ⟨_, rfl⟩
          have HW9 := Lib.hid hw9
          rw [← hw9] at HRT HALL
          clear hw9
          go_wp2_with fail
          rw [← HW9.out]
          refine (refEnT_any base q A A7 n c (j + 1) d7 vs _ k w9 HRT.out hz (by omega)).mono ?_
          rintro _ w10 ⟨rfl, bel10⟩
          obtain ⟨eb2, heb2⟩ : ∃ y, y = enoughB vs (whoR n (xs ++ [(k, who, x)]) k) := ⟨_, rfl⟩
          rw [← heb2] at hE ⊢
          have HRT10 := Lib.hid (HRT.out.below bel10)
          have B10 := Lib.hid bel10
          clear bel10 heb2
          go_wp2_with fail
          go_ret2
          exact ⟨by rw [hE.out.1, hE.out.2.1]; cases eb2 <;> rfl, ⟨A7, j + 1, d7, by rw [hE.out.2.2]; exact HRT10.out⟩, (HWB.out.trans HALL.out).trans (But.of_below B10.out)⟩
end
end Go.Proofs.YtideopnblhbngaaDoor
