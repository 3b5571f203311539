/- What TallyShares answers. -/
import Derived.Test.YtideopnblhbngaaDoorTalH
import Derived.Test.YtideopnblhbngaaDoorTallyOnceW
import Derived.Test.YtideopnblhbngaaDoorRely3
import Derived.Sort.MapsRangeIn
namespace Go.Proofs.YtideopnblhbngaaDoor
open Go.RowKit Go.Shelf Go.Maps
attribute [local go_sem] Oper.semAt_some

theorem TalAt.butO {base p g : Nat} {A : Option Addr} {n c cw : Nat} {vs : List Va} {ws : List (Wd Int)} {w w' : World} (h : TalAt 126 128 (Value.int .i64) base p g A n c cw vs ws w) {mb : Nat} {o : Obj} (hm : w.heap[mb]? = some o) (ho : o.isCells = false) (hb : But (fun k => k = mb) w w') : TalAt 126 128 (Value.int .i64) base p g A n c cw vs ws w' := by
  have hno : ∀ (k : Nat) (cs : Array Value) (t : TypeId) (fr : Nat × Nat), w.heap[k]? = some (.cells cs t fr) → ¬ k = mb := fun k cs t fr hk e => by
    rw [e, hm] at hk
    cases hk
    exact nomatch ho
  obtain ⟨cur, h1, h2⟩ := h.wds
  refine ⟨hb.blk h.blk (hno _ _ _ _ h.blk), ?_, ⟨cur, hb.blk h1 (hno _ _ _ _ h1), h2⟩, h.nv, h.nw, h.good, h.hp, h.hg, h.hc⟩
  rcases h.own with ⟨hl', h1 | ⟨b, cap, cur2, e, hbb, hg2, rest⟩⟩
  · exact ⟨hl', .inl h1⟩
  · exact ⟨hl', .inr ⟨b, cap, cur2, e, hbb, hb.blk hg2 (hno _ _ _ _ hg2), rest⟩⟩
def bval (c : Int) : Value := .bool (decide (c = 0))
theorem plainElem_bool_inv {P : Program} {e : TypeId} (he : P.underlying e = some .bool) {v : Value} {z : DU × List MemPlace} (h : plainElem P e v = some z) : ∃ a : Int, v = bval a := by
  unfold plainElem at h
  rw [he] at h
  cases v <;> simp at h
  rename_i x
  cases x with
  | true => exact ⟨0, rfl⟩
  | false => exact ⟨1, rfl⟩
/-- The step of a range over a set of numbers. -/
theorem wpListIn_next_set {F : Fence} {nF : Nat} (w : World) {ops : Array Oper} {rest : List Oper} {o : Oper} {a : Act} {Q : Exit → Act → World → Prop}
    (hg : o.guard = none) (it : Operand) (hop : o.op = Op.next it false) (b r n : Nat) (D : DU) (left : Lit → Bool) (cnt : Nat) (hit : a.eval it = .pointer (some ⟨r, 0, none⟩)) (h : w.ranges Tryd.prog 3 (plainElem Tryd.prog 4) b r n D left cnt)
    (hDone : cnt = 0 → (∀ kl, left kl = false) → wpListIn F nF Tryd.prog ops Q rest (a.put o.dst (.tuple #[.bool false])) w)
    (hMore : ∀ (x c : Int) (w' : World) (cnt' : Nat), left (.int .i64 x) = true → w'.ranges Tryd.prog 3 (plainElem Tryd.prog 4) b r n D (fun z => left z && !z.sameKey (.int .i64 x)) cnt' → cnt' < cnt →
      w.grownBy w' (some r) → (Instr.entry (.pointer (some ⟨r, 0, none⟩))).run Tryd.prog w' = .ok (.tuple #[.int .i64 x, bval c]) w' → wpListIn F nF Tryd.prog ops Q rest (a.put o.dst (.tuple #[.bool true, .int .i64 x, bval c])) w') :
    wpListIn F nF Tryd.prog ops Q (o :: rest) a w :=
  wpListIn_next_ranges w hg it hop 3 law3 (plainElem Tryd.prog 4) (Value.int .i64) bval (fun key kl hk => by obtain ⟨x, hx, _⟩ := Maps.keyOf_int_inv Tryd.underlying3 hk; exact ⟨x, hx⟩) (fun v y hv => plainElem_bool_inv Tryd.underlying4 hv)
    b r n D left cnt hit h hDone (fun x c kl y w' cnt' hkey hlk _ _ hrg hlt hgr _ hen => by
      obtain ⟨x', ex, rfl, _⟩ := Maps.keyOf_int_inv Tryd.underlying3 hkey
      cases ex
      exact hMore x c w' cnt' hlk hrg hlt hgr hen)
/-- A range's step leaves a tally. -/
theorem ranges_tal {base p g : Nat} {A : Option Addr} {n c cw : Nat} {vs : List Va} {ws : List (Wd Int)} {w w' : World} {k : TypeId} {R : Value → Option (DU × List MemPlace)} {b r nn cnt : Nat} {D : DU} {left : Lit → Bool} (hr : w.ranges Tryd.prog k R b r nn D left cnt) (h : TalAt 126 128 (Value.int .i64) base p g A n c cw vs ws w) (hb : But (fun k => k = r) w w') : TalAt 126 128 (Value.int .i64) base p g A n c cw vs ws w' := by
  obtain ⟨o, ho, hc⟩ : ∃ o : Obj, w.heap[r]? = some o ∧ o.isCells = false := by
    unfold World.ranges at hr
    obtain ⟨es, clock, since, seen, c0, h1, _, _, _, h2, _⟩ := hr
    exact ⟨_, h2, rfl⟩
  exact h.butO ho hc hb
theorem rem_u64' (z : Int) (k : Nat) (hk : 0 < k) : ∃ r : Nat, (IntKind.u64.wrap z).tmod (k : Int) = r ∧ r < k := by
  have h0 : 0 ≤ IntKind.u64.wrap z := by rw [IntKind.wrap_u64]; omega
  rw [Int.tmod_eq_emod_of_nonneg h0]
  have h1 := Int.emod_nonneg (IntKind.u64.wrap z) (show (k : Int) ≠ 0 by omega)
  have h2 := Int.emod_lt_of_pos (IntKind.u64.wrap z) (show (0 : Int) < k by omega)
  exact ⟨((IntKind.u64.wrap z) % k).toNat, by omega, by omega⟩
theorem gives_minT {P : Program} {o : Oper} {ρ : Operand → Value} {w : World} {S : Value → World → Prop} (x y : Operand) (ts : Array TypeId) (ho : o.op = .call { callee := .builtin .min, args := #[x, y], argTypes := ts }) (a b : Int) (hx : ρ x = .int .i64 a) (hy : ρ y = .int .i64 b) (h : S (.int .i64 (min a b)) w) : Gives P o ρ w S := by
  refine gives_val (.int .i64 (min a b)) (w' := w) ?_ h
  unfold execOp
  simp only [ho, resolve, invoke, builtin, Sem.run_bind, Sem.run_pure, Result.andThen_ok, List.map_toArray, List.map_cons, List.map_nil, hx, hy]
  go_simp
section
variable {base p g : Nat} {A : Option Addr} {n c cw : Nat} {vs : List Va} {ws : List (Wd Int)} {w w' : World}
/-- Boxes of numbers may be written. -/
theorem TalAt.butT (h : TalAt 126 128 (Value.int .i64) base p g A n c cw vs ws w) {S : Nat → Prop} (hno : ∀ (k : Nat) (cs : Array Value) (t : TypeId) (fr : Nat × Nat), w.heap[k]? = some (.cells cs t fr) → t ≠ 3 → ¬ S k) (hb : But S w w') : TalAt 126 128 (Value.int .i64) base p g A n c cw vs ws w' := by
  obtain ⟨cur, h1, h2⟩ := h.wds
  refine ⟨hb.blk h.blk (hno _ _ _ _ h.blk (by decide)), ?_, ⟨cur, hb.blk h1 (hno _ _ _ _ h1 (by decide)), h2⟩, h.nv, h.nw, h.good, h.hp, h.hg, h.hc⟩
  rcases h.own with ⟨hl', h1 | ⟨b, cap, cur2, e, hbb, hg2, rest⟩⟩
  · exact ⟨hl', .inl h1⟩
  · exact ⟨hl', .inr ⟨b, cap, cur2, e, hbb, hb.blk hg2 (hno _ _ _ _ hg2 (by decide)), rest⟩⟩
theorem TalAt.set3 (h : TalAt 126 128 (Value.int .i64) base p g A n c cw vs ws w) {B : Nat} {u : Value} (hB : Boxed w B 3 u) (v : Value) : TalAt 126 128 (Value.int .i64) base p g A n c cw vs ws (w.setCell ⟨B, 0, none⟩ v) :=
  h.butT (S := fun k => k = B) (fun k cs t fr hk ht e => by
    have h3 : w.heap[B]? = _ := hB
    rw [← show k = B from e, hk] at h3
    cases h3
    exact ht rfl) (but_set (S := fun k => k = B) v rfl)
theorem TalAt.keptO (h : TalAt 126 128 (Value.int .i64) base p g A n c cw vs ws w) {row : Option Nat} (hg : w.grownBy w' row) (hr : ∀ k, row = some k → ∃ o : Obj, w.heap[k]? = some o ∧ o.isCells = false) : TalAt 126 128 (Value.int .i64) base p g A n c cw vs ws w' :=
  h.butT (S := fun k => row = some k) (fun k cs t fr hk _ e => by
    obtain ⟨o, h1, h2⟩ := hr k e
    rw [hk] at h1
    cases h1
    exact nomatch h2) ((But.refl _ w).grownT hg (fun _ e => e))
end
/-- What the range over all words holds. -/
structure SqI (va : List Va) (base p g : Nat) (A : Option Addr) (n c cw q B r : Nat) (ws : List (Wd Int)) (w : World) (k : Nat) (W : World) : Prop where
  tal : TalAt 126 128 (Value.int .i64) base p g A n c cw va ws W
  bz : Boxed W q 3 (.int .i64 r)
  bn : Boxed W B 3 (.int .i64 k)
  jr : k ≤ r
  bel : Below w.heap.size w W
theorem SqI.own_from {α : Type} {va : List Va} {base p g : Nat} {A : Option Addr} {n c cw q B r C : Nat} {ws : List (Wd Int)} {w : World} (hB : w.heap.size ≤ C) (f : List α → Nat) : OwnFrom C (fun pre W => SqI va base p g A n c cw q B r ws w (f pre) W) := by
  intro s X Y row hs hg hr
  have hr' := fun k e => (hr k e).2
  exact ⟨hs.tal.keptO hg hr', boxed_kept' hs.bz hg hr', boxed_kept' hs.bn hg hr', hs.jr, hs.bel.grown hg hs.bel.size fun k e => by have := (hr k e).1; omega⟩
/-- What the loop over the words holds. -/
structure ShI (va : List Va) (base p g : Nat) (A : Option Addr) (n c cw mb : Nat) (w1 : World) (i : Nat) (ws : List (Wd Int)) (D : DU) (W : World) : Prop where
  tal : TalAt 126 128 (Value.int .i64) base p g A n c cw va ws W
  kv : KV ws D
  len : ws.length = va.length
  own : W.ownsMap Tryd.prog 3 (plainElem Tryd.prog 4) mb i D
  bel : Below w1.heap.size w1 W
  hmb : w1.heap.size ≤ mb
theorem ShI.below {va : List Va} {base p g : Nat} {A : Option Addr} {n c cw mb : Nat} {w1 : World} {i : Nat} {ws : List (Wd Int)} {D : DU} {W W' : World} (h : ShI va base p g A n c cw mb w1 i ws D W) (hb : Below W.heap.size W W') : ShI va base p g A n c cw mb w1 i ws D W' :=
  ⟨h.tal.below hb, h.kv, h.len, ownsMap_below h.own hb, h.bel.trans (hb.mono h.bel.size), h.hmb⟩
theorem ShI.gne {va : List Va} {base p g : Nat} {A : Option Addr} {n c cw mb : Nat} {w1 : World} {i : Nat} {ws : List (Wd Int)} {D : DU} {W : World} (h : ShI va base p g A n c cw mb w1 i ws D W) : mb ≠ g := by
  obtain ⟨cur, h1, _⟩ := h.tal.wds
  obtain ⟨es, ck, h2, _⟩ := h.own
  intro e
  rw [← e, h2] at h1; cases h1
theorem shI_put {va : List Va} {base p g : Nat} {A : Option Addr} {n c cw mb : Nat} {w1 : World} {i : Nat} {ws : List (Wd Int)} {D D' : DU} {W W' : World} (ht : TalAt 126 128 (Value.int .i64) base p g A n c cw va ws W) (hm : KV ws D') (hy : ws.length = va.length) (h0 : W.ownsMap Tryd.prog 3 (plainElem Tryd.prog 4) mb i D) (ho : W'.ownsMap Tryd.prog 3 (plainElem Tryd.prog 4) mb (i + 1) D') (hg : W.grownBy W' (some mb)) (hl : Below w1.heap.size w1 W) (hmb : w1.heap.size ≤ mb) : ShI va base p g A n c cw mb w1 (i + 1) ws D' W' := by
  have hbut : But (fun k => k = mb) W W' := (But.refl _ W).grownT hg (fun k e => by cases e; rfl)
  obtain ⟨es, ck, h2, _⟩ := h0
  exact ⟨ht.butM h2 hbut, hm, hy, ho, hl.trans (hbut.low hl.size (fun k e => by rw [show k = mb from e]; exact hmb)), hmb⟩

set_option maxHeartbeats 8000000 in
set_option maxRecDepth 100000 in
theorem tallyShares_any (va : List Va) (xs : List W3) (z : Int) (A A' : Option Addr) (n c m c' : Nat) (aS aR aT : Addr) (w : World) (hv : Vals w (.slice A n c) va) (hx : Wsl w (.slice A' m c') xs) (hs : Sen w aS aR aT) (hwf : ∀ (i : Nat) (x : W3), xs[i]? = some x → (Lit.int .i64 x.1).wf = true) :
    Calls Tryd.prog 14 #[.slice A n c, .slice A' m c', .int .i64 z] w fun e w' => e = .returned (.bool true) ∧ Below w.heap.size w w' := by
  have hmm := @run_makeMap Tryd.prog
  have bel0 : Below w.heap.size w (w.alloc (.cells #[.int .i64 z] 3)) := (Below.refl _ _).alloc (Nat.le_refl _) _
  have HS := Lib.hid (hs.below bel0)
  have HV := Lib.hid (hv.below bel0)
  have HX := Lib.hid (hx.below bel0)
  have HW := Lib.hid hwf
  have B0 := Lib.hid bel0
  have X5 : Hid (Boxed (w.alloc (.cells #[.int .i64 z] 3)) w.heap.size 3 (.int .i64 z)) := Lib.hid (Boxed.new w 3 _)
  clear hs hv hx hwf bel0
  refine (callsIn_wide (n := 5)).1 ?_
  refine callsIn_of_wp_marks Tryd.func14 rfl trivial ?_ rfl
  simp only [Tryd.ntmps14, List.size_toArray, List.length_cons, List.length_nil, Nat.reduceAdd, Nat.reduceSub, Array.replicate_succ, Array.replicate_zero, List.push_toArray, List.append_toArray, List.nil_append, List.cons_append]
  by_cases h30 : 30 < n ∨ 30 < m
  · have h30' : (30 : Int) < n ∨ ((¬ (30 : Int) < n) ∧ (30 : Int) < m) := by omega
    gi_wp2_with fail
    refine ⟨trivial, ?_⟩
    gi_at_call 50
    refine (callsIn_wide.2 (tAlive_any aS aR aT _ HS.out)).mono ?_
    rintro _ w1 ⟨rfl, bel1⟩
    have B1 := Lib.hid (B0.out.trans (bel1.mono B0.out.size))
    clear bel1
    rcases h30' with h | ⟨h, h'⟩
    all_goals
      gi_wp2
      exact ⟨_, results_tmp rfl _ _ _, rfl, B1.out⟩
  have h30' : ¬ (30 : Int) < n := by omega
  have h40' : ¬ (30 : Int) < m := by omega
  gi_wp2_with (refine ⟨trivial, ?_⟩; gi_at_call 50; refine (callsIn_wide.2 (tAlive_any aS aR aT _ HS.out)).mono ?_; rintro _ w1 ⟨rfl, bel1⟩; have S1 := Lib.hid (HS.out.below bel1); have V1 := Lib.hid (HV.out.below bel1); have X1 := Lib.hid (HX.out.below bel1); have Q1 := Lib.hid (show w.heap.size + 1 ≤ w1.heap.size from (by have := bel1.size; simpa using this)); have Y5 := Lib.hid (blk_below X5.out bel1 : Boxed w1 _ _ _); have B1 := Lib.hid (B0.out.trans (bel1.mono B0.out.size)); clear bel1)
  refine ⟨trivial, ?_⟩
  gi_at_call 51
  clear HS HV HX X5 B0
  cases hval : validB va with
  | false =>
    refine (callsIn_wide.2 (new_bad va A n c aS aR aT w1 V1.out S1.out hval)).mono ?_
    rintro _ w3 ⟨rfl, bel3⟩
    have B3 := Lib.hid (B1.out.trans (bel3.mono B1.out.size))
    clear bel3
    gi_wp2
    exact ⟨_, results_tmp rfl _ _ _, rfl, B3.out⟩
  | true =>
  have HVAL := Lib.hid hval
  have hlen := valid_len hval
  have hvl := V1.out.len
  have hn1 : 1 ≤ n := by omega
  have hn7 : n ≤ 7 := by omega
  have hn1000 : n ≤ 1000 := by omega
  have HVL := Lib.hid hvl
  clear hval hlen hvl
  refine (callsIn_wide.2 (new_ok va A n c aS aR aT w1 V1.out S1.out HVAL.out)).mono ?_
  rintro _ w3 ⟨⟨p1, g1, A1, dd, rfl, t1⟩, bel3⟩
  have T3 := Lib.hid t1
  have B3 := Lib.hid bel3
  clear t1 bel3
  gi_wp2_with fail
  obtain ⟨mb, hmb⟩ : ∃ y, y = w3.heap.size := ⟨_, rfl⟩
  obtain ⟨bs1, hbs1⟩ : ∃ y, y = w1.heap.size := ⟨_, rfl⟩
  have HBS := Lib.hid hbs1
  have I3 : Hid (ShI va bs1 p1 g1 A1 n dd n mb w1 0 (List.replicate n (false, 0, 0)) (.map []) (w3.alloc (.map #[] 0))) := Lib.hid (by
    have ha : Below w3.heap.size w3 (w3.alloc (.map #[] 0)) := (Below.refl _ _).alloc (Nat.le_refl _) _
    have ho : (w3.alloc (.map #[] 0)).ownsMap Tryd.prog 3 (plainElem Tryd.prog 4) mb 0 (.map [] : DU) := by rw [hmb]; exact World.ownsMap_made _ _ _ _
    exact ⟨by rw [hbs1]; exact T3.out.below ha, KV.start n _, by rw [List.length_replicate]; exact HVL.out, ho, B3.out.trans (ha.mono B3.out.size), by rw [hmb]; exact B3.out.size⟩)
  have hs0 := sUp_start va n
  rw [← hmb]
  clear hmm T3 B3 hmb hbs1
  gi_loopw [9, 38] (fun ys y wr => ∃ (i : Nat) (s : Int) (ws : List (Wd Int)) (D : DU), i ≤ m ∧ ys = .int .i64 s ∧ y = .int .i64 i ∧ Hid (s = sUp va ws) ∧ Hid (ShI va bs1 p1 g1 A1 n dd n mb w1 i ws D wr))
    (fun _ y _ => m - (intOf y).toNat)
  case atStart => exact ⟨0, 0, _, _, by omega, rfl, rfl, Lib.hid hs0.symm, I3⟩
  case round =>
    clear I3 hs0
    obtain ⟨i, s, ws, D, hi, rfl, rfl, HSU, HI⟩ := hrel
    by_cases hlt : i < m
    · have hil : (i : Int) < m := by omega
      obtain ⟨b, off, k, who, x, rfl, hmc, hX, er⟩ := (X1.out.below HI.out.bel).elR i hlt
      have HR := Lib.hid er
      have HWF := Lib.hid (HW.out i _ hX)
      dsimp only at HWF
      obtain ⟨wo, hwo⟩ : ∃ y, y = wr := ⟨_, rfl⟩
      subst hwo
      have HH : Hid (∀ Z : Array Value, Z.size = 3 → Has (wo.alloc (.cells Z 85)) wo.heap.size 85 3) := Lib.hid (fun Z hZ => has_new wo _ _ _ hZ)
      clear hX er
      gi_wp2_with (first | (refine wpListIn_load_g wideF rfl 85 (.tmp 40) rfl b (off + i * 3) rfl [.int .i64 k, .int .i64 who, .int .i64 x] _ HR.out Tryd.underlying85 rfl Tryd.size85 ?_) | (refine wpListIn_store_row wideF rfl 85 (.tmp 12) (.tmp 41) rfl wo.heap.size rfl [.int .i64 k, .int .i64 who, .int .i64 x] rfl 85 (HH.out _ rfl) Tryd.size85 (by simp [Value.oneCell']) ?_; intro wa hp1; have L1 : Below wo.heap.size wo wa := hp1.below ((Below.refl _ _).alloc (Nat.le_refl _) _) (Nat.le_refl _); have d0 := blk_cell hp1.blk 0 _ rfl; have d1 := blk_cell hp1.blk 1 _ rfl; have d2 := blk_cell hp1.blk 2 _ rfl; have BX := Lib.hid hp1.blk; have IA := Lib.hid (HI.out.below L1); clear hp1 L1))
      refine ⟨trivial, ?_⟩
      gi_at_call 52
      have h3 : 3 ≤ bs1 := by
        obtain ⟨cs, t, fr, e⟩ := cell_obj S1.out.t
        rw [HBS.out]
        exact blk_lt e
      refine (callsIn_wide.2 (put_any bs1 p1 g1 A1 n dd n va ws k who x aS aR aT _ IA.out.tal (S1.out.below IA.out.bel) h3 hn1000)).mono ?_
      rintro _ w5 ⟨rfl, ta5, bb5⟩
      have hgb : w1.heap.size ≤ g1 := by rw [← HBS.out]; exact IA.out.tal.hg
      have bw5 := IA.out.bel.trans (bb5.low IA.out.bel.size (fun j hj => by rw [show j = g1 from hj]; exact hgb))
      have BX5 : Hid (w5.heap[wo.heap.size]? = some (.cells #[.int .i64 k, .int .i64 who, .int .i64 x] 85 (0, 0))) := Lib.hid (bb5.blk BX.out (fun e => by
        obtain ⟨cur, h1, _⟩ := IA.out.tal.wds
        have h2 := BX.out
        rw [show wo.heap.size = g1 from e, h1] at h2
        cases h2))
      have OW5 := Lib.hid (ownsMap_but IA.out.own bb5 IA.out.gne)
      have TA5 := Lib.hid ta5
      have BW5 := Lib.hid bw5
      have KV0 := Lib.hid IA.out.kv
      have MB0 := Lib.hid IA.out.hmb
      have HWL := Lib.hid IA.out.len
      have HWL5 : Hid ((putW ws k who x).length = va.length) := Lib.hid (by rw [putW_len]; exact HWL.out)
      obtain ⟨pb, hpb⟩ : ∃ y, y = putB va ws k who x := ⟨_, rfl⟩
      obtain ⟨ws5, hws⟩ : ∃ y, y = putW ws k who x := ⟨_, rfl⟩
      rw [← hws] at TA5 HWL5
      rw [← hpb]
      have HWS := Lib.hid hws
      clear hpb hws ta5 bb5 bw5 hgb HR HH HI IA BX h3 d0 d1 d2
      have f0 := blk_cell BX5.out 0 _ rfl
      have f1 := blk_cell BX5.out 1 _ rfl
      cases hf : freeAt ws who with
      | false =>
        obtain ⟨ea, hea⟩ := putE_no hf aR aT
        rw [hea]
        rw [putW_no hf] at HWS
        have HWS' := HWS.out
        subst HWS'
        clear HWS hf hea
        gi_wp2
        go_roundw
        case rel => exact ⟨i + 1, s, ws5, D, by omega, by go_num, by go_num, HSU, Lib.hid ⟨TA5.out, KV0.out, HWL.out, OW5.out.mono (by omega), BW5.out, MB0.out⟩⟩
        case measure => simp [intOf]; omega
      | true =>
        rw [putE_ok hf aR aT]
        obtain ⟨iw, _, _, rfl, hXw⟩ := free_word hf
        have hiw : iw < n := by
          have h1 := (List.getElem?_eq_some_iff.1 hXw).1
          have h2 := HWL.out
          have h3 := HVL.out
          omega
        have HKY := Lib.hid (keyOf_int_mk (P := Tryd.prog) Tryd.underlying3 HWF.out)
        have KV5 := Lib.hid (KV0.out.put (OW5.out.isMap) hf k x (.lit (.bool true)))
        have hsu := sUp_put (vs := va) hf k x
        rw [← HWS.out] at KV5 hsu
        rw [Int.toNat_natCast, ← HSU.out] at hsu
        obtain ⟨bv, ov, rfl, _, hrv⟩ := (V1.out.below BW5.out).el iw hiw
        have cpw := vcells_pow (V1.out.at iw (by have := HVL.out; omega)) hrv
        rw [show (va.getD iw ([], 0)).2 = pAt va iw from rfl] at cpw
        obtain ⟨pw, hpw⟩ : ∃ y, y = pAt va iw := ⟨_, rfl⟩
        rw [← hpw] at cpw hsu
        have hb1 := pUp_small HVAL.out (fun _ => true) HWL5.out
        have hb2 := pUp_small HVAL.out (fun _ => true) HWL.out
        rw [show pUp va (fun _ => true) ws5 ws5.length = sUp va ws5 from rfl, hsu] at hb1
        rw [show pUp va (fun _ => true) ws ws.length = sUp va ws from rfl, ← HSU.out] at hb2
        have HSU5 := Lib.hid hsu.symm
        have hiw0 : (iw : Int) < n := by omega
        clear hf HWS hXw hrv hpw hsu
        gi_wp2_with (gi_at_mapUpdate; refine wpListIn_mapUpdate_own _ rfl _ _ _ 92 rfl 3 4 law3 Tryd.underlying92 _ mb i D rfl OW5.out (by unfold maxLen; omega) _ _ (.int .i64 k) rfl rfl HKY.out _ [] (plainElem_bool Tryd.underlying4 true) ?_; intro w6 own6 hg6; have OW6 := Lib.hid own6; have HG6 := Lib.hid hg6; clear own6 hg6)
        go_roundw
        case rel => exact ⟨i + 1, s + pw, ws5, _, by omega, by go_num, by go_num, HSU5, Lib.hid (shI_put TA5.out KV5.out HWL5.out OW5.out OW6.out HG6.out BW5.out MB0.out)⟩
        case measure => simp [intOf]; omega
    · obtain rfl : i = m := by omega
      clear hlt
      gi_wp2_with (gi_at_range; refine wpListIn_range_own _ rfl _ 92 rfl 3 4 law3 Tryd.underlying92 _ mb i D rfl HI.out.own ?_; intro w6 rg6 hg6 hs6; have HB6 := Lib.hid (⟨hg6.os, hg6.tape, hg6.output, hg6.size, fun k hk => hg6.block k hk (by simp)⟩ : Below wr.heap.size wr w6); have RG6 := Lib.hid rg6; clear rg6 hg6 hs6)
      obtain ⟨rb, hrb⟩ : ∃ y, y = wr.heap.size := ⟨_, rfl⟩
      have TA6 := Lib.hid (HI.out.tal.below HB6.out)
      have BL6 := Lib.hid (HI.out.bel.trans (HB6.out.mono HI.out.bel.size))
      have HRB : Hid (w1.heap.size ≤ rb) := Lib.hid (by rw [hrb]; exact HI.out.bel.size)
      have HLN := Lib.hid HI.out.len
      have hst := lUp_start (vs := va) HI.out.kv
      rw [← HSU.out] at hst
      rw [← hrb] at RG6 ⊢
      obtain ⟨c0, hc0⟩ : ∃ y, y = Maps.size D := ⟨_, rfl⟩
      rw [← hc0] at RG6
      have hsb := pUp_small HVAL.out (fun _ => true) HI.out.len
      rw [show pUp va (fun _ => true) ws ws.length = sUp va ws from rfl, ← HSU.out] at hsb
      have HST := Lib.hid hst
      clear hrb hc0 HB6 HI HSU hst
      go_frame
      gi_loopw [15] (fun y wr => ∃ (left : Lit → Bool) (cnt : Nat) (a : Int), y = .int .i64 a ∧ 0 ≤ a ∧ Hid (a + lUp va ws left = s) ∧ Hid (wr.ranges Tryd.prog 3 (plainElem Tryd.prog 4) mb rb i D left cnt) ∧ Hid (TalAt 126 128 (Value.int .i64) bs1 p1 g1 A1 n dd n va ws wr) ∧ Hid (Below w1.heap.size w1 wr))
        (fun _ wr => wr.rangeLeft mb rb)
      case atStart => exact ⟨_, _, 0, rfl, Int.le_refl _, Lib.hid (by rw [HST.out, Int.zero_add]), RG6, TA6, BL6⟩
      case round =>
        clear RG6 TA6 BL6 HST
        obtain ⟨left, cnt, a, rfl, ha0, HA, RG, TA, BL⟩ := hrel
        have hcn := RG.out.left_eq
        gi_wp2_with (gi_at_next; refine wpListIn_next_set _ rfl _ rfl mb rb i D left cnt rfl RG.out ?_ ?_)
        · intro hc00 hl0
          have HE : Hid (a = s) := Lib.hid (by have := HA.out; rw [lUp_done hl0] at this; omega)
          have y5 : Boxed wr w.heap.size 3 (.int .i64 z) := blk_below Y5.out BL.out
          have y5a : Boxed (wr.alloc (.cells #[.int .i64 0] 3)) w.heap.size 3 (.int .i64 z) := y5.alloc _
          have c5 := y5a.cell
          have f5 := y5a.frozen
          have hl5 := y5.lt
          have Z5 := Lib.hid y5
          obtain ⟨r, hr, hl⟩ := rem_u64' z 8 (by decide)
          rw [show ((8 : Nat) : Int) = 8 from rfl] at hr
          clear hl0 hc00 hcn y5 y5a
          gi_wp2_with fail
          refine ⟨trivial, ?_⟩
          gi_at_call 53
          refine (callsIn_wide.2 (allT_any p1 _)).mono ?_
          rintro _ wa ⟨rfl, rfl⟩
          obtain ⟨B, hB⟩ : ∃ y, y = wr.heap.size := ⟨_, rfl⟩
          rw [← hB]
          obtain ⟨u1, hu1⟩ : ∃ y, y = wr.setCell ⟨w.heap.size, 0, none⟩ (.int .i64 r) := ⟨_, rfl⟩
          obtain ⟨u2, hu2⟩ : ∃ y, y = u1.alloc (.cells #[.int .i64 0] 3) := ⟨_, rfl⟩
          obtain ⟨u3, hu3⟩ : ∃ y, y = u2.alloc (.cells #[.pointer (some ⟨p1, 0, none⟩)] 80) := ⟨_, rfl⟩
          have z1 : u1.heap.size = B := by rw [hu1, hB, World.size_setCell]
          have z2 : u2.heap.size = B + 1 := by rw [hu2]; simp [z1]
          have z3 : u3.heap.size = B + 2 := by rw [hu3]; simp [z2]
          have b2 : Below u1.heap.size u1 u2 := by rw [hu2]; exact (Below.refl _ _).alloc (Nat.le_refl _) _
          have b3 : Below u2.heap.size u2 u3 := by rw [hu3]; exact (Below.refl _ _).alloc (Nat.le_refl _) _
          have hqB : w.heap.size < B := by rw [hB]; exact Z5.out.lt
          have x1 : Boxed u2 B 3 (.int .i64 ((0 : Nat) : Int)) := by have := Boxed.new u1 3 (.int .i64 0); rwa [z1, ← hu2] at this
          have x3 : Boxed u3 (B + 1) 80 (.pointer (some ⟨p1, 0, none⟩)) := by have := Boxed.new u2 80 (.pointer (some ⟨p1, 0, none⟩)); rwa [z2, ← hu3] at this
          have x5 : Boxed u1 w.heap.size 3 (.int .i64 r) := by rw [hu1]; exact Z5.out.set _
          have x6 : Boxed u2 w.heap.size 3 (.int .i64 r) := blk_below x5 b2
          have t2 : TalAt 126 128 (Value.int .i64) bs1 p1 g1 A1 n dd n va ws u2 := TalAt.below (by rw [hu1]; exact TA.out.set3 Z5.out _) b2
          have bw2 : Below w.heap.size w u2 := Below.trans (by rw [hu1]; exact below_setT (B1.out.trans (BL.out.mono B1.out.size)) (Nat.le_refl _)) (b2.mono (by omega))
          have R3 : Hid (SqI va bs1 p1 g1 A1 n dd n w.heap.size B r ws w ([] : List (Int × Int)).length u3) := Lib.hid ⟨t2.below b3, blk_below x6 b3, blk_below x1 b3, Nat.zero_le _, bw2.trans (b3.mono bw2.size)⟩
          have C3 := Lib.hid x3.cell
          have hpB : p1 < B := by have := blk_lt TA.out.blk; omega
          have hgB : g1 < B := by obtain ⟨cur, h1, _⟩ := TA.out.wds; have := blk_lt h1; omega
          have hpq : p1 ≠ w.heap.size ∧ g1 ≠ w.heap.size := by
            have h1 := R3.out.bz
            refine ⟨fun e => ?_, fun e => ?_⟩
            · have h2 := R3.out.tal.blk
              have h1' : u3.heap[w.heap.size]? = _ := h1
              rw [e, h1'] at h2; cases h2
            · obtain ⟨cur, h2, _⟩ := R3.out.tal.wds
              have h1' : u3.heap[w.heap.size]? = _ := h1
              rw [e, h1'] at h2; cases h2
          have ZL := Lib.hid z3
          rw [← hu1, ← hu2, ← hu3, z2]
          have HRR := Lib.hid hr
          clear hu1 hu2 hu3 z1 z2 b2 b3 x1 x3 x5 x6 t2 bw2 hB TA BL RG HA Y5 Z5 S1 X1 HW c5 f5 hr
          gi_wp2_with fail
          refine wpIn_rangeFuncPA (n := 5) (P := Tryd.prog) (w0 := u3) (Kp := KeepL [B + 1, p1, g1]) (Fact := fun _ _ => True) (S := fun ys => ys = sel (fun _ => true) ws n) (encs := fun x : Int × Int => #[Value.int .i64 x.1, .int .i64 x.2]) (ps := #[84, 85]) (gf := 83) (lb := #[.pointer (some ⟨B + 1, 0, none⟩)]) rfl (enters_of Tryd.func83 (by kernel_rfl) rfl)
            (alltP_stops 4 (by omega) (B + 1) bs1 p1 g1 A1 n dd n va ws u3 C3.out R3.out.tal hn1000) (fun _ _ _ _ _ _ _ h => h) keepL_t (fun W l o o' _ hl ho _ => keepL_b W l o o' hl ho) (Below.refl _ _) (fun _ => rfl)
            (fun pre W => SqI va bs1 p1 g1 A1 n dd n w.heap.size B r ws w pre.length W)
            (fun c pre W => c = .exit 4 ∧ pre.length = r + 1 ∧ SqI va bs1 p1 g1 A1 n dd n w.heap.size B r ws w r W)
            (SqI.own_from (by omega) (fun pre => pre.length))
            (fun c => by
              rintro s X Y row ⟨hc, hn, hs⟩ hg hr
              exact ⟨hc, hn, SqI.own_from (α := Nat) (C := u3.heap.size) (by have := ZL.out; omega) (fun _ => r) [] X Y row hs hg hr⟩)
            R3.out
            (fun a x => { tmps := ((a.tmps.setIfInBounds 84 (.int .i64 x.1)).setIfInBounds 85 (.int .i64 x.2)), defers := [] }) ?assign ?body ?done ?stop
          case assign =>
            intro l x W K hK
            gi_wp2
            exact hK
          case body =>
            rintro l pre ⟨x1, x2⟩ W hI - hlt hsp
            have cz := hI.bz.cell
            have cn := hI.bn.cell
            have fn := hI.bn.frozen
            have hjr := hI.jr
            have HI := Lib.hid hI
            obtain ⟨ln, hln⟩ : ∃ y, y = pre.length := ⟨_, rfl⟩
            rw [← hln] at cn hjr
            have HLN := Lib.hid hln
            clear hI hlt hsp hln
            simp only [List.setIfInBounds_toArray, List.set_cons_succ, List.set_cons_zero]
            by_cases hbr : ln = r
            · have hbr' : (ln : Int) = r := by omega
              gi_wp2_with fail
              exact ⟨KeepsFrom.refl _ _, rfl, by rw [List.length_append, ← HLN.out, hbr]; rfl, by have := HI.out; rwa [← HLN.out, hbr] at this⟩
            · have hbr' : ¬ (ln : Int) = r := by omega
              gi_wp2_with fail
              refine ⟨(KeepsOthers.setCell _ _ _).from _, fun j hj cs t fr hk => ?_, ⟨HI.out.tal.set3 HI.out.bn _, HI.out.bz.other (by omega) _, ?_, by rw [List.length_append, ← HLN.out, List.length_singleton]; omega, below_setT HI.out.bel (by omega)⟩⟩
              · have hj3 : j ≠ B := by
                  simp only [List.mem_cons, List.not_mem_nil, or_false] at hj
                  omega
                exact (heap_setCell_other W ⟨B, 0, none⟩ j _ hj3).trans hk
              · rw [List.length_append, ← HLN.out]
                exact HI.out.bn.set _
          case done =>
            rintro Dd ys W hD rfl hI hK
            have hlr := hI.jr
            obtain ⟨j, hj⟩ : ∃ y, y = (sel (fun _ => true) ws n).length := ⟨_, rfl⟩
            rw [← hj] at hI hlr
            have hsz : saidN ws = j := by unfold saidN; rw [hj, ← hI.tal.nw]
            have hmin : min (r : Int) (saidN ws) = j := by rw [hsz]; omega
            clear hj hlr hsz
            have CN := Lib.hid hI.bn.cell
            have CZ := Lib.hid hI.bz.cell
            have TF := Lib.hid hI.tal
            have BF := Lib.hid hI.bel
            have MN := Lib.hid hmin
            have HKD := Lib.hid hK
            have heq : ((j : Int) == j) = true := by simp
            clear hI hmin hK
            gi_wp2_with fail
            refine wpIn_region_rely3 wideF ?hq (by kernel_rfl) (by kernel_rfl) 11 (by kernel_rfl) (by kernel_rfl) Ext Ext.refl Ext.trans (fun ix => match ix with
              | 0 => fun _ v => v = .int .i64 a
              | 1 => fun _ v => v = .int .i64 s
              | 2 => fun _ v => v = .bool true
              | 3 => fun _ v => v = .bool true
              | 4 => fun _ v => v = .int .i64 j
              | 5 => fun _ v => v = .int .i64 r
              | 6 => fun _ v => v = .pointer (some ⟨p1, 0, none⟩)
              | 7 => fun _ v => v = .int .i64 (saidN ws)
              | 8 => fun _ v => v = .int .i64 j
              | 9 => fun _ v => v = .bool true
              | 10 => fun _ v => v = .bool true
              | _ => fun _ _ => False) ?_
            case hq => (rintro ⟨_, _, h⟩; exact nomatch h.1)
            simp (maxSteps := 10000000) only [Rely, List.take_succ_cons, List.take_zero, List.drop_succ_cons, List.drop_zero, Nat.reduceAdd, Nat.zero_add, Act.put, List.setIfInBounds_toArray, List.set_cons_succ, List.set_cons_zero]
            refine ⟨?_, ?_, ?_, ?_, ?_, ?_, ?_, ?_, ?_, ?_, ?_, ?_⟩
            · refine step_plain rfl fun vs wq hE hd => ?_
              exact gives_move _ (.int .i64 a) (.inl rfl) rfl ⟨Ext.refl _, fun _ _ => rfl⟩
            · refine step_plain rfl fun vs wq hE hd => ?_
              exact gives_move _ (.int .i64 s) (.inl rfl) rfl ⟨Ext.refl _, fun _ _ => rfl⟩
            · refine step_plain rfl fun vs wq hE hd => ?_
              have he := HE.out
              exact gives_binOp .eql 3 _ _ _ rfl (.int .i64 a) (.int .i64 s) (.bool true) (show vs 0 = _ from (hd.1)) (show vs 1 = _ from (hd.2.1)) (by rw [he]; go_simp) (by go_simp) ⟨Ext.refl _, fun _ _ => rfl⟩
            · refine step_plain rfl fun vs wq hE hd => ?_
              exact gives_move _ (.bool true) (.inl rfl) (show vs 2 = _ from hd.1) ⟨Ext.refl _, fun _ _ => rfl⟩
            · refine step_guard 3 true 94 rfl rfl (fun _ => rfl) fun vs wq hE hd => ⟨hd.1, ?_⟩
              have hc := cell_on (ext_of_drew hE) CN.out
              exact gives_loadAt 3 _ rfl (.pointer (some ⟨B, 0, none⟩)) (.int .i64 j) rfl (by go_simp) ⟨Ext.refl _, fun _ _ => rfl⟩
            · refine step_guard 3 true 94 rfl rfl (fun _ => rfl) fun vs wq hE hd => ⟨hd.1, ?_⟩
              have hc := cell_on (ext_of_drew hE) CZ.out
              exact gives_loadAt 3 _ rfl (.pointer (some ⟨w.heap.size, 0, none⟩)) (.int .i64 r) rfl (by go_simp) ⟨Ext.refl _, fun _ _ => rfl⟩
            · refine step_guard 3 true 94 rfl rfl (fun _ => rfl) fun vs wq hE hd => ⟨hd.1, ?_⟩
              exact gives_move _ (.pointer (some ⟨p1, 0, none⟩)) (.inl rfl) rfl ⟨Ext.refl _, fun _ _ => rfl⟩
            · refine step_guard 3 true 94 rfl rfl (fun _ => rfl) fun vs wq hE hd => ⟨hd.2.1, ?_⟩
              refine gives_call 55 (enters_of Tryd.func55 (by kernel_rfl) rfl) _ _ rfl rfl [.pointer (some ⟨p1, 0, none⟩)] ?_ ?_
              · show [vs 6] = _
                rw [show vs 6 = _ from (hd.1)]
              · refine (lenT_any bs1 p1 g1 A1 n dd n va ws wq (TF.out.below (ext_of_drew hE)) hn1000).mono ?_
                rintro _ w'' ⟨rfl, hb⟩
                exact ⟨_, rfl, hb, fun _ _ => rfl⟩
            · refine step_guard 3 true 94 rfl rfl (fun _ => rfl) fun vs wq hE hd => ⟨hd.2.2.1, ?_⟩
              have hmn := MN.out
              exact gives_minT _ _ _ rfl (r : Int) (saidN ws : Int) (show vs 5 = _ from (hd.1)) (show vs 7 = _ from (hd.2.1)) (by rw [hmn]; exact ⟨Ext.refl _, fun _ _ => rfl⟩)
            · refine step_guard 3 true 94 rfl rfl (fun _ => rfl) fun vs wq hE hd => ⟨hd.2.2.1, ?_⟩
              exact gives_binOp .eql 3 _ _ _ rfl (.int .i64 j) (.int .i64 j) (.bool true) (show vs 4 = _ from hd.1) (show vs 8 = _ from hd.2.1) (by go_simp) (by go_simp) ⟨Ext.refl _, fun _ _ => rfl⟩
            · refine step_plain rfl fun vs wq hE hd => ?_
              exact gives_pick _ _ _ (.bool true) true rfl (show vs 3 = _ from hd.1) (show vs 9 = _ from hd.2.1) ⟨Ext.refl _, fun _ _ => rfl⟩
            · intro vs wz hE hR
              have h10 : vs 10 = .bool true := hR 10 (by omega)
              have bz := ext_of_drew hE
              have KZ := Lib.hid (blk_below HKD.out bz)
              have BZ := Lib.hid (BF.out.trans (bz.mono BF.out.size))
              rw [h10]
              clear hR hE h10 bz
              go_wp2_with fail
              gi_wp2_with fail
              refine ⟨by simp, .inl ⟨_, _, rfl, run_takeDeferred KZ.out, ?_⟩⟩
              exact ⟨_, results_tmp rfl _ _ _, rfl, BZ.out.trans (belowK_b (w := w) (Nat.le_refl _) _ Dd _ _ (by have := ZL.out; omega) KZ.out rfl rfl)⟩
          case stop =>
            rintro Dd c pre W hD ⟨k, hk⟩ ⟨rfl, hn, hI⟩ hK
            have hlk : r + 1 ≤ (sel (fun _ => true) ws n).length := by
              rw [← hn, hk, List.length_take]; omega
            obtain ⟨j, hj⟩ : ∃ y, y = r := ⟨_, rfl⟩
            have hmin : min (r : Int) (saidN ws) = j := by
              unfold saidN
              rw [← hI.tal.nw]
              omega
            rw [show (SqI va bs1 p1 g1 A1 n dd n w.heap.size B r ws w r W) = (SqI va bs1 p1 g1 A1 n dd n w.heap.size B r ws w j W) by rw [hj]] at hI
            clear hj hlk hk hn
            have CN := Lib.hid hI.bn.cell
            have CZ := Lib.hid hI.bz.cell
            have TF := Lib.hid hI.tal
            have BF := Lib.hid hI.bel
            have MN := Lib.hid hmin
            have HKD := Lib.hid hK
            have heq : ((j : Int) == j) = true := by simp
            clear hI hmin hK
            gi_wp2_with fail
            refine wpIn_region_rely3 wideF ?hq (by kernel_rfl) (by kernel_rfl) 11 (by kernel_rfl) (by kernel_rfl) Ext Ext.refl Ext.trans (fun ix => match ix with
              | 0 => fun _ v => v = .int .i64 a
              | 1 => fun _ v => v = .int .i64 s
              | 2 => fun _ v => v = .bool true
              | 3 => fun _ v => v = .bool true
              | 4 => fun _ v => v = .int .i64 j
              | 5 => fun _ v => v = .int .i64 r
              | 6 => fun _ v => v = .pointer (some ⟨p1, 0, none⟩)
              | 7 => fun _ v => v = .int .i64 (saidN ws)
              | 8 => fun _ v => v = .int .i64 j
              | 9 => fun _ v => v = .bool true
              | 10 => fun _ v => v = .bool true
              | _ => fun _ _ => False) ?_
            case hq => (rintro ⟨_, _, h⟩; exact nomatch h.1)
            simp (maxSteps := 10000000) only [Rely, List.take_succ_cons, List.take_zero, List.drop_succ_cons, List.drop_zero, Nat.reduceAdd, Nat.zero_add, Act.put, List.setIfInBounds_toArray, List.set_cons_succ, List.set_cons_zero]
            refine ⟨?_, ?_, ?_, ?_, ?_, ?_, ?_, ?_, ?_, ?_, ?_, ?_⟩
            · refine step_plain rfl fun vs wq hE hd => ?_
              exact gives_move _ (.int .i64 a) (.inl rfl) rfl ⟨Ext.refl _, fun _ _ => rfl⟩
            · refine step_plain rfl fun vs wq hE hd => ?_
              exact gives_move _ (.int .i64 s) (.inl rfl) rfl ⟨Ext.refl _, fun _ _ => rfl⟩
            · refine step_plain rfl fun vs wq hE hd => ?_
              have he := HE.out
              exact gives_binOp .eql 3 _ _ _ rfl (.int .i64 a) (.int .i64 s) (.bool true) (show vs 0 = _ from (hd.1)) (show vs 1 = _ from (hd.2.1)) (by rw [he]; go_simp) (by go_simp) ⟨Ext.refl _, fun _ _ => rfl⟩
            · refine step_plain rfl fun vs wq hE hd => ?_
              exact gives_move _ (.bool true) (.inl rfl) (show vs 2 = _ from hd.1) ⟨Ext.refl _, fun _ _ => rfl⟩
            · refine step_guard 3 true 94 rfl rfl (fun _ => rfl) fun vs wq hE hd => ⟨hd.1, ?_⟩
              have hc := cell_on (ext_of_drew hE) CN.out
              exact gives_loadAt 3 _ rfl (.pointer (some ⟨B, 0, none⟩)) (.int .i64 j) rfl (by go_simp) ⟨Ext.refl _, fun _ _ => rfl⟩
            · refine step_guard 3 true 94 rfl rfl (fun _ => rfl) fun vs wq hE hd => ⟨hd.1, ?_⟩
              have hc := cell_on (ext_of_drew hE) CZ.out
              exact gives_loadAt 3 _ rfl (.pointer (some ⟨w.heap.size, 0, none⟩)) (.int .i64 r) rfl (by go_simp) ⟨Ext.refl _, fun _ _ => rfl⟩
            · refine step_guard 3 true 94 rfl rfl (fun _ => rfl) fun vs wq hE hd => ⟨hd.1, ?_⟩
              exact gives_move _ (.pointer (some ⟨p1, 0, none⟩)) (.inl rfl) rfl ⟨Ext.refl _, fun _ _ => rfl⟩
            · refine step_guard 3 true 94 rfl rfl (fun _ => rfl) fun vs wq hE hd => ⟨hd.2.1, ?_⟩
              refine gives_call 55 (enters_of Tryd.func55 (by kernel_rfl) rfl) _ _ rfl rfl [.pointer (some ⟨p1, 0, none⟩)] ?_ ?_
              · show [vs 6] = _
                rw [show vs 6 = _ from (hd.1)]
              · refine (lenT_any bs1 p1 g1 A1 n dd n va ws wq (TF.out.below (ext_of_drew hE)) hn1000).mono ?_
                rintro _ w'' ⟨rfl, hb⟩
                exact ⟨_, rfl, hb, fun _ _ => rfl⟩
            · refine step_guard 3 true 94 rfl rfl (fun _ => rfl) fun vs wq hE hd => ⟨hd.2.2.1, ?_⟩
              have hmn := MN.out
              exact gives_minT _ _ _ rfl (r : Int) (saidN ws : Int) (show vs 5 = _ from (hd.1)) (show vs 7 = _ from (hd.2.1)) (by rw [hmn]; exact ⟨Ext.refl _, fun _ _ => rfl⟩)
            · refine step_guard 3 true 94 rfl rfl (fun _ => rfl) fun vs wq hE hd => ⟨hd.2.2.1, ?_⟩
              exact gives_binOp .eql 3 _ _ _ rfl (.int .i64 j) (.int .i64 j) (.bool true) (show vs 4 = _ from hd.1) (show vs 8 = _ from hd.2.1) (by go_simp) (by go_simp) ⟨Ext.refl _, fun _ _ => rfl⟩
            · refine step_plain rfl fun vs wq hE hd => ?_
              exact gives_pick _ _ _ (.bool true) true rfl (show vs 3 = _ from hd.1) (show vs 9 = _ from hd.2.1) ⟨Ext.refl _, fun _ _ => rfl⟩
            · intro vs wz hE hR
              have h10 : vs 10 = .bool true := hR 10 (by omega)
              have bz := ext_of_drew hE
              have KZ := Lib.hid (blk_below HKD.out bz)
              have BZ := Lib.hid (BF.out.trans (bz.mono BF.out.size))
              rw [h10]
              clear hR hE h10 bz
              go_wp2_with fail
              gi_wp2_with fail
              refine ⟨by simp, .inl ⟨_, _, rfl, run_takeDeferred KZ.out, ?_⟩⟩
              exact ⟨_, results_tmp rfl _ _ _, rfl, BZ.out.trans (belowK_b (w := w) (Nat.le_refl _) _ Dd _ _ (by have := ZL.out; omega) KZ.out rfl rfl)⟩
        · intro x cc w7 cnt7 hlk hrg7 hlt7 hg7 hen
          have hbut : But (fun k => k = rb) wr w7 := (But.refl _ wr).grownT hg7 (fun k e => by cases e; rfl)
          have HA7 : Hid (a + powOf va ws x + lUp va ws (fun z => left z && !z.sameKey (.int .i64 x)) = s) := Lib.hid (by have := HA.out; rw [lUp_step hlk] at this; omega)
          have TA7 := Lib.hid (ranges_tal RG.out TA.out hbut)
          have BL7 := Lib.hid (BL.out.trans (hbut.low BL.out.size (fun k e => by rw [show k = rb from e]; exact HRB.out)))
          have RG7 := Lib.hid hrg7
          have hps := powOf_small HVAL.out HLN.out x
          have hls := pUp_small HVAL.out (fun k => (fun z : Lit => left z && !z.sameKey (.int .i64 x)) (.int .i64 k)) HLN.out
          have HLS : Hid (0 ≤ lUp va ws (fun z => left z && !z.sameKey (.int .i64 x))) := Lib.hid hls.1
          have hap : a + powOf va ws x ≤ s := by have := HA7.out; have := HLS.out; omega
          obtain ⟨pw, hpw⟩ : ∃ y, y = powOf va ws x := ⟨_, rfl⟩
          rw [← hpw] at HA7 hps hap
          have HPW := Lib.hid hpw.symm
          have HCN : Hid (wr.rangeLeft mb rb = cnt ∧ cnt7 < cnt) := Lib.hid ⟨hcn, hlt7⟩
          clear hlk hrg7 hlt7 hg7 hbut RG TA BL HA hcn hls hpw
          gi_wp2_with fail
          refine ⟨trivial, ?_⟩
          gi_at_call 54
          refine (callsIn_wide.2 (power_any bs1 p1 g1 A1 n dd n va ws x aS aR aT _ TA7.out (S1.out.below BL7.out) HVAL.out hn1000)).mono ?_
          rintro _ w8 ⟨rfl, b8⟩
          rw [HPW.out]
          have RG8 := Lib.hid (RG7.out.kept (w' := w8) (row := none) ⟨b8.os, b8.tape, b8.output, b8.size, fun k hk _ => b8.block k hk⟩ (by simp) (by simp))
          have TA8 := Lib.hid (TA7.out.below b8)
          have BL8 := Lib.hid (BL7.out.trans (b8.mono BL7.out.size))
          clear b8 RG7 TA7 BL7 hen HPW
          gi_wp2
          go_roundw
          case rel => exact ⟨_, cnt7, a + pw, by go_num, by omega, HA7, RG8, TA8, BL8⟩
          case measure => rw [RG8.out.left_eq, HCN.out.1]; exact HCN.out.2
end Go.Proofs.YtideopnblhbngaaDoor
