/- What TallyOnce answers. -/
import Derived.Test.YtideopnblhbngaaDoorTalZ
import Derived.Test.YtideopnblhbngaaDoorTalO
import Derived.Test.YtideopnblhbngaaDoorTAlive
namespace Go.Proofs.YtideopnblhbngaaDoor
open Go.RowKit Go.Shelf Go.Maps
attribute [local go_sem] Oper.semAt_some

theorem results_boolT {fn : Func} {p g : Nat} {b : Bool} (h : fn.results = #[.cell p 4]) (tmps : Array Value) (w : World) (hp : tmps.getD p undef = .pointer (some ⟨g, 0, none⟩)) (hb : Boxed w g 4 (.bool b)) : (results fn tmps).run Tryd.prog w = .ok (.bool b) w := by
  have hp' : tmps[p]?.getD undef = .pointer (some ⟨g, 0, none⟩) := by simpa using hp
  have hc := hb.cell
  simp [results, h, hp', asAddr]
  go_simp
theorem below_setT {B g : Nat} {w W : World} {v : Value} (h : Below B w W) (hg : B ≤ g) : Below B w (W.setCell ⟨g, 0, none⟩ v) :=
  ⟨h.os, h.tape, h.output, by rw [World.size_setCell]; exact h.size, fun k hk => (heap_setCell_other W ⟨g, 0, none⟩ k v (by show k ≠ g; omega)).trans (h.block k hk)⟩
theorem Tryd.size85 : (Tryd.prog.info? 85).map (·.size) = some 3 := by kernel_rfl
theorem Wsl.elR {w : World} {A : Option Addr} {n c : Nat} {xs : List W3} (h : Wsl w (.slice A n c) xs) (i : Nat) (hi : i < n) :
    ∃ b off k who x, A = some ⟨b, off, none⟩ ∧ n ≤ c ∧ xs[i]? = some (k, who, x) ∧ w.rangeAt b (off + i * 3) [.int .i64 k, .int .i64 who, .int .i64 x] := by
  obtain ⟨b, off, k, who, x, e, hc, hX, e0, e1, e2⟩ := h.el i hi
  refine ⟨b, off, k, who, x, e, hc, hX, fun j u hu => ?_⟩
  match j, hu with
  | 0, hu => cases hu; exact e0
  | 1, hu => cases hu; exact e1
  | 2, hu => cases hu; exact e2
  | j + 3, hu => simp at hu
theorem TalAt.butM {base p g : Nat} {A : Option Addr} {n c cw : Nat} {vs : List Va} {ws : List (Wd Int)} {w w' : World} (h : TalAt 126 128 (Value.int .i64) base p g A n c cw vs ws w) {mb : Nat} {es : Array MapEntry} {ck : Nat} (hm : w.heap[mb]? = some (.map es ck)) (hb : But (fun k => k = mb) w w') : TalAt 126 128 (Value.int .i64) base p g A n c cw vs ws w' := by
  have hno : ∀ (k : Nat) (cs : Array Value) (t : TypeId) (fr : Nat × Nat), w.heap[k]? = some (.cells cs t fr) → ¬ k = mb := fun k cs t fr hk e => by
    rw [e, hm] at hk
    cases hk
  obtain ⟨cur, h1, h2⟩ := h.wds
  refine ⟨hb.blk h.blk (hno _ _ _ _ h.blk), ?_, ⟨cur, hb.blk h1 (hno _ _ _ _ h1), h2⟩, h.nv, h.nw, h.good, h.hp, h.hg, h.hc⟩
  rcases h.own with ⟨hl', h1 | ⟨b, cap, cur2, e, hbb, hg2, rest⟩⟩
  · exact ⟨hl', .inl h1⟩
  · exact ⟨hl', .inr ⟨b, cap, cur2, e, hbb, hb.blk hg2 (hno _ _ _ _ hg2), rest⟩⟩
/-- What the loop over the words holds. -/
structure OnI (va : List Va) (base p g : Nat) (A : Option Addr) (n c cw mb tb : Nat) (w1 : World) (i yes : Nat) (ws : List (Wd Int)) (D : DU) (W : World) : Prop where
  tal : TalAt 126 128 (Value.int .i64) base p g A n c cw va ws W
  yinv : YInv va ws yes
  mv : MV ws D
  own : W.ownsMap Tryd.prog 3 (plainElem Tryd.prog 3) mb i D
  box : Boxed W tb 83 (.map (some mb))
  bel : Below w1.heap.size w1 W
  hmb : w1.heap.size ≤ mb
theorem OnI.below {va : List Va} {base p g : Nat} {A : Option Addr} {n c cw mb tb : Nat} {w1 : World} {i yes : Nat} {ws : List (Wd Int)} {D : DU} {W W' : World} (h : OnI va base p g A n c cw mb tb w1 i yes ws D W) (hb : Below W.heap.size W W') : OnI va base p g A n c cw mb tb w1 i yes ws D W' :=
  ⟨h.tal.below hb, h.yinv, h.mv, ownsMap_below h.own hb, blk_below h.box hb, h.bel.trans (hb.mono h.bel.size), h.hmb⟩
theorem OnI.gne {va : List Va} {base p g : Nat} {A : Option Addr} {n c cw mb tb : Nat} {w1 : World} {i yes : Nat} {ws : List (Wd Int)} {D : DU} {W : World} (h : OnI va base p g A n c cw mb tb w1 i yes ws D W) : mb ≠ g ∧ tb ≠ g ∧ tb ≠ mb := by
  obtain ⟨cur, h1, _⟩ := h.tal.wds
  obtain ⟨es, ck, h2, _⟩ := h.own
  have h3 := h.box
  refine ⟨fun e => ?_, fun e => ?_, fun e => ?_⟩
  · rw [← e, h2] at h1; cases h1
  · rw [← e, h3] at h1; cases h1
  · have h3' : W.heap[tb]? = _ := h3
    rw [e, h2] at h3'; cases h3'

def lastOf (pre : List (Int × Int)) : Int := match pre.getLast? with
  | some y => y.1
  | none => -1
theorem lastOf_snoc (pre : List (Int × Int)) (x : Int × Int) : lastOf (pre ++ [x]) = x.1 := by simp [lastOf]
theorem lastOf_lt {pre : List (Int × Int)} {x : Int} (h : ∀ y ∈ pre, y.1 < x) (h0 : 0 ≤ x) : lastOf pre < x := by
  unfold lastOf
  cases hg : pre.getLast? with
  | none => simp only; omega
  | some y => exact h y (List.mem_of_getLast? hg)
/-- What the range over all words holds. -/
structure RgI (mb tb q B m : Nat) (D : DU) (w : World) (pre : List (Int × Int)) (W : World) : Prop where
  own : W.ownsMap Tryd.prog 3 (plainElem Tryd.prog 3) mb m D
  box : Boxed W tb 83 (.map (some mb))
  y4 : Boxed W q 4 (.bool false)
  bl : Boxed W B 3 (.int .i64 (lastOf pre))
  bn : Boxed W (B + 1) 3 (.int .i64 pre.length)
  bel : Below w.heap.size w W
theorem RgI.own_from {mb tb q B m C : Nat} {D : DU} {w : World} (hB : w.heap.size ≤ C) (hm : mb < C) : OwnFrom C (RgI mb tb q B m D w) := by
  intro s X Y row hs hg hr
  have hr' := fun k e => (hr k e).2
  exact ⟨hs.own.kept hg (fun e => by have := (hr mb e.symm).1; omega), boxed_kept' hs.box hg hr', boxed_kept' hs.y4 hg hr', boxed_kept' hs.bl hg hr', boxed_kept' hs.bn hg hr', hs.bel.grown hg hs.bel.size fun k e => by have := (hr k e).1; omega⟩
theorem RgI.turn {mb tb q B m : Nat} {D : DU} {w : World} {pre : List (Int × Int)} {W : World} (h : RgI mb tb q B m D w pre W) (hB : w.heap.size ≤ B) (x : Int × Int) (hq : q < B) (ht : tb < B) : RgI mb tb q B m D w (pre ++ [x]) ((W.setCell ⟨B, 0, none⟩ (.int .i64 x.1)).setCell ⟨B + 1, 0, none⟩ (.int .i64 ((pre.length : Int) + 1))) := by
  have hne : ∀ k, k = B ∨ k = B + 1 → mb ≠ k := fun k hk e => by
    obtain ⟨es, ck, h2, _⟩ := h.own
    rcases hk with rfl | rfl
    · have h3 : W.heap[k]? = _ := h.bl
      rw [← e, h2] at h3; cases h3
    · have h3 : W.heap[B + 1]? = _ := h.bn
      rw [← e, h2] at h3; cases h3
  refine ⟨(h.own.setCell (hne B (.inl rfl)) _).setCell (hne (B + 1) (.inr rfl)) _, (h.box.other (by omega) _).other (by omega) _, (h.y4.other (by omega) _).other (by omega) _, ?_, ?_, (h.bel.setCell (p := ⟨B, 0, none⟩) hB _).setCell (p := ⟨B + 1, 0, none⟩) (by show w.heap.size ≤ B + 1; omega) _⟩
  · rw [lastOf_snoc]
    exact (h.bl.set _).other (by omega) _
  · rw [List.length_append]
    have := (h.bn.other (B' := B) (by omega) (.int .i64 x.1)).set (.int .i64 ((pre.length : Int) + 1))
    simpa using this

/-- A thing has been stored. -/
theorem onI_put {va : List Va} {base p g : Nat} {A : Option Addr} {n c cw mb tb : Nat} {w1 : World} {i yes : Nat} {ws : List (Wd Int)} {D D' : DU} {W W' : World} (ht : TalAt 126 128 (Value.int .i64) base p g A n c cw va ws W) (hy : YInv va ws yes) (hm : MV ws D') (h0 : W.ownsMap Tryd.prog 3 (plainElem Tryd.prog 3) mb i D) (ho : W'.ownsMap Tryd.prog 3 (plainElem Tryd.prog 3) mb (i + 1) D') (hg : W.grownBy W' (some mb)) (hb : Boxed W tb 83 (.map (some mb))) (hl : Below w1.heap.size w1 W) (hmb : w1.heap.size ≤ mb) : OnI va base p g A n c cw mb tb w1 (i + 1) yes ws D' W' := by
  have hbut : But (fun k => k = mb) W W' := (But.refl _ W).grownT hg (fun k e => by cases e; rfl)
  obtain ⟨es, ck, h2, _⟩ := h0
  refine ⟨ht.butM h2 hbut, hy, hm, ho, hbut.blk hb (fun e => ?_), hl.trans (hbut.low hl.size (fun k e => by rw [show k = mb from e]; exact hmb)), hmb⟩
  have h3' : W.heap[tb]? = _ := hb
  rw [e, h2] at h3'; cases h3'

set_option maxHeartbeats 8000000 in
set_option maxRecDepth 100000 in
theorem tallyOnce_any (va : List Va) (xs : List W3) (A A' : Option Addr) (n c m c' : Nat) (aS aR aT : Addr) (w : World) (hv : Vals w (.slice A n c) va) (hx : Wsl w (.slice A' m c') xs) (hs : Sen w aS aR aT) (hwf : ∀ (i : Nat) (x : W3), xs[i]? = some x → (Lit.int .i64 x.2.2).wf = true) :
    Calls Tryd.prog 13 #[.slice A n c, .slice A' m c'] w fun e w' => e = .returned (.bool true) ∧ Below w.heap.size w w' := by
  have hmm := @run_makeMap Tryd.prog
  have bel0 : Below w.heap.size w (w.alloc (.cells #[.bool false] 4)) := (Below.refl _ _).alloc (Nat.le_refl _) _
  have HS := Lib.hid (hs.below bel0)
  have HV := Lib.hid (hv.below bel0)
  have HX := Lib.hid (hx.below bel0)
  have HW := Lib.hid hwf
  have B0 := Lib.hid bel0
  have X4 : Hid (Boxed (w.alloc (.cells #[.bool false] 4)) w.heap.size 4 (.bool false)) := Lib.hid (Boxed.new w 4 _)
  clear hs hv hx hwf bel0
  refine (callsIn_wide (n := 5)).1 ?_
  refine callsIn_of_wp_marks Tryd.func13 rfl trivial ?_ rfl
  simp only [Tryd.ntmps13, List.size_toArray, List.length_cons, List.length_nil, Nat.reduceAdd, Nat.reduceSub, Array.replicate_succ, Array.replicate_zero, List.push_toArray, List.append_toArray, List.nil_append, List.cons_append]
  by_cases h30 : 30 < n ∨ 40 < m
  · have h30' : (30 : Int) < n ∨ ((¬ (30 : Int) < n) ∧ (40 : Int) < m) := by omega
    gi_wp2_with fail
    refine ⟨trivial, ?_⟩
    gi_at_call 50
    refine (callsIn_wide.2 (tAlive_any aS aR aT _ HS.out)).mono ?_
    rintro _ w1 ⟨rfl, bel1⟩
    have y4 : Boxed w1 _ _ _ := blk_below X4.out bel1
    have c4 := y4.cell
    have f4 := y4.frozen
    have Y4 := Lib.hid y4
    have B1 := Lib.hid (B0.out.trans (bel1.mono B0.out.size))
    clear bel1 y4
    rcases h30' with h | ⟨h, h'⟩
    all_goals
      gi_wp2
      exact ⟨_, results_boolT rfl _ _ rfl (Y4.out.set _), rfl, below_setT B1.out (by omega)⟩
  have h30' : ¬ (30 : Int) < n := by omega
  have h40' : ¬ (40 : Int) < m := by omega
  gi_wp2_with (refine ⟨trivial, ?_⟩; gi_at_call 50; refine (callsIn_wide.2 (tAlive_any aS aR aT _ HS.out)).mono ?_; rintro _ w1 ⟨rfl, bel1⟩; have S1 := Lib.hid (HS.out.below bel1); have V1 := Lib.hid (HV.out.below bel1); have X1 := Lib.hid (HX.out.below bel1); have Q1 := Lib.hid (show w.heap.size + 1 ≤ w1.heap.size from (by have := bel1.size; simpa using this)); have Y4 := Lib.hid (blk_below X4.out bel1 : Boxed w1 _ _ _); have B1 := Lib.hid (B0.out.trans (bel1.mono B0.out.size)); clear bel1)
  refine ⟨trivial, ?_⟩
  gi_at_call 51
  clear HS HV HX X4 B0
  cases hval : validB va with
  | false =>
    refine (callsIn_wide.2 (new_bad va A n c aS aR aT w1 V1.out S1.out hval)).mono ?_
    rintro _ w3 ⟨rfl, bel3⟩
    have y4 : Boxed w3 _ _ _ := blk_below Y4.out bel3
    have c4 := y4.cell
    have f4 := y4.frozen
    have Z4 := Lib.hid y4
    have B3 := Lib.hid (B1.out.trans (bel3.mono B1.out.size))
    clear bel3 y4
    gi_wp2
    exact ⟨_, results_boolT rfl _ _ rfl (Z4.out.set _), rfl, below_setT B3.out (by omega)⟩
  | true =>
  have HVAL := Lib.hid hval
  have hlen := valid_len hval
  have hvl := V1.out.len
  have hn1 : 1 ≤ n := by omega
  have hn7 : n ≤ 7 := by omega
  have hn1000 : n ≤ 1000 := by omega
  have HVL := Lib.hid hvl
  clear hval hlen hvl
  refine (callsIn_wide.2 (new_ok va A n c aS aR aT w1 V1.out S1.out HVAL.out)).mono ?_
  rintro _ w3 ⟨⟨p1, g1, A1, dd, rfl, t1⟩, bel3⟩
  have T3 := Lib.hid t1
  have B3 := Lib.hid bel3
  clear t1 bel3
  gi_wp2_with fail
  obtain ⟨mb, hmb⟩ : ∃ y, y = w3.heap.size := ⟨_, rfl⟩
  obtain ⟨bs1, hbs1⟩ : ∃ y, y = w1.heap.size := ⟨_, rfl⟩
  have HBS := Lib.hid hbs1
  have I3 : Hid (OnI va bs1 p1 g1 A1 n dd n mb (mb + 1) w1 0 0 (List.replicate n (false, 0, 0)) (.map []) ((w3.alloc (.map #[] 0)).alloc (.cells #[.map (some mb)] 83))) := Lib.hid (by
    have ha : Below w3.heap.size w3 (w3.alloc (.map #[] 0)) := (Below.refl _ _).alloc (Nat.le_refl _) _
    have hb : Below (w3.alloc (.map #[] 0)).heap.size (w3.alloc (.map #[] 0)) ((w3.alloc (.map #[] 0)).alloc (.cells #[.map (some mb)] 83)) := (Below.refl _ _).alloc (Nat.le_refl _) _
    have ho : (w3.alloc (.map #[] 0)).ownsMap Tryd.prog 3 (plainElem Tryd.prog 3) mb 0 (.map [] : DU) := by rw [hmb]; exact World.ownsMap_made _ _ _ _
    refine ⟨by rw [hbs1]; exact (T3.out.below ha).below hb, YInv.start HVAL.out n HVL.out, MV.start n, ownsMap_below ho hb, ?_, (B3.out.trans (ha.mono B3.out.size)).trans (hb.mono (Nat.le_trans B3.out.size ha.size)), by rw [hmb]; exact B3.out.size⟩
    have := Boxed.new (w3.alloc (.map #[] 0)) 83 (.map (some mb))
    rwa [World.size_alloc, ← hmb] at this)
  have Q3 := Lib.hid (show w1.heap.size ≤ w3.heap.size from B3.out.size)
  rw [← hmb]
  clear hmm T3 V1 B3 hmb hbs1
  gi_loopw [8, 37] (fun ys y wr => ∃ (i yes : Nat) (ws : List (Wd Int)) (D : DU), i ≤ m ∧ ys = .int .i64 yes ∧ y = .int .i64 i ∧ Hid (OnI va bs1 p1 g1 A1 n dd n mb (mb + 1) w1 i yes ws D wr))
    (fun _ y _ => m - (intOf y).toNat)
  case atStart => exact ⟨0, 0, _, _, by omega, rfl, rfl, I3⟩
  case round =>
    clear I3
    obtain ⟨i, yes, ws, D, hi, rfl, rfl, HI⟩ := hrel
    by_cases hlt : i < m
    · have hil : (i : Int) < m := by omega
      obtain ⟨b, off, k, who, x, rfl, hmc, hX, er⟩ := (X1.out.below HI.out.bel).elR i hlt
      have HR := Lib.hid er
      have HWF := Lib.hid (HW.out i _ hX)
      dsimp only at HWF
      obtain ⟨wo, hwo⟩ : ∃ y, y = wr := ⟨_, rfl⟩
      subst hwo
      have HH : Hid (∀ Z : Array Value, Z.size = 3 → Has (wo.alloc (.cells Z 85)) wo.heap.size 85 3) := Lib.hid (fun Z hZ => has_new wo _ _ _ hZ)
      clear hX er
      gi_wp2_with (first | (refine wpListIn_load_g wideF rfl 85 (.tmp 39) rfl b (off + i * 3) rfl [.int .i64 k, .int .i64 who, .int .i64 x] _ HR.out Tryd.underlying85 rfl Tryd.size85 ?_) | (refine wpListIn_store_row wideF rfl 85 (.tmp 10) (.tmp 40) rfl wo.heap.size rfl [.int .i64 k, .int .i64 who, .int .i64 x] rfl 85 (HH.out _ rfl) Tryd.size85 (by simp [Value.oneCell']) ?_; intro wa hp1; have L1 : Below wo.heap.size wo wa := hp1.below ((Below.refl _ _).alloc (Nat.le_refl _) _) (Nat.le_refl _); have d0 := blk_cell hp1.blk 0 _ rfl; have d1 := blk_cell hp1.blk 1 _ rfl; have d2 := blk_cell hp1.blk 2 _ rfl; have BX := Lib.hid hp1.blk; have IA := Lib.hid (HI.out.below L1); clear hp1 L1))
      refine ⟨trivial, ?_⟩
      gi_at_call 52
      have h3 : 3 ≤ bs1 := by
        obtain ⟨cs, t, fr, e⟩ := cell_obj S1.out.t
        rw [HBS.out]
        exact blk_lt e
      refine (callsIn_wide.2 (put_any bs1 p1 g1 A1 n dd n va ws k who x aS aR aT _ IA.out.tal (S1.out.below IA.out.bel) h3 hn1000)).mono ?_
      rintro _ w5 ⟨rfl, ta5, bb5⟩
      have hgb : w1.heap.size ≤ g1 := by rw [← HBS.out]; exact IA.out.tal.hg
      have bw5 := IA.out.bel.trans (bb5.low IA.out.bel.size (fun j hj => by rw [show j = g1 from hj]; exact hgb))
      have hne := IA.out.gne
      have BX5 : Hid (w5.heap[wo.heap.size]? = some (.cells #[.int .i64 k, .int .i64 who, .int .i64 x] 85 (0, 0))) := Lib.hid (bb5.blk BX.out (fun e => by
        obtain ⟨cur, h1, _⟩ := IA.out.tal.wds
        have h2 := BX.out
        rw [show wo.heap.size = g1 from e, h1] at h2
        cases h2))
      have OW5 := Lib.hid (ownsMap_but IA.out.own bb5 hne.1)
      have BO5 : Hid (Boxed w5 (mb + 1) 83 (.map (some mb))) := Lib.hid (bb5.blk IA.out.box hne.2.1)
      have YI := Lib.hid (IA.out.yinv.put HVAL.out k who x)
      have TA5 := Lib.hid ta5
      have BW5 := Lib.hid bw5
      have MV0 := Lib.hid IA.out.mv
      have MB0 := Lib.hid IA.out.hmb
      have hy1 : yes ≤ 1 := IA.out.yinv.le
      have HWL := Lib.hid (show ws.length = n by rw [HVL.out]; exact IA.out.yinv.len)
      obtain ⟨pb, hpb⟩ : ∃ y, y = putB va ws k who x := ⟨_, rfl⟩
      obtain ⟨ws5, hws⟩ : ∃ y, y = putW ws k who x := ⟨_, rfl⟩
      rw [← hpb, ← hws] at YI
      rw [← hws] at TA5
      rw [← hpb]
      have HWS := Lib.hid hws
      clear hpb hws ta5 bb5 bw5 hgb hne HR HH HI IA BX h3 d0 d1 d2
      have f1 := blk_cell BX5.out 1 _ rfl
      have f2 := blk_cell BX5.out 2 _ rfl
      have cb := BO5.out.cell
      cases hf : freeAt ws who with
      | false =>
        obtain ⟨ea, hea⟩ := putE_no hf aR aT
        rw [hea]
        rw [putW_no hf] at HWS
        have HWS' := HWS.out
        subst HWS'
        clear HWS hf hea
        cases pb with
        | false =>
          gi_wp2
          go_roundw
          case rel => exact ⟨i + 1, yes, ws5, D, by omega, by go_num, by go_num, Lib.hid ⟨TA5.out, YI.out, MV0.out, OW5.out.mono (by omega), BO5.out, BW5.out, MB0.out⟩⟩
          case measure => simp [intOf]; omega
        | true =>
          gi_wp2
          go_roundw
          case rel => exact ⟨i + 1, yes + 1, ws5, D, by omega, by go_num, by go_num, Lib.hid ⟨TA5.out, YI.out, MV0.out, OW5.out.mono (by omega), BO5.out, BW5.out, MB0.out⟩⟩
          case measure => simp [intOf]; omega
      | true =>
        rw [putE_ok hf aR aT]
        have hkw : (Lit.int .i64 who).wf = true := by
          have h1 := freeAt_lt hf
          have h2 := HWL.out
          exact int_wf h1.1 (by omega)
        have HKY := Lib.hid (keyOf_int_mk (P := Tryd.prog) Tryd.underlying3 hkw)
        have MV5 := Lib.hid (MV0.out.put (OW5.out.tidy law3) hf k x)
        rw [← HWS.out] at MV5
        clear hkw hf HWS
        cases pb with
        | false =>
          gi_wp2_with (gi_at_mapUpdate; refine wpListIn_mapUpdate_own _ rfl _ _ _ 83 rfl 3 3 law3 Tryd.underlying83 _ mb i D rfl OW5.out (by unfold maxLen; omega) _ _ (.int .i64 who) rfl rfl HKY.out _ [] (plainElem_int Tryd.underlying3 HWF.out) ?_; intro w6 own6 hg6; have OW6 := Lib.hid own6; have HG6 := Lib.hid hg6; clear own6 hg6)
          go_roundw
          case rel => exact ⟨i + 1, yes, ws5, _, by omega, by go_num, by go_num, Lib.hid (onI_put TA5.out YI.out MV5.out OW5.out OW6.out HG6.out BO5.out BW5.out MB0.out)⟩
          case measure => simp [intOf]; omega
        | true =>
          gi_wp2_with (gi_at_mapUpdate; refine wpListIn_mapUpdate_own _ rfl _ _ _ 83 rfl 3 3 law3 Tryd.underlying83 _ mb i D rfl OW5.out (by unfold maxLen; omega) _ _ (.int .i64 who) rfl rfl HKY.out _ [] (plainElem_int Tryd.underlying3 HWF.out) ?_; intro w6 own6 hg6; have OW6 := Lib.hid own6; have HG6 := Lib.hid hg6; clear own6 hg6)
          go_roundw
          case rel => exact ⟨i + 1, yes + 1, ws5, _, by omega, by go_num, by go_num, Lib.hid (onI_put TA5.out YI.out MV5.out OW5.out OW6.out HG6.out BO5.out BW5.out MB0.out)⟩
          case measure => simp [intOf]; omega
    · obtain rfl : i = m := by omega
      gi_wp2_with fail
      refine ⟨trivial, ?_⟩
      gi_at_call 53
      refine (callsIn_wide.2 (allT_any p1 _)).mono ?_
      rintro _ wa ⟨rfl, rfl⟩
      obtain ⟨B, hB⟩ : ∃ y, y = wr.heap.size := ⟨_, rfl⟩
      rw [← hB]
      obtain ⟨u1, hu1⟩ : ∃ y, y = wr.alloc (.cells #[.int .i64 (-1)] 3) := ⟨_, rfl⟩
      obtain ⟨u2, hu2⟩ : ∃ y, y = u1.alloc (.cells #[.int .i64 0] 3) := ⟨_, rfl⟩
      obtain ⟨u3, hu3⟩ : ∃ y, y = u2.alloc (.cells #[.pointer (some ⟨p1, 0, none⟩)] 80) := ⟨_, rfl⟩
      have z1 : u1.heap.size = B + 1 := by rw [hu1, hB]; simp
      have z2 : u2.heap.size = B + 2 := by rw [hu2]; simp [z1]
      have z3 : u3.heap.size = B + 3 := by rw [hu3]; simp [z2]
      have b1 : Below wr.heap.size wr u1 := by rw [hu1]; exact (Below.refl _ _).alloc (Nat.le_refl _) _
      have b2 : Below u1.heap.size u1 u2 := by rw [hu2]; exact (Below.refl _ _).alloc (Nat.le_refl _) _
      have b3 : Below u2.heap.size u2 u3 := by rw [hu3]; exact (Below.refl _ _).alloc (Nat.le_refl _) _
      have bb : Below wr.heap.size wr u3 := (b1.trans (b2.mono b1.size)).trans (b3.mono (Nat.le_trans b1.size b2.size))
      have x1 : Boxed u1 B 3 (.int .i64 (-1)) := by rw [hu1, hB]; exact Boxed.new wr 3 _
      have x2 : Boxed u2 (B + 1) 3 (.int .i64 0) := by have := Boxed.new u1 3 (.int .i64 0); rwa [z1, ← hu2] at this
      have x3 : Boxed u3 (B + 2) 80 (.pointer (some ⟨p1, 0, none⟩)) := by have := Boxed.new u2 80 (.pointer (some ⟨p1, 0, none⟩)); rwa [z2, ← hu3] at this
      have OI := HI.out.below bb
      have h4 : Boxed wr w.heap.size 4 (.bool false) := blk_below Y4.out HI.out.bel
      have hww1 := Q1.out
      have hw1r := HI.out.bel.size
      have htb : mb + 1 < B := by have := blk_lt HI.out.box; omega
      have hpB : p1 < B := by have := blk_lt HI.out.tal.blk; omega
      have hgB : g1 < B := by obtain ⟨cur, h1, _⟩ := HI.out.tal.wds; have := blk_lt h1; omega
      have R3 : Hid (RgI mb (mb + 1) w.heap.size B i D w [] u3) := Lib.hid ⟨OI.own, OI.box, blk_below h4 bb, blk_below (blk_below x1 b2) b3, blk_below x2 b3, B1.out.trans (OI.bel.mono B1.out.size)⟩
      have C3 := Lib.hid x3.cell
      have TD := Lib.hid OI.tal
      have YV := Lib.hid OI.yinv
      have MD := Lib.hid OI.mv
      have hqB : w.heap.size < B := by omega
      have ZL := Lib.hid z3
      rw [← hu1, ← hu2, ← hu3, z2]
      clear hu1 hu2 hu3 z1 z2 b1 b2 b3 bb x1 x2 x3 OI h4 hww1 hw1r hB HI Y4 B1 S1 X1 HW
      gi_wp2_with fail
      refine wpIn_rangeFuncPA (n := 5) (P := Tryd.prog) (w0 := u3) (Kp := KeepL [B + 2, p1, g1]) (Fact := fun _ _ => True) (S := fun ys => ys = sel (fun _ => true) ws n) (encs := fun x : Int × Int => #[Value.int .i64 x.1, .int .i64 x.2]) (ps := #[65, 66]) (gf := 83) (lb := #[.pointer (some ⟨B + 2, 0, none⟩)]) rfl (enters_of Tryd.func83 (by kernel_rfl) rfl)
        (alltP_stops 4 (by omega) (B + 2) bs1 p1 g1 A1 n dd n va ws u3 C3.out TD.out hn1000) (fun _ _ _ _ _ _ _ h => h) keepL_t (fun W l o o' _ hl ho _ => keepL_b W l o o' hl ho) (Below.refl _ _) (fun _ => rfl)
        (RgI mb (mb + 1) w.heap.size B i D w)
        (fun _ _ _ => False)
        (RgI.own_from (by omega) (by omega))
        (fun _ _ _ _ _ h _ _ => h)
        R3.out
        (fun a x => { tmps := ((((a.tmps.setIfInBounds 15 (.int .i64 x.1)).setIfInBounds 16 (.int .i64 x.2)).setIfInBounds 65 (.int .i64 x.1)).setIfInBounds 66 (.int .i64 x.2)), defers := [] }) ?assign ?body ?done ?stop
      case stop =>
        rintro D c pre W _ _ h _
        exact h.elim
      case assign =>
        intro l x W K hK
        gi_wp2
        exact hK
      case body =>
        rintro l pre ⟨x1, x2⟩ W hI - hlt hsp
        obtain ⟨hlo, kk, h0, hsaid⟩ := sel_last hsp
        dsimp only at hlo h0 hsaid
        have hxn : x1.toNat < n := by rw [TD.out.nw]; exact (List.getElem?_eq_some_iff.1 hsaid).1
        have HSD : Hid (D.atKey (.int .i64 x1) (.lit (.int .i64 0)) = .lit (.int .i64 x2)) := Lib.hid (by
          have := MD.out.said x1.toNat kk x2 hsaid
          rwa [Int.toNat_of_nonneg h0] at this)
        have HKX := Lib.hid (keyOf_int_mk (P := Tryd.prog) Tryd.underlying3 (int_wf (x := x1) h0 (by omega)))
        have hll := lastOf_lt hlo h0
        obtain ⟨la, hla⟩ : ∃ y, y = lastOf pre := ⟨_, rfl⟩
        obtain ⟨ln, hln⟩ : ∃ y, y = pre.length := ⟨_, rfl⟩
        have hl1 := sel_len (fun _ => true) ws n
        have hle : ln ≤ 1000 := by omega
        have HI := Lib.hid hI
        have cb := hI.box.cell
        have cl := hI.bl.cell
        have cn := hI.bn.cell
        have fl := hI.bl.frozen
        have fn := hI.bn.frozen
        rw [← hla] at hll cl
        rw [← hln] at cn
        have hnle : ¬ x1 ≤ la := by omega
        have HLA := Lib.hid hla
        have HLN := Lib.hid hln
        clear hI hlt hsp hlo hsaid hl1 hla hln hll
        simp only [List.setIfInBounds_toArray, List.set_cons_succ, List.set_cons_zero]
        have hlk : (Instr.lookup 83 (.map (some mb)) (.int .i64 x1) false).run Tryd.prog W = .ok (.int .i64 x2) W := by
          obtain ⟨cc, hrun, hat, _⟩ := HI.out.own.lookup_int law3 Tryd.underlying83 Tryd.underlying3 (zero3 W) HKX.out
          rw [HSD.out] at hat
          injection hat with h
          injection h with _ h
          rw [h]
          exact hrun
        gi_wp2
        refine ⟨((KeepsOthers.setCell _ _ _).from _).trans ((KeepsOthers.setCell _ _ _).from _), fun j hj cs t fr hk => ?_, by rw [HLN.out]; exact HI.out.turn (by omega) (x1, x2) (by omega) (by omega)⟩
        have hj3 : j ≠ B ∧ j ≠ B + 1 := by
          simp only [List.mem_cons, List.not_mem_nil, or_false] at hj
          omega
        exact (heap_setCell_other _ ⟨B + 1, 0, none⟩ j _ hj3.2).trans ((heap_setCell_other W ⟨B, 0, none⟩ j _ hj3.1).trans hk)
      case done =>
        rintro Dd ys W hD rfl hI hK
        have cn := hI.bn.cell
        have cb := hI.box.cell
        have c4 := hI.y4.cell
        have f4 := hI.y4.frozen
        have hln := hI.own.len Tryd.underlying83 3
        have hsz : Maps.size D = (sel (fun _ => true) ws n).length := by
          rw [MD.out.size, show n = ws.length from TD.out.nw, sel_countZ ws _ (Nat.le_refl _), List.take_length]
        rw [hsz] at hln
        obtain ⟨ln, hl⟩ : ∃ y, y = (sel (fun _ => true) ws n).length := ⟨_, rfl⟩
        rw [← hl] at hln cn
        have hy1 : yes ≤ 1 := YV.out.le
        have HI := Lib.hid hI
        have HKD := Lib.hid hK
        clear hI hK hsz hl
        gi_wp2
        rw [show decide ((yes : Int) ≤ 1) = true from decide_eq_true (by omega)]
        have hk9 : (W.setCell ⟨w.heap.size, 0, none⟩ (.bool true)).heap[Dd]? = some (.deferred (some [])) := (heap_setCell_other W ⟨w.heap.size, 0, none⟩ Dd _ (by show Dd ≠ w.heap.size; have := ZL.out; omega)).trans HKD.out
        have hbx : Boxed (W.setCell ⟨w.heap.size, 0, none⟩ (.bool true)) w.heap.size 4 (.bool true) := HI.out.y4.set _
        have hb10 := below_setT (v := .bool true) HI.out.bel (Nat.le_refl w.heap.size)
        refine ⟨by simp, .inl ⟨_, _, rfl, run_takeDeferred hk9, ?_⟩⟩
        exact ⟨_, results_boolT rfl _ _ rfl ((World.putObj_heap_other (by have := ZL.out; omega)).trans hbx), rfl, hb10.trans (belowK_b (w := w) (Nat.le_refl _) _ Dd _ _ (by have := ZL.out; omega) hk9 rfl rfl)⟩
end Go.Proofs.YtideopnblhbngaaDoor
