/- What the pool's Take does. -/
import Derived.Test.YtideopnblhbngaaDoorAll
namespace Go.Proofs.YtideopnblhbngaaDoor
open Go.RowKit Go.Shelf
attribute [local go_sem] Oper.semAt_some

theorem Tryd.info44 : (Tryd.prog.info? 44).map (fun i => (i.zero, i.size, i.bytes)) = some (some (Value.slice none 0 0), 1, 24) := by kernel_rfl

theorem wpListIn_conv_str {n : Nat} {ops : Array Oper} {Q : Exit → Act → World → Prop} {a : Act} {w : World} {rest : List Oper} {o : Oper} {F : Fence} (hF : ∃ ro, F = AtRound ro) (hw : Region.wanted o (yielded ops a.tmps) = true) (x : Operand) (ho : o.op = .convert 44 9 x) (v : Value) (bs : List Int)
    (hx : a.eval x = v) (hv : Bs w v bs) (h : wpListIn F n Tryd.prog ops Q rest (a.put o.dst (.string (strOfNums bs))) w) : wpListIn F n Tryd.prog ops Q (o :: rest) a w := by
  obtain ⟨ro, rfl⟩ := hF
  refine wpListIn_op ro hw (fun c e => by rw [ho] at e; cases e) fun K hK => ?_
  unfold Oper.wp execOp
  simp only [ho, hx, Sem.run_bind, Sem.run_pure, Result.andThen_ok, conv_bs hv w (Below.refl _ _)]
  exact hK _ _ h

/-- Those that are not of a list. -/
def pick (wo : List ByteArray) (xs : List (Value × ByteArray)) : List (Value × ByteArray) := xs.filter fun y => !inT wo y.2
theorem pick_yes {wo : List ByteArray} {xs : List (Value × ByteArray)} {x : Value × ByteArray} (h : inT wo x.2 = false) : pick wo (xs ++ [x]) = pick wo xs ++ [x] := by simp [pick, h]
theorem pick_no {wo : List ByteArray} {xs : List (Value × ByteArray)} {x : Value × ByteArray} (h : inT wo x.2 = true) : pick wo (xs ++ [x]) = pick wo xs := by simp [pick, h]
/-- What Take hands out. -/
def takeT (ts : List ByteArray) (nn : Int) (wo : List ByteArray) : List ByteArray := (ts.filter fun s => !inT wo s).take nn.toNat
theorem pick_map (wo : List ByteArray) (xs : List (Value × ByteArray)) : (pick wo xs).map (·.2) = (xs.map (·.2)).filter fun s => !inT wo s := by
  unfold pick
  rw [List.filter_map]
  rfl

theorem FactB.same {x : Value × ByteArray} {W W' : World} (h : FactB x W) (hs : ∀ k, x.1.ownBlock = some k → k < W.heap.size → W'.heap[k]? = W.heap[k]?) : FactB x W' := ⟨h.1.same hs, h.2⟩
theorem FactB.below {x : Value × ByteArray} {W W' : World} (h : FactB x W) (hb : Below W.heap.size W W') : FactB x W' := h.same fun k _ hk => hb.block k hk
theorem FactB.blk {x : Value × ByteArray} {W : World} (h : FactB x W) : ∀ k, x.1.ownBlock = some k → ∃ cs fr, W.heap[k]? = some (.cells cs 5 fr) := by
  intro k hk
  rcases h.1 with ⟨e, _⟩ | ⟨g, off, cap, cur, fr, e, _, hg, _⟩
  · rw [e] at hk; simp [Value.ownBlock] at hk
  · rw [e] at hk
    simp only [Value.ownBlock, Option.some.injEq] at hk
    subst hk
    exact ⟨_, _, hg⟩
theorem FactB.grown {x : Value × ByteArray} {W W' : World} {row : Option Nat} (h : FactB x W) (hg : W.grownBy W' row) (hr : ∀ k cs fr, row = some k → W.heap[k]? ≠ some (.cells cs 5 fr)) : FactB x W' :=
  h.same fun k hk hl => hg.block k hl fun e => by
    obtain ⟨cs, fr, hb⟩ := h.blk k hk
    exact hr k cs fr e.symm hb
theorem FactB.bs {x : Value × ByteArray} {W : World} (h : FactB x W) : Bs W x.1 (sb x.2) := Bs.of_own h.1 (sb_ok _)

/-- What a loop that collects slices holds. -/
structure TI (w W : World) (wv : Value) (nn : Int) (os : List (Value × ByteArray)) : Prop where
  bn : Boxed W w.heap.size 3 (.int .i64 nn)
  bw : Boxed W (w.heap.size + 1) 41 wv
  out : ∃ v, Boxed W (w.heap.size + 1 + 1) 41 v ∧ W.ownsRow w.heap.size 44 1 v os.length (os.map (·.1))
  fact : ∀ y ∈ os, FactB y W
  len : os.length ≤ nn.toNat
  bel : Below w.heap.size w W
theorem own_kept' {w w' : World} {base e s n : Nat} {v : Value} {xs : List Value} {row : Option Nat} (h : w.ownsRow base e s v n xs) (hg : w.grownBy w' row) (hr : ∀ k, row = some k → ∃ o : Obj, w.heap[k]? = some o ∧ o.isCells = false) : w'.ownsRow base e s v n xs := by
  refine h.kept hg ?_
  rcases h.2 with ⟨rfl, _⟩ | ⟨g, cap, cur, rfl, _, hgb, _⟩
  · exact .inl rfl
  · refine .inr fun e' => ?_
    obtain ⟨o, ho, hc⟩ := hr g (by simpa [Value.ownBlock] using e'.symm)
    rw [hgb] at ho; cases ho; cases hc
theorem boxed_kept' {w w' : World} {B t : Nat} {v : Value} {row : Option Nat} (h : Boxed w B t v) (hg : w.grownBy w' row) (hr : ∀ k, row = some k → ∃ o : Obj, w.heap[k]? = some o ∧ o.isCells = false) : Boxed w' B t v :=
  h.kept hg (fun e => by
    obtain ⟨o, ho, hc⟩ := hr B e.symm
    rw [show w.heap[B]? = _ from h] at ho; cases ho; cases hc)
theorem own_not {w : World} {base e s n : Nat} {v : Value} {xs : List Value} (h : w.ownsRow base e s v n xs) {k : Nat} {cs : Array Value} {t : TypeId} {fr : Nat × Nat} (hk : w.heap[k]? = some (.cells cs t fr)) (ht : t ≠ e) : v.ownBlock ≠ some k := by
  rcases h.2 with ⟨rfl, _⟩ | ⟨g, cap, cur, rfl, _, hgb, _⟩
  · simp [Value.ownBlock]
  · intro e'
    simp only [Value.ownBlock, Option.some.injEq] at e'
    subst e'
    rw [hgb] at hk
    cases hk
    exact ht rfl
theorem app_but {wz w9 : World} {tmp : Obj} {v v' : Value} {Bo : Nat} (hgrow : (wz.alloc tmp).grownBy w9 v.ownBlock) : But (fun k => k = Bo ∨ v.ownBlock = some k) wz (w9.setCell ⟨Bo, 0, none⟩ v') :=
  (But.of_below ((Below.refl _ _).alloc (Nat.le_refl _) _)).trans ((⟨hgrow.os, hgrow.tape, hgrow.output, hgrow.size, fun k hk hs => hgrow.block k hk fun e => hs (.inr e.symm)⟩ : But _ _ w9).trans ⟨rfl, rfl, rfl, by rw [World.size_setCell]; exact Nat.le_refl _, fun k _ hs => heap_setCell_other w9 ⟨Bo, 0, none⟩ k v' (fun e => hs (.inl e))⟩)
theorem TI.go {w W W' : World} {wv : Value} {nn : Int} {os : List (Value × ByteArray)} (h : TI w W wv nn os) (hb : Below W.heap.size W W') : TI w W' wv nn os := by
  obtain ⟨v, hv, ho⟩ := h.out
  exact ⟨blk_below h.bn hb, blk_below h.bw hb, ⟨v, blk_below hv hb, ho.kept (row := none) ⟨hb.os, hb.tape, hb.output, hb.size, fun k hk _ => hb.block k hk⟩ (by cases h' : v.ownBlock <;> simp)⟩, fun y hy => (h.fact y hy).below hb, h.len, h.bel.trans (hb.mono h.bel.size)⟩
theorem TI.own {w : World} {wv : Value} {nn : Int} {B : Nat} (hB : w.heap.size ≤ B) (f : List (Value × ByteArray) → List (Value × ByteArray)) : OwnFrom B (fun pre W => TI w W wv nn (f pre)) := by
  intro s X Y row hs hg hr
  have hr' := fun k e => (hr k e).2
  obtain ⟨v, hv, ho⟩ := hs.out
  refine ⟨boxed_kept' hs.bn hg hr', boxed_kept' hs.bw hg hr', ⟨v, boxed_kept' hv hg hr', own_kept' ho hg hr'⟩, fun y hy => (hs.fact y hy).grown hg fun k cs fr e hk => ?_, hs.len, hs.bel.grown hg hs.bel.size fun k e => by have := (hr k e).1; omega⟩
  obtain ⟨o, ho, hc⟩ := hr' k e
  rw [hk] at ho; cases ho; cases hc

theorem takeT_all {ts wo : List ByteArray} {nn : Int} {os : List (Value × ByteArray)} {xs : List (Value × ByteArray)} (hx : xs.map (·.2) = ts) (ho : os = pick wo xs) (hl : os.length ≤ nn.toNat) : os.map (·.2) = takeT ts nn wo := by
  rw [ho, pick_map, hx]
  unfold takeT
  rw [List.take_of_length_le]
  have := congrArg List.length (pick_map wo xs)
  rw [hx, List.length_map, ← ho] at this
  omega
theorem takeT_some {ts wo : List ByteArray} {nn : Int} {os pre : List (Value × ByteArray)} {x : Value × ByteArray} {k : Nat} (hx : (pre ++ [x]).map (·.2) = ts.take k) (ho : os = pick wo pre) (hl : os.length ≤ nn.toNat) (hn : nn ≤ os.length) : os.map (·.2) = takeT ts nn wo := by
  have h1 : pre.map (·.2) = (ts.take k).take pre.length := by
    rw [← hx, List.map_append, List.take_append_of_le_length (by simp), List.take_of_length_le (by simp)]
  rw [List.take_take] at h1
  obtain ⟨j, hj⟩ : ∃ j, j = min pre.length k := ⟨_, rfl⟩
  rw [← hj] at h1
  have h2 : os.map (·.2) = (ts.take j).filter fun s => !inT wo s := by rw [ho, pick_map, h1]
  rw [h2]
  have hlen : ((ts.take j).filter fun s => !inT wo s).length = nn.toNat := by
    have := congrArg List.length h2
    rw [List.length_map] at this
    omega
  unfold takeT
  rw [← List.take_append_drop j ts, List.filter_append, List.take_append_drop, ← hlen, List.take_append_of_le_length (Nat.le_refl _), List.take_of_length_le (Nat.le_refl _)]

set_option maxHeartbeats 8000000 in
set_option maxRecDepth 100000 in
theorem take_any (base p : Nat) (v : Value) (ts : List ByteArray) (nn : Int) (ps : List (List Int)) (Aw : Option Addr) (mw cw : Nat) (w : World) (h : PoolAt base p v ts w) (hw : Bss w (.slice Aw mw cw) ps) (hz : ts.length ≤ 100) (hzw : mw ≤ 1000000) (hsz : ∀ s ∈ ts, s.size ≤ 1000) :
    Calls Tryd.prog 27 #[.pointer (some ⟨p, 0, none⟩), .int .i64 nn, .slice Aw mw cw] w fun e w' => ∃ (u : Value) (os : List (Value × ByteArray)), e = .returned u ∧ w'.ownsRow w.heap.size 44 1 u os.length (os.map (·.1)) ∧ os.map (·.2) = takeT ts nn (ps.map strOfNums) ∧ (∀ y ∈ os, FactB y w') ∧ Below w.heap.size w w' := by
  obtain ⟨i0, hi0, hz0, hz1, hz2⟩ := info_parts Tryd.info44
  have H := Lib.hid h
  have HW := Lib.hid hw
  have HSZ := Lib.hid hsz
  clear h hw hsz
  refine (callsIn_wide (n := 5)).1 ?_
  refine callsIn_of_wp_marks Tryd.func27 rfl trivial ?_ rfl
  simp only [Tryd.ntmps27, List.size_toArray, List.length_cons, List.length_nil, Nat.reduceAdd, Nat.reduceSub, Array.replicate_succ, Array.replicate_zero, List.push_toArray, List.append_toArray, List.nil_append, List.cons_append]
  gi_wp2_with (refine ⟨trivial, ?_⟩; gi_at_call 28; refine (callsIn_wide.2 (all_any p _)).mono ?_; rintro _ wa ⟨rfl, rfl⟩)
  obtain ⟨w1, hw1⟩ : ∃ w1, w1 = w.alloc (.cells #[.int .i64 nn] 3) := ⟨_, rfl⟩
  obtain ⟨w2, hw2⟩ : ∃ w2, w2 = w1.alloc (.cells #[.slice Aw mw cw] 41) := ⟨_, rfl⟩
  obtain ⟨w3, hw3⟩ : ∃ w3, w3 = w2.alloc (.cells #[.slice none 0 0] 41) := ⟨_, rfl⟩
  obtain ⟨w4, hw4⟩ : ∃ w4, w4 = w3.alloc (.cells #[.pointer (some ⟨p, 0, none⟩)] 42) := ⟨_, rfl⟩
  have z1 : w1.heap.size = w.heap.size + 1 := by rw [hw1]; simp
  have z2 : w2.heap.size = w.heap.size + 2 := by rw [hw2]; simp [z1]
  have z3 : w3.heap.size = w.heap.size + 3 := by rw [hw3]; simp [z2]
  have z4 : w4.heap.size = w.heap.size + 4 := by rw [hw4]; simp [z3]
  have B1 : Below w.heap.size w w1 := by rw [hw1]; exact (Below.refl _ _).alloc (Nat.le_refl _) _
  have B2 : Below w1.heap.size w1 w2 := by rw [hw2]; exact (Below.refl _ _).alloc (Nat.le_refl _) _
  have B3 : Below w2.heap.size w2 w3 := by rw [hw3]; exact (Below.refl _ _).alloc (Nat.le_refl _) _
  have B4 : Below w3.heap.size w3 w4 := by rw [hw4]; exact (Below.refl _ _).alloc (Nat.le_refl _) _
  have x1 : Boxed w1 w.heap.size 3 (.int .i64 nn) := by rw [hw1]; exact Boxed.new w 3 _
  have x2 : Boxed w2 (w.heap.size + 1) 41 (.slice Aw mw cw) := by have := Boxed.new w1 41 (.slice Aw mw cw); rwa [z1, ← hw2] at this
  have x3 : Boxed w3 (w.heap.size + 2) 41 (.slice none 0 0) := by have := Boxed.new w2 41 (.slice none 0 0); rwa [z2, ← hw3] at this
  have x4 : Boxed w4 (w.heap.size + 3) 42 (.pointer (some ⟨p, 0, none⟩)) := by have := Boxed.new w3 42 (.pointer (some ⟨p, 0, none⟩)); rwa [z3, ← hw4] at this
  have hB4 : Below w.heap.size w w4 := B1.trans ((B2.mono (by omega)).trans ((B3.mono (by omega)).trans (B4.mono (by omega))))
  have hT4 : TI w w4 (.slice Aw mw cw) nn (pick (ps.map strOfNums) []) :=
    ⟨blk_below (blk_below (blk_below x1 B2) B3) B4, blk_below (blk_below x2 B3) B4, ⟨_, blk_below x3 B4, World.ownsRow_nil _ _ _ _⟩, fun y hy => by simp [pick] at hy, by simp [pick], hB4⟩
  rw [← hw1, ← hw2, ← hw3, ← hw4]
  clear hw1 hw2 hw3 hw4 x1 x2 x3 B1 B2 B3 B4
  refine wpIn_rangeFuncF (gf := 68) (lb := #[.pointer (some ⟨w.heap.size + 1 + 1 + 1, 0, none⟩)]) rfl (enters_of Tryd.func68 (by kernel_rfl) rfl)
    (all_stops 4 (by omega) (w.heap.size + 1 + 1 + 1) base p v ts w4 x4.cell (H.out.below hB4) hz HSZ.out) factB_put kp9_t (fun W l o o' _ hl ho _ => kp9_b W l o o' hl ho) (Below.refl _ _) (fun _ => rfl)
    (fun pre W => TI w W (.slice Aw mw cw) nn (pick (ps.map strOfNums) pre))
    (fun c pre W => c = .exit 0 ∧ ∃ pre' x, pre = pre' ++ [x] ∧ TI w W (.slice Aw mw cw) nn (pick (ps.map strOfNums) pre') ∧ nn ≤ (pick (ps.map strOfNums) pre').length)
    (TI.own (by omega) _)
    (fun c => ?ix)
    hT4
    (fun x => { tmps := #[.pointer (some ⟨p, 0, none⟩), .int .i64 nn, .slice Aw mw cw, undef, .pointer (some ⟨w.heap.size, 0, none⟩), .pointer (some ⟨w.heap.size + 1, 0, none⟩), .slice none 0 0, .pointer (some ⟨w.heap.size + 1 + 1, 0, none⟩), x.1, .pointer (some ⟨p, 0, none⟩), .func (.func 68) #[] #[.pointer (some ⟨w.heap.size + 1 + 1 + 1, 0, none⟩)], x.1, undef, undef, undef, undef, undef, undef, undef, undef, undef, undef, undef, undef, undef, undef], defers := [] }) ?assign ?body ?done ?stop
  case ix =>
    rintro s X Y row ⟨hc, pre', x, e, hs, hn⟩ hg hr
    exact ⟨hc, pre', x, e, TI.own (B := w4.heap.size) (by omega) (fun l => l) _ X Y row hs hg hr, hn⟩
  case assign =>
    intro l x W K hK
    gi_wp2
    exact hK
  case body =>
    rintro l pre ⟨xv, xs⟩ W hT hF hlt
    obtain ⟨vo, hvo, hrow⟩ := hT.out
    obtain ⟨Ao, co, rfl⟩ := own_form hrow
    obtain ⟨Ax, nx, cx, hxv⟩ := hF.2
    dsimp only at hxv
    subst hxv
    have hbs := hF.bs
    have hwb := HW.out.below hT.bel
    have cn := hT.bn.cell
    have co' := hvo.cell
    have cw' := hT.bw.cell
    have fo' := hvo.frozen
    have HT := Lib.hid hT
    have HF := Lib.hid hF
    have HBS := Lib.hid hbs
    have HWB := Lib.hid hwb
    have HV := Lib.hid hvo
    have HR := Lib.hid hrow
    clear hT hF hbs hwb hvo hrow
    have hpk : (pick (ps.map strOfNums) pre).length ≤ 100 := by
      have : (pick (ps.map strOfNums) pre).length ≤ pre.length := List.length_filter_le _ _
      omega
    by_cases hbr : nn ≤ (pick (ps.map strOfNums) pre).length
    · gi_wp2_with fail
      refine ⟨KeepsFrom.refl _ _, rfl, ?_⟩
      first
        | exact ⟨pre, _, rfl, HT.out, hbr⟩
        | exact ⟨HT.out, hbr⟩
        | exact ⟨pre, ⟨_, _, rfl⟩, HT.out, hbr⟩
        | done
    · gi_wp2_with (first | (refine wpListIn_conv_str (roundF l) rfl (.tmp 17) rfl (.slice Ax nx cx) (sb xs) rfl HBS.out ?_; rw [str_sb]) | (refine ⟨trivial, ?_⟩; gi_at_call 67; refine (CallsIn.inRound l (callsIn_wide.2 (among_any ps xs Aw mw cw W HWB.out hzw))).mono ?_; rintro _ wz ⟨rfl, hwz⟩; have hbz : Below W.heap.size W wz := (by rw [hwz]; exact (Below.refl _ _).alloc (Nat.le_refl _) _); have hkz : KeepsOthers W wz := (by rw [hwz]; exact KeepsOthers.alloc _ _); have hvz : Boxed wz (w.heap.size + 1 + 1) 41 _ := blk_below HV.out hbz; have cz := hvz.cell; have fz := hvz.frozen; have HBZ := Lib.hid hbz; have HKZ := Lib.hid hkz; have HVZ := Lib.hid hvz; have HRZ := Lib.hid (HR.out.kept (row := none) ⟨hbz.os, hbz.tape, hbz.output, hbz.size, fun k hk _ => hbz.block k hk⟩ (by cases h' : Value.ownBlock (.slice Ao (pick (ps.map strOfNums) pre).length co) <;> simp)); have hsz1 : w.heap.size ≤ wz.heap.size := Nat.le_trans HT.out.bel.size hbz.size; clear hwz hbz hkz hvz) | (gi_at_builtin; refine wpListIn_append_own _ rfl _ _ 41 rfl w.heap.size 44 i0 (.slice none 0 0) 1 24 Tryd.underlying41 hi0 hz0 hz1 hz2 rfl (by decide) _ _ _ rfl (HRZ.out.alloc _) ⟨wz.heap.size, 0, none⟩ 1 1 [.slice Ax nx cx] rfl rfl (cell_one_new _ _ _) (by simp [Value.oneCell']) (by simp only [maxLen]; omega) (by omega) (by simp; omega) ?_; intro v9 w9 hown9 hgrow9 _; obtain ⟨g9, cap9, rfl⟩ := ownsRow_succ hown9; obtain ⟨hv1, hv2, hr2, hk2, hb2⟩ := HVZ.out.appended (by decide) HRZ.out hsz1 (by omega) hown9 hgrow9; have hc1 := hv1.cell; have hf1 := hv1.frozen; have HGR := Lib.hid hgrow9; clear hown9 hgrow9))
      · have hin : inT (ps.map strOfNums) xs = false := by simp_all
        have hbut : But (fun k => k = w.heap.size + 1 + 1 ∨ (Value.slice Ao (pick (ps.map strOfNums) pre).length co).ownBlock = some k) wz (w9.setCell ⟨w.heap.size + 1 + 1, 0, none⟩ (.slice (some ⟨g9, 0, none⟩) ((pick (ps.map strOfNums) pre).length + 1) cap9)) := app_but HGR.out
        have hTz := HT.out.go HBZ.out
        have hFz := HF.out.below HBZ.out
        have hnot : ∀ (k : Nat) (cs : Array Value) (t : TypeId) (fr : Nat × Nat), wz.heap[k]? = some (.cells cs t fr) → t ≠ 44 → k ≠ w.heap.size + 1 + 1 → ¬ (k = w.heap.size + 1 + 1 ∨ (Value.slice Ao (pick (ps.map strOfNums) pre).length co).ownBlock = some k) := fun k cs t fr hk ht hne h => by
          rcases h with h | h
          · exact hne h
          · exact own_not HRZ.out hk ht h
        have hne5 : ∀ k cs (t : TypeId) fr, wz.heap[k]? = some (.cells cs t fr) → t ≠ 41 → k ≠ w.heap.size + 1 + 1 := fun k cs t fr hk ht e => by
          have hb : wz.heap[w.heap.size + 1 + 1]? = _ := HVZ.out
          rw [e, hb] at hk
          cases hk
          exact ht rfl
        have hfact : ∀ y : Value × ByteArray, FactB y wz → FactB y (w9.setCell ⟨w.heap.size + 1 + 1, 0, none⟩ (.slice (some ⟨g9, 0, none⟩) ((pick (ps.map strOfNums) pre).length + 1) cap9)) := fun y hy => hy.same fun k hk hl => hbut.same k hl (by
          obtain ⟨cs, fr, hb⟩ := hy.blk k hk
          exact hnot k cs 5 fr hb (by decide) (hne5 k cs 5 fr hb (by decide)))
        refine ⟨(HKZ.out.trans hk2).from _, kp9_t (kp9_below HBZ.out) (fun k cs _ hk => hbut.blk hk (hnot k cs 9 _ hk (by decide) (hne5 k cs 9 _ hk (by decide)))), ?_⟩
        show TI w _ _ nn (pick (ps.map strOfNums) (pre ++ [(Value.slice Ax nx cx, xs)]))
        rw [pick_yes hin]
        refine ⟨hbut.blk hTz.bn (hnot _ _ 3 _ hTz.bn (by decide) (by omega)), hbut.blk hTz.bw (hnot _ _ 41 _ hTz.bw (by decide) (by omega)), ⟨_, hv2, ?_⟩, ?_, ?_, hTz.bel.trans hb2⟩
        · rw [List.length_append, List.map_append]
          exact hr2
        · intro y hy
          rcases List.mem_append.1 hy with hy | hy
          · exact hfact y (hTz.fact y hy)
          · simp only [List.mem_cons, List.not_mem_nil, or_false] at hy
            subst hy
            exact hfact _ hFz
        · rw [List.length_append]
          show (pick (ps.map strOfNums) pre).length + 1 ≤ nn.toNat
          omega
      · have hin : inT (ps.map strOfNums) xs = true := by simp_all
        refine ⟨HKZ.out.from _, kp9_below HBZ.out, ?_⟩
        show TI w _ _ nn (pick (ps.map strOfNums) (pre ++ [(Value.slice Ax nx cx, xs)]))
        rw [pick_no hin]
        exact HT.out.go HBZ.out
  case done =>
    rintro D xs W hD hS hT hK
    obtain ⟨vo, hvo, hrow⟩ := hT.out
    obtain ⟨Ao, co, rfl⟩ := own_form hrow
    have hc := hvo.cell
    have HT := Lib.hid hT
    have HR := Lib.hid hrow
    clear hT hvo hrow
    gi_wp2
    refine ⟨by simp, .inl ⟨_, _, rfl, run_takeDeferred hK, ?_⟩⟩
    refine ⟨_, results_tmp rfl _ _ _, _, pick (ps.map strOfNums) xs, rfl, ownsRow_putObj HR.out _ hK rfl, takeT_all hS rfl HT.out.len, fun y hy => factB_put y _ _ _ _ hK rfl (HT.out.fact y hy), HT.out.bel.trans (belowK_b (w := w) (Nat.le_refl _) W D _ _ (by omega) hK rfl rfl)⟩
  case stop =>
    rintro D c pre W hD ⟨k, hk⟩ ⟨rfl, pre', x, rfl, hT, hn⟩ hK
    obtain ⟨vo, hvo, hrow⟩ := hT.out
    obtain ⟨Ao, co, rfl⟩ := own_form hrow
    have hc := hvo.cell
    have HT := Lib.hid hT
    have HR := Lib.hid hrow
    clear hT hvo hrow
    gi_wp2
    refine ⟨by simp, .inl ⟨_, _, rfl, run_takeDeferred hK, ?_⟩⟩
    refine ⟨_, results_tmp rfl _ _ _, _, pick (ps.map strOfNums) pre', rfl, ownsRow_putObj HR.out _ hK rfl, takeT_some hk rfl HT.out.len hn, fun y hy => factB_put y _ _ _ _ hK rfl (HT.out.fact y hy), HT.out.bel.trans (belowK_b (w := w) (Nat.le_refl _) W D _ _ (by omega) hK rfl rfl)⟩
end Go.Proofs.YtideopnblhbngaaDoor
