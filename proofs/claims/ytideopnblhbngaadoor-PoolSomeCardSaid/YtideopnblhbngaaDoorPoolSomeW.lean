/- What PoolSome answers. -/
import Derived.Test.YtideopnblhbngaaDoorSomeI
import Derived.Test.YtideopnblhbngaaDoorAllP
namespace Go.Proofs.YtideopnblhbngaaDoor
open Go.RowKit Go.Shelf
attribute [local go_sem] Oper.semAt_some

theorem PSt.reset {base p b : Nat} {v u : Value} {ts : List ByteArray} {aF aT aU : Addr} {w0 W : World} (h : PSt base p v ts aF aT aU w0 W) (hb : b < base) (h5 : 5 ≤ b) : PSt base p v ts aF aT aU (W.setCell ⟨b, 0, none⟩ u) (W.setCell ⟨b, 0, none⟩ u) := by
  have hcell : ∀ (k : Nat) (x : Value), k < 5 → W.cell? ⟨k, 0, none⟩ = some x → (W.setCell ⟨b, 0, none⟩ u).cell? ⟨k, 0, none⟩ = some x := fun k x hk hc => by
    rw [← hc]
    exact World.cell?_of_block (heap_setCell_other W ⟨b, 0, none⟩ k u (by show k ≠ b; omega))
  refine ⟨⟨(heap_setCell_other W ⟨b, 0, none⟩ p u (by have := h.at_.hp; show p ≠ b; omega)).trans h.at_.blk, h.at_.own.kept (grownBy_setCell' _ _ _) (.inr fun e => ?_), h.at_.hp⟩, ⟨hcell 3 _ (by omega) h.sen.f, hcell 2 _ (by omega) h.sen.t, hcell 4 _ (by omega) h.sen.u⟩, Stay.refl _ _, h.five, by rw [World.size_setCell]; exact h.le, h.few, h.siz, h.nd⟩
  have := (h.at_.own.lt b e).1
  omega
theorem gives_min {P : Program} {o : Oper} {ρ : Operand → Value} {w : World} {S : Value → World → Prop} (x y : Operand) (ts : Array TypeId) (ho : o.op = .call { callee := .builtin .min, args := #[x, y], argTypes := ts }) (a b : Int) (hx : ρ x = .int .i64 a) (hy : ρ y = .int .i64 b) (h : S (.int .i64 (min a b)) w) : Gives P o ρ w S := by
  refine gives_val (.int .i64 (min a b)) (w' := w) ?_ h
  unfold execOp
  simp only [ho, resolve, invoke, builtin, Sem.run_bind, Sem.run_pure, Result.andThen_ok, List.map_toArray, List.map_cons, List.map_nil, hx, hy]
  go_simp
theorem gives_len {P : Program} {o : Oper} {ρ : Operand → Value} {w : World} {S : Value → World → Prop} (t e : TypeId) (x : Operand) (ho : o.op = .call { callee := .builtin .len, args := #[x], argTypes := #[t] }) (ht : P.underlying t = some (.slice e)) (A : Option Addr) (n c : Nat) (hx : ρ x = .slice A n c) (h : S (.int .i64 n) w) : Gives P o ρ w S := by
  refine gives_val (.int .i64 n) (w' := w) ?_ h
  unfold execOp
  simp only [ho, resolve, invoke, builtin, Sem.run_bind, Sem.run_pure, Result.andThen_ok, List.map_toArray, List.map_cons, List.map_nil, hx]
  simp [Builtin.len_, run_underlying ht]
  rfl
theorem gives_build1 {P : Program} {o : Oper} {ρ : Operand → Value} {w w' : World} {S : Value → World → Prop} (t : TypeId) (x : Operand) (ho : o.op = .buildSlice t 1 #[(0, x)]) (u : Value) (hx : ρ x = u) (v : Value)
    (hr : (Instr.buildSlice t 1 #[(0, u)]).run P w = .ok v w') (h : S v w') : Gives P o ρ w S :=
  gives_build t 1 _ ho #[(0, u)] (by simp [hx]) v hr h
theorem results_bool {fn : Func} {p g : Nat} {b : Bool} (h : fn.results = #[.cell p 4]) (tmps : Array Value) (w : World) (hp : tmps.getD p undef = .pointer (some ⟨g, 0, none⟩)) (hb : Boxed w g 4 (.bool b)) : (results fn tmps).run Tryd.prog w = .ok (.bool b) w := by
  have hp' : tmps[p]?.getD undef = .pointer (some ⟨g, 0, none⟩) := by simpa using hp
  have hc := hb.cell
  simp [results, h, hp', asAddr]
  go_simp
theorem below_set {B g : Nat} {w W : World} {v : Value} (h : Below B w W) (hg : B ≤ g) : Below B w (W.setCell ⟨g, 0, none⟩ v) :=
  ⟨h.os, h.tape, h.output, by rw [World.size_setCell]; exact h.size, fun k hk => (heap_setCell_other W ⟨g, 0, none⟩ k v (by show k ≠ g; omega)).trans (h.block k hk)⟩

set_option maxHeartbeats 8000000 in
set_option maxRecDepth 100000 in
theorem poolSome_any (ps : List (List Int)) (z : Int) (A : Option Addr) (n c : Nat) (aF aT aU : Addr) (w : World) (hv : Bss w (.slice A n c) ps) (hs : PSen w aF aT aU) :
    Calls Tryd.prog 6 #[.slice A n c, .int .i64 z] w fun e w' => e = .returned (.bool true) ∧ Below w.heap.size w w' := by
  have bel0 : Below w.heap.size w ((w.alloc (.cells #[.int .i64 z] 3)).alloc (.cells #[.bool false] 4)) := ((Below.refl _ _).alloc (Nat.le_refl _) _).alloc (by simp) _
  have HS := Lib.hid (hs.below bel0)
  have HV := Lib.hid (hv.below bel0)
  have H5 := Lib.hid hs.lt
  have B0 := Lib.hid bel0
  have X3 : Hid (Boxed ((w.alloc (.cells #[.int .i64 z] 3)).alloc (.cells #[.bool false] 4)) w.heap.size 3 (.int .i64 z)) := Lib.hid ((Boxed.new w 3 _).alloc _)
  have X4 : Hid (Boxed ((w.alloc (.cells #[.int .i64 z] 3)).alloc (.cells #[.bool false] 4)) (w.heap.size + 1) 4 (.bool false)) := Lib.hid (by
    have := Boxed.new (w.alloc (.cells #[.int .i64 z] 3)) 4 (.bool false)
    rwa [World.size_alloc] at this)
  obtain ⟨r, hr, hl⟩ := rem_u64 z 20 (by decide)
  rw [show ((20 : Nat) : Int) = 20 from rfl] at hr
  clear hs hv bel0
  refine (callsIn_wide (n := 5)).1 ?_
  refine callsIn_of_wp_marks Tryd.func6 rfl trivial ?_ rfl
  simp only [Tryd.ntmps6, List.size_toArray, List.length_cons, List.length_nil, Nat.reduceAdd, Nat.reduceSub, Array.replicate_succ, Array.replicate_zero, List.push_toArray, List.append_toArray, List.nil_append, List.cons_append]
  by_cases h30 : 30 < n
  · have h30' : (30 : Int) < n := by omega
    gi_wp2_with fail
    refine ⟨trivial, ?_⟩
    gi_at_call 24
    refine (callsIn_wide.2 (plAlive_any aF aT aU _ HS.out)).mono ?_
    rintro _ w1 ⟨rfl, bel1⟩
    have y4 : Boxed w1 _ _ _ := blk_below X4.out bel1
    have c4 := y4.cell
    have f4 := y4.frozen
    have Y4 := Lib.hid y4
    have B1 := Lib.hid (B0.out.trans (bel1.mono B0.out.size))
    clear bel1 y4
    gi_wp2
    exact ⟨_, results_bool rfl _ _ rfl (Y4.out.set _), rfl, below_set B1.out (by omega)⟩
  have h30' : ¬ (30 : Int) < n := by omega
  gi_wp2_with (refine ⟨trivial, ?_⟩; gi_at_call 24; refine (callsIn_wide.2 (plAlive_any aF aT aU _ HS.out)).mono ?_; rintro _ w1 ⟨rfl, bel1⟩; have S1 := Lib.hid (HS.out.below bel1); have V1 := Lib.hid (HV.out.below bel1); have Q1 := Lib.hid (show w.heap.size + 2 ≤ w1.heap.size from (by have := bel1.size; simpa using this)); have Y3 := Lib.hid (blk_below X3.out bel1 : Boxed w1 _ _ _); have Y4 := Lib.hid (blk_below X4.out bel1 : Boxed w1 _ _ _); have B1 := Lib.hid (B0.out.trans (bel1.mono B0.out.size)); clear bel1)
  refine ⟨trivial, ?_⟩
  gi_at_call 25
  refine (callsIn_wide.2 (new_any w1)).mono ?_
  rintro _ _ ⟨rfl, rfl⟩
  have P0 := Lib.hid ((PSt.new S1.out).alloc (.cells #[.pointer (some ⟨w1.heap.size, 0, none⟩)] 42))
  have X5 : Hid (Boxed ((w1.alloc (.cells #[.slice none 0 0] 109)).alloc (.cells #[.pointer (some ⟨w1.heap.size, 0, none⟩)] 42)) (w1.heap.size + 1) 42 (.pointer (some ⟨w1.heap.size, 0, none⟩))) := Lib.hid (by
    have := Boxed.new (w1.alloc (.cells #[.slice none 0 0] 109)) 42 (.pointer (some ⟨w1.heap.size, 0, none⟩))
    rwa [World.size_alloc] at this)
  have H51 : Hid (5 ≤ w1.heap.size) := Lib.hid S1.out.lt
  clear S1 HS HV X3 X4
  gi_wp2_with fail
  gi_loopw [7, 19] (fun _ k wr => ∃ (i : Nat) (v : Value) (ts : List ByteArray), i ≤ n ∧ k = .int .i64 i ∧ Hid (PSt w1.heap.size w1.heap.size v ts aF aT aU w1 wr) ∧ Hid (Boxed wr (w1.heap.size + 1) 42 (.pointer (some ⟨w1.heap.size, 0, none⟩))))
    (fun _ k _ => n - (intOf k).toNat)
  case atStart => exact ⟨0, _, _, by omega, rfl, P0, X5⟩
  case round =>
    clear P0 X5
    obtain ⟨i, v, ts, hi, rfl, P, Y5⟩ := hrel
    have hlow := P.out.low (Nat.le_refl _)
    have c5 := Y5.out.cell
    by_cases hlt : i < n
    · have hil : (i : Int) < n := by omega
      obtain ⟨b, off, B, m, d, rfl, ra1, ea1⟩ := V1.out.el i hlt
      have ra := cell_on hlow ra1
      have EA := Lib.hid (BsF.of_low ea1 (Nat.le_refl _) hlow)
      obtain ⟨bs, hbs⟩ : ∃ bs, bs = ps.getD i [] := ⟨_, rfl⟩
      rw [← hbs] at EA
      clear hbs ra1 ea1
      by_cases h100 : 100 < m
      · have h100' : (100 : Int) < m := by omega
        have y4 : Boxed wr (w.heap.size + 1) 4 (.bool false) := blk_below Y4.out hlow
        have c4 := y4.cell
        have f4 := y4.frozen
        have Z4 := Lib.hid y4
        have HL := Lib.hid hlow
        clear y4 hlow
        gi_wp2_with fail
        exact ⟨_, results_bool rfl _ _ rfl (Z4.out.set _), rfl, below_set (B1.out.trans (HL.out.mono B1.out.size)) (by omega)⟩
      have h100' : ¬ (100 : Int) < m := by omega
      clear hlow
      gi_wp2_with fail
      refine ⟨trivial, ?_⟩
      gi_at_call 26
      refine (callsIn_wide.2 (add_st _ _ v ts bs B m d aF aT aU w1 wr P.out EA.out)).mono ?_
      rintro _ w2 ⟨rfl, v2, p2, s2⟩
      have P2 := Lib.hid p2
      have Z5 : Hid (Boxed w2 (w1.heap.size + 1) 42 (.pointer (some ⟨w1.heap.size, 0, none⟩))) := Lib.hid ((s2.same _ (blk_lt Y5.out) (.inr ⟨_, 42, _, Y5.out, by decide, by decide⟩)).trans Y5.out)
      obtain ⟨av, hav⟩ : ∃ x, x = addV ts bs aF aT aU := ⟨_, rfl⟩
      rw [← hav]
      clear p2 P EA hav ra s2 Y5 c5
      gi_wp2_with fail
      go_roundw
      case rel => exact ⟨i + 1, v2, _, by omega, by go_num, P2, Z5⟩
      case measure => simp [intOf]; omega
    · obtain rfl : i = n := by omega
      have y3 : Boxed wr w.heap.size 3 (.int .i64 z) := blk_below Y3.out hlow
      have y4 : Boxed wr (w.heap.size + 1) 4 (.bool false) := blk_below Y4.out hlow
      have Z3 := Lib.hid y3
      have Z4 := Lib.hid y4
      clear V1 hlt hi Y3 Y4 y3 y4 hlow
      gi_wp2_with fail
      refine ⟨trivial, ?_⟩
      gi_at_call 27
      refine (callsIn_wide.2 (take_any _ _ v ts 100 [] none 0 0 wr P.out.at_ Bss.nil (by have := P.out.few; omega) (by omega) (fun s hs => by have := (P.out.siz s hs).2; omega))).mono ?_
      rintro _ w2 ⟨u, os, rfl, ho2, ht2, hf2, bel2⟩
      rw [List.map_nil, takeT_100 P.out.few] at ht2
      obtain ⟨Aw, cw, rfl⟩ := own_form ho2
      have hm2 : os.length = ts.length := by rw [← ht2, List.length_map]
      obtain ⟨m, hm⟩ : ∃ m, m = os.length := ⟨_, rfl⟩
      rw [← hm] at ho2 hm2 ⊢
      have P2 := Lib.hid (P.out.below bel2)
      have z3 : Boxed w2 w.heap.size 3 (.int .i64 z) := blk_below Z3.out bel2
      have z4 : Boxed w2 (w.heap.size + 1) 4 (.bool false) := blk_below Z4.out bel2
      have z5 : Boxed w2 (w1.heap.size + 1) 42 (.pointer (some ⟨w1.heap.size, 0, none⟩)) := blk_below Y5.out bel2
      have c3 := z3.cell
      have f3 := z3.frozen
      have c5' := z5.cell
      have hl3 := z3.lt
      have hl5 := z5.lt
      have W3 := Lib.hid z3
      have W4 := Lib.hid z4
      have W5 := Lib.hid z5
      have OS := Lib.hid (OwnO.of_own (own_le ho2 (show w1.heap.size ≤ wr.heap.size from P.out.le)))
      have FS := Lib.hid hf2
      have TS := Lib.hid ht2
      have ML := Lib.hid hm
      have MT := Lib.hid hm2
      clear ho2 hf2 ht2 bel2 P Y5 Z3 Z4 z3 z4 z5 hm hm2 c5
      have hb1 := B1.out.size
      have hne1 : ¬ w1.heap.size + 1 = w.heap.size := by omega
      have hne2 : ¬ w.heap.size = w1.heap.size + 1 := by omega
      have z5s : Boxed (w2.setCell ⟨w.heap.size, 0, none⟩ (.int .i64 r)) (w1.heap.size + 1) 42 (.pointer (some ⟨w1.heap.size, 0, none⟩)) := W5.out.other hne1 _
      have c5s := z5s.cell
      have c5x := ((z5s.alloc (.cells #[.slice Aw m cw] 41)).alloc (.cells #[.int .i64 0] 3)).cell
      have Z5S := Lib.hid z5s
      clear z5s
      gi_wp2_with (refine ⟨trivial, ?_⟩; gi_at_call 28; refine (callsIn_wide.2 (all_any w1.heap.size _)).mono ?_; rintro _ wa ⟨rfl, rfl⟩)
      obtain ⟨w3, hw3⟩ : ∃ x, x = w2.setCell ⟨w.heap.size, 0, none⟩ (.int .i64 r) := ⟨_, rfl⟩
      obtain ⟨w4, hw4⟩ : ∃ x, x = w3.alloc (.cells #[.slice Aw m cw] 41) := ⟨_, rfl⟩
      obtain ⟨w5, hw5⟩ : ∃ x, x = w4.alloc (.cells #[.int .i64 0] 3) := ⟨_, rfl⟩
      obtain ⟨w6, hw6⟩ : ∃ x, x = w5.alloc (.cells #[.pointer (some ⟨w1.heap.size, 0, none⟩)] 42) := ⟨_, rfl⟩
      have e3 : w3.heap.size = w2.heap.size := by rw [hw3, World.size_setCell]
      have e4 : w4.heap.size = w2.heap.size + 1 := by rw [hw4]; simp [e3]
      have e5 : w5.heap.size = w2.heap.size + 2 := by rw [hw5]; simp [e4]
      have e6 : w6.heap.size = w2.heap.size + 3 := by rw [hw6]; simp [e5]
      have b4 : Below w3.heap.size w3 w4 := by rw [hw4]; exact (Below.refl _ _).alloc (Nat.le_refl _) _
      have b5 : Below w4.heap.size w4 w5 := by rw [hw5]; exact (Below.refl _ _).alloc (Nat.le_refl _) _
      have b6 : Below w5.heap.size w5 w6 := by rw [hw6]; exact (Below.refl _ _).alloc (Nat.le_refl _) _
      have hlt2 : w.heap.size < w1.heap.size := by have := Q1.out; omega
      have p3 : PSt w1.heap.size w1.heap.size v ts aF aT aU w3 w3 := by rw [hw3]; exact P2.out.reset hlt2 H5.out
      have x3 : Boxed w3 w.heap.size 3 (.int .i64 r) := by rw [hw3]; exact W3.out.set _
      have x4 : Boxed w3 (w.heap.size + 1) 4 (.bool false) := by rw [hw3]; exact W4.out.other (by omega) _
      have x5 : Boxed w3 (w1.heap.size + 1) 42 (.pointer (some ⟨w1.heap.size, 0, none⟩)) := by rw [hw3]; exact Z5S.out
      have x8 : Boxed w4 w2.heap.size 41 (.slice Aw m cw) := by have := Boxed.new w3 41 (.slice Aw m cw); rwa [e3, ← hw4] at this
      have x9 : Boxed w5 (w2.heap.size + 1) 3 (.int .i64 ((0 : Nat) : Int)) := by have := Boxed.new w4 3 (.int .i64 0); rwa [e4, ← hw5] at this
      have x10 : Boxed w6 (w2.heap.size + 1 + 1) 42 (.pointer (some ⟨w1.heap.size, 0, none⟩)) := by have := Boxed.new w5 42 (.pointer (some ⟨w1.heap.size, 0, none⟩)); rwa [e5, ← hw6] at this
      have k3 : ∀ (k : Nat) (cs : Array Value) (t : TypeId) (fr : Nat × Nat), t ≠ 3 → w2.heap[k]? = some (.cells cs t fr) → w3.heap[k]? = w2.heap[k]? := fun k cs t fr ht hk => by
        rw [hw3]
        refine heap_setCell_other w2 ⟨w.heap.size, 0, none⟩ k _ (fun e => ?_)
        have hb : w2.heap[w.heap.size]? = _ := W3.out
        have e' : k = w.heap.size := e
        rw [← e', hk] at hb
        cases hb
        exact ht rfl
      have o3 : OwnO w3 w1.heap.size 44 (.slice Aw m cw) (os.map (·.1)) := OS.out.same fun k hk _ => by
        obtain ⟨cs, fr, hb⟩ := OS.out.blk k hk; exact k3 k cs 44 fr (by decide) hb
      have f3' : ∀ y ∈ os, FactB y w3 := fun y hy => (FS.out y hy).same fun k hk _ => by
        obtain ⟨cs, fr, hb⟩ := (FS.out y hy).blk k hk; exact k3 k cs 5 fr (by decide) hb
      have i6 : SI w1.heap.size w1.heap.size w.heap.size (w.heap.size + 1) (w1.heap.size + 1) w2.heap.size (w2.heap.size + 1) r m cw Aw ts os aF aT aU w3 v.ownBlock 0 w6 :=
        ⟨blk_below (blk_below (blk_below x3 b4) b5) b6, blk_below (blk_below (blk_below x4 b4) b5) b6, blk_below (blk_below (blk_below x5 b4) b5) b6, blk_below (blk_below x8 b5) b6, blk_below x9 b6,
          ⟨v, by rw [List.drop_zero]; exact ((p3.below b4).below b5).below b6, rfl⟩, ((o3.below b4).below b5).below b6, fun y hy => (((f3' y hy).below b4).below b5).below b6, Nat.zero_le _, Nat.zero_le _⟩
      have bW3 : Below w.heap.size w w3 := by
        rw [hw3]
        exact below_set (B1.out.trans ((P2.out.low (Nat.le_refl _)).mono B1.out.size)) (Nat.le_refl _)
      have p6 : PSt w1.heap.size w1.heap.size v ts aF aT aU w3 w6 := ((p3.below b4).below b5).below b6
      have h53 : 5 ≤ w3.heap.size := by have := H5.out; have := hlt2; have := P2.out.le; omega
      have hrow : ∀ k, v.ownBlock = some k → k < w6.heap.size := fun k hk => (p6.at_.own.lt k hk).2
      rw [← hw3, ← hw4, ← hw5, ← hw6]
      have I6 := Lib.hid i6
      have BW3 := Lib.hid bW3
      have P6 := Lib.hid p6
      have ROW := Lib.hid hrow
      have hle63 : w3.heap.size ≤ w6.heap.size := by omega
      have hle1 : w1.heap.size ≤ w2.heap.size := P2.out.le
      clear hw3 hw4 hw5 hw6 b4 b5 b6 p3 x3 x4 x5 x8 x9 k3 o3 f3' i6 bW3 p6 P2 W3 W4 W5 Z5S OS FS B0 B1 c3 f3 c5' c5s c5x hl3 hl5 hrow hr
      refine wpIn_rangeFuncP (gf := 68) (lb := #[.pointer (some ⟨w2.heap.size + 1 + 1, 0, none⟩)]) rfl (enters_of Tryd.func68 (by kernel_rfl) rfl)
        (all_stopsP 4 (by omega) (w2.heap.size + 1 + 1) w1.heap.size w1.heap.size v ts w6 x10.cell P6.out.at_ (by have := P6.out.few; omega) (fun s hs => by have := (P6.out.siz s hs).2; omega)) factB_put kp9_t (fun W l o o' _ hl ho _ => kp9_b W l o o' hl ho) (Below.refl _ _) (fun _ => rfl)
        (fun pre W => SI w1.heap.size w1.heap.size w.heap.size (w.heap.size + 1) (w1.heap.size + 1) w2.heap.size (w2.heap.size + 1) r m cw Aw ts os aF aT aU w3 v.ownBlock pre.length W)
        (fun c pre W => c = .exit 2 ∧ ∃ pre' x, pre = pre' ++ [x] ∧ SI w1.heap.size w1.heap.size w.heap.size (w.heap.size + 1) (w1.heap.size + 1) w2.heap.size (w2.heap.size + 1) r m cw Aw ts os aF aT aU w3 v.ownBlock pre'.length W ∧ pre'.length = r)
        (SI.own_from hle63 h53 _)
        (fun c => ?ix)
        I6.out
        (fun x => { tmps := #[.slice A i c, .int .i64 z, undef, .pointer (some ⟨w.heap.size, 0, none⟩), .pointer (some ⟨w.heap.size + 1, 0, none⟩), .pointer (some ⟨w1.heap.size + 1, 0, none⟩), undef, u7, .pointer (some ⟨w2.heap.size, 0, none⟩), .pointer (some ⟨w2.heap.size + 1, 0, none⟩), x.1, .bool true, .bool false, .slice A i c, .int .i64 i, .bool (decide ((30 : Int) < i)), .pointer (some ⟨w1.heap.size, 0, none⟩), .slice A i c, .int .i64 i, .int .i64 i, .bool false, u21, u22, u23, u24, u25, u26, u27, u28, u29, .pointer (some ⟨w1.heap.size, 0, none⟩), .slice Aw m cw, .int .i64 z, .int .u64 (IntKind.u64.wrap z), .int .u64 r, .int .i64 r, .pointer (some ⟨w1.heap.size, 0, none⟩), .func (.func 68) #[] #[.pointer (some ⟨w2.heap.size + 1 + 1, 0, none⟩)], x.1, undef, undef, undef, undef, undef, undef, undef, undef, undef, undef, undef, undef, undef, undef, undef, undef, undef, undef, undef, undef, undef, undef, undef, undef, undef, undef, undef, undef, undef, undef, undef, undef, undef, undef], defers := [] }) ?assign ?body ?done ?stop
      case ix =>
        rintro s X Y row ⟨hc, pre', x, e, hs, hn⟩ hg hr
        exact ⟨hc, pre', x, e, SI.own_from (B := w6.heap.size) hle63 h53 (fun l => l.length) pre' X Y row hs hg hr, hn⟩
      case assign =>
        intro l x W K hK
        gi_wp2
        exact hK
      case body =>
        rintro l pre ⟨xv, xs⟩ W hI hF hlt ⟨k, hk⟩
        have hj1 : pre.length + 1 = min k ts.length := by have := congrArg List.length hk; simpa using this
        have hx : xs = ts[pre.length] := by
          have h1 : ((pre ++ [(xv, xs)]).map (·.2))[pre.length]? = some xs := by simp
          rw [hk, List.getElem?_take, if_pos (by omega), List.getElem?_eq_getElem (by omega)] at h1
          exact (Option.some.inj h1).symm
        obtain ⟨Ax, nx, cx, hxv⟩ := hF.2
        dsimp only at hxv
        subst hxv
        have c9 := hI.b9.cell
        have c3 := hI.b3.cell
        have HI := Lib.hid hI
        have HF := Lib.hid hF
        have HX := Lib.hid hx
        have HK := Lib.hid hk
        obtain ⟨j, hj⟩ : ∃ j, j = pre.length := ⟨_, rfl⟩
        have hjr := hI.jr
        rw [← hj] at c9 hjr
        have HJ := Lib.hid hj
        clear hI hF hx hk hj1 hj
        by_cases hbr : j = r
        · have hbr' : (j : Int) = r := by omega
          gi_wp2_with fail
          exact ⟨KeepsFrom.refl _ _, rfl, pre, _, rfl, HI.out, by rw [← HJ.out]; exact hbr⟩
        · have hbr' : ¬ (j : Int) = r := by omega
          obtain ⟨vv, pv, hvv⟩ := HI.out.pool
          rw [← HJ.out] at pv
          have C9 := Lib.hid HI.out.b9.cell
          have C8 := Lib.hid HI.out.b8.cell
          have C5 := Lib.hid HI.out.b5.cell
          rw [← HJ.out] at C9
          have hjt : j < ts.length := by rw [HJ.out]; exact hlt
          have hjm : j < m := by rw [MT.out]; exact hjt
          have hjo : j < os.length := by rw [← ML.out]; exact hjm
          obtain ⟨gw, ow, cw', ew, _, _, hcy⟩ := HI.out.own.row (by rw [List.length_map]; omega)
          rw [List.length_map, ← ML.out] at ew
          obtain ⟨T, hT⟩ : ∃ T, T = ts[j] := ⟨_, rfl⟩
          have hfy := HI.out.fact os[j] (List.getElem_mem hjo)
          have hcj := hcy j (os[j]).1 (by simp [hjo])
          obtain ⟨Ay, ny, cy, hyv⟩ := hfy.2
          have hyt : (os[j]).2 = T := by rw [hT]; simp [← TS.out]
          have hby := hfy.bs
          rw [hyv] at hcj hby
          have CY := Lib.hid hcj
          have AW := Lib.hid ew
          have YB := Lib.hid hby
          have YT : Hid (strOfNums (sb (os[j]).2) = T) := Lib.hid (by rw [str_sb, hyt])
          have hxT : xs = T := by rw [HX.out, hT]; simp [HJ.out]
          have XB := Lib.hid HF.out.bs
          have XT : Hid (strOfNums (sb xs) = T) := Lib.hid (by rw [str_sb, hxT])
          have PV := Lib.hid pv
          have VV := Lib.hid hvv
          have HT := Lib.hid hT
          have HXT := Lib.hid hxT
          have HFX : Hid (BsF w1.heap.size W (.slice Ax nx cx) (sb xs)) := Lib.hid (BsF.of_own HF.out.1 (sb_ok _))
          clear ew hcy hfy hcj hyv hyt hby hT hxT pv hvv
          gi_wp2_with fail
          clear c3 c9
          refine wpIn_region_rely3 (roundF l) ?hq (by kernel_rfl) (by kernel_rfl) 12 (by kernel_rfl) (by kernel_rfl) Ext Ext.refl Ext.trans (fun ix => match ix with
            | 0 => fun _ v => v = .slice Ax nx cx
            | 1 => fun _ v => v = .string T
            | 2 => fun _ v => v = .slice Aw m cw
            | 3 => fun _ v => v = .int .i64 j
            | 4 => fun _ v => v = .pointer (some ⟨gw, ow + j, none⟩)
            | 5 => fun _ v => v = .slice Ay ny cy
            | 6 => fun _ v => v = .string T
            | 7 => fun _ v => v = .bool false
            | 8 => fun _ v => v = .bool false
            | 9 => fun _ v => v = .pointer (some ⟨w1.heap.size, 0, none⟩)
            | 10 => fun _ v => v = .slice Ax nx cx
            | 11 => fun w v => ∃ b, v = .slice (some ⟨b, 0, none⟩) 1 1 ∧ w.heap[b]? = some (.cells #[.slice Ax nx cx] 44 (0, 0)) ∧ w1.heap.size ≤ b
            | _ => fun _ _ => False) ?_
          case hq => (rintro ⟨_, _, h⟩; exact h)
          simp (maxSteps := 10000000) only [Rely, List.take_succ_cons, List.take_zero, List.drop_succ_cons, List.drop_zero, Nat.reduceAdd, Nat.zero_add, Act.put, List.setIfInBounds_toArray, List.set_cons_succ, List.set_cons_zero]
          refine ⟨?_, ?_, ?_, ?_, ?_, ?_, ?_, ?_, ?_, ?_, ?_, ?_, ?_⟩
          · refine step_plain rfl fun vs wq hE hd => ?_
            exact gives_move _ (.slice Ax nx cx) (.inl rfl) rfl ⟨Ext.refl _, fun _ _ => rfl⟩
          · refine step_plain rfl fun vs wq hE hd => ?_
            exact gives_convert 44 9 _ rfl (.slice Ax nx cx) _ (show vs 0 = _ from (hd.1)) (by rw [← XT.out]; exact conv_bs XB.out _ (ext_of_drew hE)) ⟨Ext.refl _, fun _ _ => rfl⟩
          · refine step_plain rfl fun vs wq hE hd => ?_
            have hc := cell_on (ext_of_drew hE) C8.out
            exact gives_loadAt 41 _ rfl (.pointer (some ⟨w2.heap.size, 0, none⟩)) (.slice Aw m cw) rfl (by go_simp) ⟨Ext.refl _, fun _ _ => rfl⟩
          · refine step_plain rfl fun vs wq hE hd => ?_
            have hc := cell_on (ext_of_drew hE) C9.out
            exact gives_loadAt 3 _ rfl (.pointer (some ⟨w2.heap.size + 1, 0, none⟩)) (.int .i64 j) rfl (by go_simp) ⟨Ext.refl _, fun _ _ => rfl⟩
          · refine step_plain rfl fun vs wq hE hd => ?_
            exact gives_indexAt 41 _ _ rfl (.slice Aw m cw) (.int .i64 j) (.pointer (some ⟨gw, ow + j, none⟩)) (show vs 2 = _ from (hd.1)) (show vs 3 = _ from (hd.2.1)) (by rw [AW.out]; go_simp) ⟨Ext.refl _, fun _ _ => rfl⟩
          · refine step_plain rfl fun vs wq hE hd => ?_
            have hc := cell_on (ext_of_drew hE) CY.out
            exact gives_loadAt 44 _ rfl (.pointer (some ⟨gw, ow + j, none⟩)) (.slice Ay ny cy) (show vs 4 = _ from hd.1) (by go_simp) ⟨Ext.refl _, fun _ _ => rfl⟩
          · refine step_plain rfl fun vs wq hE hd => ?_
            exact gives_convert 44 9 _ rfl (.slice Ay ny cy) _ (show vs 5 = _ from (hd.1)) (by rw [← YT.out]; exact conv_bs YB.out _ (ext_of_drew hE)) ⟨Ext.refl _, fun _ _ => rfl⟩
          · refine step_plain rfl fun vs wq hE hd => ?_
            exact gives_binOp .neq 9 _ _ _ rfl (.string T) (.string T) (.bool false) (show vs 1 = _ from (hd.1)) (show vs 6 = _ from (hd.2.1)) (by go_simp) (by first | (go_simp; done) | (go_simp; simp [str_beq])) ⟨Ext.refl _, fun _ _ => rfl⟩
          · refine step_plain rfl fun vs wq hE hd => ?_
            exact gives_move _ (.bool false) (.inl rfl) (show vs 7 = _ from hd.1) ⟨Ext.refl _, fun _ _ => rfl⟩
          · refine step_guard 8 false 50 rfl rfl (fun _ => rfl) fun vs wq hE hd => ⟨hd.1, ?_⟩
            have hc := cell_on (ext_of_drew hE) C5.out
            exact gives_loadAt 42 _ rfl (.pointer (some ⟨w1.heap.size + 1, 0, none⟩)) (.pointer (some ⟨w1.heap.size, 0, none⟩)) rfl (by go_simp) ⟨Ext.refl _, fun _ _ => rfl⟩
          · refine step_guard 8 false 50 rfl rfl (fun _ => rfl) fun vs wq hE hd => ⟨hd.1, ?_⟩
            exact gives_move _ (.slice Ax nx cx) (.inl rfl) rfl ⟨Ext.refl _, fun _ _ => rfl⟩
          · refine step_guard 8 false 50 rfl rfl (fun _ => rfl) fun vs wq hE hd => ⟨hd.2.1, ?_⟩
            refine gives_build1 41 _ rfl (.slice Ax nx cx) (show vs 10 = _ from (hd.1)) (.slice (some ⟨wq.heap.size, 0, none⟩) 1 1) (w' := wq.alloc (.cells #[.slice Ax nx cx] 44)) (by go_simp) ⟨(Below.refl _ _).alloc (Nat.le_refl _) _, fun w'' hE2 => ⟨wq.heap.size, rfl, blk_below (heap_alloc_new wq _) hE2, Nat.le_trans PV.out.le (ext_of_drew hE).size⟩⟩
          · intro vs wz hE hR
            have hl9 : vs 9 = .pointer (some ⟨w1.heap.size, 0, none⟩) := hR 9 (by omega)
            have hl8 : vs 8 = .bool false := hR 8 (by omega)
            obtain ⟨bq, hbq, hbb, hbl⟩ := hR 11 (by omega)
            have hbel : Below W.heap.size W wz := ext_of_drew hE
            have IZ := Lib.hid (HI.out.go hbel h53)
            have PZ := Lib.hid (PV.out.below hbel)
            have hlz : Lst w1.heap.size wz (.slice (some ⟨bq, 0, none⟩) 1 1) [(.slice Ax nx cx, sb xs)] := by
              refine ⟨.inr ⟨bq, 0, 1, #[.slice Ax nx cx], (0, 0), rfl, hbl, hbb, Nat.le_refl _, by simp [maxLen], by simp, by simp, .inl (Nat.le_refl _)⟩, fun y hy => ?_⟩
              rw [List.mem_singleton] at hy
              subst hy
              exact HFX.out.stay (Stay.of_below hbel)
            have LZ := Lib.hid hlz
            have HBZ := Lib.hid hbel
            rw [hl9, hl8, hbq]
            clear hR hE hl9 hl8 hbq hbb hbl hbel hlz HFX XB YB AW CY C5 C8 C9
            go_wp2_with fail
            refine (drop_any w1.heap.size w1.heap.size vv (ts.drop j) [sb xs] (some ⟨bq, 0, none⟩) 1 1 wz PZ.out.at_ (LZ.out.bss_but PZ.out.at_) (by have := PZ.out.few; omega) (by omega)).mono ?_
            rintro _ w8 ⟨rfl, v8, hp8, hb8, hv8⟩
            have hdr : dropT (ts.drop j) ([sb xs].map strOfNums) = ts.drop (j + 1) := by
              rw [List.map_cons, List.map_nil, str_sb, HXT.out, HT.out]
              exact drop_first (by have := P6.out.nd; simpa using this) j hjt
            rw [hdr] at hp8 ⊢
            have hone : ((ts.drop j).length : Int) - ((ts.drop (j + 1)).length : Int) = 1 := by rw [List.length_drop, List.length_drop]; omega
            rw [hone]
            have P8 := Lib.hid (PZ.out.but hp8 hb8 (by have := PZ.out.few; rw [List.length_drop] at this ⊢; omega) (fun s hs => P6.out.siz s (List.mem_of_mem_drop hs)) (P6.out.nd.sublist (List.drop_sublist _ _)))
            have BT8 := Lib.hid hb8
            have VV8 := Lib.hid (hv8.trans VV.out)
            have y9 : Boxed w8 (w2.heap.size + 1) 3 (.int .i64 j) := by
              have h9 := IZ.out.b9
              rw [← HJ.out] at h9
              exact hb8.blk h9 (PZ.out.at_.notS h9 (by decide) (by decide))
            have c9 := y9.cell
            have f9 := y9.frozen
            clear hp8 hb8 hv8 hdr hone y9
            go_wp2_with fail
            gi_wp2_with fail
            have hnS : ∀ (k : Nat) (cs : Array Value) (t : TypeId) (fr : Nat × Nat), w6.heap.size ≤ k → wz.heap[k]? = some (.cells cs t fr) → t ≠ 109 → ¬ PoolS w1.heap.size vv k := fun k cs t fr hk hb ht h => by
              rcases h with rfl | h
              · rw [PZ.out.at_.blk] at hb
                cases hb
                exact ht rfl
              · have := ROW.out k (by rw [← VV.out]; exact h)
                omega
            have i9 := HI.out.go HBZ.out h53
            rw [← HJ.out] at i9
            have hfin := i9.dropped PZ.out VV8.out BT8.out P8.out (by omega) (by omega) h53 (by omega) (by omega) (by omega)
            refine ⟨?_, fun k cs hk hb => ?_, ?_⟩
            · refine KeepsFrom.trans ⟨HBZ.out.size, fun k o _ hk _ => blk_below hk HBZ.out⟩ (KeepsFrom.trans (Y := w8) ⟨BT8.out.size, fun k o _ hk ho => BT8.out.blk hk fun h => ?_⟩ ((KeepsOthers.setCell _ _ _).from _))
              rcases h with rfl | h
              · rw [PZ.out.at_.blk] at hk; cases hk; cases ho
              · obtain ⟨cs, hg⟩ := PZ.out.at_.rowblk k h
                rw [hg] at hk; cases hk; cases ho
            · have h8 := BT8.out.blk (blk_below hb HBZ.out) (hnS k cs 9 _ hk (blk_below hb HBZ.out) (by decide))
              exact (heap_setCell_other w8 ⟨w2.heap.size + 1, 0, none⟩ k _ (by show k ≠ w2.heap.size + 1; omega)).trans h8
            · show SI w1.heap.size w1.heap.size w.heap.size (w.heap.size + 1) (w1.heap.size + 1) w2.heap.size (w2.heap.size + 1) r m cw Aw ts os aF aT aU w3 v.ownBlock (pre ++ [(Value.slice Ax nx cx, xs)]).length _
              rw [List.length_append, ← HJ.out]
              exact hfin
      case done =>
        rintro D xs W hD hS hI hK
        obtain ⟨j, hj⟩ : ∃ j, j = xs.length := ⟨_, rfl⟩
        rw [← hj] at hI
        have hjm : j = m := by rw [hj, MT.out, ← hS, List.length_map]
        have hmin : min (r : Int) m = j := by have := hI.jr; omega
        clear hS hj
        have hm16 : m ≤ 16 := by have := P6.out.few; have := MT.out; omega
        obtain ⟨vv, pv, hvv⟩ := hI.pool
        obtain ⟨A2, c2, hsl, ho2⟩ := own_slice hI.own (k := j) hI.jm (by omega)
        have C9 := Lib.hid hI.b9.cell
        have C8 := Lib.hid hI.b8.cell
        have C5 := Lib.hid hI.b5.cell
        have C3 := Lib.hid hI.b3.cell
        have X4 := Lib.hid hI.b4
        have PV := Lib.hid pv
        have SL := Lib.hid hsl
        have MN := Lib.hid hmin
        have DL : Hid ((ts.drop j).length = m - j) := Lib.hid (by rw [List.length_drop, MT.out])
        have OT : Hid ((os.drop j).map (·.2) = ts.drop j) := Lib.hid (by rw [List.map_drop, TS.out])
        have L2 : Hid (Lst w1.heap.size W (.slice A2 (m - j) c2) (outL (os.drop j))) := Lib.hid ⟨by
            rw [show (outL (os.drop j)).map (·.1) = (os.map (·.1)).drop j by unfold outL; rw [List.map_map, ← List.map_drop]; rfl]
            exact ho2, fun y hy => by
            obtain ⟨x, hx, rfl⟩ := List.mem_map.1 hy
            exact BsF.of_own (hI.fact x (List.mem_of_mem_drop hx)).1 (sb_ok _)⟩
        have HKD := Lib.hid hK
        have BW : Hid (Below w.heap.size w W) := Lib.hid (BW3.out.trans ((pv.stay.low (by omega)).mono (by omega)))
        have heq : ((j : Int) == j) = true := by simp
        clear pv hsl hmin ho2 hI hvv x10
        gi_wp2_with fail
        refine wpIn_region_rely3 wideF ?hq (by kernel_rfl) (by kernel_rfl) 14 (by kernel_rfl) (by kernel_rfl) Ext Ext.refl Ext.trans (fun ix => match ix with
          | 0 => fun _ v => v = .int .i64 j
          | 1 => fun _ v => v = .int .i64 r
          | 2 => fun _ v => v = .slice Aw m cw
          | 3 => fun _ v => v = .int .i64 m
          | 4 => fun _ v => v = .int .i64 j
          | 5 => fun _ v => v = .bool true
          | 6 => fun _ v => v = .bool true
          | 7 => fun _ v => v = .pointer (some ⟨w1.heap.size, 0, none⟩)
          | 8 => fun w v => ∃ A c xs, v = .slice A (m - j) c ∧ Lst w1.heap.size w (.slice A (m - j) c) xs ∧ (xs.map (·.2)).map strOfNums = ts.drop j
          | 9 => fun _ v => v = .slice Aw m cw
          | 10 => fun _ v => v = .int .i64 j
          | 11 => fun _ v => v = .slice A2 (m - j) c2
          | 12 => fun _ v => v = .bool true
          | 13 => fun _ v => v = .bool true
          | _ => fun _ _ => False) ?_
        case hq => (rintro ⟨_, _, h⟩; exact nomatch h.1)
        simp (maxSteps := 10000000) only [Rely, List.take_succ_cons, List.take_zero, List.drop_succ_cons, List.drop_zero, Nat.reduceAdd, Nat.zero_add, Act.put, List.setIfInBounds_toArray, List.set_cons_succ, List.set_cons_zero]
        refine ⟨?_, ?_, ?_, ?_, ?_, ?_, ?_, ?_, ?_, ?_, ?_, ?_, ?_, ?_, ?_⟩
        · refine step_plain rfl fun vs wq hE hd => ?_
          have hc := cell_on (ext_of_drew hE) C9.out
          exact gives_loadAt 3 _ rfl (.pointer (some ⟨w2.heap.size + 1, 0, none⟩)) (.int .i64 j) rfl (by go_simp) ⟨Ext.refl _, fun _ _ => rfl⟩
        · refine step_plain rfl fun vs wq hE hd => ?_
          have hc := cell_on (ext_of_drew hE) C3.out
          exact gives_loadAt 3 _ rfl (.pointer (some ⟨w.heap.size, 0, none⟩)) (.int .i64 r) rfl (by go_simp) ⟨Ext.refl _, fun _ _ => rfl⟩
        · refine step_plain rfl fun vs wq hE hd => ?_
          have hc := cell_on (ext_of_drew hE) C8.out
          exact gives_loadAt 41 _ rfl (.pointer (some ⟨w2.heap.size, 0, none⟩)) (.slice Aw m cw) rfl (by go_simp) ⟨Ext.refl _, fun _ _ => rfl⟩
        · refine step_plain rfl fun vs wq hE hd => ?_
          exact gives_len 41 44 _ rfl Tryd.underlying41 Aw m cw (show vs 2 = _ from (hd.1)) ⟨Ext.refl _, fun _ _ => rfl⟩
        · refine step_plain rfl fun vs wq hE hd => ?_
          have hmn := MN.out
          exact gives_min _ _ _ rfl (r : Int) (m : Int) (show vs 1 = _ from (hd.1)) (show vs 3 = _ from (hd.2.1)) (by rw [hmn]; exact ⟨Ext.refl _, fun _ _ => rfl⟩)
        · refine step_plain rfl fun vs wq hE hd => ?_
          exact gives_binOp .eql 3 _ _ _ rfl (.int .i64 j) (.int .i64 j) (.bool true) (show vs 0 = _ from hd.1) (show vs 4 = _ from hd.2.1) (by go_simp) (by go_simp) ⟨Ext.refl _, fun _ _ => rfl⟩
        · refine step_plain rfl fun vs wq hE hd => ?_
          exact gives_move _ (.bool true) (.inl rfl) (show vs 5 = _ from hd.1) ⟨Ext.refl _, fun _ _ => rfl⟩
        · refine step_guard 6 true 65 rfl rfl (fun _ => rfl) fun vs wq hE hd => ⟨hd.1, ?_⟩
          have hc := cell_on (ext_of_drew hE) C5.out
          exact gives_loadAt 42 _ rfl (.pointer (some ⟨w1.heap.size + 1, 0, none⟩)) (.pointer (some ⟨w1.heap.size, 0, none⟩)) rfl (by go_simp) ⟨Ext.refl _, fun _ _ => rfl⟩
        · refine step_guard 6 true 65 rfl rfl (fun _ => rfl) fun vs wq hE hd => ⟨hd.2.1, ?_⟩
          refine gives_call 27 Tryd.call27 _ _ rfl rfl [.pointer (some ⟨w1.heap.size, 0, none⟩), .int .i64 100, .slice none 0 0] ?_ ?_
          · show [vs 7, _, _] = _
            rw [show vs 7 = _ from (hd.1)]
            rfl
          · refine (take_st _ _ vv (ts.drop j) 100 [] none 0 0 aF aT aU w3 wq (PV.out.below (ext_of_drew hE)) Bss.nil (by omega)).mono ?_
            rintro e wy ⟨A, c, xs, rfl, hl, ht, hb⟩
            rw [List.map_nil, takeT_100 PV.out.few] at hl ht ⊢
            rw [DL.out] at hl ⊢
            exact ⟨_, rfl, hb, fun w'' hE2 => ⟨A, c, xs, rfl, hl.stay (Stay.of_below hE2), ht⟩⟩
        · refine step_guard 6 true 65 rfl rfl (fun _ => rfl) fun vs wq hE hd => ⟨hd.1, ?_⟩
          have hc := cell_on (ext_of_drew hE) C8.out
          exact gives_loadAt 41 _ rfl (.pointer (some ⟨w2.heap.size, 0, none⟩)) (.slice Aw m cw) rfl (by go_simp) ⟨Ext.refl _, fun _ _ => rfl⟩
        · refine step_guard 6 true 65 rfl rfl (fun _ => rfl) fun vs wq hE hd => ⟨hd.1, ?_⟩
          have hc := cell_on (ext_of_drew hE) C9.out
          exact gives_loadAt 3 _ rfl (.pointer (some ⟨w2.heap.size + 1, 0, none⟩)) (.int .i64 j) rfl (by go_simp) ⟨Ext.refl _, fun _ _ => rfl⟩
        · refine step_guard 6 true 65 rfl rfl (fun _ => rfl) fun vs wq hE hd => ⟨hd.2.2.1, ?_⟩
          exact gives_slice 41 _ _ none none rfl (.slice Aw m cw) _ (some (.int .i64 (j : Int))) none none (show vs 9 = _ from (hd.1)) (congrArg some (show vs 10 = _ from (hd.2.1))) rfl rfl (SL.out wq) ⟨Ext.refl _, fun _ _ => rfl⟩
        · refine step_guard 6 true 65 rfl rfl (fun _ => rfl) fun vs wq hE hd => ⟨hd.2.2.2.1, ?_⟩
          obtain ⟨A, c, xs, hv8, hl, ht⟩ := (hd.1)
          refine gives_call 30 Tryd.call30 _ _ rfl rfl [.slice A (m - j) c, .slice A2 (m - j) c2] ?_ ?_
          · show [vs 8, vs 11] = _
            rw [hv8, show vs 11 = _ from (hd.2.1)]
          · refine (sameLists_any (xs.map (·.2)) ((outL (os.drop j)).map (·.2)) A A2 (m - j) (m - j) c c2 wq hl.bss (L2.out.stay (Stay.of_below (ext_of_drew hE))).bss (by omega)).mono ?_
            rintro e wy ⟨rfl, hb⟩
            have hE2 : (xs.map (·.2)).map strOfNums = ((outL (os.drop j)).map (·.2)).map strOfNums := by rw [ht, outL_texts, OT.out]
            rw [decide_eq_true hE2]
            exact ⟨_, rfl, hb, fun _ _ => rfl⟩
        · refine step_plain rfl fun vs wq hE hd => ?_
          exact gives_pick _ _ _ (.bool true) true rfl (show vs 6 = _ from hd.1) (show vs 12 = _ from hd.2.1) ⟨Ext.refl _, fun _ _ => rfl⟩
        · intro vs wz hE hR
          have hl13 : vs 13 = .bool true := hR 13 (by omega)
          have hbel : Below W.heap.size W wz := ext_of_drew hE
          have y4 : Boxed wz (w.heap.size + 1) 4 (.bool false) := blk_below X4.out hbel
          have c4 := y4.cell
          have f4 := y4.frozen
          have kd : wz.heap[D]? = some (.deferred (some [])) := blk_below HKD.out hbel
          have hb9 : Below w.heap.size w wz := BW.out.trans (hbel.mono BW.out.size)
          have Y4 := Lib.hid y4
          have KD := Lib.hid kd
          have HB9 := Lib.hid hb9
          rw [hl13]
          clear hR hE hl13 hbel y4 kd hb9
          go_wp2_with fail
          gi_wp2_with fail
          have hDne : ¬ D = w.heap.size + 1 := by omega
          have hk9 : (wz.setCell ⟨w.heap.size + 1, 0, none⟩ (.bool true)).heap[D]? = some (.deferred (some [])) := (heap_setCell_other wz ⟨w.heap.size + 1, 0, none⟩ D _ hDne).trans KD.out
          have hbx : Boxed (wz.setCell ⟨w.heap.size + 1, 0, none⟩ (.bool true)) (w.heap.size + 1) 4 (.bool true) := Y4.out.set _
          have hb10 := below_set (v := .bool true) HB9.out (show w.heap.size ≤ w.heap.size + 1 by omega)
          refine ⟨by simp, .inl ⟨_, _, rfl, run_takeDeferred hk9, ?_⟩⟩
          exact ⟨_, results_bool rfl _ _ rfl ((World.putObj_heap_other (by omega)).trans hbx), rfl, hb10.trans (belowK_b (w := w) (Nat.le_refl _) _ D _ _ (by omega) hk9 rfl rfl)⟩
      case stop =>
        rintro D c pre W hD ⟨k, hk⟩ ⟨rfl, pre', x, rfl, hI, hn⟩ hK
        obtain ⟨j, hj⟩ : ∃ j, j = pre'.length := ⟨_, rfl⟩
        rw [← hj] at hI hn
        have hjm : j ≤ m := hI.jm
        have hmin : min (r : Int) m = j := by omega
        clear hk hj
        have hm16 : m ≤ 16 := by have := P6.out.few; have := MT.out; omega
        obtain ⟨vv, pv, hvv⟩ := hI.pool
        obtain ⟨A2, c2, hsl, ho2⟩ := own_slice hI.own (k := j) hI.jm (by omega)
        have C9 := Lib.hid hI.b9.cell
        have C8 := Lib.hid hI.b8.cell
        have C5 := Lib.hid hI.b5.cell
        have C3 := Lib.hid hI.b3.cell
        have X4 := Lib.hid hI.b4
        have PV := Lib.hid pv
        have SL := Lib.hid hsl
        have MN := Lib.hid hmin
        have DL : Hid ((ts.drop j).length = m - j) := Lib.hid (by rw [List.length_drop, MT.out])
        have OT : Hid ((os.drop j).map (·.2) = ts.drop j) := Lib.hid (by rw [List.map_drop, TS.out])
        have L2 : Hid (Lst w1.heap.size W (.slice A2 (m - j) c2) (outL (os.drop j))) := Lib.hid ⟨by
            rw [show (outL (os.drop j)).map (·.1) = (os.map (·.1)).drop j by unfold outL; rw [List.map_map, ← List.map_drop]; rfl]
            exact ho2, fun y hy => by
            obtain ⟨x, hx, rfl⟩ := List.mem_map.1 hy
            exact BsF.of_own (hI.fact x (List.mem_of_mem_drop hx)).1 (sb_ok _)⟩
        have HKD := Lib.hid hK
        have BW : Hid (Below w.heap.size w W) := Lib.hid (BW3.out.trans ((pv.stay.low (by omega)).mono (by omega)))
        have heq : ((j : Int) == j) = true := by simp
        clear pv hsl hmin ho2 hI hvv x10
        gi_wp2_with fail
        refine wpIn_region_rely3 wideF ?hq (by kernel_rfl) (by kernel_rfl) 14 (by kernel_rfl) (by kernel_rfl) Ext Ext.refl Ext.trans (fun ix => match ix with
          | 0 => fun _ v => v = .int .i64 j
          | 1 => fun _ v => v = .int .i64 r
          | 2 => fun _ v => v = .slice Aw m cw
          | 3 => fun _ v => v = .int .i64 m
          | 4 => fun _ v => v = .int .i64 j
          | 5 => fun _ v => v = .bool true
          | 6 => fun _ v => v = .bool true
          | 7 => fun _ v => v = .pointer (some ⟨w1.heap.size, 0, none⟩)
          | 8 => fun w v => ∃ A c xs, v = .slice A (m - j) c ∧ Lst w1.heap.size w (.slice A (m - j) c) xs ∧ (xs.map (·.2)).map strOfNums = ts.drop j
          | 9 => fun _ v => v = .slice Aw m cw
          | 10 => fun _ v => v = .int .i64 j
          | 11 => fun _ v => v = .slice A2 (m - j) c2
          | 12 => fun _ v => v = .bool true
          | 13 => fun _ v => v = .bool true
          | _ => fun _ _ => False) ?_
        case hq => (rintro ⟨_, _, h⟩; exact nomatch h.1)
        simp (maxSteps := 10000000) only [Rely, List.take_succ_cons, List.take_zero, List.drop_succ_cons, List.drop_zero, Nat.reduceAdd, Nat.zero_add, Act.put, List.setIfInBounds_toArray, List.set_cons_succ, List.set_cons_zero]
        refine ⟨?_, ?_, ?_, ?_, ?_, ?_, ?_, ?_, ?_, ?_, ?_, ?_, ?_, ?_, ?_⟩
        · refine step_plain rfl fun vs wq hE hd => ?_
          have hc := cell_on (ext_of_drew hE) C9.out
          exact gives_loadAt 3 _ rfl (.pointer (some ⟨w2.heap.size + 1, 0, none⟩)) (.int .i64 j) rfl (by go_simp) ⟨Ext.refl _, fun _ _ => rfl⟩
        · refine step_plain rfl fun vs wq hE hd => ?_
          have hc := cell_on (ext_of_drew hE) C3.out
          exact gives_loadAt 3 _ rfl (.pointer (some ⟨w.heap.size, 0, none⟩)) (.int .i64 r) rfl (by go_simp) ⟨Ext.refl _, fun _ _ => rfl⟩
        · refine step_plain rfl fun vs wq hE hd => ?_
          have hc := cell_on (ext_of_drew hE) C8.out
          exact gives_loadAt 41 _ rfl (.pointer (some ⟨w2.heap.size, 0, none⟩)) (.slice Aw m cw) rfl (by go_simp) ⟨Ext.refl _, fun _ _ => rfl⟩
        · refine step_plain rfl fun vs wq hE hd => ?_
          exact gives_len 41 44 _ rfl Tryd.underlying41 Aw m cw (show vs 2 = _ from (hd.1)) ⟨Ext.refl _, fun _ _ => rfl⟩
        · refine step_plain rfl fun vs wq hE hd => ?_
          have hmn := MN.out
          exact gives_min _ _ _ rfl (r : Int) (m : Int) (show vs 1 = _ from (hd.1)) (show vs 3 = _ from (hd.2.1)) (by rw [hmn]; exact ⟨Ext.refl _, fun _ _ => rfl⟩)
        · refine step_plain rfl fun vs wq hE hd => ?_
          exact gives_binOp .eql 3 _ _ _ rfl (.int .i64 j) (.int .i64 j) (.bool true) (show vs 0 = _ from hd.1) (show vs 4 = _ from hd.2.1) (by go_simp) (by go_simp) ⟨Ext.refl _, fun _ _ => rfl⟩
        · refine step_plain rfl fun vs wq hE hd => ?_
          exact gives_move _ (.bool true) (.inl rfl) (show vs 5 = _ from hd.1) ⟨Ext.refl _, fun _ _ => rfl⟩
        · refine step_guard 6 true 65 rfl rfl (fun _ => rfl) fun vs wq hE hd => ⟨hd.1, ?_⟩
          have hc := cell_on (ext_of_drew hE) C5.out
          exact gives_loadAt 42 _ rfl (.pointer (some ⟨w1.heap.size + 1, 0, none⟩)) (.pointer (some ⟨w1.heap.size, 0, none⟩)) rfl (by go_simp) ⟨Ext.refl _, fun _ _ => rfl⟩
        · refine step_guard 6 true 65 rfl rfl (fun _ => rfl) fun vs wq hE hd => ⟨hd.2.1, ?_⟩
          refine gives_call 27 Tryd.call27 _ _ rfl rfl [.pointer (some ⟨w1.heap.size, 0, none⟩), .int .i64 100, .slice none 0 0] ?_ ?_
          · show [vs 7, _, _] = _
            rw [show vs 7 = _ from (hd.1)]
            rfl
          · refine (take_st _ _ vv (ts.drop j) 100 [] none 0 0 aF aT aU w3 wq (PV.out.below (ext_of_drew hE)) Bss.nil (by omega)).mono ?_
            rintro e wy ⟨A, c, xs, rfl, hl, ht, hb⟩
            rw [List.map_nil, takeT_100 PV.out.few] at hl ht ⊢
            rw [DL.out] at hl ⊢
            exact ⟨_, rfl, hb, fun w'' hE2 => ⟨A, c, xs, rfl, hl.stay (Stay.of_below hE2), ht⟩⟩
        · refine step_guard 6 true 65 rfl rfl (fun _ => rfl) fun vs wq hE hd => ⟨hd.1, ?_⟩
          have hc := cell_on (ext_of_drew hE) C8.out
          exact gives_loadAt 41 _ rfl (.pointer (some ⟨w2.heap.size, 0, none⟩)) (.slice Aw m cw) rfl (by go_simp) ⟨Ext.refl _, fun _ _ => rfl⟩
        · refine step_guard 6 true 65 rfl rfl (fun _ => rfl) fun vs wq hE hd => ⟨hd.1, ?_⟩
          have hc := cell_on (ext_of_drew hE) C9.out
          exact gives_loadAt 3 _ rfl (.pointer (some ⟨w2.heap.size + 1, 0, none⟩)) (.int .i64 j) rfl (by go_simp) ⟨Ext.refl _, fun _ _ => rfl⟩
        · refine step_guard 6 true 65 rfl rfl (fun _ => rfl) fun vs wq hE hd => ⟨hd.2.2.1, ?_⟩
          exact gives_slice 41 _ _ none none rfl (.slice Aw m cw) _ (some (.int .i64 (j : Int))) none none (show vs 9 = _ from (hd.1)) (congrArg some (show vs 10 = _ from (hd.2.1))) rfl rfl (SL.out wq) ⟨Ext.refl _, fun _ _ => rfl⟩
        · refine step_guard 6 true 65 rfl rfl (fun _ => rfl) fun vs wq hE hd => ⟨hd.2.2.2.1, ?_⟩
          obtain ⟨A, c, xs, hv8, hl, ht⟩ := (hd.1)
          refine gives_call 30 Tryd.call30 _ _ rfl rfl [.slice A (m - j) c, .slice A2 (m - j) c2] ?_ ?_
          · show [vs 8, vs 11] = _
            rw [hv8, show vs 11 = _ from (hd.2.1)]
          · refine (sameLists_any (xs.map (·.2)) ((outL (os.drop j)).map (·.2)) A A2 (m - j) (m - j) c c2 wq hl.bss (L2.out.stay (Stay.of_below (ext_of_drew hE))).bss (by omega)).mono ?_
            rintro e wy ⟨rfl, hb⟩
            have hE2 : (xs.map (·.2)).map strOfNums = ((outL (os.drop j)).map (·.2)).map strOfNums := by rw [ht, outL_texts, OT.out]
            rw [decide_eq_true hE2]
            exact ⟨_, rfl, hb, fun _ _ => rfl⟩
        · refine step_plain rfl fun vs wq hE hd => ?_
          exact gives_pick _ _ _ (.bool true) true rfl (show vs 6 = _ from hd.1) (show vs 12 = _ from hd.2.1) ⟨Ext.refl _, fun _ _ => rfl⟩
        · intro vs wz hE hR
          have hl13 : vs 13 = .bool true := hR 13 (by omega)
          have hbel : Below W.heap.size W wz := ext_of_drew hE
          have y4 : Boxed wz (w.heap.size + 1) 4 (.bool false) := blk_below X4.out hbel
          have c4 := y4.cell
          have f4 := y4.frozen
          have kd : wz.heap[D]? = some (.deferred (some [])) := blk_below HKD.out hbel
          have hb9 : Below w.heap.size w wz := BW.out.trans (hbel.mono BW.out.size)
          have Y4 := Lib.hid y4
          have KD := Lib.hid kd
          have HB9 := Lib.hid hb9
          rw [hl13]
          clear hR hE hl13 hbel y4 kd hb9
          go_wp2_with fail
          gi_wp2_with fail
          have hDne : ¬ D = w.heap.size + 1 := by omega
          have hk9 : (wz.setCell ⟨w.heap.size + 1, 0, none⟩ (.bool true)).heap[D]? = some (.deferred (some [])) := (heap_setCell_other wz ⟨w.heap.size + 1, 0, none⟩ D _ hDne).trans KD.out
          have hbx : Boxed (wz.setCell ⟨w.heap.size + 1, 0, none⟩ (.bool true)) (w.heap.size + 1) 4 (.bool true) := Y4.out.set _
          have hb10 := below_set (v := .bool true) HB9.out (show w.heap.size ≤ w.heap.size + 1 by omega)
          refine ⟨by simp, .inl ⟨_, _, rfl, run_takeDeferred hk9, ?_⟩⟩
          exact ⟨_, results_bool rfl _ _ rfl ((World.putObj_heap_other (by omega)).trans hbx), rfl, hb10.trans (belowK_b (w := w) (Nat.le_refl _) _ D _ _ (by omega) hk9 rfl rfl)⟩
end Go.Proofs.YtideopnblhbngaaDoor
