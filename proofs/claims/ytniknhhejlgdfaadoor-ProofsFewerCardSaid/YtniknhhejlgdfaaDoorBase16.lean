/- Lemmas that laws of this seat rest on, part 16; each says its own conditions: EqV, EpochsRowsW. -/
import Derived.Deep.Upon
import Derived.Test.YtniknhhejlgdfaaDoorBase10
import Derived.Test.YtniknhhejlgdfaaDoorBase15
/- A validator equals itself; validators are appended to a new row. -/
namespace Go.Proofs.YtniknhhejlgdfaaDoor
open Go.RowKit
set_option maxHeartbeats 2000000 in
set_option maxRecDepth 100000 in
theorem run_eql45 (x : Va) (h : x.1.length = 16) (W : World) : (binOp .eql 45 (.agg (vcells x).toArray) (.agg (vcells x).toArray)).run Tryd.prog W = .ok (.bool true) W := by
  obtain ⟨k, p⟩ := x
  have h9 := run_equalIn_bytes (P := Tryd.prog) (w := W) 9997 24 5 16 k k Tryd.underlying24 Tryd.underlying5 (by kernel_rfl) h h
  rw [decide_eq_true rfl] at h9
  obtain ⟨_, _, _, _, _, _, _, _, _, _, _, _, _, _, _, _, rfl⟩ := len16 h
  unfold u8s at h9
  simp only [List.map_cons, List.map_nil] at h9
  unfold vcells u8s
  simp only [List.map_cons, List.map_nil, List.cons_append, List.nil_append]
  go_simp
theorem guard45 (op : BinOp) (x y : Operand) (xs ys : Array Value) (W : World) : (eqGuard op 45 x y (.agg xs) (.agg ys)).run Tryd.prog W = .ok () W := run_eqGuard_agg W op 45 x y xs ys (by kernel_rfl)
section
variable {ops : Array Oper} {rest : List Oper} {o : Oper} {a : Act} {w : World} {Q : Exit → Act → World → Prop}
theorem wpList_appV (hw : Region.wanted o (yielded ops a.tmps) = true) (s x : Operand) (ho : o.op = .call { callee := .builtin .append, args := #[s, x], argTypes := #[22, 22] }) (base g : Nat) (hs : a.eval s = .slice (some ⟨g, 0, none⟩) 0 0) (hown : w.ownsRow base 45 17 (.slice (some ⟨g, 0, none⟩) 0 0) 0 [])
    (A : Option Addr) (n c : Nat) (vs : List Va) (hx : a.eval x = .slice A n c) (hv : Vals w (.slice A n c) vs) (hn : n ≤ 1000) (hb : base ≤ w.heap.size) (hg : base ≤ g)
    (h : ∀ v1 w1, w1.ownsRow base 45 17 v1 n (rcells vs) → Below base w w1 → wpList Tryd.prog ops Q rest (a.put o.dst v1) w1) : wpList Tryd.prog ops Q (o :: rest) a w := by
  obtain ⟨i45, i1, i2, i3, i4⟩ := Tryd.info45
  have hl := hv.len
  refine wpList_step fun K hK => ?_
  rw [if_pos hw]
  cases A with
  | none =>
    have h0 : vs = [] := by
      cases vs with
      | nil => rfl
      | cons => obtain ⟨b, off, c', e, _⟩ := hv.cells (by simp); cases e
    subst h0
    have hn0 : n = 0 := hl
    subst hn0
    have hr := run_append_nothing w 22 22 o.type 45 i45 Tryd.underlying22 i1 (some ⟨g, 0, none⟩) 0 0 (Nat.le_refl _) (.slice none 0 c) (Src.ofNil w Tryd.underlying22 c)
    unfold Oper.wp execOp
    simp only [ho, resolve, invoke, builtin, Sem.run_bind, Sem.run_pure, Result.andThen_ok, List.map_toArray, List.map_cons, List.map_nil, hs, hx, hr]
    exact hK _ _ (h _ _ hown (Below.refl _ _))
  | some ad =>
    obtain ⟨v', w', hr, h2, h3, _⟩ := run_append_own_wide (P := Tryd.prog) w base 22 o.type 45 i45 _ 17 24 Tryd.underlying22 i1 i2 i3 i4 rfl (by omega) (.slice (some ⟨g, 0, none⟩) 0 0) 0 [] hown ad n c (rcells vs) (by rw [rcells_len vs hv.good, hl]) (by
      by_cases hne : vs = []
      · subst hne; intro j u hj; simp [rcells] at hj
      · obtain ⟨b, off, c', e, _⟩ := hv.cells hne
        simp only [Value.slice.injEq, Option.some.injEq] at e
        obtain ⟨rfl, -, -⟩ := e
        exact hv.src) (one_rcells vs) (by simp only [maxLen]; omega) (by omega) hb
    unfold Oper.wp execOp
    simp only [ho, resolve, invoke, builtin, Sem.run_bind, Sem.run_pure, Result.andThen_ok, List.map_toArray, List.map_cons, List.map_nil, hs, hx, hr]
    rw [List.nil_append, Nat.zero_add] at h2
    exact hK _ _ (h _ _ h2 ((Below.refl base w).grown h3 hb (fun k hk => by simp [Value.ownBlock] at hk; omega)))
end
end Go.Proofs.YtniknhhejlgdfaaDoor
/- EpochsRows: what the law does. -/
namespace Go.Proofs.YtniknhhejlgdfaaDoor
open Go.RowKit

theorem own_some {w : World} {base n c : Nat} {A : Option Addr} {xs : List Value} (h : w.ownsRow base 45 17 (.slice A n c) n xs) (h0 : 0 < n) : ∃ C, A = some ⟨C, 0, none⟩ ∧ base ≤ C := by
  obtain ⟨_, h2⟩ := h
  rcases h2 with ⟨e, e2⟩ | ⟨g, cap, cur, e1, e2, _⟩
  · omega
  · simp only [Value.slice.injEq] at e1
    exact ⟨g, e1.1, e2⟩
theorem own_first {w : World} {base n c C : Nat} {vs : List Va} (h : w.ownsRow base 45 17 (.slice (some ⟨C, 0, none⟩) n c) n (rcells vs)) (hn : n = vs.length) (h0 : 0 < n) (hg : ∀ x ∈ vs, x.1.length = 16) :
    w.cell? ⟨C, 16, none⟩ = some (.int .i64 (vs.getD 0 ([], 0)).2) ∧ w.frozen? ⟨C, 16, none⟩ = false := by
  have hc := @World.ownsRow.cells w base 45 17 _ n (rcells vs) h
  have hl : (vs.getD 0 ([], 0)).1.length = 16 := by
    rw [List.getD_eq_getElem?_getD, List.getElem?_eq_getElem (by omega)]
    exact hg _ (List.getElem_mem _)
  constructor
  · have := hc rfl 16 (.int .i64 (vs.getD 0 ([], 0)).2) (by
      rw [show (16 : Nat) = 0 * 17 + 16 by omega, rcells_at vs hg 0 16 (by omega) (by omega)]
      unfold vcells
      rw [List.getElem?_append_right (by rw [u8s_len', hl]; exact Nat.le_refl _), u8s_len', hl]
      rfl)
    rw [show (⟨C, 0, none⟩ : Addr).add 16 = ⟨C, 16, none⟩ by unfold Addr.add; split <;> simp_all] at this
    exact this
  · obtain ⟨_, h2⟩ := h
    rcases h2 with ⟨e, e2⟩ | ⟨g, cap, cur, e1, e2, e3, _⟩
    · omega
    · simp only [Value.slice.injEq, Option.some.injEq, Addr.mk.injEq] at e1
      obtain ⟨⟨rfl, -, -⟩, -, -⟩ := e1
      exact blk_free e3 16
/-- Round i of the loop: the ground that lies in block T. -/
structure RowsI (w2 wr : World) (T : Nat) (vs : List Va) (n i : Nat) (C c' : Nat) (ID : List Int) : Prop where
  row : wr.heap[T]? = some (.cells (gndC ((i : Int) + 1) (.slice (some ⟨C, 0, none⟩) n c') ID).toArray 27 (0, 0))
  len : ID.length = 16
  own : wr.ownsRow w2.heap.size 45 17 (.slice (some ⟨C, 0, none⟩) n c') n (rcells vs)
  bel : Below w2.heap.size w2 wr
  low : w2.heap.size ≤ C
theorem ok_first (vs : List Va) (h : validB vs = true) : 1 ≤ (vs.getD 0 ([], 0)).2 ∧ (vs.getD 0 ([], 0)).2 ≤ 1099511627776 := by
  have hl := hv7 vs h
  refine Decidable.byContradiction fun hn => ?_
  have : okAt vs 0 = false := by unfold okAt; exact decide_eq_false fun hh => hn ⟨hh.1, hh.2.1⟩
  rw [validB_no vs 0 (by omega) this] at h
  cases h
set_option maxHeartbeats 16000000 in
set_option maxRecDepth 100000 in
theorem epochsRows_any (vs : List Va) (A : Option Addr) (n c : Nat) (dss : List (List Int)) (D : Option Addr) (k d : Nat) (aR aS aE : Addr) (w : World) (hv : Vals w (.slice A n c) vs) (hdg : Dgs w (.slice D k d) dss) (hk : k = dss.length) (hs : Em w aR aS aE) :
    Calls Tryd.prog 4 #[.slice A n c, .slice D k d] w fun x w' => x = .returned (.bool true) ∧ Below w.heap.size w w' := by
  have V0 := Lib.hid hv
  have S0 := Lib.hid hs
  have DG0 := Lib.hid hdg
  have HK := Lib.hid hk
  have B0 := Lib.hid (Below.refl w.heap.size w)
  clear hv hs hdg hk
  go_enter Tryd.func4, Tryd.ntmps4
  go_wp2_with fail
  refine (alive20_any aR aS aE _ S0.out).mono ?_
  rintro _ w1 ⟨rfl, hb1⟩
  have V1 := Lib.hid (V0.out.below hb1)
  have S1 := Lib.hid (S0.out.below hb1)
  have DG1 := Lib.hid (DG0.out.below hb1)
  have B1 := Lib.hid (B0.out.trans (hb1.mono B0.out.size))
  clear hb1
  clear V0 S0 DG0 B0
  by_cases h7 : 7 < n
  · have h7' : (7 : Int) < n := by omega
    go_wp2_with fail
    go_ret
    exact ⟨rfl, B1.out⟩
  have h7' : ¬ (7 : Int) < n := by omega
  by_cases h20 : 20 < k
  · have h20' : (20 : Int) < k := by omega
    go_wp2_with fail
    go_ret
    exact ⟨rfl, B1.out⟩
  have h20' : ¬ (20 : Int) < k := by omega
  have N7 := Lib.hid (show n ≤ 7 by omega)
  have K20 := Lib.hid (show k ≤ 20 by omega)
  have b1 : Below w1.heap.size w1 (w1.alloc (.cells #[] 45)) := (Below.refl _ _).alloc (Nat.le_refl _) _
  have OW := Lib.hid (World.ownsRow_made (e := 45) (base := w1.heap.size) (size := 17) w1 #[] 0 (Nat.le_refl _) (by simp) rfl)
  have VA := Lib.hid (V1.out.below b1)
  have BA := Lib.hid b1
  clear b1
  go_wp2_with (at_builtin; refine wpList_appV rfl (.tmp 20) (.tmp 21) rfl w1.heap.size w1.heap.size rfl OW.out A n c vs rfl VA.out (by have := N7.out; omega) BA.out.size (Nat.le_refl _) ?_; intro v2 w2 own2 bel2; have L2 : Below w1.heap.size w1 w2 := BA.out.trans bel2; have V2 := Lib.hid (V1.out.below L2); have S2 := Lib.hid (S1.out.below L2); have DG2 := Lib.hid (DG1.out.below L2); have B2 := Lib.hid (B1.out.trans (L2.mono B1.out.size)); have ow2 := Lib.hid own2; obtain ⟨A2, c2, rfl⟩ := own_form own2; clear own2 bel2 L2)
  have R2 := Lib.hid (Vals.of_own ow2.out V2.out.len V2.out.good)
  clear h7 h7' h20 h20' OW VA BA V1 S1 DG1 B1
  refine (first_any vs A2 n c2 aR aS aE w2 R2.out S2.out).mono ?_
  rintro _ w3 ⟨hb3, hr⟩
  have HB3 := Lib.hid hb3
  have S3 := Lib.hid (S2.out.below hb3)
  have B3 := Lib.hid (B2.out.trans (hb3.mono B2.out.size))
  clear hb3
  rcases hr with ⟨_, rfl⟩ | ⟨hval, A3, c3, rfl, ho⟩
  · go_wp2_with (refine wpList_store_row rfl 27 (.tmp 6) (.tmp 26) rfl w3.heap.size rfl (gndC 0 (.slice none 0 0) zero16) rfl 27 (has_new w3 _ _ _ (by rw [zgnd_len]; rfl)) (by rw [zgnd_len]; exact Tryd.size27) (one_gnd _ _ _ rfl) ?_; intro w4 hp4; have L4 : Below w3.heap.size w3 w4 := hp4.below ((Below.refl _ _).alloc (Nat.le_refl _) _) (Nat.le_refl _); have B4 := Lib.hid (B3.out.trans (L4.mono B3.out.size)); have G4 := Lib.hid hp4.blk; clear hp4 L4)
    go_ret
    exact ⟨rfl, B4.out⟩
  have HVAL := Lib.hid hval
  have n0 : 0 < n := by have := hv7 vs hval; have := V2.out.len; omega
  have N0 := Lib.hid n0
  obtain ⟨C, rfl, hC⟩ := own_some ho n0
  have HC := Lib.hid hC
  have HO := Lib.hid ho
  clear ho hval hC n0
  obtain ⟨IZ, hIZ⟩ : ∃ x, x = idB (GEN 1 zero16) := ⟨_, rfl⟩
  have hz : IZ.length = 16 := hIZ ▸ (idB_good _).1
  rw [← hIZ]
  have HZ := Lib.hid hz
  have hg1 := Lib.hid (gnd_len 1 (.slice (some ⟨C, 0, none⟩) n c3) IZ hz)
  clear hIZ hz
  go_wp2_with (refine wpList_store_row rfl 27 (.tmp 6) (.tmp 26) rfl w3.heap.size rfl (gndC 1 (.slice (some ⟨C, 0, none⟩) n c3) IZ) rfl 27 (has_new w3 _ _ _ (by rw [hg1.out]; rfl)) (by rw [hg1.out]; exact Tryd.size27) (one_gnd _ _ _ rfl) ?_; intro w4 hp4; have L4 : Below w3.heap.size w3 w4 := hp4.below ((Below.refl _ _).alloc (Nat.le_refl _) _) (Nat.le_refl _); have S4 := Lib.hid (S3.out.below L4); have B4 := Lib.hid (B3.out.trans (L4.mono B3.out.size)); have G4 := Lib.hid hp4.blk; have HI := Lib.hid (show RowsI w2 w4 w3.heap.size vs n 0 C c3 IZ from ⟨G4.out, HZ.out, own_bel HO.out L4, HB3.out.trans (L4.mono HB3.out.size), HC.out⟩); clear hp4 L4)
  have HT := Lib.hid HB3.out.size
  clear HO HC HB3 S3 B3 S4 B4 G4 hg1 HZ
  go_loopw [7, 8, 9, 32] (fun e7 _ _ x wr => ∃ (i C c1 : Nat) (ID : List Int), i ≤ k ∧ e7 = .nilIface ∧ x = .int .i64 i ∧ Hid (RowsI w2 wr w3.heap.size vs n i C c1 ID)) (fun _ _ _ x _ => k - (intOf x).toNat)
  case atStart => exact ⟨0, C, c3, IZ, by omega, rfl, rfl, HI⟩
  case round =>
    clear HI
    obtain ⟨i, C, c1, ID, hi, rfl, rfl, hI⟩ := hrel
    by_cases hlt : i < k
    · have hil : (i : Int) < k := by omega
      have hi9 : i < 20 := by have := K20.out; omega
      have hid : i < dss.length := by rw [← HK.out]; exact hlt
      obtain ⟨b, off, hD, hbl, hrg⟩ := DG2.out.el HK.out i hlt
      subst hD
      have hgd := DG2.out.good (dss.getD i []) (by rw [List.getD_eq_getElem?_getD, List.getElem?_eq_getElem hid]; exact List.getElem_mem _)
      obtain ⟨X, hX⟩ : ∃ X, X = dss.getD i [] := ⟨_, rfl⟩
      rw [← hX] at hrg hgd
      have RG := Lib.hid (range_below hrg hI.out.bel)
      have HX := Lib.hid hgd
      have SR := Lib.hid (S2.out.below hI.out.bel)
      have VR := Lib.hid (R2.out.below hI.out.bel)
      have KR := Lib.hid hI.out.row
      have hgl := Lib.hid (gnd_len ((i : Int) + 1) (.slice (some ⟨C, 0, none⟩) n c1) ID hI.out.len)
      clear hX hrg hgd hid hbl
      go_wp2_with (first | (refine wpList_load_g rfl 24 (.tmp 35) rfl b (off + i * 16) rfl (u8s X) _ RG.out Tryd.underlying24 rfl (hi24 X HX.out.1) ?_) | (refine wpList_store_row rfl 24 (.tmp 9) (.tmp 36) rfl wr.heap.size rfl (u8s X) rfl 24 (has_new wr _ _ _ (by rw [u8s_len', HX.out.1]; rfl)) (hi24 X HX.out.1) (one_u8s _) ?_; intro w5 hp5; have L5 : Below wr.heap.size wr w5 := hp5.below ((Below.refl _ _).alloc (Nat.le_refl _) _) (Nat.le_refl _); have S5 := Lib.hid (SR.out.below L5); have V5 := Lib.hid (VR.out.below L5); have K5 := Lib.hid (blk_below KR.out L5); have X5 := Lib.hid hp5.blk; have B5 := Lib.hid (hI.out.bel.trans (L5.mono hI.out.bel.size)); clear hp5 L5) | (refine wpList_load_g rfl 27 (.tmp 6) rfl w3.heap.size 0 rfl (gndC ((i : Int) + 1) (.slice (some ⟨C, 0, none⟩) n c1) ID) _ (blk_range K5.out) Tryd.underlying27 rfl (by rw [hgl.out]; exact Tryd.size27) ?_) | (refine wpList_load_g rfl 24 (.tmp 9) rfl wr.heap.size 0 rfl (u8s X) _ (blk_range X5.out) Tryd.underlying24 rfl (hi24 X HX.out.1) ?_))
      refine (next_any ((i : Int) + 1) (.slice (some ⟨C, 0, none⟩) n c1) ID X hI.out.len HX.out.1 HX.out.2 vs A2 n c2 aR aS aE w5 V5.out S5.out).mono ?_
      rintro _ w6 ⟨hb6, hr⟩
      obtain ⟨A6, c6, rfl, ho⟩ : ∃ A6 c6, _ = Ending.returned (.tuple #[gndV ((i : Int) + 2) (.slice A6 n c6) (idB (GEN ((i : Int) + 2) X)), .nilIface]) ∧ w6.ownsRow w5.heap.size 45 17 (.slice A6 n c6) n (rcells vs) := by
        rcases hr with ⟨hv, _⟩ | ⟨_, ho, _⟩ | ⟨_, _, A6, c6, hx, ho⟩
        · rw [HVAL.out] at hv; cases hv
        · exfalso; unfold OutE at ho; omega
        · rw [show (i : Int) + 1 + 1 = (i : Int) + 2 by omega] at hx
          exact ⟨A6, c6, hx, ho⟩
      clear hr
      obtain ⟨C6, rfl, hC6⟩ := own_some ho N0.out
      obtain ⟨I6, hI6⟩ : ∃ x, x = idB (GEN ((i : Int) + 2) X) := ⟨_, rfl⟩
      have hg : I6.length = 16 := hI6 ▸ (idB_good _).1
      rw [← hI6]
      have HG6 := Lib.hid hg
      have hl6 := Lib.hid (gnd_len ((i : Int) + 2) (.slice (some ⟨C6, 0, none⟩) n c6) I6 hg)
      have HO6 := Lib.hid ho
      have HC6 := Lib.hid (Nat.le_trans B5.out.size hC6)
      have HW5 := Lib.hid B5.out.size
      have B6 := Lib.hid (B5.out.trans (hb6.mono B5.out.size))
      have H6 := Lib.hid (show Has w6 w3.heap.size 27 18 from ⟨_, by rw [← hgl.out]; rfl, blk_below K5.out hb6⟩)
      clear hI6 hg ho hC6 hb6 K5 X5 S5 V5 B5 RG SR VR KR hgl
      go_wp2_with (refine wpList_store_row rfl 27 (.tmp 6) (.tmp 42) rfl w3.heap.size rfl (gndC ((i : Int) + 2) (.slice (some ⟨C6, 0, none⟩) n c6) I6) rfl 27 (by rw [hl6.out]; exact H6.out) (by rw [hl6.out]; exact Tryd.size27) (one_gnd _ _ _ rfl) ?_; intro w7 hp7; have K7 := Lib.hid hp7.blk; have t0 := gnd_0 K7.out; have t1 := gnd_1 K7.out; have NX := Lib.hid (show RowsI w2 w7 w3.heap.size vs n (i + 1) C6 c6 I6 from ⟨by rw [show (((i + 1 : Nat) : Int) + 1) = (i : Int) + 2 by omega]; exact K7.out, HG6.out, own_mono (own_other HO6.out H6.out (by decide) hp7) HW5.out, hp7.below B6.out HT.out, HC6.out⟩); clear hp7)
      go_roundw
      case rel => exact ⟨i + 1, C6, c6, I6, by omega, by first | rfl | trivial, by go_num, NX⟩
      case measure => simp [intOf]; omega
    · have hil : ¬ ((i : Int) < k) := by omega
      clear hi hlt
      have hv := V2.out.below hI.out.bel
      have hf := own_first hI.out.own V2.out.len N0.out V2.out.good
      have hpw := ok_first vs HVAL.out
      obtain ⟨pw, hpwe⟩ : ∃ p, p = (vs.getD 0 ([], 0)).2 := ⟨_, rfl⟩
      rw [← hpwe] at hf hpw
      obtain ⟨hp1, hp2⟩ := hpw
      obtain ⟨c16, f16⟩ := hf
      have t1 := gnd_1 hI.out.row
      have n0 : (0 : Int) < n := by have := N0.out; omega
      have BZ := Lib.hid (fun v => (hI.out.bel.setCell (p := ⟨C, 16, none⟩) hI.out.low v))
      have HI2 := Lib.hid hI.out.low
      clear hv hpwe hI
      go_wp2_with fail
      obtain ⟨wz, hwz⟩ : ∃ x, x = wr.setCell ⟨C, 16, none⟩ (.int .i64 (pw + 1)) := ⟨_, rfl⟩
      rw [← hwz]
      have bz := BZ.out (.int .i64 (pw + 1))
      rw [← hwz] at bz
      have VZ := Lib.hid (V2.out.below bz)
      have RZ := Lib.hid (R2.out.below bz)
      have B9 := Lib.hid (B2.out.trans (bz.mono B2.out.size))
      clear hwz bz BZ t1 c16 f16
      obtain ⟨bv, ov, cv, ev, _, _, _, hev⟩ := VZ.out.cells (by intro e; have := V2.out.len; rw [e] at this; have := N0.out; simp at *; omega)
      obtain ⟨br, or_, cr, er, _, _, _, her⟩ := RZ.out.cells (by intro e; have := V2.out.len; rw [e] at this; have := N0.out; simp at *; omega)
      simp only [Value.slice.injEq] at ev er
      obtain ⟨rfl, -, -⟩ := ev
      obtain ⟨rfl, -, -⟩ := er
      have hlen : 0 < vs.length := by have := V2.out.len; have := N0.out; omega
      have r1 := hev 0 hlen
      have r2 := her 0 hlen
      have hx0 : (vs.getD 0 ([], 0)).1.length = 16 := by rw [List.getD_eq_getElem?_getD, List.getElem?_eq_getElem hlen]; exact V2.out.good _ (List.getElem_mem _)
      obtain ⟨x0, hx⟩ : ∃ x, x = vs.getD 0 ([], 0) := ⟨_, rfl⟩
      rw [← hx, Nat.zero_mul, Nat.add_zero] at r1 r2
      rw [← hx] at hx0
      have RV := Lib.hid r1
      have RR := Lib.hid r2
      have HX0 := Lib.hid hx0
      have HXL := Lib.hid (show (Tryd.prog.info? 45).map (·.size) = some (vcells x0).length by rw [vcells_len x0 hx0]; exact Tryd.size45)
      clear r1 r2 hx hx0 hev her hlen
      refine wp_region_rely3 (by kernel_rfl) 7 (by kernel_rfl) (by kernel_rfl) Ext Ext.refl Ext.trans (fun ix => match ix with
        | 0 => fun _ v => v = .slice (some ⟨br, or_, none⟩) n c2
        | 1 => fun _ v => v = .pointer (some ⟨br, or_, none⟩)
        | 2 => fun _ v => v = .agg (vcells x0).toArray
        | 3 => fun _ v => v = .slice (some ⟨bv, ov, none⟩) n c
        | 4 => fun _ v => v = .pointer (some ⟨bv, ov, none⟩)
        | 5 => fun _ v => v = .agg (vcells x0).toArray
        | 6 => fun _ v => v = .bool true
        | _ => fun _ _ => False) ?_
      simp (maxSteps := 10000000) only [Rely, List.take_succ_cons, List.take_zero, List.drop_succ_cons, List.drop_zero, Nat.reduceAdd, Nat.zero_add, Act.put, List.setIfInBounds_toArray, List.set_cons_succ, List.set_cons_zero]
      refine ⟨?_, ?_, ?_, ?_, ?_, ?_, ?_, ?_⟩
      · refine step_plain rfl fun rv wq hE hd => ?_
        exact gives_move _ (.slice (some ⟨br, or_, none⟩) n c2) (.inl rfl) rfl ⟨Ext.refl _, fun _ _ => rfl⟩
      · refine step_plain rfl fun rv wq hE hd => ?_
        exact gives_indexAt 22 _ _ rfl (.slice (some ⟨br, or_, none⟩) n c2) (.int .i64 0) (.pointer (some ⟨br, or_, none⟩)) (show rv 0 = _ from hd.1) rfl (by go_simp; intro e; exfalso; have := N0.out; omega) ⟨Ext.refl _, fun _ _ => rfl⟩
      · refine step_plain rfl fun rv wq hE hd => ?_
        exact gives_load_row 45 _ rfl (br) (or_) (show rv 1 = _ from hd.1) (vcells x0) _ (range_below RR.out (ext_of_drew hE)) Tryd.underlying45 rfl HXL.out ⟨Ext.refl _, fun _ _ => rfl⟩
      · refine step_plain rfl fun rv wq hE hd => ?_
        exact gives_move _ (.slice (some ⟨bv, ov, none⟩) n c) (.inl rfl) rfl ⟨Ext.refl _, fun _ _ => rfl⟩
      · refine step_plain rfl fun rv wq hE hd => ?_
        exact gives_indexAt 22 _ _ rfl (.slice (some ⟨bv, ov, none⟩) n c) (.int .i64 0) (.pointer (some ⟨bv, ov, none⟩)) (show rv 3 = _ from hd.1) rfl (by go_simp; intro e; exfalso; have := N0.out; omega) ⟨Ext.refl _, fun _ _ => rfl⟩
      · refine step_plain rfl fun rv wq hE hd => ?_
        exact gives_load_row 45 _ rfl (bv) (ov) (show rv 4 = _ from hd.1) (vcells x0) _ (range_below RV.out (ext_of_drew hE)) Tryd.underlying45 rfl HXL.out ⟨Ext.refl _, fun _ _ => rfl⟩
      · refine step_plain rfl fun rv wq hE hd => ?_
        exact gives_binOp .eql 45 _ _ _ rfl (.agg (vcells x0).toArray) (.agg (vcells x0).toArray) (.bool true) (show rv 2 = _ from hd.1) (show rv 5 = _ from hd.2.1) (guard45 _ _ _ _ _ _) (run_eql45 x0 HX0.out _) ⟨Ext.refl _, fun _ _ => rfl⟩
      · intro rv wq hE hR
        have h6 : rv 6 = .bool true := hR 6 (by omega)
        rw [h6]
        have B8 := Lib.hid (B9.out.trans ((ext_of_drew hE).mono B9.out.size))
        clear hR hE h6
        go_wp2_with fail
        go_ret
        exact ⟨rfl, B8.out⟩
end Go.Proofs.YtniknhhejlgdfaaDoor
