/- The iterator over all words of a tally, for rounds that know that what they have seen is a beginning. -/
import Derived.Test.YtideopnblhbngaaDoorTalN
import Derived.Test.YtideopnblhbngaaDoorSeqP
namespace Go.Proofs.YtideopnblhbngaaDoor
open Go.RowKit Go.Shelf
attribute [local go_sem] Oper.semAt_some

abbrev RoundsP2 (n : Nat) (l : Nat) (Kp : World → World → Prop) (L : List (Int × Int)) (J Jx : List (Int × Int) → World → Prop) : Prop :=
  ∀ pre x W1, J pre W1 → pre.length < L.length → (∃ i, pre ++ [x] = L.take i) → YieldAt Fence.wide (n - 1) Tryd.prog l #[.int .i64 x.1, .int .i64 x.2] W1 fun e W' =>
    (e = .returned (.bool true) ∧ J (pre ++ [x]) W' ∧ Kp W1 W') ∨ (e = .returned (.bool false) ∧ Jx (pre ++ [x]) W')

set_option maxHeartbeats 4000000 in
set_option maxRecDepth 100000 in
theorem alltP_in (n : Nat) (hn : 1 ≤ n) (l b1 base p g : Nat) (A : Option Addr) (m c cw : Nat) (vs : List Va) (ws : List (Wd Int)) (w0 W : World) (J Jx : List (Int × Int) → World → Prop)
    (hW : Below w0.heap.size w0 W) (hJ : AbidesFrom W.heap.size J) (hY : RoundsP2 n l (KeepL [b1, p, g]) (sel (fun _ => true) ws m) J Jx)
    (h1 : w0.cell? ⟨b1, 0, none⟩ = some (.pointer (some ⟨p, 0, none⟩))) (ht : TalAt 126 128 (Value.int .i64) base p g A m c cw vs ws w0) (hz : m ≤ 1000) (h0 : J [] W) :
    CallsIn Fence.wide n Tryd.prog 83 #[.func (.yield l) #[] #[], .pointer (some ⟨b1, 0, none⟩)] W fun e W' => (∃ v, e = .returned v) ∧
      ((∃ ys, ys = sel (fun _ => true) ws m ∧ J ys W') ∨ (∃ pre, (∃ j, pre = (sel (fun _ => true) ws m).take j) ∧ Jx pre W')) := by
  have hc1 : W.cell? ⟨b1, 0, none⟩ = some (.pointer (some ⟨p, 0, none⟩)) := cell_on hW h1
  have htw := ht.below hW
  have e1 := htw.cell1
  have HT := Lib.hid ht
  have HJ := Lib.hid hJ
  have HY := Lib.hid hY
  have J0 := Lib.hid h0
  have HW := Lib.hid (show KeepL [b1, p, g] w0 W from fun k _ cs t fr hk => blk_below hk hW)
  have HW0 := Lib.hid hW
  have HNW := Lib.hid ht.nw
  obtain ⟨q, hq⟩ : ∃ q, q = ((fun _ => true) : Int → Bool) := ⟨_, rfl⟩
  rw [← hq] at HY ⊢
  have HQ := Lib.hid hq
  clear hW hY hJ h0 htw ht h1 hq HW0
  refine callsIn_of_wp Tryd.func83 rfl trivial ?_ rfl
  simp only [Tryd.ntmps83, List.size_toArray, List.length_cons, List.length_nil, Nat.reduceAdd, Nat.reduceSub, Array.replicate_succ, Array.replicate_zero, List.push_toArray, List.append_toArray, List.nil_append, List.cons_append]
  gi_wp2
  clear e1 hc1
  gi_loopw [10] (fun i wr => ∃ j : Nat, j ≤ m ∧ i = .int .i64 j ∧ Hid (J (sel q ws j) wr) ∧ Hid (KeepL [b1, p, g] w0 wr))
    (fun i _ => m - (intOf i).toNat)
  case atStart => exact ⟨0, Nat.zero_le _, rfl, J0, HW⟩
  case round =>
    clear J0 HW
    obtain ⟨j, hj, rfl, hJs, hbel⟩ := hrel
    by_cases hlt : j < m
    · have hlen : j < ws.length := by rw [← HNW.out]; exact hlt
      have hil : (j : Int) < m := by omega
      obtain ⟨⟨sd, kk, xx⟩, hX⟩ : ∃ X, ws[j]? = some X := ⟨_, List.getElem?_eq_getElem hlen⟩
      have HR := Lib.hid (HT.out.rangeK (hbel.out g (by simp)) hX)
      have HH : Hid (∀ Z : Array Value, Z.size = 3 → Has (wr.alloc (.cells Z 128)) wr.heap.size 128 3) := Lib.hid (fun Z hZ => has_new wr _ _ _ hZ)
      have HX := Lib.hid hX
      clear hX hlen
      cases sd with
      | false =>
        gi_wp2_with (first | (refine wpListIn_load_g wideF rfl 128 (.tmp 13) rfl g (j * 3) rfl [.bool false, .int .i64 kk, .int .i64 xx] _ HR.out Tryd.underlying128 rfl Tryd.size128 ?_) | (refine wpListIn_store_row wideF rfl 128 (.tmp 4) (.tmp 14) rfl wr.heap.size rfl [.bool false, .int .i64 kk, .int .i64 xx] rfl 128 (HH.out _ rfl) Tryd.size128 (by simp [Value.oneCell']) ?_; intro w1 hp1; have L1 : Below wr.heap.size wr w1 := hp1.below ((Below.refl _ _).alloc (Nat.le_refl _) _) (Nat.le_refl _); have d0 := blk_cell hp1.blk 0 _ rfl; have d1 := blk_cell hp1.blk 1 _ rfl; have d2 := blk_cell hp1.blk 2 _ rfl; have B1 := Lib.hid (keepL_t hbel.out (keepL_below L1)); have J1 := Lib.hid (abide_ext HJ.out hJs.out L1); clear hp1 L1))
        refine ⟨(fun _ h => nomatch h), ?_⟩
        gi_wp2
        go_roundw
        case rel => exact ⟨j + 1, by omega, by go_num, Lib.hid (by rw [sel_no (selAt_unsaid HX.out)]; exact J1.out), B1⟩
        case measure => simp [intOf]; omega
      | true =>
        have hqk : q kk = true := by rw [HQ.out]
        have hpl : (sel q ws j).length < (sel q ws m).length := by
          have h3 := (sel_take (q := q) (ws := ws) (show j + 1 ≤ m by omega)).2
          rw [sel_yes HX.out hqk] at h3
          simp at h3
          omega
        have HPL := Lib.hid hpl
        have HQK := Lib.hid hqk
        have HSP : Hid (∃ i, sel q ws j ++ [((j : Int), xx)] = (sel q ws m).take i) := Lib.hid ⟨(sel q ws (j + 1)).length, by
          have h3 := (sel_take (q := q) (ws := ws) (show j + 1 ≤ m by omega)).1
          rw [← sel_yes HX.out hqk]
          exact h3⟩
        clear hpl hqk
        gi_wp2_with (first | (refine wpListIn_load_g wideF rfl 128 (.tmp 13) rfl g (j * 3) rfl [.bool true, .int .i64 kk, .int .i64 xx] _ HR.out Tryd.underlying128 rfl Tryd.size128 ?_) | (refine wpListIn_store_row wideF rfl 128 (.tmp 4) (.tmp 14) rfl wr.heap.size rfl [.bool true, .int .i64 kk, .int .i64 xx] rfl 128 (HH.out _ rfl) Tryd.size128 (by simp [Value.oneCell']) ?_; intro w1 hp1; have L1 : Below wr.heap.size wr w1 := hp1.below ((Below.refl _ _).alloc (Nat.le_refl _) _) (Nat.le_refl _); have d0 := blk_cell hp1.blk 0 _ rfl; have d1 := blk_cell hp1.blk 1 _ rfl; have d2 := blk_cell hp1.blk 2 _ rfl; have B1 := Lib.hid (keepL_t hbel.out (keepL_below L1)); have J1 := Lib.hid (abide_ext HJ.out hJs.out L1); obtain ⟨fn, tmps, assign, body, hy, hR⟩ := HY.out _ ((j : Int), xx) w1 J1.out HPL.out HSP.out; have HRR := Lib.hid hR; dsimp only at hy; clear hp1 L1 hR))
        refine HRR.out.mono ?_
        rintro e W3 (⟨rfl, hJ3, hk3⟩ | ⟨rfl, hJx3⟩)
        · have B3 := Lib.hid (keepL_t B1.out hk3)
          have J3 := Lib.hid hJ3
          clear hJ3 hk3 HRR hy
          gi_wp2
          go_roundw
          case rel => exact ⟨j + 1, by omega, by go_num, Lib.hid (by rw [sel_yes HX.out HQK.out]; exact J3.out), B3⟩
          case measure => simp [intOf]; omega
        · clear HRR hy
          gi_wp2
          refine bodyPost_ret (results_none rfl _ _ _) rfl ?_
          refine ⟨⟨_, rfl⟩, .inr ⟨_, ⟨(sel q ws j).length + 1, ?_⟩, hJx3⟩⟩
          have h3 := (sel_take (q := q) (ws := ws) (show j + 1 ≤ m by omega)).1
          rw [sel_yes HX.out HQK.out] at h3
          simpa using h3
    · obtain rfl : j = m := by omega
      gi_wp2
      go_end0
      exact ⟨⟨_, rfl⟩, .inl ⟨_, rfl, hJs.out⟩⟩

theorem alltP_stops (n : Nat) (hn : 1 ≤ n) (b1 base p g : Nat) (A : Option Addr) (m c cw : Nat) (vs : List Va) (ws : List (Wd Int)) (w0 : World) (h1 : w0.cell? ⟨b1, 0, none⟩ = some (.pointer (some ⟨p, 0, none⟩))) (ht : TalAt 126 128 (Value.int .i64) base p g A m c cw vs ws w0) (hz : m ≤ 1000) :
    SeqP n Tryd.prog 83 #[.pointer (some ⟨b1, 0, none⟩)] (fun x : Int × Int => #[Value.int .i64 x.1, .int .i64 x.2]) (fun _ _ => True) (KeepL [b1, p, g]) (fun ys => ys = sel (fun _ => true) ws m) (fun pre => ∃ j, pre = (sel (fun _ => true) ws m).take j) (sel (fun _ => true) ws m).length w0 :=
  fun l J Jx W hW hJ _ hY h0 => alltP_in n hn l b1 base p g A m c cw vs ws w0 W J Jx hW hJ (fun pre x W1 h1 h2 h3 => hY pre x W1 h1 trivial h2 h3) h1 ht hz h0

theorem wpIn_rangeFuncPA {n : Nat} {P : Program} {α : Type} {g : Operand} {ps : Array Tmp} {assign body : Code} {Q : Exit → Act → World → Prop} {a : Act} {w : World}
    {gf : Nat} {lb : Array Value} (hg : a.eval g = .func (.func gf) #[] lb) (eg : ∀ args w, (callFunc gf args).run P w = .ok (.enter gf args) w)
    {encs : α → Array Value} {Fact : α → World → Prop} {Kp : World → World → Prop} {S Sp : List α → Prop} {N : Nat} {w0 : World} (hseq : SeqP (n - 1) P gf lb encs Fact Kp S Sp N w0)
    (hF : ∀ (x : α) (W : World) (l : Nat) (o o' : Obj), W.heap[l]? = some o → o.isCells = false → Fact x W → Fact x (W.putObj l o'))
    (hKt : ∀ {A B C : World}, Kp A B → Kp B C → Kp A C) (hKb : ∀ (W : World) (l : Nat) (o o' : Obj), w.heap.size ≤ l → W.heap[l]? = some o → o.isCells = false → o.isWalk = false → Kp W (W.putObj l o')) (hb0 : Below w0.heap.size w0 w) (hps : ∀ x, (encs x).size = ps.size)
    (I : List α → World → Prop) (Ix : Code → List α → World → Prop) (hI : OwnFrom w.heap.size I) (hIx : ∀ c, OwnFrom w.heap.size (Ix c)) (h0 : I [] w) (A1 : Act → α → Act)
    (hassign : ∀ (l : Nat) (x : α) (W : World) (K : Act → World → Prop), K (A1 a x) W →
      assign.wpIn (Fence.wide.inRound l) (n - 1 - 1) P (Exit.then K (fun _ _ _ => False)) { tmps := (ps.zip (encs x)).foldl (fun t (p, v) => t.setIfInBounds p v) a.tmps, defers := [] } W)
    (hbody : ∀ (l : Nat) (pre : List α) (x : α) (W : World), I pre W → Fact x W → pre.length < N → Sp (pre ++ [x]) → body.wpIn (Fence.wide.inRound l) (n - 1 - 1) P (ownPostG w.heap.size Kp I Ix (pre ++ [x]) W) (A1 a x) W)
    (hdone : ∀ (D : Nat) (xs : List α) (W : World), w.heap.size ≤ D → S xs → I xs W → W.heap[D]? = some (.deferred (some [])) → Q .normal { a with defers := { target := .collected D, args := #[] } :: a.defers } W)
    (hstop : ∀ (D : Nat) (c : Code) (pre : List α) (W : World), w.heap.size ≤ D → Sp pre → Ix c pre W → W.heap[D]? = some (.deferred (some [])) → c.wpIn Fence.wide n P Q { a with defers := { target := .collected D, args := #[] } :: a.defers } W) :
    (Code.rangeFunc g ps assign body).wpIn Fence.wide n P Q a w :=
  wpIn_rangeFuncP hg eg hseq hF hKt hKb hb0 hps I Ix hI hIx h0 (A1 a) hassign hbody hdone hstop
end Go.Proofs.YtideopnblhbngaaDoor
