/- Lemmas that laws of this seat rest on, part 13; each says its own conditions: Levels, Root, Path. -/
import Derived.Deep.QuietTactic
import Derived.BigQuiet
import Derived.Test.YtdedphhohiioiaaDoorBase8
import Derived.Test.YtdedphhohiioiaaDoorBase12
/- The levels of a tree of digests. -/
namespace Go.Proofs.YtdedphhohiioiaaDoor
open Go.RowKit Go.Shelf
attribute [local go_sem] Oper.semAt_some

theorem up_good : ∀ (ds : List (List Int)), ∀ d ∈ up joinC ds, d.length = 16 ∧ u8s_ok d
  | a :: b :: r, d, hd => by
    simp only [up, List.mem_cons] at hd
    rcases hd with rfl | hd
    · exact join_good a b
    · exact up_good r d hd
  | [], d, hd => by simp [up] at hd
  | [a], d, hd => by simp [up] at hd
theorem lev_good (ds : List (List Int)) (h : ∀ d ∈ ds, d.length = 16 ∧ u8s_ok d) : ∀ j, ∀ d ∈ lev joinC ds j, d.length = 16 ∧ u8s_ok d
  | 0 => h
  | j + 1 => up_good _
/-- Where the levels stand: j of them are handed out, v is the next one. -/
structure LvI (L : List Nat) (ga sz : Nat) (ds : List (List Int)) (J : List (Value × List (List Int)) → World → Prop) (j : Nat) (v : Value) (pre : List (Value × List (List Int))) (Ds : List Nat) (wr : World) : Prop where
  lenp : pre.length = j
  pres : pre.map (·.2) = (List.range j).map (lev joinC ds)
  inv : J pre wr
  dg : Dgs wr v (lev joinC ds j)
  apart : ∀ k, v.ownBlock = some k → k ∉ L ∧ rowOf ga wr ≠ some k
  rb : ga < wr.heap.size ∧ ∀ b, rowOf ga wr = some b → b < wr.heap.size
  nd : Ds.Nodup
  mks : ∀ D ∈ Ds, sz ≤ D ∧ wr.heap[D]? = some (.deferred (some []))
  size : sz ≤ wr.heap.size
  k18 : wr.rangeAt 18 0 (u32s kk)
  n18 : 18 ∉ L ∧ rowOf ga wr ≠ some 18
/-- What the loop over the twos holds. -/
structure AbI (w3 : World) (es : List (List Int)) (m : Nat) (W : World) : Prop where
  box : ∃ v, Boxed W w3.heap.size 55 v ∧ W.ownsRow (w3.heap.size + 3) 43 16 v m (dcells (es.take m))
  bel : Below w3.heap.size w3 W
  big : w3.heap.size + 3 ≤ W.heap.size
theorem AbI.go {w3 W W' : World} {es : List (List Int)} {m : Nat} (h : AbI w3 es m W) (hb : Below W.heap.size W W') : AbI w3 es m W' := by
  obtain ⟨v, h1, h2⟩ := h.box
  exact ⟨⟨v, blk_below h1 hb, own_bel h2 hb⟩, h.bel.trans (hb.mono h.bel.size), Nat.le_trans h.big hb.size⟩
theorem AbI.own {w3 : World} {es : List (List Int)} {B : Nat} (hB : w3.heap.size ≤ B) : OwnFrom B (fun (pre : List Nat) W => AbI w3 es pre.length W) := by
  intro s X Y row hs hg hr
  have hr' := fun k e => (hr k e).2
  obtain ⟨v, h1, h2⟩ := hs.box
  exact ⟨⟨v, boxed_kept' h1 hg hr', own_kept' h2 hg hr'⟩, hs.bel.grown hg hs.bel.size fun k e => by have := (hr k e).1; omega, Nat.le_trans hs.big hg.size⟩
theorem take_at (es : List (List Int)) (m : Nat) (h : m < es.length) : es.take (m + 1) = es.take m ++ [es.getD m []] := by
  rw [List.take_succ_eq_append_getElem h, List.getD_eq_getElem?_getD, List.getElem?_eq_getElem h]
  rfl
theorem info43' : ∃ i, Tryd.prog.info? 43 = some i ∧ i.zero = some (.agg (Array.replicate 16 (.int .u8 0))) ∧ i.size = 16 ∧ i.bytes = 16 := by
  obtain ⟨i, h1, h2⟩ := Option.map_eq_some_iff.1 Tryd.info43
  simp only [Prod.mk.injEq] at h2
  exact ⟨i, h1, h2.1, h2.2.1, h2.2.2⟩

theorem wpIn_rangeFuncPA {n : Nat} {P : Program} {α : Type} {g : Operand} {ps : Array Tmp} {assign body : Code} {Q : Exit → Act → World → Prop} {a : Act} {w : World}
    {gf : Nat} {lb : Array Value} (hg : a.eval g = .func (.func gf) #[] lb) (eg : ∀ args w, (callFunc gf args).run P w = .ok (.enter gf args) w)
    {encs : α → Array Value} {Fact : α → World → Prop} {Kp : World → World → Prop} {S Sp : List α → Prop} {N : Nat} {w0 : World} (hseq : SeqP (n - 1) P gf lb encs Fact Kp S Sp N w0)
    (hF : ∀ (x : α) (W : World) (l : Nat) (o o' : Obj), W.heap[l]? = some o → o.isCells = false → Fact x W → Fact x (W.putObj l o'))
    (hKt : ∀ {A B C : World}, Kp A B → Kp B C → Kp A C) (hKb : ∀ (W : World) (l : Nat) (o o' : Obj), w.heap.size ≤ l → W.heap[l]? = some o → o.isCells = false → o.isWalk = false → Kp W (W.putObj l o')) (hb0 : Below w0.heap.size w0 w) (hps : ∀ x, (encs x).size = ps.size)
    (I : List α → World → Prop) (Ix : Code → List α → World → Prop) (hI : OwnFrom w.heap.size I) (hIx : ∀ c, OwnFrom w.heap.size (Ix c)) (h0 : I [] w) (A1 : Act → α → Act)
    (hassign : ∀ (l : Nat) (x : α) (W : World) (K : Act → World → Prop), K (A1 a x) W →
      assign.wpIn (Fence.wide.inRound l) (n - 1 - 1) P (Exit.then K (fun _ _ _ => False)) { tmps := (ps.zip (encs x)).foldl (fun t (p, v) => t.setIfInBounds p v) a.tmps, defers := [] } W)
    (hbody : ∀ (l : Nat) (pre : List α) (x : α) (W : World), I pre W → Fact x W → pre.length < N → Sp (pre ++ [x]) → body.wpIn (Fence.wide.inRound l) (n - 1 - 1) P (ownPostG w.heap.size Kp I Ix (pre ++ [x]) W) (A1 a x) W)
    (hdone : ∀ (D : Nat) (xs : List α) (W : World), w.heap.size ≤ D → S xs → I xs W → W.heap[D]? = some (.deferred (some [])) → Q .normal { a with defers := { target := .collected D, args := #[] } :: a.defers } W)
    (hstop : ∀ (D : Nat) (c : Code) (pre : List α) (W : World), w.heap.size ≤ D → Sp pre → Ix c pre W → W.heap[D]? = some (.deferred (some [])) → c.wpIn Fence.wide n P Q { a with defers := { target := .collected D, args := #[] } :: a.defers } W) :
    (Code.rangeFunc g ps assign body).wpIn Fence.wide n P Q a w :=
  wpIn_rangeFuncP hg eg hseq hF hKt hKb hb0 hps I Ix hI hIx h0 (A1 a) hassign hbody hdone hstop
theorem cell_obj {w : World} {b off : Nat} {v : Value} (h : w.cell? ⟨b, off, none⟩ = some v) : ∃ o, w.heap[b]? = some o ∧ o.isCells = true := by
  unfold World.cell? at h
  cases hx : w.heap[b]? with
  | none => rw [hx] at h; simp at h
  | some o =>
    rw [hx] at h
    cases o with
    | cells cs t fr => exact ⟨_, rfl, rfl⟩
    | _ => simp at h
theorem range_kpr {L : List Nat} {ga b off : Nat} {cs : List Value} {w w' : World} (h : w.rangeAt b off cs) (hk : KpR L ga w w') (h1 : b ∉ L) (h2 : rowOf ga w ≠ some b) : w'.rangeAt b off cs := fun j u hu => by
  have hc := h j u hu
  obtain ⟨o, ho, hoc⟩ := cell_obj hc
  rw [World.cell?_of_block (a := ⟨b, off + j, none⟩) ((hk.same b o ho hoc h1 h2).trans ho.symm)]
  exact hc
theorem boxed_app' {W w1 : World} {n₀ nb B : Nat} {t e : TypeId} {size : Nat} {v v' : Value} {k m : Nat} {xs ys : List Value}
    (hv : Boxed W B t v) (hte : t ≠ e) (hrow : W.ownsRow nb e size v k xs) (hnb : nb ≤ W.heap.size) (hB : n₀ ≤ B) (h0 : n₀ ≤ nb)
    (hown' : w1.ownsRow nb e size v' m ys) (hgrow : W.grownBy w1 v.ownBlock) :
    Boxed w1 B t v ∧ Boxed (w1.setCell ⟨B, 0, none⟩ v') B t v' ∧ (w1.setCell ⟨B, 0, none⟩ v').ownsRow nb e size v' m ys ∧ KeepsOthers W (w1.setCell ⟨B, 0, none⟩ v') ∧ Below n₀ W (w1.setCell ⟨B, 0, none⟩ v') ∧
      ∀ (j : Nat) (o : Obj), j ≠ B → j < nb → W.heap[j]? = some o → (w1.setCell ⟨B, 0, none⟩ v').heap[j]? = some o := by
  have hv1 : Boxed w1 B t v := hv.kept hgrow (hv.not_row hte hrow)
  refine ⟨hv1, hv1.set v', hown'.kept (grownBy_setCell' w1 B v') (.inr (hv1.not_row hte hown').symm), ?_, ?_, ?_⟩
  · refine (KeepsOthers.of_grownBy hgrow fun j o ej hj => ?_).trans (KeepsOthers.setCell _ _ _)
    rcases hrow.2 with ⟨rfl, _⟩ | ⟨g, cap, cur, rfl, _, hgb, _⟩
    · simp [Value.ownBlock] at ej
    · obtain rfl : g = j := by simpa [Value.ownBlock] using ej
      rw [hgb] at hj; cases hj; rfl
  · refine ((Below.refl n₀ W).grown hgrow (Nat.le_trans h0 hnb) fun j ej => ?_).setCell (p := ⟨B, 0, none⟩) hB v'
    exact Nat.le_trans h0 (hrow.lt j ej).1
  · intro j o hne hlt hj
    refine (heap_setCell_other w1 ⟨B, 0, none⟩ j v' hne).trans ((hgrow.block j (blk_lt hj) fun e => ?_).trans hj)
    have := (hrow.lt j e.symm).1
    omega
theorem slice_form {w : World} {v : Value} {ds : List (List Int)} (h : Dgs w v ds) (hne : ds ≠ []) : ∃ b off c, v = .slice (some ⟨b, off, none⟩) ds.length c ∧ ds.length ≤ c ∧ b < w.heap.size ∧ ∀ i, i < ds.length → w.rangeAt b (off + i * 16) (u8s (ds.getD i [])) := by
  obtain ⟨b, off, c, e, h1, _, h3, h4⟩ := h.cells hne
  exact ⟨b, off, c, e, h1, h3, h4⟩
theorem lev32_len (ds : List (List Int)) (h : ds.length = 32) (j : Nat) (hj : j ≤ 5) : (lev joinC ds j).length = 2 ^ (5 - j) := lev_len joinC ds 5 (by rw [h]) j hj
def lenOf (v : Value) : Nat := match v with | .slice _ n _ => n | _ => 0

set_option maxHeartbeats 16000000 in
set_option maxRecDepth 100000 in
theorem levels_in (L : List Nat) (ga n : Nat) (hn : 2 ≤ n) (l bL : Nat) (v0 : Value) (ds : List (List Int)) (w0 W : World) (J Jx : List (Value × List (List Int)) → World → Prop)
    (hW : Below w0.heap.size w0 W) (hJ : OwnFrom W.heap.size J) (hJx : OwnFrom W.heap.size Jx)
    (hY : ∀ pre x W1, J pre W1 → Dgs W1 x.1 x.2 → pre.length < 6 → (pre ++ [x]).map (·.2) = (List.range (pre.length + 1)).map (lev joinC ds) → YieldAt Fence.wide (n - 1) Tryd.prog l #[x.1] W1 fun e W' =>
      (e = .returned (.bool true) ∧ J (pre ++ [x]) W' ∧ KpR L ga W1 W') ∨ (e = .returned (.bool false) ∧ Jx (pre ++ [x]) W' ∧ Dfr W.heap.size W1 W'))
    (hL : w0.cell? ⟨bL, 0, none⟩ = some v0) (hd : Dgs w0 v0 ds) (hds : ds.length = 32) (hLw : ∀ k ∈ L, k < w0.heap.size) (hap : ∀ k, v0.ownBlock = some k → k ∉ L ∧ rowOf ga w0 ≠ some k) (hrb : ga < w0.heap.size ∧ ∀ b, rowOf ga w0 = some b → b < w0.heap.size)
    (hk : w0.rangeAt 18 0 (u32s kk)) (h18 : 18 < w0.heap.size) (hK18 : 18 ∉ L ∧ rowOf ga w0 ≠ some 18) (h0 : J [] W) :
    CallsIn Fence.wide n Tryd.prog 91 #[.func (.yield l) #[] #[], .pointer (some ⟨bL, 0, none⟩)] W fun e W' => (∃ v, e = .returned v) ∧
      ((∃ xs : List (Value × List (List Int)), xs.map (·.2) = (List.range 6).map (lev joinC ds) ∧ J xs W') ∨ (∃ pre : List (Value × List (List Int)), pre.map (·.2) = (List.range pre.length).map (lev joinC ds) ∧ Jx pre W')) := by
  have hi43 : ∀ V : List Int, V.length = 16 → (Tryd.prog.info? 43).map (·.size) = some (u8s V).length := fun V h => by rw [u8s_len', h]; exact Tryd.size43
  have hn1 : 1 ≤ n := by omega
  obtain ⟨i43, hi43', hz0, hz1, hz2⟩ := info43'
  have hcell : W.cell? ⟨bL, 0, none⟩ = some v0 := cell_on hW hL
  have hlw : ∀ k ∈ L, k < W.heap.size := fun k hk => Nat.lt_of_lt_of_le (hLw k hk) hW.size
  have I0 : LvI L ga W.heap.size ds J 0 v0 [] [] W := ⟨rfl, rfl, h0, hd.below hW, fun k hk => ⟨(hap k hk).1, by rw [rowOf_below hrb.1 hW]; exact (hap k hk).2⟩, ⟨Nat.lt_of_lt_of_le hrb.1 hW.size, fun b hb => Nat.lt_of_lt_of_le (hrb.2 b (by rw [rowOf_below hrb.1 hW] at hb; exact hb)) hW.size⟩, by simp, fun D hD => by simp at hD, Nat.le_refl _, range_below hk hW, ⟨hK18.1, by rw [rowOf_below hrb.1 hW]; exact hK18.2⟩⟩
  have HI0 := Lib.hid I0
  have HJ := Lib.hid hJ
  have HJX := Lib.hid hJx
  have HY := Lib.hid hY
  have HLW := Lib.hid hlw
  have HDS := Lib.hid hds
  have GDS := hd.good
  have h18W : 18 < W.heap.size := Nat.lt_of_lt_of_le h18 hW.size
  clear hW hJ hY hL hd h0 hLw hap hrb hk hK18 I0 hlw hds hJx
  refine callsIn_of_wp_marks Tryd.func91 rfl trivial ?_ rfl
  simp only [Tryd.ntmps91, List.size_toArray, List.length_cons, List.length_nil, Nat.reduceAdd, Nat.reduceSub, Array.replicate_succ, Array.replicate_zero, List.push_toArray, List.append_toArray, List.nil_append, List.cons_append]
  gi_wp2
  clear hcell
  refine wpIn_loop (fun a wr => ∃ (j : Nat) (v : Value) (pre : List (Value × List (List Int))) (Ds : List Nat) (x2 x4 x5 x6 x7 x8 x9 x10 x11 x12 x13 x14 x15 x16 x17 x18 x19 x20 x21 x22 x23 x24 x25 x26 x27 x28 : Value), j ≤ 5 ∧ a = { tmps := #[.func (.yield l) #[] #[], .pointer (some ⟨bL, 0, none⟩), x2, v, x4, x5, x6, x7, x8, x9, x10, x11, x12, x13, x14, x15, x16, x17, x18, x19, x20, x21, x22, x23, x24, x25, x26, x27, x28], defers := Ds.map mark } ∧ Hid (LvI L ga W.heap.size ds J j v pre Ds wr)) (fun a _ => lenOf (a.tmps.getD 3 undef)) ?h0 ?round
  case h0 => exact ⟨0, v0, [], [], _, _, _, _, _, _, _, _, _, _, _, _, _, _, _, _, _, _, _, _, _, _, _, _, _, _, by omega, rfl, HI0⟩
  case round =>
    clear HI0
    rintro a wr ⟨j, v, pre, Ds, x2, x4, x5, x6, x7, x8, x9, x10, x11, x12, x13, x14, x15, x16, x17, x18, x19, x20, x21, x22, x23, x24, x25, x26, x27, x28, hj, rfl, hinv⟩
    have hlen := lev32_len ds HDS.out j hj
    have hne : lev joinC ds j ≠ [] := by
      intro e
      rw [e] at hlen
      have := Nat.two_pow_pos (5 - j)
      simp at hlen
      omega
    have hpres : (pre ++ [(v, lev joinC ds j)]).map (·.2) = (List.range (pre.length + 1)).map (lev joinC ds) := by rw [List.map_append, hinv.out.pres, hinv.out.lenp, List.range_succ, List.map_append]; rfl
    obtain ⟨fn, tmps, assign, body, hy, hRR⟩ := HY.out pre (v, lev joinC ds j) wr hinv.out.inv hinv.out.dg (by rw [hinv.out.lenp]; omega) hpres
    have HRR := Lib.hid hRR
    dsimp only at hy
    obtain ⟨b, off, c, hve, hvc, hvb, hvrow⟩ := slice_form hinv.out.dg hne
    have HPR := Lib.hid hpres
    have hl0 : 1 ≤ (lev joinC ds j).length := List.length_pos_iff.2 hne
    obtain ⟨ln, hln⟩ : ∃ m, m = (lev joinC ds j).length := ⟨_, rfl⟩
    rw [← hln] at hve hvc hlen hl0
    subst hve
    have HLN := Lib.hid hln
    have HLEN := Lib.hid hlen
    clear hRR hpres hvrow hln hlen
    have hln32 : ln ≤ 32 := by
      have := HLEN.out
      have h5 : 2 ^ (5 - j) ≤ 2 ^ 5 := Nat.pow_le_pow_right (by omega) (by omega)
      omega
    gi_wp2_with fail
    refine HRR.out.mono ?_
    clear HRR hy
    rintro e w3 (⟨rfl, hJ3, hk3⟩ | ⟨rfl, hJx3, hdf3⟩)
    · have hnk : b ∉ L ∧ rowOf ga wr ≠ some b := hinv.out.apart b rfl
      obtain ⟨kb, ob, hkb, hob, hoc⟩ := hinv.out.dg.blk hne
      obtain rfl : b = kb := by simpa [Value.ownBlock] using hkb
      have hb3 : w3.heap[b]? = some ob := hk3.same b ob hob hoc hnk.1 hnk.2
      have D3 := Lib.hid (hinv.out.dg.same (w' := w3) (fun k hk => by
        obtain rfl : b = k := by simpa [Value.ownBlock] using hk
        exact hb3.trans hob.symm))
      have R3 : Hid (ga < w3.heap.size ∧ ∀ b, rowOf ga w3 = some b → b < w3.heap.size) := Lib.hid ⟨Nat.lt_of_lt_of_le hinv.out.rb.1 hk3.size, hk3.lt hinv.out.rb.2⟩
      have M3 : Hid (∀ D ∈ Ds, W.heap.size ≤ D ∧ w3.heap[D]? = some (.deferred (some []))) := Lib.hid fun D hD => ⟨(hinv.out.mks D hD).1, hk3.dfr D _ (hinv.out.mks D hD).2⟩
      have S3 : W.heap.size ≤ w3.heap.size := Nat.le_trans hinv.out.size hk3.size
      have K3 : Hid (w3.rangeAt 18 0 (u32s kk)) := Lib.hid (range_kpr hinv.out.k18 hk3 hinv.out.n18.1 hinv.out.n18.2)
      have N3 : Hid (18 ∉ L ∧ rowOf ga w3 ≠ some 18) := Lib.hid ⟨hinv.out.n18.1, fun e => by
        rcases hk3.row 18 e with h | h
        · exact hinv.out.n18.2 h
        · have := hinv.out.size; omega⟩
      have J3 := Lib.hid hJ3
      have ND := Lib.hid hinv.out.nd
      have PL := Lib.hid hinv.out.lenp
      clear hJ3 hk3 hnk hkb hob hoc hb3 hvb hinv
      by_cases hj5 : j = 5
      · subst hj5
        have hl1 : ln = 1 := HLEN.out
        subst hl1
        gi_wp2
        refine leaves_marks (fun X => J (pre ++ [(.slice (some ⟨b, off, none⟩) 1 c, lev joinC ds 5)]) X) W.heap.size Ds w3 ND.out M3.out (fun X D hB hD hX => HJ.out.putObj _ hX hB hD rfl) J3.out fun X hX => ?_
        exact ⟨_, results_none rfl _ _ _, ⟨_, rfl⟩, .inl ⟨_, by rw [HPR.out, PL.out], hX⟩⟩
      · have hlt5 : j < 5 := by omega
        obtain ⟨h, hh⟩ : ∃ h, ln = 2 * h := by
          have := HLEN.out
          rw [show 5 - j = (4 - j) + 1 by omega, Nat.pow_succ] at this
          exact ⟨2 ^ (4 - j), by omega⟩
        subst hh
        have hh1 : 1 ≤ h := by omega
        have hgt : (1 : Int) < ((2 * h : Nat) : Int) := by omega
        have h183 : 18 < w3.heap.size := by omega
        obtain ⟨es, hes⟩ : ∃ es, es = lev joinC ds (j + 1) := ⟨_, rfl⟩
        have hesl : es.length = h := by
          rw [hes]
          exact up_len joinC _ _ (by rw [← HLN.out])
        have hup : ∀ m, m < h → es.getD m [] = joinC ((lev joinC ds j).getD (2 * m) []) ((lev joinC ds j).getD (2 * m + 1) []) := fun m hm => by
          rw [hes]
          exact up_at joinC [] _ m (by rw [← HLN.out]; omega)
        have hgood : ∀ m, m < 2 * h → ((lev joinC ds j).getD m []).length = 16 ∧ u8s_ok ((lev joinC ds j).getD m []) := fun m hm => D3.out.at m (by rw [← HLN.out]; exact hm)
        obtain ⟨_, _, _, hve', _, hvb3, hrow3⟩ := slice_form D3.out hne
        simp only [Value.slice.injEq, Option.some.injEq, Addr.mk.injEq] at hve'
        obtain ⟨⟨rfl, rfl, -⟩, -, rfl⟩ := hve'
        rw [← HLN.out] at hrow3
        have HES := Lib.hid hes
        have HESL := Lib.hid hesl
        have HUP := Lib.hid hup
        have HGD := Lib.hid hgood
        have HROW := Lib.hid hrow3
        clear hes hesl hup hgood hrow3
        gi_wp2_with (refine ⟨trivial, ?_⟩; gi_at_call 92; refine (callsIn_wide.2 (chunk_any _ _ _ _)).mono ?_; rintro _ wa ⟨rfl, rfl⟩)
        obtain ⟨w4, hw4⟩ : ∃ x, x = ((w3.alloc (.cells #[.slice none 0 0] 55)).alloc (.cells #[.slice (some ⟨b, off, none⟩) (2 * h) c] 55)).alloc (.cells #[.int .i64 2] 3) := ⟨_, rfl⟩
        have z4 : w4.heap.size = w3.heap.size + 3 := by rw [hw4]; simp
        have b34 : Below w3.heap.size w3 w4 := by rw [hw4]; exact (((Below.refl _ _).alloc (Nat.le_refl _) _).alloc (by simp) _).alloc (by simp; omega) _
        have xa : Boxed w4 w3.heap.size 55 (.slice none 0 0) := by rw [hw4]; exact ((Boxed.new w3 55 _).alloc _).alloc _
        have xc : Boxed w4 (w3.heap.size + 1) 55 (.slice (some ⟨b, off, none⟩) (2 * h) c) := by
          rw [hw4]
          have := (Boxed.new (w3.alloc (.cells #[.slice none 0 0] 55)) 55 (.slice (some ⟨b, off, none⟩) (2 * h) c)).alloc (.cells #[.int .i64 2] 3)
          rwa [World.size_alloc] at this
        have xk : Boxed w4 (w3.heap.size + 2) 3 (.int .i64 2) := by
          rw [hw4]
          have := Boxed.new ((w3.alloc (.cells #[.slice none 0 0] 55)).alloc (.cells #[.slice (some ⟨b, off, none⟩) (2 * h) c] 55)) 3 (.int .i64 2)
          rwa [World.size_alloc, World.size_alloc] at this
        have A0 : AbI w3 es ([] : List Nat).length w4 := ⟨⟨_, xa, World.ownsRow_nil _ _ _ _⟩, b34, by omega⟩
        have HA0 := Lib.hid A0
        have XC := Lib.hid xc
        have XK := Lib.hid xk
        try change Code.wpIn _ _ _ _ _ _ (((w3.alloc (.cells #[.slice none 0 0] 55)).alloc (.cells #[.slice (some ⟨b, off, none⟩) (2 * h) c] 55)).alloc (.cells #[.int .i64 2] 3))
        rw [← hw4]
        clear hw4 xa xc xk A0
        refine wpIn_rangeFuncPA (n := n) (P := Tryd.prog) (w0 := w4) (Kp := KeepB [w3.heap.size + 1, w3.heap.size + 2]) (Fact := fun _ _ => True) (S := fun ys => ys = List.range h) (encs := fun x : Nat => #[twoV b off x]) (ps := #[17]) (gf := 95) (lb := #[.pointer (some ⟨w3.heap.size + 1, 0, none⟩), .pointer (some ⟨w3.heap.size + 2, 0, none⟩)]) rfl (enters_of Tryd.func95 (by kernel_rfl) rfl)
          (chunk_stops (n - 1) (by omega) (w3.heap.size + 1) (w3.heap.size + 2) b off c h w4 XC.out XK.out hvc (by omega)) (fun _ _ _ _ _ _ _ _ => trivial) keepB_t (fun X k o o' _ hk ho _ => keepB_b X k o o' hk ho) (Below.refl _ _) (fun _ => rfl)
          (fun p X => AbI w3 es p.length X) (fun _ _ _ => False) (AbI.own (by omega)) (fun _ _ _ _ _ hh _ _ => hh) HA0.out
          (fun a x => { tmps := (a.tmps.setIfInBounds 17 (twoV b off x)).setIfInBounds 5 (twoV b off x), defers := [] }) ?assign ?body ?done ?stop
        case stop =>
          rintro D cc p X _ _ hh _
          exact hh.elim
        case assign =>
          intro lr x X K hK
          gi_wp2
          simpa using hK
        case body =>
          rintro lr p x U hI _ hlt hsp
          obtain ⟨m, hm⟩ : ∃ m, m = p.length := ⟨_, rfl⟩
          have hxm : x = m := by
            have h1 : (p ++ [x]).length = p.length + 1 := by simp
            have h2 := congrArg (fun q => q[p.length]?) hsp
            simp only [h1] at h2
            rw [List.getElem?_append_right (Nat.le_refl _), List.getElem?_range (by omega)] at h2
            simpa [hm] using h2
          subst hxm
          rw [← hm] at hI hlt
          have HM := Lib.hid hm
          obtain ⟨vo, hbx, hrow⟩ := hI.box
          obtain ⟨Ao, co, rfl⟩ := own_form hrow
          have bel := hI.bel
          have rda := range_below (HROW.out (2 * x) (by omega)) bel
          have rdb := range_below (HROW.out (2 * x + 1) (by omega)) bel
          have hja := HUP.out x hlt
          have hga := HGD.out (2 * x) (by omega)
          have hgb := HGD.out (2 * x + 1) (by omega)
          have htk := take_at es x (by rw [HESL.out]; exact hlt)
          rw [show off + (2 * x + 1) * 16 = off + 2 * x * 16 + 16 by omega] at rdb
          obtain ⟨DA, hDA⟩ : ∃ d, d = (lev joinC ds j).getD (2 * x) [] := ⟨_, rfl⟩
          obtain ⟨DB, hDB⟩ : ∃ d, d = (lev joinC ds j).getD (2 * x + 1) [] := ⟨_, rfl⟩
          obtain ⟨JJ, hJJ⟩ : ∃ d, d = es.getD x [] := ⟨_, rfl⟩
          rw [← hDA] at rda hga hja
          rw [← hDB] at rdb hgb hja
          rw [← hJJ] at hja htk
          have CA := Lib.hid hbx.cell
          have HBX := Lib.hid hbx
          have HRW := Lib.hid hrow
          have HIU := Lib.hid hI
          have RDA := Lib.hid rda
          have RDB := Lib.hid rdb
          have GA := Lib.hid hga
          have GB := Lib.hid hgb
          have GJ : Hid (JJ.length = 16) := Lib.hid (by rw [hja]; exact (join_good _ _).1)
          have HJJ := Lib.hid hja
          have HTK := Lib.hid htk
          have HK3 := Lib.hid K3.out
          have BW := Lib.hid bel
          clear hbx hrow hI rda rdb hga hgb hja htk hDA hDB hJJ hm hsp bel
          dsimp only
          simp only [List.setIfInBounds_toArray, List.set_cons_succ, List.set_cons_zero, twoV]
          gi_wp2_with fail
          refine wpIn_region_rely5 (roundF lr) ?hq (by kernel_rfl) (by kernel_rfl) 9 (by kernel_rfl) (by kernel_rfl) Ext Ext.refl Ext.trans (fun ix => match ix with
            | 0 => fun _ v => v = .slice Ao x co
            | 1 => fun _ v => v = .slice (some ⟨b, off + 2 * x * 16, none⟩) 2 2
            | 2 => fun _ v => v = .pointer (some ⟨b, off + 2 * x * 16, none⟩)
            | 3 => fun _ v => v = .agg (u8s DA).toArray
            | 4 => fun _ v => v = .slice (some ⟨b, off + 2 * x * 16, none⟩) 2 2
            | 5 => fun _ v => v = .pointer (some ⟨b, off + 2 * x * 16 + 16, none⟩)
            | 6 => fun _ v => v = .agg (u8s DB).toArray
            | 7 => fun _ v => v = .agg (u8s JJ).toArray
            | 8 => fun W v => ∃ g8, v = .slice (some ⟨g8, 0, none⟩) 1 1 ∧ W.rangeAt g8 0 (u8s JJ)
            | _ => fun _ _ => False) ?_
          case hq => (rintro ⟨_, _, h⟩; exact h.elim)
          simp (maxSteps := 10000000) only [Rely, List.take_succ_cons, List.take_zero, List.drop_succ_cons, List.drop_zero, Nat.reduceAdd, Nat.zero_add, Act.put, List.setIfInBounds_toArray, List.set_cons_succ, List.set_cons_zero]
          refine ⟨?_, ?_, ?_, ?_, ?_, ?_, ?_, ?_, ?_, ?_⟩
          · refine step_plain rfl fun vs wq hE hd => ?_
            have hc := cell_on (bel_drew1 hE) CA.out
            exact gives_loadAt 55 _ rfl (.pointer (some ⟨w3.heap.size, 0, none⟩)) (.slice Ao x co) rfl (by go_simp) ⟨Ext.refl _, fun _ _ => rfl⟩
          · refine step_plain rfl fun vs wq hE hd => ?_
            exact gives_move _ (.slice (some ⟨b, off + 2 * x * 16, none⟩) 2 2) (.inl rfl) rfl ⟨Ext.refl _, fun _ _ => rfl⟩
          · refine step_plain rfl fun vs wq hE hd => ?_
            exact gives_indexAt 55 _ _ rfl (.slice (some ⟨b, off + 2 * x * 16, none⟩) 2 2) (Value.int IntKind.i64 0) (.pointer (some ⟨b, off + 2 * x * 16, none⟩)) (show vs 1 = _ from hd.1) rfl (by go_simp) ⟨Ext.refl _, fun _ _ => rfl⟩
          · refine step_plain rfl fun vs wq hE hd => ?_
            exact gives_load_row 43 _ rfl b (off + 2 * x * 16) (show vs 2 = _ from (hd.1)) (u8s DA) _ (range_below RDA.out (bel_drew1 hE)) Tryd.underlying43 rfl (hi43 DA GA.out.1) ⟨Ext.refl _, fun _ _ => rfl⟩
          · refine step_plain rfl fun vs wq hE hd => ?_
            exact gives_move _ (.slice (some ⟨b, off + 2 * x * 16, none⟩) 2 2) (.inl rfl) rfl ⟨Ext.refl _, fun _ _ => rfl⟩
          · refine step_plain rfl fun vs wq hE hd => ?_
            exact gives_indexAt 55 _ _ rfl (.slice (some ⟨b, off + 2 * x * 16, none⟩) 2 2) (Value.int IntKind.i64 1) (.pointer (some ⟨b, off + 2 * x * 16 + 16, none⟩)) (show vs 4 = _ from hd.1) rfl (by go_simp) ⟨Ext.refl _, fun _ _ => rfl⟩
          · refine step_plain rfl fun vs wq hE hd => ?_
            exact gives_load_row 43 _ rfl b (off + 2 * x * 16 + 16) (show vs 5 = _ from (hd.1)) (u8s DB) _ (range_below RDB.out (bel_drew1 hE)) Tryd.underlying43 rfl (hi43 DB GB.out.1) ⟨Ext.refl _, fun _ _ => rfl⟩
          · refine step_plain rfl fun vs wq hE hd => ?_
            refine gives_call 54 (enters_of Tryd.func54 (by kernel_rfl) rfl) _ _ rfl rfl [.agg (u8s DA).toArray, .agg (u8s DB).toArray] ?_ ?_
            · show [vs 3, vs 6] = _
              rw [show vs 3 = _ from (hd.1), show vs 6 = _ from (hd.2.1)]
            · have hwq := BW.out.trans ((bel_drew1 hE).mono BW.out.size)
              refine (join_any DA DB GA.out.1 GA.out.2 GB.out.1 GB.out.2 wq (range_below HK3.out hwq) (Nat.lt_of_lt_of_le h183 hwq.size)).mono ?_
              rintro _ w'' ⟨rfl, hb⟩
              exact ⟨_, rfl, hb, fun _ _ => by rw [HJJ.out]; rfl⟩
          · refine step_plain rfl fun vs wq hE hd => ?_
            refine gives_build 55 1 _ rfl #[(0, .agg (u8s JJ).toArray)] ?_ _ (build55 JJ GJ.out wq) ⟨(Below.refl _ _).alloc (Nat.le_refl _) _, fun W2 h2 => ⟨wq.heap.size, rfl, range_below (range_new wq (u8s JJ) 43) h2⟩⟩
            simp only [List.map_toArray, List.map_cons, List.map_nil]
            show #[(0, vs 7)] = _
            rw [show vs 7 = _ from (hd.1)]
          · intro vs w2 hE hR
            have h0 : vs 0 = _ := hR 0 (by omega)
            obtain ⟨g8, h8, r8⟩ : ∃ g8, vs 8 = .slice (some ⟨g8, 0, none⟩) 1 1 ∧ w2.rangeAt g8 0 (u8s JJ) := hR 8 (by omega)
            rw [h0, h8]
            have L2 : Below U.heap.size U w2 := bel_drew1 hE
            have R2 := Lib.hid (own_bel HRW.out L2)
            have X2 := Lib.hid (show Boxed w2 w3.heap.size 55 (.slice Ao x co) from blk_below HBX.out L2)
            have E2 := Lib.hid r8
            have I2 := Lib.hid (HIU.out.go L2)
            have K2 := Lib.hid (others_bel L2)
            have S2 := Lib.hid (keepB_below (L := [w3.heap.size + 1, w3.heap.size + 2]) L2)
            have hsz2 : w3.heap.size + 3 ≤ w2.heap.size := I2.out.big
            clear hR hE h0 h8 r8 L2 HRW HBX HIU CA
            refine wpList_done ?_
            gi_wp2_with (gi_at_builtin; refine wpListIn_append_own_at _ rfl _ _ 55 rfl (w3.heap.size + 3) 43 i43 (.agg (Array.replicate 16 (.int .u8 0))) 16 16 Tryd.underlying55 hi43' hz0 hz1 hz2 rfl (by decide) _ x _ rfl R2.out ⟨g8, 0, none⟩ 1 1 (u8s JJ) rfl (by rw [u8s_len', GJ.out]) (add_cell E2.out) (one_u8s _) (by simp only [maxLen]; omega) (by omega) hsz2 ?_; intro v9 w9 hown9 hgrow9 _ _; obtain ⟨A9, c9, rfl⟩ := own_form hown9; obtain ⟨q1, q2, q3, q4, q5, q6⟩ := boxed_app' X2.out (by decide) R2.out (by omega) (Nat.le_refl _) (by omega) hown9 hgrow9; have hc1 := q1.cell; have hf1 := q1.frozen; clear hown9)
            refine ⟨(K2.out.trans q4).from _, keepB_t S2.out (fun k hk o ho hko => ?_), ⟨⟨_, q2, ?_⟩, I2.out.bel.trans q5, Nat.le_trans hsz2 ?_⟩⟩
            · simp only [List.mem_cons, List.not_mem_nil, or_false] at hk
              exact q6 k o (by omega) (by omega) hko
            · have : x + 1 = (p ++ [x]).length := by simp [HM.out]
              rw [← this, HTK.out, dcells_append, show dcells [JJ] = u8s JJ by simp [dcells]]
              exact q3
            · exact q4.size
        case done =>
          rintro D ys X hD rfl hI hKD
          rw [List.length_range] at hI
          obtain ⟨vo, hbx, hrow⟩ := hI.box
          rw [← HESL.out, List.take_of_length_le (Nat.le_refl _)] at hrow
          have hgood : ∀ d ∈ es, d.length = 16 ∧ u8s_ok d := by rw [HES.out]; exact lev_good ds GDS (j + 1)
          have hdn : Dgs X vo es := Dgs.of_own hrow rfl hgood
          have hob := hrow.lt
          have hbc := hbx.cell
          have HI := Lib.hid hI
          have HDN := Lib.hid hdn
          have HOB := Lib.hid hob
          have HKD := Lib.hid hKD
          clear hI hbx hrow hdn hob hKD hgood
          gi_wp2
          refine ⟨⟨j + 1, vo, pre ++ [(.slice (some ⟨b, off, none⟩) (2 * h) c, lev joinC ds j)], D :: Ds, _, _, _, _, _, _, _, _, _, _, _, _, _, _, _, _, _, _, _, _, _, _, _, _, _, _, by omega, rfl, Lib.hid ⟨by rw [List.length_append, PL.out]; rfl, by rw [HPR.out, PL.out], own_ext HJ.out J3.out HI.out.bel, by rw [← HES.out]; exact HDN.out, fun k hk => ?_, ⟨Nat.lt_of_lt_of_le R3.out.1 HI.out.bel.size, fun q hq => ?_⟩, ?_, ?_, Nat.le_trans S3 HI.out.bel.size, range_below K3.out HI.out.bel, ⟨N3.out.1, by rw [rowOf_below R3.out.1 HI.out.bel]; exact N3.out.2⟩⟩⟩, ?_⟩
          · have hk3 := (HOB.out k hk).1
            refine ⟨fun hkL => by have := HLW.out k hkL; omega, fun e => ?_⟩
            rw [rowOf_below R3.out.1 HI.out.bel] at e
            have := R3.out.2 k e
            omega
          · rw [rowOf_below R3.out.1 HI.out.bel] at hq
            exact Nat.lt_of_lt_of_le (R3.out.2 q hq) HI.out.bel.size
          · rw [List.nodup_cons]
            refine ⟨fun hm => ?_, ND.out⟩
            have := blk_lt (M3.out D hm).2
            omega
          · intro E hE
            rcases List.mem_cons.1 hE with rfl | hE
            · exact ⟨by omega, HKD.out⟩
            · exact ⟨(M3.out E hE).1, blk_below (M3.out E hE).2 HI.out.bel⟩
          · have hl := HDN.out.form
            obtain ⟨A', c', rfl⟩ := hl
            show lenOf _ < lenOf _
            simp only [lenOf, HESL.out]
            simp
            omega
    · have hnd := hinv.out.nd
      have hmk : ∀ D ∈ Ds, W.heap.size ≤ D ∧ w3.heap[D]? = some (.deferred (some [])) := fun D hD => ⟨(hinv.out.mks D hD).1, hdf3 D _ (hinv.out.mks D hD).1 (hinv.out.mks D hD).2⟩
      clear hinv
      gi_wp2
      refine leaves_marks (fun X => Jx (pre ++ [(.slice (some ⟨b, off, none⟩) ln c, lev joinC ds j)]) X) W.heap.size Ds w3 hnd hmk (fun X D hB hD hX => HJX.out.putObj _ hX hB hD rfl) hJx3 fun X hX => ?_
      exact ⟨_, results_none rfl _ _ _, ⟨_, rfl⟩, .inr ⟨_, by rw [HPR.out, List.length_append]; rfl, hX⟩⟩
theorem levels_stops (L : List Nat) (ga n : Nat) (hn : 2 ≤ n) (bL : Nat) (v0 : Value) (ds : List (List Int)) (w0 : World)
    (hL : w0.cell? ⟨bL, 0, none⟩ = some v0) (hd : Dgs w0 v0 ds) (hds : ds.length = 32) (hLw : ∀ k ∈ L, k < w0.heap.size) (hap : ∀ k, v0.ownBlock = some k → k ∉ L ∧ rowOf ga w0 ≠ some k) (hrb : ga < w0.heap.size ∧ ∀ b, rowOf ga w0 = some b → b < w0.heap.size)
    (hk : w0.rangeAt 18 0 (u32s kk)) (h18 : 18 < w0.heap.size) (hK18 : 18 ∉ L ∧ rowOf ga w0 ≠ some 18) :
    SeqN n Tryd.prog 91 #[.pointer (some ⟨bL, 0, none⟩)] (fun x : Value × List (List Int) => #[x.1]) (fun x X => Dgs X x.1 x.2) (KpR L ga) (fun xs => xs.map (·.2) = (List.range 6).map (lev joinC ds)) (fun pre => pre.map (·.2) = (List.range pre.length).map (lev joinC ds)) 6 w0 :=
  fun l J Jx W hW hJ hJx hY h0 => levels_in L ga n hn l bL v0 ds w0 W J Jx hW hJ hJx (fun pre x W1 h1 h2 h3 h4 => hY pre x W1 h1 h2 h3 (show (pre ++ [x]).map (·.2) = (List.range (pre ++ [x]).length).map (lev joinC ds) by rw [List.length_append]; exact h4)) hL hd hds hLw hap hrb hk h18 hK18 h0
theorem levels_any (A : Option Addr) (n c : Nat) (w : World) : Calls Tryd.prog 81 #[.slice A n c] w fun e w' => e = .returned (.func (.func 91) #[] #[.pointer (some ⟨w.heap.size, 0, none⟩)]) ∧ w' = w.alloc (.cells #[.slice A n c] 55) := by
  go_enter Tryd.func81, Tryd.ntmps81
  go_wp2
  go_ret
  exact ⟨rfl, rfl⟩
end Go.Proofs.YtdedphhohiioiaaDoor
/- What trees.Root does. -/
namespace Go.Proofs.YtdedphhohiioiaaDoor
open Go.RowKit Go.Shelf
attribute [local go_sem] Oper.semAt_some

/-- The root of 32 digests. -/
def rootT (ds : List (List Int)) : List Int := rootH joinC [] 5 ds
theorem lev5 (ds : List (List Int)) (h : ds.length = 32) : lev joinC ds 5 = [rootT ds] := lev_root joinC [] 5 ds (by rw [h])
theorem rootT_good (ds : List (List Int)) (h : ds.length = 32) (hg : ∀ d ∈ ds, d.length = 16 ∧ u8s_ok d) : (rootT ds).length = 16 ∧ u8s_ok (rootT ds) :=
  lev_good ds hg 5 _ (by rw [lev5 ds h]; simp)
/-- The first digest of what came last. -/
def curOf (pre : List (Value × List (List Int))) : List Int := match pre.getLast? with
  | none => zero16
  | some x => x.2.getD 0 []
theorem curOf_snoc (pre : List (Value × List (List Int))) (x : Value × List (List Int)) : curOf (pre ++ [x]) = x.2.getD 0 [] := by simp [curOf]
theorem snoc_snd {ds : List (List Int)} {pre : List (Value × List (List Int))} {x : Value × List (List Int)} (h : (pre ++ [x]).map (·.2) = (List.range (pre ++ [x]).length).map (lev joinC ds)) : x.2 = lev joinC ds pre.length := by
  have h1 := congrArg (fun q => q[pre.length]?) h
  simp only [List.map_append, List.length_append, List.length_cons, List.length_nil, List.map_cons, List.map_nil] at h1
  rw [List.getElem?_append_right (by simp), List.length_map, Nat.sub_self, List.getElem?_map, List.getElem?_range (by omega)] at h1
  simpa using h1
theorem others_put {U V : World} {b t : Nat} {cs : List Value} {n : Nat} (hp : Put U b t cs V) (hb : Has U b t n) : KeepsOthers U V := ⟨Nat.le_of_eq hp.size.symm, fun j o hj ho => by
  obtain ⟨Z, _, hZ⟩ := hb
  have hne : j ≠ b := fun e => by subst e; rw [hZ] at hj; cases hj; cases ho
  exact (hp.other j hne).trans hj⟩
theorem Dgs.put {X : World} {v : Value} {ds : List (List Int)} {l : Nat} {o o' : Obj} (h : Dgs X v ds) (hl : X.heap[l]? = some o) (ho : o.isCells = false) : Dgs (X.putObj l o') v ds := by
  by_cases hne : ds = []
  · exact ⟨h.form, fun hn => absurd hne hn, h.good⟩
  · obtain ⟨k, oc, hk, hok, hoc⟩ := h.blk hne
    refine h.same fun q hq => ?_
    obtain rfl : k = q := Option.some.inj (hk.symm.trans hq)
    have hn : k ≠ l := fun e => by subst e; rw [hok] at hl; cases hl; rw [hoc] at ho; cases ho
    exact World.putObj_heap_other hn
/-- What the loop over the levels holds. -/
structure RtI (w : World) (pre : List (Value × List (List Int))) (W : World) : Prop where
  cur : W.heap[w.heap.size + 1]? = some (.cells (u8s (curOf pre)).toArray 43 (0, 0))
  len : (curOf pre).length = 16
  res : Has W w.heap.size 43 16
  bel : Below w.heap.size w W
theorem RtI.own {w : World} {B : Nat} (hB : w.heap.size ≤ B) : OwnFrom B (fun pre W => RtI w pre W) := by
  intro s X Y row hs hg hr
  have hr' := fun k e => (hr k e).2
  refine ⟨(hg.block _ (blk_lt hs.cur) fun e => ?_).trans hs.cur, hs.len, has_kept' hs.res hg hr', hs.bel.grown hg hs.bel.size fun k e => by have := (hr k e).1; omega⟩
  obtain ⟨o, ho, hc⟩ := hr' _ e.symm
  rw [hs.cur] at ho; cases ho; cases hc
theorem row_u8 {ga : Nat} {W : World} {cs : List Int} {t : TypeId} {fr : Nat × Nat} (h : W.heap[ga]? = some (.cells (u8s cs).toArray t fr)) : rowOf ga W = none := by
  unfold rowOf
  cases hc : W.cell? ⟨ga, 0, none⟩ with
  | none => rfl
  | some v =>
    simp only [World.cell?, h] at hc
    have hc2 : (u8s cs)[0]? = some v := by simpa using hc
    obtain ⟨z, _, rfl⟩ := List.mem_map.1 (List.mem_of_getElem? hc2)
    rfl

set_option maxHeartbeats 8000000 in
set_option maxRecDepth 100000 in
theorem root_ok (ds : List (List Int)) (A : Option Addr) (k c : Nat) (w : World) (hd : Dgs w (.slice A k c) ds) (hkl : k = ds.length) (hk32 : k = 32) (hk : w.rangeAt 18 0 (u32s kk)) (h18 : 18 < w.heap.size) :
    Calls Tryd.prog 53 #[.slice A k c] w fun e w' => e = .returned (.tuple #[.agg (u8s (rootT ds)).toArray, .nilIface]) ∧ Below w.heap.size w w' := by
  have hi43 : ∀ V : List Int, V.length = 16 → (Tryd.prog.info? 43).map (·.size) = some (u8s V).length := fun V h => by rw [u8s_len', h]; exact Tryd.size43
  have hds : ds.length = 32 := by omega
  have hgr := rootT_good ds hds hd.good
  have hne : ds ≠ [] := by intro e; rw [e] at hds; simp at hds
  obtain ⟨bb, off, c', he, _, hbb, _⟩ := slice_form hd hne
  simp only [Value.slice.injEq] at he
  obtain ⟨rfl, -, -⟩ := he
  subst hk32
  have HD := Lib.hid hd
  have HDS := Lib.hid hds
  have HGR := Lib.hid hgr
  have HK := Lib.hid hk
  clear hd hkl hds hgr hk hne
  refine (callsIn_wide (n := 5)).1 ?_
  refine callsIn_of_wp_marks Tryd.func53 rfl trivial ?_ rfl
  simp only [Tryd.ntmps53, List.size_toArray, List.length_cons, List.length_nil, Nat.reduceAdd, Nat.reduceSub, Array.replicate_succ, Array.replicate_zero, List.push_toArray, List.append_toArray, List.nil_append, List.cons_append]
  gi_wp2_with (refine ⟨trivial, ?_⟩; gi_at_call 81; refine (callsIn_wide.2 (levels_any _ _ _ _)).mono ?_; rintro _ wa ⟨rfl, rfl⟩)
  obtain ⟨w2, hw2⟩ : ∃ x, x = ((w.alloc (Obj.cells (Array.replicate 16 (Value.int .u8 0)) 43)).alloc (Obj.cells (Array.replicate 16 (Value.int .u8 0)) 43)).alloc (.cells #[.slice (some ⟨bb, off, none⟩) 32 c] 55) := ⟨_, rfl⟩
  have z2 : w2.heap.size = w.heap.size + 3 := by rw [hw2]; simp
  have hB : Below w.heap.size w w2 := by rw [hw2]; exact (((Below.refl _ _).alloc (Nat.le_refl _) _).alloc (by simp) _).alloc (by simp; omega) _
  have xr : Has w2 w.heap.size 43 16 := by rw [hw2]; exact (has_old w _ _ _ _ rfl).below ((Below.refl _ _).alloc (Nat.le_refl _) _)
  have xt : w2.heap[w.heap.size + 1]? = some (.cells (u8s (curOf [])).toArray 43 (0, 0)) := by
    rw [hw2, Below.heap_alloc _ _ _ (by simp)]
    have := heap_alloc_new (w.alloc (Obj.cells (Array.replicate 16 (Value.int .u8 0)) 43)) (Obj.cells (Array.replicate 16 (Value.int .u8 0)) 43)
    rw [World.size_alloc] at this
    exact this
  have xl : w2.cell? ⟨w.heap.size + 2, 0, none⟩ = some (.slice (some ⟨bb, off, none⟩) 32 c) := by
    rw [hw2]
    have := (Boxed.new ((w.alloc (Obj.cells (Array.replicate 16 (Value.int .u8 0)) 43)).alloc (Obj.cells (Array.replicate 16 (Value.int .u8 0)) 43)) 55 (.slice (some ⟨bb, off, none⟩) 32 c)).cell
    rwa [World.size_alloc, World.size_alloc] at this
  have I0 : RtI w [] w2 := ⟨xt, zero16_len, xr, hB⟩
  have HI0 := Lib.hid I0
  have hrow2 : rowOf (w.heap.size + 1) w2 = none := row_u8 xt
  have HSEQ := Lib.hid (levels_stops [w.heap.size + 1] (w.heap.size + 1) 4 (by omega) (w.heap.size + 2) (.slice (some ⟨bb, off, none⟩) 32 c) ds w2 xl (HD.out.below hB) HDS.out (fun q hq => by simp at hq; omega)
    (fun q hq => ⟨by have : bb = q := by simpa [Value.ownBlock] using hq
                     simp; omega, by rw [hrow2]; simp⟩) ⟨by omega, fun q hq => by rw [hrow2] at hq; cases hq⟩ (range_below HK.out hB) (by omega) ⟨by simp; omega, by rw [hrow2]; simp⟩)
  try change Code.wpIn _ _ _ _ _ _ (((w.alloc (Obj.cells (Array.replicate 16 (Value.int .u8 0)) 43)).alloc (Obj.cells (Array.replicate 16 (Value.int .u8 0)) 43)).alloc (.cells #[.slice (some ⟨bb, off, none⟩) 32 c] 55))
  rw [← hw2]
  clear hw2 xr xt xl I0 hrow2
  refine wpIn_rangeFuncN (n := 5) (P := Tryd.prog) (w0 := w2) (ps := #[13]) (gf := 91) (lb := #[.pointer (some ⟨w.heap.size + 2, 0, none⟩)]) rfl (enters_of Tryd.func91 (by kernel_rfl) rfl)
    HSEQ.out (fun x X l o o' hl ho hx => hx.put hl ho) kpr_t (fun X l r o' hl hr => kpr_b X l r o' (by omega) hr) (Below.refl _ _) (fun _ => rfl)
    (fun pre W => RtI w pre W) (fun _ _ _ => False) (RtI.own (by omega)) (fun _ _ _ _ _ h _ _ => h) HI0.out
    (fun x => { tmps := #[.slice (some ⟨bb, off, none⟩) 32 c, undef, .pointer (some ⟨w.heap.size, 0, none⟩), .nilIface, .pointer (some ⟨w.heap.size + 1, 0, none⟩), x.1, .slice (some ⟨bb, off, none⟩) 32 c, .int .i64 32, .bool false, undef, undef, .slice (some ⟨bb, off, none⟩) 32 c, .func (.func 91) #[] #[.pointer (some ⟨w.heap.size + 2, 0, none⟩)], x.1, undef, undef, undef, undef], defers := [] })
    ?assign ?body ?done ?stop
  case stop =>
    rintro D cc pre W _ _ h _
    exact h.elim
  case assign =>
    rintro l ⟨xv, xs⟩ W K hK
    gi_wp2
    simpa using hK
  case body =>
    rintro l pre ⟨xv, xs⟩ W hI hF hlt hsp
    dsimp only at hF
    have hx2 : xs = lev joinC ds pre.length := snoc_snd (x := (xv, xs)) hsp
    have hxl : xs.length = 2 ^ (5 - pre.length) := by rw [hx2]; exact lev32_len ds HDS.out _ (by omega)
    have hxne : xs ≠ [] := by intro e; rw [e] at hxl; have := Nat.two_pow_pos (5 - pre.length); simp at hxl; omega
    obtain ⟨bx, ox, cx, hxv, _, hbx, hrx⟩ := slice_form hF hxne
    have hx0 : 0 < xs.length := List.length_pos_iff.2 hxne
    have hr0 := hrx 0 hx0
    have hg0 := hF.at 0 hx0
    obtain ⟨nx, hnx⟩ : ∃ m, m = xs.length := ⟨_, rfl⟩
    rw [← hnx] at hxv hx0
    subst hxv
    obtain ⟨DA, hDA⟩ : ∃ d, d = xs.getD 0 [] := ⟨_, rfl⟩
    rw [← hDA] at hr0 hg0
    rw [Nat.zero_mul, Nat.add_zero] at hr0
    have hcs := curOf_snoc pre (.slice (some ⟨bx, ox, none⟩) nx cx, xs)
    dsimp only at hcs
    rw [← hDA] at hcs
    have hhas : Has W (w.heap.size + 1) 43 (u8s DA).length := ⟨_, by rw [List.size_toArray, u8s_len', u8s_len', hI.len, hg0.1], hI.cur⟩
    have RR := Lib.hid hr0
    have GD := Lib.hid hg0
    have HH := Lib.hid hhas
    have HCS := Lib.hid hcs
    have HIW := Lib.hid hI
    clear hr0 hg0 hhas hcs hI hF hrx hDA hnx hxne hxl hx2 hsp
    gi_wp2_with (first | (refine wpListIn_load_g (roundF l) rfl 43 (.tmp 15) rfl bx ox rfl (u8s DA) _ RR.out Tryd.underlying43 rfl (hi43 DA GD.out.1) ?_) | (refine wpListIn_store_row (roundF l) rfl 43 (.tmp 4) (.tmp 16) rfl (w.heap.size + 1) rfl (u8s DA) rfl 43 HH.out (hi43 DA GD.out.1) (one_u8s _) ?_; intro w9 hp9))
    have hr1 : rowOf (w.heap.size + 1) w9 = none := row_u8 hp9.blk
    refine ⟨(others_put hp9 HH.out).from _, ⟨fun k o hk _ hL _ => (hp9.other k (by simpa using hL)).trans hk, fun b hb => (by rw [hr1] at hb; cases hb), fun _ b hb => (by rw [hr1] at hb; cases hb), fun k dd hk => (others_put hp9 HH.out).same k _ hk rfl, Nat.le_of_eq hp9.size.symm⟩, ⟨by rw [HCS.out]; exact hp9.blk, by rw [HCS.out]; exact GD.out.1, HIW.out.res.same (hp9.other _ (by omega)), hp9.below HIW.out.bel (by omega)⟩⟩
  case done =>
    rintro D xs W hD hS hI hK
    have hxn : xs ≠ [] := by intro e; rw [e] at hS; simp [List.range_succ] at hS
    obtain ⟨pre, x, rfl⟩ : ∃ pre x, xs = pre ++ [x] := ⟨xs.dropLast, xs.getLast hxn, (List.dropLast_concat_getLast hxn).symm⟩
    have hpl : pre.length = 5 := by have := congrArg List.length hS; simp at this; omega
    have hx2 : x.2 = lev joinC ds 5 := by
      have := snoc_snd (ds := ds) (pre := pre) (x := x) (by rw [hS, List.length_append, hpl]; rfl)
      rw [hpl] at this
      exact this
    have hcur := hI.cur
    rw [curOf_snoc, hx2, lev5 ds HDS.out] at hcur
    have hcur2 : W.heap[w.heap.size + 1]? = some (.cells (u8s (rootT ds)).toArray 43 (0, 0)) := hcur
    obtain ⟨ST, hST⟩ : ∃ s, s = rootT ds := ⟨_, rfl⟩
    have hsl : ST.length = 16 := by rw [hST]; exact HGR.out.1
    rw [← hST] at hcur2
    have RT := Lib.hid (blk_range hcur2)
    have HRS : Hid (Has W w.heap.size 43 (u8s ST).length) := Lib.hid (by rw [u8s_len', hsl]; exact hI.res)
    have BW := Lib.hid hI.bel
    have HST := Lib.hid hST
    have HSI := Lib.hid (hi43 ST hsl)
    have HKD := Lib.hid hK
    clear hS hI hK hcur hcur2 hST hx2
    gi_wp2_with (first | (refine wpListIn_load_g wideF rfl 43 (.tmp 4) rfl (w.heap.size + 1) 0 rfl (u8s ST) _ RT.out Tryd.underlying43 rfl HSI.out ?_) | (refine wpListIn_store_row wideF rfl 43 (.tmp 2) (.tmp 17) rfl w.heap.size rfl (u8s ST) rfl 43 HRS.out HSI.out (one_u8s _) ?_; intro w10 hp10))
    have hDne : D ≠ w.heap.size := by omega
    have kd : w10.heap[D]? = some (.deferred (some [])) := (hp10.other D hDne).trans HKD.out
    refine ⟨by simp, .inl ⟨_, _, rfl, run_takeDeferred kd, ?_⟩⟩
    have hbz : Below w.heap.size w w10 := hp10.below BW.out (Nat.le_refl _)
    exact ⟨_, results_cell_row_tmp rfl _ _ w.heap.size 43 _ (0, 0) _ rfl ((World.putObj_heap_other hDne.symm).trans hp10.blk) Tryd.underlying43 rfl (by simpa using HSI.out) rfl, by rw [HST.out]; rfl, hbz.trans (belowK_b (w := w) (Nat.le_refl _) w10 D _ _ (by omega) kd rfl rfl)⟩

set_option maxHeartbeats 8000000 in
set_option maxRecDepth 100000 in
theorem root_form (A : Option Addr) (k c : Nat) (aF : Addr) (w : World) (hne : k ≠ 32) (hf : w.cell? ⟨0, 0, none⟩ = some (errV aF)) :
    Calls Tryd.prog 53 #[.slice A k c] w fun e w' => e = .returned (.tuple #[.agg (u8s zero16).toArray, errV aF]) ∧ Below w.heap.size w w' := by
  have hi43 : ∀ V : List Int, V.length = 16 → (Tryd.prog.info? 43).map (·.size) = some (u8s V).length := fun V h => by rw [u8s_len', h]; exact Tryd.size43
  have hkb : ((k : Int) != 32) = true := by simp; omega
  obtain ⟨W0, hW0⟩ : ∃ W0, W0 = w.alloc (Obj.cells (Array.replicate 16 (Value.int .u8 0)) 43) := ⟨_, rfl⟩
  have b0 : Below w.heap.size w W0 := by rw [hW0]; exact (Below.refl _ _).alloc (Nat.le_refl _) _
  have q2 : W0.heap[w.heap.size]? = some (Obj.cells (u8s zero16).toArray 43 (0, 0)) := by
    rw [hW0, zero_cells]
    exact heap_alloc_new w _
  have CR := Lib.hid hf
  have B0 := Lib.hid b0
  have HZ := Lib.hid q2
  clear b0 q2 hf
  go_enter Tryd.func53, Tryd.ntmps53
  go_wp2_with fail
  try change Code.wp _ _ _ _ (w.alloc (Obj.cells (Array.replicate 16 (Value.int .u8 0)) 43))
  rw [← hW0]
  clear hW0
  refine wp_region_rely3 (by kernel_rfl) 3 (by kernel_rfl) (by kernel_rfl) (EZ w.heap.size (w.heap.size)) (EZ.refl _ _) EZ.trans (fun ix => match ix with
    | 0 => fun _ v => v = .agg (u8s zero16).toArray
    | 1 => fun _ v => v = errV aF
    | 2 => fun _ v => v = undef
    | _ => fun _ _ => False) ?_
  simp (maxSteps := 10000000) only [Rely, List.take_succ_cons, List.take_zero, List.drop_succ_cons, List.drop_zero, Nat.reduceAdd, Nat.zero_add, Act.put, List.setIfInBounds_toArray, List.set_cons_succ, List.set_cons_zero]
  refine ⟨?_, ?_, ?_, ?_⟩
  · refine step_plain rfl fun vs wq hE hd => ?_
    exact gives_val (.agg (u8s zero16).toArray) (w' := wq) (by rw [zero_cells]; go_simp; rfl) ⟨EZ.refl _ _ _, fun _ _ => rfl⟩
  · refine step_plain rfl fun vs wq hE hd => ?_
    have hc := ez_cell B0.out hE CR.out
    exact gives_loadAt 57 _ rfl (.pointer (some ⟨0, 0, none⟩)) (errV aF) rfl (by go_simp) ⟨EZ.refl _ _ _, fun _ _ => rfl⟩
  · refine step_plain rfl fun vs wq hE hd => ?_
    refine gives_store_row 43 _ _ rfl (w.heap.size) rfl (u8s zero16) (hd.1) 43 ⟨_, by rw [List.size_toArray], hE.2 HZ.out⟩ (hi43 _ zero16_len) (one_u8s _) fun w3 hp3 => ⟨⟨hp3.below (Below.refl _ _) (by omega), fun _ => hp3.blk⟩, fun _ _ => rfl⟩
  · intro vs w2 hE hR
    have h1 : vs 1 = errV aF := hR 1 (by omega)
    rw [h1]
    have HB2 := Lib.hid (B0.out.drew.trans hE.1)
    have HZ2 := Lib.hid (hE.2 HZ.out)
    clear hR hE h1
    go_wp2_with fail
    refine bodyPost_ret (v := .tuple #[.agg (u8s zero16).toArray, errV aF]) (results_cell_row_tmp rfl _ _ (w.heap.size) 43 _ (0, 0) _ rfl HZ2.out Tryd.underlying43 rfl (by simpa using hi43 _ zero16_len) rfl) rfl ⟨rfl, HB2.out⟩
end Go.Proofs.YtdedphhohiioiaaDoor
/- What trees.Path does. -/
namespace Go.Proofs.YtdedphhohiioiaaDoor
open Go.RowKit Go.Shelf
attribute [local go_sem] Oper.semAt_some

/-- A leaf's way up in a tree of 32. -/
def wayT (ds : List (List Int)) (i : Nat) (k : Nat) : List (List Int) := wayP joinC [] ds i k
theorem wayT_succ (ds : List (List Int)) (i k : Nat) : wayT ds i (k + 1) = wayT ds i k ++ [(lev joinC ds k).getD (fl (i / 2 ^ k)) []] := by
  simp [wayT, wayP, List.range_succ]
theorem wayT_len (ds : List (List Int)) (i k : Nat) : (wayT ds i k).length = k := by simp [wayT, wayP]
theorem wayT_good (ds : List (List Int)) (i : Nat) (hi : i < 32) (hds : ds.length = 32) (hg : ∀ d ∈ ds, d.length = 16 ∧ u8s_ok d) (k : Nat) (hk : k ≤ 5) : ∀ d ∈ wayT ds i k, d.length = 16 ∧ u8s_ok d := by
  intro d hd
  obtain ⟨j, hj, rfl⟩ := List.mem_map.1 hd
  have hjk : j < k := List.mem_range.1 hj
  have hl := lev32_len ds hds j (by omega)
  have hq := div_lt i 5 j (by omega) (by omega)
  rw [pow_two (5 - j) (by omega)] at hl hq
  have hf := fl_lt hq
  rw [List.getD_eq_getElem?_getD, List.getElem?_eq_getElem (by omega)]
  exact lev_good ds hg j _ (List.getElem_mem _)
theorem xor_fl (q : Nat) (h : q < 32) : bits .xor .i64 (q : Int) 1 = (fl q : Int) := by
  have : (List.range 32).all (fun q => decide (bits .xor .i64 (q : Int) 1 = (fl q : Int))) = true := by decide +kernel
  rw [List.all_eq_true] at this
  simpa using this q (by simpa using h)
theorem kpr_set {L : List Nat} {ga b t : Nat} {u u' : Value} {W : World} (hb : Boxed W b t u) (hL : b ∈ L) (hne : b ≠ ga) : KpR L ga W (W.setCell ⟨b, 0, none⟩ u') := by
  have hr : rowOf ga (W.setCell ⟨b, 0, none⟩ u') = rowOf ga W := rowOf_same (heap_setCell_other W ⟨b, 0, none⟩ ga u' (fun e => hne e.symm))
  refine ⟨fun k o hk _ hL' _ => (heap_setCell_other W ⟨b, 0, none⟩ k u' (fun e => hL' (by rw [e]; exact hL))).trans hk, fun q hq => .inl (by rw [← hr]; exact hq), fun hx q hq => by rw [hr] at hq; rw [World.size_setCell]; exact hx q hq, fun k ds hk => (KeepsOthers.setCell W _ _).same k _ hk rfl, by rw [World.size_setCell]; exact Nat.le_refl _⟩
theorem kpr_app {L : List Nat} {W w1 : World} {nb B : Nat} {t e : TypeId} {size : Nat} {v v' : Value} {k m : Nat} {xs ys : List Value}
    (hv : Boxed W B t v) (hte : t ≠ e) (hrow : W.ownsRow nb e size v k xs) (hnb : nb ≤ W.heap.size) (hL : B ∈ L) 
    (hown' : w1.ownsRow nb e size v' m ys) (hgrow : W.grownBy w1 v.ownBlock) (hat : v'.ownBlock = v.ownBlock ∨ v'.ownBlock = some W.heap.size) : KpR L B W (w1.setCell ⟨B, 0, none⟩ v') := by
  obtain ⟨q1, q2, q3, q4, q5, _⟩ := boxed_app' (n₀ := 0) hv hte hrow hnb (Nat.zero_le _) (Nat.zero_le _) hown' hgrow
  have r0 := rowOf_boxed hv
  have r1 := rowOf_boxed q2
  refine ⟨fun j o hj _ hL' hr => ?_, fun b hb => ?_, fun _ b hb => ?_, fun j ds hj => q4.same j _ hj rfl, q4.size⟩
  · refine (heap_setCell_other w1 ⟨B, 0, none⟩ j v' (fun e => hL' (by rw [e]; exact hL))).trans ((hgrow.block j (blk_lt hj) fun e => hr ?_).trans hj)
    rw [r0]; exact e.symm
  · rw [r1] at hb
    rcases hat with h | h
    · left; rw [r0, ← h]; exact hb
    · right; rw [h] at hb; have := Option.some.inj hb; omega
  · rw [r1] at hb
    exact (q3.lt b hb).2
theorem own_put {w : World} {base e s n g : Nat} {v u : Value} {xs : List Value} (h : w.ownsRow base e s v n xs) (hg : g < base) : (w.setCell ⟨g, 0, none⟩ u).ownsRow base e s v n xs :=
  h.kept (grownBy_setCell' w g u) (by
    cases h' : v.ownBlock with
    | none => exact .inl rfl
    | some k => exact .inr (fun e' => by have := (h.lt k h').1; simp at e'; omega))
/-- What the loop over the levels holds. -/
structure PaI (w : World) (ds : List (List Int)) (i : Nat) (j : Nat) (W : World) : Prop where
  at_ : Boxed W w.heap.size 3 (.int .i64 ((i / 2 ^ j : Nat) : Int))
  out : ∃ v, Boxed W (w.heap.size + 1) 55 v ∧ W.ownsRow (w.heap.size + 3) 43 16 v (min j 5) (dcells (wayT ds i (min j 5)))
  bel : Below w.heap.size w W
  big : w.heap.size + 3 ≤ W.heap.size
theorem PaI.go {w W W' : World} {ds : List (List Int)} {i j : Nat} (h : PaI w ds i j W) (hb : Below W.heap.size W W') : PaI w ds i j W' := by
  obtain ⟨v, h1, h2⟩ := h.out
  exact ⟨blk_below h.at_ hb, ⟨v, blk_below h1 hb, own_bel h2 hb⟩, h.bel.trans (hb.mono h.bel.size), Nat.le_trans h.big hb.size⟩
theorem PaI.own {α : Type} {w : World} {ds : List (List Int)} {i : Nat} {B : Nat} (hB : w.heap.size ≤ B) : OwnFrom B (fun (pre : List α) W => PaI w ds i pre.length W) := by
  intro s X Y row hs hg hr
  have hr' := fun k e => (hr k e).2
  obtain ⟨v, h1, h2⟩ := hs.out
  exact ⟨boxed_kept' hs.at_ hg hr', ⟨v, boxed_kept' h1 hg hr', own_kept' h2 hg hr'⟩, hs.bel.grown hg hs.bel.size fun k e => by have := (hr k e).1; omega, Nat.le_trans hs.big hg.size⟩

set_option maxHeartbeats 8000000 in
set_option maxRecDepth 100000 in
theorem path_ok (ds : List (List Int)) (A : Option Addr) (k c : Nat) (i : Nat) (hi : i < 32) (w : World) (hd : Dgs w (.slice A k c) ds) (hkl : k = ds.length) (hk32 : k = 32) (hk : w.rangeAt 18 0 (u32s kk)) (h18 : 18 < w.heap.size) :
    Calls Tryd.prog 42 #[.slice A k c, .int .i64 (i : Int)] w fun e w' => ∃ v, e = .returned (.tuple #[v, .nilIface]) ∧ w'.ownsRow w.heap.size 43 16 v 5 (dcells (wayT ds i 5)) ∧ Below w.heap.size w w' := by
  have hi43 : ∀ V : List Int, V.length = 16 → (Tryd.prog.info? 43).map (·.size) = some (u8s V).length := fun V h => by rw [u8s_len', h]; exact Tryd.size43
  obtain ⟨i43, hi43', hz0, hz1, hz2⟩ := info43'
  have hds : ds.length = 32 := by omega
  have hne : ds ≠ [] := by intro e; rw [e] at hds; simp at hds
  obtain ⟨bb, off, c', he, _, hbb, _⟩ := slice_form hd hne
  simp only [Value.slice.injEq] at he
  obtain ⟨rfl, -, -⟩ := he
  subst hk32
  have HD := Lib.hid hd
  have HDS := Lib.hid hds
  have HK := Lib.hid hk
  have hni : (i : Int) < 32 := by omega
  clear hd hkl hds hk hne
  refine (callsIn_wide (n := 5)).1 ?_
  refine callsIn_of_wp_marks Tryd.func42 rfl trivial ?_ rfl
  simp only [Tryd.ntmps42, List.size_toArray, List.length_cons, List.length_nil, Nat.reduceAdd, Nat.reduceSub, Array.replicate_succ, Array.replicate_zero, List.push_toArray, List.append_toArray, List.nil_append, List.cons_append]
  gi_wp2_with (refine ⟨trivial, ?_⟩; gi_at_call 81; refine (callsIn_wide.2 (levels_any _ _ _ _)).mono ?_; rintro _ wa ⟨rfl, rfl⟩)
  obtain ⟨w2, hw2⟩ : ∃ x, x = ((w.alloc (.cells #[.int .i64 (i : Int)] 3)).alloc (.cells #[.slice none 0 0] 55)).alloc (.cells #[.slice (some ⟨bb, off, none⟩) 32 c] 55) := ⟨_, rfl⟩
  have z2 : w2.heap.size = w.heap.size + 3 := by rw [hw2]; simp
  have hB : Below w.heap.size w w2 := by rw [hw2]; exact (((Below.refl _ _).alloc (Nat.le_refl _) _).alloc (by simp) _).alloc (by simp; omega) _
  have xi : Boxed w2 w.heap.size 3 (.int .i64 (i : Int)) := by rw [hw2]; exact ((Boxed.new w 3 _).alloc _).alloc _
  have xo : Boxed w2 (w.heap.size + 1) 55 (.slice none 0 0) := by
    rw [hw2]
    have := (Boxed.new (w.alloc (.cells #[.int .i64 (i : Int)] 3)) 55 (.slice none 0 0)).alloc (.cells #[.slice (some ⟨bb, off, none⟩) 32 c] 55)
    rwa [World.size_alloc] at this
  have xl : w2.cell? ⟨w.heap.size + 2, 0, none⟩ = some (.slice (some ⟨bb, off, none⟩) 32 c) := by
    rw [hw2]
    have := (Boxed.new ((w.alloc (.cells #[.int .i64 (i : Int)] 3)).alloc (.cells #[.slice none 0 0] 55)) 55 (.slice (some ⟨bb, off, none⟩) 32 c)).cell
    rwa [World.size_alloc, World.size_alloc] at this
  have I0 : PaI w ds i ([] : List (Value × List (List Int))).length w2 := ⟨by simpa using xi, ⟨_, xo, World.ownsRow_nil _ _ _ _⟩, hB, by omega⟩
  have HI0 := Lib.hid I0
  have hrow2 : rowOf (w.heap.size + 1) w2 = none := by rw [rowOf_boxed xo]; rfl
  have HSEQ := Lib.hid (levels_stops [w.heap.size, w.heap.size + 1] (w.heap.size + 1) 4 (by omega) (w.heap.size + 2) (.slice (some ⟨bb, off, none⟩) 32 c) ds w2 xl (HD.out.below hB) HDS.out (fun q hq => by simp at hq; omega)
    (fun q hq => ⟨by have : bb = q := by simpa [Value.ownBlock] using hq
                     simp; omega, by rw [hrow2]; simp⟩) ⟨by omega, fun q hq => by rw [hrow2] at hq; cases hq⟩ (range_below HK.out hB) (by omega) ⟨by simp; omega, by rw [hrow2]; simp⟩)
  try change Code.wpIn _ _ _ _ _ _ (((w.alloc (.cells #[.int .i64 (i : Int)] 3)).alloc (.cells #[.slice none 0 0] 55)).alloc (.cells #[.slice (some ⟨bb, off, none⟩) 32 c] 55))
  rw [← hw2]
  clear hw2 xi xo xl I0 hrow2
  refine wpIn_rangeFuncNA (n := 5) (P := Tryd.prog) (w0 := w2) (ps := #[23]) (gf := 91) (lb := #[.pointer (some ⟨w.heap.size + 2, 0, none⟩)]) rfl (enters_of Tryd.func91 (by kernel_rfl) rfl)
    HSEQ.out (fun x X l o o' hl ho hx => hx.put hl ho) kpr_t (fun X l r o' hl hr => kpr_b X l r o' (by omega) hr) (Below.refl _ _) (fun _ => rfl)
    (fun pre W => PaI w ds i pre.length W) (fun _ _ _ => False) (PaI.own (by omega)) (fun _ _ _ _ _ h _ _ => h) HI0.out
    (fun a x => { tmps := (a.tmps.setIfInBounds 23 x.1).setIfInBounds 7 x.1, defers := [] }) ?assign ?body ?done ?stop
  case stop =>
    rintro D cc pre W _ _ h _
    exact h.elim
  case assign =>
    rintro l ⟨xv, xs⟩ W K hK
    gi_wp2
    simpa using hK
  case body =>
    rintro l pre ⟨xv, xs⟩ U hI hF hlt hsp
    dsimp only at hF
    have hx2 : xs = lev joinC ds pre.length := snoc_snd (x := (xv, xs)) hsp
    obtain ⟨j, hj⟩ : ∃ m, m = pre.length := ⟨_, rfl⟩
    rw [← hj] at hx2 hlt hI
    have hxl : xs.length = 2 ^ (5 - j) := by rw [hx2]; exact lev32_len ds HDS.out _ (by omega)
    have hxne : xs ≠ [] := by intro e; rw [e] at hxl; have := Nat.two_pow_pos (5 - j); simp at hxl; omega
    obtain ⟨bx, ox, cx, hxv, _, hbx, hrx⟩ := slice_form hF hxne
    obtain ⟨nx, hnx⟩ : ∃ m, m = xs.length := ⟨_, rfl⟩
    rw [← hnx] at hxv hxl hrx
    subst hxv
    obtain ⟨q, hq⟩ : ∃ q, q = i / 2 ^ j := ⟨_, rfl⟩
    have hqd : i / 2 ^ (j + 1) = q / 2 := by rw [hq, Nat.pow_succ, Nat.div_div_eq_div_mul]
    have hq5 : q < 2 ^ (5 - j) := by rw [hq]; exact div_lt i 5 j (by omega) (by omega)
    have hq32 : q < 32 := by
      have h5 : 2 ^ (5 - j) ≤ 2 ^ 5 := Nat.pow_le_pow_right (by omega) (by omega)
      omega
    have hat := hI.at_
    rw [← hq] at hat
    have ci := hat.cell
    have fi := hat.frozen
    have HJ := Lib.hid hj
    have HQ := Lib.hid hq
    have HQD := Lib.hid hqd
    have HAT := Lib.hid hat
    have HIU := Lib.hid hI
    have hwq : IntKind.i64.wrap ((q : Int).tdiv 2) = ((q / 2 : Nat) : Int) := by
      rw [Int.tdiv_eq_ediv_of_nonneg (by omega), IntKind.wrap_i64]
      omega
    by_cases hj5 : j = 5
    · subst hj5
      have hn1 : nx = 1 := hxl
      subst hn1
      have hout := hI.out
      have HOUT := Lib.hid hout
      clear hI hat hF hrx hsp hxne hxl hnx hx2 hj hq hqd hout
      dsimp only
      simp only [List.setIfInBounds_toArray, List.set_cons_succ, List.set_cons_zero]
      gi_wp2_with fail
      refine ⟨(KeepsOthers.setCell _ _ _).from _, kpr_set HAT.out (by simp) ?_, ?_⟩
      · simp
      · refine ⟨?_, ?_, HIU.out.bel.setCell (p := ⟨w.heap.size, 0, none⟩) (Nat.le_refl _) _, by rw [World.size_setCell]; exact HIU.out.big⟩
        · rw [List.length_append, ← HJ.out, List.length_cons, List.length_nil, HQD.out]
          exact HAT.out.set _
        · rw [List.length_append, ← HJ.out]
          obtain ⟨v, h1, h2⟩ := HOUT.out
          exact ⟨v, h1.other (by omega) _, own_put h2 (by omega)⟩
    · have hlt5 : j < 5 := by omega
      have hnx2 : 2 ≤ nx := by
        rw [hxl, show 5 - j = (4 - j) + 1 by omega, Nat.pow_succ]
        have := Nat.two_pow_pos (4 - j)
        omega
      have hgt : (1 : Int) < (nx : Int) := by omega
      have hfl : fl q < nx := by
        have h1 := hxl
        rw [pow_two (5 - j) (by omega)] at h1 hq5
        rw [h1]
        exact fl_lt hq5
      have hnx32 : nx ≤ 32 := by
        have h5 : 2 ^ (5 - j) ≤ 2 ^ 5 := Nat.pow_le_pow_right (by omega) (by omega)
        omega
      have hrd := hrx (fl q) hfl
      have hgd := hF.at (fl q) (by rw [← hnx]; exact hfl)
      obtain ⟨vo, hbo, hrow⟩ := hI.out
      rw [show min j 5 = j by omega] at hrow
      obtain ⟨Ao, co, rfl⟩ := own_form hrow
      have hws := wayT_succ ds i j
      rw [← hx2, ← hq] at hws
      obtain ⟨DA, hDA⟩ : ∃ d, d = xs.getD (fl q) [] := ⟨_, rfl⟩
      rw [← hDA] at hrd hgd hws
      obtain ⟨jn, hjn⟩ : ∃ m, m = j := ⟨_, rfl⟩
      rw [← hjn] at hrow hbo
      have CA := Lib.hid hbo.cell
      have CI := Lib.hid ci
      have HXOR := Lib.hid (xor_fl q hq32)
      have HFL : Hid ((fl q : Int) < (nx : Int)) := Lib.hid (by omega)
      have RDA := Lib.hid hrd
      have GA := Lib.hid hgd
      have HBO := Lib.hid hbo
      have HRW := Lib.hid hrow
      have HWS := Lib.hid hws
      have HJN := Lib.hid hjn
      have hjn5 : jn < 5 := by omega
      clear hI hat hF hrx hsp hxne hxl hx2 hj hq hqd hrd hgd hbo hrow hws hDA ci fi hjn hnx hq5
      dsimp only
      simp only [List.setIfInBounds_toArray, List.set_cons_succ, List.set_cons_zero]
      gi_wp2_with fail
      refine wpIn_region_rely5 (roundF l) ?hq (by kernel_rfl) (by kernel_rfl) 7 (by kernel_rfl) (by kernel_rfl) Ext Ext.refl Ext.trans (fun ix => match ix with
        | 0 => fun _ v => v = .slice Ao jn co
        | 1 => fun _ v => v = .slice (some ⟨bx, ox, none⟩) nx cx
        | 2 => fun _ v => v = .int .i64 (q : Int)
        | 3 => fun _ v => v = .int .i64 (fl q : Int)
        | 4 => fun _ v => v = .pointer (some ⟨bx, ox + fl q * 16, none⟩)
        | 5 => fun _ v => v = .agg (u8s DA).toArray
        | 6 => fun W v => ∃ g8, v = .slice (some ⟨g8, 0, none⟩) 1 1 ∧ W.rangeAt g8 0 (u8s DA)
        | _ => fun _ _ => False) ?_
      case hq => (rintro ⟨_, _, h⟩; exact h.elim)
      simp (maxSteps := 10000000) only [Rely, List.take_succ_cons, List.take_zero, List.drop_succ_cons, List.drop_zero, Nat.reduceAdd, Nat.zero_add, Act.put, List.setIfInBounds_toArray, List.set_cons_succ, List.set_cons_zero]
      refine ⟨?_, ?_, ?_, ?_, ?_, ?_, ?_, ?_⟩
      · refine step_plain rfl fun vs wq hE hd => ?_
        have hc := cell_on (bel_drew1 hE) CA.out
        exact gives_loadAt 55 _ rfl (.pointer (some ⟨w.heap.size + 1, 0, none⟩)) (.slice Ao jn co) rfl (by go_simp) ⟨Ext.refl _, fun _ _ => rfl⟩
      · refine step_plain rfl fun vs wq hE hd => ?_
        exact gives_move _ (.slice (some ⟨bx, ox, none⟩) nx cx) (.inl rfl) rfl ⟨Ext.refl _, fun _ _ => rfl⟩
      · refine step_plain rfl fun vs wq hE hd => ?_
        have hc := cell_on (bel_drew1 hE) CI.out
        exact gives_loadAt 3 _ rfl (.pointer (some ⟨w.heap.size, 0, none⟩)) (.int .i64 (q : Int)) rfl (by go_simp) ⟨Ext.refl _, fun _ _ => rfl⟩
      · refine step_plain rfl fun vs wq hE hd => ?_
        exact gives_binOp .xor 3 _ _ _ rfl (.int .i64 (q : Int)) (.int .i64 1) (.int .i64 (fl q : Int)) (show vs 2 = _ from (hd.1)) rfl (by go_simp) (by have hx := HXOR.out; go_simp) ⟨Ext.refl _, fun _ _ => rfl⟩
      · refine step_plain rfl fun vs wq hE hd => ?_
        exact gives_indexAt 55 _ _ rfl (.slice (some ⟨bx, ox, none⟩) nx cx) (.int .i64 (fl q : Int)) (.pointer (some ⟨bx, ox + fl q * 16, none⟩)) (show vs 1 = _ from (hd.1)) (show vs 3 = _ from (hd.2.1)) (by have hq := HFL.out; go_simp) ⟨Ext.refl _, fun _ _ => rfl⟩
      · refine step_plain rfl fun vs wq hE hd => ?_
        exact gives_load_row 43 _ rfl bx (ox + fl q * 16) (show vs 4 = _ from (hd.1)) (u8s DA) _ (range_below RDA.out (bel_drew1 hE)) Tryd.underlying43 rfl (hi43 DA GA.out.1) ⟨Ext.refl _, fun _ _ => rfl⟩
      · refine step_plain rfl fun vs wq hE hd => ?_
        refine gives_build 55 1 _ rfl #[(0, .agg (u8s DA).toArray)] ?_ _ (build55 DA GA.out.1 wq) ⟨(Below.refl _ _).alloc (Nat.le_refl _) _, fun W2 h2 => ⟨wq.heap.size, rfl, range_below (range_new wq (u8s DA) 43) h2⟩⟩
        simp only [List.map_toArray, List.map_cons, List.map_nil]
        show #[(0, vs 5)] = _
        rw [show vs 5 = _ from (hd.1)]
      · intro vs w2' hE hR
        have h0 : vs 0 = _ := hR 0 (by omega)
        obtain ⟨g8, h8, r8⟩ : ∃ g8, vs 6 = .slice (some ⟨g8, 0, none⟩) 1 1 ∧ w2'.rangeAt g8 0 (u8s DA) := hR 6 (by omega)
        rw [h0, h8]
        have L2 : Below U.heap.size U w2' := bel_drew1 hE
        have R2 := Lib.hid (own_bel HRW.out L2)
        have X2 := Lib.hid (show Boxed w2' (w.heap.size + 1) 55 (.slice Ao jn co) from blk_below HBO.out L2)
        have Y2 := Lib.hid (show Boxed w2' w.heap.size 3 (.int .i64 (q : Int)) from blk_below HAT.out L2)
        have E2 := Lib.hid r8
        have I2 := Lib.hid (HIU.out.go L2)
        have K2 := Lib.hid (others_bel L2)
        have S2 := Lib.hid (kpr_below (L := [w.heap.size, w.heap.size + 1]) (ga := w.heap.size + 1) (by have := HIU.out.big; omega) L2)
        have hsz2 : w.heap.size + 3 ≤ w2'.heap.size := I2.out.big
        clear hR hE h0 h8 r8 L2 HRW HBO HIU CA HAT CI
        refine wpList_done ?_
        gi_wp2_with (gi_at_builtin; refine wpListIn_append_own_at _ rfl _ _ 55 rfl (w.heap.size + 3) 43 i43 (.agg (Array.replicate 16 (.int .u8 0))) 16 16 Tryd.underlying55 hi43' hz0 hz1 hz2 rfl (by decide) _ jn _ rfl R2.out ⟨g8, 0, none⟩ 1 1 (u8s DA) rfl (by rw [u8s_len', GA.out.1]) (add_cell E2.out) (one_u8s _) (by simp only [maxLen]; omega) (by omega) hsz2 ?_; intro v9 w9 hown9 hgrow9 _ hat9; obtain ⟨A9, c9, rfl⟩ := own_form hown9; obtain ⟨q1, q2, q3, q4, q5, q6⟩ := boxed_app' X2.out (by decide) R2.out (by omega) (show w.heap.size ≤ w.heap.size + 1 by omega) (by omega) hown9 hgrow9; have hc1 := q1.cell; have hf1 := q1.frozen; have y9 := q6 w.heap.size _ (by omega) (by omega) Y2.out; have hc2 := (show Boxed _ w.heap.size 3 (.int .i64 (q : Int)) from y9).cell; have hf2 := (show Boxed _ w.heap.size 3 (.int .i64 (q : Int)) from y9).frozen; have KP := kpr_app (L := [w.heap.size, w.heap.size + 1]) X2.out (by decide) R2.out (by omega) (by simp) hown9 hgrow9 hat9; clear hown9 hat9)
        have y9b : Boxed (w9.setCell ⟨w.heap.size + 1, 0, none⟩ (.slice A9 (jn + 1) c9)) w.heap.size 3 (.int .i64 (q : Int)) := y9
        refine ⟨(K2.out.trans (q4.trans (KeepsOthers.setCell _ _ _))).from _, kpr_t S2.out (kpr_t KP (kpr_set y9b (by simp) (by omega))), ⟨?_, ⟨_, q2.other (by omega) _, ?_⟩, I2.out.bel.trans (q5.setCell (p := ⟨w.heap.size, 0, none⟩) (Nat.le_refl _) _), by rw [World.size_setCell]; exact Nat.le_trans hsz2 q4.size⟩⟩
        · rw [List.length_append, ← HJ.out, List.length_cons, List.length_nil, HQD.out, show ((q / 2 : Nat) : Int) = (q : Int) / 2 by omega]
          exact y9b.set _
        · have hl : min (pre ++ [((Value.slice (some ⟨bx, ox, none⟩) nx cx), xs)]).length 5 = jn + 1 := by rw [List.length_append, ← HJ.out, List.length_cons, List.length_nil]; have := HJN.out; omega
          have hdc : dcells (wayT ds i (jn + 1)) = dcells (wayT ds i j) ++ u8s DA := by rw [HJN.out, HWS.out, dcells_append]; simp [dcells]
          rw [hl, hdc, ← HJN.out]
          exact own_put q3 (by omega)
  case done =>
    rintro D xs W hD hS hI hK
    have hxl : xs.length = 6 := by have := congrArg List.length hS; simpa using this
    rw [hxl] at hI
    obtain ⟨v, hbo, hrow⟩ := hI.out
    rw [show min 6 5 = 5 from rfl] at hrow
    obtain ⟨Ao, co, rfl⟩ := own_form hrow
    have co1 := hbo.cell
    have HRW := Lib.hid hrow
    have BW := Lib.hid hI.bel
    have KD := Lib.hid hK
    clear hS hI hK hbo hrow
    gi_wp2_with fail
    refine ⟨by simp, .inl ⟨_, _, rfl, run_takeDeferred KD.out, ?_⟩⟩
    refine ⟨_, results_tmp2 rfl _ _ _, _, rfl, ownsRow_mono (own_kept' HRW.out (grownBy_putObj' W D _) (fun k e => by cases e; exact ⟨_, KD.out, rfl⟩)) (by omega), BW.out.trans (belowK_b (w := w) (Nat.le_refl _) W D _ _ (by omega) KD.out rfl rfl)⟩

set_option maxHeartbeats 8000000 in
set_option maxRecDepth 100000 in
theorem path_form (A : Option Addr) (k c : Nat) (i : Int) (aF : Addr) (w : World) (hne : k ≠ 32) (hf : w.cell? ⟨0, 0, none⟩ = some (errV aF)) :
    Calls Tryd.prog 42 #[.slice A k c, .int .i64 i] w fun e w' => e = .returned (.tuple #[.slice none 0 0, errV aF]) ∧ Below w.heap.size w w' := by
  have hkb : ((k : Int) != 32) = true := by simp; omega
  obtain ⟨W0, hW0⟩ : ∃ W0, W0 = w.alloc (.cells #[.int .i64 i] 3) := ⟨_, rfl⟩
  have b0 : Below w.heap.size w W0 := by rw [hW0]; exact (Below.refl _ _).alloc (Nat.le_refl _) _
  have hc : W0.cell? ⟨0, 0, none⟩ = some (errV aF) := cell_on b0 hf
  have B0 := Lib.hid b0
  clear b0 hf
  go_enter Tryd.func42, Tryd.ntmps42
  go_wp2_with fail
  try change Code.wp _ _ _ _ (w.alloc (.cells #[.int .i64 i] 3))
  rw [← hW0]
  clear hW0
  go_quiet (fail)
  go_wp2
  go_ret2
  exact ⟨rfl, B0.out.trans ⟨rfl, rfl, rfl, Nat.le_refl _, fun _ _ => rfl⟩⟩
theorem path_range (A : Option Addr) (c : Nat) (i : Int) (aR : Addr) (w : World) (hi : ¬ (0 ≤ i ∧ i < 32)) (hf : w.cell? ⟨1, 0, none⟩ = some (errV aR)) :
    Calls Tryd.prog 42 #[.slice A 32 c, .int .i64 i] w fun e w' => e = .returned (.tuple #[.slice none 0 0, errV aR]) ∧ Below w.heap.size w w' := by
  obtain ⟨W0, hW0⟩ : ∃ W0, W0 = w.alloc (.cells #[.int .i64 i] 3) := ⟨_, rfl⟩
  have b0 : Below w.heap.size w W0 := by rw [hW0]; exact (Below.refl _ _).alloc (Nat.le_refl _) _
  have hc : W0.cell? ⟨1, 0, none⟩ = some (errV aR) := cell_on b0 hf
  have B0 := Lib.hid b0
  clear b0 hf
  by_cases hneg : i < 0
  · go_enter Tryd.func42, Tryd.ntmps42
    go_wp2_with fail
    try change Code.wp _ _ _ _ (w.alloc (.cells #[.int .i64 i] 3))
    rw [← hW0]
    clear hW0
    go_quiet (fail)
    go_wp2
    go_ret2
    exact ⟨rfl, B0.out.trans ⟨rfl, rfl, rfl, Nat.le_refl _, fun _ _ => rfl⟩⟩
  · have hbig : (32 : Int) ≤ i := by omega
    go_enter Tryd.func42, Tryd.ntmps42
    go_wp2_with fail
    try change Code.wp _ _ _ _ (w.alloc (.cells #[.int .i64 i] 3))
    rw [← hW0]
    clear hW0
    go_quiet (fail)
    go_wp2
    go_ret2
    exact ⟨rfl, B0.out.trans ⟨rfl, rfl, rfl, Nat.le_refl _, fun _ _ => rfl⟩⟩
end Go.Proofs.YtdedphhohiioiaaDoor
