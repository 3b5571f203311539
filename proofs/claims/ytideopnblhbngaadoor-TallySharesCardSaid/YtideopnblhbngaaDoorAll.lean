/- slices.Clone at texts; the iterator over the pool. -/
import Derived.Test.YtideopnblhbngaaDoorSeqF
import Derived.Test.YtideopnblhbngaaDoorAddApp
import Derived.Test.YtideopnblhbngaaDoorSeq
namespace Go.Proofs.YtideopnblhbngaaDoor
open Go.RowKit Go.Shelf
attribute [local go_sem] Oper.semAt_some

theorem own_le {w : World} {base base' e s n : Nat} {v : Value} {xs : List Value} (h : w.ownsRow base e s v n xs) (hb : base' ≤ base) : w.ownsRow base' e s v n xs := by
  refine ⟨h.1, ?_⟩
  rcases h.2 with h | ⟨g, cap, cur, e1, e2, rest⟩
  · exact .inl h
  · exact .inr ⟨g, cap, cur, e1, by omega, rest⟩

theorem own_form {w : World} {base e s n : Nat} {v : Value} {xs : List Value} (h : w.ownsRow base e s v n xs) : ∃ A c, v = .slice A n c := by
  rcases h.2 with ⟨rfl, rfl⟩ | ⟨g, cap, cur, e1, _⟩
  · exact ⟨_, _, rfl⟩
  · exact ⟨_, _, e1⟩
theorem eql65_nil (a : Option Addr) (l c : Nat) (W : World) : (binOp .eql 65 (.slice a l c) (.slice none 0 0)).run Tryd.prog W = .ok (.bool a.isNone) W := by
  simp only [binOp]
  simp [run_equal_slice_nil W 65 9 a l c Tryd.underlying65]

set_option maxHeartbeats 4000000 in
set_option maxRecDepth 100000 in
theorem clone_any (base : Nat) (A : Option Addr) (c : Nat) (ts : List ByteArray) (w : World) (h : w.ownsRow base 9 1 (.slice A ts.length c) ts.length (strs ts)) (hz : ts.length ≤ 1000) :
    Calls Tryd.prog 69 #[.slice A ts.length c] w fun e w' => ∃ A' c', e = .returned (.slice A' ts.length c') ∧ w'.ownsRow w.heap.size 9 1 (.slice A' ts.length c') ts.length (strs ts) ∧ Below w.heap.size w w' := by
  cases A with
  | none =>
    have h0 : ts = [] := by
      rcases h.2 with ⟨_, h0⟩ | ⟨g, _, _, e, _⟩
      · exact List.eq_nil_of_length_eq_zero h0
      · simp at e
    subst h0
    clear h
    have hnil := eql65_nil none 0 c w
    go_enter Tryd.func69, Tryd.ntmps69
    go_wp2_with fail
    go_ret
    exact ⟨none, 0, rfl, World.ownsRow_nil _ _ _ _, Below.refl _ _⟩
  | some a =>
    obtain ⟨g, rfl, hcs⟩ : ∃ g, a = ⟨g, 0, none⟩ ∧ ∀ j u, (strs ts)[j]? = some u → w.cell? ((⟨g, 0, none⟩ : Addr).add j) = some u := by
      rcases h.2 with ⟨e, _⟩ | ⟨g, cap, cur, e, _⟩
      · simp at e
      · simp only [Value.slice.injEq, Option.some.injEq] at e
        obtain ⟨rfl, _, rfl⟩ := e
        exact ⟨g, rfl, fun j u hu => h.cells (g := g) rfl j u hu⟩
    have hnews : ∀ j u, (strs ts)[j]? = some u → (w.alloc (.cells #[] 9)).cell? ((⟨g, 0, none⟩ : Addr).add j) = some u := fun j u hu => cell_on ((Below.refl _ _).alloc (Nat.le_refl _) _) (hcs j u hu)
    have hown : (w.alloc (.cells #[] 9)).ownsRow w.heap.size 9 1 (.slice (some ⟨w.heap.size, 0, none⟩) 0 0) 0 [] := own_empty w #[] rfl (Nat.le_refl _)
    have hb : Below w.heap.size w (w.alloc (.cells #[] 9)) := (Below.refl _ _).alloc (Nat.le_refl _) _
    have hnil := eql65_nil (some ⟨g, 0, none⟩) ts.length c w
    have HN := Lib.hid hnews
    have HO := Lib.hid hown
    have HB := Lib.hid hb
    clear h hcs hnews hown hb
    go_enter Tryd.func69, Tryd.ntmps69
    go_wp2_with (at_builtin; refine appN (w0 := w) w.heap.size rfl (.tmp 5) (.tmp 6) 65 9 (.string ByteArray.empty) 1 16 rfl Tryd.underlying65 Tryd.info9 rfl (by omega) (by omega) _ 0 [] rfl ⟨g, 0, none⟩ ts.length c (strs ts) rfl (by rw [strs_len, Nat.mul_one]) HN.out (one_strs ts) HO.out HB.out (by simp) (by omega) ?_; intro v5 w5 ap5; obtain ⟨A5, c5, rfl⟩ := own_form ap5.own; have O5 := Lib.hid ap5.own; have B5 := Lib.hid ap5.below; clear ap5)
    go_ret
    exact ⟨A5, c5, by simp, by simpa using O5.out, B5.out⟩

/-- What an element that is handed out reads as. -/
def FactB (x : Value × ByteArray) (W : World) : Prop := OwnO W 0 5 x.1 (u8s (sb x.2)) ∧ ∃ A n c, x.1 = .slice A n c
theorem OwnO.same {w w' : World} {base e : Nat} {v : Value} {xs : List Value} (h : OwnO w base e v xs) (hs : ∀ k, v.ownBlock = some k → k < w.heap.size → w'.heap[k]? = w.heap[k]?) : OwnO w' base e v xs := by
  rcases h with h | ⟨g, off, cap, cur, fr, rfl, hb, hgg, rest⟩
  · exact .inl h
  · exact .inr ⟨g, off, cap, cur, fr, rfl, hb, (hs g rfl (blk_lt hgg)).trans hgg, rest⟩
theorem factB_put (x : Value × ByteArray) (W : World) (l : Nat) (o o' : Obj) (hl : W.heap[l]? = some o) (ho : o.isCells = false) (h : FactB x W) : FactB x (W.putObj l o') := by
  refine ⟨?_, h.2⟩
  rcases h.1 with h | ⟨g, off, cap, cur, fr, e, hb, hgg, rest⟩
  · exact .inl h
  · refine .inr ⟨g, off, cap, cur, fr, e, hb, ?_, rest⟩
    have hne : g ≠ l := fun e => by subst e; rw [hgg] at hl; cases hl; cases ho
    exact (World.putObj_heap_other hne).trans hgg
/-- What a round must keep: the rows of texts that lie beyond B. -/
def Kp9 (B : Nat) (W W' : World) : Prop := ∀ k cs, B ≤ k → W.heap[k]? = some (.cells cs 9 (0, 0)) → W'.heap[k]? = some (.cells cs 9 (0, 0))
theorem kp9_t {B : Nat} {X Y Z : World} (h : Kp9 B X Y) (k : Kp9 B Y Z) : Kp9 B X Z := fun i cs hb hi => k i cs hb (h i cs hb hi)
theorem kp9_b {B : Nat} (W : World) (l : Nat) (o o' : Obj) (hl : W.heap[l]? = some o) (ho : o.isCells = false) : Kp9 B W (W.putObj l o') := fun k cs _ hk => by
  have hne : k ≠ l := fun e => by subst e; rw [hk] at hl; cases hl; cases ho
  exact (World.putObj_heap_other hne).trans hk
theorem kp9_below {B : Nat} {W W' : World} (h : Below W.heap.size W W') : Kp9 B W W' := fun k cs _ hk => blk_below hk h

theorem wpListIn_conv_bytes {n : Nat} {P : Program} {ops : Array Oper} {Q : Exit → Act → World → Prop} {a : Act} {w : World} {rest : List Oper} {o : Oper} {F : Fence} (hF : ∃ ro, F = AtRound ro) (hw : Region.wanted o (yielded ops a.tmps) = true) (src dst e : TypeId) (x : Operand) (ho : o.op = .convert src dst x) (s : ByteArray)
    (hx : a.eval x = .string s) {u : TypeDesc} (hs : P.underlying src = some u) (hd : P.underlying dst = some (.slice e)) (he : P.underlying e = some (.int .u8))
    (h : wpListIn F n P ops Q rest (a.put o.dst (.slice (some ⟨w.heap.size, 0, none⟩) s.size (grownCap w s.size 0 e))) (Lib.bytesWorld w e s)) : wpListIn F n P ops Q (o :: rest) a w := by
  obtain ⟨ro, rfl⟩ := hF
  refine wpListIn_op ro hw (fun c e => by rw [ho] at e; cases e) fun K hK => ?_
  unfold Oper.wp execOp
  simp only [ho, hx, Sem.run_bind, Sem.run_pure, Result.andThen_ok, Lib.run_convert_string_bytes w src dst e s hs hd he]
  exact hK _ _ h

theorem take_snd {xs : List (Value × ByteArray)} {ts : List ByteArray} {k : Nat} (h : xs.map (·.2) = ts.take k) (hk : k < ts.length) (v : Value) : (xs ++ [(v, ts.getD k ByteArray.empty)]).map (·.2) = ts.take (k + 1) := by
  rw [List.map_append, h, List.take_succ_eq_append_getElem hk]
  simp [List.getD_eq_getElem?_getD, hk]

set_option maxHeartbeats 4000000 in
set_option maxRecDepth 100000 in
theorem all1_in (n : Nat) (hn : 1 ≤ n) (l Bp base p : Nat) (v : Value) (ts : List ByteArray) (w0 W : World) (J Jx : List (Value × ByteArray) → World → Prop)
    (hW : Below w0.heap.size w0 W) (hJ : AbidesFrom W.heap.size J)
    (hY : ∀ pre x W1, J pre W1 → FactB x W1 → pre.length < ts.length → YieldAt Fence.wide (n - 1) Tryd.prog l #[x.1] W1 fun e W' =>
      (e = .returned (.bool true) ∧ J (pre ++ [x]) W' ∧ Kp9 w0.heap.size W1 W') ∨ (e = .returned (.bool false) ∧ Jx (pre ++ [x]) W'))
    (hB : w0.cell? ⟨Bp, 0, none⟩ = some (.pointer (some ⟨p, 0, none⟩))) (hp : PoolAt base p v ts w0) (hz : ts.length ≤ 100) (hsz : ∀ s ∈ ts, s.size ≤ 1000) (h0 : J [] W) :
    CallsIn Fence.wide n Tryd.prog 68 #[.func (.yield l) #[] #[], .pointer (some ⟨Bp, 0, none⟩)] W fun e W' => (∃ v, e = .returned v) ∧
      ((∃ xs : List (Value × ByteArray), xs.map (·.2) = ts ∧ J xs W') ∨ (∃ pre : List (Value × ByteArray), (∃ k, pre.map (·.2) = ts.take k) ∧ Jx pre W')) := by
  obtain ⟨A, c, rfl⟩ := hp.form
  have hbox : W.cell? ⟨Bp, 0, none⟩ = some (.pointer (some ⟨p, 0, none⟩)) := cell_on hW hB
  have hpw := hp.below hW
  have hcell := hpw.cell
  have HOW := Lib.hid hpw.own
  have HJ := Lib.hid hJ
  have HY := Lib.hid hY
  have J0 := Lib.hid h0
  have HW := Lib.hid hW
  have HSZ := Lib.hid hsz
  obtain ⟨m, hm⟩ : ∃ m, m = ts.length := ⟨_, rfl⟩
  have hmz : m ≤ 100 := by omega
  have HM := Lib.hid hm
  rw [← hm] at hcell
  clear hW hJ hY hB hp hpw h0 hsz hm
  have hclone := clone_any base A c ts W HOW.out (by omega)
  rw [← HM.out] at hclone
  have HCL := Lib.hid hclone
  clear hclone
  refine callsIn_of_wp Tryd.func68 rfl trivial ?_ rfl
  simp only [Tryd.ntmps68, List.size_toArray, List.length_cons, List.length_nil, Nat.reduceAdd, Nat.reduceSub, Array.replicate_succ, Array.replicate_zero, List.push_toArray, List.append_toArray, List.nil_append, List.cons_append]
  gi_wp2_with (refine ⟨trivial, ?_⟩; gi_at_call 69; refine (callsIn_wide.2 HCL.out).mono ?_; rintro _ wc ⟨A', c', rfl, hown, hbel⟩; have HOC := Lib.hid hown; have HBC := Lib.hid hbel; clear hown hbel)
  have JC := Lib.hid (abide_ext HJ.out J0.out HBC.out)
  have BC := Lib.hid (HW.out.trans (HBC.out.mono HW.out.size))
  by_cases hm0 : m = 0
  · subst hm0
    have hts : ts = [] := List.eq_nil_of_length_eq_zero HM.out.symm
    gi_loopw [11] (fun i wr => i = .int .i64 0 ∧ Hid (J [] wr)) (fun _ _ => 0)
    case atStart => exact ⟨rfl, JC⟩
    case round =>
      obtain ⟨rfl, hJs⟩ := hrel
      gi_wp2
      go_end0
      exact ⟨⟨_, rfl⟩, .inl ⟨[], by rw [hts]; rfl, hJs.out⟩⟩
  · obtain ⟨g, cur, rfl, hgb, hgc, htk⟩ : ∃ g cur, A' = some ⟨g, 0, none⟩ ∧ w0.heap.size ≤ g ∧ wc.heap[g]? = some (.cells cur 9 (0, 0)) ∧ cur.toList.take m = strs ts := by
      rcases HOC.out.2 with ⟨e, h0⟩ | ⟨g, cap, cur, e, hb, hg, hnc, hm', hs, ht⟩
      · exact absurd h0 (by omega)
      · simp only [Value.slice.injEq] at e
        exact ⟨g, cur, e.1, Nat.le_trans HW.out.size hb, hg, by simpa using ht⟩
    have HGC := Lib.hid hgc
    have HTK := Lib.hid htk
    clear HOC hgc htk hcell hbox
    gi_loopw [11] (fun i wr => ∃ (k : Nat) (pre : List (Value × ByteArray)), k ≤ m ∧ i = .int .i64 k ∧ Hid (pre.map (·.2) = ts.take k) ∧ Hid (J pre wr) ∧ Hid (wr.heap[g]? = some (.cells cur 9 (0, 0))))
      (fun i _ => m - (intOf i).toNat)
    case atStart => exact ⟨0, [], Nat.zero_le _, rfl, Lib.hid rfl, JC, HGC⟩
    case round =>
      clear JC HGC
      obtain ⟨k, pre, hk, rfl, hpre, hJs, hgr⟩ := hrel
      by_cases hlt : k < m
      · have hlen : k < ts.length := by rw [← HM.out]; exact hlt
        have hc0 : wr.cell? ⟨g, k, none⟩ = some (.string (ts.getD k ByteArray.empty)) := by
          rw [cell_of_row _ _ _ _ _ _ hgr.out]
          have h1 : (cur.toList.take m)[k]? = some (.string (ts.getD k ByteArray.empty)) := by
            rw [HTK.out]
            simp [strs, List.getD_eq_getElem?_getD, hlen]
          rw [List.getElem?_take, if_pos hlt] at h1
          simpa using h1
        have hsx := HSZ.out (ts.getD k ByteArray.empty) (by rw [List.getD_eq_getElem?_getD, List.getElem?_eq_getElem hlen]; exact List.getElem_mem _)
        have hnx := fun v => take_snd hpre.out hlen v
        have hpl : pre.length < ts.length := by
          have := congrArg List.length hpre.out
          rw [List.length_map, List.length_take] at this
          omega
        obtain ⟨X, hX⟩ : ∃ X, X = ts.getD k ByteArray.empty := ⟨_, rfl⟩
        rw [← hX] at hc0 hsx
        have hnx2 : ∀ v : Value, (pre ++ [(v, X)]).map (fun x : Value × ByteArray => x.2) = ts.take (k + 1) := fun v => by rw [hX]; exact hnx v
        have HNX := Lib.hid hnx2
        have HPL := Lib.hid hpl
        have HSX := Lib.hid hsx
        clear hX hnx hnx2 hpl hsx hlen hpre
        have hil : (k : Int) < m := by omega
        gi_wp2_with (refine wpListIn_conv_bytes wideF rfl 9 44 5 (.tmp 16) rfl X rfl Tryd.underlying9 Tryd.underlying44 Tryd.underlying5 ?_; have Lx := below_conv wr 5 X; have JX := abide_ext HJ.out hJs.out Lx; have FX : FactB (.slice (some ⟨wr.heap.size, 0, none⟩) X.size (grownCap wr X.size 0 5), X) (Lib.bytesWorld wr 5 X) := ⟨own_conv wr X (by have := HSX.out; omega) (Nat.zero_le _), ⟨_, _, _, rfl⟩⟩; have GX := Lib.hid (blk_below hgr.out Lx); obtain ⟨fn, tmps, assign, body, hy, hR⟩ := HY.out _ (.slice (some ⟨wr.heap.size, 0, none⟩) X.size (grownCap wr X.size 0 5), X) _ JX FX HPL.out; have HRR := Lib.hid hR; dsimp only at hy; clear Lx JX FX hR)
        refine HRR.out.mono ?_
        rintro e W3 (⟨rfl, hJ3, hk3⟩ | ⟨rfl, hJx3⟩)
        · have G3 := Lib.hid (hk3 g cur hgb GX.out)
          have J3 := Lib.hid hJ3
          clear hJ3 HRR hy hc0
          gi_wp2
          go_roundw
          case rel => exact ⟨k + 1, _, by omega, by go_num, Lib.hid (HNX.out _), J3, G3⟩
          case measure => simp [intOf]; omega
        · have hpk := HNX.out (.slice (some ⟨wr.heap.size, 0, none⟩) X.size (grownCap wr X.size 0 5))
          clear HRR hy hc0
          gi_wp2
          refine bodyPost_ret (results_none rfl _ _ _) rfl ?_
          exact ⟨⟨_, rfl⟩, .inr ⟨_, ⟨k + 1, hpk⟩, hJx3⟩⟩
      · obtain rfl : k = m := by omega
        gi_wp2
        go_end0
        exact ⟨⟨_, rfl⟩, .inl ⟨pre, by have := hpre.out; rwa [HM.out, List.take_length] at this, hJs.out⟩⟩

theorem all_stops (n : Nat) (hn : 1 ≤ n) (Bp base p : Nat) (v : Value) (ts : List ByteArray) (w0 : World) (hB : w0.cell? ⟨Bp, 0, none⟩ = some (.pointer (some ⟨p, 0, none⟩))) (hp : PoolAt base p v ts w0) (hz : ts.length ≤ 100) (hsz : ∀ s ∈ ts, s.size ≤ 1000) :
    SeqF n Tryd.prog 68 #[.pointer (some ⟨Bp, 0, none⟩)] (fun x : Value × ByteArray => #[x.1]) FactB (Kp9 w0.heap.size) (fun xs => xs.map (·.2) = ts) (fun pre => ∃ k, pre.map (·.2) = ts.take k) ts.length w0 :=
  fun l J Jx W hW hJ _ hY h0 => all1_in n hn l Bp base p v ts w0 W J Jx hW hJ hY hB hp hz hsz h0

set_option maxHeartbeats 4000000 in
set_option maxRecDepth 100000 in
theorem all_any (p : Nat) (w : World) : Calls Tryd.prog 28 #[.pointer (some ⟨p, 0, none⟩)] w fun e w' => e = .returned (.func (.func 68) #[] #[.pointer (some ⟨w.heap.size, 0, none⟩)]) ∧ w' = w.alloc (.cells #[.pointer (some ⟨p, 0, none⟩)] 42) := by
  go_enter Tryd.func28, Tryd.ntmps28
  go_wp2_with fail
  go_ret
  exact ⟨rfl, rfl⟩
end Go.Proofs.YtideopnblhbngaaDoor
