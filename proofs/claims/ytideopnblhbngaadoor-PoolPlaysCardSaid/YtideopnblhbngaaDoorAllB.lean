/- The iterator over the pool: what it hands out is new. -/
import Derived.Test.YtideopnblhbngaaDoorAll
import Derived.Test.YtideopnblhbngaaDoorSeqP
import Derived.Test.YtideopnblhbngaaDoorTake
namespace Go.Proofs.YtideopnblhbngaaDoor
open Go.RowKit Go.Shelf
attribute [local go_sem] Oper.semAt_some

/-- As FactB, and the bytes lie from B on. -/
def FB (B : Nat) (x : Value × ByteArray) (W : World) : Prop := FactB x W ∧ ∀ k, x.1.ownBlock = some k → B ≤ k
theorem FB.same {B : Nat} {x : Value × ByteArray} {W W' : World} (h : FB B x W) (hs : ∀ k, x.1.ownBlock = some k → k < W.heap.size → W'.heap[k]? = W.heap[k]?) : FB B x W' := ⟨h.1.same hs, h.2⟩
theorem FB.below {B : Nat} {x : Value × ByteArray} {W W' : World} (h : FB B x W) (hb : Below W.heap.size W W') : FB B x W' := ⟨h.1.below hb, h.2⟩
theorem FB.blk {B : Nat} {x : Value × ByteArray} {W : World} (h : FB B x W) : ∀ k, x.1.ownBlock = some k → ∃ cs fr, W.heap[k]? = some (.cells cs 5 fr) := h.1.blk
theorem FB.grown {B : Nat} {x : Value × ByteArray} {W W' : World} {row : Option Nat} (h : FB B x W) (hg : W.grownBy W' row) (hr : ∀ k cs fr, row = some k → W.heap[k]? ≠ some (.cells cs 5 fr)) : FB B x W' := ⟨h.1.grown hg hr, h.2⟩
theorem FB.bs {B : Nat} {x : Value × ByteArray} {W : World} (h : FB B x W) : Bs W x.1 (sb x.2) := h.1.bs
theorem fb_put {B : Nat} (x : Value × ByteArray) (W : World) (l : Nat) (o o' : Obj) (hl : W.heap[l]? = some o) (ho : o.isCells = false) (h : FB B x W) : FB B x (W.putObj l o') := ⟨factB_put x W l o o' hl ho h.1, h.2⟩

set_option maxHeartbeats 4000000 in
set_option maxRecDepth 100000 in
theorem all1_inB (B : Nat) (n : Nat) (hn : 1 ≤ n) (l Bp base p : Nat) (v : Value) (ts : List ByteArray) (w0 W : World) (J Jx : List (Value × ByteArray) → World → Prop)
    (hBB : B ≤ w0.heap.size) (hW : Below w0.heap.size w0 W) (hJ : AbidesFrom W.heap.size J)
    (hY : ∀ pre x W1, J pre W1 → FB B x W1 → pre.length < ts.length → (∃ k, (pre ++ [x]).map (·.2) = ts.take k) → YieldAt Fence.wide (n - 1) Tryd.prog l #[x.1] W1 fun e W' =>
      (e = .returned (.bool true) ∧ J (pre ++ [x]) W' ∧ Kp9 w0.heap.size W1 W') ∨ (e = .returned (.bool false) ∧ Jx (pre ++ [x]) W'))
    (hB : w0.cell? ⟨Bp, 0, none⟩ = some (.pointer (some ⟨p, 0, none⟩))) (hp : PoolAt base p v ts w0) (hz : ts.length ≤ 100) (hsz : ∀ s ∈ ts, s.size ≤ 1000) (h0 : J [] W) :
    CallsIn Fence.wide n Tryd.prog 68 #[.func (.yield l) #[] #[], .pointer (some ⟨Bp, 0, none⟩)] W fun e W' => (∃ v, e = .returned v) ∧
      ((∃ xs : List (Value × ByteArray), xs.map (·.2) = ts ∧ J xs W') ∨ (∃ pre : List (Value × ByteArray), (∃ k, pre.map (·.2) = ts.take k) ∧ Jx pre W')) := by
  obtain ⟨A, c, rfl⟩ := hp.form
  have hbox : W.cell? ⟨Bp, 0, none⟩ = some (.pointer (some ⟨p, 0, none⟩)) := cell_on hW hB
  have hpw := hp.below hW
  have hcell := hpw.cell
  have HOW := Lib.hid hpw.own
  have HJ := Lib.hid hJ
  have HY := Lib.hid hY
  have J0 := Lib.hid h0
  have HW := Lib.hid hW
  have HSZ := Lib.hid hsz
  obtain ⟨m, hm⟩ : ∃ m, m = ts.length := ⟨_, rfl⟩
  have hmz : m ≤ 100 := by omega
  have HM := Lib.hid hm
  rw [← hm] at hcell
  clear hW hJ hY hB hp hpw h0 hsz hm
  have hclone := clone_any base A c ts W HOW.out (by omega)
  rw [← HM.out] at hclone
  have HCL := Lib.hid hclone
  clear hclone
  refine callsIn_of_wp Tryd.func68 rfl trivial ?_ rfl
  simp only [Tryd.ntmps68, List.size_toArray, List.length_cons, List.length_nil, Nat.reduceAdd, Nat.reduceSub, Array.replicate_succ, Array.replicate_zero, List.push_toArray, List.append_toArray, List.nil_append, List.cons_append]
  gi_wp2_with (refine ⟨trivial, ?_⟩; gi_at_call 69; refine (callsIn_wide.2 HCL.out).mono ?_; rintro _ wc ⟨A', c', rfl, hown, hbel⟩; have HOC := Lib.hid hown; have HBC := Lib.hid hbel; clear hown hbel)
  have JC := Lib.hid (abide_ext HJ.out J0.out HBC.out)
  have BC := Lib.hid (HW.out.trans (HBC.out.mono HW.out.size))
  by_cases hm0 : m = 0
  · subst hm0
    have hts : ts = [] := List.eq_nil_of_length_eq_zero HM.out.symm
    gi_loopw [11] (fun i wr => i = .int .i64 0 ∧ Hid (J [] wr)) (fun _ _ => 0)
    case atStart => exact ⟨rfl, JC⟩
    case round =>
      obtain ⟨rfl, hJs⟩ := hrel
      gi_wp2
      go_end0
      exact ⟨⟨_, rfl⟩, .inl ⟨[], by rw [hts]; rfl, hJs.out⟩⟩
  · obtain ⟨g, cur, rfl, hgb, hgc, htk⟩ : ∃ g cur, A' = some ⟨g, 0, none⟩ ∧ w0.heap.size ≤ g ∧ wc.heap[g]? = some (.cells cur 9 (0, 0)) ∧ cur.toList.take m = strs ts := by
      rcases HOC.out.2 with ⟨e, h0⟩ | ⟨g, cap, cur, e, hb, hg, hnc, hm', hs, ht⟩
      · exact absurd h0 (by omega)
      · simp only [Value.slice.injEq] at e
        exact ⟨g, cur, e.1, Nat.le_trans HW.out.size hb, hg, by simpa using ht⟩
    have HGC := Lib.hid hgc
    have HTK := Lib.hid htk
    clear HOC hgc htk hcell hbox
    gi_loopw [11] (fun i wr => ∃ (k : Nat) (pre : List (Value × ByteArray)), k ≤ m ∧ i = .int .i64 k ∧ Hid (pre.map (·.2) = ts.take k) ∧ Hid (J pre wr) ∧ Hid (wr.heap[g]? = some (.cells cur 9 (0, 0))))
      (fun i _ => m - (intOf i).toNat)
    case atStart => exact ⟨0, [], Nat.zero_le _, rfl, Lib.hid rfl, JC, HGC⟩
    case round =>
      clear JC HGC
      obtain ⟨k, pre, hk, rfl, hpre, hJs, hgr⟩ := hrel
      by_cases hlt : k < m
      · have hlen : k < ts.length := by rw [← HM.out]; exact hlt
        have hc0 : wr.cell? ⟨g, k, none⟩ = some (.string (ts.getD k ByteArray.empty)) := by
          rw [cell_of_row _ _ _ _ _ _ hgr.out]
          have h1 : (cur.toList.take m)[k]? = some (.string (ts.getD k ByteArray.empty)) := by
            rw [HTK.out]
            simp [strs, List.getD_eq_getElem?_getD, hlen]
          rw [List.getElem?_take, if_pos hlt] at h1
          simpa using h1
        have hsx := HSZ.out (ts.getD k ByteArray.empty) (by rw [List.getD_eq_getElem?_getD, List.getElem?_eq_getElem hlen]; exact List.getElem_mem _)
        have hnx := fun v => take_snd hpre.out hlen v
        have hpl : pre.length < ts.length := by
          have := congrArg List.length hpre.out
          rw [List.length_map, List.length_take] at this
          omega
        obtain ⟨X, hX⟩ : ∃ X, X = ts.getD k ByteArray.empty := ⟨_, rfl⟩
        rw [← hX] at hc0 hsx
        have hnx2 : ∀ v : Value, (pre ++ [(v, X)]).map (fun x : Value × ByteArray => x.2) = ts.take (k + 1) := fun v => by rw [hX]; exact hnx v
        have HNX := Lib.hid hnx2
        have HPL := Lib.hid hpl
        have HSX := Lib.hid hsx
        clear hX hnx hnx2 hpl hsx hlen hpre
        have hil : (k : Int) < m := by omega
        gi_wp2_with (refine wpListIn_conv_bytes wideF rfl 9 44 5 (.tmp 16) rfl X rfl Tryd.underlying9 Tryd.underlying44 Tryd.underlying5 ?_; have Lx := below_conv wr 5 X; have JX := abide_ext HJ.out hJs.out Lx; have FX : FB B (.slice (some ⟨wr.heap.size, 0, none⟩) X.size (grownCap wr X.size 0 5), X) (Lib.bytesWorld wr 5 X) := ⟨⟨own_conv wr X (by have := HSX.out; omega) (Nat.zero_le _), ⟨_, _, _, rfl⟩⟩, fun k hk => (by have h9 := blk_lt hgr.out; simp only [Value.ownBlock, Option.some.injEq] at hk; omega)⟩; have GX := Lib.hid (blk_below hgr.out Lx); obtain ⟨fn, tmps, assign, body, hy, hR⟩ := HY.out _ (.slice (some ⟨wr.heap.size, 0, none⟩) X.size (grownCap wr X.size 0 5), X) _ JX FX HPL.out ⟨k + 1, HNX.out _⟩; have HRR := Lib.hid hR; dsimp only at hy; clear Lx JX FX hR)
        refine HRR.out.mono ?_
        rintro e W3 (⟨rfl, hJ3, hk3⟩ | ⟨rfl, hJx3⟩)
        · have G3 := Lib.hid (hk3 g cur hgb GX.out)
          have J3 := Lib.hid hJ3
          clear hJ3 HRR hy hc0
          gi_wp2
          go_roundw
          case rel => exact ⟨k + 1, _, by omega, by go_num, Lib.hid (HNX.out _), J3, G3⟩
          case measure => simp [intOf]; omega
        · have hpk := HNX.out (.slice (some ⟨wr.heap.size, 0, none⟩) X.size (grownCap wr X.size 0 5))
          clear HRR hy hc0
          gi_wp2
          refine bodyPost_ret (results_none rfl _ _ _) rfl ?_
          exact ⟨⟨_, rfl⟩, .inr ⟨_, ⟨k + 1, hpk⟩, hJx3⟩⟩
      · obtain rfl : k = m := by omega
        gi_wp2
        go_end0
        exact ⟨⟨_, rfl⟩, .inl ⟨pre, by have := hpre.out; rwa [HM.out, List.take_length] at this, hJs.out⟩⟩

theorem all_stopsB (B : Nat) (n : Nat) (hn : 1 ≤ n) (Bp base p : Nat) (v : Value) (ts : List ByteArray) (w0 : World) (hBB : B ≤ w0.heap.size) (hB : w0.cell? ⟨Bp, 0, none⟩ = some (.pointer (some ⟨p, 0, none⟩))) (hp : PoolAt base p v ts w0) (hz : ts.length ≤ 100) (hsz : ∀ s ∈ ts, s.size ≤ 1000) :
    SeqP n Tryd.prog 68 #[.pointer (some ⟨Bp, 0, none⟩)] (fun x : Value × ByteArray => #[x.1]) (FB B) (Kp9 w0.heap.size) (fun xs => xs.map (·.2) = ts) (fun pre => ∃ k, pre.map (·.2) = ts.take k) ts.length w0 :=
  fun l J Jx W hW hJ _ hY h0 => all1_inB B n hn l Bp base p v ts w0 W J Jx hBB hW hJ hY hB hp hz hsz h0

end Go.Proofs.YtideopnblhbngaaDoor
