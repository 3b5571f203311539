/- What the pool's Add does. -/
import Derived.Test.YtideopnblhbngaaDoorPool
import Derived.Test.YtideopnblhbngaaDoorAddApp
import Derived.Test.YtideopnblhbngaaDoorRely2
import Derived.StillTactics
import Derived.OwnWalk
import Derived.Laws.Pointers
namespace Go.Proofs.YtideopnblhbngaaDoor
open Go.RowKit

/-- The sentinels that the pool hands out, as they lie. -/
structure PSen (w : World) (aF aT aU : Addr) : Prop where
  f : w.cell? ⟨3, 0, none⟩ = some (.iface 157 (.pointer (some aF)))
  t : w.cell? ⟨2, 0, none⟩ = some (.iface 157 (.pointer (some aT)))
  u : w.cell? ⟨4, 0, none⟩ = some (.iface 157 (.pointer (some aU)))
theorem PSen.below {w w' : World} {aF aT aU : Addr} (h : PSen w aF aT aU) (hb : Below w.heap.size w w') : PSen w' aF aT aU :=
  ⟨cell_on hb h.f, cell_on hb h.t, cell_on hb h.u⟩

def addOk (ts : List ByteArray) (bs : List Int) : Bool := decide (1 ≤ bs.length ∧ bs.length ≤ 16) && !inT ts (strOfNums bs) && decide (ts.length < 16)
def addT (ts : List ByteArray) (bs : List Int) : List ByteArray := if addOk ts bs then ts ++ [strOfNums bs] else ts
def addV (ts : List ByteArray) (bs : List Int) (aF aT aU : Addr) : Value :=
  if ¬ (1 ≤ bs.length ∧ bs.length ≤ 16) then errV aF else if inT ts (strOfNums bs) then errV aT else if 16 ≤ ts.length then errV aU else .nilIface
theorem addT_no {ts : List ByteArray} {bs : List Int} (h : addOk ts bs = false) : addT ts bs = ts := by unfold addT; rw [h]; rfl
theorem addT_yes {ts : List ByteArray} {bs : List Int} (h : addOk ts bs = true) : addT ts bs = ts ++ [strOfNums bs] := by unfold addT; rw [h]; rfl

theorem gives_build {P : Program} {o : Oper} {ρ : Operand → Value} {w w' : World} {S : Value → World → Prop} (t : TypeId) (n : Nat) (parts : Array (Nat × Operand)) (ho : o.op = .buildSlice t n parts) (pv : Array (Nat × Value)) (hp : (parts.map fun (i, x) => (i, ρ x)) = pv) (v : Value)
    (hr : (Instr.buildSlice t n pv).run P w = .ok v w') (h : S v w') : Gives P o ρ w S := by
  refine gives_val v (w' := w') ?_ h
  unfold execOp
  simp only [ho, hp, Sem.run_bind, hr, Result.andThen_ok, Sem.run_pure]
/-- Worlds that go on but that block g may be written, to just one thing. -/
def Ein (g : Nat) (tg : Array Value) (a b : World) : Prop := But (fun k => k = g) a b ∧ (b.heap[g]? = a.heap[g]? ∨ b.heap[g]? = some (.cells tg 9 (0, 0)))
theorem Ein.refl {g : Nat} {tg : Array Value} (a : World) : Ein g tg a a := ⟨But.refl _ _, .inl rfl⟩
theorem Ein.trans {g : Nat} {tg : Array Value} {a b c : World} (h : Ein g tg a b) (k : Ein g tg b c) : Ein g tg a c := by
  refine ⟨h.1.trans k.1, ?_⟩
  rcases k.2 with e | e
  · rcases h.2 with f | f
    · exact .inl (e.trans f)
    · exact .inr (e.trans f)
  · exact .inr e
theorem But.cellT {S : Nat → Prop} {w w' : World} (h : But S w w') {a : Addr} {v : Value} (hc : w.cell? a = some v) (hs : ¬ S a.block) : w'.cell? a = some v := by
  have hl := World.block_lt_of_cell? w a hc
  rw [← hc]
  exact World.cell?_of_block (h.same a.block hl hs)
theorem But.drewT {S : Nat → Prop} {w W : World} (h : But S w W) : But S w W.drew := h.trans ⟨rfl, rfl, rfl, Nat.le_refl _, fun _ _ _ => rfl⟩
theorem But.allocT {S : Nat → Prop} {w W : World} {o : Obj} (h : But S w W) : But S w (W.alloc o) := h.trans (But.of_below ((Below.refl _ _).alloc (Nat.le_refl _) _))
theorem But.grownT {S : Nat → Prop} {w W W' : World} {row : Option Nat} (h : But S w W) (hg : W.grownBy W' row) (hr : ∀ k, row = some k → S k) : But S w W' :=
  h.trans ⟨hg.os, hg.tape, hg.output, hg.size, fun k hk hs => hg.block k hk fun e => hs (hr k e.symm)⟩
theorem drew_cell {W : World} {a : Addr} {v : Value} (h : W.cell? a = some v) : W.drew.cell? a = some v := h
theorem alloc_cell {W : World} {a : Addr} {v : Value} {o : Obj} (h : W.cell? a = some v) : (W.alloc o).cell? a = some v := cell_on ((Below.refl _ _).alloc (Nat.le_refl _) _) h
theorem free_blk {W : World} {p : Nat} {cs : Array Value} {t : TypeId} (h : W.heap[p]? = some (.cells cs t (0, 0))) : W.frozen? ⟨p, 0, none⟩ = false := by simp [World.frozen?, h]
theorem drew_blk {W : World} {p : Nat} {o : Obj} (h : W.heap[p]? = some o) : W.drew.heap[p]? = some o := h
theorem alloc_blk {W : World} {p : Nat} {o o' : Obj} (h : W.heap[p]? = some o) : (W.alloc o').heap[p]? = some o := blk_below h ((Below.refl _ _).alloc (Nat.le_refl _) _)
theorem drew_own {W : World} {base e s n : Nat} {v : Value} {xs : List Value} (h : W.ownsRow base e s v n xs) : W.drew.ownsRow base e s v n xs := h
theorem alloc_own {W : World} {base e s n : Nat} {v : Value} {xs : List Value} {o : Obj} (h : W.ownsRow base e s v n xs) : (W.alloc o).ownsRow base e s v n xs := h.alloc _
theorem But.setCellT {S : Nat → Prop} {W : World} {p : Nat} {v : Value} (hs : S p) : But S W (W.setCell ⟨p, 0, none⟩ v) :=
  ⟨rfl, rfl, rfl, by rw [World.size_setCell]; exact Nat.le_refl _, fun k _ hk => heap_setCell_other W ⟨p, 0, none⟩ k v (fun e => hk (by rw [e]; exact hs))⟩
theorem setCell_blk {W : World} {p : Nat} {v v' : Value} {t : TypeId} (h : W.heap[p]? = some (.cells #[v] t (0, 0))) : (W.setCell ⟨p, 0, none⟩ v').heap[p]? = some (.cells #[v'] t (0, 0)) := by
  rw [heap_setCell_same W p 0 _ t v' h]; simp
theorem PoolAt.ne {base p : Nat} {v : Value} {ts : List ByteArray} {w : World} (h : PoolAt base p v ts w) : some p ≠ v.ownBlock := by
  rcases h.own.2 with ⟨rfl, _⟩ | ⟨g, _, _, rfl, _, hg, _⟩
  · simp [Value.ownBlock]
  · intro e
    simp only [Value.ownBlock, Option.some.injEq] at e
    subst e
    rw [h.blk] at hg
    simp at hg

set_option maxHeartbeats 8000000 in
set_option maxRecDepth 100000 in
theorem add_any (base p : Nat) (v : Value) (ts : List ByteArray) (bs : List Int) (B : Option Addr) (m d : Nat) (aF aT aU : Addr) (w : World) (h : PoolAt base p v ts w) (hx : Bs w (.slice B m d) bs)
    (hst : ∀ W, But (PoolS p v) w W → Bs W (.slice B m d) bs) (hs : PSen w aF aT aU) (hz : ts.length ≤ 16) :
    Calls Tryd.prog 26 #[.pointer (some ⟨p, 0, none⟩), .slice B m d] w fun e w' => e = .returned (addV ts bs aF aT aU) ∧
      ∃ v', PoolAt base p v' (addT ts bs) w' ∧ But (PoolS p v) w w' ∧ (v'.ownBlock = v.ownBlock ∨ ∃ b, v'.ownBlock = some b ∧ w.heap.size ≤ b) := by
  have hm := hx.len
  have hf := hs.f
  have H := Lib.hid h
  have HX := Lib.hid hx
  have HS := Lib.hid hs
  have HM := Lib.hid hm
  have HST := Lib.hid hst
  clear h hx hs hm hst
  go_enter Tryd.func26, Tryd.ntmps26
  by_cases h1 : m < 1
  · have h1' : (m : Int) < 1 := by omega
    go_wp2_with fail
    go_ret
    refine ⟨?_, v, ?_, But.refl _ _, .inl rfl⟩
    · unfold addV; rw [if_pos (by rw [← HM.out]; omega)]; rfl
    · rw [addT_no (by unfold addOk; rw [decide_eq_false (by rw [← HM.out]; omega)]; rfl)]; exact H.out
  have h1' : ¬ (m : Int) < 1 := by omega
  by_cases h2 : 16 < m
  · have h2' : (16 : Int) < m := by omega
    go_wp2_with fail
    go_ret
    refine ⟨?_, v, ?_, But.refl _ _, .inl rfl⟩
    · unfold addV; rw [if_pos (by rw [← HM.out]; omega)]; rfl
    · rw [addT_no (by unfold addOk; rw [decide_eq_false (by rw [← HM.out]; omega)]; rfl)]; exact H.out
  have h2' : ¬ (16 : Int) < m := by omega
  have hlen : 1 ≤ bs.length ∧ bs.length ≤ 16 := by rw [← HM.out]; omega
  go_wp2_with fail
  refine (has_any base p v ts bs B m d w H.out HX.out (by omega)).mono ?_
  rintro _ wa ⟨rfl, bel1⟩
  have ht1 := cell_on bel1 HS.out.t
  have hu1 := cell_on bel1 HS.out.u
  have H1 := Lib.hid (H.out.below bel1)
  have HX1 := Lib.hid (HX.out.below bel1)
  have B1 := Lib.hid bel1
  clear bel1 hf
  cases hin : inT ts (strOfNums bs) with
  | true =>
    go_wp2_with fail
    go_ret
    refine ⟨?_, v, ?_, But.of_below B1.out, .inl rfl⟩
    · unfold addV; rw [if_neg (fun h => h hlen), if_pos hin]; rfl
    · rw [addT_no (by unfold addOk; rw [hin]; simp)]; exact H1.out
  | false =>
    obtain ⟨A, c, rfl⟩ := H.out.form
    have hcell := H1.out.cell
    by_cases h3 : 16 ≤ ts.length
    · have h3' : (16 : Int) ≤ ts.length := by omega
      go_wp2_with fail
      go_ret
      refine ⟨?_, _, ?_, But.of_below B1.out, .inl rfl⟩
      · unfold addV; rw [if_neg (fun h => h hlen), if_neg (by rw [hin]; simp), if_pos h3]; rfl
      · rw [addT_no (by unfold addOk; rw [decide_eq_false (show ¬ ts.length < 16 by omega), Bool.and_false])]; exact H1.out
    · have h3' : ¬ (16 : Int) ≤ ts.length := by omega
--CUT
      go_wp2_with fail
      have hcv : ∀ W, But (PoolS p (.slice A ts.length c)) w W → (convert 44 9 (.slice B m d)).run Tryd.prog W = .ok (.string (strOfNums bs)) W := fun W hW => conv_bs (HST.out W hW) W (Below.refl _ _)
      have hb1 : But (PoolS p (.slice A ts.length c)) w wa := But.of_below B1.out
      have hpblk := H1.out.blk
      have hownA := H1.out.own
      have hbase : base ≤ wa.heap.size := by have := H1.out.hp; have := blk_lt hpblk; omega
      have hpl := blk_lt hpblk
      have HPP := Lib.hid H1.out.hp
      have hok : addOk ts bs = true := by unfold addOk; rw [decide_eq_true hlen, hin, decide_eq_true (show ts.length < 16 by omega)]; rfl
      have HAT := Lib.hid (addT_yes hok)
      have HAV : Hid (addV ts bs aF aT aU = .nilIface) := Lib.hid (by unfold addV; rw [if_neg (fun h => h hlen), if_neg (by rw [hin]; simp), if_neg h3])
      have hne := H1.out.ne
      clear ht1 hu1 hok H H1 HX HX1 HS HM
      by_cases hroom : ts.length < c
      · obtain ⟨g, cur, rfl, hbg, hgc, hcm, hcs, htk⟩ : ∃ g cur, A = some ⟨g, 0, none⟩ ∧ base ≤ g ∧ wa.heap[g]? = some (.cells cur 9 (0, 0)) ∧ c ≤ maxLen ∧ cur.size = c ∧ cur.toList.take ts.length = strs ts := by
          rcases hownA.2 with ⟨e, h0⟩ | ⟨g, cap, cur, e, hb, hg, hnc, hm, hs, ht⟩
          · simp only [Value.slice.injEq] at e
            omega
          · simp only [Value.slice.injEq] at e
            obtain ⟨rfl, _, rfl⟩ := e
            exact ⟨g, cur, rfl, hb, hg, hm, by omega, by simpa using ht⟩
        have hpg : ¬ p = g := fun e => hne (by rw [e]; rfl)
        have hg0 : g < wa.heap.size := blk_lt hgc
        refine wp_region_rely2 (by kernel_rfl) 9 (by kernel_rfl) (by kernel_rfl) (Ein g (putAt cur ts.length (strOfNums bs))) Ein.refl Ein.trans (fun ix => match ix with
          | 0 => fun _ v => v = .pointer (some ⟨p, 0, none⟩)
          | 1 => fun _ v => v = .pointer (some ⟨p, 0, none⟩)
          | 2 => fun _ v => v = .pointer (some ⟨p, 0, none⟩)
          | 3 => fun _ v => v = .pointer (some ⟨p, 0, none⟩)
          | 4 => fun _ v => v = .slice (some ⟨g, 0, none⟩) ts.length c
          | 5 => fun _ v => v = .slice B m d
          | 6 => fun _ v => v = .string (strOfNums bs)
          | 7 => fun w v => ∃ b, v = .slice (some ⟨b, 0, none⟩) 1 1 ∧ w.heap[b]? = some (.cells #[.string (strOfNums bs)] 9 (0, 0)) ∧ b ≠ g
          | 8 => fun w v => v = .slice (some ⟨g, 0, none⟩) (ts.length + 1) c ∧ w.heap[g]? = some (.cells (putAt cur ts.length (strOfNums bs)) 9 (0, 0))
          | _ => fun _ _ => False) ?_
        simp (maxSteps := 10000000) only [Rely, List.take_succ_cons, List.take_zero, List.drop_succ_cons, List.drop_zero, Nat.reduceAdd, Nat.zero_add, Act.put, List.setIfInBounds_toArray, List.set_cons_succ, List.set_cons_zero]
        refine ⟨?_, ?_, ?_, ?_, ?_, ?_, ?_, ?_, ?_, ?_⟩
        · refine step_plain rfl fun vs w1 hE hd => ?_
          exact gives_move _ (.pointer (some ⟨p, 0, none⟩)) (.inl rfl) rfl ⟨Ein.refl _, fun _ _ => rfl⟩
        · refine step_plain rfl fun vs w1 hE hd => ?_
          exact gives_move _ (.pointer (some ⟨p, 0, none⟩)) (.inl rfl) rfl ⟨Ein.refl _, fun _ _ => rfl⟩
        · refine step_plain rfl fun vs w1 hE hd => ?_
          exact gives_nilCheck _ rfl ⟨p, 0, none⟩ (show vs 1 = _ from (hd.1)) ⟨Ein.refl _, fun _ _ => rfl⟩
        · refine step_plain rfl fun vs w1 hE hd => ?_
          exact gives_fieldAddr' 109 _ 0 rfl (.pointer (some ⟨p, 0, none⟩)) _ (show vs 2 = _ from (hd.1)) (by go_simp) ⟨Ein.refl _, fun _ _ => rfl⟩
        · refine step_plain rfl fun vs w1 hE hd => ?_
          have hc := (But.cellT hE.1 (drew_cell hcell) hpg)
          exact gives_loadAt 65 _ rfl (.pointer (some ⟨p, 0, none⟩)) (.slice (some ⟨g, 0, none⟩) ts.length c) (show vs 3 = _ from hd.1) (by go_simp) ⟨Ein.refl _, fun _ _ => rfl⟩
        · refine step_plain rfl fun vs w1 hE hd => ?_
          exact gives_move _ (.slice B m d) (.inl rfl) rfl ⟨Ein.refl _, fun _ _ => rfl⟩
        · refine step_plain rfl fun vs w1 hE hd => ?_
          exact gives_convert 44 9 _ rfl (.slice B m d) _ (show vs 5 = _ from (hd.1)) (hcv _ (hb1.trans ((But.drewT (But.refl _ _)).trans (hE.1.mono (fun k _ e => .inr (by rw [e]; rfl)))))) ⟨Ein.refl _, fun _ _ => rfl⟩
        · refine step_plain rfl fun vs w1 hE hd => ?_
          have hgl : g < w1.heap.size := Nat.lt_of_lt_of_le hg0 hE.1.size
          refine gives_build 65 1 _ rfl #[(0, .string (strOfNums bs))] (by simp [Act.eval, show vs 6 = _ from (hd.1)]) (.slice (some ⟨w1.heap.size, 0, none⟩) 1 1) (w' := w1.alloc (.cells #[.string (strOfNums bs)] 9)) (by go_simp) ⟨⟨But.of_below ((Below.refl _ _).alloc (Nat.le_refl _) _), .inl (Below.heap_alloc _ _ g hgl)⟩, fun w'' hE2 => ?_⟩
          exact ⟨w1.heap.size, rfl, hE2.1.blk (heap_alloc_new w1 _) (by omega), by omega⟩
        · refine step_plain rfl fun vs w1 hE hd => ?_
          obtain ⟨b, hb7, hbb, hbg⟩ := (hd.2.1)
          have hcases : ∃ cu : Array Value, w1.heap[g]? = some (.cells cu 9 (0, 0)) ∧ cu.size = c ∧ putAt cu ts.length (strOfNums bs) = putAt cur ts.length (strOfNums bs) := by
            rcases hE.2 with h | h
            · exact ⟨cur, h.trans hgc, hcs, rfl⟩
            · exact ⟨_, h, by rw [putAt_size _ _ _ (by omega)]; exact hcs, putAt_twice _ _ _ (by omega)⟩
          obtain ⟨cu, hcu, hcus, heq⟩ := hcases
          have hnew : (w1.setRow g (putAt cu ts.length (strOfNums bs))).heap[g]? = some (.cells (putAt cur ts.length (strOfNums bs)) 9 (0, 0)) := by rw [heq]; exact setRow_heap w1 g cu _ 9 (0, 0) hcu
          refine gives_append_in _ _ rfl g ts.length c b (strOfNums bs) cu (show vs 4 = _ from (hd.1)) (show vs 7 = _ from hb7) hbb hcu hcus hroom ⟨⟨⟨rfl, rfl, rfl, by simp, fun k _ hk => setRow_other w1 g k _ hk⟩, .inr hnew⟩, fun w'' hE2 => ⟨rfl, ?_⟩⟩
          rcases hE2.2 with h | h
          · exact h.trans hnew
          · exact h
        · intro vs w2 hE hR
          obtain ⟨hl8, hg8⟩ := hR 8 (by omega)
          have hl0 : vs 0 = .pointer (some ⟨p, 0, none⟩) := hR 0 (by omega)
          rw [hl8, hl0]
          have hp2 : w2.heap[p]? = some (.cells #[.slice (some ⟨g, 0, none⟩) ts.length c] 109 (0, 0)) := hE.1.blk (drew_blk hpblk) hpg
          have hc2 : w2.cell? ⟨p, 0, none⟩ = some (.slice (some ⟨g, 0, none⟩) ts.length c) := by simp [World.cell?, hp2]
          have hf2 := free_blk hp2
          have hbw : But (PoolS p (.slice (some ⟨g, 0, none⟩) ts.length c)) w w2 := hb1.trans ((But.drewT (But.refl _ _)).trans (hE.1.mono (fun k _ e => .inr (by rw [e]; rfl))))
          have HG8 := Lib.hid hg8
          have HP2 := Lib.hid hp2
          have HBW := Lib.hid hbw
          clear hR hE hl8 hl0 hg8 hp2 hbw
          go_wp2_with fail
          go_ret
          refine ⟨by rw [HAV.out]; rfl, .slice (some ⟨g, 0, none⟩) (ts.length + 1) c, ?_, ?_, .inl rfl⟩
          · rw [HAT.out]
            refine ⟨setCell_blk HP2.out, ⟨by simp [strs], .inr ⟨g, c, putAt cur ts.length (strOfNums bs), ?_, hbg, ?_, by simp; omega, hcm, by rw [putAt_size _ _ _ (by omega), hcs]; omega, ?_⟩⟩, HPP.out⟩
            · rw [List.length_append]; rfl
            · exact (heap_setCell_other _ ⟨p, 0, none⟩ g _ (fun e => hpg e.symm)).trans HG8.out
            · rw [List.length_append]
              show List.take ((ts.length + 1) * 1) _ = _
              rw [Nat.mul_one, putAt_take _ _ _ (by omega), htk]
              simp [strs]
          · exact HBW.out.trans (But.setCellT (.inl rfl))
      · skip
        refine wp_region_rely2 (by kernel_rfl) 9 (by kernel_rfl) (by kernel_rfl) Ext Ext.refl Ext.trans (fun ix => match ix with
          | 0 => fun _ v => v = .pointer (some ⟨p, 0, none⟩)
          | 1 => fun _ v => v = .pointer (some ⟨p, 0, none⟩)
          | 2 => fun _ v => v = .pointer (some ⟨p, 0, none⟩)
          | 3 => fun _ v => v = .pointer (some ⟨p, 0, none⟩)
          | 4 => fun _ v => v = .slice A ts.length c
          | 5 => fun _ v => v = .slice B m d
          | 6 => fun _ v => v = .string (strOfNums bs)
          | 7 => fun w v => ∃ b, v = .slice (some ⟨b, 0, none⟩) 1 1 ∧ w.heap[b]? = some (.cells #[.string (strOfNums bs)] 9 (0, 0))
          | 8 => fun w v => (∃ b, v.ownBlock = some b ∧ wa.heap.size ≤ b) ∧ w.ownsRow base 9 1 v (ts.length + 1) (strs (ts ++ [(strOfNums bs)]))
          | _ => fun _ _ => False) ?_
        simp (maxSteps := 10000000) only [Rely, List.take_succ_cons, List.take_zero, List.drop_succ_cons, List.drop_zero, Nat.reduceAdd, Nat.zero_add, Act.put, List.setIfInBounds_toArray, List.set_cons_succ, List.set_cons_zero]
        refine ⟨?_, ?_, ?_, ?_, ?_, ?_, ?_, ?_, ?_, ?_⟩
        · refine step_plain rfl fun vs w1 hE hd => ?_
          exact gives_move _ (.pointer (some ⟨p, 0, none⟩)) (.inl rfl) rfl ⟨Ext.refl _, fun _ _ => rfl⟩
        · refine step_plain rfl fun vs w1 hE hd => ?_
          exact gives_move _ (.pointer (some ⟨p, 0, none⟩)) (.inl rfl) rfl ⟨Ext.refl _, fun _ _ => rfl⟩
        · refine step_plain rfl fun vs w1 hE hd => ?_
          exact gives_nilCheck _ rfl ⟨p, 0, none⟩ (show vs 1 = _ from (hd.1)) ⟨Ext.refl _, fun _ _ => rfl⟩
        · refine step_plain rfl fun vs w1 hE hd => ?_
          exact gives_fieldAddr' 109 _ 0 rfl (.pointer (some ⟨p, 0, none⟩)) _ (show vs 2 = _ from (hd.1)) (by go_simp) ⟨Ext.refl _, fun _ _ => rfl⟩
        · refine step_plain rfl fun vs w1 hE hd => ?_
          have hc := (cell_on (ext_of_drew hE) hcell)
          exact gives_loadAt 65 _ rfl (.pointer (some ⟨p, 0, none⟩)) (.slice A ts.length c) (show vs 3 = _ from hd.1) (by go_simp) ⟨Ext.refl _, fun _ _ => rfl⟩
        · refine step_plain rfl fun vs w1 hE hd => ?_
          exact gives_move _ (.slice B m d) (.inl rfl) rfl ⟨Ext.refl _, fun _ _ => rfl⟩
        · refine step_plain rfl fun vs w1 hE hd => ?_
          exact gives_convert 44 9 _ rfl (.slice B m d) _ (show vs 5 = _ from (hd.1)) (hcv _ (hb1.trans (But.of_below (ext_of_drew hE)))) ⟨Ext.refl _, fun _ _ => rfl⟩
        · refine step_plain rfl fun vs w1 hE hd => ?_
          refine gives_build 65 1 _ rfl #[(0, .string (strOfNums bs))] (by simp [Act.eval, show vs 6 = _ from (hd.1)]) (.slice (some ⟨w1.heap.size, 0, none⟩) 1 1) (w' := w1.alloc (.cells #[.string (strOfNums bs)] 9)) (by go_simp) ⟨(Below.refl _ _).alloc (Nat.le_refl _) _, fun w'' hE2 => ?_⟩
          exact ⟨w1.heap.size, rfl, blk_below (heap_alloc_new w1 _) hE2⟩
        · refine step_plain rfl fun vs w1 hE hd => ?_
          obtain ⟨b, hb7, hbb⟩ := (hd.2.1)
          have hbs : wa.heap.size ≤ w1.heap.size := (ext_of_drew hE).size
          refine gives_append_grow _ _ rfl base b c A (strOfNums bs) ts (show vs 4 = _ from (hd.1)) (show vs 7 = _ from hb7) hbb (hownA.kept (row := none) ⟨(ext_of_drew hE).os, (ext_of_drew hE).tape, (ext_of_drew hE).output, (ext_of_drew hE).size, fun k hk _ => (ext_of_drew hE).block k hk⟩ (by cases h' : Value.ownBlock (.slice A ts.length c) <;> simp)) (by omega) (by omega) (by omega) fun v w' h1 h2 h3 => ⟨h3, fun w'' hE2 => ⟨⟨_, h1, hbs⟩, h2.kept (row := none) ⟨hE2.os, hE2.tape, hE2.output, hE2.size, fun k hk _ => hE2.block k hk⟩ (by rw [h1]; exact .inr (by simp))⟩⟩
        · intro vs w2 hE hR
          obtain ⟨⟨b8, hb8, hbl8⟩, hown8⟩ := hR 8 (by omega)
          have hpw : w2.heap[p]? = some (.cells #[.slice A ts.length c] 109 (0, 0)) := blk_below hpblk (ext_of_drew hE)
          have hc2 : w2.cell? ⟨p, 0, none⟩ = some (.slice A ts.length c) := by simp [World.cell?, hpw]
          have hf2 := free_blk hpw
          have hbw : But (PoolS p (.slice A ts.length c)) w w2 := hb1.trans (But.of_below (ext_of_drew hE))
          have hl0 : vs 0 = .pointer (some ⟨p, 0, none⟩) := hR 0 (by omega)
          rw [hl0]
          obtain ⟨v8, hv8⟩ : ∃ v, v = vs 8 := ⟨_, rfl⟩
          rw [← hv8] at hb8 hown8 ⊢
          obtain ⟨g8, c8, rfl⟩ := ownsRow_succ hown8
          have HO8 := Lib.hid hown8
          have HP2 := Lib.hid hpw
          have HBW := Lib.hid hbw
          have HB8 := Lib.hid hb8
          clear hR hE hl0 hown8 hpw hbw hv8 hb8
          go_wp2_with fail
          go_ret
          refine ⟨by rw [HAV.out]; rfl, .slice (some ⟨g8, 0, none⟩) (ts.length + 1) c8, ?_, ?_, .inr ⟨b8, HB8.out, Nat.le_trans hb1.size hbl8⟩⟩
          · rw [HAT.out]
            refine ⟨setCell_blk HP2.out, ?_, HPP.out⟩
            rw [List.length_append]
            refine HO8.out.kept (grownBy_setCell' _ _ _) (.inr (fun e => ?_))
            rw [HB8.out] at e
            simp only [Option.some.injEq] at e
            omega
          · exact HBW.out.trans (But.setCellT (.inl rfl))
end Go.Proofs.YtideopnblhbngaaDoor
