/- Lemmas that laws of this seat rest on, part 14; each says its own conditions: EqV, SameG, KitE, FV, UTalN0, Sgd, Qit, Gq, QcR. -/
import Derived.Deep.Upon
import Derived.RangeFuncNested
import Derived.RangeFuncBound
import Derived.RangeFuncCalls
import Derived.RangeFuncLeaves
import Derived.Shelf.Abstract
import Derived.Shelf.RegionOpen
import Derived.WalkKit
import Derived.OwnWalkIn
import Derived.TacticsInMore
import Derived.LoopNIn
import Derived.LoopIn
import Derived.WalkSpells
import Derived.Maps.AppendAt
import Derived.Deep.MidRow
import Derived.Deep.AppendSrc
import Derived.Lib.Hide
import Derived.OrdersIn
import Derived.Orders
import Derived.Test.YtniknhhejlgdfaaGreatDoorProg
import Derived.Deep.QuietTactic
import Derived.BigQuiet
import Derived.Laws.Bits64b
import Derived.Laws.Bits64
import Derived.Test.YtniknhhejlgdfaaGreatDoorBase5
import Derived.Test.YtniknhhejlgdfaaGreatDoorBase6
import Derived.Test.YtniknhhejlgdfaaGreatDoorBase7
import Derived.Test.YtniknhhejlgdfaaGreatDoorBase8
import Derived.Test.YtniknhhejlgdfaaGreatDoorBase9
import Derived.Test.YtniknhhejlgdfaaGreatDoorBase10
import Derived.Test.YtniknhhejlgdfaaGreatDoorBase13
/- A validator equals itself; validators are appended to a new row. -/
namespace Go.Proofs.YtniknhhejlgdfaaGreatDoor
open Go.RowKit
set_option maxHeartbeats 2000000 in
set_option maxRecDepth 100000 in
theorem run_eql45 (x : Va) (h : x.1.length = 16) (W : World) : (binOp .eql 90 (.agg (vcells x).toArray) (.agg (vcells x).toArray)).run Tryz.prog W = .ok (.bool true) W := by
  obtain ⟨k, p⟩ := x
  have h9 := run_equalIn_bytes (P := Tryz.prog) (w := W) 9997 24 5 16 k k Tryz.underlying24 Tryz.underlying5 (by kernel_rfl) h h
  rw [decide_eq_true rfl] at h9
  obtain ⟨_, _, _, _, _, _, _, _, _, _, _, _, _, _, _, _, rfl⟩ := len16 h
  unfold u8s at h9
  simp only [List.map_cons, List.map_nil] at h9
  unfold vcells u8s
  simp only [List.map_cons, List.map_nil, List.cons_append, List.nil_append]
  go_simp
section
variable {ops : Array Oper} {rest : List Oper} {o : Oper} {a : Act} {w : World} {Q : Exit → Act → World → Prop}
theorem wpList_appV (hw : Region.wanted o (yielded ops a.tmps) = true) (s x : Operand) (ho : o.op = .call { callee := .builtin .append, args := #[s, x], argTypes := #[22, 22] }) (base g : Nat) (hs : a.eval s = .slice (some ⟨g, 0, none⟩) 0 0) (hown : w.ownsRow base 90 17 (.slice (some ⟨g, 0, none⟩) 0 0) 0 [])
    (A : Option Addr) (n c : Nat) (vs : List Va) (hx : a.eval x = .slice A n c) (hv : Vals w (.slice A n c) vs) (hn : n ≤ 1000) (hb : base ≤ w.heap.size) (hg : base ≤ g)
    (h : ∀ v1 w1, w1.ownsRow base 90 17 v1 n (rcells vs) → Below base w w1 → wpList Tryz.prog ops Q rest (a.put o.dst v1) w1) : wpList Tryz.prog ops Q (o :: rest) a w := by
  obtain ⟨i45, i1, i2, i3, i4⟩ := Tryz.info90
  have hl := hv.len
  refine wpList_step fun K hK => ?_
  rw [if_pos hw]
  cases A with
  | none =>
    have h0 : vs = [] := by
      cases vs with
      | nil => rfl
      | cons => obtain ⟨b, off, c', e, _⟩ := hv.cells (by simp); cases e
    subst h0
    have hn0 : n = 0 := hl
    subst hn0
    have hr := run_append_nothing w 22 22 o.type 90 i45 Tryz.underlying22 i1 (some ⟨g, 0, none⟩) 0 0 (Nat.le_refl _) (.slice none 0 c) (Src.ofNil w Tryz.underlying22 c)
    unfold Oper.wp execOp
    simp only [ho, resolve, invoke, builtin, Sem.run_bind, Sem.run_pure, Result.andThen_ok, List.map_toArray, List.map_cons, List.map_nil, hs, hx, hr]
    exact hK _ _ (h _ _ hown (Below.refl _ _))
  | some ad =>
    obtain ⟨v', w', hr, h2, h3, _⟩ := run_append_own_wide (P := Tryz.prog) w base 22 o.type 90 i45 _ 17 24 Tryz.underlying22 i1 i2 i3 i4 rfl (by omega) (.slice (some ⟨g, 0, none⟩) 0 0) 0 [] hown ad n c (rcells vs) (by rw [rcells_len vs hv.good, hl]) (by
      by_cases hne : vs = []
      · subst hne; intro j u hj; simp [rcells] at hj
      · obtain ⟨b, off, c', e, _⟩ := hv.cells hne
        simp only [Value.slice.injEq, Option.some.injEq] at e
        obtain ⟨rfl, -, -⟩ := e
        exact hv.src) (one_rcells vs) (by simp only [maxLen]; omega) (by omega) hb
    unfold Oper.wp execOp
    simp only [ho, resolve, invoke, builtin, Sem.run_bind, Sem.run_pure, Result.andThen_ok, List.map_toArray, List.map_cons, List.map_nil, hs, hx, hr]
    rw [List.nil_append, Nat.zero_add] at h2
    exact hK _ _ (h _ _ h2 ((Below.refl base w).grown h3 hb (fun k hk => by simp [Value.ownBlock] at hk; omega)))
end
end Go.Proofs.YtniknhhejlgdfaaGreatDoor
/- Comparisons of equal grounds and of genesis blocks; the document's first and next grounds. -/
namespace Go.Proofs.YtniknhhejlgdfaaGreatDoor
open Go.RowKit

theorem Tryz.size43 : (Tryz.prog.info? 43).map (·.size) = some 18 := by kernel_rfl
set_option maxHeartbeats 4000000 in
set_option maxRecDepth 100000 in
theorem same_eq (e : Int) (g : List Int) (hg : g.length = 16) (xs : List Va) (A A2 : Option Addr) (n c c2 : Nat) (w : World) (hx : Vals w (.slice A n c) xs) (hy : Vals w (.slice A2 n c2) xs) (hn : n ≤ 1000000) :
    Calls Tryz.prog 15 #[.agg (gndC e (.slice A n c) g).toArray, .agg (gndC e (.slice A2 n c2) g).toArray] w fun x w' => x = .returned (.bool true) ∧ Below w.heap.size w w' := by
  have b0 : Below w.heap.size w ((w.alloc (.cells ((gndC e (.slice A n c) g)).toArray 43)).alloc (.cells ((gndC e (.slice A2 n c2) g)).toArray 43)) := ((Below.refl _ _).alloc (Nat.le_refl _) _).alloc (by simp) _
  have h0 := heap_alloc2_old w (.cells (gndC e (.slice A n c) g).toArray 43) (.cells (gndC e (.slice A2 n c2) g).toArray 43)
  have h1 : ((w.alloc (.cells ((gndC e (.slice A n c) g)).toArray 43)).alloc (.cells ((gndC e (.slice A2 n c2) g)).toArray 43)).heap[w.heap.size + 1]? = some (.cells (gndC e (.slice A2 n c2) g).toArray 43 (0, 0)) := by
    have := heap_alloc_new (w.alloc (.cells (gndC e (.slice A n c) g).toArray 43)) (.cells (gndC e (.slice A2 n c2) g).toArray 43)
    rwa [World.size_alloc] at this
  have B0 := Lib.hid b0
  have HG := Lib.hid hg
  have VX := Lib.hid (hx.below b0)
  have VY := Lib.hid (hy.below b0)
  have c00 := gnd_0 h0
  have c01 := gnd_1 h0
  have c10 := gnd_0 h1
  have c11 := gnd_1 h1
  have R0 := Lib.hid (gnd_2 h0)
  have R1 := Lib.hid (gnd_2 h1)
  have HN := Lib.hid hn
  clear b0 h0 h1 hg hx hy hn
  go_enter Tryz.func15, Tryz.ntmps15
  go_wp2_with (first | (refine wpList_load_g rfl 24 (.tmp 11) rfl (w.heap.size) 2 rfl (u8s g) _ R0.out Tryz.underlying24 rfl (hi24 g HG.out) ?_) | (refine wpList_load_g rfl 24 (.tmp 13) rfl (w.heap.size + 1) 2 rfl (u8s g) _ R1.out Tryz.underlying24 rfl (hi24 g HG.out) ?_) | (refine wpList_binG rfl .eql 24 24 (.tmp 12) (.tmp 14) rfl (.agg (u8s g).toArray) (.agg (u8s g).toArray) (.bool true) rfl rfl (guard24 _ _ _ _ _ _) ((run_eql24 g g HG.out HG.out _).trans (by rw [decide_eq_true rfl])) ?_))
  refine (refSame_any xs xs A A2 n n c c2 _ VX.out VY.out HN.out).mono ?_
  rintro _ w1 ⟨rfl, hb1⟩
  rw [decide_eq_true rfl]
  have B1 := Lib.hid (B0.out.trans (hb1.mono B0.out.size))
  clear hb1 c00 c01 c10 c11
  go_wp2_with fail
  go_ret
  exact ⟨rfl, B1.out⟩
end Go.Proofs.YtniknhhejlgdfaaGreatDoor
/- Three sentinels and the constants as they are laid. -/
namespace Go.Proofs.YtniknhhejlgdfaaGreatDoor
open Go.ChangeShapes Go.WideShapes Go.ChangeAt Go.RowKit

abbrev laidES : List (String × DataW Unit) := [("quorate/api.ErrRange", Rows.laid_quorate_api_ErrRange), ("quorate/api.ErrSet", Rows.laid_quorate_api_ErrSet), ("quorate/api.ErrEpoch", Rows.laid_quorate_api_ErrEpoch)]
abbrev laidE : List (String × DataW Unit) := [("quorate/api.ErrRange", Rows.laid_quorate_api_ErrRange), ("quorate/api.ErrSet", Rows.laid_quorate_api_ErrSet), ("quorate/api.ErrEpoch", Rows.laid_quorate_api_ErrEpoch), ("quorate/hash.constants", Rows.laid_quorate_hash_constants)]
def senE : List Nat := [0, 10, 17]
def laidEL : List (String × List UInt8) := laidES.map fun x => (x.1, textOf x.2)
theorem laidE_eq : laidE = sentL "*errors.errorString" laidEL ++ [("quorate/hash.constants", Rows.laid_quorate_hash_constants)] := rfl
theorem laidE_named : laidEL.map (fun x => Tryz.prog.globalNamed x.1) = senE.map some := by kernel_rfl
theorem laidE_types : ∀ g ∈ senE, (Tryz.prog.globals[g]?).map (·.type) = some 40 := by
  intro g hg
  have : senE.all (fun g => decide ((Tryz.prog.globals[g]?).map (·.type) = some 40)) = true := by kernel_rfl
  rw [List.all_eq_true] at this
  exact of_decide_eq_true (this g hg)
set_option maxRecDepth 100000 in
theorem kk_of_laidE {W : World} (h : laidMetH Tryz.prog laidE W) : W.rangeAt 18 0 (u32s kk) := by
  rw [MakeChecks.laidMetH_plain _ _ _ (by kernel_rfl)] at h
  have h2 := h.tail.tail.tail
  rw [kk_datum] at h2
  exact kk_range_of (Lib.tabIs_of_head Tryz.gK Tryz.gKType Tryz.underlying210 Tryz.underlying209 Tryz.cells209 Tryz.cells210 h2)
set_option maxRecDepth 100000 in
theorem kk_lt {W : World} (h : W.rangeAt 18 0 (u32s kk)) : 18 < W.heap.size := by
  obtain ⟨u, hu⟩ : ∃ u, (u32s kk)[0]? = some u := ⟨_, rfl⟩
  exact World.block_lt_of_cell? W _ (h 0 u hu)
set_option maxRecDepth 100000 in
theorem em_of_laidE {W : World} (h : laidMetH Tryz.prog laidE W) : ∃ aR aS aE, Em W aR aS aE := by
  have hk := kk_of_laidE h
  rw [MakeChecks.laidMetH_plain _ _ _ (by kernel_rfl)] at h
  obtain ⟨ps, hv, hnd, hrows⟩ := h
  rw [laidE_eq] at hv
  obtain ⟨al, h1, h2, h3⟩ := laid_all Tryz.underlying40 Tryz.row258 Tryz.underlying258 Tryz.underlying284 rfl rfl Tryz.underlying9 Tryz.cells284 Tryz.cells9 laidEL _ senE ps laidE_named laidE_types hv (fun b off hb => (hrows b off hb).2)
  match al, h1 with
  | [a, b, c], _ => exact ⟨a, b, c, h2 0 0 a rfl rfl, h2 1 10 b rfl rfl, h2 2 17 c rfl rfl, hk, kk_lt hk⟩
set_option maxRecDepth 100000 in
theorem door_metE (os : Os) (args : Array Value) : laidMetH Tryz.prog laidE ((World.doorLaid Tryz.prog 356 os).forCall (fun _ _ => 0) ⟨#[], args, []⟩).memory :=
  laidMetH_of_parts3 (fuel := 8) (laidMet_of_run' 8 (by kernel_rfl) (by kernel_rfl)) (by kernel_rfl) (by kernel_rfl)
end Go.Proofs.YtniknhhejlgdfaaGreatDoor
/- What a vote signs; one signature of a ground's validator. -/
namespace Go.Proofs.YtniknhhejlgdfaaGreatDoor
open Go.RowKit

set_option maxRecDepth 100000 in
theorem build30_3 (a b c : Option Addr) (n1 n2 n3 c1 c2 c3 : Nat) (w : World) : (Instr.buildSlice 30 3 #[(0, .slice a n1 c1), (1, .slice b n2 c2), (2, .slice c n3 c3)]).run Tryz.prog w = .ok (.slice (some ⟨w.heap.size, 0, none⟩) 3 3) (w.alloc (.cells #[.slice a n1 c1, .slice b n2 c2, .slice c n3 c3] 137)) := by
  go_simp
/-- What a vote signs. -/
def fvD (e r : Int) (blk : List Int) : List Int := short 7 [beN e 8, beN r 8, blk]
set_option maxHeartbeats 8000000 in
set_option maxRecDepth 100000 in
theorem forVote_any (e r : Int) (he : I64 e) (hr : I64 r) (blk : List Int) (hb : blk.length = 16) (hbo : u8s_ok blk) (w : World) (hk : w.rangeAt 18 0 (u32s kk)) :
    Calls Tryz.prog 48 #[.int .i64 e, .int .i64 r, .agg (u8s blk).toArray] w fun x w' => x = .returned (.agg (u8s (fvD e r blk)).toArray) ∧ Below w.heap.size w w' := by
  have b0 : Below w.heap.size w ((w.alloc (.cells (u8s blk).toArray 24)).alloc (.cells (Array.replicate 16 (.int .u8 0)) 24)) := ((Below.refl _ _).alloc (Nat.le_refl _) _).alloc (by simp) _
  have h0 := heap_alloc2_old w (.cells (u8s blk).toArray 24) (.cells (Array.replicate 16 (.int .u8 0)) 24)
  have hbs := Bs.of_blk (c := 16) h0 hbo (by rw [hb]; exact Nat.le_refl _) (by unfold maxLen; omega)
  rw [hb] at hbs
  have HBS := Lib.hid hbs
  have HE := Lib.hid he
  have HR := Lib.hid hr
  have HB16 := Lib.hid hb
  have HK := Lib.hid (range_below hk b0)
  have H18 := Lib.hid (Nat.lt_of_lt_of_le (kk_lt hk) b0.size)
  have HH := Lib.hid (has_new2 w (.cells (u8s blk).toArray 24) (Array.replicate 16 (.int .u8 0)) 24 16 (by simp))
  have B0 := Lib.hid b0
  clear b0 h0 hbs he hr hb hbo hk
  go_enter Tryz.func48, Tryz.ntmps48
  go_wp2_with fail
  refine wp_region_rely3 (by kernel_rfl) 7 (by kernel_rfl) (by kernel_rfl) Ext Ext.refl Ext.trans (fun ix => match ix with
    | 0 => fun _ v => v = .int .i64 e
    | 1 => fun W v => Bs W v (beN e 8)
    | 2 => fun _ v => v = .int .i64 r
    | 3 => fun W v => Bs W v (beN r 8)
    | 4 => fun _ v => v = .slice (some ⟨w.heap.size, 0, none⟩) 16 16
    | 5 => fun W v => ∃ g, v = .slice (some ⟨g, 0, none⟩) 3 3 ∧ Bss W v [beN e 8, beN r 8, blk]
    | 6 => fun _ v => v = .agg (u8s (fvD e r blk)).toArray
    | _ => fun _ _ => False) ?_
  simp (maxSteps := 10000000) only [Rely, List.take_succ_cons, List.take_zero, List.drop_succ_cons, List.drop_zero, Nat.reduceAdd, Nat.zero_add, Act.put, List.setIfInBounds_toArray, List.set_cons_succ, List.set_cons_zero]
  refine ⟨?_, ?_, ?_, ?_, ?_, ?_, ?_, ?_⟩
  · refine step_plain rfl fun rv wq hE hd => ?_
    exact gives_move _ (.int .i64 e) (.inl rfl) rfl ⟨Ext.refl _, fun _ _ => rfl⟩
  · refine step_plain rfl fun rv wq hE hd => ?_
    refine gives_call 75 (enters_of Tryz.func75 (by kernel_rfl) rfl) _ _ rfl rfl [.int .i64 e] (congrArg (fun a => [a]) (show rv 0 = _ from hd.1)) ?_
    refine (num60_any e HE.out wq).mono ?_
    rintro _ w'' ⟨v, rfl, hv, hb⟩
    exact ⟨_, rfl, hb, fun W hW => hv.below hW⟩
  · refine step_plain rfl fun rv wq hE hd => ?_
    exact gives_move _ (.int .i64 r) (.inl rfl) rfl ⟨Ext.refl _, fun _ _ => rfl⟩
  · refine step_plain rfl fun rv wq hE hd => ?_
    refine gives_call 75 (enters_of Tryz.func75 (by kernel_rfl) rfl) _ _ rfl rfl [.int .i64 r] (congrArg (fun a => [a]) (show rv 2 = _ from hd.1)) ?_
    refine (num60_any r HR.out wq).mono ?_
    rintro _ w'' ⟨v, rfl, hv, hb⟩
    exact ⟨_, rfl, hb, fun W hW => hv.below hW⟩
  · refine step_plain rfl fun rv wq hE hd => ?_
    exact gives_slice 24 _ none none none rfl (.pointer (some ⟨w.heap.size, 0, none⟩)) _ none none none rfl rfl rfl rfl (slice24 w.heap.size _) ⟨Ext.refl _, fun _ _ => rfl⟩
  · refine step_plain rfl fun rv wq hE hd => ?_
    have b1 : Bs wq (rv 1) (beN e 8) := hd.1
    have b3 : Bs wq (rv 3) (beN r 8) := hd.2.1
    have e4 : rv 4 = _ := hd.2.2.1
    obtain ⟨A1, c1, e1⟩ := b1.form
    obtain ⟨A3, c3, e3⟩ := b3.form
    have b4 : Bs wq (.slice (some ⟨w.heap.size, 0, none⟩) 16 16) blk := HBS.out.below (ext_of_drew hE)
    rw [e1] at b1
    rw [e3] at b3
    refine gives_build 30 3 _ rfl #[(0, .slice A1 (beN e 8).length c1), (1, .slice A3 (beN r 8).length c3), (2, .slice (some ⟨w.heap.size, 0, none⟩) 16 16)] ?_ _ (build30_3 _ _ _ _ _ _ _ _ _ _) ⟨(Below.refl _ _).alloc (Nat.le_refl _) _, fun w5 h5 => ⟨_, rfl, Bss.below (Bss.new wq [.slice A1 (beN e 8).length c1, .slice A3 (beN r 8).length c3, .slice (some ⟨w.heap.size, 0, none⟩) 16 16] [beN e 8, beN r 8, blk] rfl (fun j hj => ?_) (by simp)) h5⟩⟩
    · simp only [List.map_toArray, List.map_cons, List.map_nil]
      show #[(0, rv 1), (1, rv 3), (2, rv 4)] = _
      rw [e1, e3, e4]
    · have hj4 : j = 0 ∨ j = 1 ∨ j = 2 := by simp at hj; omega
      rcases hj4 with rfl | rfl | rfl
      · exact b1
      · exact b3
      · exact b4
  · refine step_plain rfl fun rv wq hE hd => ?_
    obtain ⟨g, e5, h5⟩ := hd.1
    rw [e5] at h5
    refine gives_call 73 (enters_of Tryz.func73 (by kernel_rfl) rfl) _ _ rfl rfl [.int .i64 7, .slice (some ⟨g, 0, none⟩) 3 3] (congr (congrArg (fun a b => a :: b) rfl) (congrArg (fun a => [a]) e5)) ?_
    refine (of_any 7 [beN e 8, beN r 8, blk] _ 3 3 wq h5 rfl (by simp [framed, be4, beN_len, HB16.out]) (range_below HK.out (ext_of_drew hE)) (Nat.lt_of_lt_of_le H18.out (ext_of_drew hE).size)).mono ?_
    rintro _ w'' ⟨rfl, hb⟩
    exact ⟨_, rfl, hb, fun _ _ => rfl⟩
  · intro rv wq hE hR
    have h6 : rv 6 = .agg (u8s (fvD e r blk)).toArray := hR 6 (by omega)
    rw [h6]
    have hfl : (fvD e r blk).length = 16 := short_len _ _
    obtain ⟨FD, hFD⟩ : ∃ x, x = fvD e r blk := ⟨_, rfl⟩
    rw [← hFD] at hfl ⊢
    have HFD := Lib.hid hFD
    have B1 := Lib.hid (B0.out.trans ((ext_of_drew hE).mono B0.out.size))
    have H1 := Lib.hid (HH.out.below (ext_of_drew hE))
    clear hR hE h6 hFD
    go_wp2_with (refine wpList_store_row rfl 24 (.tmp 6) (.tmp 13) rfl (w.heap.size + 1) rfl (u8s FD) rfl 24 (by rw [u8s_len', hfl]; exact H1.out) (hi24 FD hfl) (one_u8s _) ?_; intro w5 hp5; have K5 := Lib.hid hp5.blk; have B5 := Lib.hid (hp5.below B1.out (by omega)); clear hp5)
    refine bodyPost_ret (v := .agg (u8s FD).toArray) (results_cell_row rfl _ _ (w.heap.size + 1) 24 _ (0, 0) _ rfl K5.out Tryz.underlying24 rfl (by simpa using hi24 FD hfl)) rfl ⟨by rw [HFD.out], B5.out⟩
end Go.Proofs.YtniknhhejlgdfaaGreatDoor
/- Steps: a struct is built, boxed; a slice is made; validators are cloned. -/
namespace Go.Proofs.YtniknhhejlgdfaaGreatDoor
section
open Go.RowKit Go.Shelf
attribute [local go_sem] Oper.semAt_some
theorem gives_len2 {P : Program} {o : Oper} {ρ : Operand → Value} {w : World} {S : Value → World → Prop} (t e : TypeId) (x : Operand) (ho : o.op = .call { callee := .builtin .len, args := #[x], argTypes := #[t] }) (ht : P.underlying t = some (.slice e)) (A : Option Addr) (n c : Nat) (hx : ρ x = .slice A n c) (h : S (.int .i64 n) w) : Gives P o ρ w S := by
  refine gives_val (.int .i64 n) (w' := w) ?_ h
  unfold execOp
  simp only [ho, resolve, invoke, builtin, Sem.run_bind, Sem.run_pure, Result.andThen_ok, List.map_toArray, List.map_cons, List.map_nil, hx]
  simp [Builtin.len_, run_underlying ht]
  rfl
end
section
open Go.RowKit Go.Shelf
attribute [local go_sem] Oper.semAt_some

end
end Go.Proofs.YtniknhhejlgdfaaGreatDoor
/- One signature of a ground's validator. -/
namespace Go.Proofs.YtniknhhejlgdfaaGreatDoor
open Go.RowKit

/-- A signature that one of the validators made. -/
def signedB (vs : List Va) (m : List Int) (x : Sd) : Bool := decide (0 ≤ x.who ∧ x.who < vs.length) && rightC (vs.getD x.who.toNat ([], 0)).1 m x.leaf x.ch x.pa
set_option maxHeartbeats 8000000 in
set_option maxRecDepth 100000 in
theorem gsigned_any (e : Int) (AV : Option Addr) (nv cv : Nat) (gen m : List Int) (hm : m.length = 16) (hmo : u8s_ok m) (vs : List Va) (i l : Int) (ds ps : List (List Int)) (A B : Option Addr) (n c k d : Nat) (aR aF : Addr) (w : World)
    (hv : Vals w (.slice AV nv cv) vs) (hx : Dgs w (.slice A n c) ds) (hp : Dgs w (.slice B k d) ps) (hn : n = ds.length ∧ k = ps.length) (hr : w.cell? ⟨0, 0, none⟩ = some (errV aR)) (hf : w.cell? ⟨3, 0, none⟩ = some (errV aF)) (hk : w.rangeAt 18 0 (u32s kk)) :
    Calls Tryz.prog 47 #[.agg (gndC e (.slice AV nv cv) gen).toArray, .int .i64 i, .agg (u8s m).toArray, sigV l (.slice A n c) (.slice B k d)] w fun x w' => x = .returned (.bool (signedB vs m ⟨i, l, ds, ps⟩)) ∧ Below w.heap.size w w' := by
  have b0 : Below w.heap.size w (((w.alloc (.cells (gndC e (.slice AV nv cv) gen).toArray 26)).alloc (.cells (u8s m).toArray 24)).alloc (.cells [.int .i64 l, .slice A n c, .slice B k d].toArray 56)) := (((Below.refl _ _).alloc (Nat.le_refl _) _).alloc (by simp) _).alloc (by first | (simp; done) | (simp; omega)) _
  have hz2 : ((w.alloc (.cells (gndC e (.slice AV nv cv) gen).toArray 26)).alloc (.cells (u8s m).toArray 24)).heap.size = w.heap.size + 2 := by simp
  have k2 : Below (w.heap.size + 2) ((w.alloc (.cells (gndC e (.slice AV nv cv) gen).toArray 26)).alloc (.cells (u8s m).toArray 24)) (((w.alloc (.cells (gndC e (.slice AV nv cv) gen).toArray 26)).alloc (.cells (u8s m).toArray 24)).alloc (.cells [.int .i64 l, .slice A n c, .slice B k d].toArray 56)) := (Below.refl _ _).alloc (by simp) _
  rw [← hz2] at k2
  have k0 := blk_below (heap_alloc2_old w (.cells (gndC e (.slice AV nv cv) gen).toArray 26) (.cells (u8s m).toArray 24)) k2
  have k1 : ((w.alloc (.cells (gndC e (.slice AV nv cv) gen).toArray 26)).alloc (.cells (u8s m).toArray 24)).heap[w.heap.size + 1]? = some (.cells (u8s m).toArray 24 (0, 0)) := by
    have := heap_alloc_new (w.alloc (.cells (gndC e (.slice AV nv cv) gen).toArray 26)) (.cells (u8s m).toArray 24)
    rwa [World.size_alloc] at this
  have ks : (((w.alloc (.cells (gndC e (.slice AV nv cv) gen).toArray 26)).alloc (.cells (u8s m).toArray 24)).alloc (.cells [.int .i64 l, .slice A n c, .slice B k d].toArray 56)).heap[w.heap.size + 2]? = some (.cells [.int .i64 l, .slice A n c, .slice B k d].toArray 56 (0, 0)) := by
    have := heap_alloc_new ((w.alloc (.cells (gndC e (.slice AV nv cv) gen).toArray 26)).alloc (.cells (u8s m).toArray 24)) (.cells [.int .i64 l, .slice A n c, .slice B k d].toArray 56)
    rwa [hz2] at this
  have C1 := Lib.hid (gnd_1 k0)
  have MR := Lib.hid (blk_range (blk_below k1 k2))
  have SR := Lib.hid (blk_range ks)
  have HV := Lib.hid (hv.below b0)
  have HD := Lib.hid (hx.below b0)
  have HPA := Lib.hid (hp.below b0)
  have HNK := Lib.hid hn
  have HCR := Lib.hid (cell_on b0 hr)
  have HCF := Lib.hid (cell_on b0 hf)
  have HKK := Lib.hid (range_below hk b0)
  have H18 := Lib.hid (Nat.lt_of_lt_of_le (kk_lt hk) b0.size)
  have HM := Lib.hid hm
  have HMO := Lib.hid hmo
  have B0 := Lib.hid b0
  have HNV := Lib.hid hv.len
  clear b0 k0 k1 ks k2 hz2 hv hx hp hn hr hf hk hm hmo
  by_cases hi0 : 0 ≤ i
  case neg =>
    have hlt : i < 0 := by omega
    have hfin : signedB vs m ⟨i, l, ds, ps⟩ = false := by unfold signedB; rw [decide_eq_false (by dsimp only; omega), Bool.false_and]
    have HFIN := Lib.hid hfin
    clear hfin
    go_enter Tryz.func47, Tryz.ntmps47
    go_wp2_with fail
    refine wp_region_rely3 (by kernel_rfl) 20 (by kernel_rfl) (by kernel_rfl) Ext Ext.refl Ext.trans (fun ix => match ix with
      | 0 => fun _ v => v = .int .i64 i
      | 1 => fun _ v => v = .bool false
      | 2 => fun _ v => v = .bool false
      | 3 => fun _ v => v = undef
      | 4 => fun _ v => v = undef
      | 5 => fun _ v => v = undef
      | 6 => fun _ v => v = undef
      | 7 => fun _ v => v = undef
      | 8 => fun _ v => v = .bool false
      | 9 => fun _ v => v = .bool false
      | 10 => fun _ v => v = undef
      | 11 => fun _ v => v = undef
      | 12 => fun _ v => v = undef
      | 13 => fun _ v => v = undef
      | 14 => fun _ v => v = undef
      | 15 => fun _ v => v = undef
      | 16 => fun _ v => v = undef
      | 17 => fun _ v => v = undef
      | 18 => fun _ v => v = undef
      | 19 => fun _ v => v = .bool false
      | _ => fun _ _ => False) ?_
    simp (maxSteps := 10000000) only [Rely, List.take_succ_cons, List.take_zero, List.drop_succ_cons, List.drop_zero, Nat.reduceAdd, Nat.zero_add, Act.put, List.setIfInBounds_toArray, List.set_cons_succ, List.set_cons_zero]
    refine ⟨?_, ?_, ?_, ?_, ?_, ?_, ?_, ?_, ?_, ?_, ?_, ?_, ?_, ?_, ?_, ?_, ?_, ?_, ?_, ?_, ?_⟩
    · refine step_plain rfl fun rv wq hE hd => ?_
      exact gives_move _ (.int .i64 i) (.inl rfl) rfl ⟨Ext.refl _, fun _ _ => rfl⟩
    · refine step_plain rfl fun rv wq hE hd => ?_
      exact gives_binOp .geq 3 _ _ _ rfl (.int .i64 i) (Value.int .i64 0) (.bool false) (show rv 0 = _ from hd.1) rfl (by go_simp) (by go_simp) ⟨Ext.refl _, fun _ _ => rfl⟩
    · refine step_plain rfl fun rv wq hE hd => ?_
      exact gives_move _ (.bool false) (.inl rfl) (show rv 1 = _ from hd.1) ⟨Ext.refl _, fun _ _ => rfl⟩
    · refine step_skip 2 true 11 rfl rfl (fun _ => rfl) fun vs wv hE hd => ⟨.inl hd.1, fun _ => rfl⟩
    · refine step_skip 2 true 11 rfl rfl (fun _ => rfl) fun vs wv hE hd => ⟨.inl hd.1, fun _ => rfl⟩
    · refine step_skip 2 true 11 rfl rfl (fun _ => rfl) fun vs wv hE hd => ⟨.inl hd.2.1, fun _ => rfl⟩
    · refine step_skip 2 true 11 rfl rfl (fun _ => rfl) fun vs wv hE hd => ⟨.inl hd.2.1, fun _ => rfl⟩
    · refine step_skip 2 true 11 rfl rfl (fun _ => rfl) fun vs wv hE hd => ⟨.inl hd.2.2.1, fun _ => rfl⟩
    · refine step_plain rfl fun rv wq hE hd => ?_
      exact gives_pick _ _ _ (.bool false) false rfl (show rv 2 = _ from hd.1) rfl ⟨Ext.refl _, fun _ _ => rfl⟩
    · refine step_plain rfl fun rv wq hE hd => ?_
      exact gives_move _ (.bool false) (.inl rfl) (show rv 8 = _ from hd.1) ⟨Ext.refl _, fun _ _ => rfl⟩
    · refine step_skip 9 true 18 rfl rfl (fun _ => rfl) fun vs wv hE hd => ⟨.inl hd.1, fun _ => rfl⟩
    · refine step_skip 9 true 18 rfl rfl (fun _ => rfl) fun vs wv hE hd => ⟨.inl hd.2.1, fun _ => rfl⟩
    · refine step_skip 9 true 18 rfl rfl (fun _ => rfl) fun vs wv hE hd => ⟨.inl hd.1, fun _ => rfl⟩
    · refine step_skip 9 true 18 rfl rfl (fun _ => rfl) fun vs wv hE hd => ⟨.inl hd.2.2.1, fun _ => rfl⟩
    · refine step_skip 9 true 18 rfl rfl (fun _ => rfl) fun vs wv hE hd => ⟨.inl hd.2.1, fun _ => rfl⟩
    · refine step_skip 9 true 18 rfl rfl (fun _ => rfl) fun vs wv hE hd => ⟨.inl hd.2.1, fun _ => rfl⟩
    · refine step_skip 9 true 18 rfl rfl (fun _ => rfl) fun vs wv hE hd => ⟨.inl hd.1, fun _ => rfl⟩
    · refine step_skip 9 true 18 rfl rfl (fun _ => rfl) fun vs wv hE hd => ⟨.inl hd.1, fun _ => rfl⟩
    · refine step_skip 9 true 18 rfl rfl (fun _ => rfl) fun vs wv hE hd => ⟨.inl hd.2.2.2.2.1, fun _ => rfl⟩
    · refine step_plain rfl fun rv wq hE hd => ?_
      exact gives_pick _ _ _ (.bool false) false rfl (show rv 9 = _ from hd.1) rfl ⟨Ext.refl _, fun _ _ => rfl⟩
    · intro rv wq hE hR
      have h19 : rv 19 = .bool false := hR 19 (by omega)
      rw [h19]
      have B8 := Lib.hid (B0.out.trans ((ext_of_drew hE).mono B0.out.size))
      clear hR hE h19
      go_wp2_with fail
      go_ret
      exact ⟨by rw [HFIN.out]; rfl, B8.out⟩
  by_cases hin : i < nv
  case neg =>
    have hge : (nv : Int) ≤ i := by omega
    have hfin : signedB vs m ⟨i, l, ds, ps⟩ = false := by unfold signedB; rw [decide_eq_false (by dsimp only; have := HNV.out; omega), Bool.false_and]
    have HFIN := Lib.hid hfin
    clear hfin
    go_enter Tryz.func47, Tryz.ntmps47
    go_wp2_with fail
    refine wp_region_rely3 (by kernel_rfl) 20 (by kernel_rfl) (by kernel_rfl) Ext Ext.refl Ext.trans (fun ix => match ix with
      | 0 => fun _ v => v = .int .i64 i
      | 1 => fun _ v => v = .bool true
      | 2 => fun _ v => v = .bool true
      | 3 => fun _ v => v = .int .i64 i
      | 4 => fun _ v => v = .pointer (some ⟨w.heap.size, 1, none⟩)
      | 5 => fun _ v => v = .slice AV nv cv
      | 6 => fun _ v => v = .int .i64 nv
      | 7 => fun _ v => v = .bool false
      | 8 => fun _ v => v = .bool false
      | 9 => fun _ v => v = .bool false
      | 10 => fun _ v => v = undef
      | 11 => fun _ v => v = undef
      | 12 => fun _ v => v = undef
      | 13 => fun _ v => v = undef
      | 14 => fun _ v => v = undef
      | 15 => fun _ v => v = undef
      | 16 => fun _ v => v = undef
      | 17 => fun _ v => v = undef
      | 18 => fun _ v => v = undef
      | 19 => fun _ v => v = .bool false
      | _ => fun _ _ => False) ?_
    simp (maxSteps := 10000000) only [Rely, List.take_succ_cons, List.take_zero, List.drop_succ_cons, List.drop_zero, Nat.reduceAdd, Nat.zero_add, Act.put, List.setIfInBounds_toArray, List.set_cons_succ, List.set_cons_zero]
    refine ⟨?_, ?_, ?_, ?_, ?_, ?_, ?_, ?_, ?_, ?_, ?_, ?_, ?_, ?_, ?_, ?_, ?_, ?_, ?_, ?_, ?_⟩
    · refine step_plain rfl fun rv wq hE hd => ?_
      exact gives_move _ (.int .i64 i) (.inl rfl) rfl ⟨Ext.refl _, fun _ _ => rfl⟩
    · refine step_plain rfl fun rv wq hE hd => ?_
      exact gives_binOp .geq 3 _ _ _ rfl (.int .i64 i) (Value.int .i64 0) (.bool true) (show rv 0 = _ from hd.1) rfl (by go_simp) (by go_simp) ⟨Ext.refl _, fun _ _ => rfl⟩
    · refine step_plain rfl fun rv wq hE hd => ?_
      exact gives_move _ (.bool true) (.inl rfl) (show rv 1 = _ from hd.1) ⟨Ext.refl _, fun _ _ => rfl⟩
    · refine step_guard 2 true 11 rfl rfl (fun _ => rfl) fun rv wq hE hd => ⟨hd.1, ?_⟩
      exact gives_move _ (.int .i64 i) (.inl rfl) rfl ⟨Ext.refl _, fun _ _ => rfl⟩
    · refine step_guard 2 true 11 rfl rfl (fun _ => rfl) fun rv wq hE hd => ⟨hd.1, ?_⟩
      exact gives_fieldAddr' 26 _ 1 rfl (.pointer (some ⟨w.heap.size, 0, none⟩)) _ rfl (by go_simp) ⟨Ext.refl _, fun _ _ => rfl⟩
    · refine step_guard 2 true 11 rfl rfl (fun _ => rfl) fun rv wq hE hd => ⟨hd.2.1, ?_⟩
      have hc := cell_on (ext_of_drew hE) C1.out
      exact gives_loadAt 22 _ rfl (.pointer (some ⟨w.heap.size, 1, none⟩)) (.slice AV nv cv) (show rv 4 = _ from hd.1) (by go_simp) ⟨Ext.refl _, fun _ _ => rfl⟩
    · refine step_guard 2 true 11 rfl rfl (fun _ => rfl) fun rv wq hE hd => ⟨hd.2.1, ?_⟩
      exact gives_len2 22 90 _ rfl Tryz.underlying22 AV nv cv (show rv 5 = _ from hd.1) ⟨Ext.refl _, fun _ _ => rfl⟩
    · refine step_guard 2 true 11 rfl rfl (fun _ => rfl) fun rv wq hE hd => ⟨hd.2.2.1, ?_⟩
      exact gives_binOp .lss 3 _ _ _ rfl (.int .i64 i) (.int .i64 nv) (.bool false) (show rv 3 = _ from hd.1) (show rv 6 = _ from hd.2.1) (by go_simp) (by go_simp) ⟨Ext.refl _, fun _ _ => rfl⟩
    · refine step_plain rfl fun rv wq hE hd => ?_
      exact gives_pick _ _ _ (.bool false) true rfl (show rv 2 = _ from hd.1) (show rv 7 = _ from hd.2.1) ⟨Ext.refl _, fun _ _ => rfl⟩
    · refine step_plain rfl fun rv wq hE hd => ?_
      exact gives_move _ (.bool false) (.inl rfl) (show rv 8 = _ from hd.1) ⟨Ext.refl _, fun _ _ => rfl⟩
    · refine step_skip 9 true 18 rfl rfl (fun _ => rfl) fun vs wv hE hd => ⟨.inl hd.1, fun _ => rfl⟩
    · refine step_skip 9 true 18 rfl rfl (fun _ => rfl) fun vs wv hE hd => ⟨.inl hd.2.1, fun _ => rfl⟩
    · refine step_skip 9 true 18 rfl rfl (fun _ => rfl) fun vs wv hE hd => ⟨.inl hd.1, fun _ => rfl⟩
    · refine step_skip 9 true 18 rfl rfl (fun _ => rfl) fun vs wv hE hd => ⟨.inl hd.2.2.1, fun _ => rfl⟩
    · refine step_skip 9 true 18 rfl rfl (fun _ => rfl) fun vs wv hE hd => ⟨.inl hd.2.1, fun _ => rfl⟩
    · refine step_skip 9 true 18 rfl rfl (fun _ => rfl) fun vs wv hE hd => ⟨.inl hd.2.1, fun _ => rfl⟩
    · refine step_skip 9 true 18 rfl rfl (fun _ => rfl) fun vs wv hE hd => ⟨.inl hd.1, fun _ => rfl⟩
    · refine step_skip 9 true 18 rfl rfl (fun _ => rfl) fun vs wv hE hd => ⟨.inl hd.1, fun _ => rfl⟩
    · refine step_skip 9 true 18 rfl rfl (fun _ => rfl) fun vs wv hE hd => ⟨.inl hd.2.2.2.2.1, fun _ => rfl⟩
    · refine step_plain rfl fun rv wq hE hd => ?_
      exact gives_pick _ _ _ (.bool false) false rfl (show rv 9 = _ from hd.1) rfl ⟨Ext.refl _, fun _ _ => rfl⟩
    · intro rv wq hE hR
      have h19 : rv 19 = .bool false := hR 19 (by omega)
      rw [h19]
      have B8 := Lib.hid (B0.out.trans ((ext_of_drew hE).mono B0.out.size))
      clear hR hE h19
      go_wp2_with fail
      go_ret
      exact ⟨by rw [HFIN.out]; rfl, B8.out⟩
  obtain ⟨j, rfl⟩ : ∃ j : Nat, i = j := ⟨i.toNat, by omega⟩
  have hj : j < vs.length := by have := HNV.out; omega
  obtain ⟨b, off, c', ev, _, _, _, hel⟩ := HV.out.cells (by rintro rfl; simp at hj)
  simp only [Value.slice.injEq] at ev
  obtain ⟨rfl, -, -⟩ := ev
  have hkr := hel j hj
  have hkl : (vs.getD j ([], 0)).1.length = 16 := by rw [List.getD_eq_getElem?_getD, List.getElem?_eq_getElem hj]; exact HV.out.good _ (List.getElem_mem _)
  have hfin : signedB vs m ⟨j, l, ds, ps⟩ = rightC (vs.getD j ([], 0)).1 m l ds ps := by unfold signedB; rw [decide_eq_true (by dsimp only; omega), Bool.true_and]; rfl
  have hkr2 := vcells_key hkr
  obtain ⟨key, hkey⟩ : ∃ x, x = (vs.getD j ([], 0)).1 := ⟨_, rfl⟩
  rw [← hkey] at hkr2 hkl hfin
  have KR := Lib.hid hkr2
  have HKL := Lib.hid hkl
  have HFIN := Lib.hid hfin
  have hjn : (j : Int) < nv := by omega
  have hjN : j < nv := by omega
  clear hkey hkr hkr2 hel hfin hkl hj hi0 hin
  go_enter Tryz.func47, Tryz.ntmps47
  go_wp2_with fail
  refine wp_region_rely3 (by kernel_rfl) 20 (by kernel_rfl) (by kernel_rfl) Ext Ext.refl Ext.trans (fun ix => match ix with
    | 0 => fun _ v => v = .int .i64 (j : Int)
    | 1 => fun _ v => v = .bool true
    | 2 => fun _ v => v = .bool true
    | 3 => fun _ v => v = .int .i64 (j : Int)
    | 4 => fun _ v => v = .pointer (some ⟨w.heap.size, 1, none⟩)
    | 5 => fun _ v => v = .slice (some ⟨b, off, none⟩) nv cv
    | 6 => fun _ v => v = .int .i64 nv
    | 7 => fun _ v => v = .bool true
    | 8 => fun _ v => v = .bool true
    | 9 => fun _ v => v = .bool true
    | 10 => fun _ v => v = .pointer (some ⟨w.heap.size, 1, none⟩)
    | 11 => fun _ v => v = .slice (some ⟨b, off, none⟩) nv cv
    | 12 => fun _ v => v = .int .i64 (j : Int)
    | 13 => fun _ v => v = .pointer (some ⟨b, off + j * 17, none⟩)
    | 14 => fun _ v => v = .pointer (some ⟨b, off + j * 17, none⟩)
    | 15 => fun _ v => v = .agg (u8s key).toArray
    | 16 => fun _ v => v = .agg (u8s m).toArray
    | 17 => fun _ v => v = sigV l (.slice A n c) (.slice B k d)
    | 18 => fun _ v => v = .bool (rightC key m l ds ps)
    | 19 => fun _ v => v = .bool (rightC key m l ds ps)
    | _ => fun _ _ => False) ?_
  simp (maxSteps := 10000000) only [Rely, List.take_succ_cons, List.take_zero, List.drop_succ_cons, List.drop_zero, Nat.reduceAdd, Nat.zero_add, Act.put, List.setIfInBounds_toArray, List.set_cons_succ, List.set_cons_zero]
  refine ⟨?_, ?_, ?_, ?_, ?_, ?_, ?_, ?_, ?_, ?_, ?_, ?_, ?_, ?_, ?_, ?_, ?_, ?_, ?_, ?_, ?_⟩
  · refine step_plain rfl fun rv wq hE hd => ?_
    exact gives_move _ (.int .i64 (j : Int)) (.inl rfl) rfl ⟨Ext.refl _, fun _ _ => rfl⟩
  · refine step_plain rfl fun rv wq hE hd => ?_
    exact gives_binOp .geq 3 _ _ _ rfl (.int .i64 (j : Int)) (Value.int .i64 0) (.bool true) (show rv 0 = _ from hd.1) rfl (by go_simp) (by go_simp) ⟨Ext.refl _, fun _ _ => rfl⟩
  · refine step_plain rfl fun rv wq hE hd => ?_
    exact gives_move _ (.bool true) (.inl rfl) (show rv 1 = _ from hd.1) ⟨Ext.refl _, fun _ _ => rfl⟩
  · refine step_guard 2 true 11 rfl rfl (fun _ => rfl) fun rv wq hE hd => ⟨hd.1, ?_⟩
    exact gives_move _ (.int .i64 (j : Int)) (.inl rfl) rfl ⟨Ext.refl _, fun _ _ => rfl⟩
  · refine step_guard 2 true 11 rfl rfl (fun _ => rfl) fun rv wq hE hd => ⟨hd.1, ?_⟩
    exact gives_fieldAddr' 26 _ 1 rfl (.pointer (some ⟨w.heap.size, 0, none⟩)) _ rfl (by go_simp) ⟨Ext.refl _, fun _ _ => rfl⟩
  · refine step_guard 2 true 11 rfl rfl (fun _ => rfl) fun rv wq hE hd => ⟨hd.2.1, ?_⟩
    have hc := cell_on (ext_of_drew hE) C1.out
    exact gives_loadAt 22 _ rfl (.pointer (some ⟨w.heap.size, 1, none⟩)) (.slice (some ⟨b, off, none⟩) nv cv) (show rv 4 = _ from hd.1) (by go_simp) ⟨Ext.refl _, fun _ _ => rfl⟩
  · refine step_guard 2 true 11 rfl rfl (fun _ => rfl) fun rv wq hE hd => ⟨hd.2.1, ?_⟩
    exact gives_len2 22 90 _ rfl Tryz.underlying22 (some ⟨b, off, none⟩) nv cv (show rv 5 = _ from hd.1) ⟨Ext.refl _, fun _ _ => rfl⟩
  · refine step_guard 2 true 11 rfl rfl (fun _ => rfl) fun rv wq hE hd => ⟨hd.2.2.1, ?_⟩
    exact gives_binOp .lss 3 _ _ _ rfl (.int .i64 (j : Int)) (.int .i64 nv) (.bool true) (show rv 3 = _ from hd.1) (show rv 6 = _ from hd.2.1) (by go_simp) (by go_simp) ⟨Ext.refl _, fun _ _ => rfl⟩
  · refine step_plain rfl fun rv wq hE hd => ?_
    exact gives_pick _ _ _ (.bool true) true rfl (show rv 2 = _ from hd.1) (show rv 7 = _ from hd.2.1) ⟨Ext.refl _, fun _ _ => rfl⟩
  · refine step_plain rfl fun rv wq hE hd => ?_
    exact gives_move _ (.bool true) (.inl rfl) (show rv 8 = _ from hd.1) ⟨Ext.refl _, fun _ _ => rfl⟩
  · refine step_guard 9 true 18 rfl rfl (fun _ => rfl) fun rv wq hE hd => ⟨hd.1, ?_⟩
    exact gives_fieldAddr' 26 _ 1 rfl (.pointer (some ⟨w.heap.size, 0, none⟩)) _ rfl (by go_simp) ⟨Ext.refl _, fun _ _ => rfl⟩
  · refine step_guard 9 true 18 rfl rfl (fun _ => rfl) fun rv wq hE hd => ⟨hd.2.1, ?_⟩
    have hc := cell_on (ext_of_drew hE) C1.out
    exact gives_loadAt 22 _ rfl (.pointer (some ⟨w.heap.size, 1, none⟩)) (.slice (some ⟨b, off, none⟩) nv cv) (show rv 10 = _ from hd.1) (by go_simp) ⟨Ext.refl _, fun _ _ => rfl⟩
  · refine step_guard 9 true 18 rfl rfl (fun _ => rfl) fun rv wq hE hd => ⟨hd.1, ?_⟩
    exact gives_move _ (.int .i64 (j : Int)) (.inl rfl) rfl ⟨Ext.refl _, fun _ _ => rfl⟩
  · refine step_guard 9 true 18 rfl rfl (fun _ => rfl) fun rv wq hE hd => ⟨hd.2.2.1, ?_⟩
    exact gives_indexAt 22 _ _ rfl (.slice (some ⟨b, off, none⟩) nv cv) (.int .i64 (j : Int)) (.pointer (some ⟨b, off + j * 17, none⟩)) (show rv 11 = _ from hd.1) (show rv 12 = _ from hd.2.1) (by go_simp) ⟨Ext.refl _, fun _ _ => rfl⟩
  · refine step_guard 9 true 18 rfl rfl (fun _ => rfl) fun rv wq hE hd => ⟨hd.2.1, ?_⟩
    exact gives_fieldAddr' 90 _ 0 rfl (.pointer (some ⟨b, off + j * 17, none⟩)) _ (show rv 13 = _ from hd.1) (by go_simp) ⟨Ext.refl _, fun _ _ => rfl⟩
  · refine step_guard 9 true 18 rfl rfl (fun _ => rfl) fun rv wq hE hd => ⟨hd.2.1, ?_⟩
    exact gives_load_row 24 _ rfl (b) (off + j * 17) (show rv 14 = _ from hd.1) (u8s key) _ (range_below KR.out (ext_of_drew hE)) Tryz.underlying24 rfl (hi24 key HKL.out) ⟨Ext.refl _, fun _ _ => rfl⟩
  · refine step_guard 9 true 18 rfl rfl (fun _ => rfl) fun rv wq hE hd => ⟨hd.1, ?_⟩
    exact gives_load_row 24 _ rfl (w.heap.size + 1) (0) rfl (u8s m) _ (range_below MR.out (ext_of_drew hE)) Tryz.underlying24 rfl (hi24 m HM.out) ⟨Ext.refl _, fun _ _ => rfl⟩
  · refine step_guard 9 true 18 rfl rfl (fun _ => rfl) fun rv wq hE hd => ⟨hd.1, ?_⟩
    exact gives_load_row 56 _ rfl (w.heap.size + 2) (0) rfl ([.int .i64 l, .slice A n c, .slice B k d]) _ (range_below SR.out (ext_of_drew hE)) Tryz.underlying56 rfl Tryz.size56 ⟨Ext.refl _, fun _ _ => rfl⟩
  · refine step_guard 9 true 18 rfl rfl (fun _ => rfl) fun rv wq hE hd => ⟨hd.2.2.2.2.1, ?_⟩
    refine gives_call 74 (enters_of Tryz.func74 (by kernel_rfl) rfl) _ _ rfl rfl [.agg (u8s key).toArray, .agg (u8s m).toArray, sigV l (.slice A n c) (.slice B k d)] (congr (congrArg (fun a b => a :: b) (show rv 15 = _ from hd.1)) (congr (congrArg (fun a b => a :: b) (show rv 16 = _ from hd.2.1)) (congrArg (fun a => [a]) (show rv 17 = _ from hd.2.2.1)))) ?_
    refine (verify_any key m HKL.out HM.out HMO.out l ds ps A B n c k d aR aF wq (HD.out.below (ext_of_drew hE)) (HPA.out.below (ext_of_drew hE)) HNK.out (cell_on (ext_of_drew hE) HCR.out) (cell_on (ext_of_drew hE) HCF.out) (range_below HKK.out (ext_of_drew hE)) (Nat.lt_of_lt_of_le H18.out (ext_of_drew hE).size)).mono ?_
    rintro _ w'' ⟨rfl, hb⟩
    exact ⟨_, rfl, hb, fun _ _ => rfl⟩
  · refine step_plain rfl fun rv wq hE hd => ?_
    exact gives_pick _ _ _ (.bool (rightC key m l ds ps)) true rfl (show rv 9 = _ from hd.1) (show rv 18 = _ from hd.2.1) ⟨Ext.refl _, fun _ _ => rfl⟩
  · intro rv wq hE hR
    have h19 : rv 19 = .bool (rightC key m l ds ps) := hR 19 (by omega)
    rw [h19]
    have B8 := Lib.hid (B0.out.trans ((ext_of_drew hE).mono B0.out.size))
    clear hR hE h19
    go_wp2_with fail
    go_ret
    exact ⟨by rw [HFIN.out]; rfl, B8.out⟩
end Go.Proofs.YtniknhhejlgdfaaGreatDoor
/- The iterator over a QC's claims. -/
namespace Go.Proofs.YtniknhhejlgdfaaGreatDoor
open Go.RowKit Go.Shelf
attribute [local go_sem] Oper.semAt_some

/-- A claim: a signature and where its parts lie. -/
structure Cl where
  x : Sd
  A : Option Addr
  c : Nat
  B : Option Addr
  d : Nat
def Cl.sig (a : Cl) : List Value := [.int .i64 a.x.leaf, .slice a.A a.x.ch.length a.c, .slice a.B a.x.pa.length a.d]
def Cl.sd (a : Cl) : List Value := [.int .i64 a.x.who, .int .i64 a.x.leaf, .slice a.A a.x.ch.length a.c, .slice a.B a.x.pa.length a.d]
def Cl.cells (m : List Int) (a : Cl) : List Value := [.int .i64 a.x.who] ++ (u8s m ++ a.sig)
def ClAt (w : World) (a : Cl) : Prop := Dgs w (.slice a.A a.x.ch.length a.c) a.x.ch ∧ Dgs w (.slice a.B a.x.pa.length a.d) a.x.pa
abbrev ClOf (w : World) := {a : Cl // ClAt w a}
theorem Sgs.cl {w : World} {A : Option Addr} {n c : Nat} {xs : List Sd} (h : Sgs w (.slice A n c) xs) (i : Nat) (hi : i < n) :
    ∃ b off, ∃ a : ClOf w, A = some ⟨b, off, none⟩ ∧ b < w.heap.size ∧ w.rangeAt b (off + i * 4) a.1.sd ∧ a.1.x = xs.getD i Sd.none := by
  obtain ⟨b, off, cs, e1, hb, hr, hs⟩ := h.el i hi
  obtain ⟨A', c', B', d', e2, h1, h2⟩ := hs.ex
  refine ⟨b, off, ⟨⟨xs.getD i Sd.none, A', c', B', d'⟩, h1, h2⟩, e1, hb, ?_, rfl⟩
  rw [e2] at hr
  exact hr
set_option maxRecDepth 100000 in
theorem build96 (m : List Int) (hm : m.length = 16) (a : Cl) (W : World) : (Instr.build 132 #[(0, .int .i64 a.x.who), (1, .agg (u8s m).toArray), (2, .agg a.sig.toArray)]).run Tryz.prog W = .ok (.agg (a.cells m).toArray) W := by
  obtain ⟨_, _, _, _, _, _, _, _, _, _, _, _, _, _, _, _, rfl⟩ := len16 hm
  exact run_build W 132 _ _ (by kernel_rfl)
theorem sd_sig {w : World} {b off : Nat} {a : Cl} (h : w.rangeAt b off a.sd) : w.rangeAt b (off + 1) a.sig := fun j u hu => by
  have := h (1 + j) u (by
    unfold Cl.sd Cl.sig at *
    rw [Nat.add_comm, List.getElem?_cons_succ]
    exact hu)
  rwa [show off + (1 + j) = off + 1 + j by omega] at this
theorem one_clsd (a : Cl) : ∀ u ∈ a.sd, u.oneCell' = true := by
  intro u hu
  simp only [Cl.sd, List.mem_cons, List.not_mem_nil, or_false] at hu
  rcases hu with rfl | rfl | rfl | rfl <;> rfl

theorem Sgs.le {w : World} {A : Option Addr} {n c : Nat} {xs : List Sd} (h : Sgs w (.slice A n c) xs) : n ≤ 9223372036854775807 := by
  have hl := h.len
  by_cases hx : xs = []
  · subst hx; simp at hl; omega
  · obtain ⟨b, off, c', _, h1, h2, _⟩ := h.cells hx
    unfold maxLen at h2
    omega
set_option maxHeartbeats 4000000 in
set_option maxRecDepth 100000 in
theorem claims_in (m : List Int) (hm : m.length = 16) (n : Nat) (hn : 1 ≤ n) (l QB DB : Nat) (A : Option Addr) (len cap : Nat) (xs : List Sd) (w0 W : World) (J Jx : List (ClOf w0) → World → Prop)
    (hW : Below w0.heap.size w0 W) (hJ : AbidesFrom W.heap.size J)
    (hY : ∀ pre x W1, J pre W1 → pre.length < len → YieldAt Fence.wide (n - 1) Tryz.prog l #[.agg (x.1.cells m).toArray] W1 fun e W' => (e = .returned (.bool true) ∧ J (pre ++ [x]) W' ∧ Below w0.heap.size W1 W') ∨ (e = .returned (.bool false) ∧ Jx (pre ++ [x]) W'))
    (hq : w0.cell? ⟨QB, 18, none⟩ = some (.slice A len cap)) (hd : w0.rangeAt DB 0 (u8s m)) (hv : Sgs w0 (.slice A len cap) xs) (h0 : J [] W) :
    CallsIn Fence.wide n Tryz.prog 61 #[.func (.yield l) #[] #[], .pointer (some ⟨QB, 0, none⟩), .pointer (some ⟨DB, 0, none⟩)] W fun e W' => (∃ v, e = .returned v) ∧
      ((∃ ys, ys.map (fun a : ClOf w0 => a.1.x) = xs ∧ J ys W') ∨ (∃ pre, (pre.map (fun a : ClOf w0 => a.1.x) <+: xs) ∧ Jx pre W')) := by
  have hn1 := hv.len
  have hz := hv.le
  have hcell : W.cell? ⟨QB, 18, none⟩ = some (.slice A len cap) := cell_on hW hq
  have HV := Lib.hid hv
  have HN := Lib.hid hn1
  have HJ := Lib.hid hJ
  have HY := Lib.hid hY
  have J0 := Lib.hid h0
  have HD := Lib.hid hd
  have HM := Lib.hid hm
  clear hv hn1 hq hY hJ h0 hd hm
  refine callsIn_of_wp Tryz.func61 rfl trivial ?_ rfl
  simp only [Tryz.ntmps61, List.size_toArray, List.length_cons, List.length_nil, Nat.reduceAdd, Nat.reduceSub, Array.replicate_succ, Array.replicate_zero, List.push_toArray, List.append_toArray, List.nil_append, List.cons_append]
  gi_wp2
  clear hcell
  gi_loopw [9] (fun i wr => ∃ (k : Nat) (ys : List (ClOf w0)), k ≤ len ∧ i = .int .i64 k ∧ Hid (ys.map (fun a : ClOf w0 => a.1.x) = xs.take k) ∧ Hid (J ys wr) ∧ Hid (Below w0.heap.size w0 wr) ∧ Hid (W.heap.size ≤ wr.heap.size))
    (fun i _ => len - (intOf i).toNat)
  case atStart => exact ⟨0, [], Nat.zero_le _, rfl, Lib.hid rfl, J0, Lib.hid hW, Lib.hid (Nat.le_refl _)⟩
  case round =>
    obtain ⟨k, ys, hk, rfl, hys, hJs, hbel, hsz⟩ := hrel
    by_cases hlt : k < len
    · obtain ⟨b, off, a, rfl, hb, hr, hax⟩ := HV.out.cl k hlt
      have hlen : k < xs.length := by rw [← HN.out]; exact hlt
      have htk : (ys ++ [a]).map (fun a : ClOf w0 => a.1.x) = xs.take (k + 1) := by
        rw [List.map_append, hys.out, List.take_succ_eq_append_getElem hlen, List.map_cons, List.map_nil, hax, List.getD_eq_getElem?_getD, List.getElem?_eq_getElem hlen]
        rfl
      have hpl : ys.length < len := by
        have := congrArg List.length hys.out
        rw [List.length_map, List.length_take] at this
        omega
      have HR := Lib.hid (range_below hr hbel.out)
      have HTK := Lib.hid htk
      have HPL := Lib.hid hpl
      have bb := build96 m HM.out a.1
      have hh : ∀ Z : Array Value, Z.size = 4 → Has (wr.alloc (.cells Z 58)) wr.heap.size 58 a.1.sd.length := fun Z hZ => has_new wr _ _ _ (by rw [hZ]; rfl)
      have HH := Lib.hid hh
      have HDR := Lib.hid (range_below HD.out hbel.out)
      clear hr hax hb htk hpl hlen hh
      have hil : (k : Int) < len := by omega
      gi_wp2_with (first | (refine wpListIn_load_g wideF rfl 58 (.tmp 11) rfl b (off + k * 4) rfl a.1.sd _ HR.out Tryz.underlying58 rfl Tryz.size58 ?_) | (refine wpListIn_store_row wideF rfl 58 (.tmp 5) (.tmp 12) rfl wr.heap.size rfl a.1.sd rfl 58 (HH.out _ rfl) Tryz.size58 (one_clsd a.1) ?_; intro w1 hp1; have L1 : Below wr.heap.size wr w1 := hp1.below ((Below.refl _ _).alloc (Nat.le_refl _) _) (Nat.le_refl _); have B1 := Lib.hid (hbel.out.trans (L1.mono hbel.out.size)); have S1 := Lib.hid (Nat.le_trans hsz.out L1.size); have c0 := blk_cell (xs := a.1.sd) hp1.blk 0 _ rfl; have R1 := Lib.hid (sd_sig (blk_range hp1.blk)); have D1 := Lib.hid (range_below HDR.out L1); have J1 := abide_ext HJ.out hJs.out L1; obtain ⟨fn, tmps, assign, body, hy, hR⟩ := HY.out _ a w1 J1 HPL.out; have HRR := Lib.hid hR; clear hp1 L1 J1 hR) | (refine wpListIn_load_g wideF rfl 24 (.tmp 2) rfl DB 0 rfl (u8s m) _ D1.out Tryz.underlying24 rfl (hi24 m HM.out) ?_) | (refine wpListIn_load_g wideF rfl 56 (.tmp 17) rfl wr.heap.size 1 rfl a.1.sig _ R1.out Tryz.underlying56 rfl Tryz.size56 ?_) | (refine wpListIn_bld wideF rfl 132 _ rfl #[(0, .int .i64 a.1.x.who), (1, .agg (u8s m).toArray), (2, .agg a.1.sig.toArray)] (by simp only [List.map_toArray, List.map_cons, List.map_nil]; rfl) _ (bb _) ?_))
      refine HRR.out.mono ?_
      rintro e W3 (⟨rfl, hJ3, hk3⟩ | ⟨rfl, hJx3⟩)
      · have B3 := Lib.hid (B1.out.trans hk3)
        have S3 := Lib.hid (Nat.le_trans S1.out hk3.size)
        have J3 := Lib.hid hJ3
        clear hJ3 hk3 HRR hy c0
        gi_wp2
        go_roundw
        case rel => exact ⟨k + 1, ys ++ [a], by omega, by go_num, HTK, J3, B3, S3⟩
        case measure => simp [intOf]; omega
      · clear HRR hy c0
        gi_wp2
        refine bodyPost_ret (results_none rfl _ _ _) rfl ?_
        exact ⟨⟨_, rfl⟩, .inr ⟨_, by rw [HTK.out]; exact List.take_prefix _ _, hJx3⟩⟩
    · obtain rfl : k = len := by omega
      gi_wp2
      go_end0
      exact ⟨⟨_, rfl⟩, .inl ⟨_, by have := hys.out; rwa [HN.out, List.take_length] at this, hJs.out⟩⟩
end Go.Proofs.YtniknhhejlgdfaaGreatDoor
/- Ground.quorum over an iterator of claims. -/
namespace Go.Proofs.YtniknhhejlgdfaaGreatDoor
open Go.RowKit Go.Shelf
attribute [local go_sem] Oper.semAt_some

/-- Signatures that are in order and right. -/
def goodF (vs : List Va) (m : List Int) : Int → List Sd → Bool
  | _, [] => true
  | p, x :: xs => !decide (x.who ≤ p) && signedB vs m x && goodF vs m x.who xs
def lastQ : Int → List Sd → Int
  | p, [] => p
  | _, x :: xs => lastQ x.who xs
theorem goodF_snoc (vs : List Va) (m : List Int) : ∀ (xs : List Sd) (p : Int) (x : Sd), goodF vs m p (xs ++ [x]) = (goodF vs m p xs && (!decide (x.who ≤ lastQ p xs) && signedB vs m x))
  | [], p, x => by simp [goodF, lastQ] <;> rfl
  | y :: ys, p, x => by simp only [List.cons_append, goodF, lastQ, goodF_snoc vs m ys, Bool.and_assoc] <;> rfl
theorem lastQ_snoc : ∀ (xs : List Sd) (p : Int) (x : Sd), lastQ p (xs ++ [x]) = x.who
  | [], p, x => rfl
  | y :: ys, p, x => by simp only [List.cons_append, lastQ]; exact lastQ_snoc ys _ x
theorem goodF_app (vs : List Va) (m : List Int) : ∀ (xs : List Sd) (p : Int) (ys : List Sd), goodF vs m p (xs ++ ys) = (goodF vs m p xs && goodF vs m (lastQ p xs) ys)
  | [], p, ys => by simp [goodF, lastQ]
  | y :: zs, p, ys => by simp only [List.cons_append, goodF, lastQ, goodF_app vs m zs, Bool.and_assoc]
/-- Good claims rise, so there are no more than validators. -/
theorem goodF_len (vs : List Va) (m : List Int) : ∀ (xs : List Sd) (p : Int), goodF vs m p xs = true → (xs.length : Int) + p ≤ lastQ p xs ∧ (xs = [] ∨ lastQ p xs < vs.length)
  | [], p, _ => ⟨by simp [lastQ], .inl rfl⟩
  | x :: xs, p, h => by
    simp only [goodF, Bool.and_eq_true, Bool.not_eq_true', decide_eq_false_iff_not] at h
    obtain ⟨⟨h1, h2⟩, h3⟩ := h
    obtain ⟨g1, g2⟩ := goodF_len vs m xs x.who h3
    simp only [lastQ, List.length_cons]
    refine ⟨by omega, .inr ?_⟩
    rcases g2 with rfl | g2
    · unfold signedB at h2
      rw [Bool.and_eq_true, decide_eq_true_eq] at h2
      exact h2.1.2
    · exact g2
theorem goodF_few (vs : List Va) (m : List Int) (xs : List Sd) (h : goodF vs m (-1) xs = true) : xs.length ≤ vs.length := by
  obtain ⟨h1, h2⟩ := goodF_len vs m xs (-1) h
  rcases h2 with rfl | h2
  · simp
  · omega
/-- What Ground.quorum answers. -/
def quorumQ (vs : List Va) (m : List Int) (xs : List Sd) : Bool := goodF vs m (-1) xs && enoughB vs (xs.map (·.who))
abbrev gcl {w : World} (pre : List (ClOf w)) : List Sd := pre.map (fun a : ClOf w => a.1.x)
/-- What the loop over claims holds. -/
structure QI (G : List Value) (vs : List Va) (m : List Int) (w : World) (pre : List Sd) (W : World) : Prop where
  gnd : W.heap[w.heap.size]? = some (.cells G.toArray 26 (0, 0))
  res : Boxed W (w.heap.size + 1) 4 (.bool false)
  prev : Boxed W (w.heap.size + 2) 3 (.int .i64 (lastQ (-1) pre))
  all : ∃ v, Boxed W (w.heap.size + 3) 149 v ∧ W.ownsRow (w.heap.size + 3) 3 1 v pre.length (i64s (pre.map (·.who)))
  bel : Below w.heap.size w W
  good : goodF vs m (-1) pre = true
theorem QI.go {G : List Value} {vs : List Va} {m : List Int} {w W W' : World} {pre : List Sd} (h : QI G vs m w pre W) (hb : Below W.heap.size W W') : QI G vs m w pre W' := by
  obtain ⟨v, h1, h2⟩ := h.all
  exact ⟨blk_below h.gnd hb, blk_below h.res hb, blk_below h.prev hb, ⟨v, blk_below h1 hb, own_bel h2 hb⟩, h.bel.trans (hb.mono h.bel.size), h.good⟩
theorem heap_kept' {W W' : World} {k : Nat} {cs : Array Value} {t : TypeId} {row : Option Nat} (h : W.heap[k]? = some (.cells cs t (0, 0))) (hg : W.grownBy W' row) (hr : ∀ k, row = some k → ∃ o : Obj, W.heap[k]? = some o ∧ o.isCells = false) : W'.heap[k]? = some (.cells cs t (0, 0)) :=
  (hg.block k (blk_lt h) (fun e => by obtain ⟨o, ho, hc⟩ := hr k e.symm; rw [h] at ho; cases ho; cases hc)).trans h
theorem QI.own {G : List Value} {vs : List Va} {m : List Int} {w : World} {B : Nat} {α : Type} (f : α → List Sd) (hB : w.heap.size ≤ B) : OwnFrom B (fun pre W => QI G vs m w (f pre) W) := by
  intro s X Y row hs hg hr
  have hr' := fun k e => (hr k e).2
  obtain ⟨v, h1, h2⟩ := hs.all
  exact ⟨heap_kept' hs.gnd hg hr', boxed_kept' hs.res hg hr', boxed_kept' hs.prev hg hr', ⟨v, boxed_kept' h1 hg hr', own_kept' h2 hg hr'⟩, hs.bel.grown hg hs.bel.size fun k e => by have := (hr k e).1; omega, hs.good⟩
/-- What it leaves when a claim is wrong. -/
structure QX (vs : List Va) (m : List Int) (w : World) (pre : List Sd) (W : World) : Prop where
  res : Boxed W (w.heap.size + 1) 4 (.bool false)
  bel : Below w.heap.size w W
  bad : goodF vs m (-1) pre = false
theorem QX.own {vs : List Va} {m : List Int} {w : World} {B : Nat} {α : Type} (f : α → List Sd) (hB : w.heap.size ≤ B) : OwnFrom B (fun pre W => QX vs m w (f pre) W) := by
  intro s X Y row hs hg hr
  have hr' := fun k e => (hr k e).2
  exact ⟨boxed_kept' hs.res hg hr', hs.bel.grown hg hs.bel.size fun k e => by have := (hr k e).1; omega, hs.bad⟩

theorem own_setLow {w : World} {base e s n b : Nat} {v : Value} {xs : List Value} (h : w.ownsRow base e s v n xs) (hb : b < base) (u : Value) : (w.setCell ⟨b, 0, none⟩ u).ownsRow base e s v n xs := by
  obtain ⟨h1, h2⟩ := h
  refine ⟨h1, ?_⟩
  rcases h2 with h2 | ⟨g, cap, cur, e1, e2, e3, rest⟩
  · exact .inl h2
  · exact .inr ⟨g, cap, cur, e1, e2, (heap_setCell_other w ⟨b, 0, none⟩ g u (by show g ≠ b; omega)).trans e3, rest⟩
theorem Tryz.info3m : (Tryz.prog.info? 3).map (fun i => (i.zero, i.size, i.bytes)) = some (some (.int .i64 0), 1, 8) := by kernel_rfl
theorem ins_of_own {w : World} {base e n : Nat} {v : Value} {xs : List Int} (h : w.ownsRow base e 1 v n (i64s xs)) : Ins w v xs := by
  have hl : xs.length = n := by have := h.1; simpa [i64s] using this
  rcases h.2 with ⟨rfl, h0⟩ | ⟨g, cap, cur, rfl, hb, hg, hnc, hm, hs, ht⟩
  · subst h0
    rw [List.eq_nil_of_length_eq_zero hl]
    exact ⟨⟨_, _, rfl⟩, fun h => absurd rfl h⟩
  · refine ⟨⟨_, cap, by rw [hl]⟩, fun hne => ⟨g, 0, cap, by rw [hl], by omega, hm, blk_lt hg, fun i hi => ?_⟩⟩
    have := h.cells (g := g) rfl i (.int .i64 (xs.getD i 0)) (by simp [i64s, List.getD_eq_getElem?_getD, hi])
    rwa [show (⟨g, 0, none⟩ : Addr).add i = ⟨g, 0 + i, none⟩ by unfold Addr.add; split <;> simp_all] at this
theorem results_cell4 {fn : Func} {p : Tmp} (h : fn.results = #[.cell p 4]) (tmps : Array Value) (w : World) (g : Nat) (v : Value) (hp : tmps.getD p undef = .pointer (some ⟨g, 0, none⟩)) (hc : w.cell? ⟨g, 0, none⟩ = some v) : (results fn tmps).run Tryz.prog w = .ok v w := by
  have hp' : tmps[p]?.getD undef = .pointer (some ⟨g, 0, none⟩) := by simpa using hp
  simp [results, h, hp', asAddr]
  go_simp
theorem boxed_set {W : World} {b t : Nat} {u : Value} (h : Boxed W b t u) (v : Value) : Boxed (W.setCell ⟨b, 0, none⟩ v) b t v := by
  have := blk_set (xs := [u]) h 0 v
  exact this
theorem boxed_other {W : World} {b b2 t : Nat} {u : Value} (h : Boxed W b t u) (v : Value) (hne : b ≠ b2) : Boxed (W.setCell ⟨b2, 0, none⟩ v) b t u := (heap_setCell_other W ⟨b2, 0, none⟩ b v hne).trans h
theorem Tryz.size132 : (Tryz.prog.info? 132).map (·.size) = some 20 := by kernel_rfl
theorem one_cl (m : List Int) (a : Cl) : ∀ u ∈ a.cells m, u.oneCell' = true := by
  intro u hu
  simp only [Cl.cells, Cl.sig, List.mem_append, List.mem_cons, List.not_mem_nil, or_false] at hu
  rcases hu with rfl | h | rfl | rfl | rfl
  · rfl
  · exact one_u8s _ u h
  all_goals rfl
set_option maxHeartbeats 8000000 in
set_option maxRecDepth 100000 in
theorem gquorum_any (e : Int) (AV : Option Addr) (nv cv : Nat) (gen m : List Int) (hgen : gen.length = 16) (hm : m.length = 16) (hmo : u8s_ok m) (vs : List Va) (xs : List Sd) (gf : Nat) (lb : Array Value) (N : Nat) (aR aF aS aT : Addr) (w : World)
    (eg : ∀ args w, (callFunc gf args).run Tryz.prog w = .ok (.enter gf args) w)
    (hseq : SeqStopsK Fence.wide 4 Tryz.prog gf lb (fun x : ClOf w => #[Value.agg (x.1.cells m).toArray]) (Below w.heap.size) (fun ys => gcl ys = xs) (fun pre => gcl pre <+: xs) N w)
    (hv : Vals w (.slice AV nv cv) vs) (hnv : nv ≤ 1000000) (hsen : Sen w aS aR aT) (hf : w.cell? ⟨3, 0, none⟩ = some (errV aF)) (hk : w.rangeAt 18 0 (u32s kk)) :
    Calls Tryz.prog 60 #[.agg (gndC e (.slice AV nv cv) gen).toArray, .func (.func gf) #[] lb] w fun x w' => x = .returned (.bool (quorumQ vs m xs)) ∧ Below w.heap.size w w' := by
  refine (callsIn_wide (n := 5)).1 ?_
  refine callsIn_of_wp_marks Tryz.func60 rfl trivial ?_ rfl
  simp only [Tryz.ntmps60, List.size_toArray, List.length_cons, List.length_nil, Nat.reduceAdd, Nat.reduceSub, Array.replicate_succ, Array.replicate_zero, List.push_toArray, List.append_toArray, List.nil_append, List.cons_append]
  gi_wp2
  have hsg := fun (i l : Int) (ds ps : List (List Int)) (A B : Option Addr) (n c k d : Nat) (W : World) => gsigned_any e AV nv cv gen m hm hmo vs i l ds ps A B n c k d aR aF W
  obtain ⟨G, hG⟩ : ∃ x, x = gndC e (.slice AV nv cv) gen := ⟨_, rfl⟩
  rw [← hG] at hsg ⊢
  have HG := Lib.hid hG
  have HSG := Lib.hid hsg
  clear hsg
  obtain ⟨w1, hw1⟩ : ∃ x, x = w.alloc (.cells G.toArray 26) := ⟨_, rfl⟩
  obtain ⟨w2, hw2⟩ : ∃ x, x = w1.alloc (.cells #[.bool false] 4) := ⟨_, rfl⟩
  obtain ⟨w3, hw3⟩ : ∃ x, x = w2.alloc (.cells #[.int .i64 (-1)] 3) := ⟨_, rfl⟩
  obtain ⟨w4, hw4⟩ : ∃ x, x = w3.alloc (.cells #[.slice none 0 0] 149) := ⟨_, rfl⟩
  have z1 : w1.heap.size = w.heap.size + 1 := by rw [hw1]; simp
  have z2 : w2.heap.size = w.heap.size + 2 := by rw [hw2]; simp [z1]
  have z3 : w3.heap.size = w.heap.size + 3 := by rw [hw3]; simp [z2]
  have z4 : w4.heap.size = w.heap.size + 4 := by rw [hw4]; simp [z3]
  have b1 : Below w.heap.size w w1 := by rw [hw1]; exact (Below.refl _ _).alloc (Nat.le_refl _) _
  have b2 : Below w1.heap.size w1 w2 := by rw [hw2]; exact (Below.refl _ _).alloc (Nat.le_refl _) _
  have b3 : Below w2.heap.size w2 w3 := by rw [hw3]; exact (Below.refl _ _).alloc (Nat.le_refl _) _
  have b4 : Below w3.heap.size w3 w4 := by rw [hw4]; exact (Below.refl _ _).alloc (Nat.le_refl _) _
  have x1 : w1.heap[w.heap.size]? = some (.cells G.toArray 26 (0, 0)) := by rw [hw1]; exact heap_alloc_new w _
  have x2 : Boxed w2 (w.heap.size + 1) 4 (.bool false) := by have := Boxed.new w1 4 (.bool false); rwa [z1, ← hw2] at this
  have x3 : Boxed w3 (w.heap.size + 2) 3 (.int .i64 (-1)) := by have := Boxed.new w2 3 (.int .i64 (-1)); rwa [z2, ← hw3] at this
  have x4 : Boxed w4 (w.heap.size + 3) 149 (.slice none 0 0) := by have := Boxed.new w3 149 (.slice none 0 0); rwa [z3, ← hw4] at this
  have hB : Below w.heap.size w w4 := b1.trans ((b2.mono (by omega)).trans ((b3.mono (by omega)).trans (b4.mono (by omega))))
  have HI0 := Lib.hid (show QI G vs m w [] w4 from ⟨blk_below (blk_below (blk_below x1 b2) b3) b4, blk_below (blk_below x2 b3) b4, blk_below x3 b4, ⟨_, x4, World.ownsRow_nil _ _ _ _⟩, hB, rfl⟩)
  have HV := Lib.hid hv
  have HSEN := Lib.hid hsen
  have HF := Lib.hid hf
  have HKK := Lib.hid hk
  have HM := Lib.hid hm
  have HMO := Lib.hid hmo
  have hgl : Hid (G.length = 18) := Lib.hid (by rw [hG]; exact gnd_len _ _ _ hgen)
  rw [← hw1, ← hw2, ← hw3, ← hw4]
  clear hw1 hw2 hw3 hw4 b1 b2 b3 b4 x1 x2 x3 x4 z1 z2 z3 hG hv hsen hf hk hm hmo
  refine wpIn_rangeFunc_ownH rfl (by omega) (gf := gf) (lb := lb) rfl trivial eg hseq belowK_t (belowK_b (by omega)) hB (fun _ => rfl)
    (fun pre W => QI G vs m w (gcl pre) W) (fun c pre W => c = .ret ∧ QX vs m w (gcl pre) W) (QI.own gcl (by omega)) (fun c s X Y row hs hg hr => ⟨hs.1, QX.own gcl (B := w4.heap.size) (by omega) s X Y row hs.2 hg hr⟩) HI0.out
    (fun x a' W => ∃ eb, w.heap.size + 4 ≤ eb ∧ W.heap[eb]? = some (.cells (x.1.cells m).toArray 132 (0, 0)) ∧ a' = { tmps := #[.agg G.toArray, .func (.func gf) #[] lb, .pointer (some ⟨w.heap.size, 0, none⟩), undef, .pointer (some ⟨w.heap.size + 1, 0, none⟩), .pointer (some ⟨w.heap.size + 1 + 1, 0, none⟩), .pointer (some ⟨w.heap.size + 1 + 1 + 1, 0, none⟩), .pointer (some ⟨eb, 0, none⟩), .func (.func gf) #[] lb, .agg (x.1.cells m).toArray, undef, undef, undef, undef, undef, undef, undef, undef, undef, undef, undef, undef, undef, undef, undef, undef, undef, undef, undef, undef, undef, undef, undef, undef, undef, undef], defers := [] })
    ?hAx ?assign ?body ?done ?stop
  case hAx =>
    rintro x a' s X Y row ⟨eb, h1, h2, h3⟩ hg hr
    refine ⟨eb, h1, (hg.block eb (blk_lt h2) fun e => ?_).trans h2, h3⟩
    obtain ⟨o, ho, hc⟩ := (hr eb e.symm).2
    rw [h2] at ho; cases ho; cases hc
  case stop =>
    rintro D c pre W hD ⟨rest, hrest⟩ ⟨rfl, hX⟩ hK
    have HRES := Lib.hid hX.res
    have HB := Lib.hid hX.bel
    have hbad : quorumQ vs m xs = false := by
      unfold quorumQ
      rw [← hrest, goodF_app, hX.bad, Bool.false_and, Bool.false_and]
    have HBAD := Lib.hid hbad
    clear hX hbad
    gi_wp2
    refine ⟨by simp, .inl ⟨_, _, rfl, run_takeDeferred hK, ?_⟩⟩
    exact ⟨_, results_cell4 rfl _ _ (w.heap.size + 1) (.bool false) rfl (show Boxed _ (w.heap.size + 1) 4 (.bool false) from ((grownBy_putObj' W D _).block _ (blk_lt HRES.out) (by simp; omega)).trans HRES.out).cell, by rw [HBAD.out], HB.out.trans (belowK_b (w := w) (Nat.le_refl _) W D _ _ (by omega) hK rfl rfl)⟩
  case assign =>
    intro l pre x W K hI hK
    have hsz : w.heap.size + 4 ≤ W.heap.size := by
      obtain ⟨v, h1, _⟩ := hI.all
      have := blk_lt h1
      omega
    have hcl : (x.1.cells m).length = 20 := by unfold Cl.cells Cl.sig; simp [u8s_len', HM.out]
    have HXI := Lib.hid (show (Tryz.prog.info? 132).map (·.size) = some (x.1.cells m).length by rw [hcl]; exact Tryz.size132)
    have HHX := Lib.hid (fun Z : Array Value => fun h : Z.size = 20 => has_new W Z 132 (x.1.cells m).length (by rw [hcl, h]))
    have HIW := Lib.hid hI
    clear hI hcl
    gi_wp2_with (refine wpListIn_store_row (roundF l) rfl 132 (.tmp 7) (.tmp 9) rfl W.heap.size rfl (x.1.cells m) rfl 132 (HHX.out _ rfl) HXI.out (one_cl _ _) ?_; intro w9 hp9)
    have L9 : Below W.heap.size W w9 := hp9.below ((Below.refl _ _).alloc (Nat.le_refl _) _) (Nat.le_refl _)
    exact hK _ w9 ((others_bel L9).from _) (L9.mono HIW.out.bel.size) (HIW.out.go L9) ⟨W.heap.size, hsz, hp9.blk, rfl⟩
  case body =>
    rintro l pre x a' W _ _ hI ⟨eb, heb, hex, rfl⟩ hlt
    obtain ⟨vo, hvo, hrow⟩ := hI.all
    have hgl2 : (gcl pre).length = pre.length := by simp [gcl]
    rw [hgl2] at hrow
    obtain ⟨Ao, co, rfl⟩ := own_form hrow
    have RG := Lib.hid (blk_range hI.gnd)
    have RD := Lib.hid (blk_mid (pre := [.int .i64 x.1.x.who]) (ys := u8s m) (post := x.1.sig) hex rfl)
    have RS := Lib.hid (blk_mid (pre := [.int .i64 x.1.x.who] ++ u8s m) (ys := x.1.sig) (post := []) (b := eb) (by rw [List.append_nil, List.append_assoc]; exact hex) rfl)
    rw [List.length_append, u8s_len', HM.out] at RS
    have c0 := blk_cell (xs := x.1.cells m) hex 0 _ rfl
    have cp : W.cell? ⟨w.heap.size + 1 + 1, 0, none⟩ = some (.int .i64 (lastQ (-1) (gcl pre))) := hI.prev.cell
    have cr : W.cell? ⟨w.heap.size + 1, 0, none⟩ = some (.bool false) := hI.res.cell
    have fr := hI.res.frozen
    have HX := Lib.hid x.2
    have HIW := Lib.hid hI
    have HEX := Lib.hid hex
    have HROW := Lib.hid hrow
    have HVO := Lib.hid hvo
    obtain ⟨P, hP⟩ : ∃ p, p = lastQ (-1) (gcl pre) := ⟨_, rfl⟩
    rw [← hP] at cp
    have hgs : goodF vs m (-1) (gcl (pre ++ [x])) = (!decide (x.1.x.who ≤ P) && signedB vs m x.1.x) := by
      show goodF vs m (-1) ((pre ++ [x]).map _) = _
      rw [List.map_append, List.map_cons, List.map_nil, goodF_snoc, ← hP, hI.good, Bool.true_and]
    have HGS := Lib.hid hgs
    have HPE := Lib.hid hP
    clear hI hex hrow hvo hP hgs
    by_cases hle : x.1.x.who ≤ P
    · gi_wp2_with (refine ⟨trivial, ?_⟩)
      refine ⟨(KeepsOthers.setCell _ _ _).from _, rfl, ⟨boxed_set HIW.out.res _, HIW.out.bel.setCell (p := ⟨w.heap.size + 1, 0, none⟩) (by simp) _, by rw [HGS.out, decide_eq_true hle]; rfl⟩⟩
    · have HNW := Lib.hid hle
      by_cases hsb : signedB vs m x.1.x = true
      case neg =>
        have hsf : signedB vs m x.1.x = false := by simpa using hsb
        have HSF := Lib.hid hsf
        clear hsb hsf
        gi_wp2_with (first | (refine ⟨trivial, ?_⟩; gi_at_call 47; refine (CallsIn.inRound l (callsIn_wide.2 (HSG.out x.1.x.who x.1.x.leaf x.1.x.ch x.1.x.pa x.1.A x.1.B x.1.x.ch.length x.1.c x.1.x.pa.length x.1.d W (HV.out.below HIW.out.bel) (HX.out.1.below HIW.out.bel) (HX.out.2.below HIW.out.bel) ⟨rfl, rfl⟩ (cell_on HIW.out.bel HSEN.out.r) (cell_on HIW.out.bel HF.out) (range_below HKK.out HIW.out.bel)))).mono ?_; rintro _ wz ⟨rfl, hwz⟩; have BZ := Lib.hid hwz; have IZ := Lib.hid (HIW.out.go hwz); rw [show signedB vs m ⟨x.1.x.who, x.1.x.leaf, x.1.x.ch, x.1.x.pa⟩ = false from HSF.out]; have crz : wz.cell? ⟨w.heap.size + 1, 0, none⟩ = some (.bool false) := IZ.out.res.cell; have frz := IZ.out.res.frozen; clear hwz c0 cp cr fr) | (refine wpListIn_load_g (roundF l) rfl 26 (.tmp 2) rfl w.heap.size 0 rfl G _ RG.out Tryz.underlying26 rfl (by rw [hgl.out]; exact Tryz.size26) ?_) | (refine wpListIn_load_g (roundF l) rfl 24 (.tmp 18) rfl eb 1 rfl (u8s m) _ RD.out Tryz.underlying24 rfl (hi24 m HM.out) ?_) | (refine wpListIn_load_g (roundF l) rfl 56 (.tmp 20) rfl eb 17 rfl x.1.sig _ RS.out Tryz.underlying56 rfl Tryz.size56 ?_))
        refine ⟨((others_bel BZ.out).trans (KeepsOthers.setCell _ _ _)).from _, rfl, ⟨boxed_set IZ.out.res _, IZ.out.bel.setCell (p := ⟨w.heap.size + 1, 0, none⟩) (by simp) _, by rw [HGS.out, HSF.out, Bool.and_false]⟩⟩
      have HSB := Lib.hid hsb
      clear hsb
      obtain ⟨i3, hi3, hz30, hz31, hz32⟩ := info_of Tryz.info3m
      have hln : pre.length < 1000000 := by
        have h1 : goodF vs m (-1) (gcl (pre ++ [x])) = true := by rw [HGS.out, HSB.out, decide_eq_false HNW.out]; rfl
        have h2 := goodF_few vs m _ h1
        have h3 := HV.out.len
        simp only [gcl, List.length_map, List.length_append, List.length_cons, List.length_nil] at h2
        omega
      gi_wp2_with (first | (refine ⟨trivial, ?_⟩; gi_at_call 47; refine (CallsIn.inRound l (callsIn_wide.2 (HSG.out x.1.x.who x.1.x.leaf x.1.x.ch x.1.x.pa x.1.A x.1.B x.1.x.ch.length x.1.c x.1.x.pa.length x.1.d W (HV.out.below HIW.out.bel) (HX.out.1.below HIW.out.bel) (HX.out.2.below HIW.out.bel) ⟨rfl, rfl⟩ (cell_on HIW.out.bel HSEN.out.r) (cell_on HIW.out.bel HF.out) (range_below HKK.out HIW.out.bel)))).mono ?_; rintro _ wz ⟨rfl, hwz⟩; have BZ := Lib.hid hwz; have IZ := Lib.hid (HIW.out.go hwz); rw [show signedB vs m ⟨x.1.x.who, x.1.x.leaf, x.1.x.ch, x.1.x.pa⟩ = true from HSB.out]; have c0z := blk_cell (xs := x.1.cells m) (blk_below HEX.out hwz) 0 _ rfl; have cpz : wz.cell? ⟨w.heap.size + 1 + 1, 0, none⟩ = some (.int .i64 (lastQ (-1) (gcl pre))) := IZ.out.prev.cell; have fpz : wz.frozen? ⟨w.heap.size + 1 + 1, 0, none⟩ = false := IZ.out.prev.frozen; have HVZ := Lib.hid (show Boxed wz (w.heap.size + 3) 149 (.slice Ao pre.length co) from blk_below HVO.out hwz); have ROZ := Lib.hid (own_bel HROW.out hwz); have cvz : wz.cell? ⟨w.heap.size + 1 + 1 + 1, 0, none⟩ = some (.slice Ao pre.length co) := HVZ.out.cell; have OWA := Lib.hid (show ((wz.setCell ⟨w.heap.size + 1 + 1, 0, none⟩ (.int .i64 x.1.x.who)).alloc (.cells #[.int .i64 x.1.x.who] 3)).ownsRow (w.heap.size + 3) 3 1 (.slice Ao pre.length co) pre.length (i64s ((gcl pre).map (·.who))) from (own_setLow ROZ.out (by omega) _).alloc _); have HSZ := Lib.hid (show w.heap.size + 4 ≤ wz.heap.size from Nat.succ_le_of_lt (blk_lt HVZ.out)); have XA := Lib.hid (show Boxed ((wz.setCell ⟨w.heap.size + 1 + 1, 0, none⟩ (.int .i64 x.1.x.who)).alloc (.cells #[.int .i64 x.1.x.who] 3)) (w.heap.size + 3) 149 (.slice Ao pre.length co) from blk_below (boxed_other HVZ.out _ (by omega)) ((Below.refl _ _).alloc (Nat.le_refl _) _)); have SZA := Lib.hid (show w.heap.size + 3 ≤ ((wz.setCell ⟨w.heap.size + 1 + 1, 0, none⟩ (.int .i64 x.1.x.who)).alloc (.cells #[.int .i64 x.1.x.who] 3)).heap.size by have := HSZ.out; simp; omega); have NWR := Lib.hid (show ((wz.setCell ⟨w.heap.size + 1 + 1, 0, none⟩ (.int .i64 x.1.x.who)).alloc (.cells #[.int .i64 x.1.x.who] 3)).rangeAt wz.heap.size 0 [.int .i64 x.1.x.who] by have := range_new (wz.setCell ⟨w.heap.size + 1 + 1, 0, none⟩ (.int .i64 x.1.x.who)) [.int .i64 x.1.x.who] 3; rwa [show (wz.setCell ⟨w.heap.size + 1 + 1, 0, none⟩ (.int .i64 x.1.x.who)).heap.size = wz.heap.size by simp] at this); have EZ := Lib.hid (blk_below HEX.out hwz); clear hwz c0 cp cr fr) | (gi_at_builtin; refine wpListIn_append_own_at _ rfl (.tmp 27) (.tmp 30) 149 rfl (w.heap.size + 3) 3 i3 (.int .i64 0) 1 8 Tryz.underlying149 hi3 hz30 hz31 hz32 rfl (by decide) (.slice Ao pre.length co) pre.length _ rfl OWA.out ⟨wz.heap.size, 0, none⟩ 1 1 [.int .i64 x.1.x.who] rfl rfl (add_cell NWR.out) (by simp [Value.oneCell']) (by simp only [maxLen]; omega) (by omega) SZA.out ?_; intro v9 w9 hown9 hgrow9 _ _; obtain ⟨A9, c9, rfl⟩ := own_form hown9; obtain ⟨q1, q2, q3, q4, q5, q6⟩ := boxed_app XA.out (by decide) OWA.out SZA.out (by omega) hown9 hgrow9; have hc1 : w9.cell? ⟨w.heap.size + 1 + 1 + 1, 0, none⟩ = _ := q1.cell; have hf1 : w9.frozen? ⟨w.heap.size + 1 + 1 + 1, 0, none⟩ = false := q1.frozen; clear hown9) | (refine wpListIn_load_g (roundF l) rfl 26 (.tmp 2) rfl w.heap.size 0 rfl G _ RG.out Tryz.underlying26 rfl (by rw [hgl.out]; exact Tryz.size26) ?_) | (refine wpListIn_load_g (roundF l) rfl 24 (.tmp 18) rfl eb 1 rfl (u8s m) _ RD.out Tryz.underlying24 rfl (hi24 m HM.out) ?_) | (refine wpListIn_load_g (roundF l) rfl 56 (.tmp 20) rfl eb 17 rfl x.1.sig _ RS.out Tryz.underlying56 rfl Tryz.size56 ?_))
      have hWF : ∀ k, k < w.heap.size + 3 → k ≠ w.heap.size + 1 + 1 → (w9.setCell ⟨w.heap.size + 1 + 1 + 1, 0, none⟩ (.slice A9 (pre.length + 1) c9)).heap[k]? = wz.heap[k]? := fun k h1 h2 => by
        have hz := HSZ.out
        exact (q5.block k h1).trans ((Below.heap_alloc _ _ _ (by simp; omega)).trans (heap_setCell_other wz ⟨w.heap.size + 1 + 1, 0, none⟩ k _ h2))
      have hprev : (w9.setCell ⟨w.heap.size + 1 + 1 + 1, 0, none⟩ (.slice A9 (pre.length + 1) c9)).heap[w.heap.size + 2]? = some (.cells #[.int .i64 x.1.x.who] 3 (0, 0)) := by
        have hz := HSZ.out
        exact (q5.block _ (by omega)).trans ((Below.heap_alloc _ _ _ (by simp; omega)).trans (boxed_set IZ.out.prev _))
      have hbel : Below w.heap.size wz (w9.setCell ⟨w.heap.size + 1 + 1 + 1, 0, none⟩ (.slice A9 (pre.length + 1) c9)) := (((Below.refl _ _).setCell (p := ⟨w.heap.size + 1 + 1, 0, none⟩) (by simp; omega) _).alloc (by have := HSZ.out; simp; omega) _).trans (q5.mono (by omega))
      refine ⟨((others_bel BZ.out).trans ((KeepsOthers.setCell _ _ _).trans ((others_bel ((Below.refl _ _).alloc (Nat.le_refl _) _)).trans q4))).from _, (BZ.out.mono HIW.out.bel.size).trans hbel, ⟨(hWF _ (by omega) (by omega)).trans IZ.out.gnd, (hWF _ (by omega) (by omega)).trans IZ.out.res, ?_, ⟨_, q2, ?_⟩, IZ.out.bel.trans hbel, by rw [HGS.out, HSB.out, decide_eq_false (by have := HNW.out; omega)]; rfl⟩⟩
      · show Boxed _ _ 3 (.int .i64 (lastQ (-1) ((pre ++ [x]).map _)))
        rw [List.map_append, List.map_cons, List.map_nil, lastQ_snoc]
        exact hprev
      · simpa [i64s, gcl] using q3
  case done =>
    rintro D ys W hD rfl hI hK
    obtain ⟨vo, hvo, hrow⟩ := hI.all
    have hgl2 : (gcl ys).length = ys.length := by simp [gcl]
    have hyl : ys.length ≤ 1000000 := by
      have h1 := goodF_few vs m (gcl ys) hI.good
      rw [hgl2] at h1
      have h2 := HV.out.len
      omega
    rw [hgl2] at hrow
    obtain ⟨Ao, co, rfl⟩ := own_form hrow
    have hins := ins_of_own hrow
    have hg1 := hI.gnd
    rw [HG.out] at hg1
    have c1 := gnd_1 hg1
    have cvl : W.cell? ⟨w.heap.size + 1 + 1 + 1, 0, none⟩ = some (.slice Ao ys.length co) := hvo.cell
    have HIW := Lib.hid hI
    have HKD := Lib.hid hK
    have HINS := Lib.hid hins
    have HYL := Lib.hid hyl
    have HQ : Hid (quorumQ vs m (gcl ys) = enoughB vs ((gcl ys).map (·.who))) := Lib.hid (by unfold quorumQ; rw [hI.good, Bool.true_and])
    obtain ⟨EB, hEB⟩ : ∃ b, b = enoughB vs ((gcl ys).map (·.who)) := ⟨_, rfl⟩
    rw [← hEB] at HQ
    have HEB := Lib.hid hEB
    clear hI hK hins hvo hrow hg1 hgl2 hyl hEB
    gi_wp2_with (refine ⟨trivial, ?_⟩; gi_at_call 85; refine (callsIn_wide.2 (enough_any vs ((gcl ys).map (·.who)) AV Ao nv cv ys.length co aS aR aT W (HV.out.below HIW.out.bel) HINS.out (HSEN.out.below HIW.out.bel) hnv HYL.out)).mono ?_; rintro _ wz ⟨rfl, hwz⟩; rw [← HEB.out]; have IZ := Lib.hid (HIW.out.go hwz); have KZ := Lib.hid (blk_below HKD.out hwz); have crz : wz.cell? ⟨w.heap.size + 1, 0, none⟩ = some (.bool false) := IZ.out.res.cell; have frz := IZ.out.res.frozen; clear hwz c1 cvl)
    have hKS : (wz.setCell ⟨w.heap.size + 1, 0, none⟩ (.bool EB)).heap[D]? = some (.deferred (some [])) := (heap_setCell_other wz ⟨w.heap.size + 1, 0, none⟩ D _ (by show D ≠ w.heap.size + 1; omega)).trans KZ.out
    have hbs := boxed_set IZ.out.res (.bool EB)
    refine ⟨by simp, .inl ⟨_, _, rfl, run_takeDeferred hKS, ?_⟩⟩
    exact ⟨_, results_cell4 rfl _ _ (w.heap.size + 1) (.bool EB) rfl (show Boxed _ (w.heap.size + 1) 4 _ from ((grownBy_putObj' _ D _).block _ (blk_lt hbs) (by simp; omega)).trans hbs).cell, by rw [HQ.out], (IZ.out.bel.setCell (p := ⟨w.heap.size + 1, 0, none⟩) (by simp) _).trans (belowK_b (w := w) (Nat.le_refl _) _ D _ _ (by omega) hKS rfl rfl)⟩
end Go.Proofs.YtniknhhejlgdfaaGreatDoor
/- Ground.QC at a round that is not 0. -/
namespace Go.Proofs.YtniknhhejlgdfaaGreatDoor
open Go.RowKit Go.Shelf

/-- The error's number of a QC of a round that is not 0. -/
def qcrN (vs : List Va) (e ep r : Int) (blk : List Int) (xs : List Sd) : Nat :=
  if beginN vs e ep r 0 = 0 then (if quorumQ vs (fvD ep r blk) xs = true then 0 else 12) else beginN vs e ep r 0
theorem qcrN_le (vs : List Va) (e ep r : Int) (blk : List Int) (xs : List Sd) : qcrN vs e ep r blk xs ≤ 18 := by
  unfold qcrN
  split
  · split <;> omega
  · exact beginN_le _ _ _ _ _
set_option maxHeartbeats 8000000 in
set_option maxRecDepth 100000 in
theorem qcr_any (e : Int) (vs : List Va) (A : Option Addr) (n c : Nat) (gen : List Int) (hg : gen.length = 16) (ep r : Int) (hr0 : r ≠ 0) (hI1 : I64 ep) (hI2 : I64 r) (blk : List Int) (hl : blk.length = 16) (hbo : u8s_ok blk) (B : Option Addr) (k d : Nat) (xs : List Sd) (al : List Addr) (w : World) (hv : Vals w (.slice A n c) vs) (hs : SenN w al) (hk : w.rangeAt 18 0 (u32s kk)) (hx : Sgs w (.slice B k d) xs) (hkn : n ≤ 1000000) :
    Calls Tryz.prog 24 #[gndV e (.slice A n c) gen, qcV ep r blk (.slice B k d)] w fun x w' => x = .returned (errN al (qcrN vs e ep r blk xs)) ∧ Below w.heap.size w w' := by
  have b0 : Below w.heap.size w ((w.alloc (.cells (gndC e (.slice A n c) gen).toArray 26)).alloc (.cells (qcC ep r blk (.slice B k d)).toArray 29)) := ((Below.refl _ _).alloc (Nat.le_refl _) _).alloc (by simp) _
  have h0 : ((w.alloc (.cells (gndC e (.slice A n c) gen).toArray 26)).alloc (.cells (qcC ep r blk (.slice B k d)).toArray 29)).heap[w.heap.size]? = some (.cells (gndC e (.slice A n c) gen).toArray 26 (0, 0)) := heap_alloc2_old w _ _
  have h1 : ((w.alloc (.cells (gndC e (.slice A n c) gen).toArray 26)).alloc (.cells (qcC ep r blk (.slice B k d)).toArray 29)).heap[w.heap.size + 1]? = some (.cells (qcC ep r blk (.slice B k d)).toArray 29 (0, 0)) := by
    have := heap_alloc_new (w.alloc (.cells (gndC e (.slice A n c) gen).toArray 26)) (.cells (qcC ep r blk (.slice B k d)).toArray 29)
    rwa [World.size_alloc] at this
  have HV := Lib.hid (hv.below b0)
  have HS := Lib.hid (hs.below b0)
  have B0 := Lib.hid b0
  have G0 := Lib.hid (blk_range h0)
  have H0 := Lib.hid h0
  have H1 := Lib.hid h1
  have c0 : ((w.alloc (.cells (gndC e (.slice A n c) gen).toArray 26)).alloc (.cells (qcC ep r blk (.slice B k d)).toArray 29)).cell? ⟨w.heap.size + 1, 0, none⟩ = some (.int .i64 ep) := blk_cell h1 0 _ rfl
  have c1 : ((w.alloc (.cells (gndC e (.slice A n c) gen).toArray 26)).alloc (.cells (qcC ep r blk (.slice B k d)).toArray 29)).cell? ⟨w.heap.size + 1, 1, none⟩ = some (.int .i64 r) := blk_cell h1 1 _ rfl
  obtain ⟨aP, iP⟩ := hs.at 11 (by omega)
  have IP := Lib.hid iP
  have CP := Lib.hid (HS.out.cell 11 11 aP rfl iP)
  have HG := Lib.hid hg
  have HL := Lib.hid hl
  have HX := Lib.hid (hx.below b0)
  have HK := Lib.hid (range_below hk b0)
  have HBO := Lib.hid hbo
  have HIE := Lib.hid hI1
  have HIR := Lib.hid hI2
  have HKN := Lib.hid hkn
  clear b0 hv hs iP h0 h1 hg hl hx hk hbo hI1 hI2 hkn
  have h27 : (Tryz.prog.info? 26).map (·.size) = some (gndC e (.slice A n c) gen).length := by rw [gnd_len _ _ _ HG.out]; kernel_rfl
  unfold gndV qcV
  go_enter Tryz.func24, Tryz.ntmps24
  go_wp2_with (refine wpList_load_g rfl 26 (.tmp 2) rfl w.heap.size 0 rfl (gndC e (.slice A n c) gen) _ G0.out Tryz.underlying26 rfl h27 ?_)
  refine (at_any e vs A n c gen ep r 0 al _ HV.out HS.out).mono ?_
  rintro _ w1 ⟨rfl, hb1⟩
  have B1 := Lib.hid (B0.out.trans (hb1.mono B0.out.size))
  have d0 := cell_on hb1 c0
  have d1 := cell_on hb1 c1
  have cp := cell_on hb1 CP.out
  have R0 := Lib.hid (gnd_2 (blk_below H0.out hb1))
  have R1 := Lib.hid (qc_2 (blk_below H1.out hb1))
  have d3 := qc_3 HL.out (blk_below H1.out hb1)
  have V1 := Lib.hid (HV.out.below hb1)
  have S1 := Lib.hid (HS.out.below hb1)
  have X1 := Lib.hid (HX.out.below hb1)
  have K1 := Lib.hid (range_below HK.out hb1)
  have G1 := Lib.hid (blk_below H0.out hb1)
  have Q1 := Lib.hid (blk_below H1.out hb1)
  clear hb1 c0 c1 CP H0 H1 G0 HV HX HK
  by_cases hbg : beginN vs e ep r 0 = 0
  case neg =>
    have HB : Hid (errN al (qcrN vs e ep r blk xs) = errN al (beginN vs e ep r 0)) := Lib.hid (by unfold qcrN; rw [if_neg hbg])
    obtain ⟨N, hN⟩ : ∃ N, N = beginN vs e ep r 0 := ⟨_, rfl⟩
    rw [← hN] at hbg ⊢
    rw [← hN] at HB
    have hle := beginN_le vs e ep r 0
    rw [← hN] at hle
    obtain ⟨j, rfl⟩ : ∃ j, N = j + 1 := ⟨N - 1, by omega⟩
    obtain ⟨a, ha⟩ := HS.out.at j (by omega)
    have hea := errN_at ha
    rw [hea] at HB ⊢
    clear hea ha hbg hN hle
    go_wp2
    go_ret
    exact ⟨by rw [HB.out]; rfl, B1.out⟩
  rw [hbg, show errN al 0 = Value.nilIface from rfl]
  have HBG := Lib.hid hbg
  clear hbg
  go_wp2_with (refine wpList_load_g rfl 24 (.tmp 35) rfl (w.heap.size + 1) 2 rfl (u8s blk) _ R1.out Tryz.underlying24 rfl (by rw [u8s_len', HL.out]; exact Tryz.size24) ?_)
  refine (forVote_any ep r HIE.out HIR.out blk HL.out HBO.out w1 K1.out).mono ?_
  rintro _ w2 ⟨rfl, hb2⟩
  have hfl : (fvD ep r blk).length = 16 := short_len _ _
  have hfo : u8s_ok (fvD ep r blk) := short_ok _ _
  obtain ⟨FD, hFD⟩ : ∃ x, x = fvD ep r blk := ⟨_, rfl⟩
  rw [← hFD] at hfl hfo ⊢
  have HFD := Lib.hid hFD
  have HFL := Lib.hid hfl
  have HFO := Lib.hid hfo
  have B2 := Lib.hid (B1.out.trans (hb2.mono B1.out.size))
  have V2 := Lib.hid (V1.out.below hb2)
  have S2 := Lib.hid (S1.out.below hb2)
  have X2 := Lib.hid (X1.out.below hb2)
  have K2 := Lib.hid (range_below K1.out hb2)
  have G2 := Lib.hid (blk_below G1.out hb2)
  have Q2 := Lib.hid (blk_below Q1.out hb2)
  clear hb2 hFD hfl hfo d0 d1 d3 cp R0 R1 V1 S1 X1 K1 G1 Q1 B1
  go_wp2_with (first | (refine wpList_store_row rfl 24 (.tmp 6) (.tmp 37) rfl w2.heap.size rfl (u8s FD) rfl 24 (has_new w2 _ _ _ (by rw [u8s_len', HFL.out]; rfl)) (hi24 FD HFL.out) (one_u8s _) ?_; intro w3 hp3; have L3 : Below w2.heap.size w2 w3 := hp3.below ((Below.refl _ _).alloc (Nat.le_refl _) _) (Nat.le_refl _); have B3 := Lib.hid (B2.out.trans (L3.mono B2.out.size)); have V3 := Lib.hid (V2.out.below L3); have S3 := Lib.hid (S2.out.below L3); have X3 := Lib.hid (X2.out.below L3); have K3 := Lib.hid (range_below K2.out L3); have G3 := Lib.hid (blk_range (blk_below G2.out L3)); have Q3 := Lib.hid (qc_3 HL.out (blk_below Q2.out L3)); have D3 := Lib.hid (blk_range hp3.blk); clear hp3 L3) | (refine wpList_load_g rfl 26 (.tmp 2) rfl w.heap.size 0 rfl (gndC e (.slice A n c) gen) _ G3.out Tryz.underlying26 rfl h27 ?_))
  obtain ⟨aR, iR⟩ := S3.out.at 0 (by omega)
  obtain ⟨aF, iF⟩ := S3.out.at 3 (by omega)
  obtain ⟨aS, iS⟩ := S3.out.at 10 (by omega)
  obtain ⟨aT, iT⟩ := S3.out.at 16 (by omega)
  refine (gquorum_any e A n c gen FD HG.out HFL.out HFO.out vs xs 61 #[.pointer (some ⟨w.heap.size + 1, 0, none⟩), .pointer (some ⟨w2.heap.size, 0, none⟩)] k aR aF aS aT w3 (enters_of Tryz.func61 (by kernel_rfl) rfl)
    (fun l J Jx W hW hJ _ hY h0 => claims_in FD HFL.out 4 (by omega) l (w.heap.size + 1) w2.heap.size B k d xs w3 W J Jx hW hJ hY Q3.out D3.out X3.out h0)
    V3.out HKN.out ⟨S3.out.cell 10 10 aS rfl iS, S3.out.cell 0 0 aR rfl iR, S3.out.cell 16 16 aT rfl iT⟩ (S3.out.cell 3 3 aF rfl iF) K3.out).mono ?_
  rintro _ w4 ⟨rfl, hb4⟩
  have B4 := Lib.hid (B3.out.trans (hb4.mono B3.out.size))
  have cp4 := (S3.out.below hb4).cell 11 11 aP rfl IP.out
  clear hb4 iR iF iS iT
  have HQN : Hid (qcrN vs e ep r blk xs = if quorumQ vs FD xs = true then 0 else 12) := Lib.hid (by unfold qcrN; rw [if_pos HBG.out, ← HFD.out])
  obtain ⟨qb, hqb⟩ : ∃ b, b = quorumQ vs FD xs := ⟨_, rfl⟩
  rw [← hqb] at HQN ⊢
  cases qb with
  | true =>
    have HE : Hid (errN al (qcrN vs e ep r blk xs) = .nilIface) := Lib.hid (by rw [HQN.out]; rfl)
    clear hqb HQN
    go_wp2_with fail
    go_ret
    exact ⟨by rw [HE.out]; rfl, B4.out⟩
  | false =>
    have HE : Hid (errN al (qcrN vs e ep r blk xs) = errV aP) := Lib.hid (by rw [HQN.out]; exact errN_at IP.out)
    clear hqb HQN
    go_wp2_with fail
    go_ret
    exact ⟨by rw [HE.out]; rfl, B4.out⟩
end Go.Proofs.YtniknhhejlgdfaaGreatDoor
