/- Lemmas that laws of this seat rest on, part 13; each says its own conditions: WId, THashBytesW, TText, TAppD, SAll, SRely4, STalV, Ot, OFit, ONum, OOut, ODig. -/
import Derived.Test.YtniknhhejlgdfaaDoorRows
import Derived.WalkKit
import Derived.WalkSpells
import Derived.Maps.AppendAt
import Derived.Deep.MidRow
import Derived.Deep.AppendSrc
import Derived.Lib.Hide
import Derived.StillTailTactics
import Derived.Deep.QuietTactic
import Derived.BigQuiet
import Derived.IntWalk
import Derived.Lib.ConvBytes
import Derived.Lib.SlBytesRow
import Derived.Lib.SlBytesConst
import Derived.Laws.Cover3
import Derived.OwnWalk
import Derived.Orders
import Derived.Still
import Derived.StillTactics
import Derived.Laws.Pointers
import Derived.RangeFuncNested
import Derived.RangeFuncBound
import Derived.RangeFuncCalls
import Derived.RangeFuncLeaves
import Derived.Shelf.Abstract
import Derived.Shelf.RegionOpen
import Derived.OwnWalkIn
import Derived.TacticsInMore
import Derived.LoopNIn
import Derived.LoopIn
import Derived.Test.YtniknhhejlgdfaaDoorProg
import Derived.Laws.BytesArg
import Derived.OrdersIn
import Derived.Laws.Bits64b
import Derived.Laws.Bits64
import Derived.Maps.OwnIn
import Derived.Laws.MakeOwn
import Derived.Test.YtniknhhejlgdfaaDoorBase4
import Derived.Test.YtniknhhejlgdfaaDoorBase6
import Derived.Test.YtniknhhejlgdfaaDoorBase10
import Derived.Test.YtniknhhejlgdfaaDoorBase11
import Derived.Test.YtniknhhejlgdfaaDoorBase12
/- A block's bytes and its id. -/
namespace Go.Proofs.YtniknhhejlgdfaaDoor
open Go.RowKit

/-- A block's bytes; none: an error. -/
def encB (b : Bk) : WS := bkS b (some [])
theorem Tryd.size40 : (Tryd.prog.info? 40).map (·.size) = some 39 := by kernel_rfl
theorem Lim.bk {b : Bk} (h1 : ∀ x ∈ b.justify.votes, SdOk x) (h2 : b.justify.block.length = 16) (h3 : b.parent.length = 16) (h4 : ∀ x ∈ b.next, x.1.length = 16) {s : WS} {m : Nat} (hs : Lim s m) : Lim (bkS b s) (m + 10000) := by
  unfold bkS
  exact (Lim.putP Lim.va h4 (Lim.pay (Lim.qc h1 h2 (Lim.dg _ h3 _ _ ((hs.num b.epoch 4).num b.round 6))))).mono (by omega)
theorem BkAt.lim {w : World} {cs : List Value} {b : Bk} (h : BkAt w cs b) : Lim (encB b) 10000 := by
  obtain ⟨q, A, c, B, d, e, h1, h2, h3⟩ := h.ex
  obtain ⟨A', c', _, hs⟩ := h1.ex
  have := Lim.bk (b := b) hs.ok h1.blk.1 h.par.1 h3.good (s := some []) (m := 0) (fun b hb => by cases hb; simp)
  simpa [encB] using this
/-- What codec.ID answers: the id and the error. -/
def idB (b : Bk) : List Int := match encB b with
  | some bs => short 6 [bs]
  | none => zero16
def idE (b : Bk) (aR : Addr) : Value := match encB b with
  | some _ => .nilIface
  | none => errV aR
theorem idB_good (b : Bk) : (idB b).length = 16 ∧ u8s_ok (idB b) := by
  unfold idB
  split
  · exact ⟨short_len _ _, short_ok _ _⟩
  · exact ⟨zero16_len, by intro x hx; simp only [zero16, List.mem_replicate] at hx; obtain ⟨_, rfl⟩ := hx; unfold B8; omega⟩

set_option maxHeartbeats 8000000 in
set_option maxRecDepth 100000 in
theorem bytes1_any (w0 : World) (q bb : Nat) (aR : Addr) (r : Option Nat) (cs : List Value) (b : Bk) (hc : w0.heap[bb]? = some (.cells cs.toArray 40 (0, 0))) (hB : BkAt w0 cs b) (w : World) (H : WrAt w0.heap.size w q aR (some []) r) (hb : Below w0.heap.size w0 w) (hR : w0.cell? ⟨1, 0, none⟩ = some (errV aR)) (h1 : 1 < w0.heap.size) :
    Calls Tryd.prog 86 #[wrV q, .pointer (some ⟨bb, 0, none⟩)] w fun e w' => e = .returned (.tuple #[]) ∧ WStep w0.heap.size q aR (encB b) r w w' := by
  have b0 : Below w.heap.size w (w.alloc (.cells #[.pointer (some ⟨q, 0, none⟩)] 171)) := (Below.refl _ _).alloc (Nat.le_refl _) _
  have H0 := Lib.hid (H.below b0)
  have B0 := Lib.hid b0
  have HB := Lib.hid (hb.trans (b0.mono hb.size))
  have RW := Lib.hid (blk_range (xs := [.pointer (some ⟨q, 0, none⟩)]) (heap_alloc_new w (.cells #[.pointer (some ⟨q, 0, none⟩)] 171)))
  have RB := Lib.hid (blk_range (blk_below hc HB.out))
  obtain ⟨⟨qs, A, c, B, d, rfl, hq, hp, hv⟩, hpar, hkeys⟩ := hB
  obtain ⟨⟨A', c', rfl, hs⟩, hblk⟩ := hq
  have hl := bk_len b.epoch b.round b.parent (qcC b.justify.epoch b.justify.round b.justify.block (.slice A' b.justify.votes.length c')) (.slice A b.payload.length c) (.slice B b.next.length d) hpar.1 (qc_len _ _ _ _ hblk.1)
  have HW := Lib.hid (fun W => wblock_any w0 q aR (some []) r b.epoch b.round b.justify.epoch b.justify.round b.parent b.justify.block hpar.1 hpar.2 hblk.1 hblk.2 b.justify.votes b.payload b.next A' A B b.justify.votes.length c' b.payload.length c b.next.length d hs rfl hp rfl hv rfl hkeys W)
  clear b0 H hb hc hs hp hv hpar hkeys hblk
  go_enter Tryd.func86, Tryd.ntmps86
  go_wp2_with (first | (refine wpList_load_g rfl 171 (.tmp 2) rfl w.heap.size 0 rfl [.pointer (some ⟨q, 0, none⟩)] _ RW.out Tryd.underlying171 rfl Tryd.size171 ?_) | (refine wpList_load_g rfl 40 (.tmp 1) rfl bb 0 rfl _ _ RB.out Tryd.underlying40 rfl (by rw [hl]; exact Tryd.size40) ?_))
  refine (HW.out _ H0.out HB.out hR h1 (fun b hb => by cases hb; simp)).mono ?_
  rintro _ w2 ⟨rfl, hst⟩
  go_wp2_with fail
  go_end0
  exact ⟨rfl, WStep.then_ (Only.of_below B0.out) (.inl rfl) hst⟩

set_option maxHeartbeats 8000000 in
set_option maxRecDepth 100000 in
theorem written_any (w : World) (bb : Nat) (aR : Addr) (cs : List Value) (b : Bk) (hc : w.heap[bb]? = some (.cells cs.toArray 40 (0, 0))) (hB : BkAt w cs b) (hR : w.cell? ⟨1, 0, none⟩ = some (errV aR)) (h1 : 1 < w.heap.size) :
    Calls Tryd.prog 85 #[.func (.func 86) #[] #[.pointer (some ⟨bb, 0, none⟩)]] w fun e w' => Below w.heap.size w w' ∧ ((encB b = none ∧ e = .returned (.tuple #[.slice none 0 0, errV aR])) ∨ ∃ bs v, encB b = some bs ∧ e = .returned (.tuple #[v, .nilIface]) ∧ Bs w' v bs) := by
  have HC := Lib.hid hc
  have HBK := Lib.hid hB
  have HR := Lib.hid hR
  clear hc hB hR
  go_enter Tryd.func85, Tryd.ntmps85
  go_wp2_with fail
  refine (newWriter_any aR w).mono ?_
  rintro _ w1 ⟨q, rfl, hw1, hb1⟩
  have A1 := Lib.hid hw1
  have B1 := Lib.hid hb1
  clear hw1 hb1
  go_wp2_with (first | (refine wpList_store_row rfl 171 (.tmp 4) (.tmp 6) rfl w1.heap.size rfl [.pointer (some ⟨q, 0, none⟩)] rfl 171 (has_new _ _ _ _ rfl) Tryd.size171 (by simp [Value.oneCell']) ?_; intro w2 hp2; have L2 : Below w1.heap.size w1 w2 := (hp2.below ((Below.refl _ _).alloc (Nat.le_refl _) _) (Nat.le_refl _)); have A2 := Lib.hid (A1.out.below L2); have B2 := Lib.hid (B1.out.trans (L2.mono B1.out.size)); have K2 := Lib.hid hp2.blk; have R2 := Lib.hid (blk_range K2.out); clear hp2 L2) | (refine wpList_load_g rfl 171 (.tmp 4) rfl w1.heap.size 0 rfl [.pointer (some ⟨q, 0, none⟩)] _ R2.out Tryd.underlying171 rfl Tryd.size171 ?_))
  refine (bytes1_any w q bb aR none cs b HC.out HBK.out w2 A2.out B2.out HR.out h1).mono ?_
  rintro _ w3 ⟨rfl, hst⟩
  obtain ⟨r3, a3, _⟩ := hst.next
  have A3 := Lib.hid a3
  have B3 := Lib.hid (B2.out.trans (hst.below A2.out))
  have K3 := Lib.hid (hst.keep A1.out K2.out (Nat.le_refl _))
  have c3 := blk_cell (xs := [.pointer (some ⟨q, 0, none⟩)]) K3.out 0 _ rfl
  clear hst a3
  go_wp2_with fail
  refine (done_any w.heap.size q aR (encB b) r3 w3 A3.out).mono ?_
  rintro e4 w4 ⟨hb4, (⟨hn, rfl⟩ | ⟨bs, v, hs, rfl, hv⟩)⟩
  · have B4 := Lib.hid (B3.out.trans (hb4.mono B3.out.size))
    have HN := Lib.hid hn
    clear hb4 hn
    go_wp2_with fail
    go_ret2
    exact ⟨B4.out, .inl ⟨HN.out, by first | rfl | trivial⟩⟩
  · have B4 := Lib.hid (B3.out.trans (hb4.mono B3.out.size))
    have HS := Lib.hid hs
    obtain ⟨A5, c5, rfl⟩ := hv.form
    have HV := Lib.hid hv
    clear hb4 hs hv
    go_wp2_with fail
    go_ret2
    exact ⟨B4.out, .inr ⟨bs, _, HS.out, by first | rfl | trivial, HV.out⟩⟩

set_option maxHeartbeats 8000000 in
set_option maxRecDepth 100000 in
theorem bytesB_any (w : World) (aR : Addr) (cs : List Value) (b : Bk) (hB : BkAt w cs b) (hR : w.cell? ⟨1, 0, none⟩ = some (errV aR)) (h1 : 1 < w.heap.size) :
    Calls Tryd.prog 67 #[.agg cs.toArray] w fun e w' => Below w.heap.size w w' ∧ ((encB b = none ∧ e = .returned (.tuple #[.slice none 0 0, errV aR])) ∨ ∃ bs v, encB b = some bs ∧ e = .returned (.tuple #[v, .nilIface]) ∧ Bs w' v bs) := by
  have b0 : Below w.heap.size w (w.alloc (.cells cs.toArray 40)) := (Below.refl _ _).alloc (Nat.le_refl _) _
  have HW := Lib.hid (written_any (w.alloc (.cells cs.toArray 40)) w.heap.size aR cs b (heap_alloc_new w _) (hB.below b0) (cell_on b0 hR) (by simp; omega))
  have B0 := Lib.hid b0
  clear b0 hB hR
  go_enter Tryd.func67, Tryd.ntmps67
  go_wp2_with fail
  refine HW.out.mono ?_
  rintro e4 w4 ⟨hb4, (⟨hn, rfl⟩ | ⟨bs, v, hs, rfl, hv⟩)⟩
  · have B4 := Lib.hid (B0.out.trans (hb4.mono B0.out.size))
    have HN := Lib.hid hn
    clear hb4 hn
    go_wp2_with fail
    go_ret2
    exact ⟨B4.out, .inl ⟨HN.out, by first | rfl | trivial⟩⟩
  · have B4 := Lib.hid (B0.out.trans (hb4.mono B0.out.size))
    have HS := Lib.hid hs
    obtain ⟨A5, c5, rfl⟩ := hv.form
    have HV := Lib.hid hv
    clear hb4 hs hv
    go_wp2_with fail
    go_ret2
    exact ⟨B4.out, .inr ⟨bs, _, HS.out, by first | rfl | trivial, HV.out⟩⟩

set_option maxHeartbeats 8000000 in
set_option maxRecDepth 100000 in
theorem id_any (w : World) (aR : Addr) (cs : List Value) (b : Bk) (hB : BkAt w cs b) (hR : w.cell? ⟨1, 0, none⟩ = some (errV aR)) (hk : w.rangeAt 18 0 (u32s kk)) (h18 : 18 < w.heap.size) :
    Calls Tryd.prog 49 #[.agg cs.toArray] w fun e w' => e = .returned (.tuple #[.agg (u8s (idB b)).toArray, idE b aR]) ∧ Below w.heap.size w w' := by
  have hl39 : cs.length = 39 := by
    obtain ⟨⟨qs, A, c, B, d, rfl, hq, _⟩, hpar, _⟩ := hB
    obtain ⟨⟨A', c', rfl, _⟩, hblk⟩ := hq
    exact bk_len _ _ _ _ _ _ hpar.1 (qc_len _ _ _ _ hblk.1)
  have b0 : Below w.heap.size w ((w.alloc (.cells cs.toArray 40)).alloc (.cells (Array.replicate 16 (.int .u8 0)) 24)) := ((Below.refl _ _).alloc (Nat.le_refl _) _).alloc (by simp) _
  have HL := Lib.hid hB.lim
  have HBK := Lib.hid (hB.below b0)
  have HR := Lib.hid (cell_on b0 hR)
  have HK := Lib.hid hk
  have B0 := Lib.hid b0
  have RB := Lib.hid (blk_range (heap_alloc2_old w (.cells cs.toArray 40) (.cells (Array.replicate 16 (.int .u8 0)) 24)))
  have HH := Lib.hid (has_new2 w (.cells cs.toArray 40) (Array.replicate 16 (.int .u8 0)) 24 16 (by simp))
  clear b0 hB hR hk
  have hsz : ∀ V : List Int, V.length = 16 → (Tryd.prog.info? 24).map (·.size) = some (u8s V).length := fun V h => by rw [u8s_len', h]; exact Tryd.size24
  go_enter Tryd.func49, Tryd.ntmps49
  go_wp2_with (refine wpList_load_g rfl 40 (.tmp 1) rfl w.heap.size 0 rfl cs _ RB.out Tryd.underlying40 rfl (by rw [hl39]; exact Tryd.size40) ?_)
  refine (bytesB_any _ aR cs b HBK.out HR.out (by have := B0.out.size; omega)).mono ?_
  rintro e4 w4 ⟨hb4, (⟨hn, rfl⟩ | ⟨bs, v, hs, rfl, hv⟩)⟩
  · have B4 := Lib.hid (B0.out.trans (hb4.mono B0.out.size))
    have H4 := Lib.hid (HH.out.below hb4)
    have hi : idB b = zero16 := by unfold idB; rw [hn]
    have he : idE b aR = errV aR := by unfold idE; rw [hn]
    have HI := Lib.hid hi
    have HE := Lib.hid he
    clear hb4 hn hi he
    go_wp2_with (refine wpList_store_row rfl 24 (.tmp 2) (.tmp 13) rfl (w.heap.size + 1) rfl (u8s zero16) rfl 24 H4.out (hsz zero16 zero16_len) (one_u8s _) ?_; intro w5 hp5; have K5 := Lib.hid hp5.blk; have B5 := Lib.hid (hp5.below B4.out (by omega)); clear hp5)
    refine bodyPost_ret (v := .tuple #[.agg (u8s zero16).toArray, errV aR]) (results_cell_row_tmp rfl _ _ (w.heap.size + 1) 24 _ (0, 0) _ rfl K5.out Tryd.underlying24 rfl (by simpa using hsz zero16 zero16_len) rfl) rfl ⟨by rw [HI.out, HE.out], B5.out⟩
  · have B4 := Lib.hid (B0.out.trans (hb4.mono B0.out.size))
    have H4 := Lib.hid (HH.out.below hb4)
    have hi : idB b = short 6 [bs] := by unfold idB; rw [hs]
    have he : idE b aR = .nilIface := by unfold idE; rw [hs]
    have hbl : bs.length ≤ 10000 := HL.out bs hs
    have HI := Lib.hid hi
    have HE := Lib.hid he
    obtain ⟨A5, c5, rfl⟩ := hv.form
    have L5 : Below w4.heap.size w4 (w4.alloc (.cells #[.slice A5 bs.length c5] 71)) := (Below.refl _ _).alloc (Nat.le_refl _) _
    have HS := Lib.hid (Bss.new w4 [.slice A5 bs.length c5] [bs] rfl (fun i hi => by
      have : i = 0 := by simp at hi; omega
      subst this
      exact hv) (by simp))
    have B5 := Lib.hid (B4.out.trans (L5.mono B4.out.size))
    have H5 := Lib.hid (H4.out.below L5)
    clear hb4 hs hv hi he L5
    go_wp2_with fail
    refine (of_any 6 [bs] _ 1 1 _ HS.out rfl (by simp [framed, be4]; omega) (range_below HK.out B5.out) (Nat.lt_of_lt_of_le h18 B5.out.size)).mono ?_
    rintro _ w6 ⟨rfl, hb6⟩
    have B6 := Lib.hid (B5.out.trans (hb6.mono B5.out.size))
    have H6 := Lib.hid (H5.out.below hb6)
    have hsl := short_len 6 [bs]
    obtain ⟨SH, hSH⟩ : ∃ x, x = short 6 [bs] := ⟨_, rfl⟩
    rw [← hSH] at hsl ⊢
    have HSH := Lib.hid hSH
    clear hSH hb6
    go_wp2_with (refine wpList_store_row rfl 24 (.tmp 2) (.tmp 17) rfl (w.heap.size + 1) rfl (u8s SH) rfl 24 (by rw [u8s_len', hsl]; exact H6.out) (hsz SH hsl) (one_u8s _) ?_; intro w7 hp7; have K7 := Lib.hid hp7.blk; have B7 := Lib.hid (hp7.below B6.out (by omega)); clear hp7)
    refine bodyPost_ret (v := .tuple #[.agg (u8s SH).toArray, .nilIface]) (results_cell_row_tmp rfl _ _ (w.heap.size + 1) 24 _ (0, 0) _ rfl K7.out Tryd.underlying24 rfl (by simpa using hsz SH hsl) rfl) rfl ⟨by rw [HI.out, HE.out, HSH.out], B7.out⟩
end Go.Proofs.YtniknhhejlgdfaaDoor
/- The law HashBytes, walked. -/
namespace Go.Proofs.YtniknhhejlgdfaaDoor
open Go.RowKit

theorem take_add (bs : List Int) (i : Nat) (h : i < bs.length) : bs.take (i + 1) = bs.take i ++ [bs.getD i 0] := by
  rw [List.take_succ_eq_append_getElem h]
  simp [List.getD_eq_getElem?_getD, h]

end Go.Proofs.YtniknhhejlgdfaaDoor
/- What the reference's Text and one do. -/
namespace Go.Proofs.YtniknhhejlgdfaaDoor
open Go.RowKit

set_option maxHeartbeats 4000000 in
set_option maxRecDepth 100000 in
theorem text_any (x : List Int) (hl : x.length = 16) (hx : u8s_ok x) (w : World) :
    Calls Tryd.prog 90 #[.agg (u8s x).toArray] w fun e w' => e = .returned (.string (strOfNums x)) ∧ Below w.heap.size w w' := by
  have HL := Lib.hid hl
  have HX := Lib.hid hx
  have hi43 : (Tryd.prog.info? 24).map (·.size) = some (u8s x).length := by rw [u8s_len', hl]; exact Tryd.size24
  have HI := Lib.hid hi43
  clear hl hx hi43
  have hra : ((w.alloc (.cells (u8s x).toArray 24)).alloc (.cells #[] 5)).rangeAt w.heap.size 0 (u8s x) := World.rangeAt_alloc (range_new w (u8s x) 24) _
  have HRA := Lib.hid hra
  clear hra
  go_enter Tryd.func90, Tryd.ntmps90
  go_wp2_with (refine wpList_load_g rfl 24 (.tmp 1) rfl w.heap.size 0 rfl (u8s x) _ HRA.out Tryd.underlying24 rfl HI.out ?_)
  have hown0 : OwnO ((w.alloc (.cells (u8s x).toArray 24)).alloc (.cells #[] 5)) w.heap.size 5 (.slice (some ⟨w.heap.size + 1, 0, none⟩) 0 0) (u8s (x.take 0)) := by
    have := own_mk (w := (w.alloc (.cells (u8s x).toArray 24)).alloc (.cells #[] 5)) (base := w.heap.size) (e := 5) (c := 0) (w.alloc (.cells (u8s x).toArray 24)) (by simp) #[] rfl (by simp) rfl
    rw [World.size_alloc] at this
    exact this
  have hbel0 : Below w.heap.size w ((w.alloc (.cells (u8s x).toArray 24)).alloc (.cells #[] 5)) := ((Below.refl _ _).alloc (Nat.le_refl _) _).alloc (by simp) _
  have O0 := Lib.hid hown0
  have B0 := Lib.hid hbel0
  clear hown0 hbel0
  go_loopw [3, 8] (fun s k wr => ∃ (i c' : Nat) (A' : Option Addr), i ≤ 16 ∧ s = .slice A' i c' ∧ k = .int .i64 i ∧ Hid (OwnO wr w.heap.size 5 s (u8s (x.take i))) ∧ Hid (Below w.heap.size w wr))
    (fun _ k _ => 16 - (intOf k).toNat)
  case atStart => exact ⟨0, 0, _, by omega, rfl, rfl, O0, B0⟩
  case round =>
    clear O0 B0
    obtain ⟨i, c1, A1, hi, rfl, rfl, hown, hbel⟩ := hrel
    by_cases hlt : i < 16
    · have hlx := HL.out
      obtain ⟨b, hb⟩ : ∃ b, b = x.getD i 0 := ⟨_, rfl⟩
      have hbk : (u8s x).toArray[(i : Int).toNat]? = some (.int .u8 b) := by
        simp [u8s, hb, List.getD_eq_getElem?_getD, List.getElem?_eq_getElem (show i < x.length by omega)]
      have htk : x.take (i + 1) = x.take i ++ [b] := by rw [hb]; exact take_add x i (by omega)
      have hrl : (x.take i).length = i := by rw [List.length_take]; omega
      have HBK := Lib.hid hbk
      have HTK := Lib.hid htk
      have HRL := Lib.hid hrl
      clear hbk htk hrl hb hlx
      go_wp2_with (first | (refine wpList_index_arr rfl 24 5 16 (.tmp 7) (.tmp 8) rfl (u8s x).toArray .i64 i (.int .u8 b) rfl rfl Tryd.underlying24 _ Tryd.underlying5 rfl (by kernel_rfl) (by omega) (by omega) HBK.out ?_) | (at_builtin; refine appO (w0 := w) w.heap.size rfl (.tmp 11) (.tmp 13) 71 71 5 (.int .u8 0) 1 rfl Tryd.underlying71 Tryd.info5 rfl (by omega) _ _ rfl _ 1 [.int .u8 b] rfl (src_new wr 5 [.int .u8 b] 1 rfl Tryd.underlying71 (by simp [Value.oneCell'])) (hown.out.below ((Below.refl _ _).alloc (Nat.le_refl _) _)) (hbel.out.alloc hbel.out.size _) (by have := hbel.out.size; simp; omega) (by rw [u8s_len', HRL.out]; omega) ?_; intro v5 w5 ap5; obtain ⟨A5, c5, rfl, O5, B5⟩ := ap5.byte HRL.out; clear ap5))
      go_roundw
      case rel => exact ⟨i + 1, c5, A5, by omega, rfl, by go_num, Lib.hid (by rw [HTK.out]; exact O5.out), B5⟩
      case measure => simp [intOf]; omega
    · obtain rfl : i = 16 := by omega
      have htk : x.take 16 = x := List.take_of_length_le (by rw [HL.out]; exact Nat.le_refl _)
      rw [htk] at hown
      have hbs : Bs wr (.slice A1 16 c1) x := Bs.of_own hown.out HX.out
      have HBS := Lib.hid hbs
      clear htk hown hbs
      go_wp2_with (refine wpList_conv_str rfl (.tmp 16) rfl (.slice A1 16 c1) x rfl HBS.out ?_)
      go_ret
      exact ⟨rfl, hbel.out⟩
end Go.Proofs.YtniknhhejlgdfaaDoor
/- append of one digest in a region that draws its order; worlds that change in some blocks alone. -/
namespace Go.Proofs.YtniknhhejlgdfaaDoor
open Go.RowKit

/-- All but some blocks lie as they lay. -/
structure But (S : Nat → Prop) (w w' : World) : Prop where
  os : w'.os = w.os
  tape : w'.tape = w.tape
  output : w'.output = w.output
  size : w.heap.size ≤ w'.heap.size
  same : ∀ k, k < w.heap.size → ¬ S k → w'.heap[k]? = w.heap[k]?
theorem But.refl (S : Nat → Prop) (w : World) : But S w w := ⟨rfl, rfl, rfl, Nat.le_refl _, fun _ _ _ => rfl⟩
theorem But.of_below {S : Nat → Prop} {w w' : World} (h : Below w.heap.size w w') : But S w w' := ⟨h.os, h.tape, h.output, h.size, fun k hk _ => h.block k hk⟩
theorem But.trans {S : Nat → Prop} {a b c : World} (h : But S a b) (k : But S b c) : But S a c :=
  ⟨k.os.trans h.os, k.tape.trans h.tape, k.output.trans h.output, Nat.le_trans h.size k.size, fun i hi hs => (k.same i (Nat.lt_of_lt_of_le hi h.size) hs).trans (h.same i hi hs)⟩
theorem But.mono {S T : Nat → Prop} {a b : World} (h : But S a b) (hst : ∀ k, k < a.heap.size → S k → T k) : But T a b :=
  ⟨h.os, h.tape, h.output, h.size, fun i hi hs => h.same i hi fun hx => hs (hst i hi hx)⟩
theorem But.blk {S : Nat → Prop} {w w' : World} (h : But S w w') {g : Nat} {o : Obj} (hg : w.heap[g]? = some o) (hs : ¬ S g) : w'.heap[g]? = some o := (h.same g (blk_lt hg) hs).trans hg
theorem But.low {S : Nat → Prop} {w w' : World} {B : Nat} (h : But S w w') (hb : B ≤ w.heap.size) (hs : ∀ k, S k → B ≤ k) : Below B w w' :=
  ⟨h.os, h.tape, h.output, h.size, fun k hk => h.same k (by omega) fun hx => by have := hs k hx; omega⟩
theorem But.cellT {S : Nat → Prop} {w w' : World} (h : But S w w') {a : Addr} {v : Value} (hc : w.cell? a = some v) (hs : ¬ S a.block) : w'.cell? a = some v := by
  have hl := World.block_lt_of_cell? w a hc
  rw [← hc]
  exact World.cell?_of_block (h.same a.block hl hs)
end Go.Proofs.YtniknhhejlgdfaaDoor
/- slices.Clone at texts; the iterator over the pool. -/
namespace Go.Proofs.YtniknhhejlgdfaaDoor
open Go.RowKit Go.Shelf
attribute [local go_sem] Oper.semAt_some

theorem OwnO.same {w w' : World} {base e : Nat} {v : Value} {xs : List Value} (h : OwnO w base e v xs) (hs : ∀ k, v.ownBlock = some k → k < w.heap.size → w'.heap[k]? = w.heap[k]?) : OwnO w' base e v xs := by
  rcases h with h | ⟨g, off, cap, cur, fr, rfl, hb, hgg, rest⟩
  · exact .inl h
  · exact .inr ⟨g, off, cap, cur, fr, rfl, hb, (hs g rfl (blk_lt hgg)).trans hgg, rest⟩
end Go.Proofs.YtniknhhejlgdfaaDoor
/- The law on regions that draw their order, where one operation changes what the others leave. -/
namespace Go.Proofs.YtniknhhejlgdfaaDoor
open Go.RowKit

theorem Gives.mono4 {P : Program} {o : Oper} {ρ : Operand → Value} {w : World} {S S' : Value → World → Prop} (h : Gives P o ρ w S) (hs : ∀ v w', S v w' → S' v w') : Gives P o ρ w S' := by
  unfold Gives at h ⊢
  split at h
  · exact hs _ _ h
  · exact hs _ _ h
  · exact h.mono fun e w'' ⟨v, h1, h2⟩ => ⟨v, h1, hs _ _ h2⟩
  · exact h.elim
section
variable (P : Program) (ops : Array Oper) (E Z : World → World → Prop) (mu : Nat) (R : Nat → World → Value → Prop) (w0 : World) (Q : Exit → Act → World → Prop)

end

section
variable {P : Program} {ops : Array Oper} {E Z : World → World → Prop} {mu : Nat} {R : Nat → World → Value → Prop} {w0 : World} {Q : Exit → Act → World → Prop} {a0 : Act}

section
variable {f : (Nat → Value) → Act} {i : Nat} {o : Oper} {E Z : World → World → Prop} {mu : Nat} {R : Nat → World → Value → Prop}
end
end
end Go.Proofs.YtniknhhejlgdfaaDoor
/- The reference's tally: Enough, Put. -/
namespace Go.Proofs.YtniknhhejlgdfaaDoor
section
open Go.RowKit Go.Shelf
attribute [local go_sem] Oper.semAt_some

section
variable {P : Program} {ops : Array Oper} {E Z : World → World → Prop} {mu : Nat} {R : Nat → World → Value → Prop} {w0 : World}
theorem step4o {f : (Nat → Value) → Act} {i : Nat} {o : Oper} (hg : o.guard = none) (hi : i ≠ mu) (h : ∀ vs w, E w0 w → Deps R vs w o.after.toList → Gives P o (f vs).eval w (fun v w' => (E w w' ∧ Z w w') ∧ ∀ w'', E w' w'' → R i w'' v)) : StepOk4 P ops E Z mu R w0 f i o := by
  intro vs w h1 _ h3
  rw [if_pos (by simp [Region.wanted, hg])]
  exact (h vs w h1 h3).mono4 fun v w' hh => ⟨hh.1.1, fun _ => hh.1.2, fun w'' h4 => hh.2 w'' (by rwa [if_neg hi] at h4)⟩
theorem step4m {f : (Nat → Value) → Act} {o : Oper} (hg : o.guard = none) (h : ∀ vs w, E w0 w → Z w0 w → Deps R vs w o.after.toList → Gives P o (f vs).eval w (fun v w' => E w w' ∧ ∀ w'', Z w' w'' → R mu w'' v)) : StepOk4 P ops E Z mu R w0 f mu o := by
  intro vs w h1 h2 h3
  rw [if_pos (by simp [Region.wanted, hg])]
  exact (h vs w h1 (h2 rfl) h3).mono4 fun v w' hh => ⟨hh.1, fun hn => absurd rfl hn, fun w'' h4 => hh.2 w'' (by rwa [if_pos rfl] at h4)⟩
end
theorem but_drewT {S : Nat → Prop} {w W : World} (h : But S w.drew W) : But S w W := ⟨h.os, h.tape, h.output, h.size, h.same⟩

end
section
open Go.RowKit Go.Shelf
attribute [local go_sem] Oper.semAt_some

end
end Go.Proofs.YtniknhhejlgdfaaDoor
/- The document's writer in memory. -/
namespace Go.Proofs.YtniknhhejlgdfaaDoor
open Go.RowKit

/-- A writer of what was written so far in block q; r: the block of its bytes. -/
structure OtAt (base : Nat) (w : World) (q : Nat) (s : WS) (r : Option Nat) : Prop where
  low : base ≤ q
  at_ : ∃ ev sv bs, w.heap[q]? = some (.cells #[sv, ev] 113 (0, 0)) ∧ OwnO w base 5 sv (u8s bs) ∧ sv.ownBlock = r ∧ u8s_ok bs ∧ bs.length ≤ maxW ∧ ((s = some bs ∧ ev = .int .i64 0) ∨ (s = none ∧ ev = .int .i64 1))
  ne : r ≠ some q
theorem OtAt.lt {base : Nat} {w : World} {q : Nat} {s : WS} {r : Option Nat} (h : OtAt base w q s r) : q < w.heap.size := by
  obtain ⟨_, _, _, hb, _⟩ := h.at_
  exact blk_lt hb
theorem OtAt.row {base : Nat} {w : World} {q : Nat} {s : WS} {r : Option Nat} (h : OtAt base w q s r) : ∀ k, r = some k → base ≤ k ∧ k < w.heap.size := by
  obtain ⟨_, _, _, _, ho, hr, _⟩ := h.at_
  exact fun k hk => ho.lt k (hr.trans hk)
theorem OtAt.same {base : Nat} {w w' : World} {q : Nat} {s : WS} {r : Option Nat} (h : OtAt base w q s r) (hg : w.grownBy w' none) : OtAt base w' q s r := by
  obtain ⟨ev, sv, bs, hb, ho, hr, h1, h2, h3⟩ := h.at_
  exact ⟨h.low, ⟨ev, sv, bs, (hg.block q (blk_lt hb) (by simp)).trans hb, ho.kept hg (by simp), hr, h1, h2, h3⟩, h.ne⟩
theorem OtAt.below {base : Nat} {w w' : World} {q : Nat} {s : WS} {r : Option Nat} (h : OtAt base w q s r) (hb : Below w.heap.size w w') : OtAt base w' q s r :=
  h.same ⟨hb.os, hb.tape, hb.output, hb.size, fun k hk _ => hb.block k hk⟩

/-- What a step of a writer leaves. -/
structure OStep (base q : Nat) (s' : WS) (r : Option Nat) (w w' : World) : Prop where
  at_ : ∃ r', OtAt base w' q s' r' ∧ (r' = r ∨ ∃ b, r' = some b ∧ w.heap.size ≤ b)
  only : Only q r w w'
theorem OStep.refl {base q : Nat} {s : WS} {r : Option Nat} {w : World} (h : OtAt base w q s r) : OStep base q s r w w := ⟨⟨r, h, .inl rfl⟩, Only.refl _ _ _⟩
theorem OStep.of_below {base q : Nat} {s : WS} {r : Option Nat} {w w' : World} (h : OtAt base w q s r) (hb : Below w.heap.size w w') : OStep base q s r w w' := ⟨⟨r, h.below hb, .inl rfl⟩, Only.of_below hb⟩
theorem OStep.then_ {base q : Nat} {s2 : WS} {r r1 : Option Nat} {w w1 w2 : World} (h : Only q r w w1) (hr : r1 = r ∨ ∃ b, r1 = some b ∧ w.heap.size ≤ b) (h2 : OStep base q s2 r1 w1 w2) : OStep base q s2 r w w2 := by
  obtain ⟨⟨r2, a2, p2⟩, o2⟩ := h2
  refine ⟨⟨r2, a2, ?_⟩, h.trans o2 hr⟩
  rcases p2 with rfl | ⟨b, rfl, hb⟩
  · exact hr
  · exact .inr ⟨b, rfl, Nat.le_trans h.size hb⟩
/-- What lay before the writer stays. -/
theorem OStep.below {base q : Nat} {s s' : WS} {r : Option Nat} {w w' : World} (h : OStep base q s' r w w') (h0 : OtAt base w q s r) : Below base w w' :=
  h.only.below h0.low (fun k hk => (h0.row k hk).1) (by have := h0.low; have := h0.lt; omega)
/-- Blocks that the writer does not own stay. -/
theorem OStep.blk {base q b : Nat} {s' : WS} {r : Option Nat} {w w' : World} {o : Obj} (h : OStep base q s' r w w') (hb : w.heap[b]? = some o) (h1 : b ≠ q) (h2 : some b ≠ r) : w'.heap[b]? = some o := h.only.blk hb h1 h2

theorem OStep.next {base q : Nat} {s : WS} {r : Option Nat} {w w1 : World} (h : OStep base q s r w w1) : ∃ r1, OtAt base w1 q s r1 ∧ ∀ s' w2, OStep base q s' r1 w1 w2 → OStep base q s' r w w2 := by
  obtain ⟨r1, a, p⟩ := h.at_
  exact ⟨r1, a, fun s' w2 h2 => OStep.then_ h.only p h2⟩
/-- A block that was made behind the writer's bytes. -/
theorem OStep.keep {base q : Nat} {s s0 : WS} {r : Option Nat} {w w1 : World} {b : Nat} {o : Obj} {w00 : World} (h : OStep base q s r w w1) (h0 : OtAt base w00 q s0 r) (hb : w.heap[b]? = some o) (hge : w00.heap.size ≤ b) : w1.heap[b]? = some o :=
  h.blk hb (by have := h0.lt; omega) (fun e => by have := (h0.row _ e.symm).2; omega)

theorem gives_appendO {o : Oper} {ρ : Operand → Value} {w : World} {S : Value → World → Prop} (s x : Operand) (ho : o.op = .call { callee := .builtin .append, args := #[s, x], argTypes := #[71, 71] })
    (base : Nat) (v : Value) (xs : List Value) (hs : ρ s = v) (hown : OwnO w base 5 v xs) (xv : Value) (n : Nat) (news : List Value) (hx : ρ x = xv) (hsrc : Src Tryd.prog 1 71 xv n news w) (hbytes : (xs.length + n) * 1 ≤ 140737488355328) (hbase : base ≤ w.heap.size)
    (h : ∀ v' w', OwnO w' base 5 v' (xs ++ news) → w.grownBy w' v.ownBlock → (v'.ownBlock = v.ownBlock ∨ v'.ownBlock = some w.heap.size) → S v' w') : Gives Tryd.prog o ρ w S := by
  obtain ⟨v', w', hr, h1, h2, h3⟩ := run_append_off (P := Tryd.prog) base 71 71 o.type 5 (.int .u8 0) 1 Tryd.underlying71 Tryd.info5 rfl (by omega) v xs hown xv n news hsrc hbytes hbase
  refine gives_val v' (w' := w') ?_ (h v' w' h1 h2 h3)
  unfold execOp
  simp only [ho, resolve, invoke, builtin, Sem.run_bind, Sem.run_pure, Result.andThen_ok, List.map_toArray, List.map_cons, List.map_nil, hs, hx, hr]
end Go.Proofs.YtniknhhejlgdfaaDoor
/- Numbers in the document's way: Fits and Number. -/
namespace Go.Proofs.YtniknhhejlgdfaaDoor
open Go.RowKit

theorem quo256 (n : Int) (i : Nat) : n / (256 : Int) ^ i / 256 = n / (256 : Int) ^ (i + 1) := by
  rw [Int.pow_succ, Int.ediv_ediv_of_nonneg (Int.pow_nonneg (by omega))]
def fitB (n : Int) (k : Nat) : Bool := decide (0 ≤ n ∧ n < (256 : Int) ^ k)
theorem fits_iff (n : Int) (k : Nat) (h : 0 ≤ n) : n / (256 : Int) ^ k = 0 ↔ n < (256 : Int) ^ k := by
  have hp : (0 : Int) < (256 : Int) ^ k := Int.pow_pos (by omega)
  constructor
  · intro h0
    by_cases h1 : n < (256 : Int) ^ k
    · exact h1
    · have := Int.le_ediv_of_mul_le hp (show (1 : Int) * (256 : Int) ^ k ≤ n by omega)
      omega
  · intro h1
    exact Int.ediv_eq_zero_of_lt h h1
set_option maxHeartbeats 4000000 in
set_option maxRecDepth 100000 in
theorem fits_any (n : Int) (k : Nat) (hk : k = 1 ∨ k = 2 ∨ k = 4 ∨ k = 6) (hn : -9223372036854775808 ≤ n ∧ n ≤ 9223372036854775807) (w : World) :
    Calls Tryd.prog 88 #[.int .i64 n, .int .i64 k] w fun e w' => e = .returned (.bool (fitB n k)) ∧ w' = w := by
  have k1 : ¬ (k : Int) < 1 := by omega
  have k2 : ¬ (8 : Int) < k := by omega
  by_cases hneg : n < 0
  · have HD : Hid (fitB n k = false) := Lib.hid (decide_eq_false (by omega))
    go_enter Tryd.func88, Tryd.ntmps88
    go_wp2
    go_ret
    exact ⟨by rw [HD.out]; rfl, rfl⟩
  have h0 : 0 ≤ n := by omega
  have HD : Hid (fitB n k = decide (n / (256 : Int) ^ k = 0)) := Lib.hid (by unfold fitB; rw [decide_eq_decide, fits_iff n k h0]; exact ⟨fun h => h.2, fun h => ⟨h0, h⟩⟩)
  have HN := Lib.hid hn
  clear hk hn
  go_enter Tryd.func88, Tryd.ntmps88
  go_wp2
  go_loopw [0, 5] (fun x j wr => ∃ (i : Nat) (X : Int), i ≤ k ∧ x = .int .i64 X ∧ j = .int .i64 i ∧ Hid (X = n / (256 : Int) ^ i) ∧ 0 ≤ X ∧ w = wr)
    (fun _ j _ => k - (intOf j).toNat)
  case atStart => exact ⟨0, n, by omega, rfl, rfl, Lib.hid (by simp), h0, rfl⟩
  case round =>
    obtain ⟨i, X, hi, rfl, rfl, hX, hX0, rfl⟩ := hrel
    by_cases hlt : i < k
    · have hil : (i : Int) < k := by omega
      have htd : X.tdiv 256 = X / 256 := Int.tdiv_eq_ediv_of_nonneg hX0
      have hXle : X ≤ n := by rw [hX.out]; exact Int.ediv_le_self _ h0
      have hXb : X / 256 ≤ X := by omega
      have hwr : IntKind.i64.wrap (X / 256) = X / 256 := by have := HN.out; rw [IntKind.wrap_i64]; omega
      have HX2 := Lib.hid (show X / 256 = n / (256 : Int) ^ (i + 1) by rw [hX.out, quo256])
      obtain ⟨Y, hY⟩ : ∃ Y, X / 256 = Y := ⟨_, rfl⟩
      have hY0 : 0 ≤ Y := by omega
      rw [hY] at htd hwr HX2 hXb
      clear hXle
      have HH := Lib.hid hXb
      clear hXb
      go_wp2
      go_roundw
      case rel => exact ⟨i + 1, Y, by omega, by go_num, by go_num, HX2, hY0, trivial⟩
      case measure => simp [intOf]; omega
    · obtain rfl : i = k := by omega
      rw [← hX.out] at HD
      go_wp2
      go_ret
      exact ⟨by rw [HD.out]; rfl, rfl⟩
end Go.Proofs.YtniknhhejlgdfaaDoor
/- The document's number as bytes. -/
namespace Go.Proofs.YtniknhhejlgdfaaDoor
open Go.RowKit

/-- What Number has filled from behind. -/
def padN (n : Int) (k j : Nat) : List Int := List.replicate (k - j) 0 ++ (beN n k).drop (k - j)
theorem padN_len (n : Int) (k j : Nat) (hj : j ≤ k) : (padN n k j).length = k := by simp [padN, beN_len]
theorem padN_zero (n : Int) (k : Nat) : padN n k 0 = List.replicate k 0 := by simp [padN, beN_len]
theorem padN_full (n : Int) (k : Nat) : padN n k k = beN n k := by simp [padN]
theorem padN_set (n : Int) (k j : Nat) (hj : j < k) : (padN n k j).set (k - 1 - j) (n / (256 : Int) ^ j % 256) = padN n k (j + 1) := by
  have hl : k - 1 - j < (beN n k).length := by rw [beN_len]; omega
  have hv : (beN n k)[k - 1 - j] = n / (256 : Int) ^ j % 256 := by simp only [beN, List.getElem_map, List.getElem_range]; congr 3; omega
  have h1 : k - j = (k - 1 - j) + 1 := by omega
  unfold padN
  rw [show k - (j + 1) = k - 1 - j by omega, List.drop_eq_getElem_cons hl, hv, h1, List.replicate_succ', List.append_assoc, List.set_append_right _ _ (by simp)]
  simp
theorem run_mk71 (k : Nat) (hk : k = 1 ∨ k = 2 ∨ k = 4 ∨ k = 6) (w : World) : (Instr.makeSlice 71 (.int .i64 k) (.int .i64 k)).run Tryd.prog w = .ok (.slice (some ⟨w.heap.size, 0, none⟩) k k) (w.alloc (.cells (u8s (List.replicate k 0)).toArray 5)) := by
  obtain ⟨i0, hi, hzz⟩ := Option.map_eq_some_iff.1 Tryd.info5
  simp only [Prod.mk.injEq] at hzz
  obtain ⟨hz0, hz1, hz2⟩ := hzz
  have hr := run_makeSlice (P := Tryd.prog) w 71 5 i0 (.int .u8 0) Tryd.underlying71 hi hz0 .i64 .i64 k k (by omega) (Int.le_refl _) (by rw [hz1]; omega) (by rw [hz2]; omega) (by omega)
  have e : madeCells (Value.int .u8 0).cells (k * 1) = (u8s (List.replicate k 0)).toArray := by rcases hk with rfl | rfl | rfl | rfl <;> kernel_rfl
  rw [hr, hz1]
  simp only [Int.toNat_natCast, e]
theorem wpList_mk71 {ops : Array Oper} {rest : List Oper} {o : Oper} {a : Act} {w : World} {Q : Exit → Act → World → Prop} (hw : Region.wanted o (yielded ops a.tmps) = true) (x y : Operand) (ho : o.op = .makeSlice 71 x y) (k : Nat) (hx : a.eval x = .int .i64 k) (hy : a.eval y = .int .i64 k) (hk : k = 1 ∨ k = 2 ∨ k = 4 ∨ k = 6)
    (h : wpList Tryd.prog ops Q rest (a.put o.dst (.slice (some ⟨w.heap.size, 0, none⟩) k k)) (w.alloc (.cells (u8s (List.replicate k 0)).toArray 5))) : wpList Tryd.prog ops Q (o :: rest) a w := by
  refine wpList_step fun K hK => ?_
  rw [if_pos hw]
  unfold Oper.wp execOp
  simp only [ho, Sem.run_bind, hx, hy, run_mk71 k hk, Result.andThen_ok, Sem.run_pure]
  exact hK _ _ h
theorem u8s_set (xs : List Int) (i : Nat) (v : Int) : (u8s xs).set i (.int .u8 v) = u8s (xs.set i v) := by simp [u8s, List.map_set]

set_option maxHeartbeats 4000000 in
set_option maxRecDepth 100000 in
theorem onumber1 (n : Int) (h0 : 0 ≤ n) (h1 : n ≤ 9223372036854775807) (w : World) :
    Calls Tryd.prog 89 #[.int .i64 n, .int .i64 1] w fun e w' => ∃ b, e = .returned (.slice (some ⟨b, 0, none⟩) 1 1) ∧ w.heap.size ≤ b ∧ w'.heap[b]? = some (.cells (u8s (beN n 1)).toArray 5 (0, 0)) ∧ Below w.heap.size w w' := by
  go_enter Tryd.func89, Tryd.ntmps89
  go_wp2_with (refine wpList_mk71 rfl _ _ rfl 1 rfl rfl (by omega) ?_)
  go_loopw [0, 6] (fun x i wr => ∃ (j : Nat) (X y : Int), j ≤ 1 ∧ x = .int .i64 X ∧ i = .int .i64 y ∧ y = 0 - (j : Int) ∧ Hid (X = n / (256 : Int) ^ j) ∧ 0 ≤ X ∧ Hid (X ≤ n) ∧ Hid (wr.heap[w.heap.size]? = some (.cells (u8s (padN n 1 j)).toArray 5 (0, 0))) ∧ Hid (Below w.heap.size w wr))
    (fun _ i _ => (intOf i + 1).toNat)
  case atStart => exact ⟨0, n, 0, by omega, rfl, rfl, by omega, Lib.hid (by simp), h0, Lib.hid (Int.le_refl _), Lib.hid (heap_alloc_new w _), Lib.hid ((Below.refl _ _).alloc (Nat.le_refl _) _)⟩
  case round =>
    obtain ⟨j, X, y, hj, rfl, rfl, hy, hX, hX0, hXn, hrow, hbel⟩ := hrel
    by_cases hlt : j < 1
    · have hjc : j = 0 := by omega
      have htm : X.tmod 256 = X % 256 := Int.tmod_eq_emod_of_nonneg hX0
      have htd : X.tdiv 256 = X / 256 := Int.tdiv_eq_ediv_of_nonneg hX0
      have hwr : IntKind.i64.wrap (X / 256) = X / 256 := by have := hXn.out; rw [IntKind.wrap_i64]; omega
      have HXN := Lib.hid (show X / 256 ≤ n by have := hXn.out; omega)
      have HX2 := Lib.hid (show X / 256 = n / (256 : Int) ^ (j + 1) by rw [hX.out, quo256])
      have HV := Lib.hid (show (u8s (padN n 1 j)).set (1 - 1 - j) (.int .u8 (X % 256)) = u8s (padN n 1 (j + 1)) by rw [u8s_set, hX.out, padN_set n 1 j hlt])
      have hlen := padN_len n 1 j hj
      have hfr : ∀ i, wr.frozen? ⟨w.heap.size, i, none⟩ = false := fun i => blk_free hrow.out i
      have hcl : ∀ i, i < 1 → wr.cell? ⟨w.heap.size, i, none⟩ = some (.int .u8 ((padN n 1 j).getD i 0)) := fun i hi => blk_cell hrow.out i _ (by rw [u8s, List.getElem?_map, List.getElem?_eq_getElem (by omega), List.getD_eq_getElem?_getD, List.getElem?_eq_getElem (by omega)]; rfl)
      obtain ⟨Y, hY⟩ : ∃ Y, X / 256 = Y := ⟨_, rfl⟩
      obtain ⟨V, hV⟩ : ∃ V, X % 256 = V := ⟨_, rfl⟩
      have hY0 : 0 ≤ Y := by omega
      have hV0 : 0 ≤ V := by omega
      have hV1 : V < 256 := by omega
      rw [hY] at htd hwr HXN HX2
      rw [hV] at htm HV
      subst hy
      rcases hjc with rfl
      · have f0 := hfr 0
        have c0 := hcl 0 (by omega)
        have HR := Lib.hid (blk_set (xs := u8s (padN n 1 0)) hrow.out 0 (.int .u8 V))
        have HB := Lib.hid (hbel.out.setCell (p := ⟨w.heap.size, 0, none⟩) (Nat.le_refl _) (.int .u8 V))
        clear hfr hcl
        go_wp2
        go_roundw
        case rel => exact ⟨1, Y, _, by omega, by go_num, rfl, by omega, HX2, hY0, HXN, Lib.hid (by have := HR.out; rw [show ((u8s (padN n 1 0)).set 0 (Value.int .u8 V)) = u8s (padN n 1 (0 + 1)) from HV.out] at this; exact this), HB⟩
        case measure => simp [intOf]
    · obtain rfl : j = 1 := by omega
      have hyn : y < 0 := by omega
      have HR := Lib.hid hrow.out
      rw [padN_full] at HR
      go_wp2
      go_ret
      exact ⟨_, rfl, Nat.le_refl _, HR.out, hbel.out⟩

set_option maxHeartbeats 4000000 in
set_option maxRecDepth 100000 in
theorem onumber2 (n : Int) (h0 : 0 ≤ n) (h1 : n ≤ 9223372036854775807) (w : World) :
    Calls Tryd.prog 89 #[.int .i64 n, .int .i64 2] w fun e w' => ∃ b, e = .returned (.slice (some ⟨b, 0, none⟩) 2 2) ∧ w.heap.size ≤ b ∧ w'.heap[b]? = some (.cells (u8s (beN n 2)).toArray 5 (0, 0)) ∧ Below w.heap.size w w' := by
  go_enter Tryd.func89, Tryd.ntmps89
  go_wp2_with (refine wpList_mk71 rfl _ _ rfl 2 rfl rfl (by omega) ?_)
  go_loopw [0, 6] (fun x i wr => ∃ (j : Nat) (X y : Int), j ≤ 2 ∧ x = .int .i64 X ∧ i = .int .i64 y ∧ y = 1 - (j : Int) ∧ Hid (X = n / (256 : Int) ^ j) ∧ 0 ≤ X ∧ Hid (X ≤ n) ∧ Hid (wr.heap[w.heap.size]? = some (.cells (u8s (padN n 2 j)).toArray 5 (0, 0))) ∧ Hid (Below w.heap.size w wr))
    (fun _ i _ => (intOf i + 1).toNat)
  case atStart => exact ⟨0, n, 1, by omega, rfl, rfl, by omega, Lib.hid (by simp), h0, Lib.hid (Int.le_refl _), Lib.hid (heap_alloc_new w _), Lib.hid ((Below.refl _ _).alloc (Nat.le_refl _) _)⟩
  case round =>
    obtain ⟨j, X, y, hj, rfl, rfl, hy, hX, hX0, hXn, hrow, hbel⟩ := hrel
    by_cases hlt : j < 2
    · have hjc : j = 0 ∨ j = 1 := by omega
      have htm : X.tmod 256 = X % 256 := Int.tmod_eq_emod_of_nonneg hX0
      have htd : X.tdiv 256 = X / 256 := Int.tdiv_eq_ediv_of_nonneg hX0
      have hwr : IntKind.i64.wrap (X / 256) = X / 256 := by have := hXn.out; rw [IntKind.wrap_i64]; omega
      have HXN := Lib.hid (show X / 256 ≤ n by have := hXn.out; omega)
      have HX2 := Lib.hid (show X / 256 = n / (256 : Int) ^ (j + 1) by rw [hX.out, quo256])
      have HV := Lib.hid (show (u8s (padN n 2 j)).set (2 - 1 - j) (.int .u8 (X % 256)) = u8s (padN n 2 (j + 1)) by rw [u8s_set, hX.out, padN_set n 2 j hlt])
      have hlen := padN_len n 2 j hj
      have hfr : ∀ i, wr.frozen? ⟨w.heap.size, i, none⟩ = false := fun i => blk_free hrow.out i
      have hcl : ∀ i, i < 2 → wr.cell? ⟨w.heap.size, i, none⟩ = some (.int .u8 ((padN n 2 j).getD i 0)) := fun i hi => blk_cell hrow.out i _ (by rw [u8s, List.getElem?_map, List.getElem?_eq_getElem (by omega), List.getD_eq_getElem?_getD, List.getElem?_eq_getElem (by omega)]; rfl)
      obtain ⟨Y, hY⟩ : ∃ Y, X / 256 = Y := ⟨_, rfl⟩
      obtain ⟨V, hV⟩ : ∃ V, X % 256 = V := ⟨_, rfl⟩
      have hY0 : 0 ≤ Y := by omega
      have hV0 : 0 ≤ V := by omega
      have hV1 : V < 256 := by omega
      rw [hY] at htd hwr HXN HX2
      rw [hV] at htm HV
      subst hy
      rcases hjc with rfl | rfl
      · have f0 := hfr 1
        have c0 := hcl 1 (by omega)
        have HR := Lib.hid (blk_set (xs := u8s (padN n 2 0)) hrow.out 1 (.int .u8 V))
        have HB := Lib.hid (hbel.out.setCell (p := ⟨w.heap.size, 1, none⟩) (Nat.le_refl _) (.int .u8 V))
        clear hfr hcl
        go_wp2
        go_roundw
        case rel => exact ⟨1, Y, _, by omega, by go_num, rfl, by omega, HX2, hY0, HXN, Lib.hid (by have := HR.out; rw [show ((u8s (padN n 2 0)).set 1 (Value.int .u8 V)) = u8s (padN n 2 (0 + 1)) from HV.out] at this; exact this), HB⟩
        case measure => simp [intOf]
      · have f0 := hfr 0
        have c0 := hcl 0 (by omega)
        have HR := Lib.hid (blk_set (xs := u8s (padN n 2 1)) hrow.out 0 (.int .u8 V))
        have HB := Lib.hid (hbel.out.setCell (p := ⟨w.heap.size, 0, none⟩) (Nat.le_refl _) (.int .u8 V))
        clear hfr hcl
        go_wp2
        go_roundw
        case rel => exact ⟨2, Y, _, by omega, by go_num, rfl, by omega, HX2, hY0, HXN, Lib.hid (by have := HR.out; rw [show ((u8s (padN n 2 1)).set 0 (Value.int .u8 V)) = u8s (padN n 2 (1 + 1)) from HV.out] at this; exact this), HB⟩
        case measure => simp [intOf]
    · obtain rfl : j = 2 := by omega
      have hyn : y < 0 := by omega
      have HR := Lib.hid hrow.out
      rw [padN_full] at HR
      go_wp2
      go_ret
      exact ⟨_, rfl, Nat.le_refl _, HR.out, hbel.out⟩

set_option maxHeartbeats 4000000 in
set_option maxRecDepth 100000 in
theorem onumber4 (n : Int) (h0 : 0 ≤ n) (h1 : n ≤ 9223372036854775807) (w : World) :
    Calls Tryd.prog 89 #[.int .i64 n, .int .i64 4] w fun e w' => ∃ b, e = .returned (.slice (some ⟨b, 0, none⟩) 4 4) ∧ w.heap.size ≤ b ∧ w'.heap[b]? = some (.cells (u8s (beN n 4)).toArray 5 (0, 0)) ∧ Below w.heap.size w w' := by
  go_enter Tryd.func89, Tryd.ntmps89
  go_wp2_with (refine wpList_mk71 rfl _ _ rfl 4 rfl rfl (by omega) ?_)
  go_loopw [0, 6] (fun x i wr => ∃ (j : Nat) (X y : Int), j ≤ 4 ∧ x = .int .i64 X ∧ i = .int .i64 y ∧ y = 3 - (j : Int) ∧ Hid (X = n / (256 : Int) ^ j) ∧ 0 ≤ X ∧ Hid (X ≤ n) ∧ Hid (wr.heap[w.heap.size]? = some (.cells (u8s (padN n 4 j)).toArray 5 (0, 0))) ∧ Hid (Below w.heap.size w wr))
    (fun _ i _ => (intOf i + 1).toNat)
  case atStart => exact ⟨0, n, 3, by omega, rfl, rfl, by omega, Lib.hid (by simp), h0, Lib.hid (Int.le_refl _), Lib.hid (heap_alloc_new w _), Lib.hid ((Below.refl _ _).alloc (Nat.le_refl _) _)⟩
  case round =>
    obtain ⟨j, X, y, hj, rfl, rfl, hy, hX, hX0, hXn, hrow, hbel⟩ := hrel
    by_cases hlt : j < 4
    · have hjc : j = 0 ∨ j = 1 ∨ j = 2 ∨ j = 3 := by omega
      have htm : X.tmod 256 = X % 256 := Int.tmod_eq_emod_of_nonneg hX0
      have htd : X.tdiv 256 = X / 256 := Int.tdiv_eq_ediv_of_nonneg hX0
      have hwr : IntKind.i64.wrap (X / 256) = X / 256 := by have := hXn.out; rw [IntKind.wrap_i64]; omega
      have HXN := Lib.hid (show X / 256 ≤ n by have := hXn.out; omega)
      have HX2 := Lib.hid (show X / 256 = n / (256 : Int) ^ (j + 1) by rw [hX.out, quo256])
      have HV := Lib.hid (show (u8s (padN n 4 j)).set (4 - 1 - j) (.int .u8 (X % 256)) = u8s (padN n 4 (j + 1)) by rw [u8s_set, hX.out, padN_set n 4 j hlt])
      have hlen := padN_len n 4 j hj
      have hfr : ∀ i, wr.frozen? ⟨w.heap.size, i, none⟩ = false := fun i => blk_free hrow.out i
      have hcl : ∀ i, i < 4 → wr.cell? ⟨w.heap.size, i, none⟩ = some (.int .u8 ((padN n 4 j).getD i 0)) := fun i hi => blk_cell hrow.out i _ (by rw [u8s, List.getElem?_map, List.getElem?_eq_getElem (by omega), List.getD_eq_getElem?_getD, List.getElem?_eq_getElem (by omega)]; rfl)
      obtain ⟨Y, hY⟩ : ∃ Y, X / 256 = Y := ⟨_, rfl⟩
      obtain ⟨V, hV⟩ : ∃ V, X % 256 = V := ⟨_, rfl⟩
      have hY0 : 0 ≤ Y := by omega
      have hV0 : 0 ≤ V := by omega
      have hV1 : V < 256 := by omega
      rw [hY] at htd hwr HXN HX2
      rw [hV] at htm HV
      subst hy
      rcases hjc with rfl | rfl | rfl | rfl
      · have f0 := hfr 3
        have c0 := hcl 3 (by omega)
        have HR := Lib.hid (blk_set (xs := u8s (padN n 4 0)) hrow.out 3 (.int .u8 V))
        have HB := Lib.hid (hbel.out.setCell (p := ⟨w.heap.size, 3, none⟩) (Nat.le_refl _) (.int .u8 V))
        clear hfr hcl
        go_wp2
        go_roundw
        case rel => exact ⟨1, Y, _, by omega, by go_num, rfl, by omega, HX2, hY0, HXN, Lib.hid (by have := HR.out; rw [show ((u8s (padN n 4 0)).set 3 (Value.int .u8 V)) = u8s (padN n 4 (0 + 1)) from HV.out] at this; exact this), HB⟩
        case measure => simp [intOf]
      · have f0 := hfr 2
        have c0 := hcl 2 (by omega)
        have HR := Lib.hid (blk_set (xs := u8s (padN n 4 1)) hrow.out 2 (.int .u8 V))
        have HB := Lib.hid (hbel.out.setCell (p := ⟨w.heap.size, 2, none⟩) (Nat.le_refl _) (.int .u8 V))
        clear hfr hcl
        go_wp2
        go_roundw
        case rel => exact ⟨2, Y, _, by omega, by go_num, rfl, by omega, HX2, hY0, HXN, Lib.hid (by have := HR.out; rw [show ((u8s (padN n 4 1)).set 2 (Value.int .u8 V)) = u8s (padN n 4 (1 + 1)) from HV.out] at this; exact this), HB⟩
        case measure => simp [intOf]
      · have f0 := hfr 1
        have c0 := hcl 1 (by omega)
        have HR := Lib.hid (blk_set (xs := u8s (padN n 4 2)) hrow.out 1 (.int .u8 V))
        have HB := Lib.hid (hbel.out.setCell (p := ⟨w.heap.size, 1, none⟩) (Nat.le_refl _) (.int .u8 V))
        clear hfr hcl
        go_wp2
        go_roundw
        case rel => exact ⟨3, Y, _, by omega, by go_num, rfl, by omega, HX2, hY0, HXN, Lib.hid (by have := HR.out; rw [show ((u8s (padN n 4 2)).set 1 (Value.int .u8 V)) = u8s (padN n 4 (2 + 1)) from HV.out] at this; exact this), HB⟩
        case measure => simp [intOf]
      · have f0 := hfr 0
        have c0 := hcl 0 (by omega)
        have HR := Lib.hid (blk_set (xs := u8s (padN n 4 3)) hrow.out 0 (.int .u8 V))
        have HB := Lib.hid (hbel.out.setCell (p := ⟨w.heap.size, 0, none⟩) (Nat.le_refl _) (.int .u8 V))
        clear hfr hcl
        go_wp2
        go_roundw
        case rel => exact ⟨4, Y, _, by omega, by go_num, rfl, by omega, HX2, hY0, HXN, Lib.hid (by have := HR.out; rw [show ((u8s (padN n 4 3)).set 0 (Value.int .u8 V)) = u8s (padN n 4 (3 + 1)) from HV.out] at this; exact this), HB⟩
        case measure => simp [intOf]
    · obtain rfl : j = 4 := by omega
      have hyn : y < 0 := by omega
      have HR := Lib.hid hrow.out
      rw [padN_full] at HR
      go_wp2
      go_ret
      exact ⟨_, rfl, Nat.le_refl _, HR.out, hbel.out⟩

set_option maxHeartbeats 4000000 in
set_option maxRecDepth 100000 in
theorem onumber6 (n : Int) (h0 : 0 ≤ n) (h1 : n ≤ 9223372036854775807) (w : World) :
    Calls Tryd.prog 89 #[.int .i64 n, .int .i64 6] w fun e w' => ∃ b, e = .returned (.slice (some ⟨b, 0, none⟩) 6 6) ∧ w.heap.size ≤ b ∧ w'.heap[b]? = some (.cells (u8s (beN n 6)).toArray 5 (0, 0)) ∧ Below w.heap.size w w' := by
  go_enter Tryd.func89, Tryd.ntmps89
  go_wp2_with (refine wpList_mk71 rfl _ _ rfl 6 rfl rfl (by omega) ?_)
  go_loopw [0, 6] (fun x i wr => ∃ (j : Nat) (X y : Int), j ≤ 6 ∧ x = .int .i64 X ∧ i = .int .i64 y ∧ y = 5 - (j : Int) ∧ Hid (X = n / (256 : Int) ^ j) ∧ 0 ≤ X ∧ Hid (X ≤ n) ∧ Hid (wr.heap[w.heap.size]? = some (.cells (u8s (padN n 6 j)).toArray 5 (0, 0))) ∧ Hid (Below w.heap.size w wr))
    (fun _ i _ => (intOf i + 1).toNat)
  case atStart => exact ⟨0, n, 5, by omega, rfl, rfl, by omega, Lib.hid (by simp), h0, Lib.hid (Int.le_refl _), Lib.hid (heap_alloc_new w _), Lib.hid ((Below.refl _ _).alloc (Nat.le_refl _) _)⟩
  case round =>
    obtain ⟨j, X, y, hj, rfl, rfl, hy, hX, hX0, hXn, hrow, hbel⟩ := hrel
    by_cases hlt : j < 6
    · have hjc : j = 0 ∨ j = 1 ∨ j = 2 ∨ j = 3 ∨ j = 4 ∨ j = 5 := by omega
      have htm : X.tmod 256 = X % 256 := Int.tmod_eq_emod_of_nonneg hX0
      have htd : X.tdiv 256 = X / 256 := Int.tdiv_eq_ediv_of_nonneg hX0
      have hwr : IntKind.i64.wrap (X / 256) = X / 256 := by have := hXn.out; rw [IntKind.wrap_i64]; omega
      have HXN := Lib.hid (show X / 256 ≤ n by have := hXn.out; omega)
      have HX2 := Lib.hid (show X / 256 = n / (256 : Int) ^ (j + 1) by rw [hX.out, quo256])
      have HV := Lib.hid (show (u8s (padN n 6 j)).set (6 - 1 - j) (.int .u8 (X % 256)) = u8s (padN n 6 (j + 1)) by rw [u8s_set, hX.out, padN_set n 6 j hlt])
      have hlen := padN_len n 6 j hj
      have hfr : ∀ i, wr.frozen? ⟨w.heap.size, i, none⟩ = false := fun i => blk_free hrow.out i
      have hcl : ∀ i, i < 6 → wr.cell? ⟨w.heap.size, i, none⟩ = some (.int .u8 ((padN n 6 j).getD i 0)) := fun i hi => blk_cell hrow.out i _ (by rw [u8s, List.getElem?_map, List.getElem?_eq_getElem (by omega), List.getD_eq_getElem?_getD, List.getElem?_eq_getElem (by omega)]; rfl)
      obtain ⟨Y, hY⟩ : ∃ Y, X / 256 = Y := ⟨_, rfl⟩
      obtain ⟨V, hV⟩ : ∃ V, X % 256 = V := ⟨_, rfl⟩
      have hY0 : 0 ≤ Y := by omega
      have hV0 : 0 ≤ V := by omega
      have hV1 : V < 256 := by omega
      rw [hY] at htd hwr HXN HX2
      rw [hV] at htm HV
      subst hy
      rcases hjc with rfl | rfl | rfl | rfl | rfl | rfl
      · have f0 := hfr 5
        have c0 := hcl 5 (by omega)
        have HR := Lib.hid (blk_set (xs := u8s (padN n 6 0)) hrow.out 5 (.int .u8 V))
        have HB := Lib.hid (hbel.out.setCell (p := ⟨w.heap.size, 5, none⟩) (Nat.le_refl _) (.int .u8 V))
        clear hfr hcl
        go_wp2
        go_roundw
        case rel => exact ⟨1, Y, _, by omega, by go_num, rfl, by omega, HX2, hY0, HXN, Lib.hid (by have := HR.out; rw [show ((u8s (padN n 6 0)).set 5 (Value.int .u8 V)) = u8s (padN n 6 (0 + 1)) from HV.out] at this; exact this), HB⟩
        case measure => simp [intOf]
      · have f0 := hfr 4
        have c0 := hcl 4 (by omega)
        have HR := Lib.hid (blk_set (xs := u8s (padN n 6 1)) hrow.out 4 (.int .u8 V))
        have HB := Lib.hid (hbel.out.setCell (p := ⟨w.heap.size, 4, none⟩) (Nat.le_refl _) (.int .u8 V))
        clear hfr hcl
        go_wp2
        go_roundw
        case rel => exact ⟨2, Y, _, by omega, by go_num, rfl, by omega, HX2, hY0, HXN, Lib.hid (by have := HR.out; rw [show ((u8s (padN n 6 1)).set 4 (Value.int .u8 V)) = u8s (padN n 6 (1 + 1)) from HV.out] at this; exact this), HB⟩
        case measure => simp [intOf]
      · have f0 := hfr 3
        have c0 := hcl 3 (by omega)
        have HR := Lib.hid (blk_set (xs := u8s (padN n 6 2)) hrow.out 3 (.int .u8 V))
        have HB := Lib.hid (hbel.out.setCell (p := ⟨w.heap.size, 3, none⟩) (Nat.le_refl _) (.int .u8 V))
        clear hfr hcl
        go_wp2
        go_roundw
        case rel => exact ⟨3, Y, _, by omega, by go_num, rfl, by omega, HX2, hY0, HXN, Lib.hid (by have := HR.out; rw [show ((u8s (padN n 6 2)).set 3 (Value.int .u8 V)) = u8s (padN n 6 (2 + 1)) from HV.out] at this; exact this), HB⟩
        case measure => simp [intOf]
      · have f0 := hfr 2
        have c0 := hcl 2 (by omega)
        have HR := Lib.hid (blk_set (xs := u8s (padN n 6 3)) hrow.out 2 (.int .u8 V))
        have HB := Lib.hid (hbel.out.setCell (p := ⟨w.heap.size, 2, none⟩) (Nat.le_refl _) (.int .u8 V))
        clear hfr hcl
        go_wp2
        go_roundw
        case rel => exact ⟨4, Y, _, by omega, by go_num, rfl, by omega, HX2, hY0, HXN, Lib.hid (by have := HR.out; rw [show ((u8s (padN n 6 3)).set 2 (Value.int .u8 V)) = u8s (padN n 6 (3 + 1)) from HV.out] at this; exact this), HB⟩
        case measure => simp [intOf]
      · have f0 := hfr 1
        have c0 := hcl 1 (by omega)
        have HR := Lib.hid (blk_set (xs := u8s (padN n 6 4)) hrow.out 1 (.int .u8 V))
        have HB := Lib.hid (hbel.out.setCell (p := ⟨w.heap.size, 1, none⟩) (Nat.le_refl _) (.int .u8 V))
        clear hfr hcl
        go_wp2
        go_roundw
        case rel => exact ⟨5, Y, _, by omega, by go_num, rfl, by omega, HX2, hY0, HXN, Lib.hid (by have := HR.out; rw [show ((u8s (padN n 6 4)).set 1 (Value.int .u8 V)) = u8s (padN n 6 (4 + 1)) from HV.out] at this; exact this), HB⟩
        case measure => simp [intOf]
      · have f0 := hfr 0
        have c0 := hcl 0 (by omega)
        have HR := Lib.hid (blk_set (xs := u8s (padN n 6 5)) hrow.out 0 (.int .u8 V))
        have HB := Lib.hid (hbel.out.setCell (p := ⟨w.heap.size, 0, none⟩) (Nat.le_refl _) (.int .u8 V))
        clear hfr hcl
        go_wp2
        go_roundw
        case rel => exact ⟨6, Y, _, by omega, by go_num, rfl, by omega, HX2, hY0, HXN, Lib.hid (by have := HR.out; rw [show ((u8s (padN n 6 5)).set 0 (Value.int .u8 V)) = u8s (padN n 6 (5 + 1)) from HV.out] at this; exact this), HB⟩
        case measure => simp [intOf]
    · obtain rfl : j = 6 := by omega
      have hyn : y < 0 := by omega
      have HR := Lib.hid hrow.out
      rw [padN_full] at HR
      go_wp2
      go_ret
      exact ⟨_, rfl, Nat.le_refl _, HR.out, hbel.out⟩

/-- A number in the document's way, where it has the width. -/
theorem onumber_any (n : Int) (k : Nat) (hk : k = 1 ∨ k = 2 ∨ k = 4 ∨ k = 6) (h0 : 0 ≤ n) (h1 : n ≤ 9223372036854775807) (w : World) :
    Calls Tryd.prog 89 #[.int .i64 n, .int .i64 k] w fun e w' => ∃ b, e = .returned (.slice (some ⟨b, 0, none⟩) k k) ∧ w.heap.size ≤ b ∧ w'.heap[b]? = some (.cells (u8s (beN n k)).toArray 5 (0, 0)) ∧ Below w.heap.size w w' := by
  rcases hk with rfl | rfl | rfl | rfl
  · exact onumber1 n h0 h1 w
  · exact onumber2 n h0 h1 w
  · exact onumber4 n h0 h1 w
  · exact onumber6 n h0 h1 w
end Go.Proofs.YtniknhhejlgdfaaDoor
/- The document's writer: a number, a digest, how many. -/
namespace Go.Proofs.YtniknhhejlgdfaaDoor
open Go.RowKit

theorem oapp_end {base q : Nat} {bs xs : List Int} {r : Option Nat} {w wz : World} {sv ev v8 : Value} {s : WS} (hb : w.heap[q]? = some (.cells #[sv, ev] 113 (0, 0))) (H : OtAt base w q s r) (hB : But (fun k => some k = r) w wz) (ho : OwnO wz base 5 v8 (u8s (bs ++ xs))) (hp : v8.ownBlock = r ∨ ∃ b, v8.ownBlock = some b ∧ w.heap.size ≤ b) (hok : u8s_ok (bs ++ xs)) (hl : (bs ++ xs).length ≤ maxW) (hev : ev = .int .i64 0 := by rfl) :
    OStep base q (some (bs ++ xs)) r w (wz.setCell ⟨q, 0, none⟩ v8) := by
  have hnq : ¬ some q = r := fun e => H.ne e.symm
  have hbz := hB.blk hb hnq
  have hv8 : v8.ownBlock ≠ some q := by
    rcases hp with h | ⟨b, h, hb⟩
    · rw [h]; exact H.ne
    · rw [h]; intro e; have := Option.some.inj e; have := H.lt; omega
  refine ⟨⟨v8.ownBlock, ⟨H.low, ⟨ev, v8, bs ++ xs, ?_, ?_, rfl, hok, hl, .inl ⟨rfl, hev⟩⟩, hv8⟩, hp⟩, ?_⟩
  · exact blk_set (xs := [sv, ev]) hbz 0 _
  · exact ho.kept (row := some q) ⟨rfl, rfl, rfl, by simp, fun k _ hne => heap_setCell_other wz ⟨q, 0, none⟩ k _ (fun e => hne (by rw [e]))⟩ (fun k hk e => hv8 (by rw [hk, e]))
  · exact Only.trans ⟨hB.os, hB.tape, hB.output, hB.size, fun k hk _ hr => hB.same k hk hr⟩ (Only.of_set _) (.inl rfl)
theorem OtAt.fail {base q : Nat} {s : WS} {r : Option Nat} {w : World} (H : OtAt base w q s r) : OStep base q none r w (w.setCell ⟨q, 1, none⟩ (.int .i64 1)) := by
  obtain ⟨ev, sv, bs, hb, ho, hr, h1, h2, h3⟩ := H.at_
  refine ⟨⟨r, ⟨H.low, ⟨.int .i64 1, sv, bs, ?_, ?_, hr, h1, h2, .inr ⟨rfl, rfl⟩⟩, H.ne⟩, .inl rfl⟩, Only.of_set _⟩
  · exact blk_set (xs := [sv, ev]) hb 1 _
  · exact ho.kept (row := some q) ⟨rfl, rfl, rfl, by simp, fun k _ hne => heap_setCell_other w ⟨q, 1, none⟩ k _ (fun e => hne (by rw [e]))⟩ (fun k hk e => H.ne (by rw [← hr, hk, e]))

set_option maxHeartbeats 16000000 in
set_option maxRecDepth 100000 in
theorem onum_any (base q : Nat) (s : WS) (r : Option Nat) (n : Int) (k : Nat) (hk : k = 1 ∨ k = 2 ∨ k = 4 ∨ k = 6) (hn : -9223372036854775808 ≤ n ∧ n ≤ 9223372036854775807) (w : World) (H : OtAt base w q s r) (hlim : Lim s (maxW - k)) :
    Calls Tryd.prog 70 #[.pointer (some ⟨q, 0, none⟩), .int .i64 n, .int .i64 k] w fun e w' => e = .returned (.tuple #[]) ∧ OStep base q (numS n k s) r w w' := by
  have H0 := Lib.hid H
  obtain ⟨ev, sv, bs, hb, ho, hr, h1, h2, h3⟩ := H.at_
  have hc1 := blk_cell (xs := [sv, ev]) hb 1 _ rfl
  have hf1 := blk_free hb 1
  have C0 := Lib.hid (blk_cell (xs := [sv, ev]) hb 0 _ rfl)
  have HB := Lib.hid hb
  have HO := Lib.hid ho
  have HR := Lib.hid hr
  have HBS := Lib.hid (show base ≤ w.heap.size by have := H.low; have := H.lt; omega)
  have HF := Lib.hid H.fail
  rcases h3 with ⟨rfl, rfl⟩ | ⟨rfl, rfl⟩
  case inr =>
    clear H hb ho hr h1 h2
    go_enter Tryd.func70, Tryd.ntmps70
    go_wp2
    go_end0
    exact ⟨rfl, by rw [numS_none]; exact OStep.refl H0.out⟩
  have HL := Lib.hid (hlim bs rfl)
  have HU := Lib.hid h1
  clear H hb ho hr h1 h2 hlim
  cases hfit : fitB n k with
  | false =>
    have PB : Hid (numS n k (some bs) = none) := Lib.hid (by unfold numS; rw [if_neg (by simpa [fitB] using hfit)])
    have HFIT := Lib.hid hfit
    clear hfit
    go_enter Tryd.func70, Tryd.ntmps70
    go_wp2_with fail
    refine (fits_any n k hk hn w).mono ?_
    rintro _ w1 ⟨rfl, hww⟩
    have hww := hww.symm
    subst hww
    rw [HFIT.out]
    go_wp2_with fail
    go_end0
    exact ⟨rfl, by rw [PB.out]; exact HF.out⟩
  | true =>
    have hfr : 0 ≤ n ∧ n < (256 : Int) ^ k := by simpa [fitB] using hfit
    have h0n : 0 ≤ n := hfr.1
    have h1n : n ≤ 9223372036854775807 := hn.2
    have PB : Hid (numS n k (some bs) = some (bs ++ beN n k)) := Lib.hid (by unfold numS; rw [if_pos hfr]; rfl)
    have HFIT := Lib.hid hfit
    have HZ := Lib.hid (show bs.length + (beN n k).length ≤ maxW by rw [beN_len]; have := HL.out; unfold maxW at *; omega)
    have HZ2 := Lib.hid (show (bs ++ beN n k).length ≤ maxW by rw [List.length_append]; exact HZ.out)
    have HOK := Lib.hid (HU.out.append (beN_ok n k))
    obtain ⟨S, hS⟩ : ∃ S : Nat → Prop, S = fun t => some t = r := ⟨_, rfl⟩
    have NSQ := Lib.hid (show ¬ S q by rw [hS]; exact fun e => H0.out.ne e.symm)
    subst hS
    clear hfit hfr
    go_enter Tryd.func70, Tryd.ntmps70
    go_wp2_with fail
    refine (fits_any n k hk hn w).mono ?_
    rintro _ w1 ⟨rfl, hww⟩
    have hww := hww.symm
    subst hww
    rw [HFIT.out]
    go_wp2_with fail
    refine wp_region_rely4 (by kernel_rfl) 9 (by kernel_rfl) (by kernel_rfl) (But (fun t => some t = r)) Ext 8 (But.refl _) Ext.refl Ext.trans But.trans (fun ix => match ix with
      | 0 => fun _ v => v = .pointer (some ⟨q, 0, none⟩)
      | 1 => fun _ v => v = .pointer (some ⟨q, 0, none⟩)
      | 2 => fun _ v => v = .pointer (some ⟨q, 0, none⟩)
      | 3 => fun _ v => v = .pointer (some ⟨q, 0, none⟩)
      | 4 => fun _ v => v = sv
      | 5 => fun _ v => v = .int .i64 n
      | 6 => fun _ v => v = .int .i64 k
      | 7 => fun W y => ∃ A m c, y = .slice A m c ∧ Bs W y (beN n k) ∧ ∀ t, y.ownBlock = some t → w.heap.size ≤ t
      | 8 => fun W y => OwnO W base 5 y (u8s (bs ++ (beN n k))) ∧ (y.ownBlock = r ∨ ∃ b, y.ownBlock = some b ∧ w.heap.size ≤ b)
      | _ => fun _ _ => False) ?_
    simp (maxSteps := 10000000) only [Rely4, List.take_succ_cons, List.take_zero, List.drop_succ_cons, List.drop_zero, Nat.reduceAdd, Nat.zero_add, Act.put, List.setIfInBounds_toArray, List.set_cons_succ, List.set_cons_zero]
    refine ⟨?_, ?_, ?_, ?_, ?_, ?_, ?_, ?_, ?_, ?_⟩
    · refine step4o rfl (by decide) fun rv wq hE hd => ?_
      exact gives_move _ (.pointer (some ⟨q, 0, none⟩)) (.inl rfl) rfl ⟨⟨But.refl _ _, Ext.refl _⟩, fun _ _ => rfl⟩
    · refine step4o rfl (by decide) fun rv wq hE hd => ?_
      exact gives_move _ (.pointer (some ⟨q, 0, none⟩)) (.inl rfl) rfl ⟨⟨But.refl _ _, Ext.refl _⟩, fun _ _ => rfl⟩
    · refine step4o rfl (by decide) fun rv wq hE hd => ?_
      exact gives_nilCheck _ rfl ⟨q, 0, none⟩ (show rv 1 = _ from hd.1) ⟨⟨But.refl _ _, Ext.refl _⟩, fun _ _ => rfl⟩
    · refine step4o rfl (by decide) fun rv wq hE hd => ?_
      exact gives_fieldAddr' 113 _ 0 rfl (.pointer (some ⟨q, 0, none⟩)) _ (show rv 2 = _ from hd.1) (by go_simp) ⟨⟨But.refl _ _, Ext.refl _⟩, fun _ _ => rfl⟩
    · refine step4o rfl (by decide) fun rv wq hE hd => ?_
      have hc := (but_drewT hE).cellT C0.out NSQ.out
      exact gives_loadAt 71 _ rfl (.pointer (some ⟨q, 0, none⟩)) (sv) (show rv 3 = _ from hd.1) (by go_simp) ⟨⟨But.refl _ _, Ext.refl _⟩, fun _ _ => rfl⟩
    · refine step4o rfl (by decide) fun rv wq hE hd => ?_
      exact gives_move _ (.int .i64 n) (.inl rfl) rfl ⟨⟨But.refl _ _, Ext.refl _⟩, fun _ _ => rfl⟩
    · refine step4o rfl (by decide) fun rv wq hE hd => ?_
      exact gives_move _ (.int .i64 k) (.inl rfl) rfl ⟨⟨But.refl _ _, Ext.refl _⟩, fun _ _ => rfl⟩
    · refine step4o rfl (by decide) fun rv wq hE hd => ?_
      refine gives_call 89 (enters_of Tryd.func89 (by kernel_rfl) rfl) _ _ rfl rfl [.int .i64 n, .int .i64 k] (congr (congrArg (fun a b => a :: b) (show rv 5 = _ from hd.1)) (congrArg (fun a => [a]) (show rv 6 = _ from hd.2.1))) ?_
      refine (onumber_any n k hk h0n h1n wq).mono ?_
      rintro _ w'' ⟨b, rfl, hbl, hblk, hbel⟩
      have hsz := (but_drewT hE).size
      refine ⟨_, rfl, ⟨But.of_below hbel, hbel⟩, fun W2 h2 => ⟨_, _, _, rfl, ?_, fun t ht => ?_⟩⟩
      · have hbs := Bs.of_blk (c := (beN n k).length) hblk (beN_ok n k) (Nat.le_refl _) (by rw [beN_len]; unfold maxLen; omega)
        rw [beN_len] at hbs
        exact hbs.same fun t ht hlt => h2.same t hlt (fun hs => by
          have : b = t := by simpa [Value.ownBlock] using ht
          have := (H0.out.row t hs.symm).2
          omega)
      · have : b = t := by simpa [Value.ownBlock] using ht
        omega
    · refine step4m rfl fun rv wq hE hZ hd => ?_
      have hbz := ext_of_drew hZ
      obtain ⟨A7, n7, c7, e7, b7, _⟩ := hd.2.1
      refine gives_appendO _ _ rfl base sv (u8s bs) (show rv 4 = _ from hd.1) (HO.out.below hbz) (rv 7) (beN n k).length (u8s (beN n k)) rfl (by rw [e7] at b7 ⊢; have := b7.len; subst this; exact b7.src) (by rw [u8s_len', Nat.mul_one]; have := HZ.out; unfold maxW at this; omega) (Nat.le_trans HBS.out hbz.size) ?_
      intro v' w' ho hg hp
      rw [show u8s bs ++ u8s (beN n k) = u8s (bs ++ (beN n k)) by simp [u8s]] at ho
      refine ⟨⟨hg.os, hg.tape, hg.output, hg.size, fun t ht hs => hg.block t ht (fun e => hs (by rw [← HR.out]; exact e))⟩, fun W2 h2 => ⟨ho.below h2, ?_⟩⟩
      rcases hp with h | h
      · exact .inl (h.trans HR.out)
      · exact .inr ⟨_, h, hbz.size⟩
    · intro rv wq hE hR
      obtain ⟨ho8, hp8⟩ := hR 8 (by omega)
      have h0 : rv 0 = .pointer (some ⟨q, 0, none⟩) := hR 0 (by omega)
      obtain ⟨A8, c8, e8, _⟩ := ho8.len
      have hB := but_drewT hE
      have hfin := oapp_end (ev := .int .i64 0) HB.out H0.out hB ho8 hp8 HOK.out HZ2.out
      have hblk := hB.blk HB.out NSQ.out
      have c0 := blk_cell (xs := [sv, .int .i64 0]) hblk 0 _ rfl
      have f0 := blk_free hblk 0
      rw [e8] at hfin
      rw [h0, e8]
      have HF := Lib.hid hfin
      clear hE hR ho8 hp8 h0 e8 hB hfin hblk
      go_wp2_with fail
      go_end0
      exact ⟨rfl, by rw [PB.out]; exact HF.out⟩
end Go.Proofs.YtniknhhejlgdfaaDoor
/- The document's writer: a digest, how many, the end. -/
namespace Go.Proofs.YtniknhhejlgdfaaDoor
open Go.RowKit

theorem range_of_but {S : Nat → Prop} {w w' : World} (h : But S w w') {b o : Nat} {cs : List Value} (hc : w.rangeAt b o cs) (hs : ¬ S b) : w'.rangeAt b o cs := fun j u hu => h.cellT (hc j u hu) hs
set_option maxHeartbeats 16000000 in
set_option maxRecDepth 100000 in
theorem odigest_any (base q : Nat) (s : WS) (r : Option Nat) (d : List Int) (hd16 : d.length = 16) (hok : u8s_ok d) (w00 : World) (H : OtAt base w00 q s r) (hlim : Lim s (maxW - 16)) :
    Calls Tryd.prog 71 #[.pointer (some ⟨q, 0, none⟩), .agg (u8s d).toArray] w00 fun e w' => e = .returned (.tuple #[]) ∧ OStep base q (fixS d s) r w00 w' := by
  have b0 : Below w00.heap.size w00 (w00.alloc (.cells (u8s d).toArray 24)) := (Below.refl _ _).alloc (Nat.le_refl _) _
  have B00 := Lib.hid b0
  have d0 : (w00.alloc (.cells (u8s d).toArray 24)).rangeAt w00.heap.size 0 (u8s d) := range_new w00 (u8s d) 24
  have hrow := H.row
  have hH0 := H.below b0
  obtain ⟨w, hw⟩ : ∃ w, w = w00.alloc (.cells (u8s d).toArray 24) := ⟨_, rfl⟩
  rw [← hw] at d0 hH0
  have HW := Lib.hid hw
  have D0 := Lib.hid d0
  have H0 := Lib.hid hH0
  obtain ⟨ev, sv, bs, hb, ho, hr, h1, h2, h3⟩ := hH0.at_
  have HB := Lib.hid hb
  have HO := Lib.hid ho
  have HR := Lib.hid hr
  have HBS := Lib.hid (show base ≤ w.heap.size by have := hH0.low; have := hH0.lt; omega)
  have NSX := Lib.hid (show ¬ (fun t => some t = r) w00.heap.size from fun e => by have := (hrow _ (Eq.symm e)).2; omega)
  have fin : ∀ s' w', OStep base q s' r w w' → OStep base q s' r w00 w' := fun s' w' h => OStep.then_ (by rw [HW.out]; exact Only.of_below B00.out) (.inl rfl) h
  have FIN := Lib.hid fin
  have hc1 := blk_cell (xs := [sv, ev]) hb 1 _ rfl
  have hc0 := blk_cell (xs := [sv, ev]) hb 0 _ rfl
  rw [hw] at hc1
  rcases h3 with ⟨rfl, rfl⟩ | ⟨rfl, rfl⟩
  case inr =>
    clear H hb ho hr h1 h2 b0 d0 hH0 fin hc0 hw
    go_enter Tryd.func71, Tryd.ntmps71
    go_wp2
    go_end0
    rw [← HW.out]
    exact ⟨rfl, by rw [fixS_none]; exact FIN.out _ _ (OStep.refl H0.out)⟩
  have C0 := Lib.hid hc0
  have HL := Lib.hid (hlim bs rfl)
  have HU := Lib.hid h1
  have HZ := Lib.hid (show bs.length + d.length ≤ maxW by rw [hd16]; have := HL.out; unfold maxW at *; omega)
  have HZ2 := Lib.hid (show (bs ++ d).length ≤ maxW by rw [List.length_append]; exact HZ.out)
  have HOK := Lib.hid (HU.out.append hok)
  have PB : Hid (fixS d (some bs) = some (bs ++ d)) := Lib.hid rfl
  have NSQ := Lib.hid (show ¬ (fun t => some t = r) q from fun e => H0.out.ne (Eq.symm e))
  clear H hb ho hr h1 h2 hlim b0 d0 hH0 fin hc0
  clear hw
  go_enter Tryd.func71, Tryd.ntmps71
  go_wp2_with fail
  rw [← HW.out]
  clear hc1
  refine wp_region_rely4 (by kernel_rfl) 9 (by kernel_rfl) (by kernel_rfl) (But (fun t => some t = r)) Ext 8 (But.refl _) Ext.refl Ext.trans But.trans (fun ix => match ix with
    | 0 => fun _ v => v = .pointer (some ⟨q, 0, none⟩)
    | 1 => fun _ v => v = .pointer (some ⟨q, 0, none⟩)
    | 2 => fun _ v => v = .pointer (some ⟨q, 0, none⟩)
    | 3 => fun _ v => v = .pointer (some ⟨q, 0, none⟩)
    | 4 => fun _ v => v = sv
    | 5 => fun _ v => v = .agg (u8s d).toArray
    | 6 => fun _ v => v = .string (strOfNums d)
    | 7 => fun W y => ∃ A m c, y = .slice A m c ∧ Bs W y d ∧ ∀ t, y.ownBlock = some t → w.heap.size ≤ t
    | 8 => fun W y => OwnO W base 5 y (u8s (bs ++ d)) ∧ (y.ownBlock = r ∨ ∃ b, y.ownBlock = some b ∧ w.heap.size ≤ b)
    | _ => fun _ _ => False) ?_
  simp (maxSteps := 10000000) only [Rely4, List.take_succ_cons, List.take_zero, List.drop_succ_cons, List.drop_zero, Nat.reduceAdd, Nat.zero_add, Act.put, List.setIfInBounds_toArray, List.set_cons_succ, List.set_cons_zero]
  refine ⟨?_, ?_, ?_, ?_, ?_, ?_, ?_, ?_, ?_, ?_⟩
  · refine step4o rfl (by decide) fun rv wq hE hd => ?_
    exact gives_move _ (.pointer (some ⟨q, 0, none⟩)) (.inl rfl) rfl ⟨⟨But.refl _ _, Ext.refl _⟩, fun _ _ => rfl⟩
  · refine step4o rfl (by decide) fun rv wq hE hd => ?_
    exact gives_move _ (.pointer (some ⟨q, 0, none⟩)) (.inl rfl) rfl ⟨⟨But.refl _ _, Ext.refl _⟩, fun _ _ => rfl⟩
  · refine step4o rfl (by decide) fun rv wq hE hd => ?_
    exact gives_nilCheck _ rfl ⟨q, 0, none⟩ (show rv 1 = _ from hd.1) ⟨⟨But.refl _ _, Ext.refl _⟩, fun _ _ => rfl⟩
  · refine step4o rfl (by decide) fun rv wq hE hd => ?_
    exact gives_fieldAddr' 113 _ 0 rfl (.pointer (some ⟨q, 0, none⟩)) _ (show rv 2 = _ from hd.1) (by go_simp) ⟨⟨But.refl _ _, Ext.refl _⟩, fun _ _ => rfl⟩
  · refine step4o rfl (by decide) fun rv wq hE hd => ?_
    have hc := (but_drewT hE).cellT C0.out NSQ.out
    exact gives_loadAt 71 _ rfl (.pointer (some ⟨q, 0, none⟩)) (sv) (show rv 3 = _ from hd.1) (by go_simp) ⟨⟨But.refl _ _, Ext.refl _⟩, fun _ _ => rfl⟩
  · refine step4o rfl (by decide) fun rv wq hE hd => ?_
    have hr := range_of_but (but_drewT hE) D0.out NSX.out
    exact gives_load_row 24 _ rfl w00.heap.size 0 rfl (u8s d) _ hr Tryd.underlying24 rfl (by rw [u8s_len', hd16]; exact Tryd.size24) ⟨⟨But.refl _ _, Ext.refl _⟩, fun _ _ => rfl⟩
  · refine step4o rfl (by decide) fun rv wq hE hd => ?_
    refine gives_call 90 (enters_of Tryd.func90 (by kernel_rfl) rfl) _ _ rfl rfl [.agg (u8s d).toArray] (congrArg (fun a => [a]) (show rv 5 = _ from hd.1)) ?_
    refine (text_any d hd16 hok wq).mono ?_
    rintro _ w'' ⟨rfl, hbel⟩
    exact ⟨_, rfl, ⟨But.of_below hbel, hbel⟩, fun _ _ => rfl⟩
  · refine step4o rfl (by decide) fun rv wq hE hd => ?_
    have hsz := (but_drewT hE).size
    have hs16 : (strOfNums d).size = d.length := by rw [← sb_len, sb_str d hok]
    have hbl := below_conv wq 5 (strOfNums d)
    refine gives_convert 9 71 _ rfl (.string (strOfNums d)) _ (show rv 6 = _ from hd.1) (Lib.run_convert_string_bytes wq 9 71 5 _ Tryd.underlying9 Tryd.underlying71 Tryd.underlying5) ⟨⟨But.of_below hbl, hbl⟩, fun W2 h2 => ⟨_, _, _, rfl, ?_, fun t ht => ?_⟩⟩
    · have ho := own_conv (base := 0) (e := 5) wq (strOfNums d) (by rw [hs16, hd16]; omega) (by omega)
      rw [sb_str d hok] at ho
      exact (Bs.of_own ho hok).same fun t ht hlt => h2.same t hlt (fun hs => by
        have : wq.heap.size = t := by simpa [Value.ownBlock] using ht
        have := (H0.out.row t hs.symm).2
        omega)
    · have : wq.heap.size = t := by simpa [Value.ownBlock] using ht
      omega
  · refine step4m rfl fun rv wq hE hZ hd => ?_
    have hbz := ext_of_drew hZ
    obtain ⟨A7, n7, c7, e7, b7, _⟩ := hd.2.1
    refine gives_appendO _ _ rfl base sv (u8s bs) (show rv 4 = _ from hd.1) (HO.out.below hbz) (rv 7) d.length (u8s d) rfl (by rw [e7] at b7 ⊢; have := b7.len; subst this; exact b7.src) (by rw [u8s_len', Nat.mul_one]; have := HZ.out; unfold maxW at this; omega) (Nat.le_trans HBS.out hbz.size) ?_
    intro v' w' ho hg hp
    rw [show u8s bs ++ u8s d = u8s (bs ++ d) by simp [u8s]] at ho
    refine ⟨⟨hg.os, hg.tape, hg.output, hg.size, fun t ht hs => hg.block t ht (fun e => hs (by rw [← HR.out]; exact e))⟩, fun W2 h2 => ⟨ho.below h2, ?_⟩⟩
    rcases hp with h | h
    · exact .inl (h.trans HR.out)
    · exact .inr ⟨_, h, hbz.size⟩
  · intro rv wq hE hR
    obtain ⟨ho8, hp8⟩ := hR 8 (by omega)
    have h0 : rv 0 = .pointer (some ⟨q, 0, none⟩) := hR 0 (by omega)
    obtain ⟨A8, c8, e8, _⟩ := ho8.len
    have hB := but_drewT hE
    have hfin := oapp_end (ev := .int .i64 0) HB.out H0.out hB ho8 hp8 HOK.out HZ2.out
    have hblk := hB.blk HB.out NSQ.out
    have c0 := blk_cell (xs := [sv, .int .i64 0]) hblk 0 _ rfl
    have f0 := blk_free hblk 0
    rw [e8] at hfin
    rw [h0, e8]
    have HF := Lib.hid hfin
    clear hE hR ho8 hp8 h0 e8 hB hfin hblk
    go_wp2_with fail
    go_end0
    exact ⟨rfl, by rw [PB.out]; exact FIN.out _ _ HF.out⟩

/-- How many: too many is an error. -/
def manyS (most n : Nat) (s : WS) : WS := if most < n then none else numS n 1 s
set_option maxHeartbeats 8000000 in
set_option maxRecDepth 100000 in
theorem omany_any (base q : Nat) (s : WS) (r : Option Nat) (n most : Nat) (hn : n ≤ 9223372036854775807) (w : World) (H : OtAt base w q s r) (hlim : Lim s (maxW - 1)) :
    Calls Tryd.prog 73 #[.pointer (some ⟨q, 0, none⟩), .int .i64 n, .int .i64 most] w fun e w' => e = .returned (.tuple #[]) ∧ OStep base q (manyS most n s) r w w' := by
  have H0 := Lib.hid H
  obtain ⟨ev, sv, bs, hb, ho, hr, h1, h2, h3⟩ := H.at_
  have hc1 := blk_cell (xs := [sv, ev]) hb 1 _ rfl
  have hf1 := blk_free hb 1
  have HF := Lib.hid H.fail
  have HL := Lib.hid hlim
  clear H hb ho hr h1 h2 hlim
  rcases h3 with ⟨rfl, rfl⟩ | ⟨rfl, rfl⟩
  · by_cases hmn : most < n
    · have hmi : (most : Int) < n := by omega
      have PB : Hid (manyS most n (some bs) = none) := Lib.hid (if_pos hmn)
      obtain ⟨r1, a1, j1⟩ := HF.out.next
      have A1 := Lib.hid a1
      have J1 := Lib.hid j1
      clear a1 j1 hmn
      go_enter Tryd.func73, Tryd.ntmps73
      go_wp2_with fail
      refine (onum_any base q none r1 n 1 (by omega) (by omega) _ A1.out (fun b hb => by cases hb)).mono ?_
      rintro _ w2 ⟨rfl, hst⟩
      rw [numS_none] at hst
      go_wp2_with fail
      go_end0
      exact ⟨rfl, by rw [PB.out]; exact J1.out _ _ hst⟩
    · have hmi : ¬ (most : Int) < n := by omega
      have PB : Hid (manyS most n (some bs) = numS n 1 (some bs)) := Lib.hid (if_neg hmn)
      clear hmn
      go_enter Tryd.func73, Tryd.ntmps73
      go_wp2_with fail
      refine (onum_any base q (some bs) r n 1 (by omega) (by omega) w H0.out HL.out).mono ?_
      rintro _ w2 ⟨rfl, hst⟩
      go_wp2_with fail
      go_end0
      exact ⟨rfl, by rw [PB.out]; exact hst⟩
  · have PB : Hid (manyS most n none = none) := Lib.hid (by unfold manyS; rw [numS_none]; split <;> rfl)
    go_enter Tryd.func73, Tryd.ntmps73
    go_wp2_with fail
    refine (onum_any base q none r n 1 (by omega) (by omega) w H0.out HL.out).mono ?_
    rintro _ w2 ⟨rfl, hst⟩
    rw [numS_none] at hst
    go_wp2_with fail
    go_end0
    exact ⟨rfl, by rw [PB.out]; exact hst⟩

set_option maxHeartbeats 8000000 in
set_option maxRecDepth 100000 in
theorem odone_any (base q : Nat) (s : WS) (r : Option Nat) (w : World) (H : OtAt base w q s r) :
    Calls Tryd.prog 53 #[.pointer (some ⟨q, 0, none⟩)] w fun e w' => Below w.heap.size w w' ∧ ((s = none ∧ e = .returned (.tuple #[.slice none 0 0, .int .i64 1])) ∨ ∃ b v, s = some b ∧ e = .returned (.tuple #[v, .int .i64 0]) ∧ Bs w' v b) := by
  obtain ⟨ev, sv, bs, hb, ho, hr, h1, h2, h3⟩ := H.at_
  have hc0 := blk_cell (xs := [sv, ev]) hb 0 _ rfl
  have hc1 := blk_cell (xs := [sv, ev]) hb 1 _ rfl
  clear H
  rcases h3 with ⟨rfl, rfl⟩ | ⟨rfl, rfl⟩
  · have HB := Lib.hid (Bs.of_own ho h1)
    clear hb ho hr h1 h2
    obtain ⟨A, c, rfl⟩ := HB.out.form
    go_enter Tryd.func53, Tryd.ntmps53
    go_wp2_with fail
    go_ret2
    exact ⟨Below.refl _ _, .inr ⟨bs, _, rfl, rfl, HB.out⟩⟩
  · have C1 := Lib.hid hc1
    clear hb ho hr h1 h2 hc0
    go_enter Tryd.func53, Tryd.ntmps53
    go_wp2_with fail
    refine wp_region_rely3 (by kernel_rfl) 6 (by kernel_rfl) (by kernel_rfl) Ext Ext.refl Ext.trans (fun ix => match ix with
      | 0 => fun _ v => v = .pointer (some ⟨q, 0, none⟩)
      | 1 => fun _ v => v = .pointer (some ⟨q, 0, none⟩)
      | 2 => fun _ v => v = .pointer (some ⟨q, 1, none⟩)
      | 3 => fun _ v => v = .int .i64 1
      | 4 => fun _ v => v = .slice none 0 0
      | 5 => fun _ v => v = .int .i64 1
      | _ => fun _ _ => False) ?_
    simp (maxSteps := 10000000) only [Rely, List.take_succ_cons, List.take_zero, List.drop_succ_cons, List.drop_zero, Nat.reduceAdd, Nat.zero_add, Act.put, List.setIfInBounds_toArray, List.set_cons_succ, List.set_cons_zero]
    refine ⟨?_, ?_, ?_, ?_, ?_, ?_, ?_⟩
    · refine step_plain rfl fun rv wq hE hd => ?_
      exact gives_move _ (.pointer (some ⟨q, 0, none⟩)) (.inl rfl) rfl ⟨Ext.refl _, fun _ _ => rfl⟩
    · refine step_plain rfl fun rv wq hE hd => ?_
      exact gives_nilCheck _ rfl ⟨q, 0, none⟩ (show rv 0 = _ from hd.1) ⟨Ext.refl _, fun _ _ => rfl⟩
    · refine step_plain rfl fun rv wq hE hd => ?_
      exact gives_fieldAddr' 113 _ 1 rfl (.pointer (some ⟨q, 0, none⟩)) _ (show rv 1 = _ from hd.1) (by go_simp) ⟨Ext.refl _, fun _ _ => rfl⟩
    · refine step_plain rfl fun rv wq hE hd => ?_
      have hc := cell_on (ext_of_drew hE) C1.out
      exact gives_loadAt 3 _ rfl (.pointer (some ⟨q, 1, none⟩)) (.int .i64 1) (show rv 2 = _ from hd.1) (by go_simp) ⟨Ext.refl _, fun _ _ => rfl⟩
    · refine step_plain rfl fun rv wq hE hd => ?_
      exact gives_move _ (.slice none 0 0) (.inr rfl) rfl ⟨Ext.refl _, fun _ _ => rfl⟩
    · refine step_plain rfl fun rv wq hE hd => ?_
      exact gives_move _ (.int .i64 1) (.inr rfl) (show rv 3 = _ from hd.1) ⟨Ext.refl _, fun _ _ => rfl⟩
    · intro rv wq hE hR
      have h4 : rv 4 = .slice none 0 0 := hR 4 (by omega)
      have h5 : rv 5 = .int .i64 1 := hR 5 (by omega)
      rw [h4, h5]
      have BE := Lib.hid (ext_of_drew hE)
      clear hR hE h4 h5
      go_wp2_with fail
      go_ret2
      exact ⟨BE.out, .inl ⟨by first | rfl | trivial, by first | rfl | trivial⟩⟩
end Go.Proofs.YtniknhhejlgdfaaDoor
