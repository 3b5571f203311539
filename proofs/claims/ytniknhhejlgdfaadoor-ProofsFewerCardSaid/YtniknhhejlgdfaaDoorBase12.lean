/- Lemmas that laws of this seat rest on, part 12; each says its own conditions: Bk, WPut130, WSig, WSgn, WBk, WBlk, WDone. -/
import Derived.Test.YtniknhhejlgdfaaDoorBase5
import Derived.Test.YtniknhhejlgdfaaDoorBase6
import Derived.Test.YtniknhhejlgdfaaDoorBase8
import Derived.Test.YtniknhhejlgdfaaDoorBase10
import Derived.Test.YtniknhhejlgdfaaDoorBase11
/- What a block, a QC and a signature are as lists, how they lie, and what layer 9 writes of them. -/
namespace Go.Proofs.YtniknhhejlgdfaaDoor
open Go.RowKit

structure Sd where
  who : Int
  leaf : Int
  ch : List (List Int)
  pa : List (List Int)
structure Qc where
  epoch : Int
  round : Int
  block : List Int
  votes : List Sd
structure Bk where
  epoch : Int
  round : Int
  parent : List Int
  justify : Qc
  payload : List (List Int)
  next : List Va
def Sd.none : Sd := ⟨0, 0, [], []⟩

def sigS (leaf : Int) (ch pa : List (List Int)) (s : WS) : WS := putS 5 fixS pa (putS 68 fixS ch (numS leaf 1 s))
def sdS (x : Sd) (s : WS) : WS := sigS x.leaf x.ch x.pa (numS x.who 1 s)
def txS (t : List Int) (s : WS) : WS := if 16 < t.length then none else fixS t (numS t.length 2 s)
def vaS (x : Va) (s : WS) : WS := numS x.2 6 (fixS x.1 s)
def qcS (q : Qc) (s : WS) : WS := putS 7 sdS q.votes (fixS q.block (numS q.round 6 (numS q.epoch 4 s)))
def bkS (b : Bk) (s : WS) : WS := putS 7 vaS b.next (putS 4 txS b.payload (qcS b.justify (fixS b.parent (numS b.round 6 (numS b.epoch 4 s)))))

theorem Lim.dg (d : List Int) (hd : d.length = 16) (s : WS) (m : Nat) (h : Lim s m) : Lim (fixS d s) (m + 16) := by
  have := h.fix d
  rwa [hd] at this
theorem Lim.tx (t : List Int) (s : WS) (m : Nat) (h : Lim s m) : Lim (txS t s) (m + 18) := by
  unfold txS
  split
  · intro b hb; cases hb
  · exact ((h.num _ 2).fix t).mono (by omega)

/-- A signature with its signer as it lies. -/
structure SdAt (w : World) (cs : List Value) (x : Sd) : Prop where
  ex : ∃ A c B d, cs = [.int .i64 x.who, .int .i64 x.leaf, .slice A x.ch.length c, .slice B x.pa.length d] ∧ Dgs w (.slice A x.ch.length c) x.ch ∧ Dgs w (.slice B x.pa.length d) x.pa
theorem SdAt.below {w w' : World} {cs : List Value} {x : Sd} (h : SdAt w cs x) (hb : Below w.heap.size w w') : SdAt w' cs x := by
  obtain ⟨A, c, B, d, e, h1, h2⟩ := h.ex
  exact ⟨A, c, B, d, e, h1.below hb, h2.below hb⟩
/-- A slice of signatures. -/
structure Sgs (w : World) (v : Value) (xs : List Sd) : Prop where
  form : ∃ A c, v = .slice A xs.length c
  cells : xs ≠ [] → ∃ b off c, v = .slice (some ⟨b, off, none⟩) xs.length c ∧ xs.length ≤ c ∧ c ≤ maxLen ∧ b < w.heap.size ∧ ∀ i, i < xs.length → ∃ cs, w.rangeAt b (off + i * 4) cs ∧ SdAt w cs (xs.getD i Sd.none)
theorem Sgs.below {w w' : World} {v : Value} {xs : List Sd} (h : Sgs w v xs) (hb : Below w.heap.size w w') : Sgs w' v xs := by
  refine ⟨h.form, fun hne => ?_⟩
  obtain ⟨b, off, c, e, h1, h2, h3, h4⟩ := h.cells hne
  refine ⟨b, off, c, e, h1, h2, Nat.lt_of_lt_of_le h3 hb.size, fun i hi => ?_⟩
  obtain ⟨cs, hr, hs⟩ := h4 i hi
  exact ⟨cs, range_below hr hb, hs.below hb⟩
theorem Sgs.len {w : World} {A : Option Addr} {n c : Nat} {xs : List Sd} (h : Sgs w (.slice A n c) xs) : n = xs.length := by
  obtain ⟨A', c', e⟩ := h.form
  simp only [Value.slice.injEq] at e
  exact e.2.1
theorem Sgs.el {w : World} {A : Option Addr} {n c : Nat} {xs : List Sd} (h : Sgs w (.slice A n c) xs) (i : Nat) (hi : i < n) :
    ∃ b off cs, A = some ⟨b, off, none⟩ ∧ b < w.heap.size ∧ w.rangeAt b (off + i * 4) cs ∧ SdAt w cs (xs.getD i Sd.none) := by
  have hl := h.len
  obtain ⟨b, off, c', e, _, _, h3, h4⟩ := h.cells (by intro e; subst e; simp at hl; omega)
  simp only [Value.slice.injEq] at e
  obtain ⟨cs, hr, hs⟩ := h4 i (by omega)
  exact ⟨b, off, cs, e.1, h3, hr, hs⟩
theorem Dgs.el {w : World} {A : Option Addr} {n c : Nat} {xs : List (List Int)} (h : Dgs w (.slice A n c) xs) (hn : n = xs.length) (i : Nat) (hi : i < n) :
    ∃ b off, A = some ⟨b, off, none⟩ ∧ b < w.heap.size ∧ w.rangeAt b (off + i * 16) (u8s (xs.getD i [])) := by
  obtain ⟨b, off, c', e, _, _, h3, h4⟩ := h.cells (by intro e; subst e; simp at hn; omega)
  simp only [Value.slice.injEq] at e
  exact ⟨b, off, e.1, h3, h4 i (by omega)⟩
/-- A QC as it lies. -/
structure QcAt (w : World) (cs : List Value) (q : Qc) : Prop where
  ex : ∃ A c, cs = qcC q.epoch q.round q.block (.slice A q.votes.length c) ∧ Sgs w (.slice A q.votes.length c) q.votes
  blk : q.block.length = 16 ∧ u8s_ok q.block
theorem QcAt.below {w w' : World} {cs : List Value} {q : Qc} (h : QcAt w cs q) (hb : Below w.heap.size w w') : QcAt w' cs q := by
  obtain ⟨A, c, e, h1⟩ := h.ex
  exact ⟨⟨A, c, e, h1.below hb⟩, h.blk⟩
/-- A block's cells. -/
def bkC (e r : Int) (p : List Int) (q : List Value) (x y : Value) : List Value := [.int .i64 e, .int .i64 r] ++ (u8s p ++ (q ++ [x, y]))
structure BkAt (w : World) (cs : List Value) (b : Bk) : Prop where
  ex : ∃ q A c B d, cs = bkC b.epoch b.round b.parent q (.slice A b.payload.length c) (.slice B b.next.length d) ∧ QcAt w q b.justify ∧ Bss w (.slice A b.payload.length c) b.payload ∧ Vals w (.slice B b.next.length d) b.next
  par : b.parent.length = 16 ∧ u8s_ok b.parent
  keys : ∀ x ∈ b.next, u8s_ok x.1
theorem BkAt.below {w w' : World} {cs : List Value} {b : Bk} (h : BkAt w cs b) (hb : Below w.heap.size w w') : BkAt w' cs b := by
  obtain ⟨q, A, c, B, d, e, h1, h2, h3⟩ := h.ex
  exact ⟨⟨q, A, c, B, d, e, h1.below hb, h2.below hb, h3.below hb⟩, h.par, h.keys⟩

theorem cell_base {w0 w : World} {b off : Nat} {v : Value} (h : w0.cell? ⟨b, off, none⟩ = some v) (hb : Below w0.heap.size w0 w) (_ : b < w0.heap.size) : w.cell? ⟨b, off, none⟩ = some v := cell_on hb h
theorem WStep.next {base q : Nat} {aR : Addr} {s : WS} {r : Option Nat} {w w1 : World} (h : WStep base q aR s r w w1) : ∃ r1, WrAt base w1 q aR s r1 ∧ ∀ s' w2, WStep base q aR s' r1 w1 w2 → WStep base q aR s' r w w2 := by
  obtain ⟨r1, a, p⟩ := h.at_
  exact ⟨r1, a, fun s' w2 h2 => WStep.then_ h.only p h2⟩
/-- A block that was made behind the writer's bytes. -/
theorem WStep.keep {base q : Nat} {aR : Addr} {s s0 : WS} {r : Option Nat} {w w1 : World} {b : Nat} {o : Obj} {w00 : World} (h : WStep base q aR s r w w1) (h0 : WrAt base w00 q aR s0 r) (hb : w.heap[b]? = some o) (hge : w00.heap.size ≤ b) : w1.heap[b]? = some o :=
  h.blk hb (by have := h0.lt; omega) (fun e => by have := (h0.row _ e.symm).2; omega)
theorem Tryd.size68 : (Tryd.prog.info? 68).map (·.size) = some 4 := by kernel_rfl
theorem Tryd.size66 : (Tryd.prog.info? 66).map (·.size) = some 3 := by kernel_rfl
end Go.Proofs.YtniknhhejlgdfaaDoor
/- Lists of digests are written: wire.Put at digests. -/
namespace Go.Proofs.YtniknhhejlgdfaaDoor
open Go.RowKit

theorem Lim.foldD : ∀ (xs : List (List Int)), (∀ d ∈ xs, d.length = 16) → ∀ (s : WS) (m : Nat), Lim s m → Lim (xs.foldl (fun s x => fixS x s) s) (m + xs.length * 16)
  | [], _, s, m, h => by simpa using h
  | x :: xs, hd, s, m, h => by
    refine (Lim.foldD xs (fun d h => hd d (List.mem_cons_of_mem _ h)) (fixS x s) (m + 16) (Lim.dg x (hd x (by simp)) s m h)).mono ?_
    simp only [List.length_cons, Nat.add_mul, Nat.one_mul]
    omega
theorem Lim.putD {most : Nat} {xs : List (List Int)} (hd : ∀ d ∈ xs, d.length = 16) {s : WS} {m : Nat} (h : Lim s m) : Lim (putS most fixS xs s) (m + 1 + most * 16) := by
  unfold putS
  split
  · intro b hb; cases hb
  · refine (Lim.foldD xs hd _ _ (h.num _ 1)).mono ?_
    have : xs.length * 16 ≤ most * 16 := Nat.mul_le_mul_right _ (by omega)
    omega

set_option maxHeartbeats 8000000 in
set_option maxRecDepth 100000 in
theorem put130_any (w0 : World) (q : Nat) (aR : Addr) (s : WS) (r : Option Nat) (most : Nat) (hmost : most ≤ 255) (xs : List (List Int)) (A : Option Addr) (n c : Nat) (hx : Dgs w0 (.slice A n c) xs) (hn : n = xs.length) (w : World) (H : WrAt w0.heap.size w q aR s r) (hb : Below w0.heap.size w0 w) (hR : w0.cell? ⟨1, 0, none⟩ = some (errV aR)) (h1 : 1 < w0.heap.size) (hlim : Lim s (maxW - (1 + most * 16))) (hmx : most * 16 ≤ 10000000) :
    Calls Tryd.prog 130 #[.pointer (some ⟨q, 0, none⟩), .slice A n c, .int .i64 most, .func (.func 115) #[] #[]] w fun e w' => e = .returned (.tuple #[]) ∧ WStep w0.heap.size q aR (putS most fixS xs s) r w w' := by
  have H0 := Lib.hid H
  have HX := Lib.hid hx
  have HN := Lib.hid hn
  have HB := Lib.hid hb
  have RE := Lib.hid (cell_base hR hb h1)
  have RC := Lib.hid hR
  have HL := Lib.hid hlim
  clear H hx hn hb hR hlim
  by_cases hmn : most < n
  · have hmi : (most : Int) < n := by omega
    have PB : Hid (putS most fixS xs s = none) := Lib.hid (by unfold putS; rw [if_pos (by rw [← HN.out]; exact hmn)])
    go_enter Tryd.func130, Tryd.ntmps130
    go_wp2_with fail
    refine wp_region_rely3 (by kernel_rfl) 4 (by kernel_rfl) (by kernel_rfl) Ext Ext.refl Ext.trans (fun ix => match ix with
      | 0 => fun _ v => v = .pointer (some ⟨q, 0, none⟩)
      | 1 => fun _ v => v = .pointer (some ⟨q, 0, none⟩)
      | 2 => fun _ v => v = .pointer (some ⟨q, 0, none⟩)
      | 3 => fun _ v => v = errV aR
      | _ => fun _ _ => False) ?_
    simp (maxSteps := 10000000) only [Rely, List.take_succ_cons, List.take_zero, List.drop_succ_cons, List.drop_zero, Nat.reduceAdd, Nat.zero_add, Act.put, List.setIfInBounds_toArray, List.set_cons_succ, List.set_cons_zero]
    refine ⟨?_, ?_, ?_, ?_, ?_⟩
    · refine step_plain rfl fun rv wq hE hd => ?_
      exact gives_move _ (.pointer (some ⟨q, 0, none⟩)) (.inl rfl) rfl ⟨Ext.refl _, fun _ _ => rfl⟩
    · refine step_plain rfl fun rv wq hE hd => ?_
      exact gives_nilCheck _ rfl ⟨q, 0, none⟩ (show rv 0 = _ from hd.1) ⟨Ext.refl _, fun _ _ => rfl⟩
    · refine step_plain rfl fun rv wq hE hd => ?_
      exact gives_fieldAddr' 209 _ 0 rfl (.pointer (some ⟨q, 0, none⟩)) _ (show rv 1 = _ from hd.1) (by go_simp) ⟨Ext.refl _, fun _ _ => rfl⟩
    · refine step_plain rfl fun rv wq hE hd => ?_
      have hc := cell_on (ext_of_drew hE) RE.out
      exact gives_loadAt 29 _ rfl (.pointer (some ⟨1, 0, none⟩)) (errV aR) rfl (by go_simp) ⟨Ext.refl _, fun _ _ => rfl⟩
    · intro rv wq hE hR
      have h0 : rv 2 = .pointer (some ⟨q, 0, none⟩) := hR 2 (by omega)
      have h3 : rv 3 = errV aR := hR 3 (by omega)
      rw [h0, h3]
      have BE := Lib.hid (ext_of_drew hE)
      clear hR hE h0 h3
      go_wp2_with fail
      refine (fail_any w0.heap.size q aR s r wq (H0.out.below BE.out)).mono ?_
      rintro _ w2 ⟨rfl, hst⟩
      go_wp2_with fail
      refine bodyPost_ret (results_none rfl _ _ _) rfl ⟨rfl, ?_⟩
      rw [PB.out]
      exact WStep.then_ (Only.of_below BE.out) (.inl rfl) hst
  have hmi : ¬ (most : Int) < n := by omega
  have hmj : ¬ (255 : Int) < n := by omega
  go_enter Tryd.func130, Tryd.ntmps130
  go_wp2_with fail
  refine (number_any w0.heap.size q aR s r n 1 (by omega) w H0.out RE.out (by have := HB.out.size; omega) (HL.out.mono (by unfold maxW; omega))).mono ?_
  rintro _ w1 ⟨rfl, hst1⟩
  have HS1 := Lib.hid hst1
  obtain ⟨st, hst⟩ : ∃ st : Nat → WS, st = fun i => (xs.take i).foldl (fun s x => fixS x s) (numS n 1 s) := ⟨_, rfl⟩
  have hs0 : numS n 1 s = st 0 := by rw [hst]; rfl
  have hsn : putS most fixS xs s = st n := by
    rw [hst]
    unfold putS
    rw [if_neg (by rw [← HN.out]; exact hmn)]
    dsimp only
    rw [HN.out, List.take_length]
  have hlm : ∀ i, i ≤ n → Lim (st i) (maxW - (most - i) * 16) := fun i hi => by
    rw [hst]
    dsimp only
    refine (Lim.foldD (xs.take i) (fun d hd => (HX.out.good d (List.mem_of_mem_take hd)).1) _ _ (HL.out.num n 1)).mono ?_
    rw [List.length_take, ← HN.out, Nat.min_eq_left hi]
    have e1 : most * 16 = i * 16 + (most - i) * 16 := by rw [← Nat.add_mul]; congr 1; omega
    unfold maxW at *
    omega
  have hss : ∀ i (hi : i < xs.length), st (i + 1) = fixS (xs.getD i []) (st i) := fun i hi => by
    rw [hst]
    dsimp only
    rw [List.take_succ_eq_append_getElem hi, List.foldl_append, List.getD_eq_getElem?_getD, List.getElem?_eq_getElem hi]
    rfl
  rw [hs0] at HS1
  have HSN := Lib.hid hsn
  have HLM := Lib.hid hlm
  have HSS := Lib.hid hss
  clear hst1 hs0 hsn hlm hss hst
  go_wp2_with fail
  go_loopw [9, 30] (fun _ k wr => ∃ (i : Nat), i ≤ n ∧ k = .int .i64 i ∧ Hid (WStep w0.heap.size q aR (st i) r w wr))
    (fun _ k _ => n - (intOf k).toNat)
  case atStart => exact ⟨0, by omega, rfl, HS1⟩
  case round =>
    obtain ⟨i, hi, rfl, hstp⟩ := hrel
    by_cases hlt : i < n
    · have hil : (i : Int) < n := by omega
      have hix : i < xs.length := by rw [← HN.out]; exact hlt
      have hbel := hstp.out.below H0.out
      have BR := Lib.hid (HB.out.trans hbel)
      obtain ⟨r1, hw1, hk1⟩ := hstp.out.next
      have HW1 := Lib.hid hw1
      have HK1 := Lib.hid hk1
      have HSI := Lib.hid (HSS.out i hix)
      have HLI := Lib.hid ((HLM.out i hi).mono (show maxW - (most - i) * 16 ≤ maxW - 16 by have : 16 ≤ (most - i) * 16 := Nat.le_mul_of_pos_left _ (by omega); omega))
      clear hw1 hk1 hbel
      obtain ⟨bb, oo, rfl, _, hrg⟩ := (HX.out.below BR.out).el HN.out i hlt
      obtain ⟨hl16, hok⟩ := HX.out.at i hix
      obtain ⟨X, hX⟩ : ∃ X, X = xs.getD i [] := ⟨_, rfl⟩
      rw [← hX] at hrg hl16 hok HSI
      have RG := Lib.hid hrg
      have HCL := Lib.hid (show (u8s X).length = 16 by rw [u8s_len', hl16])
      have HOK := Lib.hid hok
      have HL16 := Lib.hid hl16
      clear hrg hX hok hl16
      have hh : ∀ Z : Array Value, Z.size = 16 → Has (wr.alloc (.cells Z 24)) wr.heap.size 24 (u8s X).length := fun Z hZ => has_new wr _ _ _ (by rw [hZ]; exact HCL.out.symm)
      have HH := Lib.hid hh
      clear hh
      go_wp2_with (first | (refine wpList_load_g rfl 24 (.tmp 32) rfl bb (oo + i * 16) rfl (u8s X) _ RG.out Tryd.underlying24 rfl (by rw [HCL.out]; exact Tryd.size24) ?_) | (refine wpList_store_row rfl 24 (.tmp 9) (.tmp 33) rfl wr.heap.size rfl (u8s X) rfl 24 (HH.out _ rfl) (by rw [HCL.out]; exact Tryd.size24) (one_u8s X) ?_; intro w2 hp2; have BL := Lib.hid (show Below wr.heap.size wr w2 from hp2.below ((Below.refl _ _).alloc (Nat.le_refl _) _) (Nat.le_refl _)); have RG2 := Lib.hid (blk_range hp2.blk); clear hp2) | (refine wpList_load_g rfl 24 (.tmp 9) rfl wr.heap.size 0 rfl (u8s X) _ RG2.out Tryd.underlying24 rfl (by rw [HCL.out]; exact Tryd.size24) ?_))
      refine (putDigest_any w0.heap.size q aR (st i) r1 X HL16.out HOK.out w2 (HW1.out.below BL.out) HLI.out).mono ?_
      rintro _ w3 ⟨rfl, hst3⟩
      have HST := Lib.hid hst3
      clear hst3
      go_wp2_with fail
      go_roundw
      case rel => exact ⟨i + 1, by omega, by go_num, Lib.hid (by rw [HSI.out]; exact HK1.out _ _ (WStep.then_ (Only.of_below BL.out) (.inl rfl) HST.out))⟩
      case measure => simp [intOf]; omega
    · obtain rfl : i = n := by omega
      go_wp2
      go_end0
      exact ⟨rfl, by rw [HSN.out]; exact hstp.out⟩
end Go.Proofs.YtniknhhejlgdfaaDoor
/- Signatures are written. -/
namespace Go.Proofs.YtniknhhejlgdfaaDoor
open Go.RowKit

theorem Lim.sig {leaf : Int} {ch pa : List (List Int)} (hc : ∀ d ∈ ch, d.length = 16) (hp : ∀ d ∈ pa, d.length = 16) {s : WS} {m : Nat} (h : Lim s m) : Lim (sigS leaf ch pa s) (m + 1171) := by
  unfold sigS
  exact (Lim.putD hp (Lim.putD hc (h.num leaf 1))).mono (by omega)

set_option maxHeartbeats 8000000 in
set_option maxRecDepth 100000 in
theorem sig_any (w0 : World) (q : Nat) (aR : Addr) (s : WS) (r : Option Nat) (l : Int) (ch pa : List (List Int)) (A B : Option Addr) (n c k d : Nat) (hx : Dgs w0 (.slice A n c) ch) (hp : Dgs w0 (.slice B k d) pa) (hn : n = ch.length) (hk : k = pa.length) (w : World) (H : WrAt w0.heap.size w q aR s r) (hb : Below w0.heap.size w0 w) (hR : w0.cell? ⟨1, 0, none⟩ = some (errV aR)) (h1 : 1 < w0.heap.size) (hlim : Lim s (maxW - 1171)) :
    Calls Tryd.prog 129 #[wrV q, sigV l (.slice A n c) (.slice B k d)] w fun ret w' => ret = .returned (.tuple #[]) ∧ WStep w0.heap.size q aR (sigS l ch pa s) r w w' := by
  have b0 : Below w.heap.size w ((w.alloc (.cells #[.pointer (some ⟨q, 0, none⟩)] 171)).alloc (.cells #[.int .i64 l, .slice A n c, .slice B k d] 66)) := (((Below.refl _ _).alloc (Nat.le_refl _) _).alloc (by simp) _)
  have k0 : ((w.alloc (.cells #[.pointer (some ⟨q, 0, none⟩)] 171)).alloc (.cells #[.int .i64 l, .slice A n c, .slice B k d] 66)).heap[w.heap.size]? = some (.cells #[.pointer (some ⟨q, 0, none⟩)] 171 (0, 0)) := by
    have := heap_alloc_new w (.cells #[.pointer (some ⟨q, 0, none⟩)] 171)
    have := (Below.heap_alloc (w.alloc (.cells #[.pointer (some ⟨q, 0, none⟩)] 171)) (.cells #[.int .i64 l, .slice A n c, .slice B k d] 66) _ (blk_lt this)).trans this
    exact this
  have k1 : ((w.alloc (.cells #[.pointer (some ⟨q, 0, none⟩)] 171)).alloc (.cells #[.int .i64 l, .slice A n c, .slice B k d] 66)).heap[w.heap.size + 1]? = some (.cells #[.int .i64 l, .slice A n c, .slice B k d] 66 (0, 0)) := by
    have := heap_alloc_new (w.alloc (.cells #[.pointer (some ⟨q, 0, none⟩)] 171)) (.cells #[.int .i64 l, .slice A n c, .slice B k d] 66)
    rw [World.size_alloc] at this
    exact this
  have HH := Lib.hid H
  have H0 := Lib.hid (H.below b0)
  have B0 := Lib.hid b0
  have HB := Lib.hid hb
  have RC := Lib.hid hR
  have BB0 := Lib.hid (hb.trans (b0.mono hb.size))
  have K0_0 := Lib.hid k0
  have K1_0 := Lib.hid k1
  have HN := Lib.hid hn
  have HK := Lib.hid hk
  have HX := Lib.hid hx
  have HP := Lib.hid hp
  have HL := Lib.hid hlim
  have HC := Lib.hid (fun d hd => (hx.good d hd).1)
  have cp0 := blk_cell (xs := [.pointer (some ⟨q, 0, none⟩)]) K0_0.out 0 _ rfl
  have c1_0_0 := blk_cell (xs := [.int .i64 l, .slice A n c, .slice B k d]) K1_0.out 0 _ rfl
  clear H b0 hb hR k0 k1 hn hk hx hp hlim
  go_enter Tryd.func129, Tryd.ntmps129
  go_wp2_with fail
  refine (number_any w0.heap.size q aR s r l 1 (by omega) _ H0.out (cell_base RC.out BB0.out h1) (by have := BB0.out.size; omega) (HL.out.mono (by unfold maxW; omega))).mono ?_
  rintro _ w1 ⟨rfl, hst1⟩
  have ST1 := Lib.hid hst1
  clear hst1
  obtain ⟨r1, a1, j1⟩ := ST1.out.next
  have A1 := Lib.hid a1
  have J1 := Lib.hid j1
  have BB1 := Lib.hid (BB0.out.trans (ST1.out.below H0.out))
  have K0_1 := Lib.hid (ST1.out.keep HH.out K0_0.out (by omega))
  have K1_1 := Lib.hid (ST1.out.keep HH.out K1_0.out (by omega))
  have cp1 := blk_cell (xs := [.pointer (some ⟨q, 0, none⟩)]) K0_1.out 0 _ rfl
  have c1_1_1 := blk_cell (xs := [.int .i64 l, .slice A n c, .slice B k d]) K1_1.out 1 _ rfl
  clear a1 j1 cp0 c1_0_0
  go_wp2_with fail
  refine (put130_any w0 q aR (numS l 1 s) r1 68 (by omega) ch A n c HX.out HN.out _ A1.out BB1.out RC.out h1 ((HL.out.num l 1).mono (by unfold maxW; omega)) (by omega)).mono ?_
  rintro _ w2 ⟨rfl, hst2⟩
  have ST2 := Lib.hid (J1.out _ _ hst2)
  clear hst2
  obtain ⟨r2, a2, j2⟩ := ST2.out.next
  have A2 := Lib.hid a2
  have J2 := Lib.hid j2
  have BB2 := Lib.hid (BB0.out.trans (ST2.out.below H0.out))
  have K0_2 := Lib.hid (ST2.out.keep HH.out K0_0.out (by omega))
  have K1_2 := Lib.hid (ST2.out.keep HH.out K1_0.out (by omega))
  have cp2 := blk_cell (xs := [.pointer (some ⟨q, 0, none⟩)]) K0_2.out 0 _ rfl
  have c1_2_2 := blk_cell (xs := [.int .i64 l, .slice A n c, .slice B k d]) K1_2.out 2 _ rfl
  clear a2 j2 cp1 c1_1_1
  go_wp2_with fail
  refine (put130_any w0 q aR (putS 68 fixS ch (numS l 1 s)) r2 5 (by omega) pa B k d HP.out HK.out _ A2.out BB2.out RC.out h1 ((Lim.putD HC.out (HL.out.num l 1)).mono (by unfold maxW; omega)) (by omega)).mono ?_
  rintro _ w3 ⟨rfl, hst3⟩
  have ST3 := Lib.hid (J2.out _ _ hst3)
  clear hst3
  go_wp2_with fail
  go_end0
  exact ⟨rfl, WStep.then_ (Only.of_below B0.out) (.inl rfl) ST3.out⟩
end Go.Proofs.YtniknhhejlgdfaaDoor
/- Signed words and QCs are written. -/
namespace Go.Proofs.YtniknhhejlgdfaaDoor
open Go.RowKit

theorem Tryd.size171 : (Tryd.prog.info? 171).map (·.size) = some 1 := by kernel_rfl
theorem Lim.foldP {α : Type} {one : α → WS → WS} {c : Nat} {P : α → Prop} (h1 : ∀ x, P x → ∀ s m, Lim s m → Lim (one x s) (m + c)) : ∀ (xs : List α), (∀ x ∈ xs, P x) → ∀ (s : WS) (m : Nat), Lim s m → Lim (xs.foldl (fun s x => one x s) s) (m + xs.length * c)
  | [], _, s, m, h => by simpa using h
  | x :: xs, hp, s, m, h => by
    refine (Lim.foldP h1 xs (fun y hy => hp y (List.mem_cons_of_mem _ hy)) (one x s) (m + c) (h1 x (hp x (by simp)) s m h)).mono ?_
    simp only [List.length_cons, Nat.add_mul, Nat.one_mul]
    omega
theorem Lim.putP {α : Type} {one : α → WS → WS} {c most : Nat} {P : α → Prop} (h1 : ∀ x, P x → ∀ s m, Lim s m → Lim (one x s) (m + c)) {xs : List α} (hp : ∀ x ∈ xs, P x) {s : WS} {m : Nat} (h : Lim s m) : Lim (putS most one xs s) (m + 1 + most * c) := by
  unfold putS
  split
  · intro b hb; cases hb
  · refine (Lim.foldP h1 xs hp _ _ (h.num _ 1)).mono ?_
    have : xs.length * c ≤ most * c := Nat.mul_le_mul_right _ (by omega)
    omega
def SdOk (x : Sd) : Prop := (∀ d ∈ x.ch, d.length = 16) ∧ ∀ d ∈ x.pa, d.length = 16
theorem Lim.sd (x : Sd) (hx : SdOk x) (s : WS) (m : Nat) (h : Lim s m) : Lim (sdS x s) (m + 1172) := by
  unfold sdS
  exact (Lim.sig hx.1 hx.2 (h.num x.who 1)).mono (by omega)
theorem SdAt.ok {w : World} {cs : List Value} {x : Sd} (h : SdAt w cs x) : SdOk x := by
  obtain ⟨A, c, B, d, _, h1, h2⟩ := h.ex
  exact ⟨fun d hd => (h1.good d hd).1, fun d hd => (h2.good d hd).1⟩
theorem Sgs.ok {w : World} {A : Option Addr} {n c : Nat} {xs : List Sd} (h : Sgs w (.slice A n c) xs) : ∀ x ∈ xs, SdOk x := by
  intro x hx
  obtain ⟨i, hi, rfl⟩ := List.getElem_of_mem hx
  obtain ⟨_, _, cs, _, _, _, hs⟩ := h.el i (by rw [h.len]; exact hi)
  have := hs.ok
  rwa [List.getD_eq_getElem?_getD, List.getElem?_eq_getElem hi] at this
theorem one_sd (z l : Int) (A B : Option Addr) (n c k d : Nat) : ∀ v ∈ [Value.int .i64 z, .int .i64 l, .slice A n c, .slice B k d], v.oneCell' = true := by
  intro v hv
  simp only [List.mem_cons, List.not_mem_nil, or_false] at hv
  rcases hv with rfl | rfl | rfl | rfl <;> rfl

set_option maxHeartbeats 8000000 in
set_option maxRecDepth 100000 in
theorem signed_any (w0 : World) (q : Nat) (aR : Addr) (s : WS) (r : Option Nat) (z l : Int) (ch pa : List (List Int)) (A B : Option Addr) (n c k d : Nat) (hx : Dgs w0 (.slice A n c) ch) (hp : Dgs w0 (.slice B k d) pa) (hn : n = ch.length) (hk : k = pa.length) (w : World) (H : WrAt w0.heap.size w q aR s r) (hb : Below w0.heap.size w0 w) (hR : w0.cell? ⟨1, 0, none⟩ = some (errV aR)) (h1 : 1 < w0.heap.size) (hlim : Lim s (maxW - 1172)) :
    Calls Tryd.prog 127 #[wrV q, .agg #[.int .i64 z, .int .i64 l, .slice A n c, .slice B k d]] w fun ret w' => ret = .returned (.tuple #[]) ∧ WStep w0.heap.size q aR (sdS ⟨z, l, ch, pa⟩ s) r w w' := by
  have b0 : Below w.heap.size w ((w.alloc (.cells #[.pointer (some ⟨q, 0, none⟩)] 171)).alloc (.cells #[.int .i64 z, .int .i64 l, .slice A n c, .slice B k d] 68)) := (((Below.refl _ _).alloc (Nat.le_refl _) _).alloc (by simp) _)
  have k0 : ((w.alloc (.cells #[.pointer (some ⟨q, 0, none⟩)] 171)).alloc (.cells #[.int .i64 z, .int .i64 l, .slice A n c, .slice B k d] 68)).heap[w.heap.size]? = some (.cells #[.pointer (some ⟨q, 0, none⟩)] 171 (0, 0)) := by
    have := heap_alloc_new w (.cells #[.pointer (some ⟨q, 0, none⟩)] 171)
    have := (Below.heap_alloc (w.alloc (.cells #[.pointer (some ⟨q, 0, none⟩)] 171)) (.cells #[.int .i64 z, .int .i64 l, .slice A n c, .slice B k d] 68) _ (blk_lt this)).trans this
    exact this
  have k1 : ((w.alloc (.cells #[.pointer (some ⟨q, 0, none⟩)] 171)).alloc (.cells #[.int .i64 z, .int .i64 l, .slice A n c, .slice B k d] 68)).heap[w.heap.size + 1]? = some (.cells #[.int .i64 z, .int .i64 l, .slice A n c, .slice B k d] 68 (0, 0)) := by
    have := heap_alloc_new (w.alloc (.cells #[.pointer (some ⟨q, 0, none⟩)] 171)) (.cells #[.int .i64 z, .int .i64 l, .slice A n c, .slice B k d] 68)
    rw [World.size_alloc] at this
    exact this
  have HH := Lib.hid H
  have H0 := Lib.hid (H.below b0)
  have B0 := Lib.hid b0
  have HB := Lib.hid hb
  have RC := Lib.hid hR
  have BB0 := Lib.hid (hb.trans (b0.mono hb.size))
  have K0_0 := Lib.hid k0
  have K1_0 := Lib.hid k1
  have HN := Lib.hid hn
  have HK := Lib.hid hk
  have HX := Lib.hid hx
  have HP := Lib.hid hp
  have HL := Lib.hid hlim
  have cp0 := blk_cell (xs := [.pointer (some ⟨q, 0, none⟩)]) K0_0.out 0 _ rfl
  have c1_0_0 := blk_cell (xs := [.int .i64 z, .int .i64 l, .slice A n c, .slice B k d]) K1_0.out 0 _ rfl
  clear H b0 hb hR k0 k1 hn hk hx hp hlim
  go_enter Tryd.func127, Tryd.ntmps127
  go_wp2_with fail
  refine (number_any w0.heap.size q aR s r z 1 (by omega) _ H0.out (cell_base RC.out BB0.out h1) (by have := BB0.out.size; omega) (HL.out.mono (by unfold maxW; omega))).mono ?_
  rintro _ w1 ⟨rfl, hst1⟩
  have ST1 := Lib.hid hst1
  clear hst1
  obtain ⟨r1, a1, j1⟩ := ST1.out.next
  have A1 := Lib.hid a1
  have J1 := Lib.hid j1
  have BB1 := Lib.hid (BB0.out.trans (ST1.out.below H0.out))
  have K0_1 := Lib.hid (ST1.out.keep HH.out K0_0.out (by omega))
  have K1_1 := Lib.hid (ST1.out.keep HH.out K1_0.out (by omega))
  have RW1 := Lib.hid (blk_range (xs := [.pointer (some ⟨q, 0, none⟩)]) K0_1.out)
  have RS1 := Lib.hid (blk_mid (pre := [.int .i64 z]) (ys := [.int .i64 l, .slice A n c, .slice B k d]) (post := []) K1_1.out rfl)
  clear a1 j1 cp0 c1_0_0
  go_wp2_with (first | (refine wpList_load_g rfl 171 (.tmp 2) rfl w.heap.size 0 rfl [.pointer (some ⟨q, 0, none⟩)] _ RW1.out Tryd.underlying171 rfl Tryd.size171 ?_) | (refine wpList_load_g rfl 66 (.tmp 10) rfl (w.heap.size + 1) 1 rfl [.int .i64 l, .slice A n c, .slice B k d] _ RS1.out Tryd.underlying66 rfl Tryd.size66 ?_))
  refine (sig_any w0 q aR (numS z 1 s) r1 l ch pa A B n c k d HX.out HP.out HN.out HK.out _ A1.out BB1.out RC.out h1 ((HL.out.num z 1).mono (by unfold maxW; omega))).mono ?_
  rintro _ w2 ⟨rfl, hst2⟩
  have ST2 := Lib.hid (J1.out _ _ hst2)
  clear hst2
  go_wp2_with fail
  go_end0
  exact ⟨rfl, WStep.then_ (Only.of_below B0.out) (.inl rfl) ST2.out⟩

set_option maxHeartbeats 8000000 in
set_option maxRecDepth 100000 in
theorem qc1_any (w0 : World) (q : Nat) (aR : Addr) (s : WS) (r : Option Nat) (z l : Int) (ch pa : List (List Int)) (A B : Option Addr) (n c k d : Nat) (hx : Dgs w0 (.slice A n c) ch) (hp : Dgs w0 (.slice B k d) pa) (hn : n = ch.length) (hk : k = pa.length) (w : World) (H : WrAt w0.heap.size w q aR s r) (hb : Below w0.heap.size w0 w) (hR : w0.cell? ⟨1, 0, none⟩ = some (errV aR)) (h1 : 1 < w0.heap.size) (hlim : Lim s (maxW - 1172)) :
    Calls Tryd.prog 126 #[.pointer (some ⟨q, 0, none⟩), .agg #[.int .i64 z, .int .i64 l, .slice A n c, .slice B k d]] w fun ret w' => ret = .returned (.tuple #[]) ∧ WStep w0.heap.size q aR (sdS ⟨z, l, ch, pa⟩ s) r w w' := by
  have b0 : Below w.heap.size w (w.alloc (.cells #[.int .i64 z, .int .i64 l, .slice A n c, .slice B k d] 68)) := ((Below.refl _ _).alloc (Nat.le_refl _) _)
  have k0 : (w.alloc (.cells #[.int .i64 z, .int .i64 l, .slice A n c, .slice B k d] 68)).heap[w.heap.size]? = some (.cells #[.int .i64 z, .int .i64 l, .slice A n c, .slice B k d] 68 (0, 0)) := by
    have := heap_alloc_new w (.cells #[.int .i64 z, .int .i64 l, .slice A n c, .slice B k d] 68)
    exact this
  have HH := Lib.hid H
  have H0 := Lib.hid (H.below b0)
  have B0 := Lib.hid b0
  have HB := Lib.hid hb
  have RC := Lib.hid hR
  have BB0 := Lib.hid (hb.trans (b0.mono hb.size))
  have K0_0 := Lib.hid k0
  have HN := Lib.hid hn
  have HK := Lib.hid hk
  have HX := Lib.hid hx
  have HP := Lib.hid hp
  have HL := Lib.hid hlim
  have RS0 := Lib.hid (blk_range (xs := [.int .i64 z, .int .i64 l, .slice A n c, .slice B k d]) K0_0.out)
  clear H b0 hb hR k0 hn hk hx hp hlim
  go_enter Tryd.func126, Tryd.ntmps126
  go_wp2_with (refine wpList_load_g rfl 68 (.tmp 3) rfl w.heap.size 0 rfl [.int .i64 z, .int .i64 l, .slice A n c, .slice B k d] _ RS0.out Tryd.underlying68 rfl Tryd.size68 ?_)
  refine (signed_any w0 q aR s r z l ch pa A B n c k d HX.out HP.out HN.out HK.out _ H0.out BB0.out RC.out h1 HL.out).mono ?_
  rintro _ w1 ⟨rfl, hst1⟩
  have ST1 := Lib.hid hst1
  clear hst1
  go_wp2_with fail
  go_end0
  exact ⟨rfl, WStep.then_ (Only.of_below B0.out) (.inl rfl) ST1.out⟩

set_option maxHeartbeats 8000000 in
set_option maxRecDepth 100000 in
theorem put125_any (w0 : World) (q : Nat) (aR : Addr) (s : WS) (r : Option Nat) (most : Nat) (hmost : most ≤ 255) (xs : List Sd) (A : Option Addr) (n c : Nat) (hx : Sgs w0 (.slice A n c) xs) (hn : n = xs.length) (w : World) (H : WrAt w0.heap.size w q aR s r) (hb : Below w0.heap.size w0 w) (hR : w0.cell? ⟨1, 0, none⟩ = some (errV aR)) (h1 : 1 < w0.heap.size) (hlim : Lim s (maxW - (1 + most * 1172))) (hmx : most * 1172 ≤ 10000000) :
    Calls Tryd.prog 125 #[.pointer (some ⟨q, 0, none⟩), .slice A n c, .int .i64 most, .func (.func 126) #[] #[]] w fun e w' => e = .returned (.tuple #[]) ∧ WStep w0.heap.size q aR (putS most sdS xs s) r w w' := by
  have H0 := Lib.hid H
  have HX := Lib.hid hx
  have HN := Lib.hid hn
  have HB := Lib.hid hb
  have RE := Lib.hid (cell_base hR hb h1)
  have RC := Lib.hid hR
  have HL := Lib.hid hlim
  clear H hx hn hb hR hlim
  by_cases hmn : most < n
  · have hmi : (most : Int) < n := by omega
    have PB : Hid (putS most sdS xs s = none) := Lib.hid (by unfold putS; rw [if_pos (by rw [← HN.out]; exact hmn)])
    go_enter Tryd.func125, Tryd.ntmps125
    go_wp2_with fail
    refine wp_region_rely3 (by kernel_rfl) 4 (by kernel_rfl) (by kernel_rfl) Ext Ext.refl Ext.trans (fun ix => match ix with
      | 0 => fun _ v => v = .pointer (some ⟨q, 0, none⟩)
      | 1 => fun _ v => v = .pointer (some ⟨q, 0, none⟩)
      | 2 => fun _ v => v = .pointer (some ⟨q, 0, none⟩)
      | 3 => fun _ v => v = errV aR
      | _ => fun _ _ => False) ?_
    simp (maxSteps := 10000000) only [Rely, List.take_succ_cons, List.take_zero, List.drop_succ_cons, List.drop_zero, Nat.reduceAdd, Nat.zero_add, Act.put, List.setIfInBounds_toArray, List.set_cons_succ, List.set_cons_zero]
    refine ⟨?_, ?_, ?_, ?_, ?_⟩
    · refine step_plain rfl fun rv wq hE hd => ?_
      exact gives_move _ (.pointer (some ⟨q, 0, none⟩)) (.inl rfl) rfl ⟨Ext.refl _, fun _ _ => rfl⟩
    · refine step_plain rfl fun rv wq hE hd => ?_
      exact gives_nilCheck _ rfl ⟨q, 0, none⟩ (show rv 0 = _ from hd.1) ⟨Ext.refl _, fun _ _ => rfl⟩
    · refine step_plain rfl fun rv wq hE hd => ?_
      exact gives_fieldAddr' 209 _ 0 rfl (.pointer (some ⟨q, 0, none⟩)) _ (show rv 1 = _ from hd.1) (by go_simp) ⟨Ext.refl _, fun _ _ => rfl⟩
    · refine step_plain rfl fun rv wq hE hd => ?_
      have hc := cell_on (ext_of_drew hE) RE.out
      exact gives_loadAt 29 _ rfl (.pointer (some ⟨1, 0, none⟩)) (errV aR) rfl (by go_simp) ⟨Ext.refl _, fun _ _ => rfl⟩
    · intro rv wq hE hR
      have h0 : rv 2 = .pointer (some ⟨q, 0, none⟩) := hR 2 (by omega)
      have h3 : rv 3 = errV aR := hR 3 (by omega)
      rw [h0, h3]
      have BE := Lib.hid (ext_of_drew hE)
      clear hR hE h0 h3
      go_wp2_with fail
      refine (fail_any w0.heap.size q aR s r wq (H0.out.below BE.out)).mono ?_
      rintro _ w2 ⟨rfl, hst⟩
      go_wp2_with fail
      refine bodyPost_ret (results_none rfl _ _ _) rfl ⟨rfl, ?_⟩
      rw [PB.out]
      exact WStep.then_ (Only.of_below BE.out) (.inl rfl) hst
  have hmi : ¬ (most : Int) < n := by omega
  have hmj : ¬ (255 : Int) < n := by omega
  go_enter Tryd.func125, Tryd.ntmps125
  go_wp2_with fail
  refine (number_any w0.heap.size q aR s r n 1 (by omega) w H0.out RE.out (by have := HB.out.size; omega) (HL.out.mono (by unfold maxW; omega))).mono ?_
  rintro _ w1 ⟨rfl, hst1⟩
  have HS1 := Lib.hid hst1
  obtain ⟨st, hst⟩ : ∃ st : Nat → WS, st = fun i => (xs.take i).foldl (fun s x => sdS x s) (numS n 1 s) := ⟨_, rfl⟩
  have hs0 : numS n 1 s = st 0 := by rw [hst]; rfl
  have hsn : putS most sdS xs s = st n := by
    rw [hst]
    unfold putS
    rw [if_neg (by rw [← HN.out]; exact hmn)]
    dsimp only
    rw [HN.out, List.take_length]
  have hlm : ∀ i, i ≤ n → Lim (st i) (maxW - (most - i) * 1172) := fun i hi => by
    rw [hst]
    dsimp only
    refine (Lim.foldP (c := 1172) Lim.sd (xs.take i) (fun x hx => HX.out.ok x (List.mem_of_mem_take hx)) _ _ (HL.out.num n 1)).mono ?_
    rw [List.length_take, ← HN.out, Nat.min_eq_left hi]
    have e1 : most * 1172 = i * 1172 + (most - i) * 1172 := by rw [← Nat.add_mul]; congr 1; omega
    unfold maxW at *
    omega
  have hss : ∀ i (hi : i < xs.length), st (i + 1) = sdS (xs.getD i Sd.none) (st i) := fun i hi => by
    rw [hst]
    dsimp only
    rw [List.take_succ_eq_append_getElem hi, List.foldl_append, List.getD_eq_getElem?_getD, List.getElem?_eq_getElem hi]
    rfl
  rw [hs0] at HS1
  have HSN := Lib.hid hsn
  have HLM := Lib.hid hlm
  have HSS := Lib.hid hss
  clear hst1 hs0 hsn hlm hss hst
  go_wp2_with fail
  go_loopw [9, 30] (fun _ k wr => ∃ (i : Nat), i ≤ n ∧ k = .int .i64 i ∧ Hid (WStep w0.heap.size q aR (st i) r w wr))
    (fun _ k _ => n - (intOf k).toNat)
  case atStart => exact ⟨0, by omega, rfl, HS1⟩
  case round =>
    obtain ⟨i, hi, rfl, hstp⟩ := hrel
    by_cases hlt : i < n
    · have hil : (i : Int) < n := by omega
      have hix : i < xs.length := by rw [← HN.out]; exact hlt
      have hbel := hstp.out.below H0.out
      have BR := Lib.hid (HB.out.trans hbel)
      obtain ⟨r1, hw1, hk1⟩ := hstp.out.next
      have HW1 := Lib.hid hw1
      have HK1 := Lib.hid hk1
      have HSI := Lib.hid (HSS.out i hix)
      have HLI := Lib.hid ((HLM.out i hi).mono (show maxW - (most - i) * 1172 ≤ maxW - 1172 by have : 1172 ≤ (most - i) * 1172 := Nat.le_mul_of_pos_left _ (by omega); omega))
      clear hw1 hk1 hbel
      obtain ⟨bb, oo, cs, rfl, _, hrg, hsd⟩ := HX.out.el i hlt
      obtain ⟨X, hX⟩ : ∃ X, X = xs.getD i Sd.none := ⟨_, rfl⟩
      rw [← hX] at hsd HSI
      obtain ⟨z, l, ch, pa⟩ := X
      obtain ⟨A1, c1, B1, d1, rfl, hch, hpa⟩ := hsd.ex
      dsimp only at hch hpa hrg
      have RG := Lib.hid (range_below hrg BR.out)
      have HCL : Hid ([Value.int .i64 z, .int .i64 l, .slice A1 ch.length c1, .slice B1 pa.length d1].length = 4) := Lib.hid rfl
      have HCH := Lib.hid hch
      have HPA := Lib.hid hpa
      clear hrg hX hsd hch hpa
      have hh : ∀ Z : Array Value, Z.size = 4 → Has (wr.alloc (.cells Z 68)) wr.heap.size 68 ([Value.int .i64 z, .int .i64 l, .slice A1 ch.length c1, .slice B1 pa.length d1]).length := fun Z hZ => has_new wr _ _ _ (by rw [hZ]; exact HCL.out.symm)
      have HH := Lib.hid hh
      clear hh
      go_wp2_with (first | (refine wpList_load_g rfl 68 (.tmp 32) rfl bb (oo + i * 4) rfl ([Value.int .i64 z, .int .i64 l, .slice A1 ch.length c1, .slice B1 pa.length d1]) _ RG.out Tryd.underlying68 rfl (by rw [HCL.out]; exact Tryd.size68) ?_) | (refine wpList_store_row rfl 68 (.tmp 9) (.tmp 33) rfl wr.heap.size rfl ([Value.int .i64 z, .int .i64 l, .slice A1 ch.length c1, .slice B1 pa.length d1]) rfl 68 (HH.out _ rfl) (by rw [HCL.out]; exact Tryd.size68) (one_sd _ _ _ _ _ _ _ _) ?_; intro w2 hp2; have BL := Lib.hid (show Below wr.heap.size wr w2 from hp2.below ((Below.refl _ _).alloc (Nat.le_refl _) _) (Nat.le_refl _)); have RG2 := Lib.hid (blk_range hp2.blk); clear hp2) | (refine wpList_load_g rfl 68 (.tmp 9) rfl wr.heap.size 0 rfl ([Value.int .i64 z, .int .i64 l, .slice A1 ch.length c1, .slice B1 pa.length d1]) _ RG2.out Tryd.underlying68 rfl (by rw [HCL.out]; exact Tryd.size68) ?_))
      refine (qc1_any w0 q aR (st i) r1 z l ch pa A1 B1 ch.length c1 pa.length d1 HCH.out HPA.out rfl rfl w2 (HW1.out.below BL.out) (BR.out.trans (BL.out.mono BR.out.size)) RC.out h1 HLI.out).mono ?_
      rintro _ w3 ⟨rfl, hst3⟩
      have HST := Lib.hid hst3
      clear hst3
      go_wp2_with fail
      go_roundw
      case rel => exact ⟨i + 1, by omega, by go_num, Lib.hid (by rw [HSI.out]; exact HK1.out _ _ (WStep.then_ (Only.of_below BL.out) (.inl rfl) HST.out))⟩
      case measure => simp [intOf]; omega
    · obtain rfl : i = n := by omega
      go_wp2
      go_end0
      exact ⟨rfl, by rw [HSN.out]; exact hstp.out⟩
end Go.Proofs.YtniknhhejlgdfaaDoor
/- Blocks are written. -/
namespace Go.Proofs.YtniknhhejlgdfaaDoor
open Go.RowKit

theorem Lim.qc {q : Qc} (h : ∀ x ∈ q.votes, SdOk x) (hb : q.block.length = 16) {s : WS} {m : Nat} (hs : Lim s m) : Lim (qcS q s) (m + 8231) := by
  unfold qcS
  exact (Lim.putP Lim.sd h (Lim.dg _ hb _ _ ((hs.num q.epoch 4).num q.round 6))).mono (by omega)
theorem Lim.va (x : Va) (hx : x.1.length = 16) (s : WS) (m : Nat) (h : Lim s m) : Lim (vaS x s) (m + 22) := by
  unfold vaS
  exact ((Lim.dg _ hx _ _ h).num x.2 6).mono (by omega)

set_option maxHeartbeats 8000000 in
set_option maxRecDepth 100000 in
theorem wqc_any (w0 : World) (q : Nat) (aR : Addr) (s : WS) (r : Option Nat) (e n : Int) (bl : List Int) (hbl : bl.length = 16) (hbo : u8s_ok bl) (xs : List Sd) (A : Option Addr) (k c : Nat) (hx : Sgs w0 (.slice A k c) xs) (hk : k = xs.length) (w : World) (H : WrAt w0.heap.size w q aR s r) (hb : Below w0.heap.size w0 w) (hR : w0.cell? ⟨1, 0, none⟩ = some (errV aR)) (h1 : 1 < w0.heap.size) (hlim : Lim s (maxW - 8231)) :
    Calls Tryd.prog 109 #[wrV q, .agg (qcC e n bl (.slice A k c)).toArray] w fun ret w' => ret = .returned (.tuple #[]) ∧ WStep w0.heap.size q aR (qcS ⟨e, n, bl, xs⟩ s) r w w' := by
  have b0 : Below w.heap.size w ((w.alloc (.cells #[.pointer (some ⟨q, 0, none⟩)] 171)).alloc (.cells (qcC e n bl (.slice A k c)).toArray 37)) := (((Below.refl _ _).alloc (Nat.le_refl _) _).alloc (by simp) _)
  have k0 : ((w.alloc (.cells #[.pointer (some ⟨q, 0, none⟩)] 171)).alloc (.cells (qcC e n bl (.slice A k c)).toArray 37)).heap[w.heap.size]? = some (.cells #[.pointer (some ⟨q, 0, none⟩)] 171 (0, 0)) := by
    have := heap_alloc_new w (.cells #[.pointer (some ⟨q, 0, none⟩)] 171)
    have := (Below.heap_alloc (w.alloc (.cells #[.pointer (some ⟨q, 0, none⟩)] 171)) (.cells (qcC e n bl (.slice A k c)).toArray 37) _ (blk_lt this)).trans this
    exact this
  have k1 : ((w.alloc (.cells #[.pointer (some ⟨q, 0, none⟩)] 171)).alloc (.cells (qcC e n bl (.slice A k c)).toArray 37)).heap[w.heap.size + 1]? = some (.cells (qcC e n bl (.slice A k c)).toArray 37 (0, 0)) := by
    have := heap_alloc_new (w.alloc (.cells #[.pointer (some ⟨q, 0, none⟩)] 171)) (.cells (qcC e n bl (.slice A k c)).toArray 37)
    rw [World.size_alloc] at this
    exact this
  have HH := Lib.hid H
  have H0 := Lib.hid (H.below b0)
  have B0 := Lib.hid b0
  have HB := Lib.hid hb
  have RC := Lib.hid hR
  have BB0 := Lib.hid (hb.trans (b0.mono hb.size))
  have K0_0 := Lib.hid k0
  have K1_0 := Lib.hid k1
  have HK := Lib.hid hk
  have HX := Lib.hid hx
  have HL := Lib.hid hlim
  have HBL := Lib.hid hbl
  have HBO := Lib.hid hbo
  have RW0 := Lib.hid (blk_range (xs := [.pointer (some ⟨q, 0, none⟩)]) K0_0.out)
  have c1_0_0 := blk_cell (xs := (qcC e n bl (.slice A k c))) K1_0.out 0 _ rfl
  have c1_1_0 := blk_cell (xs := (qcC e n bl (.slice A k c))) K1_0.out 1 _ rfl
  clear H b0 hb hR k0 k1 hx hk hlim hbl hbo
  go_enter Tryd.func109, Tryd.ntmps109
  go_wp2_with (refine wpList_load_g rfl 171 (.tmp 2) rfl w.heap.size 0 rfl [.pointer (some ⟨q, 0, none⟩)] _ RW0.out Tryd.underlying171 rfl Tryd.size171 ?_)
  refine (wat_any w0.heap.size q aR s r e n _ H0.out (cell_base RC.out BB0.out h1) h1 (HL.out.mono (by unfold maxW; omega))).mono ?_
  rintro _ w1 ⟨rfl, hst1⟩
  have ST1 := Lib.hid hst1
  clear hst1
  obtain ⟨r1, a1, j1⟩ := ST1.out.next
  have A1 := Lib.hid a1
  have J1 := Lib.hid j1
  have BB1 := Lib.hid (BB0.out.trans (ST1.out.below H0.out))
  have K0_1 := Lib.hid (ST1.out.keep HH.out K0_0.out (by omega))
  have K1_1 := Lib.hid (ST1.out.keep HH.out K1_0.out (by omega))
  have RW1 := Lib.hid (blk_range (xs := [.pointer (some ⟨q, 0, none⟩)]) K0_1.out)
  have RQ1 := Lib.hid (qc_2 K1_1.out)
  clear a1 j1 c1_0_0 c1_1_0
  go_wp2_with (first | (refine wpList_load_g rfl 171 (.tmp 2) rfl w.heap.size 0 rfl [.pointer (some ⟨q, 0, none⟩)] _ RW1.out Tryd.underlying171 rfl Tryd.size171 ?_) | (refine wpList_load_g rfl 24 (.tmp 11) rfl (w.heap.size + 1) 2 rfl (u8s bl) _ RQ1.out Tryd.underlying24 rfl (by rw [u8s_len', HBL.out]; exact Tryd.size24) ?_))
  refine (digest_any w0.heap.size q aR (numS n 6 (numS e 4 s)) r1 bl HBL.out HBO.out _ A1.out (((HL.out.num e 4).num n 6).mono (by unfold maxW; omega))).mono ?_
  rintro _ w2 ⟨rfl, hst2⟩
  have ST2 := Lib.hid (J1.out _ _ hst2)
  clear hst2
  obtain ⟨r2, a2, j2⟩ := ST2.out.next
  have A2 := Lib.hid a2
  have J2 := Lib.hid j2
  have BB2 := Lib.hid (BB0.out.trans (ST2.out.below H0.out))
  have K0_2 := Lib.hid (ST2.out.keep HH.out K0_0.out (by omega))
  have K1_2 := Lib.hid (ST2.out.keep HH.out K1_0.out (by omega))
  have cp2 := blk_cell (xs := [.pointer (some ⟨q, 0, none⟩)]) K0_2.out 0 _ rfl
  have c18_2 := qc_3 HBL.out K1_2.out
  clear a2 j2 
  go_wp2_with fail
  refine (put125_any w0 q aR (fixS bl (numS n 6 (numS e 4 s))) r2 7 (by omega) xs A k c HX.out HK.out _ A2.out BB2.out RC.out h1 ((Lim.dg _ HBL.out _ _ ((HL.out.num e 4).num n 6)).mono (by unfold maxW; omega)) (by omega)).mono ?_
  rintro _ w3 ⟨rfl, hst3⟩
  have ST3 := Lib.hid (J2.out _ _ hst3)
  clear hst3
  go_wp2_with fail
  go_end0
  exact ⟨rfl, WStep.then_ (Only.of_below B0.out) (.inl rfl) ST3.out⟩

set_option maxHeartbeats 8000000 in
set_option maxRecDepth 100000 in
theorem wbytes_any (w0 : World) (q : Nat) (aR : Addr) (s : WS) (r : Option Nat) (t : List Int) (A : Option Addr) (n c : Nat) (hx : Bs w0 (.slice A n c) t) (w : World) (H : WrAt w0.heap.size w q aR s r) (hb : Below w0.heap.size w0 w) (hR : w0.cell? ⟨1, 0, none⟩ = some (errV aR)) (h1 : 1 < w0.heap.size) (hlim : Lim s (maxW - 18)) :
    Calls Tryd.prog 112 #[.pointer (some ⟨q, 0, none⟩), .slice A n c, .int .i64 16] w fun e w' => e = .returned (.tuple #[]) ∧ WStep w0.heap.size q aR (txS t s) r w w' := by
  have H0 := Lib.hid H
  have HX := Lib.hid hx
  have HN := Lib.hid hx.len
  have HB := Lib.hid hb
  have RE := Lib.hid (cell_base hR hb h1)
  have HL := Lib.hid hlim
  clear H hx hb hR hlim
  by_cases hmn : 16 < n
  · have hmi : (16 : Int) < n := by omega
    have PB : Hid (txS t s = none) := Lib.hid (by unfold txS; rw [if_pos (by rw [← HN.out]; exact hmn)])
    go_enter Tryd.func112, Tryd.ntmps112
    go_wp2_with fail
    refine wp_region_rely3 (by kernel_rfl) 4 (by kernel_rfl) (by kernel_rfl) Ext Ext.refl Ext.trans (fun ix => match ix with
      | 0 => fun _ v => v = .pointer (some ⟨q, 0, none⟩)
      | 1 => fun _ v => v = .pointer (some ⟨q, 0, none⟩)
      | 2 => fun _ v => v = .pointer (some ⟨q, 0, none⟩)
      | 3 => fun _ v => v = errV aR
      | _ => fun _ _ => False) ?_
    simp (maxSteps := 10000000) only [Rely, List.take_succ_cons, List.take_zero, List.drop_succ_cons, List.drop_zero, Nat.reduceAdd, Nat.zero_add, Act.put, List.setIfInBounds_toArray, List.set_cons_succ, List.set_cons_zero]
    refine ⟨?_, ?_, ?_, ?_, ?_⟩
    · refine step_plain rfl fun rv wq hE hd => ?_
      exact gives_move _ (.pointer (some ⟨q, 0, none⟩)) (.inl rfl) rfl ⟨Ext.refl _, fun _ _ => rfl⟩
    · refine step_plain rfl fun rv wq hE hd => ?_
      exact gives_nilCheck _ rfl ⟨q, 0, none⟩ (show rv 0 = _ from hd.1) ⟨Ext.refl _, fun _ _ => rfl⟩
    · refine step_plain rfl fun rv wq hE hd => ?_
      exact gives_fieldAddr' 209 _ 0 rfl (.pointer (some ⟨q, 0, none⟩)) _ (show rv 1 = _ from hd.1) (by go_simp) ⟨Ext.refl _, fun _ _ => rfl⟩
    · refine step_plain rfl fun rv wq hE hd => ?_
      have hc := cell_on (ext_of_drew hE) RE.out
      exact gives_loadAt 29 _ rfl (.pointer (some ⟨1, 0, none⟩)) (errV aR) rfl (by go_simp) ⟨Ext.refl _, fun _ _ => rfl⟩
    · intro rv wq hE hR
      have h0 : rv 2 = .pointer (some ⟨q, 0, none⟩) := hR 2 (by omega)
      have h3 : rv 3 = errV aR := hR 3 (by omega)
      rw [h0, h3]
      have BE := Lib.hid (ext_of_drew hE)
      clear hR hE h0 h3
      go_wp2_with fail
      refine (fail_any w0.heap.size q aR s r wq (H0.out.below BE.out)).mono ?_
      rintro _ w2 ⟨rfl, hst⟩
      go_wp2_with fail
      refine bodyPost_ret (results_none rfl _ _ _) rfl ⟨rfl, ?_⟩
      rw [PB.out]
      exact WStep.then_ (Only.of_below BE.out) (.inl rfl) hst
  have hmi : ¬ (16 : Int) < n := by omega
  have hmj : ¬ (65535 : Int) < n := by omega
  have PB : Hid (txS t s = fixS t (numS n 2 s)) := Lib.hid (by unfold txS; rw [if_neg (by rw [← HN.out]; exact hmn), HN.out])
  go_enter Tryd.func112, Tryd.ntmps112
  go_wp2_with fail
  refine (number_any w0.heap.size q aR s r n 2 (by omega) w H0.out RE.out (by have := HB.out.size; omega) (HL.out.mono (by unfold maxW; omega))).mono ?_
  rintro _ w1 ⟨rfl, hst1⟩
  have HS1 := Lib.hid hst1
  obtain ⟨r1, a1, j1⟩ := hst1.next
  have A1 := Lib.hid a1
  have J1 := Lib.hid j1
  have BR := Lib.hid (HB.out.trans (hst1.below H0.out))
  clear hst1 a1 j1
  go_wp2_with fail
  refine (fixed_any w0.heap.size q aR (numS n 2 s) r1 _ t w1 A1.out (HX.out.below BR.out) ((HL.out.num n 2).mono (by rw [← HN.out]; unfold maxW; omega)) (by rw [← HN.out]; unfold maxW; omega)).mono ?_
  rintro _ w2 ⟨rfl, hst2⟩
  go_wp2_with fail
  go_end0
  exact ⟨rfl, by rw [PB.out]; exact J1.out _ _ hst2⟩

set_option maxHeartbeats 8000000 in
set_option maxRecDepth 100000 in
theorem block1_any (w0 : World) (q : Nat) (aR : Addr) (s : WS) (r : Option Nat) (t : List Int) (A : Option Addr) (n c : Nat) (hx : Bs w0 (.slice A n c) t) (w : World) (H : WrAt w0.heap.size w q aR s r) (hb : Below w0.heap.size w0 w) (hR : w0.cell? ⟨1, 0, none⟩ = some (errV aR)) (h1 : 1 < w0.heap.size) (hlim : Lim s (maxW - 18)) :
    Calls Tryd.prog 111 #[.pointer (some ⟨q, 0, none⟩), .slice A n c] w fun e w' => e = .returned (.tuple #[]) ∧ WStep w0.heap.size q aR (txS t s) r w w' := by
  have HH := Lib.hid (wbytes_any w0 q aR s r t A n c hx w H hb hR h1 hlim)
  clear hx H hb hR hlim
  go_enter Tryd.func111, Tryd.ntmps111
  go_wp2_with fail
  refine HH.out.mono ?_
  rintro _ w2 ⟨rfl, hst2⟩
  go_wp2_with fail
  go_end0
  exact ⟨rfl, hst2⟩

set_option maxHeartbeats 8000000 in
set_option maxRecDepth 100000 in
theorem put110_any (w0 : World) (q : Nat) (aR : Addr) (s : WS) (r : Option Nat) (most : Nat) (hmost : most ≤ 255) (xs : List (List Int)) (A : Option Addr) (n c : Nat) (hx : Bss w0 (.slice A n c) xs) (hn : n = xs.length) (w : World) (H : WrAt w0.heap.size w q aR s r) (hb : Below w0.heap.size w0 w) (hR : w0.cell? ⟨1, 0, none⟩ = some (errV aR)) (h1 : 1 < w0.heap.size) (hlim : Lim s (maxW - (1 + most * 18))) (hmx : most * 18 ≤ 10000000) :
    Calls Tryd.prog 110 #[.pointer (some ⟨q, 0, none⟩), .slice A n c, .int .i64 most, .func (.func 111) #[] #[]] w fun e w' => e = .returned (.tuple #[]) ∧ WStep w0.heap.size q aR (putS most txS xs s) r w w' := by
  have H0 := Lib.hid H
  have HX := Lib.hid hx
  have HN := Lib.hid hn
  have HB := Lib.hid hb
  have RE := Lib.hid (cell_base hR hb h1)
  have RC := Lib.hid hR
  have HL := Lib.hid hlim
  clear H hx hn hb hR hlim
  by_cases hmn : most < n
  · have hmi : (most : Int) < n := by omega
    have PB : Hid (putS most txS xs s = none) := Lib.hid (by unfold putS; rw [if_pos (by rw [← HN.out]; exact hmn)])
    go_enter Tryd.func110, Tryd.ntmps110
    go_wp2_with fail
    refine wp_region_rely3 (by kernel_rfl) 4 (by kernel_rfl) (by kernel_rfl) Ext Ext.refl Ext.trans (fun ix => match ix with
      | 0 => fun _ v => v = .pointer (some ⟨q, 0, none⟩)
      | 1 => fun _ v => v = .pointer (some ⟨q, 0, none⟩)
      | 2 => fun _ v => v = .pointer (some ⟨q, 0, none⟩)
      | 3 => fun _ v => v = errV aR
      | _ => fun _ _ => False) ?_
    simp (maxSteps := 10000000) only [Rely, List.take_succ_cons, List.take_zero, List.drop_succ_cons, List.drop_zero, Nat.reduceAdd, Nat.zero_add, Act.put, List.setIfInBounds_toArray, List.set_cons_succ, List.set_cons_zero]
    refine ⟨?_, ?_, ?_, ?_, ?_⟩
    · refine step_plain rfl fun rv wq hE hd => ?_
      exact gives_move _ (.pointer (some ⟨q, 0, none⟩)) (.inl rfl) rfl ⟨Ext.refl _, fun _ _ => rfl⟩
    · refine step_plain rfl fun rv wq hE hd => ?_
      exact gives_nilCheck _ rfl ⟨q, 0, none⟩ (show rv 0 = _ from hd.1) ⟨Ext.refl _, fun _ _ => rfl⟩
    · refine step_plain rfl fun rv wq hE hd => ?_
      exact gives_fieldAddr' 209 _ 0 rfl (.pointer (some ⟨q, 0, none⟩)) _ (show rv 1 = _ from hd.1) (by go_simp) ⟨Ext.refl _, fun _ _ => rfl⟩
    · refine step_plain rfl fun rv wq hE hd => ?_
      have hc := cell_on (ext_of_drew hE) RE.out
      exact gives_loadAt 29 _ rfl (.pointer (some ⟨1, 0, none⟩)) (errV aR) rfl (by go_simp) ⟨Ext.refl _, fun _ _ => rfl⟩
    · intro rv wq hE hR
      have h0 : rv 2 = .pointer (some ⟨q, 0, none⟩) := hR 2 (by omega)
      have h3 : rv 3 = errV aR := hR 3 (by omega)
      rw [h0, h3]
      have BE := Lib.hid (ext_of_drew hE)
      clear hR hE h0 h3
      go_wp2_with fail
      refine (fail_any w0.heap.size q aR s r wq (H0.out.below BE.out)).mono ?_
      rintro _ w2 ⟨rfl, hst⟩
      go_wp2_with fail
      refine bodyPost_ret (results_none rfl _ _ _) rfl ⟨rfl, ?_⟩
      rw [PB.out]
      exact WStep.then_ (Only.of_below BE.out) (.inl rfl) hst
  have hmi : ¬ (most : Int) < n := by omega
  have hmj : ¬ (255 : Int) < n := by omega
  go_enter Tryd.func110, Tryd.ntmps110
  go_wp2_with fail
  refine (number_any w0.heap.size q aR s r n 1 (by omega) w H0.out RE.out (by have := HB.out.size; omega) (HL.out.mono (by unfold maxW; omega))).mono ?_
  rintro _ w1 ⟨rfl, hst1⟩
  have HS1 := Lib.hid hst1
  obtain ⟨st, hst⟩ : ∃ st : Nat → WS, st = fun i => (xs.take i).foldl (fun s x => txS x s) (numS n 1 s) := ⟨_, rfl⟩
  have hs0 : numS n 1 s = st 0 := by rw [hst]; rfl
  have hsn : putS most txS xs s = st n := by
    rw [hst]
    unfold putS
    rw [if_neg (by rw [← HN.out]; exact hmn)]
    dsimp only
    rw [HN.out, List.take_length]
  have hlm : ∀ i, i ≤ n → Lim (st i) (maxW - (most - i) * 18) := fun i hi => by
    rw [hst]
    dsimp only
    refine (Lim.fold (c := 18) Lim.tx (xs.take i) _ _ (HL.out.num n 1)).mono ?_
    rw [List.length_take, ← HN.out, Nat.min_eq_left hi]
    have e1 : most * 18 = i * 18 + (most - i) * 18 := by rw [← Nat.add_mul]; congr 1; omega
    unfold maxW at *
    omega
  have hss : ∀ i (hi : i < xs.length), st (i + 1) = txS (xs.getD i []) (st i) := fun i hi => by
    rw [hst]
    dsimp only
    rw [List.take_succ_eq_append_getElem hi, List.foldl_append, List.getD_eq_getElem?_getD, List.getElem?_eq_getElem hi]
    rfl
  rw [hs0] at HS1
  have HSN := Lib.hid hsn
  have HLM := Lib.hid hlm
  have HSS := Lib.hid hss
  clear hst1 hs0 hsn hlm hss hst
  go_wp2_with fail
  go_loopw [9, 30] (fun _ k wr => ∃ (i : Nat), i ≤ n ∧ k = .int .i64 i ∧ Hid (WStep w0.heap.size q aR (st i) r w wr))
    (fun _ k _ => n - (intOf k).toNat)
  case atStart => exact ⟨0, by omega, rfl, HS1⟩
  case round =>
    obtain ⟨i, hi, rfl, hstp⟩ := hrel
    by_cases hlt : i < n
    · have hil : (i : Int) < n := by omega
      have hix : i < xs.length := by rw [← HN.out]; exact hlt
      have hbel := hstp.out.below H0.out
      have BR := Lib.hid (HB.out.trans hbel)
      obtain ⟨r1, hw1, hk1⟩ := hstp.out.next
      have HW1 := Lib.hid hw1
      have HK1 := Lib.hid hk1
      have HSI := Lib.hid (HSS.out i hix)
      have HLI := Lib.hid ((HLM.out i hi).mono (show maxW - (most - i) * 18 ≤ maxW - 18 by have : 18 ≤ (most - i) * 18 := Nat.le_mul_of_pos_left _ (by omega); omega))
      clear hw1 hk1 hbel
      obtain ⟨bb, oo, B1, m1, d1, rfl, hrg, hbs⟩ := HX.out.el i hlt
      obtain ⟨X, hX⟩ : ∃ X, X = xs.getD i [] := ⟨_, rfl⟩
      rw [← hX] at hbs HSI
      have HBS := Lib.hid hbs
      have hrg2 := cell_on BR.out hrg
      clear hrg hX hbs
      go_wp2_with fail
      refine (block1_any w0 q aR (st i) r1 X B1 m1 d1 HBS.out wr HW1.out BR.out RC.out h1 HLI.out).mono ?_
      rintro _ w3 ⟨rfl, hst3⟩
      have HST := Lib.hid hst3
      clear hst3
      go_wp2_with fail
      go_roundw
      case rel => exact ⟨i + 1, by omega, by go_num, Lib.hid (by rw [HSI.out]; exact HK1.out _ _ HST.out)⟩
      case measure => simp [intOf]; omega
    · obtain rfl : i = n := by omega
      go_wp2
      go_end0
      exact ⟨rfl, by rw [HSN.out]; exact hstp.out⟩

set_option maxHeartbeats 8000000 in
set_option maxRecDepth 100000 in
theorem block2_any (w0 : World) (q : Nat) (aR : Addr) (s : WS) (r : Option Nat) (x : Va) (hk : x.1.length = 16) (ho : u8s_ok x.1) (w : World) (H : WrAt w0.heap.size w q aR s r) (hb : Below w0.heap.size w0 w) (hR : w0.cell? ⟨1, 0, none⟩ = some (errV aR)) (h1 : 1 < w0.heap.size) (hlim : Lim s (maxW - 22)) :
    Calls Tryd.prog 114 #[.pointer (some ⟨q, 0, none⟩), .agg (vcells x).toArray] w fun ret w' => ret = .returned (.tuple #[]) ∧ WStep w0.heap.size q aR (vaS x s) r w w' := by
  have b0 : Below w.heap.size w (w.alloc (.cells (vcells x).toArray 45)) := ((Below.refl _ _).alloc (Nat.le_refl _) _)
  have k0 : (w.alloc (.cells (vcells x).toArray 45)).heap[w.heap.size]? = some (.cells (vcells x).toArray 45 (0, 0)) := by
    have := heap_alloc_new w (.cells (vcells x).toArray 45)
    exact this
  have HH := Lib.hid H
  have H0 := Lib.hid (H.below b0)
  have B0 := Lib.hid b0
  have HB := Lib.hid hb
  have RC := Lib.hid hR
  have BB0 := Lib.hid (hb.trans (b0.mono hb.size))
  have K0_0 := Lib.hid k0
  have HL := Lib.hid hlim
  have HK := Lib.hid hk
  have HO := Lib.hid ho
  have RV0 := Lib.hid (vcells_key (blk_range (xs := (vcells x)) K0_0.out))
  clear H b0 hb hR k0 hlim hk ho
  go_enter Tryd.func114, Tryd.ntmps114
  go_wp2_with (refine wpList_load_g rfl 24 (.tmp 5) rfl w.heap.size 0 rfl (u8s x.1) _ RV0.out Tryd.underlying24 rfl (by rw [u8s_len', HK.out]; exact Tryd.size24) ?_)
  refine (putDigest_any w0.heap.size q aR s r x.1 HK.out HO.out _ H0.out (HL.out.mono (by unfold maxW; omega))).mono ?_
  rintro _ w1 ⟨rfl, hst1⟩
  have ST1 := Lib.hid hst1
  clear hst1
  obtain ⟨r1, a1, j1⟩ := ST1.out.next
  have A1 := Lib.hid a1
  have J1 := Lib.hid j1
  have BB1 := Lib.hid (BB0.out.trans (ST1.out.below H0.out))
  have K0_1 := Lib.hid (ST1.out.keep HH.out K0_0.out (by omega))
  have c16_1 := vcells_pow HK.out (blk_range (xs := (vcells x)) K0_1.out)
  clear a1 j1 
  go_wp2_with fail
  refine (number_any w0.heap.size q aR (fixS x.1 s) r1 x.2 6 (by omega) _ A1.out (cell_base RC.out BB1.out h1) (by have := BB1.out.size; omega) ((Lim.dg _ HK.out _ _ HL.out).mono (by unfold maxW; omega))).mono ?_
  rintro _ w2 ⟨rfl, hst2⟩
  have ST2 := Lib.hid (J1.out _ _ hst2)
  clear hst2
  go_wp2_with fail
  go_end0
  exact ⟨rfl, WStep.then_ (Only.of_below B0.out) (.inl rfl) ST2.out⟩

set_option maxHeartbeats 8000000 in
set_option maxRecDepth 100000 in
theorem put113_any (w0 : World) (q : Nat) (aR : Addr) (s : WS) (r : Option Nat) (most : Nat) (hmost : most ≤ 255) (xs : List Va) (A : Option Addr) (n c : Nat) (hx : Vals w0 (.slice A n c) xs) (hn : n = xs.length) (hg : ∀ x ∈ xs, u8s_ok x.1) (w : World) (H : WrAt w0.heap.size w q aR s r) (hb : Below w0.heap.size w0 w) (hR : w0.cell? ⟨1, 0, none⟩ = some (errV aR)) (h1 : 1 < w0.heap.size) (hlim : Lim s (maxW - (1 + most * 22))) (hmx : most * 22 ≤ 10000000) :
    Calls Tryd.prog 113 #[.pointer (some ⟨q, 0, none⟩), .slice A n c, .int .i64 most, .func (.func 114) #[] #[]] w fun e w' => e = .returned (.tuple #[]) ∧ WStep w0.heap.size q aR (putS most vaS xs s) r w w' := by
  have H0 := Lib.hid H
  have HX := Lib.hid hx
  have HG := Lib.hid hg
  have HN := Lib.hid hn
  have HB := Lib.hid hb
  have RE := Lib.hid (cell_base hR hb h1)
  have RC := Lib.hid hR
  have HL := Lib.hid hlim
  clear H hx hn hb hR hlim hg
  by_cases hmn : most < n
  · have hmi : (most : Int) < n := by omega
    have PB : Hid (putS most vaS xs s = none) := Lib.hid (by unfold putS; rw [if_pos (by rw [← HN.out]; exact hmn)])
    go_enter Tryd.func113, Tryd.ntmps113
    go_wp2_with fail
    refine wp_region_rely3 (by kernel_rfl) 4 (by kernel_rfl) (by kernel_rfl) Ext Ext.refl Ext.trans (fun ix => match ix with
      | 0 => fun _ v => v = .pointer (some ⟨q, 0, none⟩)
      | 1 => fun _ v => v = .pointer (some ⟨q, 0, none⟩)
      | 2 => fun _ v => v = .pointer (some ⟨q, 0, none⟩)
      | 3 => fun _ v => v = errV aR
      | _ => fun _ _ => False) ?_
    simp (maxSteps := 10000000) only [Rely, List.take_succ_cons, List.take_zero, List.drop_succ_cons, List.drop_zero, Nat.reduceAdd, Nat.zero_add, Act.put, List.setIfInBounds_toArray, List.set_cons_succ, List.set_cons_zero]
    refine ⟨?_, ?_, ?_, ?_, ?_⟩
    · refine step_plain rfl fun rv wq hE hd => ?_
      exact gives_move _ (.pointer (some ⟨q, 0, none⟩)) (.inl rfl) rfl ⟨Ext.refl _, fun _ _ => rfl⟩
    · refine step_plain rfl fun rv wq hE hd => ?_
      exact gives_nilCheck _ rfl ⟨q, 0, none⟩ (show rv 0 = _ from hd.1) ⟨Ext.refl _, fun _ _ => rfl⟩
    · refine step_plain rfl fun rv wq hE hd => ?_
      exact gives_fieldAddr' 209 _ 0 rfl (.pointer (some ⟨q, 0, none⟩)) _ (show rv 1 = _ from hd.1) (by go_simp) ⟨Ext.refl _, fun _ _ => rfl⟩
    · refine step_plain rfl fun rv wq hE hd => ?_
      have hc := cell_on (ext_of_drew hE) RE.out
      exact gives_loadAt 29 _ rfl (.pointer (some ⟨1, 0, none⟩)) (errV aR) rfl (by go_simp) ⟨Ext.refl _, fun _ _ => rfl⟩
    · intro rv wq hE hR
      have h0 : rv 2 = .pointer (some ⟨q, 0, none⟩) := hR 2 (by omega)
      have h3 : rv 3 = errV aR := hR 3 (by omega)
      rw [h0, h3]
      have BE := Lib.hid (ext_of_drew hE)
      clear hR hE h0 h3
      go_wp2_with fail
      refine (fail_any w0.heap.size q aR s r wq (H0.out.below BE.out)).mono ?_
      rintro _ w2 ⟨rfl, hst⟩
      go_wp2_with fail
      refine bodyPost_ret (results_none rfl _ _ _) rfl ⟨rfl, ?_⟩
      rw [PB.out]
      exact WStep.then_ (Only.of_below BE.out) (.inl rfl) hst
  have hmi : ¬ (most : Int) < n := by omega
  have hmj : ¬ (255 : Int) < n := by omega
  go_enter Tryd.func113, Tryd.ntmps113
  go_wp2_with fail
  refine (number_any w0.heap.size q aR s r n 1 (by omega) w H0.out RE.out (by have := HB.out.size; omega) (HL.out.mono (by unfold maxW; omega))).mono ?_
  rintro _ w1 ⟨rfl, hst1⟩
  have HS1 := Lib.hid hst1
  obtain ⟨st, hst⟩ : ∃ st : Nat → WS, st = fun i => (xs.take i).foldl (fun s x => vaS x s) (numS n 1 s) := ⟨_, rfl⟩
  have hs0 : numS n 1 s = st 0 := by rw [hst]; rfl
  have hsn : putS most vaS xs s = st n := by
    rw [hst]
    unfold putS
    rw [if_neg (by rw [← HN.out]; exact hmn)]
    dsimp only
    rw [HN.out, List.take_length]
  have hlm : ∀ i, i ≤ n → Lim (st i) (maxW - (most - i) * 22) := fun i hi => by
    rw [hst]
    dsimp only
    refine (Lim.foldP (c := 22) Lim.va (xs.take i) (fun x hx => HX.out.good x (List.mem_of_mem_take hx)) _ _ (HL.out.num n 1)).mono ?_
    rw [List.length_take, ← HN.out, Nat.min_eq_left hi]
    have e1 : most * 22 = i * 22 + (most - i) * 22 := by rw [← Nat.add_mul]; congr 1; omega
    unfold maxW at *
    omega
  have hss : ∀ i (hi : i < xs.length), st (i + 1) = vaS (xs.getD i ([], 0)) (st i) := fun i hi => by
    rw [hst]
    dsimp only
    rw [List.take_succ_eq_append_getElem hi, List.foldl_append, List.getD_eq_getElem?_getD, List.getElem?_eq_getElem hi]
    rfl
  rw [hs0] at HS1
  have HSN := Lib.hid hsn
  have HLM := Lib.hid hlm
  have HSS := Lib.hid hss
  clear hst1 hs0 hsn hlm hss hst
  go_wp2_with fail
  go_loopw [9, 30] (fun _ k wr => ∃ (i : Nat), i ≤ n ∧ k = .int .i64 i ∧ Hid (WStep w0.heap.size q aR (st i) r w wr))
    (fun _ k _ => n - (intOf k).toNat)
  case atStart => exact ⟨0, by omega, rfl, HS1⟩
  case round =>
    obtain ⟨i, hi, rfl, hstp⟩ := hrel
    by_cases hlt : i < n
    · have hil : (i : Int) < n := by omega
      have hix : i < xs.length := by rw [← HN.out]; exact hlt
      have hbel := hstp.out.below H0.out
      have BR := Lib.hid (HB.out.trans hbel)
      obtain ⟨r1, hw1, hk1⟩ := hstp.out.next
      have HW1 := Lib.hid hw1
      have HK1 := Lib.hid hk1
      have HSI := Lib.hid (HSS.out i hix)
      have HLI := Lib.hid ((HLM.out i hi).mono (show maxW - (most - i) * 22 ≤ maxW - 22 by have : 22 ≤ (most - i) * 22 := Nat.le_mul_of_pos_left _ (by omega); omega))
      clear hw1 hk1 hbel
      obtain ⟨bb, oo, rfl, _, hrg⟩ := HX.out.el i hlt
      have hl16 := HX.out.at i hix
      have hok := HG.out (xs.getD i ([], 0)) (by rw [List.getD_eq_getElem?_getD, List.getElem?_eq_getElem hix]; exact List.getElem_mem _)
      obtain ⟨X, hX⟩ : ∃ X, X = xs.getD i ([], 0) := ⟨_, rfl⟩
      rw [← hX] at hrg hl16 hok HSI
      have RG := Lib.hid (range_below hrg BR.out)
      have HCL := Lib.hid (vcells_len X hl16)
      have HOK := Lib.hid hok
      have HL16 := Lib.hid hl16
      clear hrg hX hok hl16
      have hh : ∀ Z : Array Value, Z.size = 17 → Has (wr.alloc (.cells Z 45)) wr.heap.size 45 (vcells X).length := fun Z hZ => has_new wr _ _ _ (by rw [hZ]; exact HCL.out.symm)
      have HH := Lib.hid hh
      clear hh
      go_wp2_with (first | (refine wpList_load_g rfl 45 (.tmp 32) rfl bb (oo + i * 17) rfl (vcells X) _ RG.out Tryd.underlying45 rfl (by rw [HCL.out]; exact Tryd.size45) ?_) | (refine wpList_store_row rfl 45 (.tmp 9) (.tmp 33) rfl wr.heap.size rfl (vcells X) rfl 45 (HH.out _ rfl) (by rw [HCL.out]; exact Tryd.size45) (one_vcells X) ?_; intro w2 hp2; have BL := Lib.hid (show Below wr.heap.size wr w2 from hp2.below ((Below.refl _ _).alloc (Nat.le_refl _) _) (Nat.le_refl _)); have RG2 := Lib.hid (blk_range hp2.blk); clear hp2) | (refine wpList_load_g rfl 45 (.tmp 9) rfl wr.heap.size 0 rfl (vcells X) _ RG2.out Tryd.underlying45 rfl (by rw [HCL.out]; exact Tryd.size45) ?_))
      refine (block2_any w0 q aR (st i) r1 X HL16.out HOK.out w2 (HW1.out.below BL.out) (BR.out.trans (BL.out.mono BR.out.size)) RC.out h1 HLI.out).mono ?_
      rintro _ w3 ⟨rfl, hst3⟩
      have HST := Lib.hid hst3
      clear hst3
      go_wp2_with fail
      go_roundw
      case rel => exact ⟨i + 1, by omega, by go_num, Lib.hid (by rw [HSI.out]; exact HK1.out _ _ (WStep.then_ (Only.of_below BL.out) (.inl rfl) HST.out))⟩
      case measure => simp [intOf]; omega
    · obtain rfl : i = n := by omega
      go_wp2
      go_end0
      exact ⟨rfl, by rw [HSN.out]; exact hstp.out⟩
end Go.Proofs.YtniknhhejlgdfaaDoor
/- A whole block is written. -/
namespace Go.Proofs.YtniknhhejlgdfaaDoor
open Go.RowKit

theorem bk_pay {w : World} {b t : Nat} {e r : Int} {p : List Int} {q : List Value} {x y : Value} (hp : p.length = 16) (hq : q.length = 19) (h : w.heap[b]? = some (.cells (bkC e r p q x y).toArray t (0, 0))) : w.cell? ⟨b, 37, none⟩ = some x := blk_cell h 37 _ (by
  unfold bkC
  rw [List.getElem?_append_right (by simp), List.getElem?_append_right (by simp [u8s_len', hp]), List.getElem?_append_right (by simp [u8s_len', hp, hq])]
  simp [u8s_len', hp, hq])
theorem bk_nxt {w : World} {b t : Nat} {e r : Int} {p : List Int} {q : List Value} {x y : Value} (hp : p.length = 16) (hq : q.length = 19) (h : w.heap[b]? = some (.cells (bkC e r p q x y).toArray t (0, 0))) : w.cell? ⟨b, 38, none⟩ = some y := blk_cell h 38 _ (by
  unfold bkC
  rw [List.getElem?_append_right (by simp), List.getElem?_append_right (by simp [u8s_len', hp]), List.getElem?_append_right (by simp [u8s_len', hp, hq])]
  simp [u8s_len', hp, hq])
theorem bk_par {w : World} {b t : Nat} {e r : Int} {p : List Int} {q : List Value} {x y : Value} (h : w.heap[b]? = some (.cells (bkC e r p q x y).toArray t (0, 0))) : w.rangeAt b 2 (u8s p) := blk_mid (pre := [.int .i64 e, .int .i64 r]) (ys := u8s p) (post := q ++ [x, y]) h rfl
theorem bk_jus {w : World} {b t : Nat} {e r : Int} {p : List Int} {q : List Value} {x y : Value} (hp : p.length = 16) (h : w.heap[b]? = some (.cells (bkC e r p q x y).toArray t (0, 0))) : w.rangeAt b 18 q := by
  have := blk_mid (pre := [.int .i64 e, .int .i64 r] ++ u8s p) (ys := q) (post := [x, y]) h (by simp [bkC])
  rwa [List.length_append, u8s_len', hp] at this
theorem bk_len (e r : Int) (p : List Int) (q : List Value) (x y : Value) (hp : p.length = 16) (hq : q.length = 19) : (bkC e r p q x y).length = 39 := by simp [bkC, u8s_len', hp, hq]
theorem Lim.pay {ps : List (List Int)} {s : WS} {m : Nat} (h : Lim s m) : Lim (putS 4 txS ps s) (m + 73) := (Lim.put Lim.tx ps h).mono (by omega)

set_option maxHeartbeats 8000000 in
set_option maxRecDepth 100000 in
theorem wblock_any (w0 : World) (q : Nat) (aR : Addr) (s : WS) (r : Option Nat) (e n e2 n2 : Int) (p bl : List Int) (hp : p.length = 16) (hpo : u8s_ok p) (hbl : bl.length = 16) (hbo : u8s_ok bl) (xs : List Sd) (ps : List (List Int)) (vs : List Va) (A B D : Option Addr) (k c kp cp kn cn : Nat) (hx : Sgs w0 (.slice A k c) xs) (hk : k = xs.length) (hpy : Bss w0 (.slice B kp cp) ps) (hkp : kp = ps.length) (hvs : Vals w0 (.slice D kn cn) vs) (hkn : kn = vs.length) (hg : ∀ x ∈ vs, u8s_ok x.1) (w : World) (H : WrAt w0.heap.size w q aR s r) (hb : Below w0.heap.size w0 w) (hR : w0.cell? ⟨1, 0, none⟩ = some (errV aR)) (h1 : 1 < w0.heap.size) (hlim : Lim s (maxW - 10000)) :
    Calls Tryd.prog 87 #[wrV q, .agg (bkC e n p (qcC e2 n2 bl (.slice A k c)) (.slice B kp cp) (.slice D kn cn)).toArray] w fun ret w' => ret = .returned (.tuple #[]) ∧ WStep w0.heap.size q aR (bkS ⟨e, n, p, ⟨e2, n2, bl, xs⟩, ps, vs⟩ s) r w w' := by
  have b0 : Below w.heap.size w ((w.alloc (.cells #[.pointer (some ⟨q, 0, none⟩)] 171)).alloc (.cells (bkC e n p (qcC e2 n2 bl (.slice A k c)) (.slice B kp cp) (.slice D kn cn)).toArray 40)) := (((Below.refl _ _).alloc (Nat.le_refl _) _).alloc (by simp) _)
  have k0 : ((w.alloc (.cells #[.pointer (some ⟨q, 0, none⟩)] 171)).alloc (.cells (bkC e n p (qcC e2 n2 bl (.slice A k c)) (.slice B kp cp) (.slice D kn cn)).toArray 40)).heap[w.heap.size]? = some (.cells #[.pointer (some ⟨q, 0, none⟩)] 171 (0, 0)) := by
    have := heap_alloc_new w (.cells #[.pointer (some ⟨q, 0, none⟩)] 171)
    have := (Below.heap_alloc (w.alloc (.cells #[.pointer (some ⟨q, 0, none⟩)] 171)) (.cells (bkC e n p (qcC e2 n2 bl (.slice A k c)) (.slice B kp cp) (.slice D kn cn)).toArray 40) _ (blk_lt this)).trans this
    exact this
  have k1 : ((w.alloc (.cells #[.pointer (some ⟨q, 0, none⟩)] 171)).alloc (.cells (bkC e n p (qcC e2 n2 bl (.slice A k c)) (.slice B kp cp) (.slice D kn cn)).toArray 40)).heap[w.heap.size + 1]? = some (.cells (bkC e n p (qcC e2 n2 bl (.slice A k c)) (.slice B kp cp) (.slice D kn cn)).toArray 40 (0, 0)) := by
    have := heap_alloc_new (w.alloc (.cells #[.pointer (some ⟨q, 0, none⟩)] 171)) (.cells (bkC e n p (qcC e2 n2 bl (.slice A k c)) (.slice B kp cp) (.slice D kn cn)).toArray 40)
    rw [World.size_alloc] at this
    exact this
  have HH := Lib.hid H
  have H0 := Lib.hid (H.below b0)
  have B0 := Lib.hid b0
  have HB := Lib.hid hb
  have RC := Lib.hid hR
  have BB0 := Lib.hid (hb.trans (b0.mono hb.size))
  have K0_0 := Lib.hid k0
  have K1_0 := Lib.hid k1
  have HK := Lib.hid hk
  have HX := Lib.hid hx
  have HL := Lib.hid hlim
  have HBL := Lib.hid hbl
  have HBO := Lib.hid hbo
  have HP := Lib.hid hp
  have HPO := Lib.hid hpo
  have HPY := Lib.hid hpy
  have HKP := Lib.hid hkp
  have HVS := Lib.hid hvs
  have HKN := Lib.hid hkn
  have HG := Lib.hid hg
  have RW0 := Lib.hid (blk_range (xs := [.pointer (some ⟨q, 0, none⟩)]) K0_0.out)
  have c1_0_0 := blk_cell (xs := (bkC e n p (qcC e2 n2 bl (.slice A k c)) (.slice B kp cp) (.slice D kn cn))) K1_0.out 0 _ rfl
  have c1_1_0 := blk_cell (xs := (bkC e n p (qcC e2 n2 bl (.slice A k c)) (.slice B kp cp) (.slice D kn cn))) K1_0.out 1 _ rfl
  clear H b0 hb hR k0 k1 hx hk hlim hbl hbo hp hpo hpy hkp hvs hkn hg
  go_enter Tryd.func87, Tryd.ntmps87
  go_wp2_with (refine wpList_load_g rfl 171 (.tmp 2) rfl w.heap.size 0 rfl [.pointer (some ⟨q, 0, none⟩)] _ RW0.out Tryd.underlying171 rfl Tryd.size171 ?_)
  refine (wat_any w0.heap.size q aR s r e n _ H0.out (cell_base RC.out BB0.out h1) h1 (HL.out.mono (by unfold maxW; omega))).mono ?_
  rintro _ w1 ⟨rfl, hst1⟩
  have ST1 := Lib.hid hst1
  clear hst1
  obtain ⟨r1, a1, j1⟩ := ST1.out.next
  have A1 := Lib.hid a1
  have J1 := Lib.hid j1
  have BB1 := Lib.hid (BB0.out.trans (ST1.out.below H0.out))
  have K0_1 := Lib.hid (ST1.out.keep HH.out K0_0.out (by omega))
  have K1_1 := Lib.hid (ST1.out.keep HH.out K1_0.out (by omega))
  have RW1 := Lib.hid (blk_range (xs := [.pointer (some ⟨q, 0, none⟩)]) K0_1.out)
  have RQ1 := Lib.hid (bk_par K1_1.out)
  clear a1 j1 c1_0_0 c1_1_0
  go_wp2_with (first | (refine wpList_load_g rfl 171 (.tmp 2) rfl w.heap.size 0 rfl [.pointer (some ⟨q, 0, none⟩)] _ RW1.out Tryd.underlying171 rfl Tryd.size171 ?_) | (refine wpList_load_g rfl 24 (.tmp 11) rfl (w.heap.size + 1) 2 rfl (u8s p) _ RQ1.out Tryd.underlying24 rfl (by rw [u8s_len', HP.out]; exact Tryd.size24) ?_))
  refine (digest_any w0.heap.size q aR (numS n 6 (numS e 4 s)) r1 p HP.out HPO.out _ A1.out (((HL.out.num e 4).num n 6).mono (by unfold maxW; omega))).mono ?_
  rintro _ w2 ⟨rfl, hst2⟩
  have ST2 := Lib.hid (J1.out _ _ hst2)
  clear hst2
  obtain ⟨r2, a2, j2⟩ := ST2.out.next
  have A2 := Lib.hid a2
  have J2 := Lib.hid j2
  have BB2 := Lib.hid (BB0.out.trans (ST2.out.below H0.out))
  have K0_2 := Lib.hid (ST2.out.keep HH.out K0_0.out (by omega))
  have K1_2 := Lib.hid (ST2.out.keep HH.out K1_0.out (by omega))
  have RW2 := Lib.hid (blk_range (xs := [.pointer (some ⟨q, 0, none⟩)]) K0_2.out)
  have RJ2 := Lib.hid (bk_jus HP.out K1_2.out)
  clear a2 j2 
  go_wp2_with (first | (refine wpList_load_g rfl 171 (.tmp 2) rfl w.heap.size 0 rfl [.pointer (some ⟨q, 0, none⟩)] _ RW2.out Tryd.underlying171 rfl Tryd.size171 ?_) | (refine wpList_load_g rfl 37 (.tmp 15) rfl (w.heap.size + 1) 18 rfl (qcC e2 n2 bl (.slice A k c)) _ RJ2.out Tryd.underlying37 rfl (by rw [qc_len _ _ _ _ HBL.out]; exact Tryd.size37) ?_))
  refine (wqc_any w0 q aR (fixS p (numS n 6 (numS e 4 s))) r2 e2 n2 bl HBL.out HBO.out xs A k c HX.out HK.out _ A2.out BB2.out RC.out h1 ((Lim.dg _ HP.out _ _ ((HL.out.num e 4).num n 6)).mono (by unfold maxW; omega))).mono ?_
  rintro _ w3 ⟨rfl, hst3⟩
  have ST3 := Lib.hid (J2.out _ _ hst3)
  clear hst3
  obtain ⟨r3, a3, j3⟩ := ST3.out.next
  have A3 := Lib.hid a3
  have J3 := Lib.hid j3
  have BB3 := Lib.hid (BB0.out.trans (ST3.out.below H0.out))
  have K0_3 := Lib.hid (ST3.out.keep HH.out K0_0.out (by omega))
  have K1_3 := Lib.hid (ST3.out.keep HH.out K1_0.out (by omega))
  have cp3 := blk_cell (xs := [.pointer (some ⟨q, 0, none⟩)]) K0_3.out 0 _ rfl
  have c37_3 := bk_pay HP.out (qc_len _ _ _ _ HBL.out) K1_3.out
  clear a3 j3 
  go_wp2_with fail
  refine (put110_any w0 q aR (qcS ⟨e2, n2, bl, xs⟩ (fixS p (numS n 6 (numS e 4 s)))) r3 4 (by omega) ps B kp cp HPY.out HKP.out _ A3.out BB3.out RC.out h1 ((Lim.qc (q := ⟨e2, n2, bl, xs⟩) HX.out.ok HBL.out (Lim.dg _ HP.out _ _ ((HL.out.num e 4).num n 6))).mono (by unfold maxW; omega)) (by omega)).mono ?_
  rintro _ w4 ⟨rfl, hst4⟩
  have ST4 := Lib.hid (J3.out _ _ hst4)
  clear hst4
  obtain ⟨r4, a4, j4⟩ := ST4.out.next
  have A4 := Lib.hid a4
  have J4 := Lib.hid j4
  have BB4 := Lib.hid (BB0.out.trans (ST4.out.below H0.out))
  have K0_4 := Lib.hid (ST4.out.keep HH.out K0_0.out (by omega))
  have K1_4 := Lib.hid (ST4.out.keep HH.out K1_0.out (by omega))
  have cp4 := blk_cell (xs := [.pointer (some ⟨q, 0, none⟩)]) K0_4.out 0 _ rfl
  have c38_4 := bk_nxt HP.out (qc_len _ _ _ _ HBL.out) K1_4.out
  clear a4 j4 cp3 c37_3
  go_wp2_with fail
  refine (put113_any w0 q aR (putS 4 txS ps (qcS ⟨e2, n2, bl, xs⟩ (fixS p (numS n 6 (numS e 4 s))))) r4 7 (by omega) vs D kn cn HVS.out HKN.out HG.out _ A4.out BB4.out RC.out h1 ((Lim.pay (ps := ps) (Lim.qc (q := ⟨e2, n2, bl, xs⟩) HX.out.ok HBL.out (Lim.dg _ HP.out _ _ ((HL.out.num e 4).num n 6)))).mono (by unfold maxW; omega)) (by omega)).mono ?_
  rintro _ w5 ⟨rfl, hst5⟩
  have ST5 := Lib.hid (J4.out _ _ hst5)
  clear hst5
  go_wp2_with fail
  go_end0
  exact ⟨rfl, WStep.then_ (Only.of_below B0.out) (.inl rfl) ST5.out⟩
end Go.Proofs.YtniknhhejlgdfaaDoor
/- A writer begins and ends: NewWriter, Done. -/
namespace Go.Proofs.YtniknhhejlgdfaaDoor
open Go.RowKit

theorem eql71_nil (a : Option Addr) (l c : Nat) (W : World) : (binOp .eql 71 (.slice a l c) (.slice none 0 0)).run Tryd.prog W = .ok (.bool a.isNone) W := by
  simp only [binOp]
  simp [run_equal_slice_nil W 71 5 a l c Tryd.underlying71]
set_option maxHeartbeats 4000000 in
set_option maxRecDepth 100000 in
theorem clone123_any (xs : List Int) (A : Option Addr) (n c : Nat) (w : World) (hx : Bs w (.slice A n c) xs) (hl : n ≤ maxW) :
    Calls Tryd.prog 123 #[.slice A n c] w fun e w' => ∃ v, e = .returned v ∧ Bs w' v xs ∧ Below w.heap.size w w' := by
  have HX := Lib.hid hx
  have HN := Lib.hid hx.len
  clear hx
  cases A with
  | none =>
    have h0 : n = 0 := by
      rcases Nat.eq_zero_or_pos n with h | h
      · exact h
      · obtain ⟨b, off, c', e, _⟩ := HX.out.cells (by intro e; have := HN.out; rw [e] at this; simp at this; omega)
        cases e
    subst h0
    have hxs : xs = [] := List.eq_nil_of_length_eq_zero HN.out.symm
    have HXS := Lib.hid hxs
    have hnil := eql71_nil none 0 c w
    clear hxs
    go_enter Tryd.func123, Tryd.ntmps123
    go_wp2
    go_ret
    exact ⟨_, rfl, by rw [HXS.out]; exact Bs.nil, Below.refl _ _⟩
  | some a =>
    have b0 : Below w.heap.size w (w.alloc (.cells #[] 5)) := (Below.refl _ _).alloc (Nat.le_refl _) _
    have HO := Lib.hid (OwnO.of_own (World.ownsRow_made (e := 5) (base := w.heap.size) w #[] 0 (Nat.le_refl _) (by simp) rfl))
    have HS := Lib.hid (HX.out.below b0).src
    have B0 := Lib.hid b0
    rw [← HN.out] at HS
    have hnil := eql71_nil (some a) n c w
    clear b0
    go_enter Tryd.func123, Tryd.ntmps123
    go_wp2_with (at_builtin; refine appO (w0 := w) w.heap.size rfl (.tmp 5) (.tmp 6) 71 71 5 (.int .u8 0) 1 rfl Tryd.underlying71 Tryd.info5 rfl (by omega) (.slice (some ⟨w.heap.size, 0, none⟩) 0 0) [] rfl _ n (u8s xs) rfl HS.out HO.out B0.out (by simp) (by simp; unfold maxW at hl; omega) ?_; intro v1 w1 ap; have AP := Lib.hid ap; clear ap)
    go_ret
    have := AP.out.own
    rw [List.nil_append] at this
    exact ⟨_, rfl, Bs.of_own this HX.out.ok, AP.out.below⟩

set_option maxHeartbeats 4000000 in
set_option maxRecDepth 100000 in
theorem newWriter_any (aR : Addr) (w : World) : Calls Tryd.prog 105 #[] w fun e w' => ∃ q, e = .returned (.pointer (some ⟨q, 0, none⟩)) ∧ WrAt w.heap.size w' q aR (some []) none ∧ Below w.heap.size w w' := by
  go_enter Tryd.func105, Tryd.ntmps105
  go_wp2
  go_ret
  exact ⟨_, rfl, ⟨Nat.le_refl _, ⟨.nilIface, .slice none 0 0, [], heap_alloc_new w _, OwnO.nil, rfl, (fun b hb => by cases hb), (by simp), .inl ⟨rfl, rfl⟩⟩, by simp⟩, (Below.refl _ _).alloc (Nat.le_refl _) _⟩

set_option maxHeartbeats 4000000 in
set_option maxRecDepth 100000 in
theorem done_any (base q : Nat) (aR : Addr) (s : WS) (r : Option Nat) (w : World) (H : WrAt base w q aR s r) :
    Calls Tryd.prog 106 #[.pointer (some ⟨q, 0, none⟩)] w fun e w' => Below w.heap.size w w' ∧ ((s = none ∧ e = .returned (.tuple #[.slice none 0 0, errV aR])) ∨ ∃ b v, s = some b ∧ e = .returned (.tuple #[v, .nilIface]) ∧ Bs w' v b) := by
  obtain ⟨ev, sv, bs, hb, ho, hr, h1, h2, h3⟩ := H.at_
  have hc := blk_cell (xs := [ev, sv]) hb 0 _ rfl
  have hc1 := blk_cell (xs := [ev, sv]) hb 1 _ rfl
  clear H
  rcases h3 with ⟨rfl, rfl⟩ | ⟨rfl, rfl⟩
  · have HB := Lib.hid (Bs.of_own ho h1)
    have hl := Lib.hid h2
    clear hb ho hr h1 h2
    obtain ⟨A, c, rfl⟩ := HB.out.form
    go_enter Tryd.func106, Tryd.ntmps106
    go_wp2_with fail
    refine (clone123_any bs A bs.length c w HB.out hl.out).mono ?_
    rintro _ w1 ⟨v, rfl, hv, hbl⟩
    obtain ⟨A2, c2, rfl⟩ := hv.form
    have HV := Lib.hid hv
    have BL := Lib.hid hbl
    clear hv hbl
    go_wp2_with fail
    go_ret2
    exact ⟨BL.out, .inr ⟨bs, _, rfl, rfl, HV.out⟩⟩
  · have C0 := Lib.hid hc
    clear hb ho hr h1 h2
    go_enter Tryd.func106, Tryd.ntmps106
    go_wp2_with fail
    refine wp_region_rely3 (by kernel_rfl) 7 (by kernel_rfl) (by kernel_rfl) Ext Ext.refl Ext.trans (fun ix => match ix with
      | 0 => fun _ v => v = .pointer (some ⟨q, 0, none⟩)
      | 1 => fun _ v => v = .pointer (some ⟨q, 0, none⟩)
      | 2 => fun _ v => v = .pointer (some ⟨q, 0, none⟩)
      | 3 => fun _ v => v = .pointer (some ⟨q, 0, none⟩)
      | 4 => fun _ v => v = errV aR
      | 5 => fun _ v => v = .slice none 0 0
      | 6 => fun _ v => v = errV aR
      | _ => fun _ _ => False) ?_
    simp (maxSteps := 10000000) only [Rely, List.take_succ_cons, List.take_zero, List.drop_succ_cons, List.drop_zero, Nat.reduceAdd, Nat.zero_add, Act.put, List.setIfInBounds_toArray, List.set_cons_succ, List.set_cons_zero]
    refine ⟨?_, ?_, ?_, ?_, ?_, ?_, ?_, ?_⟩
    · refine step_plain rfl fun rv wq hE hd => ?_
      exact gives_move _ (.pointer (some ⟨q, 0, none⟩)) (.inl rfl) rfl ⟨Ext.refl _, fun _ _ => rfl⟩
    · refine step_plain rfl fun rv wq hE hd => ?_
      exact gives_nilCheck _ rfl ⟨q, 0, none⟩ (show rv 0 = _ from hd.1) ⟨Ext.refl _, fun _ _ => rfl⟩
    · refine step_plain rfl fun rv wq hE hd => ?_
      exact gives_fieldAddr' 209 _ 0 rfl (.pointer (some ⟨q, 0, none⟩)) _ (show rv 1 = _ from hd.1) (by go_simp) ⟨Ext.refl _, fun _ _ => rfl⟩
    · refine step_plain rfl fun rv wq hE hd => ?_
      exact gives_fieldAddr' 207 _ 0 rfl (.pointer (some ⟨q, 0, none⟩)) _ (show rv 2 = _ from hd.1) (by go_simp) ⟨Ext.refl _, fun _ _ => rfl⟩
    · refine step_plain rfl fun rv wq hE hd => ?_
      have hc := cell_on (ext_of_drew hE) C0.out
      exact gives_loadAt 29 _ rfl (.pointer (some ⟨q, 0, none⟩)) (errV aR) (show rv 3 = _ from hd.1) (by go_simp) ⟨Ext.refl _, fun _ _ => rfl⟩
    · refine step_plain rfl fun rv wq hE hd => ?_
      exact gives_move _ (.slice none 0 0) (.inr rfl) rfl ⟨Ext.refl _, fun _ _ => rfl⟩
    · refine step_plain rfl fun rv wq hE hd => ?_
      exact gives_move _ (errV aR) (.inr rfl) (show rv 4 = _ from hd.1) ⟨Ext.refl _, fun _ _ => rfl⟩
    · intro rv wq hE hR
      have h5 : rv 5 = .slice none 0 0 := hR 5 (by omega)
      have h6 : rv 6 = errV aR := hR 6 (by omega)
      rw [h5, h6]
      have BE := Lib.hid (ext_of_drew hE)
      clear hR hE h5 h6
      go_wp2_with fail
      go_ret2
      exact ⟨BE.out, .inl ⟨trivial, rfl⟩⟩
end Go.Proofs.YtniknhhejlgdfaaDoor
