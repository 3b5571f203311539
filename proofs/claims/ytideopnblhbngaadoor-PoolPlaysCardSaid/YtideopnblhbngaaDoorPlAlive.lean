/- The pool's example. -/
import Derived.Test.YtideopnblhbngaaDoorTexts
import Derived.Lib.SlBytesConst
namespace Go.Proofs.YtideopnblhbngaaDoor
open Go.RowKit

theorem PSen.stay {base : Nat} {w w' : World} {aF aT aU : Addr} (h : PSen w aF aT aU) (hb : 5 ≤ base) (hw : base ≤ w.heap.size) (hs : Stay base w w') : PSen w' aF aT aU :=
  ⟨hs.cell hw (by show 3 < base; omega) h.f, hs.cell hw (by show 2 < base; omega) h.t, hs.cell hw (by show 4 < base; omega) h.u⟩
theorem PSen.lt {w : World} {aF aT aU : Addr} (h : PSen w aF aT aU) : 5 ≤ w.heap.size := by have : 4 < w.heap.size := World.block_lt_of_cell? w _ h.u; omega
theorem bsf_new (base : Nat) (w : World) (b : Int) (h : 0 ≤ b ∧ b ≤ 255) : BsF base (w.alloc (.cells #[.int .u8 b] 5 (1, 2))) (.slice (some ⟨w.heap.size, 0, none⟩) 1 1) [b] := by
  refine BsF.of_own (base' := 0) (.inr ⟨w.heap.size, 0, 1, #[.int .u8 b], (1, 2), rfl, Nat.zero_le _, heap_alloc_new w _, Nat.le_refl _, by simp [maxLen], by simp, by simp [u8s], .inr (Nat.le_refl _)⟩) ?_
  intro x hx
  simp only [List.mem_singleton] at hx
  omega
theorem BsF.bs_but {base p : Nat} {v u : Value} {ts : List ByteArray} {w : World} {bs : List Int} (h : BsF base w u bs) (hp : PoolAt base p v ts w) : ∀ W, But (PoolS p v) w W → Bs W u bs :=
  fun _ hW => (h.stay (Stay.of_but hp hW)).red
theorem strOfNums_size (bs : List Int) : (strOfNums bs).size = bs.length := by
  show (strOfNums bs).data.size = _
  rw [← Array.length_toList, strOfNums_data]
  simp
theorem lst_one {base : Nat} {w : World} {v : Value} {bs : List Int} (h : BsF base w v bs) (hb : base ≤ w.heap.size) : Lst base (w.alloc (.cells #[v] 44)) (.slice (some ⟨w.heap.size, 0, none⟩) 1 1) [(v, bs)] := by
  refine ⟨.inr ⟨w.heap.size, 0, 1, #[v], (0, 0), rfl, hb, heap_alloc_new w _, Nat.le_refl _, by simp [maxLen], by simp, by simp, .inl (Nat.le_refl _)⟩, fun y hy => ?_⟩
  rw [List.mem_singleton] at hy
  subst hy
  exact h.stay (Stay.of_below ((Below.refl _ _).alloc (Nat.le_refl _) _))
theorem own_texts2 (w : World) (a b : ByteArray) : (w.alloc (.cells #[.string a, .string b] 9)).ownsRow w.heap.size 9 1 (.slice (some ⟨w.heap.size, 0, none⟩) 2 2) 2 (strs [a, b]) :=
  ⟨rfl, .inr ⟨w.heap.size, 2, _, rfl, Nat.le_refl _, heap_alloc_new w _, by simp, by simp [maxLen], by simp, rfl⟩⟩
/-- What stands over a play: the pool, and the sentinels. -/
structure PSt (base p : Nat) (v : Value) (ts : List ByteArray) (aF aT aU : Addr) (w0 w : World) : Prop where
  at_ : PoolAt base p v ts w
  sen : PSen w aF aT aU
  stay : Stay base w0 w
  five : 5 ≤ base
  le : base ≤ w.heap.size
  few : ts.length ≤ 16
  siz : ∀ s ∈ ts, 1 ≤ s.size ∧ s.size ≤ 16
  nd : ts.Nodup
theorem PSt.below {base p : Nat} {v : Value} {ts : List ByteArray} {aF aT aU : Addr} {w0 w w' : World} (h : PSt base p v ts aF aT aU w0 w) (hb : Below w.heap.size w w') : PSt base p v ts aF aT aU w0 w' :=
  ⟨h.at_.below hb, h.sen.below hb, h.stay.trans (Stay.of_below hb), h.five, Nat.le_trans h.le hb.size, h.few, h.siz, h.nd⟩
theorem PSt.but {base p : Nat} {v v' : Value} {ts ts' : List ByteArray} {aF aT aU : Addr} {w0 w w' : World} (h : PSt base p v ts aF aT aU w0 w) (hp : PoolAt base p v' ts' w') (hb : But (PoolS p v) w w') (h1 : ts'.length ≤ 16) (h2 : ∀ s ∈ ts', 1 ≤ s.size ∧ s.size ≤ 16) (h3 : ts'.Nodup) : PSt base p v' ts' aF aT aU w0 w' :=
  ⟨hp, h.sen.stay h.five h.le (Stay.of_but h.at_ hb), h.stay.trans (Stay.of_but h.at_ hb), h.five, Nat.le_trans h.le hb.size, h1, h2, h3⟩
theorem PSt.alloc {base p : Nat} {v : Value} {ts : List ByteArray} {aF aT aU : Addr} {w0 w : World} (h : PSt base p v ts aF aT aU w0 w) (o : Obj) : PSt base p v ts aF aT aU w0 (w.alloc o) := h.below ((Below.refl _ _).alloc (Nat.le_refl _) _)
theorem PSt.new {w : World} {aF aT aU : Addr} (h : PSen w aF aT aU) : PSt w.heap.size w.heap.size (.slice none 0 0) [] aF aT aU w (w.alloc (.cells #[.slice none 0 0] 109)) :=
  ⟨new_pool w, h.below ((Below.refl _ _).alloc (Nat.le_refl _) _), Stay.of_below ((Below.refl _ _).alloc (Nat.le_refl _) _), h.lt, by simp, by simp, by simp, List.nodup_nil⟩
theorem PSt.low {base p : Nat} {v : Value} {ts : List ByteArray} {aF aT aU : Addr} {w0 w : World} (h : PSt base p v ts aF aT aU w0 w) (hb : base ≤ w0.heap.size) : Below base w0 w := h.stay.low hb

theorem addT_few {ts : List ByteArray} {bs : List Int} (h : ts.length ≤ 16) : (addT ts bs).length ≤ 16 := by
  cases hk : addOk ts bs with
  | false => rw [addT_no hk]; exact h
  | true =>
    rw [addT_yes hk, List.length_append]
    unfold addOk at hk
    simp only [Bool.and_eq_true, decide_eq_true_eq] at hk
    simp; omega
theorem addT_siz {ts : List ByteArray} {bs : List Int} (h : ∀ s ∈ ts, 1 ≤ s.size ∧ s.size ≤ 16) : ∀ s ∈ addT ts bs, 1 ≤ s.size ∧ s.size ≤ 16 := by
  cases hk : addOk ts bs with
  | false => rw [addT_no hk]; exact h
  | true =>
    rw [addT_yes hk]
    unfold addOk at hk
    simp only [Bool.and_eq_true, decide_eq_true_eq] at hk
    intro s hs
    rcases List.mem_append.1 hs with hs | hs
    · exact h s hs
    · rw [List.mem_singleton] at hs
      subst hs
      rw [strOfNums_size]; exact hk.1.1
theorem addT_nd {ts : List ByteArray} {bs : List Int} (h : ts.Nodup) : (addT ts bs).Nodup := by
  cases hk : addOk ts bs with
  | false => rw [addT_no hk]; exact h
  | true =>
    rw [addT_yes hk]
    unfold addOk at hk
    simp only [Bool.and_eq_true, decide_eq_true_eq, Bool.not_eq_true'] at hk
    refine List.nodup_append.2 ⟨h, by simp, fun a ha b hb => ?_⟩
    rw [List.mem_singleton] at hb
    subst hb
    intro e
    subst e
    have := (inT_iff ts (strOfNums bs)).2 ha
    rw [hk.1.2] at this
    cases this
/-- Add, as the statements use it. -/
theorem add_st (base p : Nat) (v : Value) (ts : List ByteArray) (bs : List Int) (B : Option Addr) (m d : Nat) (aF aT aU : Addr) (w0 w : World) (h : PSt base p v ts aF aT aU w0 w) (hx : BsF base w (.slice B m d) bs) :
    Calls Tryd.prog 26 #[.pointer (some ⟨p, 0, none⟩), .slice B m d] w fun e w' => e = .returned (addV ts bs aF aT aU) ∧
      ∃ v', PSt base p v' (addT ts bs) aF aT aU w0 w' ∧ Stay base w w' := by
  refine (add_any base p v ts bs B m d aF aT aU w h.at_ hx.red (hx.bs_but h.at_) h.sen h.few).mono ?_
  rintro e w' ⟨rfl, v', hp, hb, _⟩
  exact ⟨rfl, v', h.but hp hb (addT_few h.few) (addT_siz h.siz) (addT_nd h.nd), Stay.of_but h.at_ hb⟩
/-- Drop, as the statements use it. -/
theorem drop_st (base p : Nat) (v : Value) (ts : List ByteArray) (ps : List (List Int)) (Aw : Option Addr) (nw cw : Nat) (aF aT aU : Addr) (w0 w : World) (h : PSt base p v ts aF aT aU w0 w) (hst : ∀ W, Stay base w W → Bss W (.slice Aw nw cw) ps) (hzw : nw ≤ 1000000) :
    Calls Tryd.prog 29 #[.pointer (some ⟨p, 0, none⟩), .slice Aw nw cw] w fun e w' => e = .returned (.int .i64 ((ts.length : Int) - (dropT ts (ps.map strOfNums)).length)) ∧
      ∃ v', PSt base p v' (dropT ts (ps.map strOfNums)) aF aT aU w0 w' ∧ Stay base w w' := by
  have hf := h.few
  refine (drop_any base p v ts ps Aw nw cw w h.at_ (fun W hW => hst W (Stay.of_but h.at_ hW)) (by omega) hzw).mono ?_
  rintro e w' ⟨rfl, v', hp, hb, _⟩
  exact ⟨rfl, v', h.but hp hb (Nat.le_trans (dropT_len _ _) hf) (fun s hs => h.siz s (List.mem_filter.1 hs).1) (h.nd.filter _), Stay.of_but h.at_ hb⟩
/-- Take, as the statements use it. -/
theorem take_st (base p : Nat) (v : Value) (ts : List ByteArray) (nn : Int) (ps : List (List Int)) (Aw : Option Addr) (mw cw : Nat) (aF aT aU : Addr) (w0 w : World) (h : PSt base p v ts aF aT aU w0 w) (hw : Bss w (.slice Aw mw cw) ps) (hzw : mw ≤ 1000000) :
    Calls Tryd.prog 27 #[.pointer (some ⟨p, 0, none⟩), .int .i64 nn, .slice Aw mw cw] w fun e w' => ∃ A c xs, e = .returned (.slice A (takeT ts nn (ps.map strOfNums)).length c) ∧
      Lst base w' (.slice A (takeT ts nn (ps.map strOfNums)).length c) xs ∧ (xs.map (·.2)).map strOfNums = takeT ts nn (ps.map strOfNums) ∧ Below w.heap.size w w' := by
  have hf := h.few
  refine (take_any base p v ts nn ps Aw mw cw w h.at_ hw (by omega) hzw (fun s hs => by have := (h.siz s hs).2; omega)).mono ?_
  rintro e w' ⟨u, os, rfl, ho, ht, hf, hb⟩
  have hl := Lst.of_take h.le ho hf
  obtain ⟨A, c, rfl⟩ := hl.form
  have e : (outL os).length = (takeT ts nn (ps.map strOfNums)).length := by rw [outL_len, ← ht, List.length_map]
  rw [e] at hl ⊢
  exact ⟨A, c, outL os, rfl, hl, by rw [outL_texts, ht], hb⟩

set_option maxHeartbeats 8000000 in
set_option maxRecDepth 100000 in
theorem plAlive_any (aF aT aU : Addr) (w : World) (hs : PSen w aF aT aU) : Calls Tryd.prog 24 #[] w fun e w' => e = .returned (.bool true) ∧ Below w.heap.size w w' := by
  have S0 := Lib.hid (PSt.new hs)
  clear hs
  go_enter Tryd.func24, Tryd.ntmps24
  go_wp2_with fail
  refine (new_any w).mono ?_
  rintro _ _ ⟨rfl, rfl⟩
  have kc := fun (w : World) (C : Array Value) (n c : Nat) => Lib.run_convert_bytes_const (P := Tryd.prog) w 44 5 C n c Tryd.underlying44 Tryd.underlying5
  have kc0 := kc (w.alloc (.cells #[.slice none 0 0] 109)) #[.int .u8 97] 1 1
  rw [show (w.alloc (.cells #[.slice none 0 0] 109)).heap.size = w.heap.size + 1 by simp] at kc0
  have kb0 := Lib.hid (bsf_new w.heap.size (w.alloc (.cells #[.slice none 0 0] 109)) 97 (by omega))
  rw [show (w.alloc (.cells #[.slice none 0 0] 109)).heap.size = w.heap.size + 1 by simp] at kb0
  go_wp2_with fail
  refine (add_st _ _ _ [] [97] _ _ _ aF aT aU w _ (S0.out.alloc _) kb0.out).mono ?_
  rintro _ w1 ⟨rfl, v1, s1, _⟩
  rw [show addT [] [97] = [strOfNums [97]] from rfl] at s1
  rw [show addV [] [97] aF aT aU = .nilIface from rfl]
  have S1 := Lib.hid s1
  clear s1
  go_wp2_with fail
  refine (add_st _ _ _ [strOfNums [97]] [98] _ _ _ aF aT aU w _ (S1.out.alloc _) (bsf_new _ _ 98 (by omega))).mono ?_
  rintro _ w2 ⟨rfl, v2, s2, _⟩
  rw [show addT [strOfNums [97]] [98] = [strOfNums [97], strOfNums [98]] by kernel_rfl] at s2
  rw [show addV [strOfNums [97]] [98] aF aT aU = .nilIface by kernel_rfl]
  have S2 := Lib.hid s2
  clear s2
  go_wp2_with fail
  refine (add_st _ _ _ [strOfNums [97], strOfNums [98]] [99] _ _ _ aF aT aU w _ (S2.out.alloc _) (bsf_new _ _ 99 (by omega))).mono ?_
  rintro _ w3 ⟨rfl, v3, s3, _⟩
  rw [show addT [strOfNums [97], strOfNums [98]] [99] = [strOfNums [97], strOfNums [98], strOfNums [99]] by kernel_rfl] at s3
  rw [show addV [strOfNums [97], strOfNums [98]] [99] aF aT aU = .nilIface by kernel_rfl]
  have S3 := Lib.hid s3
  clear s3
  go_wp2_with fail
  have hb98 := bsf_new w.heap.size w3 98 (by omega)
  have hle3 : w.heap.size ≤ (w3.alloc (.cells #[.int .u8 98] 5 (1, 2))).heap.size := (S3.out.alloc _).le
  have hl98 := (lst_one hb98 hle3).bss
  rw [show (w3.alloc (.cells #[.int .u8 98] 5 (1, 2))).heap.size = w3.heap.size + 1 by simp] at hl98
  refine (take_st _ _ _ [strOfNums [97], strOfNums [98], strOfNums [99]] 2 [[98]] _ _ _ aF aT aU w _ ((S3.out.alloc _).alloc _) hl98 (by omega)).mono ?_
  rintro _ w4 ⟨A4, c4, xs, rfl, hl4, ht4, hbel4⟩
  rw [show takeT [strOfNums [97], strOfNums [98], strOfNums [99]] 2 ([[98]].map strOfNums) = [strOfNums [97], strOfNums [99]] by kernel_rfl] at ht4 hl4 ⊢
  have S4 := Lib.hid (((S3.out.alloc _).alloc _).below hbel4)
  have HB4 := Lib.hid hl4.bss
  have HT4 := Lib.hid ht4
  clear hl4 ht4 hbel4 hl98 hb98
  go_wp2_with fail
  refine (texts_any _ A4 _ c4 w4 HB4.out (by simp)).mono ?_
  rintro _ w5 ⟨A5, c5, rfl, hown5, hbel5⟩
  rw [HT4.out] at hown5
  have S5 := Lib.hid (S4.out.below hbel5)
  have HO5 := Lib.hid (Txs.of_own hown5)
  clear hown5 hbel5
  go_wp2_with fail
  refine (sameTexts_any [strOfNums [97], strOfNums [99]] [⟨#[97]⟩, ⟨#[99]⟩] _ _ _ _ _ _ _ (HO5.out.below ((Below.refl _ _).alloc (Nat.le_refl _) _)) (Txs.of_own (own_texts2 w5 ⟨#[97]⟩ ⟨#[99]⟩)) (by simp)).mono ?_
  rintro _ w6 ⟨rfl, hbel6⟩
  have S6 := Lib.hid ((S5.out.alloc _).below hbel6)
  rw [show decide ([strOfNums [97], strOfNums [99]] = [(⟨#[97]⟩ : ByteArray), ⟨#[99]⟩]) = true by kernel_rfl]
  clear hbel6
  go_wp2_with fail
  go_ret
  exact ⟨rfl, S6.out.low (Nat.le_refl _)⟩
end Go.Proofs.YtideopnblhbngaaDoor
