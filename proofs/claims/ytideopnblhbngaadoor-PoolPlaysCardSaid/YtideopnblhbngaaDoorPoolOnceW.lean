/- What PoolOnce answers. -/
import Derived.Test.YtideopnblhbngaaDoorKeepL
namespace Go.Proofs.YtideopnblhbngaaDoor
open Go.RowKit Go.Shelf

theorem OwnO.take {w : World} {base e g off n cap k : Nat} {xs : List Value} (h : OwnO w base e (.slice (some ⟨g, off, none⟩) n cap) xs) (hk : k ≤ xs.length) :
    OwnO w base e (.slice (some ⟨g, off, none⟩) k cap) (xs.take k) := by
  rcases h with ⟨h, _⟩ | ⟨g', off', cap', cur, fr, he, hb, hg, hnc, hm, hfit, htake, hfr⟩
  · cases h
  · simp only [Value.slice.injEq, Option.some.injEq, Addr.mk.injEq] at he
    obtain ⟨⟨rfl, rfl, _⟩, rfl, rfl⟩ := he
    have hl : (xs.take k).length = k := by rw [List.length_take]; omega
    refine .inr ⟨g, off, cap, cur, fr, by rw [hl], hb, hg, by rw [hl]; omega, hm, hfit, ?_, hfr⟩
    rw [hl]
    conv => rhs; rw [← htake]
    rw [List.take_take, Nat.min_eq_left hk]
theorem rowL_new (L : List Value) (w : World) (B : Nat) (hB : B ≤ w.heap.size) : RowL L B (w.alloc (.cells #[] 44)) (.slice (some ⟨w.heap.size, 0, none⟩) 0 0) 0 :=
  ⟨Nat.zero_le _, ⟨by simp, .inr ⟨w.heap.size, 0, #[], rfl, hB, heap_alloc_new w _, Nat.le_refl _, by simp [maxLen], rfl, rfl⟩⟩, fun _ => ⟨_, rfl⟩⟩
theorem src44 {w : World} {b : Nat} {x : Value} (h1 : x.oneCell' = true) (hb : w.heap[b]? = some (.cells #[x] 44 (0, 0))) : Src Tryd.prog 1 41 (.slice (some ⟨b, 0, none⟩) 1 1) 1 [x] w := by
  refine Src.ofSlice w Tryd.underlying41 ⟨b, 0, none⟩ 1 1 [x] rfl (fun j u hu => ?_) (by simp [h1])
  rw [show (⟨b, 0, none⟩ : Addr).add j = ⟨b, j, none⟩ by unfold Addr.add; split <;> simp_all]
  simp only [World.cell?, hb]
  simpa using hu
theorem gives_build1 {P : Program} {o : Oper} {ρ : Operand → Value} {w w' : World} {S : Value → World → Prop} (t : TypeId) (x : Operand) (ho : o.op = .buildSlice t 1 #[(0, x)]) (u : Value) (hx : ρ x = u) (v : Value)
    (hr : (Instr.buildSlice t 1 #[(0, u)]).run P w = .ok v w') (h : S v w') : Gives P o ρ w S :=
  gives_build t 1 _ ho #[(0, u)] (by simp [hx]) v hr h
/-- A pool and its sentinels stay where a row of slices grows. -/
theorem PSt.grown {base p : Nat} {v : Value} {ts : List ByteArray} {aF aT aU : Addr} {w0 W W' : World} {row : Option Nat} (h : PSt base p v ts aF aT aU w0 W) (hg : W.grownBy W' row)
    (hr : ∀ k, row = some k → w0.heap.size ≤ k ∧ base ≤ k ∧ ∃ cs fr, W.heap[k]? = some (.cells cs 44 fr)) : PSt base p v ts aF aT aU w0 W' := by
  have hne : ∀ (k : Nat) cs t fr, t ≠ 44 → W.heap[k]? = some (.cells cs t fr) → row ≠ some k := fun k cs t fr ht hk e => by
    obtain ⟨_, _, cs', fr', hc⟩ := hr k e
    rw [hk] at hc
    simp only [Option.some.injEq, Obj.cells.injEq] at hc
    exact ht hc.2.1
  have hlow : ∀ k, k < base → k < W.heap.size → W'.heap[k]? = W.heap[k]? := fun k hk hl => hg.block k hl fun e => by have := (hr k e.symm).2.1; omega
  have hcell : ∀ (k : Nat) (u : Value), k < base → W.cell? ⟨k, 0, none⟩ = some u → W'.cell? ⟨k, 0, none⟩ = some u := fun k u hk hc => by
    rw [← hc]
    exact World.cell?_of_block (hlow k hk (by have := h.le; omega))
  have h5 := h.five
  refine ⟨⟨(hg.block p (blk_lt h.at_.blk) fun e => hne p _ 109 _ (by decide) h.at_.blk e.symm).trans h.at_.blk, h.at_.own.kept hg ?_, h.at_.hp⟩, ⟨hcell 3 _ (by omega) h.sen.f, hcell 2 _ (by omega) h.sen.t, hcell 4 _ (by omega) h.sen.u⟩,
    ⟨hg.os.trans h.stay.os, hg.tape.trans h.stay.tape, hg.output.trans h.stay.output, Nat.le_trans h.stay.size hg.size, fun k hk hx => ?_⟩, h5, Nat.le_trans h.le hg.size, h.few, h.siz, h.nd⟩
  · rcases h.at_.own.2 with ⟨rfl, _⟩ | ⟨g, cap, cur, rfl, _, hgb, _⟩
    · exact .inl rfl
    · exact .inr fun e => hne g _ 9 _ (by decide) hgb e.symm
  · exact (hg.block k (Nat.lt_of_lt_of_le hk h.stay.size) fun e => by have := (hr k e.symm).1; omega).trans (h.stay.same k hk hx)

/-- The law in plain lists. -/
theorem once_drop {ts : List ByteArray} (h : ts.Nodup) (k : Nat) (hk : k < ts.length) : dropT ts [ts[k]] = ts.take k ++ ts.drop (k + 1) := by
  have hd : ts = ts.take k ++ ts[k] :: ts.drop (k + 1) := by rw [← List.drop_eq_getElem_cons hk, List.take_append_drop]
  have hf : ∀ s ∈ ts, (inT [ts[k]] s = true ↔ s = ts[k]) := fun s _ => by rw [inT_iff, List.mem_singleton]
  have hnd : (ts.take k ++ ts[k] :: ts.drop (k + 1)).Nodup := by rw [← hd]; exact h
  obtain ⟨_, h2, h3⟩ := List.nodup_append.1 hnd
  have h2' := (List.nodup_cons.1 h2).1
  unfold dropT
  obtain ⟨x, hx⟩ : ∃ x, x = ts[k] := ⟨_, rfl⟩
  rw [← hx] at hf h3 h2' hd ⊢
  conv => lhs; rw [hd]
  rw [List.filter_append, List.filter_eq_self.2, List.filter_cons_of_neg, List.filter_eq_self.2]
  · intro s hs
    have : inT [x] s = false := (inT_false _ _).2 fun hm => h2' (by rw [List.mem_singleton] at hm; rw [← hm]; exact hs)
    rw [this]; rfl
  · rw [show inT [x] x = true from (inT_iff _ _).2 (by simp)]; simp
  · intro s hs
    have : inT [x] s = false := (inT_false _ _).2 fun hm => h3 s hs x (by simp) (by simpa using hm)
    rw [this]; rfl
theorem once_notin {ts : List ByteArray} (h : ts.Nodup) (k : Nat) (hk : k < ts.length) : inT (ts.take k ++ ts.drop (k + 1)) ts[k] = false := by
  have hd : ts.take k ++ ts[k] :: ts.drop (k + 1) = ts := by rw [← List.drop_eq_getElem_cons hk, List.take_append_drop]
  have hnd : (ts.take k ++ ts[k] :: ts.drop (k + 1)).Nodup := by rw [hd]; exact h
  obtain ⟨_, h2, h3⟩ := List.nodup_append.1 hnd
  have h2' := (List.nodup_cons.1 h2).1
  rw [inT_false]
  intro hm
  rcases List.mem_append.1 hm with hm | hm
  · exact h3 _ hm _ List.mem_cons_self rfl
  · exact h2' hm
theorem wpList_gro1 {ops : Array Oper} {rest : List Oper} {o : Oper} {a : Act} {w w0 : World} {Q : Exit → Act → World → Prop} {base : Nat} (hw : Region.wanted o (yielded ops a.tmps) = true) (s x : Operand)
    (ho : o.op = .call { callee := .builtin .append, args := #[s, x], argTypes := #[41, 41] }) (v : Value) (xs : List (Value × List Int)) (hs : a.eval s = v) (G : Gro w0 base w v xs)
    (u : Value) (bs : List Int) (hx : a.eval x = .slice (some ⟨w.heap.size, 0, none⟩) 1 1) (hu : BsF base w0 u bs) (N : Nat) (hN : N = xs.length + 1) (hlen : N ≤ 1000)
    (h : ∀ A' c' w1, Gro w0 base w1 (.slice A' N c') (xs ++ [(u, bs)]) → w.grownBy w1 v.ownBlock → wpList Tryd.prog ops Q rest (a.put o.dst (.slice A' N c')) w1) : wpList Tryd.prog ops Q (o :: rest) a (w.alloc (.cells #[u] 44)) := by
  subst hN
  have h1 : u.oneCell' = true := by obtain ⟨A, c, e⟩ := hu.red.form; rw [e]; rfl
  have G' := G.go ((Below.refl w.heap.size w).alloc (Nat.le_refl _) (.cells #[u] 44))
  refine appO (w0 := w0) w0.heap.size hw s x 41 41 44 (.slice none 0 0) 24 ho Tryd.underlying41 Tryd.info44 rfl (by omega) v (xs.map (·.1)) hs _ 1 [u] hx (src44 h1 (heap_alloc_new w _)) G'.own G'.bel G'.bel.size (by rw [List.length_map]; omega) fun v1 w1 ap => ?_
  obtain ⟨A', c', e, _⟩ := ap.own.len
  have : v1 = .slice A' (xs.length + 1) c' := by rw [e]; simp
  subst this
  refine h A' c' w1 ⟨by have := ap.own; rwa [show xs.map (·.1) ++ [u] = (xs ++ [(u, bs)]).map (·.1) by simp] at this, fun y hy => ?_, ap.below⟩ (World.grownBy.trans (World.grownBy_alloc w _ _) ap.grown)
  rcases List.mem_append.1 hy with hy | hy
  · exact G.el y hy
  · rw [List.mem_singleton] at hy; subst hy; exact hu

theorem addV_ok {ts : List ByteArray} {bs : List Int} {aF aT aU : Addr} (h : addOk ts bs = true) : addV ts bs aF aT aU = .nilIface := by
  unfold addOk at h
  simp only [Bool.and_eq_true, decide_eq_true_eq, Bool.not_eq_true'] at h
  unfold addV
  rw [if_neg (fun hh => hh h.1.1), if_neg (by rw [h.1.2]; simp), if_neg (by omega)]
theorem addV_no {ts : List ByteArray} {bs : List Int} {aF aT aU : Addr} (h : addOk ts bs = false) : ∃ a, addV ts bs aF aT aU = errV a := by
  unfold addV
  by_cases h1 : 1 ≤ bs.length ∧ bs.length ≤ 16
  · rw [if_neg (fun hh => hh h1)]
    cases h2 : inT ts (strOfNums bs) with
    | true => exact ⟨aT, rfl⟩
    | false =>
      by_cases h3 : 16 ≤ ts.length
      · exact ⟨aU, by simp [h3]⟩
      · unfold addOk at h
        rw [decide_eq_true h1, h2, decide_eq_true (by omega)] at h
        cases h
  · exact ⟨aF, by rw [if_pos h1]⟩
theorem Gro.stay {w0 W W' : World} {base : Nat} {v : Value} {xs : List (Value × List Int)} (h : Gro w0 base W v xs) (hs : Stay base W W') (hb : Below w0.heap.size W W') : Gro w0 base W' v xs := by
  refine ⟨?_, h.el, h.bel.trans hb⟩
  rcases h.own with h | ⟨g, off, cap, cur, fr, rfl, hb, hg, rest⟩
  · exact .inl h
  · exact .inr ⟨g, off, cap, cur, fr, rfl, hb, (hs.same g (blk_lt hg) (.inr ⟨cur, 44, fr, hg, by decide, by decide⟩)).trans hg, rest⟩
theorem Gro.row {w0 W : World} {base : Nat} {v : Value} {xs : List (Value × List Int)} (h : Gro w0 base W v xs) (hb : base ≤ w0.heap.size) : ∀ k, v.ownBlock = some k → w0.heap.size ≤ k ∧ base ≤ k ∧ ∃ cs fr, W.heap[k]? = some (.cells cs 44 fr) := by
  intro k hk
  rcases h.own with ⟨rfl, _⟩ | ⟨g, off, cap, cur, fr, rfl, hg, hgb, _⟩
  · simp [Value.ownBlock] at hk
  · obtain rfl : g = k := by simpa [Value.ownBlock] using hk
    exact ⟨hg, by omega, cur, fr, hgb⟩
theorem Gro.cell {w0 W : World} {base g o m c k : Nat} {xs : List (Value × List Int)} (h : Gro w0 base W (.slice (some ⟨g, o, none⟩) m c) xs) (hk : k < xs.length) : W.cell? ⟨g, o + k, none⟩ = some (xs[k]).1 := by
  obtain ⟨b, off, c', e, _, _, hc⟩ := h.own.row (by simp; omega)
  simp only [Value.slice.injEq, Option.some.injEq, Addr.mk.injEq, and_true] at e
  obtain ⟨⟨rfl, rfl⟩, _⟩ := e
  exact hc k _ (by simp [hk])
def txt (xs : List (Value × List Int)) : List ByteArray := (xs.map (·.2)).map strOfNums
theorem txt_snoc (xs : List (Value × List Int)) (u : Value) (bs : List Int) : txt (xs ++ [(u, bs)]) = txt xs ++ [strOfNums bs] := by simp [txt]
theorem txt_len (xs : List (Value × List Int)) : (txt xs).length = xs.length := by simp [txt]

set_option maxHeartbeats 8000000 in
set_option maxRecDepth 100000 in
theorem poolOnce_any (ps : List (List Int)) (z : Int) (A : Option Addr) (n c : Nat) (aF aT aU : Addr) (w : World) (hv : Bss w (.slice A n c) ps) (hs : PSen w aF aT aU) :
    Calls Tryd.prog 7 #[.slice A n c, .int .i64 z] w fun e w' => e = .returned (.bool true) ∧ Below w.heap.size w w' := by
  have HS := Lib.hid hs
  have HV := Lib.hid hv
  clear hs hv
  go_enter Tryd.func7, Tryd.ntmps7
  go_wp2_with fail
  refine (plAlive_any aF aT aU w HS.out).mono ?_
  rintro _ w1 ⟨rfl, bel1⟩
  have S1 := Lib.hid (HS.out.below bel1)
  have V1 := Lib.hid (HV.out.below bel1)
  have B1 := Lib.hid bel1
  clear bel1 HS HV
  by_cases h30 : 30 < n
  · have h30' : (30 : Int) < n := by omega
    go_wp2_with fail
    go_ret
    exact ⟨rfl, B1.out⟩
  have h30' : ¬ (30 : Int) < n := by omega
  go_wp2_with fail
  refine (new_any w1).mono ?_
  rintro _ _ ⟨rfl, rfl⟩
  have P0 := Lib.hid ((PSt.new S1.out).alloc (.cells #[] 44))
  have G0 : Hid (Gro w1 w1.heap.size ((w1.alloc (.cells #[.slice none 0 0] 109)).alloc (.cells #[] 44)) (.slice (some ⟨w1.heap.size + 1, 0, none⟩) 0 0) []) := Lib.hid (by
    have h := (own_mk (e := 44) (c := 0) (w1.alloc (.cells #[.slice none 0 0] 109)) (Nat.le_refl _) #[] rfl (by simp [maxLen]) rfl).mono (show w1.heap.size ≤ (w1.alloc (.cells #[.slice none 0 0] 109)).heap.size by simp)
    rw [show (w1.alloc (.cells #[.slice none 0 0] 109)).heap.size = w1.heap.size + 1 by simp] at h
    exact ⟨h, fun y hy => by simp at hy, ((Below.refl _ _).alloc (Nat.le_refl _) _).alloc (by simp) _⟩)
  clear S1
  go_wp2_with fail
  go_loopw [6, 8, 20] (fun s _ k wr => ∃ (i m c' : Nat) (A' : Option Addr) (v : Value) (ts : List ByteArray) (xs : List (Value × List Int)), i ≤ n ∧ m ≤ i ∧ s = .slice A' m c' ∧ k = .int .i64 i ∧ Hid (m = xs.length) ∧ Hid (PSt w1.heap.size w1.heap.size v ts aF aT aU w1 wr) ∧ Hid (Gro w1 w1.heap.size wr (.slice A' m c') xs) ∧ Hid (txt xs = ts))
    (fun _ _ k _ => n - (intOf k).toNat)
  case atStart => exact ⟨0, 0, 0, _, _, _, [], by omega, by omega, rfl, rfl, Lib.hid rfl, P0, G0, Lib.hid rfl⟩
  case round =>
    clear P0 G0
    obtain ⟨i, m, c', A', v, ts, xs, hi, hmi, rfl, rfl, hm, P, G, T⟩ := hrel
    by_cases hlt : i < n
    · have hil : (i : Int) < n := by omega
      have hlow := P.out.low (Nat.le_refl _)
      obtain ⟨b, off, B, mb, d, rfl, ra1, ea1⟩ := V1.out.el i hlt
      have ra := cell_on hlow ra1
      have EA := Lib.hid (BsF.of_low ea1 (Nat.le_refl _) hlow)
      have E1 := Lib.hid (BsF.of_low ea1 (Nat.le_refl _) (Below.refl _ _))
      clear ra1 ea1 hlow
      obtain ⟨bs, hbs⟩ : ∃ bs, bs = ps.getD i [] := ⟨_, rfl⟩
      rw [← hbs] at EA E1
      clear hbs
      by_cases h100 : 100 < mb
      · have h100' : (100 : Int) < mb := by omega
        go_wp2_with fail
        go_ret
        exact ⟨rfl, (B1.out.trans ((P.out.low (Nat.le_refl _)).mono B1.out.size))⟩
      have h100' : ¬ (100 : Int) < mb := by omega
      go_wp2_with fail
      refine (add_st _ _ v ts bs B mb d aF aT aU w1 wr P.out EA.out).mono ?_
      rintro _ w2 ⟨rfl, v2, p2, s2⟩
      have G2 := Lib.hid (G.out.stay s2 (s2.low P.out.le))
      cases hok : addOk ts bs with
      | true =>
        rw [addV_ok hok]
        rw [addT_yes hok] at p2
        have P2 := Lib.hid p2
        clear p2 P EA ra G s2 hok
        go_wp2_with (at_builtin; refine wpList_gro1 (w0 := w1) (base := w1.heap.size) rfl (.tmp 31) (.tmp 33) rfl _ xs rfl G2.out (.slice B mb d) bs rfl E1.out (m + 1) (by rw [hm.out]) (by omega) ?_; intro A5 c5 w5 g5 gr5; have G5 := Lib.hid g5; have P5 := Lib.hid (P2.out.grown gr5 (G2.out.row (Nat.le_refl _))); clear g5 gr5)
        go_roundw
        case rel => exact ⟨i + 1, m + 1, _, _, v2, _, xs ++ [(.slice B mb d, bs)], by omega, by omega, rfl, by go_num, Lib.hid (by rw [List.length_append, hm.out]; rfl), P5, G5, Lib.hid (by rw [txt_snoc, T.out])⟩
        case measure => simp [intOf]; omega
      | false =>
        obtain ⟨ae, hae⟩ := addV_no (aF := aF) (aT := aT) (aU := aU) hok
        rw [hae]
        rw [addT_no hok] at p2
        have P2 := Lib.hid p2
        clear p2 P EA ra G s2 hok hae
        go_wp2_with fail
        go_roundw
        case rel => exact ⟨i + 1, m, _, _, v2, _, xs, by omega, by omega, rfl, by go_num, hm, P2, G2, T⟩
        case measure => simp [intOf]; omega
    · obtain rfl : i = n := by omega
      have hml : Hid (m = ts.length) := Lib.hid (by rw [← T.out, txt_len, hm.out])
      clear V1 hlt hi
      go_wp2_with fail
      refine (len_any _ _ v ts wr P.out.at_).mono ?_
      rintro _ wr ⟨rfl, rfl⟩
      rw [← hml.out]
      go_wp2_with fail
      refine (take_st _ _ v ts 100 [] none 0 0 aF aT aU w1 wr P.out Bss.nil (by omega)).mono ?_
      rintro _ w3 ⟨A3, c3, zs, rfl, l3, t3, bel3⟩
      rw [List.map_nil, takeT_100 P.out.few] at l3 t3 ⊢
      rw [← hml.out] at l3 ⊢
      have P3 := Lib.hid (P.out.below bel3)
      have G3 := Lib.hid (G.out.go bel3)
      have L3 := Lib.hid l3
      have T3 := Lib.hid t3
      clear l3 t3 bel3 P G
      go_wp2_with fail
      refine (sameLists_any (zs.map (·.2)) (xs.map (·.2)) A3 A' m m c3 c' w3 L3.out.bss (G3.out.lst (Nat.le_refl _)).bss (by omega)).mono ?_
      rintro _ w4 ⟨rfl, bel4⟩
      have hE : (zs.map (·.2)).map strOfNums = (xs.map (·.2)).map strOfNums := by rw [T3.out]; exact T.out.symm
      rw [decide_eq_true hE]
      have P4 := Lib.hid (P3.out.below bel4)
      have G4 := Lib.hid (G3.out.go bel4)
      clear hE bel4 P3 G3 L3 T3
      by_cases hm0 : m = 0
      · have hm0' : (m : Int) = 0 := by omega
        go_wp2_with fail
        go_ret
        exact ⟨rfl, B1.out.trans ((P4.out.low (Nat.le_refl _)).mono B1.out.size)⟩
      have hm0' : ¬ (m : Int) = 0 := by omega
      have hmp : 0 < m := by omega
      obtain ⟨k, hk, hkl⟩ := rem_u64 z m hmp
      have hwm : IntKind.u64.wrap (m : Int) = m := by rw [IntKind.wrap_u64]; omega
      have hkx : k < xs.length := by have := hm.out; omega
      have hkt : k < ts.length := by have := hml.out; omega
      have hki : (k : Int) < m := by omega
      have L4 := G4.out.lst (Nat.le_refl _)
      obtain ⟨g, o, c0, e0, hcx, hbx⟩ := L4.el_at k hkx
      rw [← hm.out] at e0
      simp only [Value.slice.injEq, true_and] at e0
      obtain ⟨rfl, rfl⟩ := e0
      obtain ⟨bx, hbxe⟩ : ∃ b, b = (xs[k]).2 := ⟨_, rfl⟩
      have hxt : strOfNums bx = ts[k] := by rw [hbxe]; simp [← T.out, txt]
      obtain ⟨BX, dX, eX⟩ := hbx.red.form
      obtain ⟨mx, hmx⟩ : ∃ y, y = bx.length := ⟨_, rfl⟩
      rw [← hbxe] at eX hbx
      rw [← hmx] at eX
      have EX : Hid ((xs[k]).1 = .slice BX mx dX) := Lib.hid eX
      rw [eX] at hcx hbx
      have HB4 := Lib.hid hbx
      have hbl : 1 ≤ bx.length ∧ bx.length ≤ 16 := by
        have := P4.out.siz ts[k] (List.getElem_mem hkt)
        rwa [← hxt, strOfNums_size] at this
      have hlo := lst_one hbx P4.out.le
      have HXT := Lib.hid hxt
      have HBL := Lib.hid hbl
      have EB := Lib.hid hbxe
      have hkw : IntKind.i64.wrap (k : Int) = k := by rw [IntKind.wrap_i64]; omega
      clear hbxe hxt hmx eX hbx L4 hbl
      go_wp2_with fail
      refine (drop_st _ _ v ts [bx] (some ⟨w4.heap.size, 0, none⟩) 1 1 aF aT aU w1 _ (P4.out.alloc _) (fun W hW => (hlo.stay hW).bss) (by omega)).mono ?_
      rintro _ w5 ⟨rfl, v5, p5, s5⟩
      have hdr : dropT ts ([bx].map strOfNums) = ts.take k ++ ts.drop (k + 1) := by
        rw [List.map_cons, List.map_nil, HXT.out]
        exact once_drop P4.out.nd k hkt
      have hdl : (ts.take k ++ ts.drop (k + 1)).length = m - 1 := by rw [List.length_append, List.length_take, List.length_drop, hml.out]; have := hkt; omega
      rw [hdr] at p5 ⊢
      rw [hdl, ← hml.out]
      have hone : (m : Int) - ((m - 1 : Nat) : Int) = 1 := by omega
      have P5 := Lib.hid p5
      have G5 := Lib.hid ((G4.out.go ((Below.refl _ _).alloc (Nat.le_refl _) _)).stay s5 (s5.low (P4.out.alloc _).le))
      have HB5 := Lib.hid (((HB4.out.stay (Stay.of_below ((Below.refl _ _).alloc (Nat.le_refl _) _)))).stay s5)
      clear hlo p5 s5 hdr HB4 hcx
      have hcx5 := G5.out.cell hkx
      rw [EX.out] at hcx5
      go_wp2_with fail
      refine (has_any w1.heap.size w1.heap.size v5 (ts.take k ++ ts.drop (k + 1)) bx BX mx dX w5 P5.out.at_ HB5.out.red (by omega)).mono ?_
      rintro _ w6 ⟨rfl, bel6⟩
      have hni : inT (ts.take k ++ ts.drop (k + 1)) (strOfNums bx) = false := by rw [HXT.out]; exact once_notin P4.out.nd k hkt
      rw [hni]
      have HNI := Lib.hid hni
      have P6 := Lib.hid (P5.out.below bel6)
      have G6 := Lib.hid (G5.out.go bel6)
      have HB6 := Lib.hid (HB5.out.stay (Stay.of_below bel6))
      clear hni bel6 hcx5
      have hcx6 := G6.out.cell hkx
      rw [EX.out] at hcx6
      go_wp2_with fail
      refine (add_st _ _ v5 _ bx BX mx dX aF aT aU w1 w6 P6.out HB6.out).mono ?_
      rintro _ w7 ⟨rfl, v7, p7, s7⟩
      have hok : addOk (ts.take k ++ ts.drop (k + 1)) bx = true := by
        unfold addOk
        rw [decide_eq_true HBL.out, HNI.out, decide_eq_true (by rw [hdl]; have := P4.out.few; have := hml.out; omega)]
        rfl
      rw [addV_ok hok]
      rw [addT_yes hok, HXT.out] at p7
      have P7 := Lib.hid p7
      have G7 := Lib.hid (G6.out.stay s7 (s7.low P6.out.le))
      clear hok p7 s7 P6 G6 HB6 HB5 G5 P5 HNI hcx6 hone hdl
      go_wp2_with fail
      have hxl : (xs.map (·.1)).length = m := by rw [List.length_map, hm.out]
      have hkm : k < m := by omega
      have hm16 : m ≤ 16 := by have := P4.out.few; have := hml.out; omega
      have hmc : m ≤ c' := by
        obtain ⟨A', c'', e, h⟩ := G7.out.own.len
        simp only [Value.slice.injEq] at e
        omega
      have hck : ¬ c' < k := by omega
      have hkw1 : IntKind.i64.wrap ((k : Int) + 1) = (k : Int) + 1 := by rw [IntKind.wrap_i64]; omega
      obtain ⟨B, hBd⟩ : ∃ B, B = w7.heap.size := ⟨_, rfl⟩
      obtain ⟨q, hq⟩ : ∃ q, q = m - (k + 1) := ⟨_, rfl⟩
      obtain ⟨L, hL⟩ : ∃ L, L = (xs.map (·.1)).take k ++ (xs.map (·.1)).drop (k + 1) ++ [Value.slice BX mx dX] := ⟨_, rfl⟩
      have hl1 : ((xs.map (·.1)).take k).length = k := by rw [List.length_take]; omega
      have hl2 : ((xs.map (·.1)).drop (k + 1)).length = q := by rw [List.length_drop]; omega
      have hLl : L.length = m := by rw [hL, List.length_append, List.length_append, hl1, hl2]; simp; omega
      have hone := one_lst xs G7.out.el
      have toB : ∀ W, Below B w7.drew W → Below w7.heap.size w7 W := fun W hW => (Below.refl w7.heap.size w7).drew.trans (by rw [hBd] at hW; exact hW)
      have HSRC1 : Hid (∀ W, Below B w7.drew W → Src Tryd.prog 1 41 (.slice (some ⟨g, o, none⟩) k c') k ((L.drop 0).take k) W) := Lib.hid (fun W hW => by
        have ho := (G7.out.own.take (k := k) (by omega)).below (toB W hW)
        rw [List.drop_zero, hL, List.append_assoc, List.take_append_of_le_length (by omega), List.take_of_length_le (by omega)]
        exact ho.src Tryd.underlying41 fun u hu => hone u (List.mem_of_mem_take hu))
      obtain ⟨A2, hA2⟩ : ∃ a : Addr, a = if c' = k + 1 then ⟨g, o, none⟩ else ⟨g, o + (k + 1), none⟩ := ⟨_, rfl⟩
      obtain ⟨c2, hc2⟩ : ∃ x, x = c' - (k + 1) := ⟨_, rfl⟩
      have HSRC2 : Hid (∀ W, Below B w7.drew W → Src Tryd.prog 1 41 (.slice (some A2) q c2) q ((L.drop k).take q) W) := Lib.hid (fun W hW => by
        have ho := (G7.out.own.drop (k := k + 1) (by omega)).below (toB W hW)
        rw [hL, List.append_assoc, List.drop_append_of_le_length (by omega), List.drop_of_length_le (by omega), List.nil_append, List.take_append_of_le_length (by omega), List.take_of_length_le (by omega), hA2, hc2, hq]
        exact ho.src Tryd.underlying41 fun u hu => hone u (List.mem_of_mem_drop hu))
      have HS2 : Hid (∀ W : World, (Instr.sliceAt 41 (.slice (some ⟨g, o, none⟩) m c') (some (.int .i64 ((k : Int) + 1))) none none).run Tryd.prog W = .ok (.slice (some A2) q c2) W) := Lib.hid (fun W => by
        have h1 : ¬ c' < m := by omega
        have h2 : ¬ m < k + 1 := by omega
        have h3 : ¬ (m : Int) < (k : Int) + 1 := by omega
        have h4 : (0 : Int) ≤ (k : Int) + 1 := by omega
        go_simp
        rw [if_pos (by omega)]
        split <;> rfl)
      have HCX : Hid (∀ W, Below B w7.drew W → W.cell? ⟨g, o + k, none⟩ = some (.slice BX mx dX)) := Lib.hid (fun W hW => cell_on (toB W hW) (by have := G7.out.cell hkx; rwa [EX.out] at this))
      have HX1 : Hid ((Value.slice BX mx dX).oneCell' = true) := Lib.hid rfl
      have HL3 : Hid ((L.drop (k + q)).take 1 = [Value.slice BX mx dX]) := Lib.hid (by
        rw [hL, List.drop_append_of_le_length (by rw [List.length_append]; omega), List.drop_of_length_le (by rw [List.length_append]; omega)]
        rfl)
      have hbase7 := P7.out.le
      have TOB := Lib.hid toB
      have HLE := Lib.hid hL
      clear hL toB hone hl1 hl2 hA2 hc2
      refine wp_region_rely (by kernel_rfl) 16 (by kernel_rfl) (by kernel_rfl) (Keep L B) Keep.refl Keep.trans (fun ix => match ix with
        | 0 => fun w v => RowL L B w v 0
        | 1 => fun _ v => v = .slice (some ⟨g, o, none⟩) m c'
        | 2 => fun _ v => v = .int .i64 k
        | 3 => fun _ v => v = .slice (some ⟨g, o, none⟩) k c'
        | 4 => fun w v => RowL L B w v k
        | 5 => fun _ v => v = .slice (some ⟨g, o, none⟩) m c'
        | 6 => fun _ v => v = .int .i64 k
        | 7 => fun _ v => v = .int .i64 ((k : Int) + 1)
        | 8 => fun _ v => v = .slice (some A2) q c2
        | 9 => fun w v => RowL L B w v (k + q)
        | 10 => fun _ v => v = .slice (some ⟨g, o, none⟩) m c'
        | 11 => fun _ v => v = .int .i64 k
        | 12 => fun _ v => v = .pointer (some ⟨g, o + k, none⟩)
        | 13 => fun _ v => v = .slice BX mx dX
        | 14 => fun w v => ∃ b, v = .slice (some ⟨b, 0, none⟩) 1 1 ∧ B ≤ b ∧ w.heap[b]? = some (.cells #[.slice BX mx dX] 44 (0, 0))
        | 15 => fun w v => RowL L B w v m
        | _ => fun _ _ => False) ?_
      simp (maxSteps := 10000000) only [Rely, List.take_succ_cons, List.take_zero, List.drop_succ_cons, List.drop_zero, Nat.reduceAdd, Nat.zero_add, Act.put, List.setIfInBounds_toArray, List.set_cons_succ, List.set_cons_zero]
      refine ⟨?_, ?_, ?_, ?_, ?_, ?_, ?_, ?_, ?_, ?_, ?_, ?_, ?_, ?_, ?_, ?_, ?_⟩
      · refine step_plain rfl fun vs w1 hE hd => ?_
        exact gives_build 41 0 _ rfl #[] (by simp) (.slice (some ⟨w1.heap.size, 0, none⟩) 0 0) (w' := w1.alloc (.cells #[] 44)) (by go_simp) ⟨Keep.of_below ((Below.refl _ _).alloc (Nat.le_refl _) _) (by rw [hBd]; exact hE.1.size), fun w'' hE2 => (rowL_new L w1 B (by rw [hBd]; exact hE.1.size)).keep hE2⟩
      · refine step_plain rfl fun vs w1 hE hd => ?_
        exact gives_move _ (.slice (some ⟨g, o, none⟩) m c') (.inl rfl) rfl ⟨Keep.refl _, fun _ _ => rfl⟩
      · refine step_plain rfl fun vs w1 hE hd => ?_
        exact gives_move _ (.int .i64 k) (.inl rfl) rfl ⟨Keep.refl _, fun _ _ => rfl⟩
      · refine step_plain rfl fun vs w1 hE hd => ?_
        exact gives_slice 41 _ none _ none rfl (.slice (some ⟨g, o, none⟩) m c') _ none (some (.int .i64 (k : Int))) none (show vs 1 = _ from (hd.1)) rfl (congrArg some (show vs 2 = _ from (hd.2.1))) rfl (by go_simp) ⟨Keep.refl _, fun _ _ => rfl⟩
      · refine step_plain rfl fun vs w1 hE hd => ?_
        refine gives_append_keep _ _ rfl L B 0 k _ _ (show vs 0 = vs 0 from rfl) (show vs 3 = _ from (hd.2.1)) ((hd.1)) (HSRC1.out w1 hE.1) (by omega) (by omega) (by rw [hBd]; exact hE.1.size) fun v' w' h1 h2 => ⟨h2, fun w'' h3 => ?_⟩
        rw [Nat.zero_add] at h1
        exact h1.keep h3
      · refine step_plain rfl fun vs w1 hE hd => ?_
        exact gives_move _ (.slice (some ⟨g, o, none⟩) m c') (.inl rfl) rfl ⟨Keep.refl _, fun _ _ => rfl⟩
      · refine step_plain rfl fun vs w1 hE hd => ?_
        exact gives_move _ (.int .i64 k) (.inl rfl) rfl ⟨Keep.refl _, fun _ _ => rfl⟩
      · refine step_plain rfl fun vs w1 hE hd => ?_
        exact gives_binOp .add 3 _ _ _ rfl (.int .i64 k) (Value.int IntKind.i64 1) (.int .i64 ((k : Int) + 1)) (show vs 6 = _ from hd.1) rfl (by go_simp) (by go_simp) ⟨Keep.refl _, fun _ _ => rfl⟩
      · refine step_plain rfl fun vs w1 hE hd => ?_
        exact gives_slice 41 _ _ none none rfl (.slice (some ⟨g, o, none⟩) m c') _ (some (.int .i64 ((k : Int) + 1))) none none (show vs 5 = _ from (hd.1)) (congrArg some (show vs 7 = _ from (hd.2.1))) rfl rfl (HS2.out w1) ⟨Keep.refl _, fun _ _ => rfl⟩
      · refine step_plain rfl fun vs w1 hE hd => ?_
        refine gives_append_keep _ _ rfl L B k q _ _ (show vs 4 = vs 4 from rfl) (show vs 8 = _ from (hd.2.1)) ((hd.1)) (HSRC2.out w1 hE.1) (by omega) (by omega) (by rw [hBd]; exact hE.1.size) fun v' w' h1 h2 => ⟨h2, fun w'' h3 => h1.keep h3⟩
      · refine step_plain rfl fun vs w1 hE hd => ?_
        exact gives_move _ (.slice (some ⟨g, o, none⟩) m c') (.inl rfl) rfl ⟨Keep.refl _, fun _ _ => rfl⟩
      · refine step_plain rfl fun vs w1 hE hd => ?_
        exact gives_move _ (.int .i64 k) (.inl rfl) rfl ⟨Keep.refl _, fun _ _ => rfl⟩
      · refine step_plain rfl fun vs w1 hE hd => ?_
        exact gives_indexAt 41 _ _ rfl (.slice (some ⟨g, o, none⟩) m c') (.int .i64 k) (.pointer (some ⟨g, o + k, none⟩)) (show vs 10 = _ from hd.1) (show vs 11 = _ from hd.2.1) (by go_simp) ⟨Keep.refl _, fun _ _ => rfl⟩
      · refine step_plain rfl fun vs w1 hE hd => ?_
        have hc := HCX.out w1 hE.1
        exact gives_loadAt 44 _ rfl (.pointer (some ⟨g, o + k, none⟩)) (.slice BX mx dX) (show vs 12 = _ from hd.1) (by go_simp) ⟨Keep.refl _, fun _ _ => rfl⟩
      · refine step_plain rfl fun vs w1 hE hd => ?_
        refine gives_build1 41 _ rfl (.slice BX mx dX) (show vs 13 = _ from (hd.1)) (.slice (some ⟨w1.heap.size, 0, none⟩) 1 1) (w' := w1.alloc (.cells #[.slice BX mx dX] 44)) (by go_simp) ⟨Keep.of_below ((Below.refl _ _).alloc (Nat.le_refl _) _) (by rw [hBd]; exact hE.1.size), fun w'' hE2 => ⟨w1.heap.size, rfl, (by rw [hBd]; exact hE.1.size), src_keep hE2 (by rw [hBd]; exact hE.1.size) (heap_alloc_new w1 _)⟩⟩
      · refine step_plain rfl fun vs w1 hE hd => ?_
        obtain ⟨b, hb14, _, hbb⟩ := (hd.2.1)
        refine gives_append_keep _ _ rfl L B (k + q) 1 _ _ (show vs 9 = vs 9 from rfl) (show vs 14 = _ from hb14) ((hd.1)) (by rw [HL3.out]; exact src44 HX1.out hbb) (by omega) (by omega) (by rw [hBd]; exact hE.1.size) fun v' w' h1 h2 => ⟨h2, fun w'' h3 => ?_⟩
        rw [show k + q + 1 = m by omega] at h1
        exact h1.keep h3
      · intro vs w2 hE hR
        have h15 : RowL L B w2 (vs 15) m := hR 15 (by omega)
        have hbel8 : Below w7.heap.size w7 w2 := TOB.out w2 hE.1
        have ho15 := h15.2.1
        rw [List.take_of_length_le (by omega)] at ho15
        obtain ⟨v15, hv15⟩ : ∃ v, v = vs 15 := ⟨_, rfl⟩
        rw [← hv15] at ho15 ⊢
        obtain ⟨A9, c9, rfl⟩ := own_form ho15
        have hbB : w1.heap.size ≤ B := by rw [hBd]; exact hbase7
        have P8 := Lib.hid (P7.out.below hbel8)
        have L8 : Hid (Lst w1.heap.size w2 (.slice A9 m c9) (xs.take k ++ xs.drop (k + 1) ++ [xs[k]])) := Lib.hid ⟨by
            have h := (OwnO.of_own ho15).mono hbB
            rw [HLE.out, ← EX.out] at h
            rw [List.map_append, List.map_append, List.map_take, List.map_drop]
            exact h, fun y hy => by
            have hy' : y ∈ xs := by
              rcases List.mem_append.1 hy with h | h
              · rcases List.mem_append.1 h with h | h
                · exact List.mem_of_mem_take h
                · exact List.mem_of_mem_drop h
              · rw [List.mem_singleton] at h; rw [h]; exact List.getElem_mem _
            exact ((G7.out.lst (Nat.le_refl _)).el y hy').stay (Stay.of_below hbel8)⟩
        clear hR hE h15 ho15 hbel8 hv15 TOB HSRC1 HSRC2 HS2 HCX HX1 HL3 P7 G7
        go_wp2_with fail
        refine (take_st _ _ v7 _ 100 [] none 0 0 aF aT aU w1 w2 P8.out Bss.nil (by omega)).mono ?_
        rintro _ w9 ⟨A10, c10, us, rfl, l9, t9, bel9⟩
        have hlen9 : (ts.take k ++ ts.drop (k + 1) ++ [ts[k]]).length = m := by
          rw [List.length_append, List.length_append, List.length_take, List.length_drop]
          have := hml.out
          simp; omega
        rw [List.map_nil, takeT_100 P8.out.few] at l9 t9 ⊢
        rw [hlen9] at l9 ⊢
        have P9 := Lib.hid (P8.out.below bel9)
        have L9 := Lib.hid l9
        have T9 := Lib.hid t9
        have L89 := Lib.hid (L8.out.stay (Stay.of_below bel9))
        clear l9 t9 bel9 P8 L8 hlen9
        go_wp2_with fail
        refine (sameLists_any (us.map (·.2)) ((xs.take k ++ xs.drop (k + 1) ++ [xs[k]]).map (·.2)) A10 A9 m m c10 c9 w9 L9.out.bss L89.out.bss (by omega)).mono ?_
        rintro _ w10 ⟨rfl, bel10⟩
        have hE : (us.map (·.2)).map strOfNums = ((xs.take k ++ xs.drop (k + 1) ++ [xs[k]]).map (·.2)).map strOfNums := by
          rw [T9.out]
          have hTT : ts = (xs.map (·.2)).map strOfNums := T.out.symm
          simp only [List.map_append, List.map_take, List.map_drop, ← hTT, List.map_cons, List.map_nil, ← EB.out, HXT.out]
        rw [decide_eq_true hE]
        have P10 := Lib.hid (P9.out.below bel10)
        clear bel10 P9 hE
        go_wp2_with fail
        go_ret
        exact ⟨rfl, B1.out.trans ((P10.out.low (Nat.le_refl _)).mono B1.out.size)⟩
end Go.Proofs.YtideopnblhbngaaDoor
