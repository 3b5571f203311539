/- The law HashOf, walked. -/
import Derived.Test.YtdedphhohiioiaaDoorRefOf
namespace Go.Proofs.YtdedphhohiioiaaDoor
open Go.RowKit

theorem Tryd.info9 : (Tryd.prog.info? 9).map (fun i => (i.zero, i.size, i.bytes)) = some (some (.string ⟨#[]⟩), 1, 16) := by kernel_rfl
theorem run_same16 (OUT : List Int) (h : OUT.length = 16) (W : World) : (Op.equalIn 10000 43 (.agg (u8s OUT).toArray) (.agg (u8s OUT).toArray)).run Tryd.prog W = .ok true W := by
  rw [run_equalIn_bytes 9998 43 5 16 OUT OUT Tryd.underlying43 Tryd.underlying5 (by kernel_rfl) h h]
  simp
def strs (ss : List ByteArray) : List Value := ss.map Value.string
theorem strs_len (ss : List ByteArray) : (strs ss).length = ss.length := by simp [strs]
theorem one_strs (xs : List ByteArray) : ∀ v ∈ strs xs, v.oneCell' = true := by
  intro v hv
  obtain ⟨x, _, rfl⟩ := List.mem_map.1 hv
  rfl
theorem Txs.of_own {w : World} {base : Nat} {v : Value} {ss : List ByteArray} (h : OwnO w base 9 v (strs ss)) : Txs w v ss := by
  refine ⟨?_, fun hne => ?_⟩
  · obtain ⟨A, c, he, _⟩ := h.len
    exact ⟨A, c, by rw [he, strs_len]⟩
  · have hl : 0 < ss.length := by cases ss with | nil => exact absurd rfl hne | cons => simp
    obtain ⟨b, off, c, he, h1, h2, h3⟩ := h.row (by rw [strs_len]; exact hl)
    rw [strs_len] at he h1
    have c0 := h3 0 _ (by rw [strs, List.getElem?_map, List.getElem?_eq_getElem hl]; rfl)
    refine ⟨b, off, c, he, h1, h2, World.block_lt_of_cell? w _ c0, fun i hi => h3 i _ (by rw [strs, List.getElem?_map, List.getElem?_eq_getElem hi, List.getD_eq_getElem?_getD, List.getElem?_eq_getElem hi]; rfl)⟩
theorem framed_le (z : Int) (ps : List (List Int)) (k : Nat) (h : ∀ i, i < ps.length → (ps.getD i []).length ≤ k) : (framed z ps).length ≤ 1 + ps.length * (4 + k) := by
  have H : ∀ i, i ≤ ps.length → (framed z (ps.take i)).length ≤ 1 + i * (4 + k) := by
    intro i
    induction i with
    | zero => intro _; rw [framed_zero]; simp
    | succ i ih =>
      intro hi
      rw [framed_succ z ps i (by omega), List.length_append, List.length_append]
      have h1 := ih (by omega)
      have h2 := h i (by omega)
      have h3 : (be4 (ps.getD i []).length).length = 4 := rfl
      have : (i + 1) * (4 + k) = i * (4 + k) + (4 + k) := by rw [Nat.add_mul, Nat.one_mul]
      omega
  have := H ps.length (Nat.le_refl _)
  rwa [List.take_of_length_le (Nat.le_refl _)] at this
theorem map_take_succ (ps : List (List Int)) (i : Nat) (h : i < ps.length) : (ps.take (i + 1)).map strOfNums = (ps.take i).map strOfNums ++ [strOfNums (ps.getD i [])] := by
  rw [List.take_succ_eq_append_getElem h, List.map_append]
  simp [List.getD_eq_getElem?_getD, h]

set_option maxHeartbeats 4000000 in
set_option maxRecDepth 100000 in
theorem hashOf_any (z : Int) (ps : List (List Int)) (A : Option Addr) (n c : Nat) (w : World) (hv : Bss w (.slice A n c) ps) (hn : n = ps.length) (hk : w.rangeAt 18 0 (u32s kk)) (h18 : 18 < w.heap.size) :
    Calls Tryd.prog 7 #[.int .i64 z, .slice A n c] w fun e w' => e = .returned (.bool true) ∧ Below w.heap.size w w' := by
  have HK := Lib.hid hk
  have HV := Lib.hid hv
  have HN := Lib.hid hn
  clear hk hv hn
  by_cases hlt : 30 < n
  · go_enter Tryd.func7, Tryd.ntmps7
    go_wp2_with (refine (alive_hash _ HK.out h18).mono ?_; rintro e w1 ⟨rfl, hb1⟩)
    go_ret
    exact ⟨rfl, hb1⟩
  · have hle : n ≤ 30 := by omega
    clear hlt
    go_enter Tryd.func7, Tryd.ntmps7
    go_wp2_with fail
    refine (alive_hash _ HK.out h18).mono ?_
    rintro e w1 ⟨rfl, hb1⟩
    have B1 := Lib.hid hb1
    clear hb1
    go_wp2
    have hown0 : OwnO (w1.alloc (.cells #[] 9)) w.heap.size 9 (.slice (some ⟨w1.heap.size, 0, none⟩) 0 0) (strs ((ps.take 0).map strOfNums)) := own_mk w1 B1.out.size #[] rfl (by simp) rfl
    have hbel0 : Below w.heap.size w (w1.alloc (.cells #[] 9)) := B1.out.alloc B1.out.size _
    have O0 := Lib.hid hown0
    have L0 := Lib.hid hbel0
    clear hown0 hbel0 B1
    go_loopw [5, 16] (fun s k wr => ∃ (i c' : Nat) (A' : Option Addr), i ≤ n ∧ s = .slice A' i c' ∧ k = .int .i64 i ∧ Hid (OwnO wr w.heap.size 9 s (strs ((ps.take i).map strOfNums))) ∧ Hid (Below w.heap.size w wr) ∧ Hid (∀ j, j < i → (ps.getD j []).length ≤ 200))
      (fun _ k _ => n - (intOf k).toNat)
    case atStart => exact ⟨0, 0, _, by omega, rfl, rfl, O0, L0, Lib.hid (fun j hj => absurd hj (by omega))⟩
    case round =>
      clear O0 L0
      obtain ⟨i, c1, A1, hi, rfl, rfl, hown, hbel, hall⟩ := hrel
      by_cases hlt : i < n
      · have hi2 : i < ps.length := by have := HN.out; omega
        obtain ⟨b, off, c', e1, _, _, h3', h4⟩ := HV.out.cells (by intro e; rw [e] at hi2; simp at hi2)
        obtain ⟨pv, hpv, hbs⟩ := h4 i hi2
        have hts := map_take_succ ps i hi2
        obtain ⟨p, hp⟩ : ∃ p, p = ps.getD i [] := ⟨_, rfl⟩
        rw [← hp] at hbs hts
        simp only [Value.slice.injEq] at e1
        obtain ⟨rfl, -, rfl⟩ := e1
        have hc := (hbel.out.cell (p := ⟨b, off + i, none⟩) h3').trans hpv
        have hbs2 := hbs.below hbel.out
        obtain ⟨PA, pc, rfl⟩ := hbs2.form
        obtain ⟨m, hm⟩ : ∃ m, m = p.length := ⟨_, rfl⟩
        rw [← hm] at hc hbs2
        have HBS := Lib.hid hbs2
        have HTS := Lib.hid hts
        have HM := Lib.hid hm
        have HP := Lib.hid hp
        have hil : (i : Int) < n := by omega
        obtain ⟨X, hX⟩ : ∃ X, X = strOfNums p := ⟨_, rfl⟩
        have HX := Lib.hid hX
        have hll : (strs ((ps.take i).map strOfNums)).length = i := by rw [strs_len, List.length_map, List.length_take]; omega
        have HLL := Lib.hid hll
        clear hX hp hm hts hbs hbs2 hpv h4 h3' hi2 hll
        by_cases h200 : 200 < m
        · go_wp2
          go_ret
          exact ⟨rfl, hbel.out⟩
        · have hm2 : m ≤ 200 := by omega
          clear h200
          go_wp2_with (first | (refine wpList_conv_str rfl (.tmp 24) rfl (.slice PA m pc) p rfl HBS.out ?_; rw [← HX.out]) | (at_builtin; refine appO (w0 := w) w.heap.size rfl (.tmp 23) (.tmp 26) 41 41 9 (.string ⟨#[]⟩) 16 rfl Tryd.underlying41 Tryd.info9 rfl (by omega) _ _ rfl _ 1 [.string X] rfl (src_new wr 9 [.string X] 1 rfl Tryd.underlying41 (by simp [Value.oneCell'])) (hown.out.below ((Below.refl _ _).alloc (Nat.le_refl _) _)) (hbel.out.alloc hbel.out.size _) (by have := hbel.out.size; simp; omega) (by rw [HLL.out]; omega) ?_; intro v5 w5 ap5; have AP5 := Lib.hid ap5; clear ap5))
          have own5 : OwnO w5 w.heap.size 9 v5 (strs ((ps.take (i + 1)).map strOfNums)) := by
            have := AP5.out.own
            rw [HTS.out, ← HX.out, show strs ((ps.take i).map strOfNums ++ [X]) = strs ((ps.take i).map strOfNums) ++ [Value.string X] by simp [strs]]
            exact this
          have hl5 : (strs ((ps.take (i + 1)).map strOfNums)).length = i + 1 := by rw [HTS.out, strs_len, List.length_append, ← strs_len, HLL.out]; rfl
          obtain ⟨A5, c5, e5, _⟩ := own5.len
          rw [hl5] at e5
          subst e5
          go_roundw
          case rel => exact ⟨i + 1, c5, A5, by omega, rfl, by go_num, Lib.hid own5, Lib.hid AP5.out.below, Lib.hid (fun j hj => by
            by_cases e : j = i
            · rw [e, ← HP.out, ← HM.out]; exact hm2
            · exact hall.out j (by omega))⟩
          case measure => simp [intOf]; omega
      · obtain rfl : i = n := by omega
        have htk : ps.take i = ps := List.take_of_length_le (by rw [HN.out]; exact Nat.le_refl _)
        rw [htk] at hown
        have hfl : (framed z ps).length ≤ 1099511627776 := by
          have := framed_le z ps 200 (fun j hj => hall.out j (by have := HN.out; omega))
          have := HN.out
          omega
        have hids : (ps.map strOfNums).map sb = ps := by
          rw [List.map_map]
          conv => rhs; rw [← List.map_id ps]
          refine List.map_congr_left fun x hx => sb_str x ?_
          obtain ⟨j, hj, rfl⟩ := List.getElem_of_mem hx
          obtain ⟨b, off, c', e1, _, _, h3', h4⟩ := HV.out.cells (by intro e; rw [e] at hj; simp at hj)
          obtain ⟨pv, _, hbs⟩ := h4 j hj
          have := hbs.ok
          rwa [List.getD_eq_getElem?_getD, List.getElem?_eq_getElem hj] at this
        have htx := Txs.of_own hown.out
        obtain ⟨OUT, hOUT⟩ : ∃ o, o = short z ps := ⟨_, rfl⟩
        have hol : OUT.length = 16 := by rw [hOUT, short_len]
        have hsame := run_same16 OUT hol
        have HTX := Lib.hid htx
        have HFL := Lib.hid hfl
        have HID := Lib.hid hids
        have HOUT := Lib.hid hOUT
        clear hol hOUT htx hfl hids htk hall hown
        go_wp2_with fail
        refine (of_any z ps A i c wr (HV.out.below hbel.out) HN.out HFL.out (range_below HK.out hbel.out) (by have := hbel.out.size; omega)).mono ?_
        rintro e w6 ⟨rfl, hb6⟩
        rw [← HOUT.out]
        have H6 := Lib.hid (hbel.out.trans (hb6.mono hbel.out.size))
        have HT6 := Lib.hid (HTX.out.below hb6)
        clear hb6 HTX
        go_wp2_with fail
        refine (refof_any z (ps.map strOfNums) A1 i c1 w6 HT6.out (by rw [List.length_map]; exact HN.out) (by rw [HID.out]; exact HFL.out)).mono ?_
        rintro e w7 ⟨rfl, hb7⟩
        rw [HID.out, ← HOUT.out]
        have hb8 := H6.out.trans (hb7.mono H6.out.size)
        go_wp2
        go_ret
        exact ⟨rfl, hb8⟩
end Go.Proofs.YtdedphhohiioiaaDoor
