/- Lemmas that laws of this seat rest on, part 5; each says its own conditions: Framed, RefOf, HashOfW, Run, Dgs, Text, RefChain, Secret, Plain, Dig. -/
import Derived.Test.YtdedphhohiioiaaDoorBase1
import Derived.Test.YtdedphhohiioiaaDoorBase2
import Derived.Test.YtdedphhohiioiaaDoorBase4
/- What the reference's Framed and Of do. -/
namespace Go.Proofs.YtdedphhohiioiaaDoor
open Go.RowKit

theorem wpList_conv_str {ops : Array Oper} {rest : List Oper} {o : Oper} {a : Act} {w : World} {Q : Exit → Act → World → Prop} (hw : Region.wanted o (yielded ops a.tmps) = true) (x : Operand) (ho : o.op = .convert 22 9 x) (v : Value) (bs : List Int)
    (hx : a.eval x = v) (hv : Bs w v bs) (h : wpList Tryd.prog ops Q rest (a.put o.dst (.string (strOfNums bs))) w) : wpList Tryd.prog ops Q (o :: rest) a w := by
  refine wpList_step fun K hK => ?_
  rw [if_pos hw]
  unfold Oper.wp execOp
  simp only [ho, hx, Sem.run_bind, Sem.run_pure, Result.andThen_ok, conv_bs hv w (Below.refl _ _)]
  exact hK _ _ h

theorem wpList_add_str {P : Program} {ops : Array Oper} {rest : List Oper} {o : Oper} {a : Act} {w : World} {Q : Exit → Act → World → Prop} (hw : Region.wanted o (yielded ops a.tmps) = true) (t : TypeId) (x y : Operand) (r) (ho : o.op = .binOp .add t x y r) (s1 s2 : ByteArray)
    (hx : a.eval x = .string s1) (hy : a.eval y = .string s2) (hz : s1.size + s2.size ≤ 2199023255552) (h : wpList P ops Q rest (a.put o.dst (.string (s1 ++ s2))) w) : wpList P ops Q (o :: rest) a w := by
  refine wpList_step fun K hK => ?_
  rw [if_pos hw]
  unfold Oper.wp execOp
  have hb : ¬ (((s1.size + s2.size : Nat) : Int) > IntKind.i64.max) := by
    have : IntKind.i64.max = 9223372036854775807 := by decide
    rw [this]; omega
  simp only [ho, hx, hy, eqGuard, binOp_string_add, Op.stringOp, if_neg hb, Sem.run_bind, Sem.run_pure]
  exact hK _ _ h

theorem wrap_u64_nat (n : Nat) (h : n ≤ 1099511627776) : IntKind.u64.wrap (n : Int) = n := by
  rw [IntKind.wrap_u64]
  omega

theorem sb_append (a b : ByteArray) : sb (a ++ b) = sb a ++ sb b := by
  unfold sb
  rw [ByteArray.data_append, Array.toList_append, List.map_append]
theorem size_append (a b : ByteArray) : (a ++ b).size = a.size + b.size := by
  rw [← sb_len, sb_append, List.length_append, sb_len, sb_len]

/-- A slice of strings. -/
structure Txs (w : World) (v : Value) (ss : List ByteArray) : Prop where
  form : ∃ A c, v = .slice A ss.length c
  cells : ss ≠ [] → ∃ b off c, v = .slice (some ⟨b, off, none⟩) ss.length c ∧ ss.length ≤ c ∧ c ≤ maxLen ∧ b < w.heap.size ∧ ∀ i, i < ss.length → w.cell? ⟨b, off + i, none⟩ = some (.string (ss.getD i ByteArray.empty))

theorem Txs.below {w w' : World} {v : Value} {ss : List ByteArray} (h : Txs w v ss) (hb : Below w.heap.size w w') : Txs w' v ss := by
  refine ⟨h.form, fun hne => ?_⟩
  obtain ⟨b, off, c, e, h1, h2, h3, h4⟩ := h.cells hne
  exact ⟨b, off, c, e, h1, h2, Nat.lt_of_lt_of_le h3 hb.size, fun i hi => (hb.cell (p := ⟨b, off + i, none⟩) h3).trans (h4 i hi)⟩

set_option maxHeartbeats 4000000 in
set_option maxRecDepth 100000 in
theorem framed_any (z : Int) (ss : List ByteArray) (A : Option Addr) (n c : Nat) (w : World) (hv : Txs w (.slice A n c) ss) (hn : n = ss.length) (hsm : (framed z (ss.map sb)).length ≤ 1099511627776) :
    Calls Tryd.prog 75 #[.int .i64 z, .slice A n c] w fun e w' => ∃ S, e = .returned (.string S) ∧ sb S = framed z (ss.map sb) ∧ Below w.heap.size w w' := by
  have hn40 : n ≤ 1099511627776 := by have := framed_count z (ss.map sb); rw [List.length_map] at this; omega
  have HV := Lib.hid hv
  have HN := Lib.hid hn
  have HSM := Lib.hid hsm
  clear hv hn hsm
  go_enter Tryd.func75, Tryd.ntmps75
  go_wp2_with (refine wpList_conv_str rfl (.tmp 11) rfl (.slice (some ⟨w.heap.size, 0, none⟩) 1 1) [z % 256] rfl (Bs.new w [z % 256] (fun b hb => by simp at hb; rw [hb]; unfold B8; omega) (by simp) (0, 0)) ?_)
  obtain ⟨S0, hS0⟩ : ∃ s, s = strOfNums [z % 256] := ⟨_, rfl⟩
  have hs0 : sb S0 = framed z ((ss.map sb).take 0) := by rw [hS0, framed_zero]; exact sb_str _ (fun b hb => by simp at hb; rw [hb]; unfold B8; omega)
  rw [← hS0]
  have HS0 := Lib.hid hs0
  clear hS0 hs0
  have BW : Hid (Below w.heap.size w (w.alloc (.cells #[Value.int .u8 (z % 256)] 5))) := Lib.hid ((Below.refl _ _).alloc (Nat.le_refl _) _)
  go_loopw [5, 15] (fun s k wr => ∃ (i : Nat) (S : ByteArray), i ≤ n ∧ s = .string S ∧ k = .int .i64 i ∧ Hid (sb S = framed z ((ss.map sb).take i)) ∧ Hid (Below w.heap.size w wr))
    (fun _ k _ => n - (intOf k).toNat)
  case atStart => exact ⟨0, S0, by omega, rfl, rfl, HS0, BW⟩
  case round =>
    clear HS0 BW
    obtain ⟨i, S, hi, rfl, rfl, hS, hbel⟩ := hrel
    by_cases hlt : i < n
    · have hi2 : i < ss.length := by have := HN.out; omega
      obtain ⟨b, off, c', e1, _, _, h3', h4⟩ := HV.out.cells (by intro e; rw [e] at hi2; simp at hi2)
      have hpv := h4 i hi2
      obtain ⟨p, hp⟩ : ∃ p, p = ss.getD i ByteArray.empty := ⟨_, rfl⟩
      rw [← hp] at hpv
      simp only [Value.slice.injEq] at e1
      obtain ⟨rfl, -, rfl⟩ := e1
      have hc := (hbel.out.cell (p := ⟨b, off + i, none⟩) h3').trans hpv
      have hfs := framed_succ z (ss.map sb) i (by rw [List.length_map]; exact hi2)
      have hfl := Nat.le_trans (framed_len z (ss.map sb) (i + 1)) HSM.out
      have hgd : (ss.map sb).getD i [] = sb p := by
        rw [hp, List.getD_eq_getElem?_getD, List.getElem?_map, List.getD_eq_getElem?_getD, List.getElem?_eq_getElem hi2]; rfl
      rw [hgd] at hfs
      rw [hfs] at hfl
      obtain ⟨m, hm⟩ : ∃ m, m = p.size := ⟨_, rfl⟩
      have hpm : (sb p).length = m := by rw [sb_len, hm]
      have hSl : S.size = (framed z ((ss.map sb).take i)).length := by rw [← hS.out, sb_len]
      have hml : S.size + 4 + m ≤ 1099511627776 := by simp only [List.length_append, be4, List.length_cons, List.length_nil, ← hSl, hpm] at hfl; omega
      have hpz : p.size = m := hm.symm
      rw [hpm] at hfs
      have HFS := Lib.hid hfs
      have HPM := Lib.hid hpm
      have HPZ := Lib.hid hpz
      have hm40 : m ≤ 1099511627776 := by omega
      have HML := Lib.hid hml
      have hil : (i : Int) < n := by omega
      obtain ⟨T, hT⟩ : ∃ T, T = strOfNums (be4 m) := ⟨_, rfl⟩
      have HT := Lib.hid hT
      have hTs : T.size = 4 := by rw [hT, strOfNums_size]; rfl
      have hz1 : T.size + p.size ≤ 2199023255552 := by omega
      have hz2 : S.size + (T ++ p).size ≤ 2199023255552 := by rw [size_append]; omega
      have HZ1 := Lib.hid hz1
      have HZ2 := Lib.hid hz2
      have hTb : sb T = be4 m := by rw [hT]; exact sb_str _ (be4_ok m)
      have hsb : sb (S ++ (T ++ p)) = framed z ((ss.map sb).take (i + 1)) := by rw [sb_append, sb_append, hS.out, hTb, hfs, List.append_assoc]
      have HSB := Lib.hid hsb
      have E1 : IntKind.u64.wrap (p.size : Int) = m := by rw [hpz]; exact wrap_u64_nat m (by omega)
      have E2 : ∀ q : Nat, 0 < q → IntKind.u64.wrap ((m : Int).tdiv (q : Int)) = (m : Int) / q := fun q hq => by
        rw [Int.tdiv_eq_ediv_of_nonneg (by omega), ← Int.natCast_ediv]
        exact wrap_u64_nat _ (Nat.le_trans (Nat.div_le_self _ _) hm40)
      have E3 := E2 16777216 (by omega)
      have E4 := E2 65536 (by omega)
      have E5 := E2 256 (by omega)
      have E3 : IntKind.u64.wrap ((m : Int).tdiv 16777216) = (m : Int) / 16777216 := E3
      have E4 : IntKind.u64.wrap ((m : Int).tdiv 65536) = (m : Int) / 65536 := E4
      have E5 : IntKind.u64.wrap ((m : Int).tdiv 256) = (m : Int) / 256 := E5
      clear hpz hpm hm hp hgd hfs hfl hSl hml hi2 hpv h4 h3' hT hTs hTb hsb hz1 hz2 E2
      go_wp2_with (first | (refine wpList_conv_str rfl (.tmp 34) rfl (.slice (some ⟨wr.heap.size, 0, none⟩) 4 4) (be4 m) rfl (Bs.new wr (be4 m) (be4_ok m) (by simp [be4]) (0, 0)) ?_; rw [← HT.out]) | (refine wpList_add_str rfl 9 (.tmp 35) (.tmp 36) _ rfl T p rfl rfl HZ1.out ?_) | (refine wpList_add_str rfl 9 (.tmp 22) (.tmp 37) _ rfl S (T ++ p) rfl rfl HZ2.out ?_))
      go_roundw
      case rel => exact ⟨i + 1, _, by omega, rfl, by go_num, HSB, Lib.hid (hbel.out.alloc hbel.out.size _)⟩
      case measure => simp [intOf]; omega
    · have hin : i = n := by omega
      have htk : (ss.map sb).take i = ss.map sb := List.take_of_length_le (by rw [List.length_map, hin, HN.out]; exact Nat.le_refl _)
      rw [htk] at hS
      go_wp2_with fail
      go_ret
      exact ⟨_, rfl, hS.out, hbel.out⟩
end Go.Proofs.YtdedphhohiioiaaDoor
/- What the reference's Of does. -/
namespace Go.Proofs.YtdedphhohiioiaaDoor
open Go.RowKit

set_option maxHeartbeats 4000000 in
set_option maxRecDepth 100000 in
theorem refof_any (z : Int) (ss : List ByteArray) (A : Option Addr) (n c : Nat) (w : World) (hv : Txs w (.slice A n c) ss) (hn : n = ss.length) (hsm : (framed z (ss.map sb)).length ≤ 1099511627776) :
    Calls Tryd.prog 34 #[.int .i64 z, .slice A n c] w fun e w' => e = .returned (.agg (u8s (short z (ss.map sb))).toArray) ∧ Below w.heap.size w w' := by
  have HV := Lib.hid hv
  have HN := Lib.hid hn
  have HSM := Lib.hid hsm
  clear hv hn hsm
  go_enter Tryd.func34, Tryd.ntmps34
  go_wp2_with fail
  have b0 : Below w.heap.size w (w.alloc (Obj.cells (Array.replicate 16 (Value.int .u8 0)) 43)) := (Below.refl _ _).alloc (Nat.le_refl _) _
  refine (framed_any z ss A n c _ (HV.out.below b0) HN.out HSM.out).mono ?_
  rintro e w1 ⟨S, rfl, hS, hb1⟩
  have b1 : Below w.heap.size w w1 := b0.trans (hb1.mono b0.size)
  have h1 : Has w1 w.heap.size 43 16 := (has_new w _ _ _ rfl).below hb1
  have hsz : S.size ≤ 1099511627776 := by rw [← sb_len, hS]; exact HSM.out
  have B1 := Lib.hid b1
  have H1 := Lib.hid h1
  have HS := Lib.hid hS
  clear b0 b1 h1 hS hb1
  go_wp2_with fail
  refine (refsum_any S hsz _).mono ?_
  rintro e w2 ⟨rfl, hb2⟩
  rw [HS.out]
  have b2 : Below w.heap.size w w2 := B1.out.trans (hb2.mono B1.out.size)
  have h2 : Has w2 w.heap.size 43 16 := H1.out.below hb2
  obtain ⟨OUT, hOUT⟩ : ∃ o, o = sha (framed z (ss.map sb)) := ⟨_, rfl⟩
  have hol : OUT.length = 32 := by rw [hOUT, sha_len]
  have hi25 : (Tryd.prog.info? 25).map (·.size) = some (u8s OUT).length := by rw [u8s_len', hol]; exact Tryd.size25
  have hsh : short z (ss.map sb) = OUT.take 16 := by rw [hOUT]; rfl
  rw [← hOUT]
  have HSH := Lib.hid hsh
  have hhz : ∀ Z : Array Value, Z.size = 32 → Has (w2.alloc (.cells Z 25)) w2.heap.size 25 (u8s OUT).length := fun Z hZ => has_new w2 _ _ _ (by rw [hZ, u8s_len', hol])
  have hok : u8s_ok OUT := hOUT ▸ sha_ok _
  have HOK := Lib.hid hok
  have B2 := Lib.hid b2
  have H2 := Lib.hid h2
  have HOL := Lib.hid hol
  have HI := Lib.hid hi25
  have HZ := Lib.hid hhz
  clear hOUT hsh hol hi25 hhz b2 h2 hb2 B1 H1 HS hsz hok
  go_wp2_with (first
    | (refine wpList_store_row rfl 25 (.tmp 5) (.tmp 11) rfl w2.heap.size rfl (u8s OUT) rfl 25 (HZ.out _ rfl) HI.out (one_u8s _) ?_; intro w3 hp3))
  obtain ⟨OB, hOB⟩ : ∃ n, n = w3.heap.size := ⟨_, rfl⟩
  obtain ⟨SB, hSB⟩ : ∃ n, n = w2.heap.size := ⟨_, rfl⟩
  have hz3 : w3.heap.size = w2.heap.size + 1 := by have := hp3.size; simpa using this
  have b3 : Below w.heap.size w w3 := hp3.below (B2.out.alloc B2.out.size _) B2.out.size
  have hstart : (w3.alloc (Obj.cells (Array.replicate 16 (Value.int .u8 0)) 43)).heap[OB]? = some (.cells (u8s (pad 16 (OUT.take 0))).toArray 43 (0, 0)) := by rw [hOB]; exact heap_alloc_new w3 _
  have hwb := b3.alloc b3.size (Obj.cells (Array.replicate 16 (Value.int .u8 0)) 43)
  have h3 : Has w3 w.heap.size 43 16 := H2.out.same ((hp3.other _ (by have := H2.out.lt; omega)).trans (Below.heap_alloc w2 _ _ H2.out.lt))
  have hwh : Has (w3.alloc (Obj.cells (Array.replicate 16 (Value.int .u8 0)) 43)) w.heap.size 43 16 := h3.same (Below.heap_alloc w3 _ _ h3.lt)
  have hws : (w3.alloc (Obj.cells (Array.replicate 16 (Value.int .u8 0)) 43)).heap[SB]? = some (.cells (u8s OUT).toArray 25 (0, 0)) := by rw [hSB, Below.heap_alloc w3 _ _ (by omega)]; exact hp3.blk
  have hlt1 : w.heap.size < SB := by rw [hSB]; exact H2.out.lt
  have hlt2 : SB < OB := by omega
  rw [← hOB, ← hSB]
  have V1 := Lib.hid hstart
  have V2 := Lib.hid hwb
  have V3 := Lib.hid hws
  have V4 := Lib.hid hwh
  clear hstart hwb hwh hws h3 b3 hp3 hz3
  change Code.wp _ _ _ _ (w3.alloc (Obj.cells (Array.replicate 16 (Value.int .u8 0)) 43))
  generalize w3.alloc (Obj.cells (Array.replicate 16 (Value.int .u8 0)) 43) = wo at *
  clear HZ B2 H2 hOB hSB
  have hsl : (OUT.take 16).length = 16 := by rw [List.length_take, HOL.out]; rfl
  have hi43 : (Tryd.prog.info? 43).map (·.size) = some (u8s (OUT.take 16)).length := by rw [u8s_len', hsl]; exact Tryd.size43
  have HSL := Lib.hid hsl
  have HI43 := Lib.hid hi43
  clear hsl hi43
  go_loopw [7, 13] (fun _ s wr => ∃ (i : Nat), i ≤ 16 ∧ s = .int .i64 i ∧ Hid (wr.heap[OB]? = some (.cells (u8s (pad 16 (OUT.take i))).toArray 43 (0, 0))) ∧ Hid (Below w.heap.size w wr) ∧ Hid (wr.heap[SB]? = some (.cells (u8s OUT).toArray 25 (0, 0))) ∧ Hid (Has wr w.heap.size 43 16))
    (fun _ s _ => 16 - (intOf s).toNat)
  case atStart => exact ⟨0, by omega, rfl, V1, V2, V3, V4⟩
  case round =>
    clear V1 V2 V3 V4
    obtain ⟨i, hi, rfl, V1, V2, V3, V4⟩ := hrel
    by_cases hlt : i < 16
    · obtain ⟨y, hy⟩ : ∃ y, y = OUT.getD i 0 := ⟨_, rfl⟩
      have hol := HOL.out
      have htl : (OUT.take i).length = i := by rw [List.length_take]; omega
      have cy : wr.cell? ⟨SB, i, none⟩ = some (.int .u8 y) := blk_cell V3.out i _ (by rw [hy, u8s, List.getElem?_map, List.getD_eq_getElem?_getD, List.getElem?_eq_getElem (by omega)]; rfl)
      have hpl : (u8s (pad 16 (OUT.take i))).length = 16 := by rw [u8s_len', pad_len _ _ (by omega)]
      obtain ⟨z0, d0⟩ : ∃ z, wr.cell? ⟨OB, i, none⟩ = some z := ⟨_, blk_cell V1.out i (u8s (pad 16 (OUT.take i)))[i] (by simp)⟩
      have d1 : wr.frozen? ⟨OB, i, none⟩ = false := blk_free V1.out i
      have hset : (u8s (pad 16 (OUT.take i))).set i (.int .u8 y) = u8s (pad 16 (OUT.take (i + 1))) := by
        have h := pad_set 16 (OUT.take i) y (by omega)
        rw [htl] at h
        rw [List.take_succ_eq_append_getElem (by omega : i < OUT.length), show OUT[i] = y by rw [hy, List.getD_eq_getElem?_getD, List.getElem?_eq_getElem (by omega)]; rfl, ← h, u8s, u8s, List.map_set]
      have F1 : Hid ((wr.setCell ⟨OB, i, none⟩ (.int .u8 y)).heap[OB]? = some (.cells (u8s (pad 16 (OUT.take (i + 1)))).toArray 43 (0, 0))) := Lib.hid (by have := blk_set V1.out i (.int .u8 y); rw [hset] at this; exact this)
      have F2 : Hid (Below w.heap.size w (wr.setCell ⟨OB, i, none⟩ (.int .u8 y))) := Lib.hid (V2.out.setCell (by simp; omega) _)
      have F3 : Hid ((wr.setCell ⟨OB, i, none⟩ (.int .u8 y)).heap[SB]? = some (.cells (u8s OUT).toArray 25 (0, 0))) := Lib.hid (by rw [heap_setCell_other wr ⟨OB, i, none⟩ _ _ (by simp; omega)]; exact V3.out)
      have F4 : Hid (Has (wr.setCell ⟨OB, i, none⟩ (.int .u8 y)) w.heap.size 43 16) := Lib.hid (V4.out.setCell _ _)
      clear V1 V2 V3 V4 hset hpl hy hol htl
      go_wp2
      go_roundw
      case rel => exact ⟨i + 1, by omega, by go_num, F1, F2, F3, F4⟩
      case measure => simp [intOf]; omega
    · obtain rfl : i = 16 := by omega
      have hpf : pad 16 (OUT.take 16) = OUT.take 16 := pad_full _ _ HSL.out
      rw [hpf] at V1
      obtain ⟨SH, hSH'⟩ : ∃ s, s = OUT.take 16 := ⟨_, rfl⟩
      rw [← hSH'] at V1 HI43 HSL
      have hra : wr.rangeAt OB 0 (u8s SH) := blk_range V1.out
      have hh : Has wr w.heap.size 43 (u8s SH).length := by rw [u8s_len', HSL.out]; exact V4.out
      have HRA := Lib.hid hra
      have HH := Lib.hid hh
      have HSS : Hid (short z (ss.map sb) = SH) := Lib.hid (by rw [HSH.out, hSH'])
      clear hra hh V1 V3 V4 hSH' hpf
      go_wp2_with (first
        | (refine wpList_load_g rfl 43 (.tmp 6) rfl OB 0 rfl (u8s SH) _ HRA.out Tryd.underlying43 rfl HI43.out ?_)
        | (refine wpList_store_row rfl 43 (.tmp 4) (.tmp 22) rfl w.heap.size rfl (u8s SH) rfl 43 HH.out HI43.out (one_u8s _) ?_; intro w10 hp10))
      refine bodyPost_ret (v := .agg (u8s SH).toArray) (results_cell_row rfl _ _ w.heap.size 43 _ (0, 0) _ rfl hp10.blk Tryd.underlying43 rfl (by simpa using HI43.out)) rfl ⟨by rw [HSS.out], hp10.below V2.out (Nat.le_refl _)⟩
end Go.Proofs.YtdedphhohiioiaaDoor
/- The law HashOf, walked. -/
namespace Go.Proofs.YtdedphhohiioiaaDoor
open Go.RowKit

theorem Tryd.info9 : (Tryd.prog.info? 9).map (fun i => (i.zero, i.size, i.bytes)) = some (some (.string ⟨#[]⟩), 1, 16) := by kernel_rfl
theorem run_same16 (OUT : List Int) (h : OUT.length = 16) (W : World) : (Op.equalIn 10000 43 (.agg (u8s OUT).toArray) (.agg (u8s OUT).toArray)).run Tryd.prog W = .ok true W := by
  rw [run_equalIn_bytes 9998 43 5 16 OUT OUT Tryd.underlying43 Tryd.underlying5 (by kernel_rfl) h h]
  simp
def strs (ss : List ByteArray) : List Value := ss.map Value.string
theorem strs_len (ss : List ByteArray) : (strs ss).length = ss.length := by simp [strs]
theorem one_strs (xs : List ByteArray) : ∀ v ∈ strs xs, v.oneCell' = true := by
  intro v hv
  obtain ⟨x, _, rfl⟩ := List.mem_map.1 hv
  rfl
theorem Txs.of_own {w : World} {base : Nat} {v : Value} {ss : List ByteArray} (h : OwnO w base 9 v (strs ss)) : Txs w v ss := by
  refine ⟨?_, fun hne => ?_⟩
  · obtain ⟨A, c, he, _⟩ := h.len
    exact ⟨A, c, by rw [he, strs_len]⟩
  · have hl : 0 < ss.length := by cases ss with | nil => exact absurd rfl hne | cons => simp
    obtain ⟨b, off, c, he, h1, h2, h3⟩ := h.row (by rw [strs_len]; exact hl)
    rw [strs_len] at he h1
    have c0 := h3 0 _ (by rw [strs, List.getElem?_map, List.getElem?_eq_getElem hl]; rfl)
    refine ⟨b, off, c, he, h1, h2, World.block_lt_of_cell? w _ c0, fun i hi => h3 i _ (by rw [strs, List.getElem?_map, List.getElem?_eq_getElem hi, List.getD_eq_getElem?_getD, List.getElem?_eq_getElem hi]; rfl)⟩
theorem framed_le (z : Int) (ps : List (List Int)) (k : Nat) (h : ∀ i, i < ps.length → (ps.getD i []).length ≤ k) : (framed z ps).length ≤ 1 + ps.length * (4 + k) := by
  have H : ∀ i, i ≤ ps.length → (framed z (ps.take i)).length ≤ 1 + i * (4 + k) := by
    intro i
    induction i with
    | zero => intro _; rw [framed_zero]; simp
    | succ i ih =>
      intro hi
      rw [framed_succ z ps i (by omega), List.length_append, List.length_append]
      have h1 := ih (by omega)
      have h2 := h i (by omega)
      have h3 : (be4 (ps.getD i []).length).length = 4 := rfl
      have : (i + 1) * (4 + k) = i * (4 + k) + (4 + k) := by rw [Nat.add_mul, Nat.one_mul]
      omega
  have := H ps.length (Nat.le_refl _)
  rwa [List.take_of_length_le (Nat.le_refl _)] at this
theorem map_take_succ (ps : List (List Int)) (i : Nat) (h : i < ps.length) : (ps.take (i + 1)).map strOfNums = (ps.take i).map strOfNums ++ [strOfNums (ps.getD i [])] := by
  rw [List.take_succ_eq_append_getElem h, List.map_append]
  simp [List.getD_eq_getElem?_getD, h]

set_option maxHeartbeats 4000000 in
set_option maxRecDepth 100000 in
theorem hashOf_any (z : Int) (ps : List (List Int)) (A : Option Addr) (n c : Nat) (w : World) (hv : Bss w (.slice A n c) ps) (hn : n = ps.length) (hk : w.rangeAt 18 0 (u32s kk)) (h18 : 18 < w.heap.size) :
    Calls Tryd.prog 7 #[.int .i64 z, .slice A n c] w fun e w' => e = .returned (.bool true) ∧ Below w.heap.size w w' := by
  have HK := Lib.hid hk
  have HV := Lib.hid hv
  have HN := Lib.hid hn
  clear hk hv hn
  by_cases hlt : 30 < n
  · go_enter Tryd.func7, Tryd.ntmps7
    go_wp2_with (refine (alive_hash _ HK.out h18).mono ?_; rintro e w1 ⟨rfl, hb1⟩)
    go_ret
    exact ⟨rfl, hb1⟩
  · have hle : n ≤ 30 := by omega
    clear hlt
    go_enter Tryd.func7, Tryd.ntmps7
    go_wp2_with fail
    refine (alive_hash _ HK.out h18).mono ?_
    rintro e w1 ⟨rfl, hb1⟩
    have B1 := Lib.hid hb1
    clear hb1
    go_wp2
    have hown0 : OwnO (w1.alloc (.cells #[] 9)) w.heap.size 9 (.slice (some ⟨w1.heap.size, 0, none⟩) 0 0) (strs ((ps.take 0).map strOfNums)) := own_mk w1 B1.out.size #[] rfl (by simp) rfl
    have hbel0 : Below w.heap.size w (w1.alloc (.cells #[] 9)) := B1.out.alloc B1.out.size _
    have O0 := Lib.hid hown0
    have L0 := Lib.hid hbel0
    clear hown0 hbel0 B1
    go_loopw [5, 16] (fun s k wr => ∃ (i c' : Nat) (A' : Option Addr), i ≤ n ∧ s = .slice A' i c' ∧ k = .int .i64 i ∧ Hid (OwnO wr w.heap.size 9 s (strs ((ps.take i).map strOfNums))) ∧ Hid (Below w.heap.size w wr) ∧ Hid (∀ j, j < i → (ps.getD j []).length ≤ 200))
      (fun _ k _ => n - (intOf k).toNat)
    case atStart => exact ⟨0, 0, _, by omega, rfl, rfl, O0, L0, Lib.hid (fun j hj => absurd hj (by omega))⟩
    case round =>
      clear O0 L0
      obtain ⟨i, c1, A1, hi, rfl, rfl, hown, hbel, hall⟩ := hrel
      by_cases hlt : i < n
      · have hi2 : i < ps.length := by have := HN.out; omega
        obtain ⟨b, off, c', e1, _, _, h3', h4⟩ := HV.out.cells (by intro e; rw [e] at hi2; simp at hi2)
        obtain ⟨pv, hpv, hbs⟩ := h4 i hi2
        have hts := map_take_succ ps i hi2
        obtain ⟨p, hp⟩ : ∃ p, p = ps.getD i [] := ⟨_, rfl⟩
        rw [← hp] at hbs hts
        simp only [Value.slice.injEq] at e1
        obtain ⟨rfl, -, rfl⟩ := e1
        have hc := (hbel.out.cell (p := ⟨b, off + i, none⟩) h3').trans hpv
        have hbs2 := hbs.below hbel.out
        obtain ⟨PA, pc, rfl⟩ := hbs2.form
        obtain ⟨m, hm⟩ : ∃ m, m = p.length := ⟨_, rfl⟩
        rw [← hm] at hc hbs2
        have HBS := Lib.hid hbs2
        have HTS := Lib.hid hts
        have HM := Lib.hid hm
        have HP := Lib.hid hp
        have hil : (i : Int) < n := by omega
        obtain ⟨X, hX⟩ : ∃ X, X = strOfNums p := ⟨_, rfl⟩
        have HX := Lib.hid hX
        have hll : (strs ((ps.take i).map strOfNums)).length = i := by rw [strs_len, List.length_map, List.length_take]; omega
        have HLL := Lib.hid hll
        clear hX hp hm hts hbs hbs2 hpv h4 h3' hi2 hll
        by_cases h200 : 200 < m
        · go_wp2
          go_ret
          exact ⟨rfl, hbel.out⟩
        · have hm2 : m ≤ 200 := by omega
          clear h200
          go_wp2_with (first | (refine wpList_conv_str rfl (.tmp 24) rfl (.slice PA m pc) p rfl HBS.out ?_; rw [← HX.out]) | (at_builtin; refine appO (w0 := w) w.heap.size rfl (.tmp 23) (.tmp 26) 41 41 9 (.string ⟨#[]⟩) 16 rfl Tryd.underlying41 Tryd.info9 rfl (by omega) _ _ rfl _ 1 [.string X] rfl (src_new wr 9 [.string X] 1 rfl Tryd.underlying41 (by simp [Value.oneCell'])) (hown.out.below ((Below.refl _ _).alloc (Nat.le_refl _) _)) (hbel.out.alloc hbel.out.size _) (by have := hbel.out.size; simp; omega) (by rw [HLL.out]; omega) ?_; intro v5 w5 ap5; have AP5 := Lib.hid ap5; clear ap5))
          have own5 : OwnO w5 w.heap.size 9 v5 (strs ((ps.take (i + 1)).map strOfNums)) := by
            have := AP5.out.own
            rw [HTS.out, ← HX.out, show strs ((ps.take i).map strOfNums ++ [X]) = strs ((ps.take i).map strOfNums) ++ [Value.string X] by simp [strs]]
            exact this
          have hl5 : (strs ((ps.take (i + 1)).map strOfNums)).length = i + 1 := by rw [HTS.out, strs_len, List.length_append, ← strs_len, HLL.out]; rfl
          obtain ⟨A5, c5, e5, _⟩ := own5.len
          rw [hl5] at e5
          subst e5
          go_roundw
          case rel => exact ⟨i + 1, c5, A5, by omega, rfl, by go_num, Lib.hid own5, Lib.hid AP5.out.below, Lib.hid (fun j hj => by
            by_cases e : j = i
            · rw [e, ← HP.out, ← HM.out]; exact hm2
            · exact hall.out j (by omega))⟩
          case measure => simp [intOf]; omega
      · obtain rfl : i = n := by omega
        have htk : ps.take i = ps := List.take_of_length_le (by rw [HN.out]; exact Nat.le_refl _)
        rw [htk] at hown
        have hfl : (framed z ps).length ≤ 1099511627776 := by
          have := framed_le z ps 200 (fun j hj => hall.out j (by have := HN.out; omega))
          have := HN.out
          omega
        have hids : (ps.map strOfNums).map sb = ps := by
          rw [List.map_map]
          conv => rhs; rw [← List.map_id ps]
          refine List.map_congr_left fun x hx => sb_str x ?_
          obtain ⟨j, hj, rfl⟩ := List.getElem_of_mem hx
          obtain ⟨b, off, c', e1, _, _, h3', h4⟩ := HV.out.cells (by intro e; rw [e] at hj; simp at hj)
          obtain ⟨pv, _, hbs⟩ := h4 j hj
          have := hbs.ok
          rwa [List.getD_eq_getElem?_getD, List.getElem?_eq_getElem hj] at this
        have htx := Txs.of_own hown.out
        obtain ⟨OUT, hOUT⟩ : ∃ o, o = short z ps := ⟨_, rfl⟩
        have hol : OUT.length = 16 := by rw [hOUT, short_len]
        have hsame := run_same16 OUT hol
        have HTX := Lib.hid htx
        have HFL := Lib.hid hfl
        have HID := Lib.hid hids
        have HOUT := Lib.hid hOUT
        clear hol hOUT htx hfl hids htk hall hown
        go_wp2_with fail
        refine (of_any z ps A i c wr (HV.out.below hbel.out) HN.out HFL.out (range_below HK.out hbel.out) (by have := hbel.out.size; omega)).mono ?_
        rintro e w6 ⟨rfl, hb6⟩
        rw [← HOUT.out]
        have H6 := Lib.hid (hbel.out.trans (hb6.mono hbel.out.size))
        have HT6 := Lib.hid (HTX.out.below hb6)
        clear hb6 HTX
        go_wp2_with fail
        refine (refof_any z (ps.map strOfNums) A1 i c1 w6 HT6.out (by rw [List.length_map]; exact HN.out) (by rw [HID.out]; exact HFL.out)).mono ?_
        rintro e w7 ⟨rfl, hb7⟩
        rw [HID.out, ← HOUT.out]
        have hb8 := H6.out.trans (hb7.mono H6.out.size)
        go_wp2
        go_ret
        exact ⟨rfl, hb8⟩
end Go.Proofs.YtdedphhohiioiaaDoor
/- What small and Run of the chains do. -/
namespace Go.Proofs.YtdedphhohiioiaaDoor
open Go.RowKit

theorem small_any (z : Int) (w : World) : Calls Tryd.prog 76 #[.int .i64 z] w fun e w' => e = .returned (.slice (some ⟨w.heap.size, 0, none⟩) 1 1) ∧ w' = w.alloc (.cells #[.int .u8 (z % 256)] 5) := by
  go_enter Tryd.func76, Tryd.ntmps76
  go_wp2
  go_ret
  exact ⟨rfl, rfl⟩

def stepC (l c : Int) (x : List Int) (k : Nat) : List Int := short 2 [x, [l % 256], [c % 256], [(k : Int) % 256]]
def walkC (l c : Int) (x : List Int) (a b : Nat) : List Int := (List.range' a (b - a)).foldl (stepC l c) x
def runC (l c : Int) (x : List Int) (fr to : Int) : List Int := walkC l c x (max fr 0).toNat (min to 3).toNat
theorem walk_none (l c : Int) (x : List Int) (a b : Nat) (h : b ≤ a) : walkC l c x a b = x := by
  unfold walkC
  rw [Nat.sub_eq_zero_of_le h]
  rfl
theorem walk_succ (l c : Int) (x : List Int) (a i : Nat) (h : a ≤ i) : walkC l c x a (i + 1) = stepC l c (walkC l c x a i) i := by
  unfold walkC
  rw [show i + 1 - a = (i - a) + 1 by omega, List.range'_1_concat, List.foldl_append, show a + (i - a) = i by omega]
  rfl
theorem walk_join (l c : Int) (x : List Int) (a b d : Nat) (h1 : a ≤ b) (h2 : b ≤ d) : walkC l c (walkC l c x a b) b d = walkC l c x a d := by
  unfold walkC
  rw [← List.foldl_append]
  congr 1
  have := List.range'_append_1 (s := a) (m := b - a) (n := d - b)
  rw [show a + (b - a) = b by omega, show b - a + (d - b) = d - a by omega] at this
  exact this
theorem step_len (l c : Int) (x : List Int) (k : Nat) : (stepC l c x k).length = 16 := short_len _ _
theorem step_ok (l c : Int) (x : List Int) (k : Nat) : u8s_ok (stepC l c x k) := short_ok _ _
theorem walk_good (l c : Int) (x : List Int) (a b : Nat) (hl : x.length = 16) (hx : u8s_ok x) : (walkC l c x a b).length = 16 ∧ u8s_ok (walkC l c x a b) := by
  unfold walkC
  generalize List.range' a (b - a) = ks
  induction ks generalizing x with
  | nil => exact ⟨hl, hx⟩
  | cons k ks ih => exact ih _ (step_len l c x k) (step_ok l c x k)

theorem Bss.new (w : World) (vs : List Value) (ps : List (List Int)) (hlen : vs.length = ps.length) (h : ∀ i, i < ps.length → Bs w (vs.getD i undef) (ps.getD i [])) (hz : ps.length ≤ 1000) :
    Bss (w.alloc (.cells vs.toArray 22)) (.slice (some ⟨w.heap.size, 0, none⟩) ps.length ps.length) ps := by
  refine ⟨⟨_, _, rfl⟩, fun _ => ⟨w.heap.size, 0, ps.length, rfl, Nat.le_refl _, by unfold maxLen; omega, by simp, fun i hi => ⟨vs.getD i undef, ?_, (h i hi).below ((Below.refl _ _).alloc (Nat.le_refl _) _)⟩⟩⟩
  rw [Nat.zero_add, cell_of_row _ _ _ _ _ _ (heap_alloc_new w _)]
  simp [List.getD_eq_getElem?_getD, show i < vs.length by omega]
theorem gives_build {P : Program} {o : Oper} {ρ : Operand → Value} {w w' : World} {S : Value → World → Prop} (t : TypeId) (n : Nat) (parts : Array (Nat × Operand)) (ho : o.op = .buildSlice t n parts) (pv : Array (Nat × Value)) (hp : (parts.map fun (i, x) => (i, ρ x)) = pv) (v : Value)
    (hr : (Instr.buildSlice t n pv).run P w = .ok v w') (h : S v w') : Gives P o ρ w S := by
  refine gives_val v (w' := w') ?_ h
  unfold execOp
  simp only [ho, hp, Sem.run_bind, hr, Result.andThen_ok, Sem.run_pure]
theorem build30 (a b c d : Option Addr) (n1 n2 n3 n4 c1 c2 c3 c4 : Nat) (w : World) : (Instr.buildSlice 30 4 #[(0, .slice a n1 c1), (1, .slice b n2 c2), (2, .slice c n3 c3), (3, .slice d n4 c4)]).run Tryd.prog w = .ok (.slice (some ⟨w.heap.size, 0, none⟩) 4 4) (w.alloc (.cells #[.slice a n1 c1, .slice b n2 c2, .slice c n3 c3, .slice d n4 c4] 22)) := by
  go_simp
theorem build30' (a b c : Option Addr) (n1 n2 n3 c1 c2 c3 : Nat) (w : World) : (Instr.buildSlice 30 3 #[(0, .slice a n1 c1), (1, .slice b n2 c2), (2, .slice c n3 c3)]).run Tryd.prog w = .ok (.slice (some ⟨w.heap.size, 0, none⟩) 3 3) (w.alloc (.cells #[.slice a n1 c1, .slice b n2 c2, .slice c n3 c3] 22)) := by
  go_simp
theorem slice43 (b : Nat) (w : World) : (Instr.sliceAt 43 (.pointer (some ⟨b, 0, none⟩)) none none none).run Tryd.prog w = .ok (.slice (some ⟨b, 0, none⟩) 16 16) w := by
  go_simp
theorem Bs.new1 (w : World) (z : Int) : Bs (w.alloc (.cells #[.int .u8 (z % 256)] 5)) (.slice (some ⟨w.heap.size, 0, none⟩) 1 1) [z % 256] :=
  Bs.new w [z % 256] (fun b hb => by simp at hb; rw [hb]; unfold B8; omega) (by simp) (0, 0)

set_option maxHeartbeats 4000000 in
set_option maxRecDepth 100000 in
theorem run_any (x : List Int) (hl : x.length = 16) (hx : u8s_ok x) (l c fr to : Int) (w : World) (hk : w.rangeAt 18 0 (u32s kk)) (h18 : 18 < w.heap.size) :
    Calls Tryd.prog 37 #[.agg (u8s x).toArray, .int .i64 l, .int .i64 c, .int .i64 fr, .int .i64 to] w fun e w' => e = .returned (.agg (u8s (runC l c x fr to)).toArray) ∧ Below w.heap.size w w' := by
  have HK := Lib.hid hk
  have HL := Lib.hid hl
  have HX := Lib.hid hx
  clear hk hl hx
  go_enter Tryd.func37, Tryd.ntmps37
  go_wp2
  have hz2 : ((w.alloc (.cells (u8s x).toArray 43)).alloc (Obj.cells (Array.replicate 16 (Value.int .u8 0)) 43)).heap.size = w.heap.size + 2 := by simp
  have hx0 : ((w.alloc (.cells (u8s x).toArray 43)).alloc (Obj.cells (Array.replicate 16 (Value.int .u8 0)) 43)).heap[w.heap.size]? = some (.cells (u8s (walkC l c x (max fr 0).toNat (max fr 0).toNat)).toArray 43 (0, 0)) := by
    rw [walk_none _ _ _ _ _ (Nat.le_refl _)]
    exact heap_alloc2_old w _ _
  have hr0 : Has ((w.alloc (.cells (u8s x).toArray 43)).alloc (Obj.cells (Array.replicate 16 (Value.int .u8 0)) 43)) (w.heap.size + 1) 43 16 := has_new2 w _ _ _ _ rfl
  have hb0 : Below w.heap.size w ((w.alloc (.cells (u8s x).toArray 43)).alloc (Obj.cells (Array.replicate 16 (Value.int .u8 0)) 43)) := ((Below.refl _ _).alloc (Nat.le_refl _) _).alloc (by simp) _
  have X0 := Lib.hid hx0
  have R0 := Lib.hid hr0
  have B0 := Lib.hid hb0
  change Code.wp _ _ _ _ ((w.alloc (.cells (u8s x).toArray 43)).alloc (Obj.cells (Array.replicate 16 (Value.int .u8 0)) 43))
  generalize (w.alloc (.cells (u8s x).toArray 43)).alloc (Obj.cells (Array.replicate 16 (Value.int .u8 0)) 43) = wo at *
  clear hx0 hr0 hb0 hz2
  obtain ⟨a, ha⟩ : ∃ a : Nat, a = (max fr 0).toNat := ⟨_, rfl⟩
  have ha2 : max fr 0 = (a : Int) := by omega
  rw [ha2]
  rw [← ha] at X0
  have HA := Lib.hid ha
  clear ha
  go_loopw [11] (fun s wr => ∃ (i : Nat), s = .int .i64 i ∧ a ≤ i ∧ (i = a ∨ i ≤ (min to 3).toNat) ∧ Hid (wr.heap[w.heap.size]? = some (.cells (u8s (walkC l c x a i)).toArray 43 (0, 0))) ∧ Hid (Has wr (w.heap.size + 1) 43 16) ∧ Hid (Below w.heap.size w wr))
    (fun s _ => 3 - (intOf s).toNat)
  case atStart => exact ⟨a, rfl, Nat.le_refl _, .inl rfl, X0, R0, B0⟩
  case round =>
    clear X0 R0 B0
    obtain ⟨i, rfl, hai, hib, hXB, hR', hbel⟩ := hrel
    by_cases hlt : (i : Int) < min to 3
    · obtain ⟨X, hX⟩ : ∃ X, X = walkC l c x a i := ⟨_, rfl⟩
      have hgood := walk_good l c x a i HL.out HX.out
      rw [← hX] at hgood hXB
      obtain ⟨hXl, hXo⟩ := hgood
      have hws : walkC l c x a (i + 1) = stepC l c X i := by rw [walk_succ _ _ _ _ _ hai, hX]
      have hbx : Bs wr (.slice (some ⟨w.heap.size, 0, none⟩) X.length 16) X := Bs.of_blk hXB.out hXo (by omega) (by unfold maxLen; omega)
      rw [hXl] at hbx
      obtain ⟨ST, hST⟩ : ∃ s, s = stepC l c X i := ⟨_, rfl⟩
      have hSl : ST.length = 16 := by rw [hST]; exact step_len _ _ _ _
      have hfl : (framed 2 [X, [l % 256], [c % 256], [(i : Int) % 256]]).length ≤ 1099511627776 := by simp [framed, be4, hXl]
      have hi43 : (Tryd.prog.info? 43).map (·.size) = some (u8s ST).length := by rw [u8s_len', hSl]; exact Tryd.size43
      have hhas : ∀ w3, Ext wr w3 → Has w3 w.heap.size 43 (u8s ST).length := fun w3 h => by
        rw [u8s_len', hSl]
        exact Has.below ⟨_, by simp only [List.size_toArray]; rw [u8s_len', hXl], hXB.out⟩ h
      rw [← hST] at hws
      have HBX := Lib.hid hbx
      have HFL := Lib.hid hfl
      have HWS := Lib.hid hws
      have HST := Lib.hid hST
      have HI := Lib.hid hi43
      have HH := Lib.hid hhas
      have HXL := Lib.hid hXl
      clear hbx hfl hws hST hi43 hhas hXl hXo hSl hX hXB
      go_wp2_with fail
      refine wp_region_rely (by kernel_rfl) 9 (by kernel_rfl) (by kernel_rfl) Ext Ext.refl Ext.trans (fun i' => match i' with
        | 0 => fun _ v => v = .slice (some ⟨w.heap.size, 0, none⟩) 16 16
        | 1 => fun _ v => v = .int .i64 l
        | 2 => fun w v => Bs w v [l % 256]
        | 3 => fun _ v => v = .int .i64 c
        | 4 => fun w v => Bs w v [c % 256]
        | 5 => fun _ v => v = .int .i64 i
        | 6 => fun w v => Bs w v [(i : Int) % 256]
        | 7 => fun w v => ∃ A, v = .slice A 4 4 ∧ Bss w (.slice A 4 4) [X, [l % 256], [c % 256], [(i : Int) % 256]]
        | 8 => fun _ v => v = .agg (u8s ST).toArray
        | _ => fun _ _ => False) ?_
      simp (maxSteps := 10000000) only [Rely, List.take_succ_cons, List.take_zero, List.drop_succ_cons, List.drop_zero, Nat.reduceAdd, Nat.zero_add, Act.put, List.setIfInBounds_toArray, List.set_cons_succ, List.set_cons_zero]
      refine ⟨?_, ?_, ?_, ?_, ?_, ?_, ?_, ?_, ?_, ?_⟩
      · refine step_plain rfl fun vs w1 hE hd => ?_
        exact gives_slice 43 _ none none none rfl (.pointer (some ⟨w.heap.size, 0, none⟩)) (.slice (some ⟨w.heap.size, 0, none⟩) 16 16) none none none rfl rfl rfl rfl (slice43 _ _) ⟨Ext.refl _, fun _ _ => rfl⟩
      · refine step_plain rfl fun vs w1 hE hd => ?_
        exact gives_move _ (.int .i64 l) (.inl rfl) rfl ⟨Ext.refl _, fun _ _ => rfl⟩
      · refine step_plain rfl fun vs w1 hE hd => ?_
        refine gives_call 76 Tryd.call76 _ _ rfl rfl [.int .i64 l] (congrArg (fun x => [x]) (hd.1)) ?_
        refine (small_any l w1).mono ?_
        rintro e w2 ⟨rfl, rfl⟩
        exact ⟨_, rfl, (Below.refl _ _).alloc (Nat.le_refl _) _, fun _ h => (Bs.new1 w1 l).below h⟩
      · refine step_plain rfl fun vs w1 hE hd => ?_
        exact gives_move _ (.int .i64 c) (.inl rfl) rfl ⟨Ext.refl _, fun _ _ => rfl⟩
      · refine step_plain rfl fun vs w1 hE hd => ?_
        refine gives_call 76 Tryd.call76 _ _ rfl rfl [.int .i64 c] (congrArg (fun x => [x]) (hd.1)) ?_
        refine (small_any c w1).mono ?_
        rintro e w2 ⟨rfl, rfl⟩
        exact ⟨_, rfl, (Below.refl _ _).alloc (Nat.le_refl _) _, fun _ h => (Bs.new1 w1 c).below h⟩
      · refine step_plain rfl fun vs w1 hE hd => ?_
        exact gives_move _ (.int .i64 i) (.inl rfl) rfl ⟨Ext.refl _, fun _ _ => rfl⟩
      · refine step_plain rfl fun vs w1 hE hd => ?_
        refine gives_call 76 Tryd.call76 _ _ rfl rfl [.int .i64 i] (congrArg (fun x => [x]) (hd.1)) ?_
        refine (small_any i w1).mono ?_
        rintro e w2 ⟨rfl, rfl⟩
        exact ⟨_, rfl, (Below.refl _ _).alloc (Nat.le_refl _) _, fun _ h => (Bs.new1 w1 i).below h⟩
      · refine step_plain rfl fun vs w1 hE hd => ?_
        have e0 : vs 0 = _ := hd.1
        have b2 : Bs w1 (vs 2) [l % 256] := hd.2.1
        have b4 : Bs w1 (vs 4) [c % 256] := hd.2.2.1
        have b6 : Bs w1 (vs 6) [(i : Int) % 256] := hd.2.2.2.1
        have bx : Bs w1 _ X := HBX.out.below (ext_of_drew hE)
        obtain ⟨A2, c2, e2⟩ := b2.form
        obtain ⟨A4, c4, e4⟩ := b4.form
        obtain ⟨A6, c6, e6⟩ := b6.form
        rw [e2] at b2
        rw [e4] at b4
        rw [e6] at b6
        refine gives_build 30 4 _ rfl #[(0, .slice (some ⟨w.heap.size, 0, none⟩) 16 16), (1, .slice A2 1 c2), (2, .slice A4 1 c4), (3, .slice A6 1 c6)] ?_ _ (build30 _ _ _ _ _ _ _ _ _ _ _ _ _) ⟨(Below.refl _ _).alloc (Nat.le_refl _) _, fun w5 h5 => ⟨_, rfl, Bss.below (Bss.new w1 [.slice (some ⟨w.heap.size, 0, none⟩) 16 16, .slice A2 1 c2, .slice A4 1 c4, .slice A6 1 c6] [X, [l % 256], [c % 256], [(i : Int) % 256]] rfl (fun j hj => ?_) (by simp)) h5⟩⟩
        · simp only [List.map_toArray, List.map_cons, List.map_nil]
          show #[(0, vs 0), (1, vs 2), (2, vs 4), (3, vs 6)] = _
          rw [e0, e2, e4, e6]
          rfl
        · have hj4 : j = 0 ∨ j = 1 ∨ j = 2 ∨ j = 3 := by simp at hj; omega
          rcases hj4 with rfl | rfl | rfl | rfl
          · exact bx
          · exact b2
          · exact b4
          · exact b6
      · refine step_plain rfl fun vs w1 hE hd => ?_
        obtain ⟨A7, e7, b7⟩ : ∃ A, vs 7 = .slice A 4 4 ∧ Bss w1 (.slice A 4 4) [X, [l % 256], [c % 256], [(i : Int) % 256]] := hd.1
        have hw1 : Below w.heap.size w w1 := hbel.out.trans (Below.mono (ext_of_drew hE) hbel.out.size)
        refine gives_call 33 Tryd.call33 _ _ rfl rfl [.int .i64 2, .slice A7 4 4] (congrArg (fun x => [Value.int .i64 2, x]) e7) ?_
        refine (of_any 2 [X, [l % 256], [c % 256], [(i : Int) % 256]] A7 4 4 w1 b7 rfl HFL.out (range_below HK.out hw1) (by have := hw1.size; omega)).mono ?_
        rintro e w2 ⟨rfl, hb⟩
        exact ⟨_, rfl, hb, fun _ _ => by rw [HST.out]; rfl⟩
      · intro vs w3 hE hR
        have h8 : vs 8 = .agg (u8s ST).toArray := hR 8 (by omega)
        rw [h8]
        have he : Ext wr w3 := ext_of_drew hE
        have HH3 := Lib.hid (HH.out w3 he)
        have HR3 := Lib.hid (hR'.out.below he)
        have HB3 := Lib.hid (hbel.out.trans (Below.mono he hbel.out.size))
        clear hR hE h8 HH he
        go_wp2_with (refine wpList_store_row rfl 43 (.tmp 5) (.tmp 28) rfl w.heap.size rfl (u8s ST) rfl 43 HH3.out HI.out (one_u8s _) ?_; intro w9 hp9)
        go_roundw
        case rel => exact ⟨i + 1, by go_num, by omega, .inr (by omega), Lib.hid (by rw [HWS.out]; exact hp9.blk), Lib.hid (HR3.out.same (hp9.other _ (by omega))), Lib.hid (hp9.below HB3.out (Nat.le_refl _))⟩
        case measure => simp [intOf]; omega
    · have hwk : walkC l c x a i = runC l c x fr to := by
        unfold runC
        rw [← HA.out]
        rcases hib with rfl | hib
        · rw [walk_none _ _ _ _ _ (Nat.le_refl _), walk_none _ _ _ _ _ (by omega)]
        · by_cases h : i = (min to 3).toNat
          · rw [h]
          · rw [walk_none _ _ _ _ _ (by omega), walk_none _ _ _ _ _ (by omega)]
      rw [hwk] at hXB
      obtain ⟨SH, hSH⟩ : ∃ s, s = runC l c x fr to := ⟨_, rfl⟩
      have hsl : SH.length = 16 := by rw [hSH]; exact (walk_good l c x _ _ HL.out HX.out).1
      have hi43 : (Tryd.prog.info? 43).map (·.size) = some (u8s SH).length := by rw [u8s_len', hsl]; exact Tryd.size43
      rw [← hSH] at hXB
      have hra : wr.rangeAt w.heap.size 0 (u8s SH) := blk_range hXB.out
      have hh : Has wr (w.heap.size + 1) 43 (u8s SH).length := by rw [u8s_len', hsl]; exact hR'.out
      have HRA := Lib.hid hra
      have HHH := Lib.hid hh
      have HI43 := Lib.hid hi43
      have HSH := Lib.hid hSH
      clear hra hh hi43 hSH hXB hR' hwk
      go_wp2_with (first | (refine wpList_load_g rfl 43 (.tmp 5) rfl w.heap.size 0 rfl (u8s SH) _ HRA.out Tryd.underlying43 rfl HI43.out ?_) | (refine wpList_store_row rfl 43 (.tmp 10) (.tmp 29) rfl (w.heap.size + 1) rfl (u8s SH) rfl 43 HHH.out HI43.out (one_u8s _) ?_; intro w10 hp10))
      refine bodyPost_ret (v := .agg (u8s SH).toArray) (results_cell_row rfl _ _ (w.heap.size + 1) 43 _ (0, 0) _ rfl hp10.blk Tryd.underlying43 rfl (by simpa using HI43.out)) rfl ⟨by rw [HSH.out], hp10.below hbel.out (by omega)⟩
end Go.Proofs.YtdedphhohiioiaaDoor
/- Slices of digests; what the reference's Same does. -/
namespace Go.Proofs.YtdedphhohiioiaaDoor
open Go.RowKit

/-- A slice of digests. -/
structure Dgs (w : World) (v : Value) (ds : List (List Int)) : Prop where
  form : ∃ A c, v = .slice A ds.length c
  cells : ds ≠ [] → ∃ b off c, v = .slice (some ⟨b, off, none⟩) ds.length c ∧ ds.length ≤ c ∧ c ≤ maxLen ∧ b < w.heap.size ∧ ∀ i, i < ds.length → w.rangeAt b (off + i * 16) (u8s (ds.getD i []))
  good : ∀ d ∈ ds, d.length = 16 ∧ u8s_ok d
theorem Dgs.below {w w' : World} {v : Value} {ds : List (List Int)} (h : Dgs w v ds) (hb : Below w.heap.size w w') : Dgs w' v ds := by
  refine ⟨h.form, fun hne => ?_, h.good⟩
  obtain ⟨b, off, c, e, h1, h2, h3, h4⟩ := h.cells hne
  exact ⟨b, off, c, e, h1, h2, Nat.lt_of_lt_of_le h3 hb.size, fun i hi => range_below (h4 i hi) hb⟩
theorem Dgs.at {w : World} {v : Value} {ds : List (List Int)} (h : Dgs w v ds) (i : Nat) (hi : i < ds.length) : (ds.getD i []).length = 16 ∧ u8s_ok (ds.getD i []) := by
  rw [List.getD_eq_getElem?_getD, List.getElem?_eq_getElem hi]
  exact h.good _ (List.getElem_mem _)

theorem run_neq43 (a b : List Int) (ha : a.length = 16) (hb : b.length = 16) (W : World) : (binOp .neq 43 (.agg (u8s a).toArray) (.agg (u8s b).toArray)).run Tryd.prog W = .ok (.bool (!decide (a = b))) W :=
  run_neq_bytes 43 5 16 a b Tryd.underlying43 Tryd.underlying5 (by kernel_rfl) ha hb

set_option maxHeartbeats 4000000 in
set_option maxRecDepth 100000 in
theorem same_any (xs ys : List (List Int)) (A A' : Option Addr) (n n' c c' : Nat) (w : World) (hx : Dgs w (.slice A n c) xs) (hy : Dgs w (.slice A' n' c') ys) (hn : n = xs.length) (hn' : n' = ys.length) (hz : n ≤ 1000000) :
    Calls Tryd.prog 43 #[.slice A n c, .slice A' n' c'] w fun e w' => e = .returned (.bool (decide (xs = ys))) ∧ Below w.heap.size w w' := by
  have HXS := Lib.hid hx
  have HYS := Lib.hid hy
  have HN := Lib.hid hn
  have HN' := Lib.hid hn'
  clear hx hy hn hn'
  by_cases hne : n = n'
  · subst hne
    go_enter Tryd.func43, Tryd.ntmps43
    go_wp2
    go_loopw [5, 13] (fun _ k wr => ∃ (i : Nat), i ≤ n ∧ k = .int .i64 i ∧ Hid (xs.take i = ys.take i) ∧ Hid (Below w.heap.size w wr))
      (fun _ k _ => n - (intOf k).toNat)
    case atStart => exact ⟨0, by omega, rfl, Lib.hid rfl, Lib.hid (Below.refl _ _)⟩
    case round =>
      obtain ⟨i, hi, rfl, htk, hbel⟩ := hrel
      by_cases hlt : i < n
      · have hi1 : i < xs.length := by have := HN.out; omega
        have hi2 : i < ys.length := by have := HN'.out; omega
        obtain ⟨b, off, c1, e1, _, _, _, h4⟩ := (HXS.out.below hbel.out).cells (by intro e; rw [e] at hi1; simp at hi1)
        obtain ⟨b', off', c1', e1', _, _, _, h4'⟩ := (HYS.out.below hbel.out).cells (by intro e; rw [e] at hi2; simp at hi2)
        simp only [Value.slice.injEq] at e1 e1'
        obtain ⟨rfl, -, rfl⟩ := e1
        obtain ⟨rfl, -, rfl⟩ := e1'
        have ra := h4 i hi1
        have rb := h4' i hi2
        obtain ⟨dl, do1⟩ := HXS.out.at i hi1
        obtain ⟨dl', do2⟩ := HYS.out.at i hi2
        have ht1 : xs.take (i + 1) = xs.take i ++ [xs.getD i []] := by rw [List.take_succ_eq_append_getElem hi1]; simp [List.getD_eq_getElem?_getD, hi1]
        have ht2 : ys.take (i + 1) = ys.take i ++ [ys.getD i []] := by rw [List.take_succ_eq_append_getElem hi2]; simp [List.getD_eq_getElem?_getD, hi2]
        have hne2 : xs.getD i [] ≠ ys.getD i [] → xs ≠ ys := fun h e => h (by rw [e])
        obtain ⟨DA, hDA⟩ : ∃ d, d = xs.getD i [] := ⟨_, rfl⟩
        obtain ⟨DB, hDB⟩ : ∃ d, d = ys.getD i [] := ⟨_, rfl⟩
        rw [← hDA] at ra dl ht1 hne2
        rw [← hDB] at rb dl' ht2 hne2
        have hi43 : (Tryd.prog.info? 43).map (·.size) = some (u8s DA).length := by rw [u8s_len', dl]; exact Tryd.size43
        have hi43' : (Tryd.prog.info? 43).map (·.size) = some (u8s DB).length := by rw [u8s_len', dl']; exact Tryd.size43
        have RA := Lib.hid ra
        have RB := Lib.hid rb
        have HT1 := Lib.hid ht1
        have HT2 := Lib.hid ht2
        have HNE := Lib.hid hne2
        have HI := Lib.hid hi43
        have HI' := Lib.hid hi43'
        have HDL := Lib.hid dl
        have HDL' := Lib.hid dl'
        clear ra rb ht1 ht2 hne2 hi43 hi43' dl dl' do1 do2 hDA hDB h4 h4' hi1 hi2
        have hil : (i : Int) < n := by omega
        go_wp2_with fail
--[
        refine wp_region_rely (by kernel_rfl) 9 (by kernel_rfl) (by kernel_rfl) Ext Ext.refl Ext.trans (fun ix => match ix with
          | 0 => fun _ v => v = .slice (some ⟨b, off, none⟩) n c
          | 1 => fun _ v => v = .int .i64 i
          | 2 => fun _ v => v = .pointer (some ⟨b, off + i * 16, none⟩)
          | 3 => fun _ v => v = .agg (u8s DA).toArray
          | 4 => fun _ v => v = .slice (some ⟨b', off', none⟩) n c'
          | 5 => fun _ v => v = .int .i64 i
          | 6 => fun _ v => v = .pointer (some ⟨b', off' + i * 16, none⟩)
          | 7 => fun _ v => v = .agg (u8s DB).toArray
          | 8 => fun _ v => v = .bool (!decide (DA = DB))
          | _ => fun _ _ => False) ?_
        simp (maxSteps := 10000000) only [Rely, List.take_succ_cons, List.take_zero, List.drop_succ_cons, List.drop_zero, Nat.reduceAdd, Nat.zero_add, Act.put, List.setIfInBounds_toArray, List.set_cons_succ, List.set_cons_zero]
        refine ⟨?_, ?_, ?_, ?_, ?_, ?_, ?_, ?_, ?_, ?_⟩
        · refine step_plain rfl fun vs w1 hE hd => ?_
          exact gives_move _ (.slice (some ⟨b, off, none⟩) n c) (.inl rfl) rfl ⟨Ext.refl _, fun _ _ => rfl⟩
        · refine step_plain rfl fun vs w1 hE hd => ?_
          exact gives_move _ (.int .i64 i) (.inl rfl) rfl ⟨Ext.refl _, fun _ _ => rfl⟩
        · refine step_plain rfl fun vs w1 hE hd => ?_
          exact gives_indexAt 55 _ _ rfl (.slice (some ⟨b, off, none⟩) n c) (.int .i64 i) (.pointer (some ⟨b, off + i * 16, none⟩)) (show vs 0 = _ from hd.1) (show vs 1 = _ from hd.2.1) (by go_simp) ⟨Ext.refl _, fun _ _ => rfl⟩
        · refine step_plain rfl fun vs w1 hE hd => ?_
          exact gives_load_row 43 _ rfl b (off + i * 16) (show vs 2 = _ from (hd.1)) (u8s DA) _ (range_below RA.out (ext_of_drew hE)) Tryd.underlying43 rfl HI.out ⟨Ext.refl _, fun _ _ => rfl⟩
        · refine step_plain rfl fun vs w1 hE hd => ?_
          exact gives_move _ (.slice (some ⟨b', off', none⟩) n c') (.inl rfl) rfl ⟨Ext.refl _, fun _ _ => rfl⟩
        · refine step_plain rfl fun vs w1 hE hd => ?_
          exact gives_move _ (.int .i64 i) (.inl rfl) rfl ⟨Ext.refl _, fun _ _ => rfl⟩
        · refine step_plain rfl fun vs w1 hE hd => ?_
          exact gives_indexAt 55 _ _ rfl (.slice (some ⟨b', off', none⟩) n c') (.int .i64 i) (.pointer (some ⟨b', off' + i * 16, none⟩)) (show vs 4 = _ from hd.1) (show vs 5 = _ from hd.2.1) (by go_simp) ⟨Ext.refl _, fun _ _ => rfl⟩
        · refine step_plain rfl fun vs w1 hE hd => ?_
          exact gives_load_row 43 _ rfl b' (off' + i * 16) (show vs 6 = _ from (hd.1)) (u8s DB) _ (range_below RB.out (ext_of_drew hE)) Tryd.underlying43 rfl HI'.out ⟨Ext.refl _, fun _ _ => rfl⟩
        · refine step_plain rfl fun vs w1 hE hd => ?_
          exact gives_binOp .neq 43 _ _ _ rfl (.agg (u8s DA).toArray) (.agg (u8s DB).toArray) (.bool (!decide (DA = DB))) (show vs 3 = _ from (hd.1)) (show vs 7 = _ from (hd.2.1)) (by go_simp) (run_neq43 DA DB HDL.out HDL'.out _) ⟨Ext.refl _, fun _ _ => rfl⟩
        · intro vs w2 hE hR
          have h8 : vs 8 = .bool (!decide (DA = DB)) := hR 8 (by omega)
          rw [h8]
          have hb2 : Below w.heap.size w w2 := hbel.out.trans (Below.mono (ext_of_drew hE) hbel.out.size)
          have HB2 := Lib.hid hb2
          clear hR hE h8 hb2
          by_cases heq : DA = DB
          · rw [show (!decide (DA = DB)) = false by simp [heq]]
            go_wp2
            go_roundw
            case rel => exact ⟨i + 1, by omega, by go_num, Lib.hid (by rw [HT1.out, HT2.out, htk.out, heq]), HB2⟩
            case measure => simp [intOf]; omega
          · rw [show (!decide (DA = DB)) = true by simp [heq]]
            go_wp2
            go_ret
            exact ⟨by rw [decide_eq_false (HNE.out heq)]; rfl, HB2.out⟩
--]
      · obtain rfl : i = n := by omega
        have he : xs = ys := by
          have := htk.out
          rwa [List.take_of_length_le (by rw [HN.out]; exact Nat.le_refl _), List.take_of_length_le (by rw [HN'.out]; exact Nat.le_refl _)] at this
        have HE := Lib.hid he
        clear he
        go_wp2
        go_ret
        exact ⟨by rw [decide_eq_true HE.out]; rfl, hbel.out⟩
  · have hni : ((n : Int) != n') = true := by simp; omega
    go_enter Tryd.func43, Tryd.ntmps43
    go_wp2
    go_ret
    exact ⟨by rw [decide_eq_false (fun e => hne (by rw [HN.out, HN'.out, e]))]; rfl, Below.refl _ _⟩
end Go.Proofs.YtdedphhohiioiaaDoor
/- What the reference's Text and one do. -/
namespace Go.Proofs.YtdedphhohiioiaaDoor
open Go.RowKit

theorem one_ok (z : Int) : u8s_ok [z % 256] := fun b hb => by simp at hb; rw [hb]; unfold B8; omega

set_option maxHeartbeats 4000000 in
set_option maxRecDepth 100000 in
theorem one_any (z : Int) (w : World) : Calls Tryd.prog 78 #[.int .i64 z] w fun e w' => e = .returned (.string (strOfNums [z % 256])) ∧ Below w.heap.size w w' := by
  go_enter Tryd.func78, Tryd.ntmps78
  go_wp2_with (refine wpList_conv_str rfl (.tmp 5) rfl (.slice (some ⟨w.heap.size, 0, none⟩) 1 1) [z % 256] rfl (Bs.new1 w z) ?_)
  go_ret
  exact ⟨rfl, (Below.refl _ _).alloc (Nat.le_refl _) _⟩

set_option maxHeartbeats 4000000 in
set_option maxRecDepth 100000 in
theorem text_any (x : List Int) (hl : x.length = 16) (hx : u8s_ok x) (w : World) :
    Calls Tryd.prog 77 #[.agg (u8s x).toArray] w fun e w' => e = .returned (.string (strOfNums x)) ∧ Below w.heap.size w w' := by
  have HL := Lib.hid hl
  have HX := Lib.hid hx
  have hi43 : (Tryd.prog.info? 43).map (·.size) = some (u8s x).length := by rw [u8s_len', hl]; exact Tryd.size43
  have HI := Lib.hid hi43
  clear hl hx hi43
  have hra : ((w.alloc (.cells (u8s x).toArray 43)).alloc (.cells #[] 5)).rangeAt w.heap.size 0 (u8s x) := World.rangeAt_alloc (range_new w (u8s x) 43) _
  have HRA := Lib.hid hra
  clear hra
  go_enter Tryd.func77, Tryd.ntmps77
  go_wp2_with (refine wpList_load_g rfl 43 (.tmp 1) rfl w.heap.size 0 rfl (u8s x) _ HRA.out Tryd.underlying43 rfl HI.out ?_)
  have hown0 : OwnO ((w.alloc (.cells (u8s x).toArray 43)).alloc (.cells #[] 5)) w.heap.size 5 (.slice (some ⟨w.heap.size + 1, 0, none⟩) 0 0) (u8s (x.take 0)) := by
    have := own_mk (w := (w.alloc (.cells (u8s x).toArray 43)).alloc (.cells #[] 5)) (base := w.heap.size) (e := 5) (c := 0) (w.alloc (.cells (u8s x).toArray 43)) (by simp) #[] rfl (by simp) rfl
    rw [World.size_alloc] at this
    exact this
  have hbel0 : Below w.heap.size w ((w.alloc (.cells (u8s x).toArray 43)).alloc (.cells #[] 5)) := ((Below.refl _ _).alloc (Nat.le_refl _) _).alloc (by simp) _
  have O0 := Lib.hid hown0
  have B0 := Lib.hid hbel0
  clear hown0 hbel0
  go_loopw [3, 8] (fun s k wr => ∃ (i c' : Nat) (A' : Option Addr), i ≤ 16 ∧ s = .slice A' i c' ∧ k = .int .i64 i ∧ Hid (OwnO wr w.heap.size 5 s (u8s (x.take i))) ∧ Hid (Below w.heap.size w wr))
    (fun _ k _ => 16 - (intOf k).toNat)
  case atStart => exact ⟨0, 0, _, by omega, rfl, rfl, O0, B0⟩
  case round =>
    clear O0 B0
    obtain ⟨i, c1, A1, hi, rfl, rfl, hown, hbel⟩ := hrel
    by_cases hlt : i < 16
    · have hlx := HL.out
      obtain ⟨b, hb⟩ : ∃ b, b = x.getD i 0 := ⟨_, rfl⟩
      have hbk : (u8s x).toArray[(i : Int).toNat]? = some (.int .u8 b) := by
        simp [u8s, hb, List.getD_eq_getElem?_getD, List.getElem?_eq_getElem (show i < x.length by omega)]
      have htk : x.take (i + 1) = x.take i ++ [b] := by rw [hb]; exact take_add x i (by omega)
      have hrl : (x.take i).length = i := by rw [List.length_take]; omega
      have HBK := Lib.hid hbk
      have HTK := Lib.hid htk
      have HRL := Lib.hid hrl
      clear hbk htk hrl hb hlx
      go_wp2_with (first | (refine wpList_index_arr rfl 43 5 16 (.tmp 7) (.tmp 8) rfl (u8s x).toArray .i64 i (.int .u8 b) rfl rfl Tryd.underlying43 _ Tryd.underlying5 rfl (by kernel_rfl) (by omega) (by omega) HBK.out ?_) | (at_builtin; refine appO (w0 := w) w.heap.size rfl (.tmp 11) (.tmp 13) 22 22 5 (.int .u8 0) 1 rfl Tryd.underlying22 Tryd.info5 rfl (by omega) _ _ rfl _ 1 [.int .u8 b] rfl (src_new wr 5 [.int .u8 b] 1 rfl Tryd.underlying22 (by simp [Value.oneCell'])) (hown.out.below ((Below.refl _ _).alloc (Nat.le_refl _) _)) (hbel.out.alloc hbel.out.size _) (by have := hbel.out.size; simp; omega) (by rw [u8s_len', HRL.out]; omega) ?_; intro v5 w5 ap5; obtain ⟨A5, c5, rfl, O5, B5⟩ := ap5.byte HRL.out; clear ap5))
      go_roundw
      case rel => exact ⟨i + 1, c5, A5, by omega, rfl, by go_num, Lib.hid (by rw [HTK.out]; exact O5.out), B5⟩
      case measure => simp [intOf]; omega
    · obtain rfl : i = 16 := by omega
      have htk : x.take 16 = x := List.take_of_length_le (by rw [HL.out]; exact Nat.le_refl _)
      rw [htk] at hown
      have hbs : Bs wr (.slice A1 16 c1) x := Bs.of_own hown.out HX.out
      have HBS := Lib.hid hbs
      clear htk hown hbs
      go_wp2_with (refine wpList_conv_str rfl (.tmp 16) rfl (.slice A1 16 c1) x rfl HBS.out ?_)
      go_ret
      exact ⟨rfl, hbel.out⟩
end Go.Proofs.YtdedphhohiioiaaDoor
/- What the reference's Step, Secret and Run do. -/
namespace Go.Proofs.YtdedphhohiioiaaDoor
open Go.RowKit

theorem Txs.new (w : World) (ss : List ByteArray) (hz : ss.length ≤ 1000) : Txs (w.alloc (.cells (strs ss).toArray 9)) (.slice (some ⟨w.heap.size, 0, none⟩) ss.length ss.length) ss := by
  refine ⟨⟨_, _, rfl⟩, fun _ => ⟨w.heap.size, 0, ss.length, rfl, Nat.le_refl _, by unfold maxLen; omega, by simp, fun i hi => ?_⟩⟩
  rw [Nat.zero_add, cell_of_row _ _ _ _ _ _ (heap_alloc_new w _)]
  simp [strs, List.getD_eq_getElem?_getD, hi]

theorem step_small (l c : Int) (x : List Int) (k : Int) (hl : x.length = 16) : (framed 2 [x, [l % 256], [c % 256], [k % 256]]).length ≤ 1099511627776 := by simp [framed, be4, hl]
def secretC (l c : Int) (x : List Int) : List Int := short 1 [x, [l % 256], [c % 256]]
theorem secret_small (l c : Int) (x : List Int) (hl : x.length = 16) : (framed 1 [x, [l % 256], [c % 256]]).length ≤ 1099511627776 := by simp [framed, be4, hl]

set_option maxHeartbeats 4000000 in
set_option maxRecDepth 100000 in
theorem step_any (x : List Int) (hl : x.length = 16) (hx : u8s_ok x) (l c k : Int) (w : World) :
    Calls Tryd.prog 79 #[.agg (u8s x).toArray, .int .i64 l, .int .i64 c, .int .i64 k] w fun e w' => e = .returned (.agg (u8s (short 2 [x, [l % 256], [c % 256], [k % 256]])).toArray) ∧ Below w.heap.size w w' := by
  have hi43 : (Tryd.prog.info? 43).map (·.size) = some (u8s x).length := by rw [u8s_len', hl]; exact Tryd.size43
  have hra : ((w.alloc (.cells (u8s x).toArray 43)).alloc (.cells (Array.replicate 16 (Value.int .u8 0)) 43)).rangeAt w.heap.size 0 (u8s x) := World.rangeAt_alloc (range_new w (u8s x) 43) _
  have hb0 : Below w.heap.size w ((w.alloc (.cells (u8s x).toArray 43)).alloc (.cells (Array.replicate 16 (Value.int .u8 0)) 43)) := ((Below.refl _ _).alloc (Nat.le_refl _) _).alloc (by simp) _
  have hh0 : Has ((w.alloc (.cells (u8s x).toArray 43)).alloc (.cells (Array.replicate 16 (Value.int .u8 0)) 43)) (w.heap.size + 1) 43 16 := has_new2 w _ _ _ _ rfl
  have HRA := Lib.hid hra
  have HI := Lib.hid hi43
  have B0 := Lib.hid hb0
  have H0 := Lib.hid hh0
  have HL := Lib.hid hl
  have HX := Lib.hid hx
  clear hra hi43 hb0 hh0 hl hx
  go_enter Tryd.func79, Tryd.ntmps79
  go_wp2_with (refine wpList_load_g rfl 43 (.tmp 4) rfl w.heap.size 0 rfl (u8s x) _ HRA.out Tryd.underlying43 rfl HI.out ?_)
  refine (text_any x HL.out HX.out _).mono ?_
  rintro e w1 ⟨rfl, hb1⟩
  have B1 := Lib.hid (B0.out.trans (hb1.mono B0.out.size))
  have H1 := Lib.hid (H0.out.below hb1)
  clear hb1 B0 H0
  go_wp2_with fail
  refine (one_any l _).mono ?_
  rintro e w2 ⟨rfl, hb2⟩
  have B2 := Lib.hid (B1.out.trans (hb2.mono B1.out.size))
  have H2 := Lib.hid (H1.out.below hb2)
  clear hb2 B1 H1
  go_wp2_with fail
  refine (one_any c _).mono ?_
  rintro e w3 ⟨rfl, hb3⟩
  have B3 := Lib.hid (B2.out.trans (hb3.mono B2.out.size))
  have H3 := Lib.hid (H2.out.below hb3)
  clear hb3 B2 H2
  go_wp2_with fail
  refine (one_any k _).mono ?_
  rintro e w4 ⟨rfl, hb4⟩
  have B4 := Lib.hid (B3.out.trans (hb4.mono B3.out.size))
  have H4 := Lib.hid (H3.out.below hb4)
  clear hb4 B3 H3
  obtain ⟨ST, hST⟩ : ∃ s, s = short 2 [x, [l % 256], [c % 256], [k % 256]] := ⟨_, rfl⟩
  have hSl : ST.length = 16 := by rw [hST]; exact short_len _ _
  have hmap : [strOfNums x, strOfNums [l % 256], strOfNums [c % 256], strOfNums [k % 256]].map sb = [x, [l % 256], [c % 256], [k % 256]] := by
    simp only [List.map_cons, List.map_nil]
    rw [sb_str x HX.out, sb_str _ (one_ok l), sb_str _ (one_ok c), sb_str _ (one_ok k)]
  have htx := Txs.new w4 [strOfNums x, strOfNums [l % 256], strOfNums [c % 256], strOfNums [k % 256]] (by simp)
  have hi43' : (Tryd.prog.info? 43).map (·.size) = some (u8s ST).length := by rw [u8s_len', hSl]; exact Tryd.size43
  have HTX := Lib.hid htx
  have HST := Lib.hid hST
  have HSL := Lib.hid hSl
  have HM := Lib.hid hmap
  have HI' := Lib.hid hi43'
  clear htx hST hSl hmap hi43'
  go_wp2_with fail
  refine (refof_any 2 [strOfNums x, strOfNums [l % 256], strOfNums [c % 256], strOfNums [k % 256]] _ 4 4 _ HTX.out rfl (by rw [HM.out]; exact step_small l c x k HL.out)).mono ?_
  rintro e w5 ⟨rfl, hb5⟩
  rw [HM.out, ← HST.out]
  have hb4 : Below w4.heap.size w4 w5 := ((Below.refl _ _).alloc (Nat.le_refl _) _).trans (hb5.mono (by simp))
  have B5 := Lib.hid (B4.out.trans (hb4.mono B4.out.size))
  have H5 : Hid (Has w5 (w.heap.size + 1) 43 (u8s ST).length) := Lib.hid (by rw [u8s_len', HSL.out]; exact H4.out.below hb4)
  clear hb5 hb4 B4 H4 HTX HM
  go_wp2_with (refine wpList_store_row rfl 43 (.tmp 8) (.tmp 18) rfl (w.heap.size + 1) rfl (u8s ST) rfl 43 H5.out HI'.out (one_u8s _) ?_; intro w10 hp10)
  refine bodyPost_ret (v := .agg (u8s ST).toArray) (results_cell_row rfl _ _ (w.heap.size + 1) 43 _ (0, 0) _ rfl hp10.blk Tryd.underlying43 rfl (by simpa using HI'.out)) rfl ⟨by rw [HST.out], hp10.below B5.out (by omega)⟩

set_option maxHeartbeats 4000000 in
set_option maxRecDepth 100000 in
theorem refSecret_any (x : List Int) (hl : x.length = 16) (hx : u8s_ok x) (l c : Int) (w : World) :
    Calls Tryd.prog 39 #[.agg (u8s x).toArray, .int .i64 l, .int .i64 c] w fun e w' => e = .returned (.agg (u8s (short 1 [x, [l % 256], [c % 256]])).toArray) ∧ Below w.heap.size w w' := by
  have hi43 : (Tryd.prog.info? 43).map (·.size) = some (u8s x).length := by rw [u8s_len', hl]; exact Tryd.size43
  have hra : ((w.alloc (.cells (u8s x).toArray 43)).alloc (.cells (Array.replicate 16 (Value.int .u8 0)) 43)).rangeAt w.heap.size 0 (u8s x) := World.rangeAt_alloc (range_new w (u8s x) 43) _
  have hb0 : Below w.heap.size w ((w.alloc (.cells (u8s x).toArray 43)).alloc (.cells (Array.replicate 16 (Value.int .u8 0)) 43)) := ((Below.refl _ _).alloc (Nat.le_refl _) _).alloc (by simp) _
  have hh0 : Has ((w.alloc (.cells (u8s x).toArray 43)).alloc (.cells (Array.replicate 16 (Value.int .u8 0)) 43)) (w.heap.size + 1) 43 16 := has_new2 w _ _ _ _ rfl
  have HRA := Lib.hid hra
  have HI := Lib.hid hi43
  have B0 := Lib.hid hb0
  have H0 := Lib.hid hh0
  have HL := Lib.hid hl
  have HX := Lib.hid hx
  clear hra hi43 hb0 hh0 hl hx
  go_enter Tryd.func39, Tryd.ntmps39
  go_wp2_with (refine wpList_load_g rfl 43 (.tmp 3) rfl w.heap.size 0 rfl (u8s x) _ HRA.out Tryd.underlying43 rfl HI.out ?_)
  refine (text_any x HL.out HX.out _).mono ?_
  rintro e w1 ⟨rfl, hb1⟩
  have B1 := Lib.hid (B0.out.trans (hb1.mono B0.out.size))
  have H1 := Lib.hid (H0.out.below hb1)
  clear hb1 B0 H0
  go_wp2_with fail
  refine (one_any l _).mono ?_
  rintro e w2 ⟨rfl, hb2⟩
  have B2 := Lib.hid (B1.out.trans (hb2.mono B1.out.size))
  have H2 := Lib.hid (H1.out.below hb2)
  clear hb2 B1 H1
  go_wp2_with fail
  refine (one_any c _).mono ?_
  rintro e w3 ⟨rfl, hb3⟩
  have B3 := Lib.hid (B2.out.trans (hb3.mono B2.out.size))
  have H3 := Lib.hid (H2.out.below hb3)
  clear hb3 B2 H2
  obtain ⟨ST, hST⟩ : ∃ s, s = short 1 [x, [l % 256], [c % 256]] := ⟨_, rfl⟩
  have hSl : ST.length = 16 := by rw [hST]; exact short_len _ _
  have hmap : [strOfNums x, strOfNums [l % 256], strOfNums [c % 256]].map sb = [x, [l % 256], [c % 256]] := by
    simp only [List.map_cons, List.map_nil]
    rw [sb_str x HX.out, sb_str _ (one_ok l), sb_str _ (one_ok c)]
  have htx := Txs.new w3 [strOfNums x, strOfNums [l % 256], strOfNums [c % 256]] (by simp)
  have hi43' : (Tryd.prog.info? 43).map (·.size) = some (u8s ST).length := by rw [u8s_len', hSl]; exact Tryd.size43
  have HTX := Lib.hid htx
  have HST := Lib.hid hST
  have HSL := Lib.hid hSl
  have HM := Lib.hid hmap
  have HI' := Lib.hid hi43'
  clear htx hST hSl hmap hi43'
  go_wp2_with fail
  refine (refof_any 1 [strOfNums x, strOfNums [l % 256], strOfNums [c % 256]] _ 3 3 _ HTX.out rfl (by rw [HM.out]; exact secret_small l c x HL.out)).mono ?_
  rintro e w5 ⟨rfl, hb5⟩
  rw [HM.out, ← HST.out]
  have hb4 : Below w3.heap.size w3 w5 := ((Below.refl _ _).alloc (Nat.le_refl _) _).trans (hb5.mono (by simp))
  have B5 := Lib.hid (B3.out.trans (hb4.mono B3.out.size))
  have H5 : Hid (Has w5 (w.heap.size + 1) 43 (u8s ST).length) := Lib.hid (by rw [u8s_len', HSL.out]; exact H3.out.below hb4)
  clear hb5 hb4 B3 H3 HTX HM
  go_wp2_with (refine wpList_store_row rfl 43 (.tmp 6) (.tmp 14) rfl (w.heap.size + 1) rfl (u8s ST) rfl 43 H5.out HI'.out (one_u8s _) ?_; intro w10 hp10)
  refine bodyPost_ret (v := .agg (u8s ST).toArray) (results_cell_row rfl _ _ (w.heap.size + 1) 43 _ (0, 0) _ rfl hp10.blk Tryd.underlying43 rfl (by simpa using HI'.out)) rfl ⟨by rw [HST.out], hp10.below B5.out (by omega)⟩

set_option maxHeartbeats 4000000 in
set_option maxRecDepth 100000 in
theorem refRun_any (x : List Int) (hl : x.length = 16) (hx : u8s_ok x) (l c : Int) (fr : Nat) (to : Int) (hto : to ≤ 1000) (w : World) :
    Calls Tryd.prog 40 #[.agg (u8s x).toArray, .int .i64 l, .int .i64 c, .int .i64 fr, .int .i64 to] w fun e w' => e = .returned (.agg (u8s (walkC l c x fr to.toNat)).toArray) ∧ Below w.heap.size w w' := by
  have HL := Lib.hid hl
  have HX := Lib.hid hx
  clear hl hx
  go_enter Tryd.func40, Tryd.ntmps40
  go_wp2
  have hx0 : ((w.alloc (.cells (u8s x).toArray 43)).alloc (Obj.cells (Array.replicate 16 (Value.int .u8 0)) 43)).heap[w.heap.size]? = some (.cells (u8s (walkC l c x fr fr)).toArray 43 (0, 0)) := by
    rw [walk_none _ _ _ _ _ (Nat.le_refl _)]
    exact heap_alloc2_old w _ _
  have hr0 : Has ((w.alloc (.cells (u8s x).toArray 43)).alloc (Obj.cells (Array.replicate 16 (Value.int .u8 0)) 43)) (w.heap.size + 1) 43 16 := has_new2 w _ _ _ _ rfl
  have hb0 : Below w.heap.size w ((w.alloc (.cells (u8s x).toArray 43)).alloc (Obj.cells (Array.replicate 16 (Value.int .u8 0)) 43)) := ((Below.refl _ _).alloc (Nat.le_refl _) _).alloc (by simp) _
  have X0 := Lib.hid hx0
  have R0 := Lib.hid hr0
  have B0 := Lib.hid hb0
  change Code.wp _ _ _ _ ((w.alloc (.cells (u8s x).toArray 43)).alloc (Obj.cells (Array.replicate 16 (Value.int .u8 0)) 43))
  generalize (w.alloc (.cells (u8s x).toArray 43)).alloc (Obj.cells (Array.replicate 16 (Value.int .u8 0)) 43) = wo at *
  clear hx0 hr0 hb0
  go_loopw [11] (fun s wr => ∃ (i : Nat), s = .int .i64 i ∧ fr ≤ i ∧ (i = fr ∨ i ≤ to.toNat) ∧ Hid (wr.heap[w.heap.size]? = some (.cells (u8s (walkC l c x fr i)).toArray 43 (0, 0))) ∧ Hid (Has wr (w.heap.size + 1) 43 16) ∧ Hid (Below w.heap.size w wr))
    (fun s _ => to.toNat - (intOf s).toNat)
  case atStart => exact ⟨fr, rfl, Nat.le_refl _, .inl rfl, X0, R0, B0⟩
  case round =>
    clear X0 R0 B0
    obtain ⟨i, rfl, hai, hib, hXB, hR', hbel⟩ := hrel
    by_cases hlt : (i : Int) < to
    · obtain ⟨X, hX⟩ : ∃ X, X = walkC l c x fr i := ⟨_, rfl⟩
      have hgood := walk_good l c x fr i HL.out HX.out
      rw [← hX] at hgood hXB
      obtain ⟨hXl, hXo⟩ := hgood
      have hws : walkC l c x fr (i + 1) = short 2 [X, [l % 256], [c % 256], [(i : Int) % 256]] := by rw [walk_succ _ _ _ _ _ hai, hX]; rfl
      obtain ⟨ST, hST⟩ : ∃ s, s = short 2 [X, [l % 256], [c % 256], [(i : Int) % 256]] := ⟨_, rfl⟩
      have hSl : ST.length = 16 := by rw [hST]; exact short_len _ _
      rw [← hST] at hws
      have hi1 : (Tryd.prog.info? 43).map (·.size) = some (u8s X).length := by rw [u8s_len', hXl]; exact Tryd.size43
      have hi43 : (Tryd.prog.info? 43).map (·.size) = some (u8s ST).length := by rw [u8s_len', hSl]; exact Tryd.size43
      have hra : wr.rangeAt w.heap.size 0 (u8s X) := blk_range hXB.out
      have hhas : ∀ w3, Below wr.heap.size wr w3 → Has w3 w.heap.size 43 (u8s ST).length := fun w3 h => by
        rw [u8s_len', hSl]
        exact Has.below ⟨_, by simp only [List.size_toArray]; rw [u8s_len', hXl], hXB.out⟩ h
      have HWS := Lib.hid hws
      have HST := Lib.hid hST
      have HI := Lib.hid hi43
      have HI1 := Lib.hid hi1
      have HRA := Lib.hid hra
      have HH := Lib.hid hhas
      have HXO := Lib.hid hXo
      have HXL := Lib.hid hXl
      clear hws hST hi43 hhas hXl hXo hSl hX hXB hi1 hra
      go_wp2_with (refine wpList_load_g rfl 43 (.tmp 5) rfl w.heap.size 0 rfl (u8s X) _ HRA.out Tryd.underlying43 rfl HI1.out ?_)
      refine (step_any X HXL.out HXO.out l c i wr).mono ?_
      rintro e w3 ⟨rfl, hb3⟩
      rw [← HST.out]
      have HH3 := Lib.hid (HH.out w3 hb3)
      have HR3 := Lib.hid (hR'.out.below hb3)
      have HB3 := Lib.hid (hbel.out.trans (hb3.mono hbel.out.size))
      clear hb3 HH
      go_wp2_with (refine wpList_store_row rfl 43 (.tmp 5) (.tmp 22) rfl w.heap.size rfl (u8s ST) rfl 43 HH3.out HI.out (one_u8s _) ?_; intro w9 hp9)
      go_roundw
      case rel => exact ⟨i + 1, by go_num, by omega, .inr (by omega), Lib.hid (by rw [HWS.out]; exact hp9.blk), Lib.hid (HR3.out.same (hp9.other _ (by omega))), Lib.hid (hp9.below HB3.out (Nat.le_refl _))⟩
      case measure => simp [intOf]; omega
    · have hwk : walkC l c x fr i = walkC l c x fr to.toNat := by
        rcases hib with rfl | hib
        · rw [walk_none _ _ _ _ _ (Nat.le_refl _), walk_none _ _ _ _ _ (by omega)]
        · rw [show i = to.toNat by omega]
      rw [hwk] at hXB
      obtain ⟨SH, hSH⟩ : ∃ s, s = walkC l c x fr to.toNat := ⟨_, rfl⟩
      have hsl : SH.length = 16 := by rw [hSH]; exact (walk_good l c x _ _ HL.out HX.out).1
      have hi43 : (Tryd.prog.info? 43).map (·.size) = some (u8s SH).length := by rw [u8s_len', hsl]; exact Tryd.size43
      rw [← hSH] at hXB
      have hra : wr.rangeAt w.heap.size 0 (u8s SH) := blk_range hXB.out
      have hh : Has wr (w.heap.size + 1) 43 (u8s SH).length := by rw [u8s_len', hsl]; exact hR'.out
      have HRA := Lib.hid hra
      have HHH := Lib.hid hh
      have HI43 := Lib.hid hi43
      have HSH := Lib.hid hSH
      clear hra hh hi43 hSH hXB hR' hwk
      go_wp2_with (first | (refine wpList_load_g rfl 43 (.tmp 5) rfl w.heap.size 0 rfl (u8s SH) _ HRA.out Tryd.underlying43 rfl HI43.out ?_) | (refine wpList_store_row rfl 43 (.tmp 10) (.tmp 23) rfl (w.heap.size + 1) rfl (u8s SH) rfl 43 HHH.out HI43.out (one_u8s _) ?_; intro w10 hp10))
      refine bodyPost_ret (v := .agg (u8s SH).toArray) (results_cell_row rfl _ _ (w.heap.size + 1) 43 _ (0, 0) _ rfl hp10.blk Tryd.underlying43 rfl (by simpa using HI43.out)) rfl ⟨by rw [HSH.out], hp10.below hbel.out (by omega)⟩
end Go.Proofs.YtdedphhohiioiaaDoor
/- What Secret of the chains does. -/
namespace Go.Proofs.YtdedphhohiioiaaDoor
open Go.RowKit

set_option maxHeartbeats 4000000 in
set_option maxRecDepth 100000 in
theorem secret_any (x : List Int) (hl : x.length = 16) (hx : u8s_ok x) (l c : Int) (w : World) (hk : w.rangeAt 18 0 (u32s kk)) (h18 : 18 < w.heap.size) :
    Calls Tryd.prog 38 #[.agg (u8s x).toArray, .int .i64 l, .int .i64 c] w fun e w' => e = .returned (.agg (u8s (secretC l c x)).toArray) ∧ Below w.heap.size w w' := by
  have HK := Lib.hid hk
  clear hk
  go_enter Tryd.func38, Tryd.ntmps38
  have hx0 : ((w.alloc (.cells (u8s x).toArray 43)).alloc (Obj.cells (Array.replicate 16 (Value.int .u8 0)) 43)).heap[w.heap.size]? = some (.cells (u8s x).toArray 43 (0, 0)) := heap_alloc2_old w _ _
  have hr0 : Has ((w.alloc (.cells (u8s x).toArray 43)).alloc (Obj.cells (Array.replicate 16 (Value.int .u8 0)) 43)) (w.heap.size + 1) 43 16 := has_new2 w _ _ _ _ rfl
  have hb0 : Below w.heap.size w ((w.alloc (.cells (u8s x).toArray 43)).alloc (Obj.cells (Array.replicate 16 (Value.int .u8 0)) 43)) := ((Below.refl _ _).alloc (Nat.le_refl _) _).alloc (by simp) _
  go_wp2_with fail
  change Code.wp _ _ _ _ ((w.alloc (.cells (u8s x).toArray 43)).alloc (Obj.cells (Array.replicate 16 (Value.int .u8 0)) 43))
  generalize (w.alloc (.cells (u8s x).toArray 43)).alloc (Obj.cells (Array.replicate 16 (Value.int .u8 0)) 43) = wr at *
  have hbx : Bs wr (.slice (some ⟨w.heap.size, 0, none⟩) x.length 16) x := Bs.of_blk hx0 hx (by omega) (by unfold maxLen; omega)
  rw [hl] at hbx
  obtain ⟨ST, hST⟩ : ∃ s, s = secretC l c x := ⟨_, rfl⟩
  have hSl : ST.length = 16 := by rw [hST]; exact short_len _ _
  have hfl := secret_small l c x hl
  have hi43 : (Tryd.prog.info? 43).map (·.size) = some (u8s ST).length := by rw [u8s_len', hSl]; exact Tryd.size43
  have hhas : ∀ w3, Ext wr w3 → Has w3 (w.heap.size + 1) 43 (u8s ST).length := fun w3 h => by
    rw [u8s_len', hSl]
    exact hr0.below h
  have HBX := Lib.hid hbx
  have HFL := Lib.hid hfl
  have HST := Lib.hid hST
  have HI := Lib.hid hi43
  have HH := Lib.hid hhas
  have HB0 := Lib.hid hb0
  clear hbx hfl hST hi43 hhas hSl hx0 hr0 hb0 hl hx
  refine wp_region_rely (by kernel_rfl) 7 (by kernel_rfl) (by kernel_rfl) Ext Ext.refl Ext.trans (fun i' => match i' with
    | 0 => fun _ v => v = .slice (some ⟨w.heap.size, 0, none⟩) 16 16
    | 1 => fun _ v => v = .int .i64 l
    | 2 => fun w v => Bs w v [l % 256]
    | 3 => fun _ v => v = .int .i64 c
    | 4 => fun w v => Bs w v [c % 256]
    | 5 => fun w v => ∃ A, v = .slice A 3 3 ∧ Bss w (.slice A 3 3) [x, [l % 256], [c % 256]]
    | 6 => fun _ v => v = .agg (u8s ST).toArray
    | _ => fun _ _ => False) ?_
  simp (maxSteps := 10000000) only [Rely, List.take_succ_cons, List.take_zero, List.drop_succ_cons, List.drop_zero, Nat.reduceAdd, Nat.zero_add, Act.put, List.setIfInBounds_toArray, List.set_cons_succ, List.set_cons_zero]
  refine ⟨?_, ?_, ?_, ?_, ?_, ?_, ?_, ?_⟩
  · refine step_plain rfl fun vs w1 hE hd => ?_
    exact gives_slice 43 _ none none none rfl (.pointer (some ⟨w.heap.size, 0, none⟩)) (.slice (some ⟨w.heap.size, 0, none⟩) 16 16) none none none rfl rfl rfl rfl (slice43 _ _) ⟨Ext.refl _, fun _ _ => rfl⟩
  · refine step_plain rfl fun vs w1 hE hd => ?_
    exact gives_move _ (.int .i64 l) (.inl rfl) rfl ⟨Ext.refl _, fun _ _ => rfl⟩
  · refine step_plain rfl fun vs w1 hE hd => ?_
    refine gives_call 76 Tryd.call76 _ _ rfl rfl [.int .i64 l] (congrArg (fun x => [x]) (hd.1)) ?_
    refine (small_any l w1).mono ?_
    rintro e w2 ⟨rfl, rfl⟩
    exact ⟨_, rfl, (Below.refl _ _).alloc (Nat.le_refl _) _, fun _ h => (Bs.new1 w1 l).below h⟩
  · refine step_plain rfl fun vs w1 hE hd => ?_
    exact gives_move _ (.int .i64 c) (.inl rfl) rfl ⟨Ext.refl _, fun _ _ => rfl⟩
  · refine step_plain rfl fun vs w1 hE hd => ?_
    refine gives_call 76 Tryd.call76 _ _ rfl rfl [.int .i64 c] (congrArg (fun x => [x]) (hd.1)) ?_
    refine (small_any c w1).mono ?_
    rintro e w2 ⟨rfl, rfl⟩
    exact ⟨_, rfl, (Below.refl _ _).alloc (Nat.le_refl _) _, fun _ h => (Bs.new1 w1 c).below h⟩
  · refine step_plain rfl fun vs w1 hE hd => ?_
    have e0 : vs 0 = _ := hd.1
    have b2 : Bs w1 (vs 2) [l % 256] := hd.2.1
    have b4 : Bs w1 (vs 4) [c % 256] := hd.2.2.1
    have bx : Bs w1 _ x := HBX.out.below (ext_of_drew hE)
    obtain ⟨A2, c2, e2⟩ := b2.form
    obtain ⟨A4, c4, e4⟩ := b4.form
    rw [e2] at b2
    rw [e4] at b4
    refine gives_build 30 3 _ rfl #[(0, .slice (some ⟨w.heap.size, 0, none⟩) 16 16), (1, .slice A2 1 c2), (2, .slice A4 1 c4)] ?_ _ (build30' _ _ _ _ _ _ _ _ _ _) ⟨(Below.refl _ _).alloc (Nat.le_refl _) _, fun w5 h5 => ⟨_, rfl, Bss.below (Bss.new w1 [.slice (some ⟨w.heap.size, 0, none⟩) 16 16, .slice A2 1 c2, .slice A4 1 c4] [x, [l % 256], [c % 256]] rfl (fun j hj => ?_) (by simp)) h5⟩⟩
    · simp only [List.map_toArray, List.map_cons, List.map_nil]
      show #[(0, vs 0), (1, vs 2), (2, vs 4)] = _
      rw [e0, e2, e4]
      rfl
    · have hj4 : j = 0 ∨ j = 1 ∨ j = 2 := by simp at hj; omega
      rcases hj4 with rfl | rfl | rfl
      · exact bx
      · exact b2
      · exact b4
  · refine step_plain rfl fun vs w1 hE hd => ?_
    obtain ⟨A7, e7, b7⟩ : ∃ A, vs 5 = .slice A 3 3 ∧ Bss w1 (.slice A 3 3) [x, [l % 256], [c % 256]] := hd.1
    have hw1 : Below w.heap.size w w1 := HB0.out.trans (Below.mono (ext_of_drew hE) HB0.out.size)
    refine gives_call 33 Tryd.call33 _ _ rfl rfl [.int .i64 1, .slice A7 3 3] (congrArg (fun x => [Value.int .i64 1, x]) e7) ?_
    refine (of_any 1 [x, [l % 256], [c % 256]] A7 3 3 w1 b7 rfl HFL.out (range_below HK.out hw1) (by have := hw1.size; omega)).mono ?_
    rintro e w2 ⟨rfl, hb⟩
    exact ⟨_, rfl, hb, fun _ _ => by rw [HST.out]; rfl⟩
  · intro vs w3 hE hR
    have h8 : vs 6 = .agg (u8s ST).toArray := hR 6 (by omega)
    rw [h8]
    have he : Ext wr w3 := ext_of_drew hE
    have HH3 := Lib.hid (HH.out w3 he)
    have HB3 := Lib.hid (HB0.out.trans (Below.mono he HB0.out.size))
    clear hR hE h8 HH he
    go_wp2_with (refine wpList_store_row rfl 43 (.tmp 6) (.tmp 13) rfl (w.heap.size + 1) rfl (u8s ST) rfl 43 HH3.out HI.out (one_u8s _) ?_; intro w10 hp10)
    refine bodyPost_ret (v := .agg (u8s ST).toArray) (results_cell_row rfl _ _ (w.heap.size + 1) 43 _ (0, 0) _ rfl hp10.blk Tryd.underlying43 rfl (by simpa using HI.out)) rfl ⟨by rw [HST.out], hp10.below HB3.out (by omega)⟩
end Go.Proofs.YtdedphhohiioiaaDoor
/- Plain lists: the digits of a digest. -/
namespace Go.Proofs.YtdedphhohiioiaaDoor

def four (b : Int) : List Int := [b / 64 % 4, b / 16 % 4, b / 4 % 4, b % 4]
def top (bs : List Int) : List Int := bs.flatMap four
def lack : List Int → Int
  | [] => 0
  | x :: xs => (3 - x) + lack xs
def last4 (s : Int) : List Int := [s / 64 % 4, s / 16 % 4, s / 4 % 4, s % 4]
def digits (bs : List Int) : List Int := top bs ++ last4 (lack (top bs))

theorem lack_append (xs ys : List Int) : lack (xs ++ ys) = lack xs + lack ys := by
  induction xs with
  | nil => simp [lack]
  | cons x xs ih => simp only [List.cons_append, lack, ih]; omega
theorem lack_one (x : Int) : lack [x] = 3 - x := by simp [lack]

theorem four_len (b : Int) : (four b).length = 4 := rfl
theorem top_len (bs : List Int) : (top bs).length = 4 * bs.length := by
  induction bs with
  | nil => rfl
  | cons b bs ih => simp only [top, List.flatMap_cons, List.length_append, List.length_cons] at ih ⊢; simp only [four_len, ih]; omega
theorem four_range (b : Int) : ∀ x ∈ four b, 0 ≤ x ∧ x ≤ 3 := by
  intro x hx
  simp only [four, List.mem_cons, List.not_mem_nil, or_false] at hx
  omega
theorem top_range (bs : List Int) : ∀ x ∈ top bs, 0 ≤ x ∧ x ≤ 3 := by
  intro x hx
  obtain ⟨b, _, hb⟩ := List.mem_flatMap.1 hx
  exact four_range b x hb
theorem lack_range (xs : List Int) (h : ∀ x ∈ xs, 0 ≤ x ∧ x ≤ 3) : 0 ≤ lack xs ∧ lack xs ≤ 3 * xs.length := by
  induction xs with
  | nil => simp [lack]
  | cons x xs ih =>
    have h1 := h x (by simp)
    have h2 := ih (fun y hy => h y (by simp [hy]))
    simp only [lack, List.length_cons]
    omega
theorem top_take_succ (bs : List Int) (k : Nat) (h : k < bs.length) : top (bs.take (k + 1)) = top (bs.take k) ++ four bs[k] := by
  rw [List.take_succ_eq_append_getElem h]
  unfold top
  rw [List.flatMap_append]
  simp
theorem digits_len (bs : List Int) : (digits bs).length = 4 * bs.length + 4 := by
  simp [digits, top_len, last4]
theorem digits_range (bs : List Int) : ∀ x ∈ digits bs, 0 ≤ x ∧ x ≤ 3 := by
  intro x hx
  rcases List.mem_append.1 hx with h | h
  · exact top_range bs x h
  · simp only [last4, List.mem_cons, List.not_mem_nil, or_false] at h
    omega
theorem dig_bd (bs : List Int) (k j : Nat) (b : Int) (hk : k ≤ 16) (hj : j ≤ 4) : 0 ≤ lack (top (bs.take k) ++ (four b).take j) ∧ lack (top (bs.take k) ++ (four b).take j) ≤ 3 * 68 := by
  have h := lack_range (top (bs.take k) ++ (four b).take j) (by
    intro x hx
    rcases List.mem_append.1 hx with h | h
    · exact top_range _ x h
    · exact four_range b x (List.mem_of_mem_take h))
  have h1 : (bs.take k).length ≤ k := List.length_take_le _ _
  simp only [List.length_append, top_len, List.length_take, four_len] at h
  omega
theorem dig_lo (bs : List Int) (k j : Nat) (b : Int) (hk : k ≤ 16) (hj : j ≤ 4) : 0 ≤ lack (top (bs.take k) ++ (four b).take j) := (dig_bd bs k j b hk hj).1
theorem dig_hi (bs : List Int) (k j : Nat) (b : Int) (hk : k ≤ 16) (hj : j ≤ 4) : lack (top (bs.take k) ++ (four b).take j) ≤ 3 * 68 := (dig_bd bs k j b hk hj).2
end Go.Proofs.YtdedphhohiioiaaDoor
/- What chains.Digits does. -/
namespace Go.Proofs.YtdedphhohiioiaaDoor
open Go.RowKit

theorem Tryd.info3 : (Tryd.prog.info? 3).map (fun i => (i.zero, i.size, i.bytes)) = some (some (.int .i64 0), 1, 8) := by kernel_rfl
theorem Tryd.size5 : (Tryd.prog.info? 5).map (·.size) = some 1 := by kernel_rfl


set_option maxHeartbeats 4000000 in
set_option maxRecDepth 100000 in
theorem digits_any (bs : List Int) (hl : bs.length = 16) (hb : ∀ b ∈ bs, 0 ≤ b ∧ b ≤ 255) (w : World) :
    Calls Tryd.prog 49 #[.agg (u8s bs).toArray] w fun e w' => ∃ v, e = .returned v ∧ w'.ownsRow w.heap.size 3 1 v 68 (i64s (digits bs)) ∧ Below w.heap.size w w' := by
  obtain ⟨i0, hi, hz0, hz1, hz2⟩ := info_parts Tryd.info3
  have hs : (Tryd.prog.info? 43).map (·.size) = some (u8s bs).toArray.size := by rw [Tryd.size43]; simp [u8s, hl]
  have HL := Lib.hid hl
  have HS := Lib.hid hs
  clear hl hs
  go_enter Tryd.func49, Tryd.ntmps49
  go_wp2_with (refine wpList_load_row rfl 43 (.tmp 1) rfl w.heap.size rfl 43 (u8s bs).toArray (0,0) _ (heap_alloc_new w _) Tryd.underlying43 rfl HS.out ?_)
  go_loopw [3, 4, 6, 7, 8, 11, 13] (fun v s _ _ _ i _ wr => ∃ (k : Nat) (m : Int), k ≤ 16 ∧ i = .int .i64 k ∧ wr.ownsRow w.heap.size 3 1 v (4 * k) (i64s (top (bs.take k))) ∧ s = .int .i64 m ∧ m = lack (top (bs.take k)) ∧ Below w.heap.size w wr)
    (fun _ _ _ _ _ i _ _ => 16 - (intOf i).toNat)
  case atStart => exact ⟨0, 0, by omega, rfl, World.ownsRow_nil _ _ _ _, rfl, rfl, (Below.refl _ _).alloc (Nat.le_refl _) _⟩
  case round =>
    obtain ⟨k, m, hk, rfl, hown, rfl, hm, hbl⟩ := hrel
    by_cases hlt : k < 16
    · have HM0 := Lib.hid hm
      clear hm
      obtain ⟨b, hbd⟩ : ∃ b, b = bs.getD k 0 := ⟨_, rfl⟩
      have hbk : (u8s bs).toArray[(k : Int).toNat]? = some (.int .u8 b) := by
        have := HL.out
        simp [u8s, hbd, List.getElem?_eq_getElem (show k < bs.length by omega)]
      have hb0 : 0 ≤ b ∧ b ≤ 255 := by
        have := HL.out
        rw [hbd, List.getD_eq_getElem?_getD, List.getElem?_eq_getElem (show k < bs.length by omega)]
        exact hb _ (List.getElem_mem _)
      have HB := Lib.hid hbd
      have HBK := Lib.hid hbk
      clear hbd hbk
      go_wp2_with (refine wpList_index_arr rfl 43 5 16 (.tmp 10) (.tmp 11) rfl (u8s bs).toArray .i64 k (.int .u8 b) rfl rfl Tryd.underlying43 _ Tryd.underlying5 rfl Tryd.size5 (by omega) (by omega) HBK.out ?_)
      obtain ⟨wo, rfl⟩ : ∃ wo : World, wo = wr := ⟨_, rfl⟩
      go_loopw [3, 4, 7, 8] (fun v s sh _ wr => ∃ (j : Nat) (n m : Int), n + 2 * j = 6 ∧ j ≤ 4 ∧ sh = .int .i64 n ∧ wr.ownsRow w.heap.size 3 1 v (4 * k + j) (i64s (top (bs.take k) ++ (four b).take j)) ∧ s = .int .i64 m ∧ m = lack (top (bs.take k) ++ (four b).take j) ∧ Below w.heap.size w wr)
        (fun _ _ sh _ _ => ((intOf sh) + 2).toNat)
      case atStart => exact ⟨0, 6, _, by omega, by omega, rfl, by simpa using hown, rfl, by simpa using HM0.out, hbl⟩
      case round =>
        obtain ⟨j, n, m, hn, hj, rfl, hown, rfl, hm, hbl⟩ := hrel
        have hlen := dig_bd bs k j b (by omega) hj
        rw [← hm] at hlen
        have HM := Lib.hid hm
        clear hm
        by_cases hlt : j < 4
        · have hj4 : j = 0 ∨ j = 1 ∨ j = 2 ∨ j = 3 := by omega
          rcases hj4 with rfl | rfl | rfl | rfl
          · obtain rfl : n = 6 := by omega
            clear hn
            have ha := i64_and3 (b / 64) (by omega) (by omega)
            go_wp2_with (first | (at_builtin; refine wpList_append_own _ rfl _ _ 69 rfl w.heap.size 3 i0 (.int .i64 0) 1 8 Tryd.underlying69 hi hz0 hz1 hz2 rfl (by decide) _ _ _ rfl (hown.alloc _) ⟨wr.heap.size, 0, none⟩ 1 1 [.int .i64 (b / 64 % 4)] rfl rfl (cell_one_new _ _ _) (by simp [Value.oneCell']) (by unfold maxLen; omega) (by omega) (by have := hbl.size; simp; omega) ?_; intro v' w1 hown' hgrow' _))
            go_roundw
            case rel => exact ⟨1, _, _, by omega, by omega, rfl, by simpa [i64s, four] using hown', rfl, by have := HM.out; simp only [lack_append, four, lack, List.take] at this ⊢; omega, below_app hbl hbl.size hown hgrow'⟩
            case measure => simp [intOf]
          · obtain rfl : n = 4 := by omega
            clear hn
            have ha := i64_and3 (b / 16) (by omega) (by omega)
            go_wp2_with (first | (at_builtin; refine wpList_append_own _ rfl _ _ 69 rfl w.heap.size 3 i0 (.int .i64 0) 1 8 Tryd.underlying69 hi hz0 hz1 hz2 rfl (by decide) _ _ _ rfl (hown.alloc _) ⟨wr.heap.size, 0, none⟩ 1 1 [.int .i64 (b / 16 % 4)] rfl rfl (cell_one_new _ _ _) (by simp [Value.oneCell']) (by unfold maxLen; omega) (by omega) (by have := hbl.size; simp; omega) ?_; intro v' w1 hown' hgrow' _))
            go_roundw
            case rel => exact ⟨2, _, _, by omega, by omega, rfl, by simpa [i64s, four] using hown', rfl, by have := HM.out; simp only [lack_append, four, lack, List.take] at this ⊢; omega, below_app hbl hbl.size hown hgrow'⟩
            case measure => simp [intOf]
          · obtain rfl : n = 2 := by omega
            clear hn
            have ha := i64_and3 (b / 4) (by omega) (by omega)
            go_wp2_with (first | (at_builtin; refine wpList_append_own _ rfl _ _ 69 rfl w.heap.size 3 i0 (.int .i64 0) 1 8 Tryd.underlying69 hi hz0 hz1 hz2 rfl (by decide) _ _ _ rfl (hown.alloc _) ⟨wr.heap.size, 0, none⟩ 1 1 [.int .i64 (b / 4 % 4)] rfl rfl (cell_one_new _ _ _) (by simp [Value.oneCell']) (by unfold maxLen; omega) (by omega) (by have := hbl.size; simp; omega) ?_; intro v' w1 hown' hgrow' _))
            go_roundw
            case rel => exact ⟨3, _, _, by omega, by omega, rfl, by simpa [i64s, four] using hown', rfl, by have := HM.out; simp only [lack_append, four, lack, List.take] at this ⊢; omega, below_app hbl hbl.size hown hgrow'⟩
            case measure => simp [intOf]
          · obtain rfl : n = 0 := by omega
            clear hn
            have ha := i64_and3 (b) (by omega) (by omega)
            go_wp2_with (first | (at_builtin; refine wpList_append_own _ rfl _ _ 69 rfl w.heap.size 3 i0 (.int .i64 0) 1 8 Tryd.underlying69 hi hz0 hz1 hz2 rfl (by decide) _ _ _ rfl (hown.alloc _) ⟨wr.heap.size, 0, none⟩ 1 1 [.int .i64 (b % 4)] rfl rfl (cell_one_new _ _ _) (by simp [Value.oneCell']) (by unfold maxLen; omega) (by omega) (by have := hbl.size; simp; omega) ?_; intro v' w1 hown' hgrow' _))
            go_roundw
            case rel => exact ⟨4, _, _, by omega, by omega, rfl, by simpa [i64s, four] using hown', rfl, by have := HM.out; simp only [lack_append, four, lack, List.take] at this ⊢; omega, below_app hbl hbl.size hown hgrow'⟩
            case measure => simp [intOf]
        · obtain rfl : j = 4 := by omega
          obtain rfl : n = -2 := by omega
          clear hn hlt
          go_wp2
          go_roundw
          case rel =>
            have hlen := HL.out
            have e : top (bs.take (k + 1)) = top (bs.take k) ++ (four b).take 4 := by
              have hbd := HB.out
              rw [List.getD_eq_getElem?_getD, List.getElem?_eq_getElem (show k < bs.length by omega)] at hbd
              simp only [Option.getD_some] at hbd
              rw [top_take_succ bs k (by omega), ← hbd]; rfl
            exact ⟨k + 1, _, by omega, by go_num, by rw [e]; exact hown, rfl, by rw [e]; exact HM.out, hbl⟩
          case measure => simp [intOf]; omega
    · have hlen := HL.out
      have hk16 : 4 * k = 64 := by omega
      rw [List.take_of_length_le (by omega)] at hown hm
      rw [hk16] at hown
      clear hk16
      have hbd := lack_range (top bs) (top_range bs)
      rw [← hm, top_len] at hbd
      have HM := Lib.hid hm
      clear hm
      have hbd2 : 0 ≤ m ∧ m ≤ 192 := by omega
      clear hbd hlen
      go_wp2
      clear hlt hk
      obtain ⟨wo, rfl⟩ : ∃ wo : World, wo = wr := ⟨_, rfl⟩
      go_loopw [3, 9] (fun v sh wr => ∃ (j : Nat) (n : Int), n + 2 * j = 6 ∧ j ≤ 4 ∧ sh = .int .i64 n ∧ wr.ownsRow w.heap.size 3 1 v (64 + j) (i64s (top bs ++ (last4 m).take j)) ∧ Below w.heap.size w wr)
        (fun _ sh _ => ((intOf sh) + 2).toNat)
      case atStart => exact ⟨0, 6, by omega, by omega, rfl, by simpa using hown, hbl⟩
      case round =>
        obtain ⟨j, n, hn, hj, rfl, hown, hbl⟩ := hrel
        have hj4 : j = 0 ∨ j = 1 ∨ j = 2 ∨ j = 3 ∨ j = 4 := by omega
        rcases hj4 with rfl | rfl | rfl | rfl | rfl
        · obtain rfl : n = 6 := by omega
          clear hn
          have ha := i64_and3 (m / 64) (by omega) (by omega)
          go_wp2_with (first | (at_builtin; refine wpList_append_own _ rfl _ _ 69 rfl w.heap.size 3 i0 (.int .i64 0) 1 8 Tryd.underlying69 hi hz0 hz1 hz2 rfl (by decide) _ _ _ rfl (hown.alloc _) ⟨wr.heap.size, 0, none⟩ 1 1 [.int .i64 (m / 64 % 4)] rfl rfl (cell_one_new _ _ _) (by simp [Value.oneCell']) (by unfold maxLen; omega) (by omega) (by have := hbl.size; simp; omega) ?_; intro v' w1 hown' hgrow' _))
          go_roundw
          case rel => exact ⟨1, _, by omega, by omega, rfl, by simpa [i64s, last4] using hown', below_app hbl hbl.size hown hgrow'⟩
          case measure => simp [intOf]
        · obtain rfl : n = 4 := by omega
          clear hn
          have ha := i64_and3 (m / 16) (by omega) (by omega)
          go_wp2_with (first | (at_builtin; refine wpList_append_own _ rfl _ _ 69 rfl w.heap.size 3 i0 (.int .i64 0) 1 8 Tryd.underlying69 hi hz0 hz1 hz2 rfl (by decide) _ _ _ rfl (hown.alloc _) ⟨wr.heap.size, 0, none⟩ 1 1 [.int .i64 (m / 16 % 4)] rfl rfl (cell_one_new _ _ _) (by simp [Value.oneCell']) (by unfold maxLen; omega) (by omega) (by have := hbl.size; simp; omega) ?_; intro v' w1 hown' hgrow' _))
          go_roundw
          case rel => exact ⟨2, _, by omega, by omega, rfl, by simpa [i64s, last4] using hown', below_app hbl hbl.size hown hgrow'⟩
          case measure => simp [intOf]
        · obtain rfl : n = 2 := by omega
          clear hn
          have ha := i64_and3 (m / 4) (by omega) (by omega)
          go_wp2_with (first | (at_builtin; refine wpList_append_own _ rfl _ _ 69 rfl w.heap.size 3 i0 (.int .i64 0) 1 8 Tryd.underlying69 hi hz0 hz1 hz2 rfl (by decide) _ _ _ rfl (hown.alloc _) ⟨wr.heap.size, 0, none⟩ 1 1 [.int .i64 (m / 4 % 4)] rfl rfl (cell_one_new _ _ _) (by simp [Value.oneCell']) (by unfold maxLen; omega) (by omega) (by have := hbl.size; simp; omega) ?_; intro v' w1 hown' hgrow' _))
          go_roundw
          case rel => exact ⟨3, _, by omega, by omega, rfl, by simpa [i64s, last4] using hown', below_app hbl hbl.size hown hgrow'⟩
          case measure => simp [intOf]
        · obtain rfl : n = 0 := by omega
          clear hn
          have ha := i64_and3 (m) (by omega) (by omega)
          go_wp2_with (first | (at_builtin; refine wpList_append_own _ rfl _ _ 69 rfl w.heap.size 3 i0 (.int .i64 0) 1 8 Tryd.underlying69 hi hz0 hz1 hz2 rfl (by decide) _ _ _ rfl (hown.alloc _) ⟨wr.heap.size, 0, none⟩ 1 1 [.int .i64 (m % 4)] rfl rfl (cell_one_new _ _ _) (by simp [Value.oneCell']) (by unfold maxLen; omega) (by omega) (by have := hbl.size; simp; omega) ?_; intro v' w1 hown' hgrow' _))
          go_roundw
          case rel => exact ⟨4, _, by omega, by omega, rfl, by simpa [i64s, last4] using hown', below_app hbl hbl.size hown hgrow'⟩
          case measure => simp [intOf]
        · obtain rfl : n = -2 := by omega
          clear hn
          go_wp2
          go_ret
          exact ⟨_, rfl, by have := HM.out; rw [digits, ← this]; exact hown, hbl⟩
end Go.Proofs.YtdedphhohiioiaaDoor
