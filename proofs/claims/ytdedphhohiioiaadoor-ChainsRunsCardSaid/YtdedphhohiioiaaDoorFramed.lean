/- What the reference's Framed and Of do. -/
import Derived.Test.YtdedphhohiioiaaDoorHashSumsW
namespace Go.Proofs.YtdedphhohiioiaaDoor
open Go.RowKit

theorem wpList_conv_str {ops : Array Oper} {rest : List Oper} {o : Oper} {a : Act} {w : World} {Q : Exit → Act → World → Prop} (hw : Region.wanted o (yielded ops a.tmps) = true) (x : Operand) (ho : o.op = .convert 22 9 x) (v : Value) (bs : List Int)
    (hx : a.eval x = v) (hv : Bs w v bs) (h : wpList Tryd.prog ops Q rest (a.put o.dst (.string (strOfNums bs))) w) : wpList Tryd.prog ops Q (o :: rest) a w := by
  refine wpList_step fun K hK => ?_
  rw [if_pos hw]
  unfold Oper.wp execOp
  simp only [ho, hx, Sem.run_bind, Sem.run_pure, Result.andThen_ok, conv_bs hv w (Below.refl _ _)]
  exact hK _ _ h

theorem wpList_add_str {P : Program} {ops : Array Oper} {rest : List Oper} {o : Oper} {a : Act} {w : World} {Q : Exit → Act → World → Prop} (hw : Region.wanted o (yielded ops a.tmps) = true) (t : TypeId) (x y : Operand) (r) (ho : o.op = .binOp .add t x y r) (s1 s2 : ByteArray)
    (hx : a.eval x = .string s1) (hy : a.eval y = .string s2) (hz : s1.size + s2.size ≤ 2199023255552) (h : wpList P ops Q rest (a.put o.dst (.string (s1 ++ s2))) w) : wpList P ops Q (o :: rest) a w := by
  refine wpList_step fun K hK => ?_
  rw [if_pos hw]
  unfold Oper.wp execOp
  have hb : ¬ (((s1.size + s2.size : Nat) : Int) > IntKind.i64.max) := by
    have : IntKind.i64.max = 9223372036854775807 := by decide
    rw [this]; omega
  simp only [ho, hx, hy, eqGuard, binOp_string_add, Op.stringOp, if_neg hb, Sem.run_bind, Sem.run_pure]
  exact hK _ _ h

theorem wrap_u64_nat (n : Nat) (h : n ≤ 1099511627776) : IntKind.u64.wrap (n : Int) = n := by
  rw [IntKind.wrap_u64]
  omega

theorem sb_append (a b : ByteArray) : sb (a ++ b) = sb a ++ sb b := by
  unfold sb
  rw [ByteArray.data_append, Array.toList_append, List.map_append]
theorem size_append (a b : ByteArray) : (a ++ b).size = a.size + b.size := by
  rw [← sb_len, sb_append, List.length_append, sb_len, sb_len]

/-- A slice of strings. -/
structure Txs (w : World) (v : Value) (ss : List ByteArray) : Prop where
  form : ∃ A c, v = .slice A ss.length c
  cells : ss ≠ [] → ∃ b off c, v = .slice (some ⟨b, off, none⟩) ss.length c ∧ ss.length ≤ c ∧ c ≤ maxLen ∧ b < w.heap.size ∧ ∀ i, i < ss.length → w.cell? ⟨b, off + i, none⟩ = some (.string (ss.getD i ByteArray.empty))

theorem Txs.below {w w' : World} {v : Value} {ss : List ByteArray} (h : Txs w v ss) (hb : Below w.heap.size w w') : Txs w' v ss := by
  refine ⟨h.form, fun hne => ?_⟩
  obtain ⟨b, off, c, e, h1, h2, h3, h4⟩ := h.cells hne
  exact ⟨b, off, c, e, h1, h2, Nat.lt_of_lt_of_le h3 hb.size, fun i hi => (hb.cell (p := ⟨b, off + i, none⟩) h3).trans (h4 i hi)⟩

set_option maxHeartbeats 4000000 in
set_option maxRecDepth 100000 in
theorem framed_any (z : Int) (ss : List ByteArray) (A : Option Addr) (n c : Nat) (w : World) (hv : Txs w (.slice A n c) ss) (hn : n = ss.length) (hsm : (framed z (ss.map sb)).length ≤ 1099511627776) :
    Calls Tryd.prog 75 #[.int .i64 z, .slice A n c] w fun e w' => ∃ S, e = .returned (.string S) ∧ sb S = framed z (ss.map sb) ∧ Below w.heap.size w w' := by
  have hn40 : n ≤ 1099511627776 := by have := framed_count z (ss.map sb); rw [List.length_map] at this; omega
  have HV := Lib.hid hv
  have HN := Lib.hid hn
  have HSM := Lib.hid hsm
  clear hv hn hsm
  go_enter Tryd.func75, Tryd.ntmps75
  go_wp2_with (refine wpList_conv_str rfl (.tmp 11) rfl (.slice (some ⟨w.heap.size, 0, none⟩) 1 1) [z % 256] rfl (Bs.new w [z % 256] (fun b hb => by simp at hb; rw [hb]; unfold B8; omega) (by simp) (0, 0)) ?_)
  obtain ⟨S0, hS0⟩ : ∃ s, s = strOfNums [z % 256] := ⟨_, rfl⟩
  have hs0 : sb S0 = framed z ((ss.map sb).take 0) := by rw [hS0, framed_zero]; exact sb_str _ (fun b hb => by simp at hb; rw [hb]; unfold B8; omega)
  rw [← hS0]
  have HS0 := Lib.hid hs0
  clear hS0 hs0
  have BW : Hid (Below w.heap.size w (w.alloc (.cells #[Value.int .u8 (z % 256)] 5))) := Lib.hid ((Below.refl _ _).alloc (Nat.le_refl _) _)
  go_loopw [5, 15] (fun s k wr => ∃ (i : Nat) (S : ByteArray), i ≤ n ∧ s = .string S ∧ k = .int .i64 i ∧ Hid (sb S = framed z ((ss.map sb).take i)) ∧ Hid (Below w.heap.size w wr))
    (fun _ k _ => n - (intOf k).toNat)
  case atStart => exact ⟨0, S0, by omega, rfl, rfl, HS0, BW⟩
  case round =>
    clear HS0 BW
    obtain ⟨i, S, hi, rfl, rfl, hS, hbel⟩ := hrel
    by_cases hlt : i < n
    · have hi2 : i < ss.length := by have := HN.out; omega
      obtain ⟨b, off, c', e1, _, _, h3', h4⟩ := HV.out.cells (by intro e; rw [e] at hi2; simp at hi2)
      have hpv := h4 i hi2
      obtain ⟨p, hp⟩ : ∃ p, p = ss.getD i ByteArray.empty := ⟨_, rfl⟩
      rw [← hp] at hpv
      simp only [Value.slice.injEq] at e1
      obtain ⟨rfl, -, rfl⟩ := e1
      have hc := (hbel.out.cell (p := ⟨b, off + i, none⟩) h3').trans hpv
      have hfs := framed_succ z (ss.map sb) i (by rw [List.length_map]; exact hi2)
      have hfl := Nat.le_trans (framed_len z (ss.map sb) (i + 1)) HSM.out
      have hgd : (ss.map sb).getD i [] = sb p := by
        rw [hp, List.getD_eq_getElem?_getD, List.getElem?_map, List.getD_eq_getElem?_getD, List.getElem?_eq_getElem hi2]; rfl
      rw [hgd] at hfs
      rw [hfs] at hfl
      obtain ⟨m, hm⟩ : ∃ m, m = p.size := ⟨_, rfl⟩
      have hpm : (sb p).length = m := by rw [sb_len, hm]
      have hSl : S.size = (framed z ((ss.map sb).take i)).length := by rw [← hS.out, sb_len]
      have hml : S.size + 4 + m ≤ 1099511627776 := by simp only [List.length_append, be4, List.length_cons, List.length_nil, ← hSl, hpm] at hfl; omega
      have hpz : p.size = m := hm.symm
      rw [hpm] at hfs
      have HFS := Lib.hid hfs
      have HPM := Lib.hid hpm
      have HPZ := Lib.hid hpz
      have hm40 : m ≤ 1099511627776 := by omega
      have HML := Lib.hid hml
      have hil : (i : Int) < n := by omega
      obtain ⟨T, hT⟩ : ∃ T, T = strOfNums (be4 m) := ⟨_, rfl⟩
      have HT := Lib.hid hT
      have hTs : T.size = 4 := by rw [hT, strOfNums_size]; rfl
      have hz1 : T.size + p.size ≤ 2199023255552 := by omega
      have hz2 : S.size + (T ++ p).size ≤ 2199023255552 := by rw [size_append]; omega
      have HZ1 := Lib.hid hz1
      have HZ2 := Lib.hid hz2
      have hTb : sb T = be4 m := by rw [hT]; exact sb_str _ (be4_ok m)
      have hsb : sb (S ++ (T ++ p)) = framed z ((ss.map sb).take (i + 1)) := by rw [sb_append, sb_append, hS.out, hTb, hfs, List.append_assoc]
      have HSB := Lib.hid hsb
      have E1 : IntKind.u64.wrap (p.size : Int) = m := by rw [hpz]; exact wrap_u64_nat m (by omega)
      have E2 : ∀ q : Nat, 0 < q → IntKind.u64.wrap ((m : Int).tdiv (q : Int)) = (m : Int) / q := fun q hq => by
        rw [Int.tdiv_eq_ediv_of_nonneg (by omega), ← Int.natCast_ediv]
        exact wrap_u64_nat _ (Nat.le_trans (Nat.div_le_self _ _) hm40)
      have E3 := E2 16777216 (by omega)
      have E4 := E2 65536 (by omega)
      have E5 := E2 256 (by omega)
      have E3 : IntKind.u64.wrap ((m : Int).tdiv 16777216) = (m : Int) / 16777216 := E3
      have E4 : IntKind.u64.wrap ((m : Int).tdiv 65536) = (m : Int) / 65536 := E4
      have E5 : IntKind.u64.wrap ((m : Int).tdiv 256) = (m : Int) / 256 := E5
      clear hpz hpm hm hp hgd hfs hfl hSl hml hi2 hpv h4 h3' hT hTs hTb hsb hz1 hz2 E2
      go_wp2_with (first | (refine wpList_conv_str rfl (.tmp 34) rfl (.slice (some ⟨wr.heap.size, 0, none⟩) 4 4) (be4 m) rfl (Bs.new wr (be4 m) (be4_ok m) (by simp [be4]) (0, 0)) ?_; rw [← HT.out]) | (refine wpList_add_str rfl 9 (.tmp 35) (.tmp 36) _ rfl T p rfl rfl HZ1.out ?_) | (refine wpList_add_str rfl 9 (.tmp 22) (.tmp 37) _ rfl S (T ++ p) rfl rfl HZ2.out ?_))
      go_roundw
      case rel => exact ⟨i + 1, _, by omega, rfl, by go_num, HSB, Lib.hid (hbel.out.alloc hbel.out.size _)⟩
      case measure => simp [intOf]; omega
    · have hin : i = n := by omega
      have htk : (ss.map sb).take i = ss.map sb := List.take_of_length_le (by rw [List.length_map, hin, HN.out]; exact Nat.le_refl _)
      rw [htk] at hS
      go_wp2_with fail
      go_ret
      exact ⟨_, rfl, hS.out, hbel.out⟩
end Go.Proofs.YtdedphhohiioiaaDoor
