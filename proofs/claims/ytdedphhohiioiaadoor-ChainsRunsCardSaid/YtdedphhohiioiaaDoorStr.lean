/- Strings and rows of bytes. -/
import Derived.Test.YtdedphhohiioiaaDoorSumF
import Derived.Lib.ConvBytes
import Derived.Lib.SlBytesRow
namespace Go.Proofs.YtdedphhohiioiaaDoor
open Go.RowKit

/-- A string's bytes. -/
def sb (s : ByteArray) : List Int := s.data.toList.map fun b => (b.toNat : Int)
theorem sb_len (s : ByteArray) : (sb s).length = s.size := by simp [sb]
theorem sb_ok (s : ByteArray) : u8s_ok (sb s) := by
  intro b hb
  obtain ⟨x, _, rfl⟩ := List.mem_map.1 hb
  have := x.toNat_lt
  unfold B8
  omega

theorem own_conv {base e : Nat} (w : World) (s : ByteArray) (hs : s.size ≤ 140737488355328) (hb : base ≤ w.heap.size) :
    OwnO (Lib.bytesWorld w e s) base e (.slice (some ⟨w.heap.size, 0, none⟩) s.size (grownCap w s.size 0 e)) (u8s (sb s)) := by
  have hge := grownCap_ge w s.size 0 e
  have hcm : grownCap w s.size 0 e ≤ maxLen := grownCap_le_maxLen w s.size 0 e (by simp only [maxLen]; omega)
  have hl : (u8s (sb s)).length = s.size := by rw [u8s_len', sb_len]
  have hsz : (Lib.bytesCells w e s).size = grownCap w s.size 0 e := by simp [Lib.bytesCells]; omega
  refine .inr ⟨w.heap.size, 0, _, _, _, by rw [hl], hb, Lib.bytesWorld_at_new w e s, by rw [hl]; exact hge, hcm, by rw [hsz]; omega, ?_, .inr (Nat.le_refl _)⟩
  rw [List.drop_zero, Lib.bytesCells, Array.toList_append]
  have : (s.data.map fun b => Value.int .u8 b.toNat).toList = u8s (sb s) := by simp [u8s, sb]
  rw [this]
  exact List.take_left
theorem below_conv (w : World) (e : TypeId) (s : ByteArray) : Below w.heap.size w (Lib.bytesWorld w e s) :=
  ⟨rfl, rfl, rfl, by rw [Lib.bytesWorld_size]; omega, fun k hk => Lib.bytesWorld_at_old w e s k hk⟩

theorem wpList_conv_bytes {P : Program} {ops : Array Oper} {rest : List Oper} {o : Oper} {a : Act} {w : World} {Q : Exit → Act → World → Prop} (hw : Region.wanted o (yielded ops a.tmps) = true) (src dst e : TypeId) (x : Operand) (ho : o.op = .convert src dst x) (s : ByteArray)
    (hx : a.eval x = .string s) {u : TypeDesc} (hs : P.underlying src = some u) (hd : P.underlying dst = some (.slice e)) (he : P.underlying e = some (.int .u8))
    (h : wpList P ops Q rest (a.put o.dst (.slice (some ⟨w.heap.size, 0, none⟩) s.size (grownCap w s.size 0 e))) (Lib.bytesWorld w e s)) : wpList P ops Q (o :: rest) a w := by
  refine wpList_step fun K hK => ?_
  rw [if_pos hw]
  unfold Oper.wp execOp
  simp only [ho, hx, Sem.run_bind, Sem.run_pure, Result.andThen_ok, Lib.run_convert_string_bytes w src dst e s hs hd he]
  exact hK _ _ h
/-- The same, and what comes of it told by what it is. -/
theorem wpList_conv_own {P : Program} {ops : Array Oper} {rest : List Oper} {o : Oper} {a : Act} {w0 w : World} {Q : Exit → Act → World → Prop} (base : Nat) (hw : Region.wanted o (yielded ops a.tmps) = true) (src dst e : TypeId) (x : Operand) (ho : o.op = .convert src dst x) (s : ByteArray)
    (hx : a.eval x = .string s) {u : TypeDesc} (hs : P.underlying src = some u) (hd : P.underlying dst = some (.slice e)) (he : P.underlying e = some (.int .u8)) (hz : s.size ≤ 140737488355328) (HB : Below base w0 w) (hbase : base ≤ w.heap.size)
    (h : ∀ A c w1, OwnO w1 base e (.slice A s.size c) (u8s (sb s)) → Below base w0 w1 → wpList P ops Q rest (a.put o.dst (.slice A s.size c)) w1) : wpList P ops Q (o :: rest) a w :=
  wpList_conv_bytes hw src dst e x ho s hx hs hd he (h _ _ _ (own_conv w s hz hbase) (HB.trans ((below_conv w e s).mono hbase)))
end Go.Proofs.YtdedphhohiioiaaDoor
