/- What hash.New does, and what a hash in memory is. -/
import Derived.Test.YtdedphhohiioiaaDoorTake
namespace Go.Proofs.YtdedphhohiioiaaDoor
open Go.RowKit

theorem Tryd.info5 : (Tryd.prog.info? 5).map (fun i => (i.zero, i.size, i.bytes)) = some (some (.int .u8 0), 1, 1) := by kernel_rfl
theorem Tryd.size108 : (Tryd.prog.info? 108).map (·.size) = some 8 := by kernel_rfl
theorem u8s_len' (bs : List Int) : (u8s bs).length = bs.length := by simp [u8s]

/-- A hash in block hb that has taken the bytes m in; rv: the slice of those that are left over. -/
structure HashAt (base : Nat) (w : World) (hb : Nat) (m : List Int) (rv : Value) : Prop where
  blk : w.heap[hb]? = some (.cells (u32s (stN m (m.length / 64)).list ++ [rv, .int .u64 m.length]).toArray 111 (0, 0))
  own : OwnO w base 5 rv (u8s (m.drop (64 * (m.length / 64))))
  ne : rv.ownBlock ≠ some hb
  bytes : u8s_ok m
  small : m.length ≤ 1099511627776

theorem HashAt.below {base : Nat} {w w' : World} {hb : Nat} {m : List Int} {rv : Value} (h : HashAt base w hb m rv) (hb' : Below w.heap.size w w') : HashAt base w' hb m rv :=
  ⟨blk_below h.blk hb', h.own.below hb', h.ne, h.bytes, h.small⟩

set_option maxHeartbeats 400000 in
theorem begin_any (w : World) : Calls Tryd.prog 73 #[] w fun e w' => e = .returned (.agg (u32s St.init.list).toArray) ∧ Below w.heap.size w w' := by
  go_enter Tryd.func73, Tryd.ntmps73
  go_wp2_with (refine wpList_store_row rfl 108 (.tmp 0) (.tmp 1) rfl w.heap.size rfl (u32s St.init.list) rfl 108 (has_new w _ _ _ rfl) Tryd.size108 (by decide) ?_; intro w1 hp)
  exact bodyPost_ret (v := .agg (u32s St.init.list).toArray) (results_cell_row rfl _ _ w.heap.size 108 _ (0, 0) _ rfl hp.blk Tryd.underlying108 rfl Tryd.size108) rfl ⟨rfl, hp.below ((Below.refl _ _).alloc (Nat.le_refl _) _) (Nat.le_refl _)⟩

set_option maxHeartbeats 400000 in
theorem new_any (w : World) : Calls Tryd.prog 30 #[] w fun e w' => ∃ hb, e = .returned (.pointer (some ⟨hb, 0, none⟩)) ∧ w.heap.size ≤ hb ∧ HashAt w.heap.size w' hb [] (.slice none 0 0) ∧ Below w.heap.size w w' := by
  go_enter Tryd.func30, Tryd.ntmps30
  go_wp2_with fail
  refine (begin_any _).mono ?_
  rintro e w1 ⟨rfl, hb1⟩
  go_wp2
  go_ret
  exact ⟨w1.heap.size, rfl, hb1.size, ⟨heap_alloc_new w1 _, .inl ⟨rfl, rfl⟩, by simp [Value.ownBlock], fun b hb => by simp at hb, by simp⟩, hb1.alloc hb1.size _⟩
end Go.Proofs.YtdedphhohiioiaaDoor
