/- What quoratenum.Bytes does. -/
import Derived.Test.YtdedphhohiioiaaDoorOf
import Derived.OwnWalk
namespace Go.Proofs.YtdedphhohiioiaaDoor
open Go.RowKit

def six : List Int := [201, 202, 203, 204, 205, 206]
/-- A copy with marked room behind. -/
structure Roomy (w : World) (base : Nat) (v : Value) (bs : List Int) : Prop where
  own : ∃ g off c, v = .slice (some ⟨g, off, none⟩) bs.length c ∧ bs.length + 6 ≤ c ∧ c ≤ maxLen ∧ OwnO w base 5 (.slice (some ⟨g, off, none⟩) (bs.length + 6) c) (u8s (bs ++ six))
  ok : u8s_ok bs
theorem six_ok : u8s_ok six := by unfold u8s_ok six; decide
theorem Roomy.below {w w' : World} {base : Nat} {v : Value} {bs : List Int} (h : Roomy w base v bs) (hb : Below w.heap.size w w') : Roomy w' base v bs := by
  obtain ⟨⟨g, off, c, e, h1, h2, h3⟩, hk⟩ := h
  exact ⟨⟨g, off, c, e, h1, h2, h3.below hb⟩, hk⟩
theorem Roomy.bs {w : World} {base : Nat} {v : Value} {bs : List Int} (h : Roomy w base v bs) : Bs w v bs := by
  obtain ⟨⟨g, off, c, rfl, h1, h2, h3⟩, hk⟩ := h
  have hl : (bs ++ six).length = bs.length + 6 := by simp [six]
  refine ⟨⟨_, _, rfl⟩, fun _ => ⟨g, off, c, rfl, by omega, h2, (h3.lt g rfl).2, fun i hi => ?_⟩, hk⟩
  obtain ⟨g', off', c', he, _, _, hc⟩ := h3.row (by rw [u8s_len', hl]; omega)
  simp only [Value.slice.injEq, Option.some.injEq, Addr.mk.injEq] at he
  obtain ⟨⟨rfl, rfl, -⟩, -, -⟩ := he
  refine hc i _ ?_
  rw [u8s, List.map_append, List.getElem?_append_left (by simpa using hi)]
  simp [List.getD_eq_getElem?_getD, hi]

set_option maxHeartbeats 2000000 in
set_option maxRecDepth 100000 in
theorem bytes_any (bs : List Int) (A : Option Addr) (n c : Nat) (w : World) (hv : Bs w (.slice A n c) bs) (hn : n = bs.length) (hsm : n ≤ 1099511627776) :
    Calls Tryd.prog 26 #[.slice A n c] w fun e w' => ∃ v, e = .returned v ∧ Roomy w' w.heap.size v bs ∧ Below w.heap.size w w' := by
  obtain ⟨i0, hi0, hzz⟩ := Option.map_eq_some_iff.1 Tryd.info5
  simp only [Prod.mk.injEq] at hzz
  obtain ⟨hz0, hz1, hz2⟩ := hzz
  have HV := Lib.hid hv
  have HN := Lib.hid hn
  have HI := Lib.hid hi0
  have HZ0 := Lib.hid hz0
  have HZ1 := Lib.hid hz1
  have HZ2 := Lib.hid hz2
  clear hv hn hi0 hz0 hz1 hz2
  go_enter Tryd.func26, Tryd.ntmps26
  go_wp2_with (first
    | (refine wpList_make_own w rfl _ _ 22 rfl w.heap.size 5 i0 (.int .u8 0) 1 Tryd.underlying22 HI.out HZ0.out HZ1.out .i64 .i64 _ (n + 6) rfl rfl (by omega) (by rw [HZ2.out]; omega) (by unfold maxLen; omega) (Nat.le_refl _) ?_; intro w1 own1 gr1; have O1 := Lib.hid (OwnO.of_own own1); have G1 := Lib.hid gr1; clear own1 gr1)
    | (at_builtin; refine appO (w0 := w) w.heap.size rfl (.tmp 7) (.tmp 8) 22 22 5 (.int .u8 0) 1 rfl Tryd.underlying22 Tryd.info5 rfl (by omega) _ _ rfl (.slice A n c) n (u8s bs) rfl (by rw [HN.out] at HV ⊢; exact (HV.out.same (fun k _ hk => G1.out.block k hk (by simp))).src) O1.out ((Below.refl _ _).grown G1.out (Nat.le_refl _) (fun k hk => by cases hk)) G1.out.size (by simp; omega) ?_; intro v2 w2 ap2; have AP2 : Hid (OwnO w2 w.heap.size 5 v2 (u8s bs) ∧ Below w.heap.size w w2) := Lib.hid ⟨by have := ap2.own; rwa [List.nil_append] at this, ap2.below⟩; clear ap2; obtain ⟨A2, c2, rfl, hc2⟩ := AP2.out.1.len; rw [u8s_len'] at hc2 AP2 ⊢)
    | (at_builtin; refine appO (w0 := w) w.heap.size rfl (.tmp 9) (.tmp 10) 22 22 5 (.int .u8 0) 1 rfl Tryd.underlying22 Tryd.info5 rfl (by omega) _ (u8s bs) rfl (.slice (some ⟨w2.heap.size, 0, none⟩) 6 6) 6 (u8s six) rfl (src_new w2 5 (u8s six) 6 rfl Tryd.underlying22 (one_u8s _)) (AP2.out.1.below ((Below.refl _ _).alloc (Nat.le_refl _) _)) (AP2.out.2.alloc AP2.out.2.size _) (by have := AP2.out.2.size; simp; omega) (by rw [u8s_len', ← HN.out]; omega) ?_; intro v3 w3 ap3; have AP3 : Hid (OwnO w3 w.heap.size 5 v3 (u8s (bs ++ six)) ∧ Below w.heap.size w w3) := Lib.hid ⟨by have := ap3.own; rwa [show u8s bs ++ u8s six = u8s (bs ++ six) by simp [u8s]] at this, ap3.below⟩; clear ap3; obtain ⟨g, off, c3, rfl, hc3, hm3, hcell3⟩ := AP3.out.1.row (by rw [u8s_len']; simp [six]); have hl3 : (u8s (bs ++ six)).length = n + 6 := (by rw [u8s_len', HN.out]; simp [six]); rw [hl3] at hc3 AP3 ⊢; clear hl3 hcell3; have hc4 : ¬ (c3 : Int) < n := (by omega)))
  go_ret
  refine ⟨.slice (some ⟨g, off, none⟩) n c3, rfl, ⟨⟨g, off, c3, by rw [HN.out], by have := HN.out; omega, hm3, ?_⟩, HV.out.ok⟩, AP3.out.2⟩
  have := AP3.out.1
  rwa [HN.out] at this
end Go.Proofs.YtdedphhohiioiaaDoor
