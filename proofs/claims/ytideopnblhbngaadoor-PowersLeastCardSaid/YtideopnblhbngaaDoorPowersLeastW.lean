/- What PowersLeast answers. -/
import Derived.Test.YtideopnblhbngaaDoorPowersMeetW
import Derived.Test.YtideopnblhbngaaDoorPowLeast
namespace Go.Proofs.YtideopnblhbngaaDoor
open Go.RowKit Go.Shelf

theorem u64_rem (z : Int) (k : Nat) (hk : 0 < k) : ∃ r : Nat, (IntKind.u64.wrap z).tmod (k : Int) = r ∧ r < k := by
  have h0 : 0 ≤ IntKind.u64.wrap z := by rw [IntKind.wrap_u64]; omega
  rw [Int.tmod_eq_emod_of_nonneg h0]
  have h1 := Int.emod_nonneg (IntKind.u64.wrap z) (show (k : Int) ≠ 0 by omega)
  have h2 := Int.emod_lt_of_pos (IntKind.u64.wrap z) (show (0 : Int) < k by omega)
  exact ⟨((IntKind.u64.wrap z) % k).toNat, by omega, by omega⟩

theorem own_two {w : World} {b1 b2 e1 e2 s1 s2 n1 n2 : Nat} {v1 v2 : Value} {xs1 xs2 : List Value} (h1 : w.ownsRow b1 e1 s1 v1 n1 xs1) (h2 : w.ownsRow b2 e2 s2 v2 n2 xs2) (hne : e1 ≠ e2) : v2.ownBlock = none ∨ v2.ownBlock ≠ v1.ownBlock := by
  rcases h2.2 with ⟨rfl, _⟩ | ⟨g, _, _, rfl, _, hg, _⟩
  · exact .inl rfl
  · refine .inr fun e => ?_
    rcases h1.2 with ⟨rfl, _⟩ | ⟨g', _, _, rfl, _, hg', _⟩
    · simp [Value.ownBlock] at e
    · simp only [Value.ownBlock, Option.some.injEq] at e
      subst e
      rw [hg] at hg'
      simp only [Option.some.injEq, Obj.cells.injEq] at hg'
      exact hne hg'.2.1.symm
def z39 : Value := .agg #[.int .u8 0, .int .u8 0, .int .u8 0, .int .u8 0, .int .u8 0, .int .u8 0, .int .u8 0, .int .u8 0, .int .u8 0, .int .u8 0, .int .u8 0, .int .u8 0, .int .u8 0, .int .u8 0, .int .u8 0, .int .u8 0, .int .i64 0]
theorem Tryd.info39 : (Tryd.prog.info? 39).map (fun i => (i.zero, i.size, i.bytes)) = some (some z39, 17, 24) := by kernel_rfl
theorem rcells_snoc (vs : List Va) (x : Va) : rcells (vs ++ [x]) = rcells vs ++ vcells x := by simp [rcells]

set_option maxHeartbeats 8000000 in
set_option maxRecDepth 100000 in
theorem powersLeast_any (z0 z1 z2 : Int) (aS aR aT : Addr) (w : World) (hs : Sen w aS aR aT) :
    Calls Tryd.prog 5 #[.int .i64 z0, .int .i64 z1, .int .i64 z2] w fun e w' => e = .returned (.bool true) ∧ Below w.heap.size w w' := by
  have HS := Lib.hid hs
  clear hs
  obtain ⟨r0, hr0, hl0⟩ := u64_rem z0 7 (by decide)
  obtain ⟨r1, hr1, hl1⟩ := u64_rem z1 1000000 (by decide)
  rw [show ((7 : Nat) : Int) = 7 from rfl] at hr0
  rw [show ((1000000 : Nat) : Int) = 1000000 from rfl] at hr1
  go_enter Tryd.func5, Tryd.ntmps5
  go_wp2_with fail
  refine (alive_any aS aR aT w HS.out).mono ?_
  rintro _ w1 ⟨rfl, bel1⟩
  have S1 := Lib.hid (HS.out.below bel1)
  have B1 := Lib.hid bel1
  clear bel1 HS
  obtain ⟨r2, hr2, hl2⟩ := u64_rem z2 (r0 + 2) (by omega)
  rw [show ((r0 + 2 : Nat) : Int) = 1 + r0 + 1 by omega] at hr2
  have O7 : Hid (((w1.alloc (.cells #[] 39)).alloc (.cells #[] 3)).ownsRow w1.heap.size 39 17 (.slice (some ⟨w1.heap.size, 0, none⟩) 0 0) 0 (rcells (evens 0 (1 + r1)))) := Lib.hid ((World.ownsRow_made w1 #[] 0 (Nat.le_refl _) (by simp) rfl).alloc _)
  have O8 : Hid (((w1.alloc (.cells #[] 39)).alloc (.cells #[] 3)).ownsRow w1.heap.size 3 1 (.slice (some ⟨w1.heap.size + 1, 0, none⟩) 0 0) 0 (i64s (firsts 0))) := Lib.hid (by
    have := own_empty (base := w1.heap.size) (e := 3) (w1.alloc (.cells #[] 39)) #[] rfl (by simp)
    rw [World.size_alloc] at this
    exact this)
  have B2 : Hid (Below w1.heap.size w1 ((w1.alloc (.cells #[] 39)).alloc (.cells #[] 3))) := Lib.hid (((Below.refl _ _).alloc (Nat.le_refl _) _).alloc (by simp) _)
  go_wp2_with fail
  clear hr0 hr1 hr2
  go_loopw [7, 8, 32] (fun s t k wr => ∃ (i j c7 c8 : Nat) (A7 A8 : Option Addr), i ≤ r0 + 1 ∧ j = min i r2 ∧ s = .slice A7 i c7 ∧ t = .slice A8 j c8 ∧ k = .int .i64 i ∧ Hid (wr.ownsRow w1.heap.size 39 17 (.slice A7 i c7) i (rcells (evens i (1 + r1)))) ∧ Hid (wr.ownsRow w1.heap.size 3 1 (.slice A8 j c8) j (i64s (firsts j))) ∧ Hid (Below w1.heap.size w1 wr))
    (fun _ _ k _ => r0 + 1 - (intOf k).toNat)
  case atStart => exact ⟨0, 0, 0, 0, _, _, by omega, by omega, rfl, rfl, rfl, O7, O8, B2⟩
  case round =>
    clear O7 O8 B2
    obtain ⟨i, j, c7, c8, A7, A8, hi, hj, rfl, rfl, rfl, h7, h8, hbel⟩ := hrel
    by_cases hlt : i < r0 + 1
    · have hil : (i : Int) < 1 + r0 := by omega
      have hev := evens_succ i (1 + r1)
      have hfs := firsts_succ j
      obtain ⟨V, hV⟩ : ∃ V, V = evens i (1 + (r1 : Int)) := ⟨_, rfl⟩
      have hVL : V.length = i := by rw [hV]; exact evens_len _ _
      rw [← hV] at hev h7
      have HEV := Lib.hid hev
      have HFS := Lib.hid hfs
      clear hev hfs hV
      have hu8 : IntKind.u8.wrap (i : Int) = i := by rw [IntKind.wrap_u8]; omega
      by_cases hjm : i < r2
      · have hji : j = i := by omega
        clear hj
        subst hji
        have hjl : (j : Int) < r2 := by omega
        go_wp2_with (first | (at_builtin; refine app1 (w0 := w1) w1.heap.size rfl (.tmp 35) (.tmp 41) 22 39 z39 17 24 rfl Tryd.underlying22 Tryd.info39 rfl (by omega) (by omega) _ j (rcells V) rfl 1 (vcells (keyN j, 1 + (r1 : Int))) rfl rfl (one_vcells _) h7.out hbel.out (by omega) hbel.out.size ?_; intro v5 w5 ap5; obtain ⟨g5, cap5, rfl⟩ := ownsRow_succ ap5.own; have O5 := Lib.hid ap5.own; have B5 := Lib.hid ap5.below; have E5 := Lib.hid (h8.out.kept ap5.grown (own_two h7.out h8.out (by decide))); clear ap5) | (at_builtin; refine app1 (w0 := w1) w1.heap.size rfl (.tmp 46) (.tmp 48) 28 3 (.int .i64 0) 1 8 rfl Tryd.underlying28 Tryd.info3 rfl (by omega) (by omega) _ j (i64s (firsts j)) rfl 1 [.int .i64 j] rfl rfl (by simp [Value.oneCell']) E5.out B5.out (by omega) B5.out.size ?_; intro v6 w6 ap6; obtain ⟨g6, cap6, rfl⟩ := ownsRow_succ ap6.own; have O6 := Lib.hid ap6.own; have B6 := Lib.hid ap6.below; have E6 := Lib.hid (O5.out.kept ap6.grown (own_two E5.out O5.out (by decide))); clear ap6))
        go_roundw
        case rel => exact ⟨j + 1, j + 1, _, _, _, _, by omega, by omega, rfl, rfl, by go_num, Lib.hid (by rw [HEV.out, rcells_snoc]; exact E6.out), Lib.hid (by rw [HFS.out]; have := O6.out; simpa [i64s] using this), B6⟩
        case measure => simp [intOf]; omega
      · have hji : j = r2 := by omega
        clear hj
        subst hji
        have hjl : ¬ (i : Int) < j := by omega
        go_wp2_with (at_builtin; refine app1 (w0 := w1) w1.heap.size rfl (.tmp 35) (.tmp 41) 22 39 z39 17 24 rfl Tryd.underlying22 Tryd.info39 rfl (by omega) (by omega) _ i (rcells V) rfl 1 (vcells (keyN i, 1 + (r1 : Int))) rfl rfl (one_vcells _) h7.out hbel.out (by omega) hbel.out.size ?_; intro v5 w5 ap5; obtain ⟨g5, cap5, rfl⟩ := ownsRow_succ ap5.own; have O5 := Lib.hid ap5.own; have B5 := Lib.hid ap5.below; have E5 := Lib.hid (h8.out.kept ap5.grown (own_two h7.out h8.out (by decide))); clear ap5)
        go_roundw
        case rel => exact ⟨i + 1, j, _, _, _, _, by omega, by omega, rfl, rfl, by go_num, Lib.hid (by rw [HEV.out, rcells_snoc]; exact O5.out), E5, B5⟩
        case measure => simp [intOf]; omega
    · obtain rfl : i = r0 + 1 := by omega
      have hj2 : j = r2 := by omega
      clear hj
      subst hj2
      have hp : (1 : Int) ≤ 1 + r1 := by omega
      have hq : 1 + (r1 : Int) ≤ 1000000 := by omega
      have he := least_enoughB (r0 + 1) j (1 + r1) (by omega) (by omega) hp hq (by omega)
      have hf := least_fewB (r0 + 1) j (1 + r1) (by omega) (by omega) hp hq (by omega)
      have ht := evens_total (r0 + 1) (1 + r1) (by omega) (by omega) hp hq
      have S2 := Lib.hid (show St w1 (.slice A7 (r0 + 1) c7) (evens (r0 + 1) (1 + r1)) aS aR aT [(.slice A8 j c8, firsts j)] wr from ⟨Vals.of_own h7.out (by rw [evens_len]) (evens_good _ _), S1.out.below hbel.out, fun p hp => by
        simp only [List.mem_cons, List.not_mem_nil, or_false] at hp
        subst hp
        exact Ins.of_own h8.out, hbel.out⟩)
      have HE := Lib.hid he
      have HF := Lib.hid hf
      have HT := Lib.hid ht
      clear h7 h8 hbel he hf ht S1
      rw [show ((r0 + 1 : Nat) : Int) = 1 + r0 by omega] at HE HF HT
      go_wp2_with fail
      refine (enough_any _ (firsts j) A7 A8 (r0 + 1) c7 j c8 aS aR aT wr S2.out.vals (S2.out.is (.slice A8 j c8) _ (by simp)) S2.out.sen (by omega) (by omega)).mono ?_
      rintro _ w3 ⟨rfl, bel3⟩
      have S3 := Lib.hid (S2.out.go bel3)
      rw [HE.out]
      clear bel3 S2
      have hd1 : (decide (2 * (1 + (r0 : Int)) < 3 * j) == decide (2 * (1 + (r0 : Int)) < 3 * j)) = true := by simp
      go_wp2_with fail
      refine (few_any _ (firsts j) A7 A8 (r0 + 1) c7 j c8 aS aR aT w3 S3.out.vals (S3.out.is (.slice A8 j c8) _ (by simp)) S3.out.sen (by omega) (by omega)).mono ?_
      rintro _ w4 ⟨rfl, bel4⟩
      have S4 := Lib.hid (S3.out.go bel4)
      rw [HF.out]
      clear bel4 S3 hd1
      have hd2 : (decide (3 * (j : Int) < 1 + r0) == decide (3 * (j : Int) < 1 + r0)) = true := by simp
      go_wp2_with fail
      refine (total_any _ A7 (r0 + 1) c7 aS aR aT w4 S4.out.vals S4.out.sen (by omega)).mono ?_
      rintro _ w5 ⟨rfl, bel5⟩
      have S5 := Lib.hid (S4.out.go bel5)
      rw [HT.out]
      clear bel5 S4 hd2
      have h0 : 0 ≤ (1 + (r0 : Int)) * (1 + r1) := Int.mul_nonneg (by omega) (by omega)
      have h1 : (1 + (r0 : Int)) * (1 + r1) ≤ 7 * 1000000 := Int.mul_le_mul (by omega) hq (by omega) (by omega)
      have hm1 : IntKind.i64.wrap ((1 + (r0 : Int)) * (1 + r1)) = (1 + (r0 : Int)) * (1 + r1) := by rw [IntKind.wrap_i64]; omega
      have hm2 : wrap64 ((1 + (r0 : Int)) * (1 + r1)) = (1 + (r0 : Int)) * (1 + r1) := by unfold wrap64; omega
      go_wp2_with fail
      go_ret
      exact ⟨by simp, B1.out.trans (S5.out.bel.mono B1.out.size)⟩
end Go.Proofs.YtideopnblhbngaaDoor
