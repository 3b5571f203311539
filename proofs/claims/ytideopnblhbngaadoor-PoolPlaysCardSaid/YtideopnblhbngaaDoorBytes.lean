/- A copy with marked room behind: quoratenum.Bytes. -/
import Derived.Test.YtideopnblhbngaaDoorPoolLaw
namespace Go.Proofs.YtideopnblhbngaaDoor
open Go.RowKit Go.Shelf

theorem Tryd.info5 : (Tryd.prog.info? 5).map (fun i => (i.zero, i.size, i.bytes)) = some (some (Value.int .u8 0), 1, 1) := by kernel_rfl
theorem Bs.src {w : World} {v : Value} {bs : List Int} (h : Bs w v bs) : Src Tryd.prog 1 44 v bs.length (u8s bs) w := by
  cases hbs : bs with
  | nil =>
    obtain ⟨A, c, hv⟩ := h.form
    rw [hbs] at hv
    subst hv
    cases A with
    | none => exact Src.ofNil _ Tryd.underlying44 c
    | some a => exact Src.ofSlice _ Tryd.underlying44 a 0 c [] rfl (fun j u hu => by simp at hu) (fun u hu => by cases hu)
  | cons x xs =>
    rw [← hbs]
    obtain ⟨b, off, c, rfl, h1, h2, h3, h4⟩ := h.cells (by rw [hbs]; simp)
    refine Src.ofSlice _ Tryd.underlying44 _ _ c _ (by simp [u8s]) (fun j u hu => ?_) (one_u8s bs)
    have hj : j < bs.length := by
      have := (List.getElem?_eq_some_iff.1 hu).1
      simpa [u8s] using this
    rw [show (⟨b, off, none⟩ : Addr).add j = ⟨b, off + j, none⟩ by unfold Addr.add; split <;> simp_all, h4 j hj, ← hu]
    simp [u8s, List.getD_eq_getElem?_getD, hj]
def six : List Int := [201, 202, 203, 204, 205, 206]

set_option maxHeartbeats 2000000 in
set_option maxRecDepth 100000 in
theorem bytes_any (bs : List Int) (A : Option Addr) (n c : Nat) (w : World) (hv : Bs w (.slice A n c) bs) (hn : n = bs.length) (hsm : n ≤ 1099511627776) :
    Calls Tryd.prog 43 #[.slice A n c] w fun e w' => ∃ g off c', e = .returned (.slice (some ⟨g, off, none⟩) n c') ∧ n ≤ c' ∧ c' ≤ maxLen ∧ OwnO w' w.heap.size 5 (.slice (some ⟨g, off, none⟩) (n + 6) c') (u8s (bs ++ six)) ∧ Below w.heap.size w w' := by
  obtain ⟨i0, hi0, hzz⟩ := Option.map_eq_some_iff.1 Tryd.info5
  simp only [Prod.mk.injEq] at hzz
  obtain ⟨hz0, hz1, hz2⟩ := hzz
  have HV := Lib.hid hv
  have HN := Lib.hid hn
  have HI := Lib.hid hi0
  have HZ0 := Lib.hid hz0
  have HZ1 := Lib.hid hz1
  have HZ2 := Lib.hid hz2
  clear hv hn hi0 hz0 hz1 hz2
  go_enter Tryd.func43, Tryd.ntmps43
  go_wp2_with (first
    | (refine wpList_make_own w rfl _ _ 44 rfl w.heap.size 5 i0 (.int .u8 0) 1 Tryd.underlying44 HI.out HZ0.out HZ1.out .i64 .i64 _ (n + 6) rfl rfl (by omega) (by rw [HZ2.out]; omega) (by unfold maxLen; omega) (Nat.le_refl _) ?_; intro w1 own1 gr1; have O1 := Lib.hid (OwnO.of_own own1); have G1 := Lib.hid gr1; clear own1 gr1)
    | (at_builtin; refine appO (w0 := w) w.heap.size rfl (.tmp 7) (.tmp 8) 44 44 5 (.int .u8 0) 1 rfl Tryd.underlying44 Tryd.info5 rfl (by omega) _ _ rfl (.slice A n c) n (u8s bs) rfl (by rw [HN.out] at HV ⊢; exact (HV.out.same (fun k _ hk => G1.out.block k hk (by simp))).src) O1.out ((Below.refl _ _).grown G1.out (Nat.le_refl _) (fun k hk => by cases hk)) G1.out.size (by simp; omega) ?_; intro v2 w2 ap2; have AP2 : Hid (OwnO w2 w.heap.size 5 v2 (u8s bs) ∧ Below w.heap.size w w2) := Lib.hid ⟨by have := ap2.own; rwa [List.nil_append] at this, ap2.below⟩; clear ap2; obtain ⟨A2, c2, rfl, hc2⟩ := AP2.out.1.len; rw [u8s_len'] at hc2 AP2 ⊢)
    | (at_builtin; refine appO (w0 := w) w.heap.size rfl (.tmp 9) (.tmp 10) 44 44 5 (.int .u8 0) 1 rfl Tryd.underlying44 Tryd.info5 rfl (by omega) _ (u8s bs) rfl (.slice (some ⟨w2.heap.size, 0, none⟩) 6 6) 6 (u8s six) rfl (src_new w2 5 (u8s six) 6 rfl Tryd.underlying44 (one_u8s _)) (AP2.out.1.below ((Below.refl _ _).alloc (Nat.le_refl _) _)) (AP2.out.2.alloc AP2.out.2.size _) (by have := AP2.out.2.size; simp; omega) (by rw [u8s_len', ← HN.out]; omega) ?_; intro v3 w3 ap3; have AP3 : Hid (OwnO w3 w.heap.size 5 v3 (u8s (bs ++ six)) ∧ Below w.heap.size w w3) := Lib.hid ⟨by have := ap3.own; rwa [show u8s bs ++ u8s six = u8s (bs ++ six) by simp [u8s]] at this, ap3.below⟩; clear ap3; obtain ⟨g, off, c3, rfl, hc3, hm3, hcell3⟩ := AP3.out.1.row (by rw [u8s_len']; simp [six]); have hl3 : (u8s (bs ++ six)).length = n + 6 := (by rw [u8s_len', HN.out]; simp [six]); rw [hl3] at hc3 AP3 ⊢; clear hl3 hcell3; have hc4 : ¬ (c3 : Int) < n := (by omega)))
  go_ret
  exact ⟨g, off, c3, rfl, by omega, hm3, AP3.out.1, AP3.out.2⟩
end Go.Proofs.YtideopnblhbngaaDoor
