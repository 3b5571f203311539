/- What hash.Sum does. -/
import Derived.Test.YtdedphhohiioiaaDoorSum
namespace Go.Proofs.YtdedphhohiioiaaDoor
open Go.RowKit

set_option maxHeartbeats 4000000 in
set_option maxRecDepth 100000 in
theorem sumF_any (bs : List Int) (A : Option Addr) (n c : Nat) (w : World) (hbs : u8s_ok bs) (hn : n = bs.length) (hsm : bs.length ≤ 1099511627776)
    (hsrc : ∀ w', (∀ k, k < w.heap.size → w'.heap[k]? = w.heap[k]?) → Src Tryd.prog 1 22 (.slice A n c) n (u8s bs) w') (hk : w.rangeAt 18 0 (u32s kk)) (h18 : 18 < w.heap.size) :
    Calls Tryd.prog 27 #[.slice A n c] w fun e w' => e = .returned (.agg (u8s (sha bs)).toArray) ∧ Below w.heap.size w w' := by
  have HN := Lib.hid hn
  have HS := Lib.hid hsrc
  have HK := Lib.hid hk
  clear hn hsrc hk
  go_enter Tryd.func27, Tryd.ntmps27
  go_wp2_with fail
  refine (new_any _).mono ?_
  rintro e w1 ⟨hb, rfl, hlt, hat, hb1⟩
  have hb0 : Below w.heap.size w w1 := ((Below.refl _ _).alloc (Nat.le_refl _) _).trans (hb1.mono (by simp))
  have HAT := Lib.hid hat
  have HB0 := Lib.hid hb0
  have HLT := Lib.hid hlt
  have hh0 : Has w1 w.heap.size 25 32 := (has_new w _ _ _ rfl).below hb1
  have HH := Lib.hid hh0
  clear hat hb0 hlt hb1 hh0
  go_wp2_with fail
  refine (write_any _ hb [] bs _ A n c w1 HAT.out hbs HN.out (by simpa using hsm) (fun w' hw => HS.out w' (fun k hk => (hw k (by have := HB0.out.size; omega) (by have := HLT.out; simp at this; omega)).trans (HB0.out.block k hk))) (range_below HK.out HB0.out) (by simp; omega) HLT.out).mono ?_
  rintro e w2 ⟨rfl, rv, hat2, hrv, honly⟩
  have hb2 : Below w.heap.size w w2 := HB0.out.trans (honly.below (by have := HLT.out; simp at this; omega) (fun k hk => by simp [Value.ownBlock] at hk) HB0.out.size)
  have hh2 : Has w2 w.heap.size 25 32 := HH.out.same (honly.block _ HH.out.lt (by have := HLT.out; simp at this; omega) (by simp [Value.ownBlock]))
  have HAT2 := Lib.hid hat2
  have HB2 := Lib.hid hb2
  have HH2 := Lib.hid hh2
  clear hat2 hb2 hh2 hrv honly HH HAT
  go_wp2_with fail
  refine (sumM_any _ hb _ rv w2 HAT2.out (range_below HK.out HB2.out)).mono ?_
  rintro e w3 ⟨rfl, hb3⟩
  obtain ⟨OUT, hOUT⟩ : ∃ o, o = sha ([] ++ bs) := ⟨_, rfl⟩
  have hol : OUT.length = 32 := by rw [hOUT, sha_len]
  have hi25 : (Tryd.prog.info? 25).map (·.size) = some (u8s OUT).length := by rw [u8s_len', hol]; exact Tryd.size25
  have hh3 : Has w3 w.heap.size 25 (u8s OUT).length := by rw [u8s_len', hol]; exact HH2.out.below hb3
  have hb4 : Below w.heap.size w w3 := HB2.out.trans (hb3.mono HB2.out.size)
  rw [← hOUT]
  have HOUT := Lib.hid hOUT
  have HI := Lib.hid hi25
  have HHH := Lib.hid hh3
  have HB4 := Lib.hid hb4
  clear hOUT hol hi25 hh3 hb4 hb3 HB2 HH2 HAT2
  go_wp2_with (refine wpList_store_row rfl 25 (.tmp 2) (.tmp 9) rfl w.heap.size rfl (u8s OUT) rfl 25 HHH.out HI.out (one_u8s _) ?_; intro w9 hp9)
  refine bodyPost_ret (v := .agg (u8s OUT).toArray) (results_cell_row rfl _ _ w.heap.size 25 _ (0, 0) _ rfl hp9.blk Tryd.underlying25 rfl (by simpa using HI.out)) rfl ⟨by rw [HOUT.out]; rfl, hp9.below HB4.out (Nat.le_refl _)⟩
end Go.Proofs.YtdedphhohiioiaaDoor
