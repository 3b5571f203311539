/- What hash.Of and hash.Zero do. -/
import Derived.Test.YtdedphhohiioiaaDoorAlive
import Derived.Laws.Cover3
namespace Go.Proofs.YtdedphhohiioiaaDoor
open Go.RowKit

/-- A slice of slices of bytes. -/
structure Bss (w : World) (v : Value) (ps : List (List Int)) : Prop where
  form : ∃ A c, v = .slice A ps.length c
  cells : ps ≠ [] → ∃ b off c, v = .slice (some ⟨b, off, none⟩) ps.length c ∧ ps.length ≤ c ∧ c ≤ maxLen ∧ b < w.heap.size ∧ ∀ i, i < ps.length → ∃ u, w.cell? ⟨b, off + i, none⟩ = some u ∧ Bs w u (ps.getD i [])

theorem Bss.below {w w' : World} {v : Value} {ps : List (List Int)} (h : Bss w v ps) (hb : Below w.heap.size w w') : Bss w' v ps := by
  refine ⟨h.form, fun hne => ?_⟩
  obtain ⟨b, off, c, e, h1, h2, h3, h4⟩ := h.cells hne
  refine ⟨b, off, c, e, h1, h2, Nat.lt_of_lt_of_le h3 hb.size, fun i hi => ?_⟩
  obtain ⟨u, hu, hbs⟩ := h4 i hi
  exact ⟨u, (hb.cell (p := ⟨b, off + i, none⟩) h3).trans hu, hbs.below hb⟩

def be4 (n : Nat) : List Int := [(n : Int) / 16777216 % 256, (n : Int) / 65536 % 256, (n : Int) / 256 % 256, (n : Int) % 256]
def framed (z : Int) (ps : List (List Int)) : List Int := [z % 256] ++ ps.flatMap fun p => be4 p.length ++ p
def short (z : Int) (ps : List (List Int)) : List Int := (sha (framed z ps)).take 16

theorem be4_ok (n : Nat) : u8s_ok (be4 n) := by
  intro b hb
  simp only [be4, List.mem_cons, List.not_mem_nil, or_false] at hb
  unfold B8
  omega
theorem framed_zero (z : Int) (ps : List (List Int)) : framed z (ps.take 0) = [z % 256] := by simp [framed]
theorem framed_succ (z : Int) (ps : List (List Int)) (i : Nat) (h : i < ps.length) : framed z (ps.take (i + 1)) = framed z (ps.take i) ++ be4 (ps.getD i []).length ++ ps.getD i [] := by
  unfold framed
  rw [List.take_succ_eq_append_getElem h, List.flatMap_append]
  simp only [List.flatMap_cons, List.flatMap_nil, List.append_nil, List.append_assoc, List.getD_eq_getElem?_getD, List.getElem?_eq_getElem h, Option.getD_some]
theorem framed_len (z : Int) (ps : List (List Int)) (i : Nat) : (framed z (ps.take i)).length ≤ (framed z ps).length := by
  have : framed z ps = framed z (ps.take i) ++ ((ps.drop i).flatMap fun p => be4 p.length ++ p) := by
    unfold framed
    rw [List.append_assoc, ← List.flatMap_append, List.take_append_drop]
  rw [this, List.length_append]
  omega
theorem framed_count (z : Int) (ps : List (List Int)) : ps.length ≤ (framed z ps).length := by
  induction ps with
  | nil => simp
  | cons p ps ih => simp only [framed, List.flatMap_cons, List.length_append, List.length_cons, be4, List.length_nil] at ih ⊢; omega
theorem arr16 (a : Option Addr) (cap : Nat) (W : World) : (Instr.arrayAt 43 (.slice a 16 cap)).run Tryd.prog W = .ok (.pointer a) W := run_arrayAt (w := W) 43 5 16 a 16 cap Tryd.underlying43 (Nat.le_refl _)
theorem range_take {w : World} {b o : Nat} {cs : List Value} (h : w.rangeAt b o cs) (n : Nat) : w.rangeAt b o (cs.take n) := fun j v hv => by
  refine h j v ?_
  rw [List.getElem?_take] at hv
  split at hv
  · exact hv
  · cases hv
theorem short_len (z : Int) (ps : List (List Int)) : (short z ps).length = 16 := by simp [short, sha_len]
theorem short_ok (z : Int) (ps : List (List Int)) : u8s_ok (short z ps) := (sha_ok _).take 16
theorem wrap_u8_mod (z : Int) : IntKind.u8.wrap z = z % 256 := IntKind.wrap_u8 z
theorem Tryd.size43 : (Tryd.prog.info? 43).map (·.size) = some 16 := by kernel_rfl

theorem Bs.old {w : World} {v : Value} {bs : List Int} (h : Bs w v bs) (hne : bs ≠ []) : ∀ k, v.ownBlock = some k → k < w.heap.size := by
  intro k hk
  obtain ⟨b, off, c, rfl, _, _, h3, _⟩ := h.cells hne
  simp only [Value.ownBlock, Option.some.injEq] at hk
  omega
/-- Write, of bytes that lie in old blocks. -/
theorem write_old (base hb : Nat) (m bs : List Int) (rv v : Value) (w0 w : World) (H : HashAt base w hb m rv) (hv : Bs w0 v bs) (hbel : Below w0.heap.size w0 w) (hold : w0.heap.size ≤ base) (hsm : m.length + bs.length ≤ 1099511627776)
    (hk : w.rangeAt 18 0 (u32s kk)) (hg1 : 18 < base) (hbase : base ≤ hb) :
    Calls Tryd.prog 32 #[.pointer (some ⟨hb, 0, none⟩), v] w fun e w' => e = .returned (.tuple #[]) ∧
      ∃ rv', HashAt base w' hb (m ++ bs) rv' ∧ (rv'.ownBlock = rv.ownBlock ∨ ∃ b, rv'.ownBlock = some b ∧ w.heap.size ≤ b) ∧ Only hb rv.ownBlock w w' := by
  by_cases hne : bs = []
  · obtain ⟨A, c, rfl⟩ := hv.form
    refine write_any base hb m bs rv A bs.length c w H hv.ok rfl hsm (fun w' _ => ?_) hk hg1 hbase
    subst hne
    exact Bs.nil.src
  · exact write_bs base hb m bs rv v w H (hv.below hbel) (fun e => by have := hv.old hne hb e; omega) hsm hk hg1 hbase

set_option maxHeartbeats 4000000 in
set_option maxRecDepth 100000 in
theorem of_any (z : Int) (ps : List (List Int)) (A : Option Addr) (n c : Nat) (w : World) (hv : Bss w (.slice A n c) ps) (hn : n = ps.length) (hsm : (framed z ps).length ≤ 1099511627776) (hk : w.rangeAt 18 0 (u32s kk)) (h18 : 18 < w.heap.size) :
    Calls Tryd.prog 33 #[.int .i64 z, .slice A n c] w fun e w' => e = .returned (.agg (u8s (short z ps)).toArray) ∧ Below w.heap.size w w' := by
  have hn40 : n ≤ 1099511627776 := by have := framed_count z ps; omega
  have HK := Lib.hid hk
  have HV := Lib.hid hv
  have HN := Lib.hid hn
  have HSM := Lib.hid hsm
  clear hk hv hn hsm
  go_enter Tryd.func33, Tryd.ntmps33
  go_wp2_with fail
  refine (new_any _).mono ?_
  rintro e w2 ⟨hb, rfl, hlt, hat, hb2⟩
  rw [World.size_alloc] at hlt hat hb2
  have hW : Below w.heap.size w w2 := ((Below.refl _ _).alloc (Nat.le_refl _) _).trans (hb2.mono (by simp))
  have hh : Has w2 w.heap.size 43 16 := (has_new w _ _ _ rfl).below (by rw [World.size_alloc]; exact hb2)
  have HAT := Lib.hid hat
  have HLT := Lib.hid hlt
  have HW := Lib.hid hW
  have HH := Lib.hid hh
  have hbz : hb < w2.heap.size := blk_lt hat.blk
  have hz2 : w.heap.size + 1 ≤ w2.heap.size := by have := hb2.size; simpa using this
  clear hat hlt hW hh hb2
  go_wp2_with fail
  obtain ⟨B, hB⟩ : ∃ B, B = w.heap.size + 1 := ⟨_, rfl⟩
  rw [← hB] at HAT HLT hz2
  have hwB : w.heap.size ≤ B := by omega
  have h18B : 18 < B := by omega
  have HBE := Lib.hid hB
  clear hB
  have hat1 := HAT.out.below ((Below.refl w2.heap.size w2).alloc (Nat.le_refl _) (.cells #[Value.int .u8 (z % 256)] 5))
  have bel1 : Below w.heap.size w (w2.alloc (.cells #[Value.int .u8 (z % 256)] 5)) := HW.out.alloc HW.out.size _
  have h1 : Has (w2.alloc (.cells #[Value.int .u8 (z % 256)] 5)) w.heap.size 43 16 := HH.out.below ((Below.refl _ _).alloc (Nat.le_refl _) _)
  refine (write_bs B hb [] [z % 256] _ (.slice (some ⟨w2.heap.size, 0, none⟩) 1 1) (w2.alloc (.cells (u8s [z % 256]).toArray 5)) hat1 (Bs.new w2 [z % 256] (fun b hb => by simp at hb; rw [hb]; unfold B8; omega) (by simp) (0, 0)) (by simp only [Value.ownBlock, ne_eq, Option.some.injEq]; omega) (by simp) (range_below HK.out bel1) h18B HLT.out).mono ?_
  rintro e w3 ⟨rfl, rv, hat3, _, honly⟩
  have hlow : Below B (w2.alloc (.cells #[Value.int .u8 (z % 256)] 5)) w3 := honly.low hat1 HLT.out (by simp; omega)
  have bel3 : Below w.heap.size w w3 := bel1.trans (hlow.mono hwB)
  have h3 : Has w3 w.heap.size 43 16 := h1.same (hlow.block _ (by have := HBE.out; omega))
  rw [List.nil_append, ← framed_zero z ps] at hat3
  have HAT3 := Lib.hid hat3
  have BEL3 := Lib.hid bel3
  have HH3 := Lib.hid h3
  have hz3 : B ≤ w3.heap.size := Nat.le_trans (by simp; omega) hlow.size
  clear hat1 bel1 h1 hat3 bel3 h3 honly hlow HAT HW HH
  go_wp2
  go_loopw [18] (fun s wr => ∃ (i : Nat) (rv : Value), i ≤ n ∧ s = .int .i64 i ∧ Hid (HashAt B wr hb (framed z (ps.take i)) rv) ∧ Hid (Below B w3 wr))
    (fun s _ => n - (intOf s).toNat)
  case atStart => exact ⟨0, _, by omega, rfl, HAT3, Lib.hid (Below.refl _ _)⟩
  case round =>
    clear HAT3
    obtain ⟨i, rv1, hi, rfl, hat, hbel⟩ := hrel
    have hsz : B ≤ wr.heap.size := Nat.le_trans hz3 hbel.out.size
    have hbl : hb < wr.heap.size := blk_lt hat.out.blk
    have belr : Below w.heap.size w wr := BEL3.out.trans (hbel.out.mono hwB)
    by_cases hlt : i < n
    · have hi2 : i < ps.length := by have := HN.out; omega
      obtain ⟨b, off, c', e1, _, _, h3', h4⟩ := HV.out.cells (by intro e; rw [e] at hi2; simp at hi2)
      obtain ⟨pv, hpv, hbs⟩ := h4 i hi2
      obtain ⟨p, hp⟩ : ∃ p, p = ps.getD i [] := ⟨_, rfl⟩
      rw [← hp] at hbs
      simp only [Value.slice.injEq] at e1
      obtain ⟨rfl, -, rfl⟩ := e1
      have hc := (belr.cell (p := ⟨b, off + i, none⟩) h3').trans hpv
      have HBS := Lib.hid hbs
      obtain ⟨PA, pc, rfl⟩ := hbs.form
      obtain ⟨m, hm⟩ : ∃ m, m = p.length := ⟨_, rfl⟩
      have hfs := framed_succ z ps i hi2
      have hfl := Nat.le_trans (framed_len z ps (i + 1)) HSM.out
      rw [← hp] at hfs
      rw [hfs] at hfl
      rw [← hm] at hc HBS hfs hfl
      have hml : m ≤ 1099511627776 := by simp only [List.length_append, ← hm] at hfl; omega
      have hfa : (framed z (ps.take i)).length + 4 ≤ 1099511627776 := by simp only [List.length_append, be4, List.length_cons, List.length_nil] at hfl; omega
      have hfb : (framed z (ps.take i) ++ be4 m).length + p.length ≤ 1099511627776 := by simp only [List.length_append] at hfl ⊢; omega
      have HFS := Lib.hid hfs
      have HFB := Lib.hid hfb
      have HM := Lib.hid hm
      have HBR := Lib.hid belr
      have hil : (i : Int) < n := by omega
      clear hfs hfl hfb hm hp hpv hbs h4 belr hi2 h3'
      go_wp2_with fail
      have hatA := hat.out.below ((Below.refl wr.heap.size wr).alloc (Nat.le_refl _) (.cells (u8s (be4 m)).toArray 5))
      have belA : Below w.heap.size w (wr.alloc (.cells (u8s (be4 m)).toArray 5)) := HBR.out.alloc HBR.out.size _
      have hnoA : (Value.slice (some ⟨wr.heap.size, 0, none⟩) 4 4).ownBlock ≠ some hb := by simp only [Value.ownBlock, ne_eq, Option.some.injEq]; omega
      refine (write_bs B hb _ (be4 m) rv1 (.slice (some ⟨wr.heap.size, 0, none⟩) 4 4) (wr.alloc (.cells (u8s (be4 m)).toArray 5)) hatA (Bs.new wr (be4 m) (be4_ok m) (by simp [be4]) (0, 0)) hnoA hfa (range_below HK.out belA) h18B HLT.out).mono ?_
      rintro e w5 ⟨rfl, rv5, hat5, hpl5, honly5⟩
      have low5 : Below B (wr.alloc (.cells (u8s (be4 m)).toArray 5)) w5 := honly5.low hatA HLT.out (by simp; omega)
      have beB5 : Below B wr w5 := ((Below.refl B wr).alloc hsz _).trans low5
      have bel5 : Below w.heap.size w w5 := HBR.out.trans (beB5.mono hwB)
      have hz5 : B ≤ w5.heap.size := Nat.le_trans hsz beB5.size
      go_wp2_with fail
      refine (write_old B hb _ p rv5 (.slice PA m pc) w w5 hat5 HBS.out bel5 hwB HFB.out (range_below HK.out bel5) h18B HLT.out).mono ?_
      rintro e w6 ⟨rfl, rv6, hat6, _, honly6⟩
      have beB6 : Below B wr w6 := beB5.trans (honly6.low hat5 HLT.out hz5)
      rw [← HFS.out] at hat6
      have HA6 := Lib.hid hat6
      have HB6 := Lib.hid (hbel.out.trans beB6)
      clear hatA belA hnoA hat5 hpl5 honly5 low5 beB5 bel5 hz5 hat6 honly6 beB6 hc
      go_wp2
      go_roundw
      case rel => exact ⟨i + 1, rv6, by omega, by go_num, HA6, HB6⟩
      case measure => simp [intOf]; omega
    · have hin : i = n := by omega
      have htk : ps.take i = ps := List.take_of_length_le (by rw [hin, HN.out]; exact Nat.le_refl _)
      rw [htk] at hat
      have HBR := Lib.hid belr
      have hhr : Has wr w.heap.size 43 16 := HH3.out.same (hbel.out.block _ (by have := HBE.out; omega))
      have HHR := Lib.hid hhr
      clear htk hin belr hhr
      go_wp2_with fail
      refine (sumM_any B hb _ rv1 wr hat.out (range_below HK.out HBR.out)).mono ?_
      rintro e w7 ⟨rfl, hb7⟩
      obtain ⟨OUT, hOUT⟩ : ∃ o, o = sha (framed z ps) := ⟨_, rfl⟩
      have hol : OUT.length = 32 := by rw [hOUT, sha_len]
      have hi25 : (Tryd.prog.info? 25).map (·.size) = some (u8s OUT).length := by rw [u8s_len', hol]; exact Tryd.size25
      rw [← hOUT]
      have hbel7 := HBR.out.trans (hb7.mono HBR.out.size)
      have hh7 : Has w7 w.heap.size 43 16 := HHR.out.below hb7
      have hhz : ∀ Z : Array Value, Z.size = 32 → Has (w7.alloc (.cells Z 25)) w7.heap.size 25 (u8s OUT).length := fun Z hZ => has_new w7 _ _ _ (by rw [hZ, u8s_len', hol])
      obtain ⟨SH, hSH⟩ : ∃ s, s = OUT.take 16 := ⟨_, rfl⟩
      have hsl : SH.length = 16 := by rw [hSH, List.length_take]; omega
      have hsO : SH = short z ps := by rw [hSH, hOUT]; rfl
      have hi43 : (Tryd.prog.info? 43).map (·.size) = some (u8s SH).length := by rw [u8s_len', hsl]; exact Tryd.size43
      have HOUT := Lib.hid hOUT
      have HI := Lib.hid hi25
      have HI43 := Lib.hid hi43
      have HSH := Lib.hid hSH
      have HSL := Lib.hid hsl
      have HSO := Lib.hid hsO
      have HB7 := Lib.hid hbel7
      have HH7 := Lib.hid hh7
      have HZ := Lib.hid hhz
      clear hb7 hOUT hol hi25 hbel7 hh7 hhz hSH hsl hsO hi43 hat hbel HBR HHR HH3 BEL3
      have har := arr16
      have hu : ∀ w9 : World, Put (w7.alloc (.cells (Array.replicate 32 (Value.int .u8 0)) 25)) w7.heap.size 25 (u8s OUT) w9 → w9.rangeAt w7.heap.size 0 (u8s SH) ∧ Below w.heap.size w w9 ∧ Has w9 w.heap.size 43 (u8s SH).length := fun w9 hp => by
        refine ⟨?_, hp.below (HB7.out.alloc HB7.out.size _) HB7.out.size, ?_⟩
        · have := range_take (blk_range hp.blk) 16
          rwa [show (u8s OUT).take 16 = u8s SH by rw [HSH.out, u8s, u8s, List.map_take]] at this
        · rw [u8s_len', HSL.out]
          exact HH7.out.same ((hp.other _ (by have := HH7.out.lt; omega)).trans (Below.heap_alloc w7 _ _ HH7.out.lt))
      have HU := Lib.hid hu
      clear hu
      go_wp2_with (first
        | (refine wpList_store_row rfl 25 (.tmp 9) (.tmp 43) rfl w7.heap.size rfl (u8s OUT) rfl 25 (HZ.out _ rfl) HI.out (one_u8s _) ?_; intro w9 hp9; obtain ⟨q1, q2, q3⟩ := HU.out _ hp9; have Q1 := Lib.hid q1; have Q2 := Lib.hid q2; have Q3 := Lib.hid q3; clear hp9 q1 q2 q3)
        | (refine wpList_load_g rfl 43 (.tmp 45) rfl w7.heap.size 0 rfl (u8s SH) _ Q1.out Tryd.underlying43 rfl HI43.out ?_)
        | (refine wpList_store_row rfl 43 (.tmp 4) (.tmp 46) rfl w.heap.size rfl (u8s SH) rfl 43 Q3.out HI43.out (one_u8s _) ?_; intro w10 hp10))
      refine bodyPost_ret (v := .agg (u8s SH).toArray) (results_cell_row rfl _ _ w.heap.size 43 _ (0, 0) _ rfl hp10.blk Tryd.underlying43 rfl (by simpa using HI43.out)) rfl ⟨by rw [HSO.out], hp10.below Q2.out (Nat.le_refl _)⟩
end Go.Proofs.YtdedphhohiioiaaDoor
