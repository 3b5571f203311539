/- The reference's pool: Has, Add, Take, Drop. -/
import Derived.Test.YtideopnblhbngaaDoorPoolLaw
namespace Go.Proofs.YtideopnblhbngaaDoor
open Go.RowKit Go.Shelf

/-- The reference's pool, as it lies. -/
structure RefAt (base p : Nat) (v : Value) (ts : List ByteArray) (w : World) : Prop where
  blk : w.heap[p]? = some (.cells #[v] 67 (0, 0))
  own : w.ownsRow base 9 1 v ts.length (strs ts)
  hp : base ≤ p
theorem RefAt.form {base p : Nat} {v : Value} {ts : List ByteArray} {w : World} (h : RefAt base p v ts w) : ∃ A c, v = .slice A ts.length c := (Txs.of_own h.own).form
theorem RefAt.cell {base p : Nat} {v : Value} {ts : List ByteArray} {w : World} (h : RefAt base p v ts w) : w.cell? ⟨p, 0, none⟩ = some v := by simp [World.cell?, h.blk]
theorem RefAt.below {base p : Nat} {v : Value} {ts : List ByteArray} {w w' : World} (h : RefAt base p v ts w) (hb : Below w.heap.size w w') : RefAt base p v ts w' :=
  ⟨blk_below h.blk hb, h.own.kept (row := none) ⟨hb.os, hb.tape, hb.output, hb.size, fun k hk _ => hb.block k hk⟩ (by cases h' : v.ownBlock <;> simp), h.hp⟩

set_option maxHeartbeats 4000000 in
set_option maxRecDepth 100000 in
theorem refHas_any (xs : List ByteArray) (z : ByteArray) (A : Option Addr) (n c : Nat) (w : World) (hv : Txs w (.slice A n c) xs) (hz : n ≤ 1000000) :
    Calls Tryd.prog 49 #[.slice A n c, .string z] w fun e w' => e = .returned (.bool (inT xs z)) ∧ w' = w := by
  have HV := Lib.hid hv
  have HN := Lib.hid hv.len
  clear hv
  go_enter Tryd.func49, Tryd.ntmps49
  go_wp2
  go_loopw [6, 9] (fun _ k wr => ∃ (i : Nat), i ≤ n ∧ k = .int .i64 i ∧ Hid (z ∉ xs.take i) ∧ w = wr)
    (fun _ k _ => n - (intOf k).toNat)
  case atStart => exact ⟨0, by omega, rfl, Lib.hid (by simp), by first | trivial | rfl⟩
  case round =>
    obtain ⟨i, hi, rfl, hne, rfl⟩ := hrel
    by_cases hlt : i < n
    · obtain ⟨b, off, rfl, hb, hr⟩ := HV.out.el i hlt
      have hi1 : i < xs.length := by have := HN.out; omega
      obtain ⟨X, hX⟩ : ∃ X, X = xs.getD i ByteArray.empty := ⟨_, rfl⟩
      have hxm : X ∈ xs := by rw [hX, List.getD_eq_getElem?_getD, List.getElem?_eq_getElem hi1]; exact List.getElem_mem _
      have htk : xs.take (i + 1) = xs.take i ++ [X] := by rw [List.take_succ_eq_append_getElem hi1, hX]; simp [List.getD_eq_getElem?_getD, hi1]
      rw [← hX] at hr
      have HXM := Lib.hid hxm
      have HTK := Lib.hid htk
      have hil : (i : Int) < n := by omega
      clear hX hxm htk
      have hsb := str_beq X z
      by_cases he : X = z
      · have hb1 : (X == z) = true := by rw [ba_beq]; simp [he]
        rw [decide_eq_true he] at hsb
        have hd : inT xs z = true := (inT_iff _ _).2 (by rw [← he]; exact HXM.out)
        have HD := Lib.hid hd
        clear hd
        go_wp2_with fail
        go_ret
        exact ⟨by rw [HD.out]; rfl, rfl⟩
      · have hb1 : (X == z) = false := by rw [ba_beq]; simp [he]
        rw [decide_eq_false he] at hsb
        go_wp2_with fail
        go_roundw
        case rel => exact ⟨i + 1, by omega, by go_num, Lib.hid (by
          rw [HTK.out]
          intro hm
          rcases List.mem_append.1 hm with hm | hm
          · exact hne.out hm
          · simp at hm; exact he hm.symm), by first | trivial | rfl⟩
        case measure => simp [intOf]; omega
    · obtain rfl : i = n := by omega
      have hd : inT xs z = false := (inT_false _ _).2 (by
        have := hne.out
        rwa [List.take_of_length_le (by rw [← HN.out]; exact Nat.le_refl _)] at this)
      have HD := Lib.hid hd
      clear hd
      go_wp2_with fail
      go_ret
      exact ⟨by rw [HD.out]; rfl, rfl⟩

/-- The number that Add answers. -/
def addN (ts : List ByteArray) (bs : List Int) : Int := if ¬ (1 ≤ bs.length ∧ bs.length ≤ 16) then 4 else if inT ts (strOfNums bs) then 17 else if 16 ≤ ts.length then 8 else 0

set_option maxHeartbeats 4000000 in
set_option maxRecDepth 100000 in
theorem refAdd_any (base p : Nat) (v : Value) (ts : List ByteArray) (bs : List Int) (w : World) (h : RefAt base p v ts w) (hz : ts.length ≤ 1000) (hb5 : base ≤ w.heap.size) :
    Calls Tryd.prog 44 #[.pointer (some ⟨p, 0, none⟩), .string (strOfNums bs)] w fun e w' => e = .returned (.int .i64 (addN ts bs)) ∧
      ∃ v', RefAt base p v' (addT ts bs) w' ∧ But (PoolS p v) w w' ∧ (v'.ownBlock = v.ownBlock ∨ ∃ b, v'.ownBlock = some b ∧ w.heap.size ≤ b) := by
  have hsz := strOfNums_size bs
  obtain ⟨A, c, rfl⟩ := h.form
  have HX := Lib.hid (Txs.of_own h.own)
  have hc := h.cell
  have H := Lib.hid h
  have hf : w.frozen? ⟨p, 0, none⟩ = false := free_blk h.blk
  obtain ⟨S, hS⟩ : ∃ S, S = strOfNums bs := ⟨_, rfl⟩
  rw [← hS] at hsz ⊢
  have HS := Lib.hid hS
  obtain ⟨ln, hln⟩ : ∃ l, l = bs.length := ⟨_, rfl⟩
  rw [← hln] at hsz
  have HLN := Lib.hid hln
  obtain ⟨nt, hnt⟩ : ∃ l, l = ts.length := ⟨_, rfl⟩
  rw [← hnt] at hc hz HX
  have HNT := Lib.hid hnt
  clear h hS hln hnt
  by_cases h1 : 1 ≤ ln ∧ ln ≤ 16
  rotate_left
  · have hE : Hid (addN ts bs = 4) := Lib.hid (by unfold addN; rw [if_pos (by rw [← HLN.out]; exact h1)])
    have hT : Hid (addT ts bs = ts) := Lib.hid (addT_no (by unfold addOk; rw [decide_eq_false (by rw [← HLN.out]; exact h1)]; rfl))
    by_cases h0 : ln = 0
    · subst h0
      have hi0 : ((S.size : Int) == 0) = true := by rw [hsz]; rfl
      go_enter Tryd.func44, Tryd.ntmps44
      go_wp2_with fail
      go_ret
      exact ⟨by rw [hE.out]; rfl, _, by rw [hT.out]; exact H.out, But.refl _ _, .inl rfl⟩
    · have h0' : ¬ (ln : Int) = 0 := by omega
      have h16 : (16 : Int) < ln := by omega
      go_enter Tryd.func44, Tryd.ntmps44
      go_wp2_with fail
      go_ret
      exact ⟨by rw [hE.out]; rfl, _, by rw [hT.out]; exact H.out, But.refl _ _, .inl rfl⟩
  · have h0' : ¬ (ln : Int) = 0 := by omega
    have h16 : ¬ (16 : Int) < ln := by omega
    go_enter Tryd.func44, Tryd.ntmps44
    go_wp2_with fail
    refine (refHas_any ts S A nt c w HX.out (by omega)).mono ?_
    rintro _ w ⟨rfl, rfl⟩
    cases hin : inT ts S with
    | true =>
      have hE : Hid (addN ts bs = 17) := Lib.hid (by unfold addN; rw [if_neg (fun hh => hh (by rw [← HLN.out]; exact h1)), if_pos (by rw [← HS.out]; exact hin)])
      have hT : Hid (addT ts bs = ts) := Lib.hid (addT_no (by unfold addOk; rw [← HS.out, hin]; simp))
      clear hin
      go_wp2_with fail
      go_ret
      exact ⟨by rw [hE.out]; rfl, _, by rw [hT.out]; exact H.out, But.refl _ _, .inl rfl⟩
    | false =>
      by_cases h15 : 16 ≤ nt
      · have h15' : (15 : Int) < nt := by omega
        have hE : Hid (addN ts bs = 8) := Lib.hid (by unfold addN; rw [if_neg (fun hh => hh (by rw [← HLN.out]; exact h1)), if_neg (by rw [← HS.out, hin]; simp), if_pos (by rw [← HNT.out]; exact h15)])
        have hT : Hid (addT ts bs = ts) := Lib.hid (addT_no (by unfold addOk; rw [decide_eq_false (show ¬ ts.length < 16 by rw [← HNT.out]; omega), Bool.and_false]))
        clear hin
        go_wp2_with fail
        go_ret
        exact ⟨by rw [hE.out]; rfl, _, by rw [hT.out]; exact H.out, But.refl _ _, .inl rfl⟩
      · have h15' : ¬ (15 : Int) < nt := by omega
        have hE : Hid (addN ts bs = 0) := Lib.hid (by unfold addN; rw [if_neg (fun hh => hh (by rw [← HLN.out]; exact h1)), if_neg (by rw [← HS.out, hin]; simp), if_neg (by rw [← HNT.out]; exact h15)])
        have hok : addOk ts bs = true := by unfold addOk; rw [decide_eq_true (by rw [← HLN.out]; exact h1), ← HS.out, hin, decide_eq_true (show ts.length < 16 by rw [← HNT.out]; omega)]; rfl
        have hT : Hid (addT ts bs = ts ++ [S]) := Lib.hid (by rw [addT_yes hok, HS.out])
        have OW : Hid (w.ownsRow base 9 1 (.slice A nt c) nt (strs ts)) := Lib.hid (by have := H.out.own; rwa [← HNT.out] at this)
        have hpne : (Value.slice A nt c).ownBlock ≠ some p := own_not OW.out H.out.blk (by decide)
        clear hin hok
        go_wp2_with (at_builtin; refine app1 (w0 := w) base rfl (.tmp 29) (.tmp 31) 65 9 (.string ByteArray.empty) 1 16 rfl Tryd.underlying65 Tryd.info9 rfl (by omega) (by omega) _ nt (strs ts) rfl 1 [.string S] rfl rfl (by simp [Value.oneCell']) OW.out (Below.refl _ _) (by omega) hb5 ?_; intro v5 w5 ap5; have hpb5 := ap5.blk H.out.blk hpne; have hpn5 := ap5.ne (blk_lt H.out.blk) hpne; have hc5 : w5.cell? ⟨p, 0, none⟩ = some (.slice A nt c) := (by rw [← HNT.out] at hpb5; simp [World.cell?, hpb5]); have hf5 := free_blk hpb5; have PL5 := Lib.hid ap5.place; have GR5 := Lib.hid ap5.grown; obtain ⟨g5, cap5, rfl⟩ := ownsRow_succ ap5.own; have O5 := Lib.hid ap5.own; have HPB5 := Lib.hid hpb5; clear ap5 hpb5)
        go_ret
        refine ⟨by rw [hE.out]; rfl, .slice (some ⟨g5, 0, none⟩) (nt + 1) cap5, ?_, ?_, by rw [← HNT.out]; exact PL5.out⟩
        · rw [hT.out]
          refine ⟨setCell_blk HPB5.out, ?_, H.out.hp⟩
          have := O5.out.kept (grownBy_setCell' w5 p (.slice (some ⟨g5, 0, none⟩) (nt + 1) cap5)) (.inr fun e => hpn5 e)
          rw [List.length_append, show ([S] : List ByteArray).length = 1 from rfl, ← HNT.out]
          simpa [strs] using this
        · rw [← HNT.out]
          exact (But.grownT (But.refl _ _) GR5.out fun k hk => .inr hk).trans (But.setCellT (.inl rfl))
end Go.Proofs.YtideopnblhbngaaDoor
