/- errors.Is on sentinels; the errors' numbers. -/
import Derived.Test.YtideopnblhbngaaDoorCheck
import Derived.Test.YtideopnblhbngaaDoorExt
import Derived.WalkKit
import Derived.LaidEql
import Derived.Stop.Asserts
import Derived.RowKitTokens
namespace Go.Proofs.YtideopnblhbngaaDoor
open Go.RowKit Go.Extern.Stop Go.Stop Go.Extern Go.Extern.Rtype

theorem Tryd.isTypeOf (v : Value) (w : World) : (Extern.ReflectliteType.typeOf #[.iface 157 v]).run Tryd.prog w = .ok (.iface 147 (.agg #[.pointer (some ⟨18, 157, none⟩)])) w := by kernel_rfl
theorem Tryd.isComparable (w : World) : ((Extern.ReflectliteType.method fun t => do noPackHeld "Comparable" t; (fun a => Value.bool a.comparable) <$> typeInfo t) #[.agg #[.pointer (some ⟨18, 157, none⟩)]]).run Tryd.prog w = .ok (.bool true) w := by kernel_rfl
theorem Tryd.isMethodComparable (v : Value) (w : World) : (Go.method 294 147 v "Comparable").run Tryd.prog w = .ok (119, v) w := by kernel_rfl
theorem Tryd.isComp : (Tryd.prog.info? 157).map (·.comparable) = some true := by kernel_rfl
theorem Tryd.isSize : (Tryd.prog.info? 182).map (·.size) = some 1 := by kernel_rfl
theorem Tryd.noIsE (v : Value) (xT : TypeId) (w : World) : (Instr.typeAssert (.iface 157 v) xT 149 true).run Tryd.prog w = .ok (.tuple #[.nilIface, .bool false]) w := run_typeAssert_lacksB Tryd.underlying149 (by kernel_rfl) (by kernel_rfl) v xT w
theorem Tryd.noUnwrapE (v : Value) (xT : TypeId) (w : World) : (Instr.typeAssert (.iface 157 v) xT 152 true).run Tryd.prog w = .ok (.tuple #[.nilIface, .bool false]) w := run_typeAssert_lacksB Tryd.underlying152 (by kernel_rfl) (by kernel_rfl) v xT w
theorem Tryd.noUnwrapsE (v : Value) (xT : TypeId) (w : World) : (Instr.typeAssert (.iface 157 v) xT 154 true).run Tryd.prog w = .ok (.tuple #[.nilIface, .bool false]) w := run_typeAssert_lacksB Tryd.underlying154 (by kernel_rfl) (by kernel_rfl) v xT w

set_option maxRecDepth 100000 in
/-- errors.Is of a sentinel and itself. -/
theorem is_same (a : Addr) (w : World) :
    Calls Tryd.prog 77 #[.iface 157 (.pointer (some a)), .iface 157 (.pointer (some a))] w fun e w' => e = .returned (.bool true) ∧ w' = w := by
  obtain ⟨i, hi, hcmp⟩ := Option.map_eq_some_iff.1 Tryd.isComp
  obtain ⟨j, hj, hjs⟩ := Option.map_eq_some_iff.1 Tryd.isSize
  have h8 := @run_callFunc_extern Tryd.prog 90 _ Extern.ReflectliteType.typeOf Tryd.func90 (by kernel_rfl) (by kernel_rfl) (by kernel_rfl) (by kernel_rfl)
  have h32 := @run_callFunc_extern Tryd.prog 119 _ (Extern.ReflectliteType.method fun t => do noPackHeld "Comparable" t; pure (.bool (← typeInfo t).comparable)) Tryd.func119 (by kernel_rfl) (by kernel_rfl) (by kernel_rfl) (by kernel_rfl)
  have tT := Tryd.isTypeOf
  have cT := Tryd.isComparable
  have mR := Tryd.isMethodComparable
  have heq := run_eql_iface_ptr_same (P := Tryd.prog) w a Tryd.underlying26 Tryd.underlying157 hi hcmp hj
  go_enter Tryd.func77, Tryd.ntmps77
  go_wp2
  refine wp_loop_rounds 1 ?_
  rw [rounds_succ]
  go_wp2
  go_ret
  exact ⟨rfl, rfl⟩
set_option maxRecDepth 100000 in
/-- errors.Is of two sentinels. -/
theorem is_other (a b : Addr) (ca cb : Array Value) (ta tb : TypeId) (w : World) (hne : a ≠ b) (ha : w.heap[a.block]? = some (.cells ca ta (0, 0))) (hb : w.heap[b.block]? = some (.cells cb tb (0, 0))) :
    Calls Tryd.prog 77 #[.iface 157 (.pointer (some a)), .iface 157 (.pointer (some b))] w fun e w' => e = .returned (.bool false) ∧ w' = w := by
  obtain ⟨i, hi, hcmp⟩ := Option.map_eq_some_iff.1 Tryd.isComp
  obtain ⟨j, hj, hjs⟩ := Option.map_eq_some_iff.1 Tryd.isSize
  have h8 := @run_callFunc_extern Tryd.prog 90 _ Extern.ReflectliteType.typeOf Tryd.func90 (by kernel_rfl) (by kernel_rfl) (by kernel_rfl) (by kernel_rfl)
  have h32 := @run_callFunc_extern Tryd.prog 119 _ (Extern.ReflectliteType.method fun t => do noPackHeld "Comparable" t; pure (.bool (← typeInfo t).comparable)) Tryd.func119 (by kernel_rfl) (by kernel_rfl) (by kernel_rfl) (by kernel_rfl)
  have tT := Tryd.isTypeOf
  have cT := Tryd.isComparable
  have mR := Tryd.isMethodComparable
  have nE := Tryd.noIsE
  have uE := Tryd.noUnwrapE
  have vE := Tryd.noUnwrapsE
  have heq := run_eql_iface_ptr_other (P := Tryd.prog) w Tryd.underlying26 Tryd.underlying157 hi hcmp hj (by rw [hjs]; decide) hne ha hb
  go_enter Tryd.func77, Tryd.ntmps77
  go_wp2
  refine wp_loop_rounds 1 ?_
  rw [rounds_succ]
  go_wp2
  go_ret
  exact ⟨rfl, rfl⟩

/-- The sentinels in the order of their numbers. -/
def senG : List Nat := [1, 5, 6, 3, 7, 8, 9, 4, 10, 11, 0, 12, 13, 14, 15, 16, 2, 17]
structure SenN (w : World) (al : List Addr) : Prop where
  len : al.length = 18
  cell : ∀ (i g : Nat) (a : Addr), senG[i]? = some g → al[i]? = some a → w.cell? ⟨g, 0, none⟩ = some (.iface 157 (.pointer (some a)))
  nd : al.Nodup
  row : ∀ a ∈ al, ∃ c t, w.heap[a.block]? = some (.cells c t (0, 0))
theorem SenN.below {w w' : World} {al : List Addr} (h : SenN w al) (hb : Below w.heap.size w w') : SenN w' al :=
  ⟨h.len, fun i g a h1 h2 => cell_on hb (h.cell i g a h1 h2), h.nd, fun a ha => by obtain ⟨c, t, hc⟩ := h.row a ha; exact ⟨c, t, blk_below hc hb⟩⟩
theorem SenN.ne {w : World} {al : List Addr} (h : SenN w al) {i j : Nat} {a b : Addr} (hi : al[i]? = some a) (hj : al[j]? = some b) (hij : i ≠ j) : a ≠ b := by
  rintro rfl
  exact hij ((List.getElem?_inj (List.getElem?_eq_some_iff.1 hi).1 h.nd).1 (hi.trans hj.symm))

theorem num_nil (w : World) : Calls Tryd.prog 38 #[.nilIface] w fun e w' => e = .returned (.int .i64 0) ∧ w' = w := by
  go_enter Tryd.func38, Tryd.ntmps38
  go_wp2
  go_ret
  exact ⟨rfl, rfl⟩

set_option maxHeartbeats 4000000 in
set_option maxRecDepth 100000 in
theorem num_err (al : List Addr) (k : Nat) (a : Addr) (w : World) (h : SenN w al) (hk : al[k]? = some a) :
    Calls Tryd.prog 38 #[.iface 157 (.pointer (some a))] w fun e w' => e = .returned (.int .i64 ((k : Int) + 1)) ∧ Below w.heap.size w w' := by
  have H := Lib.hid h
  have HK := Lib.hid hk
  have hk18 : k < 18 := by have := (List.getElem?_eq_some_iff.1 hk).1; have := h.len; omega
  obtain ⟨a0, a1, a2, a3, a4, a5, a6, a7, a8, a9, a10, a11, a12, a13, a14, a15, a16, a17, rfl⟩ : ∃ a0 a1 a2 a3 a4 a5 a6 a7 a8 a9 a10 a11 a12 a13 a14 a15 a16 a17, al = [a0, a1, a2, a3, a4, a5, a6, a7, a8, a9, a10, a11, a12, a13, a14, a15, a16, a17] := by
    have hl := h.len
    match al, hl with
    | [a0, a1, a2, a3, a4, a5, a6, a7, a8, a9, a10, a11, a12, a13, a14, a15, a16, a17], _ => exact ⟨_, _, _, _, _, _, _, _, _, _, _, _, _, _, _, _, _, _, rfl⟩
  have c0 := h.cell 0 1 a0 rfl rfl
  have c1 := h.cell 1 5 a1 rfl rfl
  have c2 := h.cell 2 6 a2 rfl rfl
  have c3 := h.cell 3 3 a3 rfl rfl
  have c4 := h.cell 4 7 a4 rfl rfl
  have c5 := h.cell 5 8 a5 rfl rfl
  have c6 := h.cell 6 9 a6 rfl rfl
  have c7 := h.cell 7 4 a7 rfl rfl
  have c8 := h.cell 8 10 a8 rfl rfl
  have c9 := h.cell 9 11 a9 rfl rfl
  have c10 := h.cell 10 0 a10 rfl rfl
  have c11 := h.cell 11 12 a11 rfl rfl
  have c12 := h.cell 12 13 a12 rfl rfl
  have c13 := h.cell 13 14 a13 rfl rfl
  have c14 := h.cell 14 15 a14 rfl rfl
  have c15 := h.cell 15 16 a15 rfl rfl
  have c16 := h.cell 16 2 a16 rfl rfl
  have c17 := h.cell 17 17 a17 rfl rfl
  have hrow : ∀ (i : Nat) (b : Addr), ([a0, a1, a2, a3, a4, a5, a6, a7, a8, a9, a10, a11, a12, a13, a14, a15, a16, a17] : List Addr)[i]? = some b → (#[Value.iface 157 (.pointer (some a0)), Value.iface 157 (.pointer (some a1)), Value.iface 157 (.pointer (some a2)), Value.iface 157 (.pointer (some a3)), Value.iface 157 (.pointer (some a4)), Value.iface 157 (.pointer (some a5)), Value.iface 157 (.pointer (some a6)), Value.iface 157 (.pointer (some a7)), Value.iface 157 (.pointer (some a8)), Value.iface 157 (.pointer (some a9)), Value.iface 157 (.pointer (some a10)), Value.iface 157 (.pointer (some a11)), Value.iface 157 (.pointer (some a12)), Value.iface 157 (.pointer (some a13)), Value.iface 157 (.pointer (some a14)), Value.iface 157 (.pointer (some a15)), Value.iface 157 (.pointer (some a16)), Value.iface 157 (.pointer (some a17))] : Array Value)[i]? = some (.iface 157 (.pointer (some b))) := by
    intro i b hb
    have : (([a0, a1, a2, a3, a4, a5, a6, a7, a8, a9, a10, a11, a12, a13, a14, a15, a16, a17] : List Addr).map fun x => Value.iface 157 (.pointer (some x)))[i]? = some (.iface 157 (.pointer (some b))) := by rw [List.getElem?_map, hb]; rfl
    simpa using this
  have HR := Lib.hid hrow
  clear h hk hrow
  go_enter Tryd.func38, Tryd.ntmps38
  go_wp2_with fail
  obtain ⟨w1, hw1⟩ : ∃ x, x = w.alloc (.cells #[Value.iface 157 (Value.pointer (some a0)), Value.iface 157 (Value.pointer (some a1)), Value.iface 157 (Value.pointer (some a2)), Value.iface 157 (Value.pointer (some a3)), Value.iface 157 (Value.pointer (some a4)), Value.iface 157 (Value.pointer (some a5)), Value.iface 157 (Value.pointer (some a6)), Value.iface 157 (Value.pointer (some a7)), Value.iface 157 (Value.pointer (some a8)), Value.iface 157 (Value.pointer (some a9)), Value.iface 157 (Value.pointer (some a10)), Value.iface 157 (Value.pointer (some a11)), Value.iface 157 (Value.pointer (some a12)), Value.iface 157 (Value.pointer (some a13)), Value.iface 157 (Value.pointer (some a14)), Value.iface 157 (Value.pointer (some a15)), Value.iface 157 (Value.pointer (some a16)), Value.iface 157 (Value.pointer (some a17))] 26) := ⟨_, rfl⟩
  rw [← hw1]
  have hbel : Below w.heap.size w w1 := by rw [hw1]; exact (Below.refl _ _).alloc (Nat.le_refl _) _
  have H1 := Lib.hid (H.out.below hbel)
  have RC : Hid (∀ (i : Nat) (b : Addr), ([a0, a1, a2, a3, a4, a5, a6, a7, a8, a9, a10, a11, a12, a13, a14, a15, a16, a17] : List Addr)[i]? = some b → w1.cell? ⟨w.heap.size, i, none⟩ = some (.iface 157 (.pointer (some b)))) := Lib.hid (fun i b hb => by
    rw [hw1, cell_of_row _ _ _ _ _ _ (heap_alloc_new w _)]
    exact HR.out i b hb)
  have BL := Lib.hid hbel
  obtain ⟨al, hal⟩ : ∃ x, x = ([a0, a1, a2, a3, a4, a5, a6, a7, a8, a9, a10, a11, a12, a13, a14, a15, a16, a17] : List Addr) := ⟨_, rfl⟩
  rw [← hal] at H1 RC HK
  clear hw1 hbel HR H hal
  clear c0 c1 c2 c3 c4 c5 c6 c7 c8 c9 c10 c11 c12 c13 c14 c15 c16 c17
  go_loopw [4, 5, 29] (fun _ _ x wr => ∃ (i : Nat), i ≤ k ∧ x = .int .i64 i ∧ w1 = wr)
    (fun _ _ x _ => 18 - (intOf x).toNat)
  case atStart => exact ⟨0, Nat.zero_le _, rfl, by first | trivial | rfl⟩
  case round =>
    obtain ⟨i, hi, rfl, rfl⟩ := hrel
    have hil : (i : Int) < 18 := by omega
    have hi18 : i < 18 := by omega
    obtain ⟨b, hb⟩ : ∃ b, al[i]? = some b := ⟨_, List.getElem?_eq_getElem (by rw [H1.out.len]; exact hi18)⟩
    have hc := RC.out i b hb
    by_cases hik : i = k
    · subst hik
      obtain rfl : b = a := Option.some.inj (hb.symm.trans HK.out)
      clear hb
      go_wp2_with fail
      refine (is_same b w1).mono ?_
      rintro _ w2 ⟨rfl, rfl⟩
      go_wp2_with fail
      go_ret
      exact ⟨rfl, BL.out⟩
    · have hne : a ≠ b := H1.out.ne HK.out hb (fun e => hik e.symm)
      obtain ⟨ca, ta, ha⟩ := H1.out.row a (List.mem_of_getElem? HK.out)
      obtain ⟨cb, tb, hbb⟩ := H1.out.row b (List.mem_of_getElem? hb)
      have IO := Lib.hid (is_other a b ca cb ta tb w1 hne ha hbb)
      clear hb hne ha hbb
      go_wp2_with fail
      refine IO.out.mono ?_
      rintro _ w2 ⟨rfl, rfl⟩
      go_wp2_with fail
      go_roundw
      case rel => exact ⟨i + 1, by omega, by go_num, by first | trivial | rfl⟩
      case measure => simp [intOf]; omega
end Go.Proofs.YtideopnblhbngaaDoor
