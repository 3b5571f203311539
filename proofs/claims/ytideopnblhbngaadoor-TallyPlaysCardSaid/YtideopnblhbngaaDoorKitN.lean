/- All sentinels as they are laid. -/
import Derived.Test.YtideopnblhbngaaDoorKit
import Derived.Test.YtideopnblhbngaaDoorSents
import Derived.Test.YtideopnblhbngaaDoorNum
namespace Go.Proofs.YtideopnblhbngaaDoor
open Go.ChangeShapes Go.WideShapes Go.ChangeAt Go.RowKit

abbrev laidN : List (String × DataW Unit) := [("quorate/api.ErrRange", Rows.laid_quorate_api_ErrRange), ("quorate/api.ErrShort", Rows.laid_quorate_api_ErrShort), ("quorate/api.ErrLong", Rows.laid_quorate_api_ErrLong), ("quorate/api.ErrForm", Rows.laid_quorate_api_ErrForm), ("quorate/api.ErrSpent", Rows.laid_quorate_api_ErrSpent), ("quorate/api.ErrPower", Rows.laid_quorate_api_ErrPower), ("quorate/api.ErrDisk", Rows.laid_quorate_api_ErrDisk), ("quorate/api.ErrFull", Rows.laid_quorate_api_ErrFull), ("quorate/api.ErrNone", Rows.laid_quorate_api_ErrNone), ("quorate/api.ErrOld", Rows.laid_quorate_api_ErrOld), ("quorate/api.ErrSet", Rows.laid_quorate_api_ErrSet), ("quorate/api.ErrProof", Rows.laid_quorate_api_ErrProof), ("quorate/api.ErrLeader", Rows.laid_quorate_api_ErrLeader), ("quorate/api.ErrRound", Rows.laid_quorate_api_ErrRound), ("quorate/api.ErrUnsafe", Rows.laid_quorate_api_ErrUnsafe), ("quorate/api.ErrParent", Rows.laid_quorate_api_ErrParent), ("quorate/api.ErrTwice", Rows.laid_quorate_api_ErrTwice), ("quorate/api.ErrEpoch", Rows.laid_quorate_api_ErrEpoch)]
def textOf : DataW Unit → List UInt8
  | .iface _ (.ptr (.agg [.lit (.string t)])) => t
  | _ => []
def laidNL : List (String × List UInt8) := laidN.map fun x => (x.1, textOf x.2)
theorem laidN_eq : laidN = sentL "*errors.errorString" laidNL := rfl
theorem laidN_named : laidNL.map (fun x => Tryd.prog.globalNamed x.1) = senG.map some := by kernel_rfl
theorem laidN_types : ∀ g ∈ senG, (Tryd.prog.globals[g]?).map (·.type) = some 26 := by
  intro g hg
  have : senG.all (fun g => decide ((Tryd.prog.globals[g]?).map (·.type) = some 26)) = true := by kernel_rfl
  rw [List.all_eq_true] at this
  exact of_decide_eq_true (this g hg)
set_option maxRecDepth 100000 in
theorem sen_of_laidN {W : World} (h : laidMetH Tryd.prog laidN W) : ∃ al, SenN W al := by
  rw [MakeChecks.laidMetH_plain _ _ _ (by kernel_rfl)] at h
  obtain ⟨ps, hv, hnd, hrows⟩ := h
  rw [laidN_eq] at hv
  obtain ⟨al, h1, h2, h3⟩ := laid_all Tryd.underlying26 Tryd.row157 Tryd.underlying157 Tryd.underlying182 rfl rfl Tryd.underlying9 Tryd.cells182 Tryd.cells9 laidNL senG ps laidN_named laidN_types hv (fun b off hb => (hrows b off hb).2)
  refine ⟨al, h1, h2, List.Pairwise.of_map _ (fun a b hab e => hab (by rw [e])) (h3.nodup hnd), fun a ha => ?_⟩
  exact (hrows a.block a.off (h3.subset (List.mem_map.2 ⟨a, ha, rfl⟩))).1
set_option maxRecDepth 100000 in
theorem door_metN (os : Os) (args : Array Value) : laidMetH Tryd.prog laidN ((World.doorLaid Tryd.prog 351 os).forCall (fun _ _ => 0) ⟨#[], args, []⟩).memory :=
  laidMetH_of_parts3 (fuel := 8) (laidMet_of_run' 8 (by kernel_rfl) (by kernel_rfl)) (by kernel_rfl) (by kernel_rfl)
end Go.Proofs.YtideopnblhbngaaDoor
