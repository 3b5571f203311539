/- The reference's sum: its inner loops as codes of their own. -/
import Derived.Test.YtdedphhohiioiaaDoorRefRows
namespace Go.Proofs.YtdedphhohiioiaaDoor

def loopOf (id : Nat) : Code → Option Code
  | .block i c => if i = id then some c else loopOf id c
  | .loop c => loopOf id c
  | .scope c => loopOf id c
  | .seq a b => match loopOf id a with
    | some c => some c
    | none => loopOf id b
  | .cond _ a b => match loopOf id a with
    | some c => some c
    | none => loopOf id b
  | _ => none
noncomputable def refLoop (id : Nat) : Code := (Tryd.f28.body.bind (loopOf id)).getD .skip
end Go.Proofs.YtdedphhohiioiaaDoor
