/-
  NARROWER THAN 'FOR EVERY INPUT', by the rows' own cells (each row's printed sentence says how): PowersMeet: laid · PowersMore: laid · PowersLeast: laid · PoolSome: laid · PoolOnce: laid · PoolTaken: laid · PowersFinds: laid · PowersSums: laid · PoolPlays: laid · PoolFull: laid · TallyOnce: laid · TallyShares: laid · TallyTurned: laid · TallyPlays: laid.
  DERIVED. THE GIVEN ROWS OF THIS SEAT. 14 by the template 'for every input the law returns true; each argument reads behind the call as it read before'; 0 by the template 'total and deterministic' (their statements: YtideopnblhbngaaDoorTotals.lean).
  GIVEN WITH THE SEED: the statements are not yours to turn. If you find one false, say at which input.
  Laid BY PROGRAM, IN A SANDBOX (cutbox-rows.mjs): the forced cells as the released guide's own fill.sh prints them over the translation b74698dc84bf1ce5… (all of the seat's roots in one cut). By AI agents, Wed Nov 11 2026. No macro, syntax, notation, axiom, sorry.
-/
import Derived.Test.YtideopnblhbngaaDoorChecked
import GoSem.Claim
import GoSem.ClaimJoined
import GoSem.ClaimMapViews
import Derived.JoinedTies
import Derived.KernelRfl
namespace Go.Proofs.YtideopnblhbngaaDoor
/- THE CELL 'sum', in the pinned program and in every row, IS THE sha256 OF THE DUMP (.gsa) THAT YtideopnblhbngaaDoorProg.lean LOADS. Nothing in Lean hashes anything: it is a label: what it is worth is what the hold of that sum in a sandbox is worth. -/
noncomputable def Tryd.pinned : Pinned := { name := "ytideopnblhbngaadoor", sum := "b74698dc84bf1ce59f53b5beaf9dfe9429b333998867900558d6d6d5c048c178", checked := Tryd.checked }
namespace Rows
def none {H : Type} : Left H := { results := [], args := [] }

/- WHAT THE LISTED PACKAGE-LEVEL VARIABLES READ AS WHEN THE CALL BEGINS. Each datum BY PROGRAM (the guide's laid-datum.mjs) off the statement by which the dump's own 'gosem.cut.vars' lays the variable. In a bare row this is a premise. The card (YtideopnblhbngaaDoorCards.lean) ties it to the program's text. -/
def laid_quorate_api_ErrRange {H : Type} : DataW H := .iface "*errors.errorString" (.ptr (.agg [.lit (.string [113, 117, 111, 114, 97, 116, 101, 58, 32, 114, 97, 110, 103, 101])]))
def laid_quorate_api_ErrSet {H : Type} : DataW H := .iface "*errors.errorString" (.ptr (.agg [.lit (.string [113, 117, 111, 114, 97, 116, 101, 58, 32, 115, 101, 116])]))
def laid_quorate_api_ErrTwice {H : Type} : DataW H := .iface "*errors.errorString" (.ptr (.agg [.lit (.string [113, 117, 111, 114, 97, 116, 101, 58, 32, 116, 119, 105, 99, 101])]))
def laid_quorate_api_ErrForm {H : Type} : DataW H := .iface "*errors.errorString" (.ptr (.agg [.lit (.string [113, 117, 111, 114, 97, 116, 101, 58, 32, 102, 111, 114, 109])]))
def laid_quorate_api_ErrFull {H : Type} : DataW H := .iface "*errors.errorString" (.ptr (.agg [.lit (.string [113, 117, 111, 114, 97, 116, 101, 58, 32, 102, 117, 108, 108])]))
def laid_quorate_api_ErrShort {H : Type} : DataW H := .iface "*errors.errorString" (.ptr (.agg [.lit (.string [113, 117, 111, 114, 97, 116, 101, 58, 32, 115, 104, 111, 114, 116])]))
def laid_quorate_api_ErrLong {H : Type} : DataW H := .iface "*errors.errorString" (.ptr (.agg [.lit (.string [113, 117, 111, 114, 97, 116, 101, 58, 32, 108, 111, 110, 103])]))
def laid_quorate_api_ErrSpent {H : Type} : DataW H := .iface "*errors.errorString" (.ptr (.agg [.lit (.string [113, 117, 111, 114, 97, 116, 101, 58, 32, 115, 112, 101, 110, 116])]))
def laid_quorate_api_ErrPower {H : Type} : DataW H := .iface "*errors.errorString" (.ptr (.agg [.lit (.string [113, 117, 111, 114, 97, 116, 101, 58, 32, 112, 111, 119, 101, 114])]))
def laid_quorate_api_ErrDisk {H : Type} : DataW H := .iface "*errors.errorString" (.ptr (.agg [.lit (.string [113, 117, 111, 114, 97, 116, 101, 58, 32, 100, 105, 115, 107])]))
def laid_quorate_api_ErrNone {H : Type} : DataW H := .iface "*errors.errorString" (.ptr (.agg [.lit (.string [113, 117, 111, 114, 97, 116, 101, 58, 32, 110, 111, 110, 101])]))
def laid_quorate_api_ErrOld {H : Type} : DataW H := .iface "*errors.errorString" (.ptr (.agg [.lit (.string [113, 117, 111, 114, 97, 116, 101, 58, 32, 111, 108, 100])]))
def laid_quorate_api_ErrProof {H : Type} : DataW H := .iface "*errors.errorString" (.ptr (.agg [.lit (.string [113, 117, 111, 114, 97, 116, 101, 58, 32, 112, 114, 111, 111, 102])]))
def laid_quorate_api_ErrLeader {H : Type} : DataW H := .iface "*errors.errorString" (.ptr (.agg [.lit (.string [113, 117, 111, 114, 97, 116, 101, 58, 32, 108, 101, 97, 100, 101, 114])]))
def laid_quorate_api_ErrRound {H : Type} : DataW H := .iface "*errors.errorString" (.ptr (.agg [.lit (.string [113, 117, 111, 114, 97, 116, 101, 58, 32, 114, 111, 117, 110, 100])]))
def laid_quorate_api_ErrUnsafe {H : Type} : DataW H := .iface "*errors.errorString" (.ptr (.agg [.lit (.string [113, 117, 111, 114, 97, 116, 101, 58, 32, 117, 110, 115, 97, 102, 101])]))
def laid_quorate_api_ErrParent {H : Type} : DataW H := .iface "*errors.errorString" (.ptr (.agg [.lit (.string [113, 117, 111, 114, 97, 116, 101, 58, 32, 112, 97, 114, 101, 110, 116])]))
def laid_quorate_api_ErrEpoch {H : Type} : DataW H := .iface "*errors.errorString" (.ptr (.agg [.lit (.string [113, 117, 111, 114, 97, 116, 101, 58, 32, 101, 112, 111, 99, 104])]))

/-- 'quoratelaw08.PowersMeet': WHATEVER THE INPUT: true; the input reads as it did. -/
def powersMeetSpec : ChangeSpec := { name := "powersMeet", fn := fun _ => fun
  | [d1, d2, d3] => { results := [.lit (.bool true)], args := [d1, d2, d3] }
  | _ => none }
def powersMeetRow : OpenClaim := { program := "ytideopnblhbngaadoor", sum := "b74698dc84bf1ce59f53b5beaf9dfe9429b333998867900558d6d6d5c048c178", func := "quorate/quoratelaw08.PowersMeet", spec := "powersMeet", unfollowed := true, recurses := true, named := ["quorate/api.ErrSet", "quorate/api.ErrRange", "quorate/api.ErrTwice"], apart := false, laid := [("quorate/api.ErrRange", laid_quorate_api_ErrRange), ("quorate/api.ErrSet", laid_quorate_api_ErrSet), ("quorate/api.ErrTwice", laid_quorate_api_ErrTwice)] }
def PowersMeetSaid : Prop := powersMeetRow.holds Tryd.pinned (OpenSpec.ofChange powersMeetSpec)

/-- ITS FALSE NEIGHBOUR: 'it returns false'. Refute it at one input. -/
def powersMeetWrong : ChangeSpec := { name := "powersMeet", fn := fun _ => fun
  | [d1, d2, d3] => { results := [.lit (.bool false)], args := [d1, d2, d3] }
  | _ => none }
def PowersMeetWrongFalsely : Prop := powersMeetRow.holds Tryd.pinned (OpenSpec.ofChange powersMeetWrong)

/-- 'quoratelaw08.PowersMore': WHATEVER THE INPUT: true; the input reads as it did. -/
def powersMoreSpec : ChangeSpec := { name := "powersMore", fn := fun _ => fun
  | [d1, d2, d3] => { results := [.lit (.bool true)], args := [d1, d2, d3] }
  | _ => none }
def powersMoreRow : OpenClaim := { program := "ytideopnblhbngaadoor", sum := "b74698dc84bf1ce59f53b5beaf9dfe9429b333998867900558d6d6d5c048c178", func := "quorate/quoratelaw08.PowersMore", spec := "powersMore", unfollowed := true, recurses := true, named := ["quorate/api.ErrSet", "quorate/api.ErrRange", "quorate/api.ErrTwice"], apart := false, laid := [("quorate/api.ErrRange", laid_quorate_api_ErrRange), ("quorate/api.ErrSet", laid_quorate_api_ErrSet), ("quorate/api.ErrTwice", laid_quorate_api_ErrTwice)] }
def PowersMoreSaid : Prop := powersMoreRow.holds Tryd.pinned (OpenSpec.ofChange powersMoreSpec)

/-- ITS FALSE NEIGHBOUR: 'it returns false'. Refute it at one input. -/
def powersMoreWrong : ChangeSpec := { name := "powersMore", fn := fun _ => fun
  | [d1, d2, d3] => { results := [.lit (.bool false)], args := [d1, d2, d3] }
  | _ => none }
def PowersMoreWrongFalsely : Prop := powersMoreRow.holds Tryd.pinned (OpenSpec.ofChange powersMoreWrong)

/-- 'quoratelaw08.PowersLeast': WHATEVER THE INPUT: true; the input reads as it did. -/
def powersLeastSpec : ChangeSpec := { name := "powersLeast", fn := fun _ => fun
  | [d1, d2, d3] => { results := [.lit (.bool true)], args := [d1, d2, d3] }
  | _ => none }
def powersLeastRow : OpenClaim := { program := "ytideopnblhbngaadoor", sum := "b74698dc84bf1ce59f53b5beaf9dfe9429b333998867900558d6d6d5c048c178", func := "quorate/quoratelaw08.PowersLeast", spec := "powersLeast", unfollowed := true, recurses := true, named := ["quorate/api.ErrSet", "quorate/api.ErrRange", "quorate/api.ErrTwice"], apart := false, laid := [("quorate/api.ErrRange", laid_quorate_api_ErrRange), ("quorate/api.ErrSet", laid_quorate_api_ErrSet), ("quorate/api.ErrTwice", laid_quorate_api_ErrTwice)] }
def PowersLeastSaid : Prop := powersLeastRow.holds Tryd.pinned (OpenSpec.ofChange powersLeastSpec)

/-- ITS FALSE NEIGHBOUR: 'it returns false'. Refute it at one input. -/
def powersLeastWrong : ChangeSpec := { name := "powersLeast", fn := fun _ => fun
  | [d1, d2, d3] => { results := [.lit (.bool false)], args := [d1, d2, d3] }
  | _ => none }
def PowersLeastWrongFalsely : Prop := powersLeastRow.holds Tryd.pinned (OpenSpec.ofChange powersLeastWrong)

/-- 'quoratelaw17.PoolSome': WHATEVER THE INPUT: true; the input reads as it did. -/
def poolSomeSpec : ChangeSpec := { name := "poolSome", fn := fun _ => fun
  | [d1, d2] => { results := [.lit (.bool true)], args := [d1, d2] }
  | _ => none }
def poolSomeRow : OpenClaim := { program := "ytideopnblhbngaadoor", sum := "b74698dc84bf1ce59f53b5beaf9dfe9429b333998867900558d6d6d5c048c178", func := "quorate/quoratelaw17.PoolSome", spec := "poolSome", unfollowed := true, recurses := true, named := ["quorate/api.ErrForm", "quorate/api.ErrTwice", "quorate/api.ErrFull"], apart := false, laid := [("quorate/api.ErrForm", laid_quorate_api_ErrForm), ("quorate/api.ErrFull", laid_quorate_api_ErrFull), ("quorate/api.ErrTwice", laid_quorate_api_ErrTwice)] }
def PoolSomeSaid : Prop := poolSomeRow.holds Tryd.pinned (OpenSpec.ofChange poolSomeSpec)

/-- ITS FALSE NEIGHBOUR: 'it returns false'. Refute it at one input. -/
def poolSomeWrong : ChangeSpec := { name := "poolSome", fn := fun _ => fun
  | [d1, d2] => { results := [.lit (.bool false)], args := [d1, d2] }
  | _ => none }
def PoolSomeWrongFalsely : Prop := poolSomeRow.holds Tryd.pinned (OpenSpec.ofChange poolSomeWrong)

/-- 'quoratelaw17.PoolOnce': WHATEVER THE INPUT: true; the input reads as it did. -/
def poolOnceSpec : ChangeSpec := { name := "poolOnce", fn := fun _ => fun
  | [d1, d2] => { results := [.lit (.bool true)], args := [d1, d2] }
  | _ => none }
def poolOnceRow : OpenClaim := { program := "ytideopnblhbngaadoor", sum := "b74698dc84bf1ce59f53b5beaf9dfe9429b333998867900558d6d6d5c048c178", func := "quorate/quoratelaw17.PoolOnce", spec := "poolOnce", unfollowed := true, recurses := true, named := ["quorate/api.ErrForm", "quorate/api.ErrTwice", "quorate/api.ErrFull"], apart := false, laid := [("quorate/api.ErrForm", laid_quorate_api_ErrForm), ("quorate/api.ErrFull", laid_quorate_api_ErrFull), ("quorate/api.ErrTwice", laid_quorate_api_ErrTwice)] }
def PoolOnceSaid : Prop := poolOnceRow.holds Tryd.pinned (OpenSpec.ofChange poolOnceSpec)

/-- ITS FALSE NEIGHBOUR: 'it returns false'. Refute it at one input. -/
def poolOnceWrong : ChangeSpec := { name := "poolOnce", fn := fun _ => fun
  | [d1, d2] => { results := [.lit (.bool false)], args := [d1, d2] }
  | _ => none }
def PoolOnceWrongFalsely : Prop := poolOnceRow.holds Tryd.pinned (OpenSpec.ofChange poolOnceWrong)

/-- 'quoratelaw17.PoolTaken': WHATEVER THE INPUT: true; the input reads as it did. -/
def poolTakenSpec : ChangeSpec := { name := "poolTaken", fn := fun _ => fun
  | [d1, d2] => { results := [.lit (.bool true)], args := [d1, d2] }
  | _ => none }
def poolTakenRow : OpenClaim := { program := "ytideopnblhbngaadoor", sum := "b74698dc84bf1ce59f53b5beaf9dfe9429b333998867900558d6d6d5c048c178", func := "quorate/quoratelaw17.PoolTaken", spec := "poolTaken", unfollowed := true, recurses := true, named := ["quorate/api.ErrForm", "quorate/api.ErrTwice", "quorate/api.ErrFull"], apart := false, laid := [("quorate/api.ErrForm", laid_quorate_api_ErrForm), ("quorate/api.ErrFull", laid_quorate_api_ErrFull), ("quorate/api.ErrTwice", laid_quorate_api_ErrTwice)] }
def PoolTakenSaid : Prop := poolTakenRow.holds Tryd.pinned (OpenSpec.ofChange poolTakenSpec)

/-- ITS FALSE NEIGHBOUR: 'it returns false'. Refute it at one input. -/
def poolTakenWrong : ChangeSpec := { name := "poolTaken", fn := fun _ => fun
  | [d1, d2] => { results := [.lit (.bool false)], args := [d1, d2] }
  | _ => none }
def PoolTakenWrongFalsely : Prop := poolTakenRow.holds Tryd.pinned (OpenSpec.ofChange poolTakenWrong)

/-- 'quoratelaw08.PowersFinds': WHATEVER THE INPUT: true; the input reads as it did. -/
def powersFindsSpec : ChangeSpec := { name := "powersFinds", fn := fun _ => fun
  | [d1, d2, d3] => { results := [.lit (.bool true)], args := [d1, d2, d3] }
  | _ => none }
def powersFindsRow : OpenClaim := { program := "ytideopnblhbngaadoor", sum := "b74698dc84bf1ce59f53b5beaf9dfe9429b333998867900558d6d6d5c048c178", func := "quorate/quoratelaw08.PowersFinds", spec := "powersFinds", unfollowed := true, recurses := true, named := ["quorate/api.ErrSet", "quorate/api.ErrRange", "quorate/api.ErrTwice"], apart := false, laid := [("quorate/api.ErrRange", laid_quorate_api_ErrRange), ("quorate/api.ErrSet", laid_quorate_api_ErrSet), ("quorate/api.ErrTwice", laid_quorate_api_ErrTwice)] }
def PowersFindsSaid : Prop := powersFindsRow.holds Tryd.pinned (OpenSpec.ofChange powersFindsSpec)

/-- ITS FALSE NEIGHBOUR: 'it returns false'. Refute it at one input. -/
def powersFindsWrong : ChangeSpec := { name := "powersFinds", fn := fun _ => fun
  | [d1, d2, d3] => { results := [.lit (.bool false)], args := [d1, d2, d3] }
  | _ => none }
def PowersFindsWrongFalsely : Prop := powersFindsRow.holds Tryd.pinned (OpenSpec.ofChange powersFindsWrong)

/-- 'quoratelaw08.PowersSums': WHATEVER THE INPUT: true; the input reads as it did. -/
def powersSumsSpec : ChangeSpec := { name := "powersSums", fn := fun _ => fun
  | [d1, d2] => { results := [.lit (.bool true)], args := [d1, d2] }
  | _ => none }
def powersSumsRow : OpenClaim := { program := "ytideopnblhbngaadoor", sum := "b74698dc84bf1ce59f53b5beaf9dfe9429b333998867900558d6d6d5c048c178", func := "quorate/quoratelaw08.PowersSums", spec := "powersSums", inPlace := ["internal/reflectlite.TypeOf"], unfollowed := true, recurses := true, named := ["quorate/api.ErrSet", "quorate/api.ErrRange", "quorate/api.ErrTwice", "quorate/api.ErrShort", "quorate/api.ErrLong", "quorate/api.ErrForm", "quorate/api.ErrSpent", "quorate/api.ErrPower", "quorate/api.ErrDisk", "quorate/api.ErrFull", "quorate/api.ErrNone", "quorate/api.ErrOld", "quorate/api.ErrProof", "quorate/api.ErrLeader", "quorate/api.ErrRound", "quorate/api.ErrUnsafe", "quorate/api.ErrParent", "quorate/api.ErrEpoch"], apart := false, laid := [("quorate/api.ErrRange", laid_quorate_api_ErrRange), ("quorate/api.ErrShort", laid_quorate_api_ErrShort), ("quorate/api.ErrLong", laid_quorate_api_ErrLong), ("quorate/api.ErrForm", laid_quorate_api_ErrForm), ("quorate/api.ErrSpent", laid_quorate_api_ErrSpent), ("quorate/api.ErrPower", laid_quorate_api_ErrPower), ("quorate/api.ErrDisk", laid_quorate_api_ErrDisk), ("quorate/api.ErrFull", laid_quorate_api_ErrFull), ("quorate/api.ErrNone", laid_quorate_api_ErrNone), ("quorate/api.ErrOld", laid_quorate_api_ErrOld), ("quorate/api.ErrSet", laid_quorate_api_ErrSet), ("quorate/api.ErrProof", laid_quorate_api_ErrProof), ("quorate/api.ErrLeader", laid_quorate_api_ErrLeader), ("quorate/api.ErrRound", laid_quorate_api_ErrRound), ("quorate/api.ErrUnsafe", laid_quorate_api_ErrUnsafe), ("quorate/api.ErrParent", laid_quorate_api_ErrParent), ("quorate/api.ErrTwice", laid_quorate_api_ErrTwice), ("quorate/api.ErrEpoch", laid_quorate_api_ErrEpoch)] }
def PowersSumsSaid : Prop := powersSumsRow.holds Tryd.pinned (OpenSpec.ofChange powersSumsSpec)

/-- ITS FALSE NEIGHBOUR: 'it returns false'. Refute it at one input. -/
def powersSumsWrong : ChangeSpec := { name := "powersSums", fn := fun _ => fun
  | [d1, d2] => { results := [.lit (.bool false)], args := [d1, d2] }
  | _ => none }
def PowersSumsWrongFalsely : Prop := powersSumsRow.holds Tryd.pinned (OpenSpec.ofChange powersSumsWrong)

/-- 'quoratelaw17.PoolPlays': WHATEVER THE INPUT: true; the input reads as it did. -/
def poolPlaysSpec : ChangeSpec := { name := "poolPlays", fn := fun _ => fun
  | [d] => { results := [.lit (.bool true)], args := [d] }
  | _ => none }
def poolPlaysRow : OpenClaim := { program := "ytideopnblhbngaadoor", sum := "b74698dc84bf1ce59f53b5beaf9dfe9429b333998867900558d6d6d5c048c178", func := "quorate/quoratelaw17.PoolPlays", spec := "poolPlays", inPlace := ["internal/reflectlite.TypeOf"], unfollowed := true, recurses := true, named := ["quorate/api.ErrForm", "quorate/api.ErrTwice", "quorate/api.ErrFull", "quorate/api.ErrRange", "quorate/api.ErrShort", "quorate/api.ErrLong", "quorate/api.ErrSpent", "quorate/api.ErrPower", "quorate/api.ErrDisk", "quorate/api.ErrNone", "quorate/api.ErrOld", "quorate/api.ErrSet", "quorate/api.ErrProof", "quorate/api.ErrLeader", "quorate/api.ErrRound", "quorate/api.ErrUnsafe", "quorate/api.ErrParent", "quorate/api.ErrEpoch"], apart := false, laid := [("quorate/api.ErrRange", laid_quorate_api_ErrRange), ("quorate/api.ErrShort", laid_quorate_api_ErrShort), ("quorate/api.ErrLong", laid_quorate_api_ErrLong), ("quorate/api.ErrForm", laid_quorate_api_ErrForm), ("quorate/api.ErrSpent", laid_quorate_api_ErrSpent), ("quorate/api.ErrPower", laid_quorate_api_ErrPower), ("quorate/api.ErrDisk", laid_quorate_api_ErrDisk), ("quorate/api.ErrFull", laid_quorate_api_ErrFull), ("quorate/api.ErrNone", laid_quorate_api_ErrNone), ("quorate/api.ErrOld", laid_quorate_api_ErrOld), ("quorate/api.ErrSet", laid_quorate_api_ErrSet), ("quorate/api.ErrProof", laid_quorate_api_ErrProof), ("quorate/api.ErrLeader", laid_quorate_api_ErrLeader), ("quorate/api.ErrRound", laid_quorate_api_ErrRound), ("quorate/api.ErrUnsafe", laid_quorate_api_ErrUnsafe), ("quorate/api.ErrParent", laid_quorate_api_ErrParent), ("quorate/api.ErrTwice", laid_quorate_api_ErrTwice), ("quorate/api.ErrEpoch", laid_quorate_api_ErrEpoch)] }
def PoolPlaysSaid : Prop := poolPlaysRow.holds Tryd.pinned (OpenSpec.ofChange poolPlaysSpec)

/-- ITS FALSE NEIGHBOUR: 'it returns false'. Refute it at one input. -/
def poolPlaysWrong : ChangeSpec := { name := "poolPlays", fn := fun _ => fun
  | [d] => { results := [.lit (.bool false)], args := [d] }
  | _ => none }
def PoolPlaysWrongFalsely : Prop := poolPlaysRow.holds Tryd.pinned (OpenSpec.ofChange poolPlaysWrong)

/-- 'quoratelaw17.PoolFull': WHATEVER THE INPUT: true; the input reads as it did. -/
def poolFullSpec : ChangeSpec := { name := "poolFull", fn := fun _ => fun
  | [d1, d2] => { results := [.lit (.bool true)], args := [d1, d2] }
  | _ => none }
def poolFullRow : OpenClaim := { program := "ytideopnblhbngaadoor", sum := "b74698dc84bf1ce59f53b5beaf9dfe9429b333998867900558d6d6d5c048c178", func := "quorate/quoratelaw17.PoolFull", spec := "poolFull", inPlace := ["internal/reflectlite.TypeOf"], unfollowed := true, recurses := true, named := ["quorate/api.ErrForm", "quorate/api.ErrTwice", "quorate/api.ErrFull", "quorate/api.ErrRange", "quorate/api.ErrShort", "quorate/api.ErrLong", "quorate/api.ErrSpent", "quorate/api.ErrPower", "quorate/api.ErrDisk", "quorate/api.ErrNone", "quorate/api.ErrOld", "quorate/api.ErrSet", "quorate/api.ErrProof", "quorate/api.ErrLeader", "quorate/api.ErrRound", "quorate/api.ErrUnsafe", "quorate/api.ErrParent", "quorate/api.ErrEpoch"], apart := false, laid := [("quorate/api.ErrRange", laid_quorate_api_ErrRange), ("quorate/api.ErrShort", laid_quorate_api_ErrShort), ("quorate/api.ErrLong", laid_quorate_api_ErrLong), ("quorate/api.ErrForm", laid_quorate_api_ErrForm), ("quorate/api.ErrSpent", laid_quorate_api_ErrSpent), ("quorate/api.ErrPower", laid_quorate_api_ErrPower), ("quorate/api.ErrDisk", laid_quorate_api_ErrDisk), ("quorate/api.ErrFull", laid_quorate_api_ErrFull), ("quorate/api.ErrNone", laid_quorate_api_ErrNone), ("quorate/api.ErrOld", laid_quorate_api_ErrOld), ("quorate/api.ErrSet", laid_quorate_api_ErrSet), ("quorate/api.ErrProof", laid_quorate_api_ErrProof), ("quorate/api.ErrLeader", laid_quorate_api_ErrLeader), ("quorate/api.ErrRound", laid_quorate_api_ErrRound), ("quorate/api.ErrUnsafe", laid_quorate_api_ErrUnsafe), ("quorate/api.ErrParent", laid_quorate_api_ErrParent), ("quorate/api.ErrTwice", laid_quorate_api_ErrTwice), ("quorate/api.ErrEpoch", laid_quorate_api_ErrEpoch)] }
def PoolFullSaid : Prop := poolFullRow.holds Tryd.pinned (OpenSpec.ofChange poolFullSpec)

/-- ITS FALSE NEIGHBOUR: 'it returns false'. Refute it at one input. -/
def poolFullWrong : ChangeSpec := { name := "poolFull", fn := fun _ => fun
  | [d1, d2] => { results := [.lit (.bool false)], args := [d1, d2] }
  | _ => none }
def PoolFullWrongFalsely : Prop := poolFullRow.holds Tryd.pinned (OpenSpec.ofChange poolFullWrong)

/-- 'quoratelaw10.TallyOnce': WHATEVER THE INPUT: true; the input reads as it did. -/
def tallyOnceSpec : ChangeSpec := { name := "tallyOnce", fn := fun _ => fun
  | [d1, d2] => { results := [.lit (.bool true)], args := [d1, d2] }
  | _ => none }
def tallyOnceRow : OpenClaim := { program := "ytideopnblhbngaadoor", sum := "b74698dc84bf1ce59f53b5beaf9dfe9429b333998867900558d6d6d5c048c178", func := "quorate/quoratelaw10.TallyOnce", spec := "tallyOnce", unfollowed := true, recurses := true, named := ["quorate/api.ErrSet", "quorate/api.ErrRange", "quorate/api.ErrTwice"], apart := false, laid := [("quorate/api.ErrRange", laid_quorate_api_ErrRange), ("quorate/api.ErrSet", laid_quorate_api_ErrSet), ("quorate/api.ErrTwice", laid_quorate_api_ErrTwice)] }
def TallyOnceSaid : Prop := tallyOnceRow.holds Tryd.pinned (OpenSpec.ofChange tallyOnceSpec)

/-- ITS FALSE NEIGHBOUR: 'it returns false'. Refute it at one input. -/
def tallyOnceWrong : ChangeSpec := { name := "tallyOnce", fn := fun _ => fun
  | [d1, d2] => { results := [.lit (.bool false)], args := [d1, d2] }
  | _ => none }
def TallyOnceWrongFalsely : Prop := tallyOnceRow.holds Tryd.pinned (OpenSpec.ofChange tallyOnceWrong)

/-- 'quoratelaw10.TallyShares': WHATEVER THE INPUT: true; the input reads as it did. -/
def tallySharesSpec : ChangeSpec := { name := "tallyShares", fn := fun _ => fun
  | [d1, d2, d3] => { results := [.lit (.bool true)], args := [d1, d2, d3] }
  | _ => none }
def tallySharesRow : OpenClaim := { program := "ytideopnblhbngaadoor", sum := "b74698dc84bf1ce59f53b5beaf9dfe9429b333998867900558d6d6d5c048c178", func := "quorate/quoratelaw10.TallyShares", spec := "tallyShares", unfollowed := true, recurses := true, named := ["quorate/api.ErrSet", "quorate/api.ErrRange", "quorate/api.ErrTwice"], apart := false, laid := [("quorate/api.ErrRange", laid_quorate_api_ErrRange), ("quorate/api.ErrSet", laid_quorate_api_ErrSet), ("quorate/api.ErrTwice", laid_quorate_api_ErrTwice)] }
def TallySharesSaid : Prop := tallySharesRow.holds Tryd.pinned (OpenSpec.ofChange tallySharesSpec)

/-- ITS FALSE NEIGHBOUR: 'it returns false'. Refute it at one input. -/
def tallySharesWrong : ChangeSpec := { name := "tallyShares", fn := fun _ => fun
  | [d1, d2, d3] => { results := [.lit (.bool false)], args := [d1, d2, d3] }
  | _ => none }
def TallySharesWrongFalsely : Prop := tallySharesRow.holds Tryd.pinned (OpenSpec.ofChange tallySharesWrong)

/-- 'quoratelaw10.TallyTurned': WHATEVER THE INPUT: true; the input reads as it did. -/
def tallyTurnedSpec : ChangeSpec := { name := "tallyTurned", fn := fun _ => fun
  | [d1, d2, d3] => { results := [.lit (.bool true)], args := [d1, d2, d3] }
  | _ => none }
def tallyTurnedRow : OpenClaim := { program := "ytideopnblhbngaadoor", sum := "b74698dc84bf1ce59f53b5beaf9dfe9429b333998867900558d6d6d5c048c178", func := "quorate/quoratelaw10.TallyTurned", spec := "tallyTurned", unfollowed := true, recurses := true, named := ["quorate/api.ErrSet", "quorate/api.ErrRange", "quorate/api.ErrTwice"], apart := false, laid := [("quorate/api.ErrRange", laid_quorate_api_ErrRange), ("quorate/api.ErrSet", laid_quorate_api_ErrSet), ("quorate/api.ErrTwice", laid_quorate_api_ErrTwice)] }
def TallyTurnedSaid : Prop := tallyTurnedRow.holds Tryd.pinned (OpenSpec.ofChange tallyTurnedSpec)

/-- ITS FALSE NEIGHBOUR: 'it returns false'. Refute it at one input. -/
def tallyTurnedWrong : ChangeSpec := { name := "tallyTurned", fn := fun _ => fun
  | [d1, d2, d3] => { results := [.lit (.bool false)], args := [d1, d2, d3] }
  | _ => none }
def TallyTurnedWrongFalsely : Prop := tallyTurnedRow.holds Tryd.pinned (OpenSpec.ofChange tallyTurnedWrong)

/-- 'quoratelaw10.TallyPlays': WHATEVER THE INPUT: true; the input reads as it did. -/
def tallyPlaysSpec : ChangeSpec := { name := "tallyPlays", fn := fun _ => fun
  | [d1, d2, d3] => { results := [.lit (.bool true)], args := [d1, d2, d3] }
  | _ => none }
def tallyPlaysRow : OpenClaim := { program := "ytideopnblhbngaadoor", sum := "b74698dc84bf1ce59f53b5beaf9dfe9429b333998867900558d6d6d5c048c178", func := "quorate/quoratelaw10.TallyPlays", spec := "tallyPlays", inPlace := ["internal/reflectlite.TypeOf"], unfollowed := true, recurses := true, named := ["quorate/api.ErrSet", "quorate/api.ErrRange", "quorate/api.ErrTwice", "quorate/api.ErrShort", "quorate/api.ErrLong", "quorate/api.ErrForm", "quorate/api.ErrSpent", "quorate/api.ErrPower", "quorate/api.ErrDisk", "quorate/api.ErrFull", "quorate/api.ErrNone", "quorate/api.ErrOld", "quorate/api.ErrProof", "quorate/api.ErrLeader", "quorate/api.ErrRound", "quorate/api.ErrUnsafe", "quorate/api.ErrParent", "quorate/api.ErrEpoch"], apart := false, laid := [("quorate/api.ErrRange", laid_quorate_api_ErrRange), ("quorate/api.ErrShort", laid_quorate_api_ErrShort), ("quorate/api.ErrLong", laid_quorate_api_ErrLong), ("quorate/api.ErrForm", laid_quorate_api_ErrForm), ("quorate/api.ErrSpent", laid_quorate_api_ErrSpent), ("quorate/api.ErrPower", laid_quorate_api_ErrPower), ("quorate/api.ErrDisk", laid_quorate_api_ErrDisk), ("quorate/api.ErrFull", laid_quorate_api_ErrFull), ("quorate/api.ErrNone", laid_quorate_api_ErrNone), ("quorate/api.ErrOld", laid_quorate_api_ErrOld), ("quorate/api.ErrSet", laid_quorate_api_ErrSet), ("quorate/api.ErrProof", laid_quorate_api_ErrProof), ("quorate/api.ErrLeader", laid_quorate_api_ErrLeader), ("quorate/api.ErrRound", laid_quorate_api_ErrRound), ("quorate/api.ErrUnsafe", laid_quorate_api_ErrUnsafe), ("quorate/api.ErrParent", laid_quorate_api_ErrParent), ("quorate/api.ErrTwice", laid_quorate_api_ErrTwice), ("quorate/api.ErrEpoch", laid_quorate_api_ErrEpoch)] }
def TallyPlaysSaid : Prop := tallyPlaysRow.holds Tryd.pinned (OpenSpec.ofChange tallyPlaysSpec)

/-- ITS FALSE NEIGHBOUR: 'it returns false'. Refute it at one input. -/
def tallyPlaysWrong : ChangeSpec := { name := "tallyPlays", fn := fun _ => fun
  | [d1, d2, d3] => { results := [.lit (.bool false)], args := [d1, d2, d3] }
  | _ => none }
def TallyPlaysWrongFalsely : Prop := tallyPlaysRow.holds Tryd.pinned (OpenSpec.ofChange tallyPlaysWrong)

/- THE SECOND FORM. 'bulk': how many values and letters a reading holds, each counted each time it is reached (what is shared counts as often as it is met; a slice's spare places count too). A statement '..UptoSaid' is the law's where the arguments, and the package variables that the reading takes, are together of bulk at most 1048576: NARROWER than '..Said'. Prove '..Said' where nothing that the law and all that it calls make is longer than what came in: it says more and counts as full. Else prove '..UptoSaid'. A law counts once. -/
mutual
def uptoBulk {H : Type} : DataW H → Nat
  | .lit (.string bytes) => bytes.length + 1
  | .lit _ => 1
  | .nil => 1
  | .ptr d => uptoBulk d + 1
  | .slice elems spare => uptoBulkAll elems + uptoBulkAll spare + 1
  | .agg parts => uptoBulkAll parts + 1
  | .iface _ d => uptoBulk d + 1
  | .map entries => uptoBulkEntries entries + 1
  | .held _ => 1
def uptoBulkAll {H : Type} : List (DataW H) → Nat
  | [] => 0
  | d :: r => uptoBulk d + uptoBulkAll r
def uptoBulkEntries {H : Type} : List (Lit × DataW H) → Nat
  | [] => 0
  | x :: r => uptoBulkEntry x + uptoBulkEntries r
def uptoBulkEntry {H : Type} : Lit × DataW H → Nat
  | (.string bytes, d) => bytes.length + uptoBulk d + 1
  | (_, d) => uptoBulk d + 1
 end
def uptoSmall : (H : Type) → List (DataW H) → Bool := fun _ ds => decide (uptoBulkAll ds ≤ 1048576)
def OpenSpec.upto (s : _root_.Go.ChangeSpec) : _root_.Go.OpenSpec := { _root_.Go.OpenSpec.ofChange s with cond := some uptoSmall }

/-- 'quoratelaw08.PowersMeet', WHERE WHAT IT READS IS OF BULK AT MOST 1048576: true; the input reads as it did. -/
def powersMeetUptoRow : OpenClaim := { program := "ytideopnblhbngaadoor", sum := "b74698dc84bf1ce59f53b5beaf9dfe9429b333998867900558d6d6d5c048c178", func := "quorate/quoratelaw08.PowersMeet", spec := "powersMeet", unfollowed := true, recurses := true, named := ["quorate/api.ErrSet", "quorate/api.ErrRange", "quorate/api.ErrTwice"], apart := false, laid := [("quorate/api.ErrRange", laid_quorate_api_ErrRange), ("quorate/api.ErrSet", laid_quorate_api_ErrSet), ("quorate/api.ErrTwice", laid_quorate_api_ErrTwice)], narrowed := true }
def PowersMeetUptoSaid : Prop := powersMeetUptoRow.holds Tryd.pinned (OpenSpec.upto powersMeetSpec)

/-- 'quoratelaw08.PowersMore', WHERE WHAT IT READS IS OF BULK AT MOST 1048576: true; the input reads as it did. -/
def powersMoreUptoRow : OpenClaim := { program := "ytideopnblhbngaadoor", sum := "b74698dc84bf1ce59f53b5beaf9dfe9429b333998867900558d6d6d5c048c178", func := "quorate/quoratelaw08.PowersMore", spec := "powersMore", unfollowed := true, recurses := true, named := ["quorate/api.ErrSet", "quorate/api.ErrRange", "quorate/api.ErrTwice"], apart := false, laid := [("quorate/api.ErrRange", laid_quorate_api_ErrRange), ("quorate/api.ErrSet", laid_quorate_api_ErrSet), ("quorate/api.ErrTwice", laid_quorate_api_ErrTwice)], narrowed := true }
def PowersMoreUptoSaid : Prop := powersMoreUptoRow.holds Tryd.pinned (OpenSpec.upto powersMoreSpec)

/-- 'quoratelaw08.PowersLeast', WHERE WHAT IT READS IS OF BULK AT MOST 1048576: true; the input reads as it did. -/
def powersLeastUptoRow : OpenClaim := { program := "ytideopnblhbngaadoor", sum := "b74698dc84bf1ce59f53b5beaf9dfe9429b333998867900558d6d6d5c048c178", func := "quorate/quoratelaw08.PowersLeast", spec := "powersLeast", unfollowed := true, recurses := true, named := ["quorate/api.ErrSet", "quorate/api.ErrRange", "quorate/api.ErrTwice"], apart := false, laid := [("quorate/api.ErrRange", laid_quorate_api_ErrRange), ("quorate/api.ErrSet", laid_quorate_api_ErrSet), ("quorate/api.ErrTwice", laid_quorate_api_ErrTwice)], narrowed := true }
def PowersLeastUptoSaid : Prop := powersLeastUptoRow.holds Tryd.pinned (OpenSpec.upto powersLeastSpec)

/-- 'quoratelaw17.PoolSome', WHERE WHAT IT READS IS OF BULK AT MOST 1048576: true; the input reads as it did. -/
def poolSomeUptoRow : OpenClaim := { program := "ytideopnblhbngaadoor", sum := "b74698dc84bf1ce59f53b5beaf9dfe9429b333998867900558d6d6d5c048c178", func := "quorate/quoratelaw17.PoolSome", spec := "poolSome", unfollowed := true, recurses := true, named := ["quorate/api.ErrForm", "quorate/api.ErrTwice", "quorate/api.ErrFull"], apart := false, laid := [("quorate/api.ErrForm", laid_quorate_api_ErrForm), ("quorate/api.ErrFull", laid_quorate_api_ErrFull), ("quorate/api.ErrTwice", laid_quorate_api_ErrTwice)], narrowed := true }
def PoolSomeUptoSaid : Prop := poolSomeUptoRow.holds Tryd.pinned (OpenSpec.upto poolSomeSpec)

/-- 'quoratelaw17.PoolOnce', WHERE WHAT IT READS IS OF BULK AT MOST 1048576: true; the input reads as it did. -/
def poolOnceUptoRow : OpenClaim := { program := "ytideopnblhbngaadoor", sum := "b74698dc84bf1ce59f53b5beaf9dfe9429b333998867900558d6d6d5c048c178", func := "quorate/quoratelaw17.PoolOnce", spec := "poolOnce", unfollowed := true, recurses := true, named := ["quorate/api.ErrForm", "quorate/api.ErrTwice", "quorate/api.ErrFull"], apart := false, laid := [("quorate/api.ErrForm", laid_quorate_api_ErrForm), ("quorate/api.ErrFull", laid_quorate_api_ErrFull), ("quorate/api.ErrTwice", laid_quorate_api_ErrTwice)], narrowed := true }
def PoolOnceUptoSaid : Prop := poolOnceUptoRow.holds Tryd.pinned (OpenSpec.upto poolOnceSpec)

/-- 'quoratelaw17.PoolTaken', WHERE WHAT IT READS IS OF BULK AT MOST 1048576: true; the input reads as it did. -/
def poolTakenUptoRow : OpenClaim := { program := "ytideopnblhbngaadoor", sum := "b74698dc84bf1ce59f53b5beaf9dfe9429b333998867900558d6d6d5c048c178", func := "quorate/quoratelaw17.PoolTaken", spec := "poolTaken", unfollowed := true, recurses := true, named := ["quorate/api.ErrForm", "quorate/api.ErrTwice", "quorate/api.ErrFull"], apart := false, laid := [("quorate/api.ErrForm", laid_quorate_api_ErrForm), ("quorate/api.ErrFull", laid_quorate_api_ErrFull), ("quorate/api.ErrTwice", laid_quorate_api_ErrTwice)], narrowed := true }
def PoolTakenUptoSaid : Prop := poolTakenUptoRow.holds Tryd.pinned (OpenSpec.upto poolTakenSpec)

/-- 'quoratelaw08.PowersFinds', WHERE WHAT IT READS IS OF BULK AT MOST 1048576: true; the input reads as it did. -/
def powersFindsUptoRow : OpenClaim := { program := "ytideopnblhbngaadoor", sum := "b74698dc84bf1ce59f53b5beaf9dfe9429b333998867900558d6d6d5c048c178", func := "quorate/quoratelaw08.PowersFinds", spec := "powersFinds", unfollowed := true, recurses := true, named := ["quorate/api.ErrSet", "quorate/api.ErrRange", "quorate/api.ErrTwice"], apart := false, laid := [("quorate/api.ErrRange", laid_quorate_api_ErrRange), ("quorate/api.ErrSet", laid_quorate_api_ErrSet), ("quorate/api.ErrTwice", laid_quorate_api_ErrTwice)], narrowed := true }
def PowersFindsUptoSaid : Prop := powersFindsUptoRow.holds Tryd.pinned (OpenSpec.upto powersFindsSpec)

/-- 'quoratelaw08.PowersSums', WHERE WHAT IT READS IS OF BULK AT MOST 1048576: true; the input reads as it did. -/
def powersSumsUptoRow : OpenClaim := { program := "ytideopnblhbngaadoor", sum := "b74698dc84bf1ce59f53b5beaf9dfe9429b333998867900558d6d6d5c048c178", func := "quorate/quoratelaw08.PowersSums", spec := "powersSums", inPlace := ["internal/reflectlite.TypeOf"], unfollowed := true, recurses := true, named := ["quorate/api.ErrSet", "quorate/api.ErrRange", "quorate/api.ErrTwice", "quorate/api.ErrShort", "quorate/api.ErrLong", "quorate/api.ErrForm", "quorate/api.ErrSpent", "quorate/api.ErrPower", "quorate/api.ErrDisk", "quorate/api.ErrFull", "quorate/api.ErrNone", "quorate/api.ErrOld", "quorate/api.ErrProof", "quorate/api.ErrLeader", "quorate/api.ErrRound", "quorate/api.ErrUnsafe", "quorate/api.ErrParent", "quorate/api.ErrEpoch"], apart := false, laid := [("quorate/api.ErrRange", laid_quorate_api_ErrRange), ("quorate/api.ErrShort", laid_quorate_api_ErrShort), ("quorate/api.ErrLong", laid_quorate_api_ErrLong), ("quorate/api.ErrForm", laid_quorate_api_ErrForm), ("quorate/api.ErrSpent", laid_quorate_api_ErrSpent), ("quorate/api.ErrPower", laid_quorate_api_ErrPower), ("quorate/api.ErrDisk", laid_quorate_api_ErrDisk), ("quorate/api.ErrFull", laid_quorate_api_ErrFull), ("quorate/api.ErrNone", laid_quorate_api_ErrNone), ("quorate/api.ErrOld", laid_quorate_api_ErrOld), ("quorate/api.ErrSet", laid_quorate_api_ErrSet), ("quorate/api.ErrProof", laid_quorate_api_ErrProof), ("quorate/api.ErrLeader", laid_quorate_api_ErrLeader), ("quorate/api.ErrRound", laid_quorate_api_ErrRound), ("quorate/api.ErrUnsafe", laid_quorate_api_ErrUnsafe), ("quorate/api.ErrParent", laid_quorate_api_ErrParent), ("quorate/api.ErrTwice", laid_quorate_api_ErrTwice), ("quorate/api.ErrEpoch", laid_quorate_api_ErrEpoch)], narrowed := true }
def PowersSumsUptoSaid : Prop := powersSumsUptoRow.holds Tryd.pinned (OpenSpec.upto powersSumsSpec)

/-- 'quoratelaw17.PoolPlays', WHERE WHAT IT READS IS OF BULK AT MOST 1048576: true; the input reads as it did. -/
def poolPlaysUptoRow : OpenClaim := { program := "ytideopnblhbngaadoor", sum := "b74698dc84bf1ce59f53b5beaf9dfe9429b333998867900558d6d6d5c048c178", func := "quorate/quoratelaw17.PoolPlays", spec := "poolPlays", inPlace := ["internal/reflectlite.TypeOf"], unfollowed := true, recurses := true, named := ["quorate/api.ErrForm", "quorate/api.ErrTwice", "quorate/api.ErrFull", "quorate/api.ErrRange", "quorate/api.ErrShort", "quorate/api.ErrLong", "quorate/api.ErrSpent", "quorate/api.ErrPower", "quorate/api.ErrDisk", "quorate/api.ErrNone", "quorate/api.ErrOld", "quorate/api.ErrSet", "quorate/api.ErrProof", "quorate/api.ErrLeader", "quorate/api.ErrRound", "quorate/api.ErrUnsafe", "quorate/api.ErrParent", "quorate/api.ErrEpoch"], apart := false, laid := [("quorate/api.ErrRange", laid_quorate_api_ErrRange), ("quorate/api.ErrShort", laid_quorate_api_ErrShort), ("quorate/api.ErrLong", laid_quorate_api_ErrLong), ("quorate/api.ErrForm", laid_quorate_api_ErrForm), ("quorate/api.ErrSpent", laid_quorate_api_ErrSpent), ("quorate/api.ErrPower", laid_quorate_api_ErrPower), ("quorate/api.ErrDisk", laid_quorate_api_ErrDisk), ("quorate/api.ErrFull", laid_quorate_api_ErrFull), ("quorate/api.ErrNone", laid_quorate_api_ErrNone), ("quorate/api.ErrOld", laid_quorate_api_ErrOld), ("quorate/api.ErrSet", laid_quorate_api_ErrSet), ("quorate/api.ErrProof", laid_quorate_api_ErrProof), ("quorate/api.ErrLeader", laid_quorate_api_ErrLeader), ("quorate/api.ErrRound", laid_quorate_api_ErrRound), ("quorate/api.ErrUnsafe", laid_quorate_api_ErrUnsafe), ("quorate/api.ErrParent", laid_quorate_api_ErrParent), ("quorate/api.ErrTwice", laid_quorate_api_ErrTwice), ("quorate/api.ErrEpoch", laid_quorate_api_ErrEpoch)], narrowed := true }
def PoolPlaysUptoSaid : Prop := poolPlaysUptoRow.holds Tryd.pinned (OpenSpec.upto poolPlaysSpec)

/-- 'quoratelaw17.PoolFull', WHERE WHAT IT READS IS OF BULK AT MOST 1048576: true; the input reads as it did. -/
def poolFullUptoRow : OpenClaim := { program := "ytideopnblhbngaadoor", sum := "b74698dc84bf1ce59f53b5beaf9dfe9429b333998867900558d6d6d5c048c178", func := "quorate/quoratelaw17.PoolFull", spec := "poolFull", inPlace := ["internal/reflectlite.TypeOf"], unfollowed := true, recurses := true, named := ["quorate/api.ErrForm", "quorate/api.ErrTwice", "quorate/api.ErrFull", "quorate/api.ErrRange", "quorate/api.ErrShort", "quorate/api.ErrLong", "quorate/api.ErrSpent", "quorate/api.ErrPower", "quorate/api.ErrDisk", "quorate/api.ErrNone", "quorate/api.ErrOld", "quorate/api.ErrSet", "quorate/api.ErrProof", "quorate/api.ErrLeader", "quorate/api.ErrRound", "quorate/api.ErrUnsafe", "quorate/api.ErrParent", "quorate/api.ErrEpoch"], apart := false, laid := [("quorate/api.ErrRange", laid_quorate_api_ErrRange), ("quorate/api.ErrShort", laid_quorate_api_ErrShort), ("quorate/api.ErrLong", laid_quorate_api_ErrLong), ("quorate/api.ErrForm", laid_quorate_api_ErrForm), ("quorate/api.ErrSpent", laid_quorate_api_ErrSpent), ("quorate/api.ErrPower", laid_quorate_api_ErrPower), ("quorate/api.ErrDisk", laid_quorate_api_ErrDisk), ("quorate/api.ErrFull", laid_quorate_api_ErrFull), ("quorate/api.ErrNone", laid_quorate_api_ErrNone), ("quorate/api.ErrOld", laid_quorate_api_ErrOld), ("quorate/api.ErrSet", laid_quorate_api_ErrSet), ("quorate/api.ErrProof", laid_quorate_api_ErrProof), ("quorate/api.ErrLeader", laid_quorate_api_ErrLeader), ("quorate/api.ErrRound", laid_quorate_api_ErrRound), ("quorate/api.ErrUnsafe", laid_quorate_api_ErrUnsafe), ("quorate/api.ErrParent", laid_quorate_api_ErrParent), ("quorate/api.ErrTwice", laid_quorate_api_ErrTwice), ("quorate/api.ErrEpoch", laid_quorate_api_ErrEpoch)], narrowed := true }
def PoolFullUptoSaid : Prop := poolFullUptoRow.holds Tryd.pinned (OpenSpec.upto poolFullSpec)

/-- 'quoratelaw10.TallyOnce', WHERE WHAT IT READS IS OF BULK AT MOST 1048576: true; the input reads as it did. -/
def tallyOnceUptoRow : OpenClaim := { program := "ytideopnblhbngaadoor", sum := "b74698dc84bf1ce59f53b5beaf9dfe9429b333998867900558d6d6d5c048c178", func := "quorate/quoratelaw10.TallyOnce", spec := "tallyOnce", unfollowed := true, recurses := true, named := ["quorate/api.ErrSet", "quorate/api.ErrRange", "quorate/api.ErrTwice"], apart := false, laid := [("quorate/api.ErrRange", laid_quorate_api_ErrRange), ("quorate/api.ErrSet", laid_quorate_api_ErrSet), ("quorate/api.ErrTwice", laid_quorate_api_ErrTwice)], narrowed := true }
def TallyOnceUptoSaid : Prop := tallyOnceUptoRow.holds Tryd.pinned (OpenSpec.upto tallyOnceSpec)

/-- 'quoratelaw10.TallyShares', WHERE WHAT IT READS IS OF BULK AT MOST 1048576: true; the input reads as it did. -/
def tallySharesUptoRow : OpenClaim := { program := "ytideopnblhbngaadoor", sum := "b74698dc84bf1ce59f53b5beaf9dfe9429b333998867900558d6d6d5c048c178", func := "quorate/quoratelaw10.TallyShares", spec := "tallyShares", unfollowed := true, recurses := true, named := ["quorate/api.ErrSet", "quorate/api.ErrRange", "quorate/api.ErrTwice"], apart := false, laid := [("quorate/api.ErrRange", laid_quorate_api_ErrRange), ("quorate/api.ErrSet", laid_quorate_api_ErrSet), ("quorate/api.ErrTwice", laid_quorate_api_ErrTwice)], narrowed := true }
def TallySharesUptoSaid : Prop := tallySharesUptoRow.holds Tryd.pinned (OpenSpec.upto tallySharesSpec)

/-- 'quoratelaw10.TallyTurned', WHERE WHAT IT READS IS OF BULK AT MOST 1048576: true; the input reads as it did. -/
def tallyTurnedUptoRow : OpenClaim := { program := "ytideopnblhbngaadoor", sum := "b74698dc84bf1ce59f53b5beaf9dfe9429b333998867900558d6d6d5c048c178", func := "quorate/quoratelaw10.TallyTurned", spec := "tallyTurned", unfollowed := true, recurses := true, named := ["quorate/api.ErrSet", "quorate/api.ErrRange", "quorate/api.ErrTwice"], apart := false, laid := [("quorate/api.ErrRange", laid_quorate_api_ErrRange), ("quorate/api.ErrSet", laid_quorate_api_ErrSet), ("quorate/api.ErrTwice", laid_quorate_api_ErrTwice)], narrowed := true }
def TallyTurnedUptoSaid : Prop := tallyTurnedUptoRow.holds Tryd.pinned (OpenSpec.upto tallyTurnedSpec)

/-- 'quoratelaw10.TallyPlays', WHERE WHAT IT READS IS OF BULK AT MOST 1048576: true; the input reads as it did. -/
def tallyPlaysUptoRow : OpenClaim := { program := "ytideopnblhbngaadoor", sum := "b74698dc84bf1ce59f53b5beaf9dfe9429b333998867900558d6d6d5c048c178", func := "quorate/quoratelaw10.TallyPlays", spec := "tallyPlays", inPlace := ["internal/reflectlite.TypeOf"], unfollowed := true, recurses := true, named := ["quorate/api.ErrSet", "quorate/api.ErrRange", "quorate/api.ErrTwice", "quorate/api.ErrShort", "quorate/api.ErrLong", "quorate/api.ErrForm", "quorate/api.ErrSpent", "quorate/api.ErrPower", "quorate/api.ErrDisk", "quorate/api.ErrFull", "quorate/api.ErrNone", "quorate/api.ErrOld", "quorate/api.ErrProof", "quorate/api.ErrLeader", "quorate/api.ErrRound", "quorate/api.ErrUnsafe", "quorate/api.ErrParent", "quorate/api.ErrEpoch"], apart := false, laid := [("quorate/api.ErrRange", laid_quorate_api_ErrRange), ("quorate/api.ErrShort", laid_quorate_api_ErrShort), ("quorate/api.ErrLong", laid_quorate_api_ErrLong), ("quorate/api.ErrForm", laid_quorate_api_ErrForm), ("quorate/api.ErrSpent", laid_quorate_api_ErrSpent), ("quorate/api.ErrPower", laid_quorate_api_ErrPower), ("quorate/api.ErrDisk", laid_quorate_api_ErrDisk), ("quorate/api.ErrFull", laid_quorate_api_ErrFull), ("quorate/api.ErrNone", laid_quorate_api_ErrNone), ("quorate/api.ErrOld", laid_quorate_api_ErrOld), ("quorate/api.ErrSet", laid_quorate_api_ErrSet), ("quorate/api.ErrProof", laid_quorate_api_ErrProof), ("quorate/api.ErrLeader", laid_quorate_api_ErrLeader), ("quorate/api.ErrRound", laid_quorate_api_ErrRound), ("quorate/api.ErrUnsafe", laid_quorate_api_ErrUnsafe), ("quorate/api.ErrParent", laid_quorate_api_ErrParent), ("quorate/api.ErrTwice", laid_quorate_api_ErrTwice), ("quorate/api.ErrEpoch", laid_quorate_api_ErrEpoch)], narrowed := true }
def TallyPlaysUptoSaid : Prop := tallyPlaysUptoRow.holds Tryd.pinned (OpenSpec.upto tallyPlaysSpec)

end Rows
end Go.Proofs.YtideopnblhbngaaDoor
