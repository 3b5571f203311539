/-
  NARROWER THAN 'FOR EVERY INPUT', by the rows' own cells (each row's printed sentence says how): HashSums: laid · HashPieces: laid · HashKnown: laid · HashBytes: laid · HashOf: laid · HashZero: laid · ChainsGo: laid · ChainsRuns: laid · TreesWays: laid · TreesClimbs: laid · ChainsKept: laid · ChainsPublic: laid · TreesAll: laid · TreesKept: laid · ChainsRecovers: laid · ChainsSigns: laid · TreesRoots: laid · KeysApart: laid · KeysSigns: laid · KeysVerifies: laid · KeysSpoilt: laid · KeysMany: laid.
  DERIVED. THE GIVEN ROWS OF THIS SEAT. 22 by the template 'for every input the law returns true; each argument reads behind the call as it read before'; 0 by the template 'total and deterministic' (their statements: YtdedphhohiioiaaDoorTotals.lean).
  GIVEN WITH THE SEED: the statements are not yours to turn. If you find one false, say at which input.
  Laid BY PROGRAM, IN A SANDBOX (cutbox-rows.mjs): the forced cells as the released guide's own fill.sh prints them over the translation c510cf54afca7194… (all of the seat's roots in one cut). By AI agents, Wed Nov 11 2026. No macro, syntax, notation, axiom, sorry.
-/
import Derived.Test.YtdedphhohiioiaaDoorChecked
import GoSem.Claim
import GoSem.ClaimJoined
import GoSem.ClaimMapViews
import Derived.JoinedTies
import Derived.KernelRfl
namespace Go.Proofs.YtdedphhohiioiaaDoor
/- THE CELL 'sum', in the pinned program and in every row, IS THE sha256 OF THE DUMP (.gsa) THAT YtdedphhohiioiaaDoorProg.lean LOADS. Nothing in Lean hashes anything: it is a label: what it is worth is what the hold of that sum in a sandbox is worth. -/
noncomputable def Tryd.pinned : Pinned := { name := "ytdedphhohiioiaadoor", sum := "c510cf54afca71941e2cf0235f152158c0ba67659641d66e182c30a544794db8", checked := Tryd.checked }
namespace Rows
def none {H : Type} : Left H := { results := [], args := [] }

/- WHAT THE LISTED PACKAGE-LEVEL VARIABLES READ AS WHEN THE CALL BEGINS. Each datum BY PROGRAM (the guide's laid-datum.mjs) off the statement by which the dump's own 'gosem.cut.vars' lays the variable. In a bare row this is a premise. The card (YtdedphhohiioiaaDoorCards.lean) ties it to the program's text. -/
def laid_quorate_hash_constants {H : Type} : DataW H := .agg [.lit (.int .u32 1116352408), .lit (.int .u32 1899447441), .lit (.int .u32 3049323471), .lit (.int .u32 3921009573), .lit (.int .u32 961987163), .lit (.int .u32 1508970993), .lit (.int .u32 2453635748), .lit (.int .u32 2870763221), .lit (.int .u32 3624381080), .lit (.int .u32 310598401), .lit (.int .u32 607225278), .lit (.int .u32 1426881987), .lit (.int .u32 1925078388), .lit (.int .u32 2162078206), .lit (.int .u32 2614888103), .lit (.int .u32 3248222580), .lit (.int .u32 3835390401), .lit (.int .u32 4022224774), .lit (.int .u32 264347078), .lit (.int .u32 604807628), .lit (.int .u32 770255983), .lit (.int .u32 1249150122), .lit (.int .u32 1555081692), .lit (.int .u32 1996064986), .lit (.int .u32 2554220882), .lit (.int .u32 2821834349), .lit (.int .u32 2952996808), .lit (.int .u32 3210313671), .lit (.int .u32 3336571891), .lit (.int .u32 3584528711), .lit (.int .u32 113926993), .lit (.int .u32 338241895), .lit (.int .u32 666307205), .lit (.int .u32 773529912), .lit (.int .u32 1294757372), .lit (.int .u32 1396182291), .lit (.int .u32 1695183700), .lit (.int .u32 1986661051), .lit (.int .u32 2177026350), .lit (.int .u32 2456956037), .lit (.int .u32 2730485921), .lit (.int .u32 2820302411), .lit (.int .u32 3259730800), .lit (.int .u32 3345764771), .lit (.int .u32 3516065817), .lit (.int .u32 3600352804), .lit (.int .u32 4094571909), .lit (.int .u32 275423344), .lit (.int .u32 430227734), .lit (.int .u32 506948616), .lit (.int .u32 659060556), .lit (.int .u32 883997877), .lit (.int .u32 958139571), .lit (.int .u32 1322822218), .lit (.int .u32 1537002063), .lit (.int .u32 1747873779), .lit (.int .u32 1955562222), .lit (.int .u32 2024104815), .lit (.int .u32 2227730452), .lit (.int .u32 2361852424), .lit (.int .u32 2428436474), .lit (.int .u32 2756734187), .lit (.int .u32 3204031479), .lit (.int .u32 3329325298)]
def laid_quorate_api_ErrRange {H : Type} : DataW H := .iface "*errors.errorString" (.ptr (.agg [.lit (.string [113, 117, 111, 114, 97, 116, 101, 58, 32, 114, 97, 110, 103, 101])]))
def laid_quorate_api_ErrForm {H : Type} : DataW H := .iface "*errors.errorString" (.ptr (.agg [.lit (.string [113, 117, 111, 114, 97, 116, 101, 58, 32, 102, 111, 114, 109])]))
def laid_quorate_api_ErrShort {H : Type} : DataW H := .iface "*errors.errorString" (.ptr (.agg [.lit (.string [113, 117, 111, 114, 97, 116, 101, 58, 32, 115, 104, 111, 114, 116])]))
def laid_quorate_api_ErrLong {H : Type} : DataW H := .iface "*errors.errorString" (.ptr (.agg [.lit (.string [113, 117, 111, 114, 97, 116, 101, 58, 32, 108, 111, 110, 103])]))
def laid_quorate_api_ErrSpent {H : Type} : DataW H := .iface "*errors.errorString" (.ptr (.agg [.lit (.string [113, 117, 111, 114, 97, 116, 101, 58, 32, 115, 112, 101, 110, 116])]))
def laid_quorate_api_ErrPower {H : Type} : DataW H := .iface "*errors.errorString" (.ptr (.agg [.lit (.string [113, 117, 111, 114, 97, 116, 101, 58, 32, 112, 111, 119, 101, 114])]))
def laid_quorate_api_ErrDisk {H : Type} : DataW H := .iface "*errors.errorString" (.ptr (.agg [.lit (.string [113, 117, 111, 114, 97, 116, 101, 58, 32, 100, 105, 115, 107])]))
def laid_quorate_api_ErrFull {H : Type} : DataW H := .iface "*errors.errorString" (.ptr (.agg [.lit (.string [113, 117, 111, 114, 97, 116, 101, 58, 32, 102, 117, 108, 108])]))
def laid_quorate_api_ErrNone {H : Type} : DataW H := .iface "*errors.errorString" (.ptr (.agg [.lit (.string [113, 117, 111, 114, 97, 116, 101, 58, 32, 110, 111, 110, 101])]))
def laid_quorate_api_ErrOld {H : Type} : DataW H := .iface "*errors.errorString" (.ptr (.agg [.lit (.string [113, 117, 111, 114, 97, 116, 101, 58, 32, 111, 108, 100])]))
def laid_quorate_api_ErrSet {H : Type} : DataW H := .iface "*errors.errorString" (.ptr (.agg [.lit (.string [113, 117, 111, 114, 97, 116, 101, 58, 32, 115, 101, 116])]))
def laid_quorate_api_ErrProof {H : Type} : DataW H := .iface "*errors.errorString" (.ptr (.agg [.lit (.string [113, 117, 111, 114, 97, 116, 101, 58, 32, 112, 114, 111, 111, 102])]))
def laid_quorate_api_ErrLeader {H : Type} : DataW H := .iface "*errors.errorString" (.ptr (.agg [.lit (.string [113, 117, 111, 114, 97, 116, 101, 58, 32, 108, 101, 97, 100, 101, 114])]))
def laid_quorate_api_ErrRound {H : Type} : DataW H := .iface "*errors.errorString" (.ptr (.agg [.lit (.string [113, 117, 111, 114, 97, 116, 101, 58, 32, 114, 111, 117, 110, 100])]))
def laid_quorate_api_ErrUnsafe {H : Type} : DataW H := .iface "*errors.errorString" (.ptr (.agg [.lit (.string [113, 117, 111, 114, 97, 116, 101, 58, 32, 117, 110, 115, 97, 102, 101])]))
def laid_quorate_api_ErrParent {H : Type} : DataW H := .iface "*errors.errorString" (.ptr (.agg [.lit (.string [113, 117, 111, 114, 97, 116, 101, 58, 32, 112, 97, 114, 101, 110, 116])]))
def laid_quorate_api_ErrTwice {H : Type} : DataW H := .iface "*errors.errorString" (.ptr (.agg [.lit (.string [113, 117, 111, 114, 97, 116, 101, 58, 32, 116, 119, 105, 99, 101])]))
def laid_quorate_api_ErrEpoch {H : Type} : DataW H := .iface "*errors.errorString" (.ptr (.agg [.lit (.string [113, 117, 111, 114, 97, 116, 101, 58, 32, 101, 112, 111, 99, 104])]))

/-- 'quoratelaw02.HashSums': WHATEVER THE INPUT: true; the input reads as it did. -/
def hashSumsSpec : ChangeSpec := { name := "hashSums", fn := fun _ => fun
  | [d] => { results := [.lit (.bool true)], args := [d] }
  | _ => none }
def hashSumsRow : OpenClaim := { program := "ytdedphhohiioiaadoor", sum := "c510cf54afca71941e2cf0235f152158c0ba67659641d66e182c30a544794db8", func := "quorate/quoratelaw02.HashSums", spec := "hashSums", named := ["quorate/hash.constants"], apart := false, laid := [("quorate/hash.constants", laid_quorate_hash_constants)] }
def HashSumsSaid : Prop := hashSumsRow.holds Tryd.pinned (OpenSpec.ofChange hashSumsSpec)

/-- ITS FALSE NEIGHBOUR: 'it returns false'. Refute it at one input. -/
def hashSumsWrong : ChangeSpec := { name := "hashSums", fn := fun _ => fun
  | [d] => { results := [.lit (.bool false)], args := [d] }
  | _ => none }
def HashSumsWrongFalsely : Prop := hashSumsRow.holds Tryd.pinned (OpenSpec.ofChange hashSumsWrong)

/-- 'quoratelaw02.HashPieces': WHATEVER THE INPUT: true; the input reads as it did. -/
def hashPiecesSpec : ChangeSpec := { name := "hashPieces", fn := fun _ => fun
  | [d] => { results := [.lit (.bool true)], args := [d] }
  | _ => none }
def hashPiecesRow : OpenClaim := { program := "ytdedphhohiioiaadoor", sum := "c510cf54afca71941e2cf0235f152158c0ba67659641d66e182c30a544794db8", func := "quorate/quoratelaw02.HashPieces", spec := "hashPieces", named := ["quorate/hash.constants"], apart := false, laid := [("quorate/hash.constants", laid_quorate_hash_constants)] }
def HashPiecesSaid : Prop := hashPiecesRow.holds Tryd.pinned (OpenSpec.ofChange hashPiecesSpec)

/-- ITS FALSE NEIGHBOUR: 'it returns false'. Refute it at one input. -/
def hashPiecesWrong : ChangeSpec := { name := "hashPieces", fn := fun _ => fun
  | [d] => { results := [.lit (.bool false)], args := [d] }
  | _ => none }
def HashPiecesWrongFalsely : Prop := hashPiecesRow.holds Tryd.pinned (OpenSpec.ofChange hashPiecesWrong)

/-- 'quoratelaw02.HashKnown': WHATEVER THE INPUT: true; the input reads as it did. -/
def hashKnownSpec : ChangeSpec := { name := "hashKnown", fn := fun _ => fun
  | [d1, d2] => { results := [.lit (.bool true)], args := [d1, d2] }
  | _ => none }
def hashKnownRow : OpenClaim := { program := "ytdedphhohiioiaadoor", sum := "c510cf54afca71941e2cf0235f152158c0ba67659641d66e182c30a544794db8", func := "quorate/quoratelaw02.HashKnown", spec := "hashKnown", named := ["quorate/hash.constants"], apart := false, laid := [("quorate/hash.constants", laid_quorate_hash_constants)] }
def HashKnownSaid : Prop := hashKnownRow.holds Tryd.pinned (OpenSpec.ofChange hashKnownSpec)

/-- ITS FALSE NEIGHBOUR: 'it returns false'. Refute it at one input. -/
def hashKnownWrong : ChangeSpec := { name := "hashKnown", fn := fun _ => fun
  | [d1, d2] => { results := [.lit (.bool false)], args := [d1, d2] }
  | _ => none }
def HashKnownWrongFalsely : Prop := hashKnownRow.holds Tryd.pinned (OpenSpec.ofChange hashKnownWrong)

/-- 'quoratelaw02.HashBytes': WHATEVER THE INPUT: true; the input reads as it did. -/
def hashBytesSpec : ChangeSpec := { name := "hashBytes", fn := fun _ => fun
  | [d] => { results := [.lit (.bool true)], args := [d] }
  | _ => none }
def hashBytesRow : OpenClaim := { program := "ytdedphhohiioiaadoor", sum := "c510cf54afca71941e2cf0235f152158c0ba67659641d66e182c30a544794db8", func := "quorate/quoratelaw02.HashBytes", spec := "hashBytes", named := ["quorate/hash.constants"], apart := false, laid := [("quorate/hash.constants", laid_quorate_hash_constants)] }
def HashBytesSaid : Prop := hashBytesRow.holds Tryd.pinned (OpenSpec.ofChange hashBytesSpec)

/-- ITS FALSE NEIGHBOUR: 'it returns false'. Refute it at one input. -/
def hashBytesWrong : ChangeSpec := { name := "hashBytes", fn := fun _ => fun
  | [d] => { results := [.lit (.bool false)], args := [d] }
  | _ => none }
def HashBytesWrongFalsely : Prop := hashBytesRow.holds Tryd.pinned (OpenSpec.ofChange hashBytesWrong)

/-- 'quoratelaw02.HashOf': WHATEVER THE INPUT: true; the input reads as it did. -/
def hashOfSpec : ChangeSpec := { name := "hashOf", fn := fun _ => fun
  | [d1, d2] => { results := [.lit (.bool true)], args := [d1, d2] }
  | _ => none }
def hashOfRow : OpenClaim := { program := "ytdedphhohiioiaadoor", sum := "c510cf54afca71941e2cf0235f152158c0ba67659641d66e182c30a544794db8", func := "quorate/quoratelaw02.HashOf", spec := "hashOf", named := ["quorate/hash.constants"], apart := false, laid := [("quorate/hash.constants", laid_quorate_hash_constants)] }
def HashOfSaid : Prop := hashOfRow.holds Tryd.pinned (OpenSpec.ofChange hashOfSpec)

/-- ITS FALSE NEIGHBOUR: 'it returns false'. Refute it at one input. -/
def hashOfWrong : ChangeSpec := { name := "hashOf", fn := fun _ => fun
  | [d1, d2] => { results := [.lit (.bool false)], args := [d1, d2] }
  | _ => none }
def HashOfWrongFalsely : Prop := hashOfRow.holds Tryd.pinned (OpenSpec.ofChange hashOfWrong)

/-- 'quoratelaw02.HashZero': WHATEVER THE INPUT: true; the input reads as it did. -/
def hashZeroSpec : ChangeSpec := { name := "hashZero", fn := fun _ => fun
  | [d1, d2, d3] => { results := [.lit (.bool true)], args := [d1, d2, d3] }
  | _ => none }
def hashZeroRow : OpenClaim := { program := "ytdedphhohiioiaadoor", sum := "c510cf54afca71941e2cf0235f152158c0ba67659641d66e182c30a544794db8", func := "quorate/quoratelaw02.HashZero", spec := "hashZero", named := ["quorate/hash.constants"], apart := false, laid := [("quorate/hash.constants", laid_quorate_hash_constants)] }
def HashZeroSaid : Prop := hashZeroRow.holds Tryd.pinned (OpenSpec.ofChange hashZeroSpec)

/-- ITS FALSE NEIGHBOUR: 'it returns false'. Refute it at one input. -/
def hashZeroWrong : ChangeSpec := { name := "hashZero", fn := fun _ => fun
  | [d1, d2, d3] => { results := [.lit (.bool false)], args := [d1, d2, d3] }
  | _ => none }
def HashZeroWrongFalsely : Prop := hashZeroRow.holds Tryd.pinned (OpenSpec.ofChange hashZeroWrong)

/-- 'quoratelaw03.ChainsGo': WHATEVER THE INPUT: true; the input reads as it did. -/
def chainsGoSpec : ChangeSpec := { name := "chainsGo", fn := fun _ => fun
  | [d1, d2, d3] => { results := [.lit (.bool true)], args := [d1, d2, d3] }
  | _ => none }
def chainsGoRow : OpenClaim := { program := "ytdedphhohiioiaadoor", sum := "c510cf54afca71941e2cf0235f152158c0ba67659641d66e182c30a544794db8", func := "quorate/quoratelaw03.ChainsGo", spec := "chainsGo", named := ["quorate/hash.constants"], apart := false, laid := [("quorate/hash.constants", laid_quorate_hash_constants)] }
def ChainsGoSaid : Prop := chainsGoRow.holds Tryd.pinned (OpenSpec.ofChange chainsGoSpec)

/-- ITS FALSE NEIGHBOUR: 'it returns false'. Refute it at one input. -/
def chainsGoWrong : ChangeSpec := { name := "chainsGo", fn := fun _ => fun
  | [d1, d2, d3] => { results := [.lit (.bool false)], args := [d1, d2, d3] }
  | _ => none }
def ChainsGoWrongFalsely : Prop := chainsGoRow.holds Tryd.pinned (OpenSpec.ofChange chainsGoWrong)

/-- 'quoratelaw03.ChainsRuns': WHATEVER THE INPUT: true; the input reads as it did. -/
def chainsRunsSpec : ChangeSpec := { name := "chainsRuns", fn := fun _ => fun
  | [d1, d2, d3] => { results := [.lit (.bool true)], args := [d1, d2, d3] }
  | _ => none }
def chainsRunsRow : OpenClaim := { program := "ytdedphhohiioiaadoor", sum := "c510cf54afca71941e2cf0235f152158c0ba67659641d66e182c30a544794db8", func := "quorate/quoratelaw03.ChainsRuns", spec := "chainsRuns", named := ["quorate/hash.constants"], apart := false, laid := [("quorate/hash.constants", laid_quorate_hash_constants)] }
def ChainsRunsSaid : Prop := chainsRunsRow.holds Tryd.pinned (OpenSpec.ofChange chainsRunsSpec)

/-- ITS FALSE NEIGHBOUR: 'it returns false'. Refute it at one input. -/
def chainsRunsWrong : ChangeSpec := { name := "chainsRuns", fn := fun _ => fun
  | [d1, d2, d3] => { results := [.lit (.bool false)], args := [d1, d2, d3] }
  | _ => none }
def ChainsRunsWrongFalsely : Prop := chainsRunsRow.holds Tryd.pinned (OpenSpec.ofChange chainsRunsWrong)

/-- 'quoratelaw04.TreesWays': WHATEVER THE INPUT: true; the input reads as it did. -/
def treesWaysSpec : ChangeSpec := { name := "treesWays", fn := fun _ => fun
  | [d1, d2] => { results := [.lit (.bool true)], args := [d1, d2] }
  | _ => none }
def treesWaysRow : OpenClaim := { program := "ytdedphhohiioiaadoor", sum := "c510cf54afca71941e2cf0235f152158c0ba67659641d66e182c30a544794db8", func := "quorate/quoratelaw04.TreesWays", spec := "treesWays", unfollowed := true, recurses := true, named := ["quorate/hash.constants", "quorate/api.ErrForm", "quorate/api.ErrRange"], apart := false, laid := [("quorate/api.ErrRange", laid_quorate_api_ErrRange), ("quorate/api.ErrForm", laid_quorate_api_ErrForm), ("quorate/hash.constants", laid_quorate_hash_constants)] }
def TreesWaysSaid : Prop := treesWaysRow.holds Tryd.pinned (OpenSpec.ofChange treesWaysSpec)

/-- ITS FALSE NEIGHBOUR: 'it returns false'. Refute it at one input. -/
def treesWaysWrong : ChangeSpec := { name := "treesWays", fn := fun _ => fun
  | [d1, d2] => { results := [.lit (.bool false)], args := [d1, d2] }
  | _ => none }
def TreesWaysWrongFalsely : Prop := treesWaysRow.holds Tryd.pinned (OpenSpec.ofChange treesWaysWrong)

/-- 'quoratelaw04.TreesClimbs': WHATEVER THE INPUT: true; the input reads as it did. -/
def treesClimbsSpec : ChangeSpec := { name := "treesClimbs", fn := fun _ => fun
  | [d1, d2, d3] => { results := [.lit (.bool true)], args := [d1, d2, d3] }
  | _ => none }
def treesClimbsRow : OpenClaim := { program := "ytdedphhohiioiaadoor", sum := "c510cf54afca71941e2cf0235f152158c0ba67659641d66e182c30a544794db8", func := "quorate/quoratelaw04.TreesClimbs", spec := "treesClimbs", inPlace := ["internal/reflectlite.TypeOf"], unfollowed := true, recurses := true, named := ["quorate/hash.constants", "quorate/api.ErrRange", "quorate/api.ErrForm", "quorate/api.ErrShort", "quorate/api.ErrLong", "quorate/api.ErrSpent", "quorate/api.ErrPower", "quorate/api.ErrDisk", "quorate/api.ErrFull", "quorate/api.ErrNone", "quorate/api.ErrOld", "quorate/api.ErrSet", "quorate/api.ErrProof", "quorate/api.ErrLeader", "quorate/api.ErrRound", "quorate/api.ErrUnsafe", "quorate/api.ErrParent", "quorate/api.ErrTwice", "quorate/api.ErrEpoch"], apart := false, laid := [("quorate/api.ErrRange", laid_quorate_api_ErrRange), ("quorate/api.ErrShort", laid_quorate_api_ErrShort), ("quorate/api.ErrLong", laid_quorate_api_ErrLong), ("quorate/api.ErrForm", laid_quorate_api_ErrForm), ("quorate/api.ErrSpent", laid_quorate_api_ErrSpent), ("quorate/api.ErrPower", laid_quorate_api_ErrPower), ("quorate/api.ErrDisk", laid_quorate_api_ErrDisk), ("quorate/api.ErrFull", laid_quorate_api_ErrFull), ("quorate/api.ErrNone", laid_quorate_api_ErrNone), ("quorate/api.ErrOld", laid_quorate_api_ErrOld), ("quorate/api.ErrSet", laid_quorate_api_ErrSet), ("quorate/api.ErrProof", laid_quorate_api_ErrProof), ("quorate/api.ErrLeader", laid_quorate_api_ErrLeader), ("quorate/api.ErrRound", laid_quorate_api_ErrRound), ("quorate/api.ErrUnsafe", laid_quorate_api_ErrUnsafe), ("quorate/api.ErrParent", laid_quorate_api_ErrParent), ("quorate/api.ErrTwice", laid_quorate_api_ErrTwice), ("quorate/api.ErrEpoch", laid_quorate_api_ErrEpoch), ("quorate/hash.constants", laid_quorate_hash_constants)] }
def TreesClimbsSaid : Prop := treesClimbsRow.holds Tryd.pinned (OpenSpec.ofChange treesClimbsSpec)

/-- ITS FALSE NEIGHBOUR: 'it returns false'. Refute it at one input. -/
def treesClimbsWrong : ChangeSpec := { name := "treesClimbs", fn := fun _ => fun
  | [d1, d2, d3] => { results := [.lit (.bool false)], args := [d1, d2, d3] }
  | _ => none }
def TreesClimbsWrongFalsely : Prop := treesClimbsRow.holds Tryd.pinned (OpenSpec.ofChange treesClimbsWrong)

/-- 'quoratelaw03.ChainsKept': WHATEVER THE INPUT: true; the input reads as it did. -/
def chainsKeptSpec : ChangeSpec := { name := "chainsKept", fn := fun _ => fun
  | [d1, d2, d3] => { results := [.lit (.bool true)], args := [d1, d2, d3] }
  | _ => none }
def chainsKeptRow : OpenClaim := { program := "ytdedphhohiioiaadoor", sum := "c510cf54afca71941e2cf0235f152158c0ba67659641d66e182c30a544794db8", func := "quorate/quoratelaw03.ChainsKept", spec := "chainsKept", unfollowed := true, recurses := true, named := ["quorate/api.ErrRange", "quorate/hash.constants", "quorate/api.ErrForm"], apart := false, laid := [("quorate/api.ErrRange", laid_quorate_api_ErrRange), ("quorate/api.ErrForm", laid_quorate_api_ErrForm), ("quorate/hash.constants", laid_quorate_hash_constants)] }
def ChainsKeptSaid : Prop := chainsKeptRow.holds Tryd.pinned (OpenSpec.ofChange chainsKeptSpec)

/-- ITS FALSE NEIGHBOUR: 'it returns false'. Refute it at one input. -/
def chainsKeptWrong : ChangeSpec := { name := "chainsKept", fn := fun _ => fun
  | [d1, d2, d3] => { results := [.lit (.bool false)], args := [d1, d2, d3] }
  | _ => none }
def ChainsKeptWrongFalsely : Prop := chainsKeptRow.holds Tryd.pinned (OpenSpec.ofChange chainsKeptWrong)

/-- 'quoratelaw03.ChainsPublic': WHATEVER THE INPUT: true; the input reads as it did. -/
def chainsPublicSpec : ChangeSpec := { name := "chainsPublic", fn := fun _ => fun
  | [d1, d2, d3] => { results := [.lit (.bool true)], args := [d1, d2, d3] }
  | _ => none }
def chainsPublicRow : OpenClaim := { program := "ytdedphhohiioiaadoor", sum := "c510cf54afca71941e2cf0235f152158c0ba67659641d66e182c30a544794db8", func := "quorate/quoratelaw03.ChainsPublic", spec := "chainsPublic", unfollowed := true, recurses := true, named := ["quorate/api.ErrRange", "quorate/hash.constants", "quorate/api.ErrForm"], apart := false, laid := [("quorate/api.ErrRange", laid_quorate_api_ErrRange), ("quorate/api.ErrForm", laid_quorate_api_ErrForm), ("quorate/hash.constants", laid_quorate_hash_constants)] }
def ChainsPublicSaid : Prop := chainsPublicRow.holds Tryd.pinned (OpenSpec.ofChange chainsPublicSpec)

/-- ITS FALSE NEIGHBOUR: 'it returns false'. Refute it at one input. -/
def chainsPublicWrong : ChangeSpec := { name := "chainsPublic", fn := fun _ => fun
  | [d1, d2, d3] => { results := [.lit (.bool false)], args := [d1, d2, d3] }
  | _ => none }
def ChainsPublicWrongFalsely : Prop := chainsPublicRow.holds Tryd.pinned (OpenSpec.ofChange chainsPublicWrong)

/-- 'quoratelaw04.TreesAll': WHATEVER THE INPUT: true; the input reads as it did. -/
def treesAllSpec : ChangeSpec := { name := "treesAll", fn := fun _ => fun
  | [d] => { results := [.lit (.bool true)], args := [d] }
  | _ => none }
def treesAllRow : OpenClaim := { program := "ytdedphhohiioiaadoor", sum := "c510cf54afca71941e2cf0235f152158c0ba67659641d66e182c30a544794db8", func := "quorate/quoratelaw04.TreesAll", spec := "treesAll", unfollowed := true, recurses := true, named := ["quorate/hash.constants", "quorate/api.ErrForm", "quorate/api.ErrRange"], apart := false, laid := [("quorate/api.ErrRange", laid_quorate_api_ErrRange), ("quorate/api.ErrForm", laid_quorate_api_ErrForm), ("quorate/hash.constants", laid_quorate_hash_constants)] }
def TreesAllSaid : Prop := treesAllRow.holds Tryd.pinned (OpenSpec.ofChange treesAllSpec)

/-- ITS FALSE NEIGHBOUR: 'it returns false'. Refute it at one input. -/
def treesAllWrong : ChangeSpec := { name := "treesAll", fn := fun _ => fun
  | [d] => { results := [.lit (.bool false)], args := [d] }
  | _ => none }
def TreesAllWrongFalsely : Prop := treesAllRow.holds Tryd.pinned (OpenSpec.ofChange treesAllWrong)

/-- 'quoratelaw04.TreesKept': WHATEVER THE INPUT: true; the input reads as it did. -/
def treesKeptSpec : ChangeSpec := { name := "treesKept", fn := fun _ => fun
  | [d1, d2] => { results := [.lit (.bool true)], args := [d1, d2] }
  | _ => none }
def treesKeptRow : OpenClaim := { program := "ytdedphhohiioiaadoor", sum := "c510cf54afca71941e2cf0235f152158c0ba67659641d66e182c30a544794db8", func := "quorate/quoratelaw04.TreesKept", spec := "treesKept", unfollowed := true, recurses := true, named := ["quorate/hash.constants", "quorate/api.ErrForm", "quorate/api.ErrRange"], apart := false, laid := [("quorate/api.ErrRange", laid_quorate_api_ErrRange), ("quorate/api.ErrForm", laid_quorate_api_ErrForm), ("quorate/hash.constants", laid_quorate_hash_constants)] }
def TreesKeptSaid : Prop := treesKeptRow.holds Tryd.pinned (OpenSpec.ofChange treesKeptSpec)

/-- ITS FALSE NEIGHBOUR: 'it returns false'. Refute it at one input. -/
def treesKeptWrong : ChangeSpec := { name := "treesKept", fn := fun _ => fun
  | [d1, d2] => { results := [.lit (.bool false)], args := [d1, d2] }
  | _ => none }
def TreesKeptWrongFalsely : Prop := treesKeptRow.holds Tryd.pinned (OpenSpec.ofChange treesKeptWrong)

/-- 'quoratelaw03.ChainsRecovers': WHATEVER THE INPUT: true; the input reads as it did. -/
def chainsRecoversSpec : ChangeSpec := { name := "chainsRecovers", fn := fun _ => fun
  | [d1, d2, d3] => { results := [.lit (.bool true)], args := [d1, d2, d3] }
  | _ => none }
def chainsRecoversRow : OpenClaim := { program := "ytdedphhohiioiaadoor", sum := "c510cf54afca71941e2cf0235f152158c0ba67659641d66e182c30a544794db8", func := "quorate/quoratelaw03.ChainsRecovers", spec := "chainsRecovers", inPlace := ["internal/reflectlite.TypeOf"], unfollowed := true, recurses := true, named := ["quorate/api.ErrRange", "quorate/api.ErrForm", "quorate/hash.constants", "quorate/api.ErrShort", "quorate/api.ErrLong", "quorate/api.ErrSpent", "quorate/api.ErrPower", "quorate/api.ErrDisk", "quorate/api.ErrFull", "quorate/api.ErrNone", "quorate/api.ErrOld", "quorate/api.ErrSet", "quorate/api.ErrProof", "quorate/api.ErrLeader", "quorate/api.ErrRound", "quorate/api.ErrUnsafe", "quorate/api.ErrParent", "quorate/api.ErrTwice", "quorate/api.ErrEpoch"], apart := false, laid := [("quorate/api.ErrRange", laid_quorate_api_ErrRange), ("quorate/api.ErrShort", laid_quorate_api_ErrShort), ("quorate/api.ErrLong", laid_quorate_api_ErrLong), ("quorate/api.ErrForm", laid_quorate_api_ErrForm), ("quorate/api.ErrSpent", laid_quorate_api_ErrSpent), ("quorate/api.ErrPower", laid_quorate_api_ErrPower), ("quorate/api.ErrDisk", laid_quorate_api_ErrDisk), ("quorate/api.ErrFull", laid_quorate_api_ErrFull), ("quorate/api.ErrNone", laid_quorate_api_ErrNone), ("quorate/api.ErrOld", laid_quorate_api_ErrOld), ("quorate/api.ErrSet", laid_quorate_api_ErrSet), ("quorate/api.ErrProof", laid_quorate_api_ErrProof), ("quorate/api.ErrLeader", laid_quorate_api_ErrLeader), ("quorate/api.ErrRound", laid_quorate_api_ErrRound), ("quorate/api.ErrUnsafe", laid_quorate_api_ErrUnsafe), ("quorate/api.ErrParent", laid_quorate_api_ErrParent), ("quorate/api.ErrTwice", laid_quorate_api_ErrTwice), ("quorate/api.ErrEpoch", laid_quorate_api_ErrEpoch), ("quorate/hash.constants", laid_quorate_hash_constants)] }
def ChainsRecoversSaid : Prop := chainsRecoversRow.holds Tryd.pinned (OpenSpec.ofChange chainsRecoversSpec)

/-- ITS FALSE NEIGHBOUR: 'it returns false'. Refute it at one input. -/
def chainsRecoversWrong : ChangeSpec := { name := "chainsRecovers", fn := fun _ => fun
  | [d1, d2, d3] => { results := [.lit (.bool false)], args := [d1, d2, d3] }
  | _ => none }
def ChainsRecoversWrongFalsely : Prop := chainsRecoversRow.holds Tryd.pinned (OpenSpec.ofChange chainsRecoversWrong)

/-- 'quoratelaw03.ChainsSigns': WHATEVER THE INPUT: true; the input reads as it did. -/
def chainsSignsSpec : ChangeSpec := { name := "chainsSigns", fn := fun _ => fun
  | [d1, d2, d3] => { results := [.lit (.bool true)], args := [d1, d2, d3] }
  | _ => none }
def chainsSignsRow : OpenClaim := { program := "ytdedphhohiioiaadoor", sum := "c510cf54afca71941e2cf0235f152158c0ba67659641d66e182c30a544794db8", func := "quorate/quoratelaw03.ChainsSigns", spec := "chainsSigns", inPlace := ["internal/reflectlite.TypeOf"], unfollowed := true, recurses := true, named := ["quorate/api.ErrRange", "quorate/hash.constants", "quorate/api.ErrShort", "quorate/api.ErrLong", "quorate/api.ErrForm", "quorate/api.ErrSpent", "quorate/api.ErrPower", "quorate/api.ErrDisk", "quorate/api.ErrFull", "quorate/api.ErrNone", "quorate/api.ErrOld", "quorate/api.ErrSet", "quorate/api.ErrProof", "quorate/api.ErrLeader", "quorate/api.ErrRound", "quorate/api.ErrUnsafe", "quorate/api.ErrParent", "quorate/api.ErrTwice", "quorate/api.ErrEpoch"], apart := false, laid := [("quorate/api.ErrRange", laid_quorate_api_ErrRange), ("quorate/api.ErrShort", laid_quorate_api_ErrShort), ("quorate/api.ErrLong", laid_quorate_api_ErrLong), ("quorate/api.ErrForm", laid_quorate_api_ErrForm), ("quorate/api.ErrSpent", laid_quorate_api_ErrSpent), ("quorate/api.ErrPower", laid_quorate_api_ErrPower), ("quorate/api.ErrDisk", laid_quorate_api_ErrDisk), ("quorate/api.ErrFull", laid_quorate_api_ErrFull), ("quorate/api.ErrNone", laid_quorate_api_ErrNone), ("quorate/api.ErrOld", laid_quorate_api_ErrOld), ("quorate/api.ErrSet", laid_quorate_api_ErrSet), ("quorate/api.ErrProof", laid_quorate_api_ErrProof), ("quorate/api.ErrLeader", laid_quorate_api_ErrLeader), ("quorate/api.ErrRound", laid_quorate_api_ErrRound), ("quorate/api.ErrUnsafe", laid_quorate_api_ErrUnsafe), ("quorate/api.ErrParent", laid_quorate_api_ErrParent), ("quorate/api.ErrTwice", laid_quorate_api_ErrTwice), ("quorate/api.ErrEpoch", laid_quorate_api_ErrEpoch), ("quorate/hash.constants", laid_quorate_hash_constants)] }
def ChainsSignsSaid : Prop := chainsSignsRow.holds Tryd.pinned (OpenSpec.ofChange chainsSignsSpec)

/-- ITS FALSE NEIGHBOUR: 'it returns false'. Refute it at one input. -/
def chainsSignsWrong : ChangeSpec := { name := "chainsSigns", fn := fun _ => fun
  | [d1, d2, d3] => { results := [.lit (.bool false)], args := [d1, d2, d3] }
  | _ => none }
def ChainsSignsWrongFalsely : Prop := chainsSignsRow.holds Tryd.pinned (OpenSpec.ofChange chainsSignsWrong)

/-- 'quoratelaw04.TreesRoots': WHATEVER THE INPUT: true; the input reads as it did. -/
def treesRootsSpec : ChangeSpec := { name := "treesRoots", fn := fun _ => fun
  | [d1, d2] => { results := [.lit (.bool true)], args := [d1, d2] }
  | _ => none }
def treesRootsRow : OpenClaim := { program := "ytdedphhohiioiaadoor", sum := "c510cf54afca71941e2cf0235f152158c0ba67659641d66e182c30a544794db8", func := "quorate/quoratelaw04.TreesRoots", spec := "treesRoots", inPlace := ["internal/reflectlite.TypeOf"], unfollowed := true, recurses := true, named := ["quorate/hash.constants", "quorate/api.ErrForm", "quorate/api.ErrRange", "quorate/api.ErrShort", "quorate/api.ErrLong", "quorate/api.ErrSpent", "quorate/api.ErrPower", "quorate/api.ErrDisk", "quorate/api.ErrFull", "quorate/api.ErrNone", "quorate/api.ErrOld", "quorate/api.ErrSet", "quorate/api.ErrProof", "quorate/api.ErrLeader", "quorate/api.ErrRound", "quorate/api.ErrUnsafe", "quorate/api.ErrParent", "quorate/api.ErrTwice", "quorate/api.ErrEpoch"], apart := false, laid := [("quorate/api.ErrRange", laid_quorate_api_ErrRange), ("quorate/api.ErrShort", laid_quorate_api_ErrShort), ("quorate/api.ErrLong", laid_quorate_api_ErrLong), ("quorate/api.ErrForm", laid_quorate_api_ErrForm), ("quorate/api.ErrSpent", laid_quorate_api_ErrSpent), ("quorate/api.ErrPower", laid_quorate_api_ErrPower), ("quorate/api.ErrDisk", laid_quorate_api_ErrDisk), ("quorate/api.ErrFull", laid_quorate_api_ErrFull), ("quorate/api.ErrNone", laid_quorate_api_ErrNone), ("quorate/api.ErrOld", laid_quorate_api_ErrOld), ("quorate/api.ErrSet", laid_quorate_api_ErrSet), ("quorate/api.ErrProof", laid_quorate_api_ErrProof), ("quorate/api.ErrLeader", laid_quorate_api_ErrLeader), ("quorate/api.ErrRound", laid_quorate_api_ErrRound), ("quorate/api.ErrUnsafe", laid_quorate_api_ErrUnsafe), ("quorate/api.ErrParent", laid_quorate_api_ErrParent), ("quorate/api.ErrTwice", laid_quorate_api_ErrTwice), ("quorate/api.ErrEpoch", laid_quorate_api_ErrEpoch), ("quorate/hash.constants", laid_quorate_hash_constants)] }
def TreesRootsSaid : Prop := treesRootsRow.holds Tryd.pinned (OpenSpec.ofChange treesRootsSpec)

/-- ITS FALSE NEIGHBOUR: 'it returns false'. Refute it at one input. -/
def treesRootsWrong : ChangeSpec := { name := "treesRoots", fn := fun _ => fun
  | [d1, d2] => { results := [.lit (.bool false)], args := [d1, d2] }
  | _ => none }
def TreesRootsWrongFalsely : Prop := treesRootsRow.holds Tryd.pinned (OpenSpec.ofChange treesRootsWrong)

/-- 'quoratelaw05.KeysApart': WHATEVER THE INPUT: true; the input reads as it did. -/
def keysApartSpec : ChangeSpec := { name := "keysApart", fn := fun _ => fun
  | [d1, d2, d3] => { results := [.lit (.bool true)], args := [d1, d2, d3] }
  | _ => none }
def keysApartRow : OpenClaim := { program := "ytdedphhohiioiaadoor", sum := "c510cf54afca71941e2cf0235f152158c0ba67659641d66e182c30a544794db8", func := "quorate/quoratelaw05.KeysApart", spec := "keysApart", inPlace := ["internal/reflectlite.TypeOf"], unfollowed := true, recurses := true, named := ["quorate/api.ErrRange", "quorate/hash.constants", "quorate/api.ErrForm", "quorate/api.ErrSpent", "quorate/api.ErrShort", "quorate/api.ErrLong", "quorate/api.ErrPower", "quorate/api.ErrDisk", "quorate/api.ErrFull", "quorate/api.ErrNone", "quorate/api.ErrOld", "quorate/api.ErrSet", "quorate/api.ErrProof", "quorate/api.ErrLeader", "quorate/api.ErrRound", "quorate/api.ErrUnsafe", "quorate/api.ErrParent", "quorate/api.ErrTwice", "quorate/api.ErrEpoch"], apart := false, laid := [("quorate/api.ErrRange", laid_quorate_api_ErrRange), ("quorate/api.ErrShort", laid_quorate_api_ErrShort), ("quorate/api.ErrLong", laid_quorate_api_ErrLong), ("quorate/api.ErrForm", laid_quorate_api_ErrForm), ("quorate/api.ErrSpent", laid_quorate_api_ErrSpent), ("quorate/api.ErrPower", laid_quorate_api_ErrPower), ("quorate/api.ErrDisk", laid_quorate_api_ErrDisk), ("quorate/api.ErrFull", laid_quorate_api_ErrFull), ("quorate/api.ErrNone", laid_quorate_api_ErrNone), ("quorate/api.ErrOld", laid_quorate_api_ErrOld), ("quorate/api.ErrSet", laid_quorate_api_ErrSet), ("quorate/api.ErrProof", laid_quorate_api_ErrProof), ("quorate/api.ErrLeader", laid_quorate_api_ErrLeader), ("quorate/api.ErrRound", laid_quorate_api_ErrRound), ("quorate/api.ErrUnsafe", laid_quorate_api_ErrUnsafe), ("quorate/api.ErrParent", laid_quorate_api_ErrParent), ("quorate/api.ErrTwice", laid_quorate_api_ErrTwice), ("quorate/api.ErrEpoch", laid_quorate_api_ErrEpoch), ("quorate/hash.constants", laid_quorate_hash_constants)] }
def KeysApartSaid : Prop := keysApartRow.holds Tryd.pinned (OpenSpec.ofChange keysApartSpec)

/-- ITS FALSE NEIGHBOUR: 'it returns false'. Refute it at one input. -/
def keysApartWrong : ChangeSpec := { name := "keysApart", fn := fun _ => fun
  | [d1, d2, d3] => { results := [.lit (.bool false)], args := [d1, d2, d3] }
  | _ => none }
def KeysApartWrongFalsely : Prop := keysApartRow.holds Tryd.pinned (OpenSpec.ofChange keysApartWrong)

/-- 'quoratelaw05.KeysSigns': WHATEVER THE INPUT: true; the input reads as it did. -/
def keysSignsSpec : ChangeSpec := { name := "keysSigns", fn := fun _ => fun
  | [d1, d2, d3] => { results := [.lit (.bool true)], args := [d1, d2, d3] }
  | _ => none }
def keysSignsRow : OpenClaim := { program := "ytdedphhohiioiaadoor", sum := "c510cf54afca71941e2cf0235f152158c0ba67659641d66e182c30a544794db8", func := "quorate/quoratelaw05.KeysSigns", spec := "keysSigns", inPlace := ["internal/reflectlite.TypeOf"], unfollowed := true, recurses := true, named := ["quorate/api.ErrRange", "quorate/hash.constants", "quorate/api.ErrForm", "quorate/api.ErrSpent", "quorate/api.ErrShort", "quorate/api.ErrLong", "quorate/api.ErrPower", "quorate/api.ErrDisk", "quorate/api.ErrFull", "quorate/api.ErrNone", "quorate/api.ErrOld", "quorate/api.ErrSet", "quorate/api.ErrProof", "quorate/api.ErrLeader", "quorate/api.ErrRound", "quorate/api.ErrUnsafe", "quorate/api.ErrParent", "quorate/api.ErrTwice", "quorate/api.ErrEpoch"], apart := false, laid := [("quorate/api.ErrRange", laid_quorate_api_ErrRange), ("quorate/api.ErrShort", laid_quorate_api_ErrShort), ("quorate/api.ErrLong", laid_quorate_api_ErrLong), ("quorate/api.ErrForm", laid_quorate_api_ErrForm), ("quorate/api.ErrSpent", laid_quorate_api_ErrSpent), ("quorate/api.ErrPower", laid_quorate_api_ErrPower), ("quorate/api.ErrDisk", laid_quorate_api_ErrDisk), ("quorate/api.ErrFull", laid_quorate_api_ErrFull), ("quorate/api.ErrNone", laid_quorate_api_ErrNone), ("quorate/api.ErrOld", laid_quorate_api_ErrOld), ("quorate/api.ErrSet", laid_quorate_api_ErrSet), ("quorate/api.ErrProof", laid_quorate_api_ErrProof), ("quorate/api.ErrLeader", laid_quorate_api_ErrLeader), ("quorate/api.ErrRound", laid_quorate_api_ErrRound), ("quorate/api.ErrUnsafe", laid_quorate_api_ErrUnsafe), ("quorate/api.ErrParent", laid_quorate_api_ErrParent), ("quorate/api.ErrTwice", laid_quorate_api_ErrTwice), ("quorate/api.ErrEpoch", laid_quorate_api_ErrEpoch), ("quorate/hash.constants", laid_quorate_hash_constants)] }
def KeysSignsSaid : Prop := keysSignsRow.holds Tryd.pinned (OpenSpec.ofChange keysSignsSpec)

/-- ITS FALSE NEIGHBOUR: 'it returns false'. Refute it at one input. -/
def keysSignsWrong : ChangeSpec := { name := "keysSigns", fn := fun _ => fun
  | [d1, d2, d3] => { results := [.lit (.bool false)], args := [d1, d2, d3] }
  | _ => none }
def KeysSignsWrongFalsely : Prop := keysSignsRow.holds Tryd.pinned (OpenSpec.ofChange keysSignsWrong)

/-- 'quoratelaw05.KeysVerifies': WHATEVER THE INPUT: true; the input reads as it did. -/
def keysVerifiesSpec : ChangeSpec := { name := "keysVerifies", fn := fun _ => fun
  | [d1, d2, d3] => { results := [.lit (.bool true)], args := [d1, d2, d3] }
  | _ => none }
def keysVerifiesRow : OpenClaim := { program := "ytdedphhohiioiaadoor", sum := "c510cf54afca71941e2cf0235f152158c0ba67659641d66e182c30a544794db8", func := "quorate/quoratelaw05.KeysVerifies", spec := "keysVerifies", inPlace := ["internal/reflectlite.TypeOf"], unfollowed := true, recurses := true, named := ["quorate/api.ErrRange", "quorate/hash.constants", "quorate/api.ErrForm", "quorate/api.ErrSpent", "quorate/api.ErrShort", "quorate/api.ErrLong", "quorate/api.ErrPower", "quorate/api.ErrDisk", "quorate/api.ErrFull", "quorate/api.ErrNone", "quorate/api.ErrOld", "quorate/api.ErrSet", "quorate/api.ErrProof", "quorate/api.ErrLeader", "quorate/api.ErrRound", "quorate/api.ErrUnsafe", "quorate/api.ErrParent", "quorate/api.ErrTwice", "quorate/api.ErrEpoch"], apart := false, laid := [("quorate/api.ErrRange", laid_quorate_api_ErrRange), ("quorate/api.ErrShort", laid_quorate_api_ErrShort), ("quorate/api.ErrLong", laid_quorate_api_ErrLong), ("quorate/api.ErrForm", laid_quorate_api_ErrForm), ("quorate/api.ErrSpent", laid_quorate_api_ErrSpent), ("quorate/api.ErrPower", laid_quorate_api_ErrPower), ("quorate/api.ErrDisk", laid_quorate_api_ErrDisk), ("quorate/api.ErrFull", laid_quorate_api_ErrFull), ("quorate/api.ErrNone", laid_quorate_api_ErrNone), ("quorate/api.ErrOld", laid_quorate_api_ErrOld), ("quorate/api.ErrSet", laid_quorate_api_ErrSet), ("quorate/api.ErrProof", laid_quorate_api_ErrProof), ("quorate/api.ErrLeader", laid_quorate_api_ErrLeader), ("quorate/api.ErrRound", laid_quorate_api_ErrRound), ("quorate/api.ErrUnsafe", laid_quorate_api_ErrUnsafe), ("quorate/api.ErrParent", laid_quorate_api_ErrParent), ("quorate/api.ErrTwice", laid_quorate_api_ErrTwice), ("quorate/api.ErrEpoch", laid_quorate_api_ErrEpoch), ("quorate/hash.constants", laid_quorate_hash_constants)] }
def KeysVerifiesSaid : Prop := keysVerifiesRow.holds Tryd.pinned (OpenSpec.ofChange keysVerifiesSpec)

/-- ITS FALSE NEIGHBOUR: 'it returns false'. Refute it at one input. -/
def keysVerifiesWrong : ChangeSpec := { name := "keysVerifies", fn := fun _ => fun
  | [d1, d2, d3] => { results := [.lit (.bool false)], args := [d1, d2, d3] }
  | _ => none }
def KeysVerifiesWrongFalsely : Prop := keysVerifiesRow.holds Tryd.pinned (OpenSpec.ofChange keysVerifiesWrong)

/-- 'quoratelaw05.KeysSpoilt': WHATEVER THE INPUT: true; the input reads as it did. -/
def keysSpoiltSpec : ChangeSpec := { name := "keysSpoilt", fn := fun _ => fun
  | [d] => { results := [.lit (.bool true)], args := [d] }
  | _ => none }
def keysSpoiltRow : OpenClaim := { program := "ytdedphhohiioiaadoor", sum := "c510cf54afca71941e2cf0235f152158c0ba67659641d66e182c30a544794db8", func := "quorate/quoratelaw05.KeysSpoilt", spec := "keysSpoilt", inPlace := ["internal/reflectlite.TypeOf"], unfollowed := true, recurses := true, named := ["quorate/api.ErrRange", "quorate/hash.constants", "quorate/api.ErrForm", "quorate/api.ErrSpent", "quorate/api.ErrShort", "quorate/api.ErrLong", "quorate/api.ErrPower", "quorate/api.ErrDisk", "quorate/api.ErrFull", "quorate/api.ErrNone", "quorate/api.ErrOld", "quorate/api.ErrSet", "quorate/api.ErrProof", "quorate/api.ErrLeader", "quorate/api.ErrRound", "quorate/api.ErrUnsafe", "quorate/api.ErrParent", "quorate/api.ErrTwice", "quorate/api.ErrEpoch"], apart := false, laid := [("quorate/api.ErrRange", laid_quorate_api_ErrRange), ("quorate/api.ErrShort", laid_quorate_api_ErrShort), ("quorate/api.ErrLong", laid_quorate_api_ErrLong), ("quorate/api.ErrForm", laid_quorate_api_ErrForm), ("quorate/api.ErrSpent", laid_quorate_api_ErrSpent), ("quorate/api.ErrPower", laid_quorate_api_ErrPower), ("quorate/api.ErrDisk", laid_quorate_api_ErrDisk), ("quorate/api.ErrFull", laid_quorate_api_ErrFull), ("quorate/api.ErrNone", laid_quorate_api_ErrNone), ("quorate/api.ErrOld", laid_quorate_api_ErrOld), ("quorate/api.ErrSet", laid_quorate_api_ErrSet), ("quorate/api.ErrProof", laid_quorate_api_ErrProof), ("quorate/api.ErrLeader", laid_quorate_api_ErrLeader), ("quorate/api.ErrRound", laid_quorate_api_ErrRound), ("quorate/api.ErrUnsafe", laid_quorate_api_ErrUnsafe), ("quorate/api.ErrParent", laid_quorate_api_ErrParent), ("quorate/api.ErrTwice", laid_quorate_api_ErrTwice), ("quorate/api.ErrEpoch", laid_quorate_api_ErrEpoch), ("quorate/hash.constants", laid_quorate_hash_constants)] }
def KeysSpoiltSaid : Prop := keysSpoiltRow.holds Tryd.pinned (OpenSpec.ofChange keysSpoiltSpec)

/-- ITS FALSE NEIGHBOUR: 'it returns false'. Refute it at one input. -/
def keysSpoiltWrong : ChangeSpec := { name := "keysSpoilt", fn := fun _ => fun
  | [d] => { results := [.lit (.bool false)], args := [d] }
  | _ => none }
def KeysSpoiltWrongFalsely : Prop := keysSpoiltRow.holds Tryd.pinned (OpenSpec.ofChange keysSpoiltWrong)

/-- 'quoratelaw05.KeysMany': WHATEVER THE INPUT: true; the input reads as it did. -/
def keysManySpec : ChangeSpec := { name := "keysMany", fn := fun _ => fun
  | [d1, d2, d3] => { results := [.lit (.bool true)], args := [d1, d2, d3] }
  | _ => none }
def keysManyRow : OpenClaim := { program := "ytdedphhohiioiaadoor", sum := "c510cf54afca71941e2cf0235f152158c0ba67659641d66e182c30a544794db8", func := "quorate/quoratelaw05.KeysMany", spec := "keysMany", inPlace := ["internal/reflectlite.TypeOf"], unfollowed := true, recurses := true, named := ["quorate/api.ErrRange", "quorate/hash.constants", "quorate/api.ErrForm", "quorate/api.ErrSpent", "quorate/api.ErrShort", "quorate/api.ErrLong", "quorate/api.ErrPower", "quorate/api.ErrDisk", "quorate/api.ErrFull", "quorate/api.ErrNone", "quorate/api.ErrOld", "quorate/api.ErrSet", "quorate/api.ErrProof", "quorate/api.ErrLeader", "quorate/api.ErrRound", "quorate/api.ErrUnsafe", "quorate/api.ErrParent", "quorate/api.ErrTwice", "quorate/api.ErrEpoch"], apart := false, laid := [("quorate/api.ErrRange", laid_quorate_api_ErrRange), ("quorate/api.ErrShort", laid_quorate_api_ErrShort), ("quorate/api.ErrLong", laid_quorate_api_ErrLong), ("quorate/api.ErrForm", laid_quorate_api_ErrForm), ("quorate/api.ErrSpent", laid_quorate_api_ErrSpent), ("quorate/api.ErrPower", laid_quorate_api_ErrPower), ("quorate/api.ErrDisk", laid_quorate_api_ErrDisk), ("quorate/api.ErrFull", laid_quorate_api_ErrFull), ("quorate/api.ErrNone", laid_quorate_api_ErrNone), ("quorate/api.ErrOld", laid_quorate_api_ErrOld), ("quorate/api.ErrSet", laid_quorate_api_ErrSet), ("quorate/api.ErrProof", laid_quorate_api_ErrProof), ("quorate/api.ErrLeader", laid_quorate_api_ErrLeader), ("quorate/api.ErrRound", laid_quorate_api_ErrRound), ("quorate/api.ErrUnsafe", laid_quorate_api_ErrUnsafe), ("quorate/api.ErrParent", laid_quorate_api_ErrParent), ("quorate/api.ErrTwice", laid_quorate_api_ErrTwice), ("quorate/api.ErrEpoch", laid_quorate_api_ErrEpoch), ("quorate/hash.constants", laid_quorate_hash_constants)] }
def KeysManySaid : Prop := keysManyRow.holds Tryd.pinned (OpenSpec.ofChange keysManySpec)

/-- ITS FALSE NEIGHBOUR: 'it returns false'. Refute it at one input. -/
def keysManyWrong : ChangeSpec := { name := "keysMany", fn := fun _ => fun
  | [d1, d2, d3] => { results := [.lit (.bool false)], args := [d1, d2, d3] }
  | _ => none }
def KeysManyWrongFalsely : Prop := keysManyRow.holds Tryd.pinned (OpenSpec.ofChange keysManyWrong)

/- THE SECOND FORM. 'bulk': how many values and letters a reading holds, each counted each time it is reached (what is shared counts as often as it is met; a slice's spare places count too). A statement '..UptoSaid' is the law's where the arguments, and the package variables that the reading takes, are together of bulk at most 1048576: NARROWER than '..Said'. Prove '..Said' where nothing that the law and all that it calls make is longer than what came in: it says more and counts as full. Else prove '..UptoSaid'. A law counts once. -/
mutual
def uptoBulk {H : Type} : DataW H → Nat
  | .lit (.string bytes) => bytes.length + 1
  | .lit _ => 1
  | .nil => 1
  | .ptr d => uptoBulk d + 1
  | .slice elems spare => uptoBulkAll elems + uptoBulkAll spare + 1
  | .agg parts => uptoBulkAll parts + 1
  | .iface _ d => uptoBulk d + 1
  | .map entries => uptoBulkEntries entries + 1
  | .held _ => 1
def uptoBulkAll {H : Type} : List (DataW H) → Nat
  | [] => 0
  | d :: r => uptoBulk d + uptoBulkAll r
def uptoBulkEntries {H : Type} : List (Lit × DataW H) → Nat
  | [] => 0
  | x :: r => uptoBulkEntry x + uptoBulkEntries r
def uptoBulkEntry {H : Type} : Lit × DataW H → Nat
  | (.string bytes, d) => bytes.length + uptoBulk d + 1
  | (_, d) => uptoBulk d + 1
 end
def uptoSmall : (H : Type) → List (DataW H) → Bool := fun _ ds => decide (uptoBulkAll ds ≤ 1048576)
def OpenSpec.upto (s : _root_.Go.ChangeSpec) : _root_.Go.OpenSpec := { _root_.Go.OpenSpec.ofChange s with cond := some uptoSmall }

/-- 'quoratelaw02.HashSums', WHERE WHAT IT READS IS OF BULK AT MOST 1048576: true; the input reads as it did. -/
def hashSumsUptoRow : OpenClaim := { program := "ytdedphhohiioiaadoor", sum := "c510cf54afca71941e2cf0235f152158c0ba67659641d66e182c30a544794db8", func := "quorate/quoratelaw02.HashSums", spec := "hashSums", named := ["quorate/hash.constants"], apart := false, laid := [("quorate/hash.constants", laid_quorate_hash_constants)], narrowed := true }
def HashSumsUptoSaid : Prop := hashSumsUptoRow.holds Tryd.pinned (OpenSpec.upto hashSumsSpec)

/-- 'quoratelaw02.HashPieces', WHERE WHAT IT READS IS OF BULK AT MOST 1048576: true; the input reads as it did. -/
def hashPiecesUptoRow : OpenClaim := { program := "ytdedphhohiioiaadoor", sum := "c510cf54afca71941e2cf0235f152158c0ba67659641d66e182c30a544794db8", func := "quorate/quoratelaw02.HashPieces", spec := "hashPieces", named := ["quorate/hash.constants"], apart := false, laid := [("quorate/hash.constants", laid_quorate_hash_constants)], narrowed := true }
def HashPiecesUptoSaid : Prop := hashPiecesUptoRow.holds Tryd.pinned (OpenSpec.upto hashPiecesSpec)

/-- 'quoratelaw02.HashKnown', WHERE WHAT IT READS IS OF BULK AT MOST 1048576: true; the input reads as it did. -/
def hashKnownUptoRow : OpenClaim := { program := "ytdedphhohiioiaadoor", sum := "c510cf54afca71941e2cf0235f152158c0ba67659641d66e182c30a544794db8", func := "quorate/quoratelaw02.HashKnown", spec := "hashKnown", named := ["quorate/hash.constants"], apart := false, laid := [("quorate/hash.constants", laid_quorate_hash_constants)], narrowed := true }
def HashKnownUptoSaid : Prop := hashKnownUptoRow.holds Tryd.pinned (OpenSpec.upto hashKnownSpec)

/-- 'quoratelaw02.HashBytes', WHERE WHAT IT READS IS OF BULK AT MOST 1048576: true; the input reads as it did. -/
def hashBytesUptoRow : OpenClaim := { program := "ytdedphhohiioiaadoor", sum := "c510cf54afca71941e2cf0235f152158c0ba67659641d66e182c30a544794db8", func := "quorate/quoratelaw02.HashBytes", spec := "hashBytes", named := ["quorate/hash.constants"], apart := false, laid := [("quorate/hash.constants", laid_quorate_hash_constants)], narrowed := true }
def HashBytesUptoSaid : Prop := hashBytesUptoRow.holds Tryd.pinned (OpenSpec.upto hashBytesSpec)

/-- 'quoratelaw02.HashOf', WHERE WHAT IT READS IS OF BULK AT MOST 1048576: true; the input reads as it did. -/
def hashOfUptoRow : OpenClaim := { program := "ytdedphhohiioiaadoor", sum := "c510cf54afca71941e2cf0235f152158c0ba67659641d66e182c30a544794db8", func := "quorate/quoratelaw02.HashOf", spec := "hashOf", named := ["quorate/hash.constants"], apart := false, laid := [("quorate/hash.constants", laid_quorate_hash_constants)], narrowed := true }
def HashOfUptoSaid : Prop := hashOfUptoRow.holds Tryd.pinned (OpenSpec.upto hashOfSpec)

/-- 'quoratelaw02.HashZero', WHERE WHAT IT READS IS OF BULK AT MOST 1048576: true; the input reads as it did. -/
def hashZeroUptoRow : OpenClaim := { program := "ytdedphhohiioiaadoor", sum := "c510cf54afca71941e2cf0235f152158c0ba67659641d66e182c30a544794db8", func := "quorate/quoratelaw02.HashZero", spec := "hashZero", named := ["quorate/hash.constants"], apart := false, laid := [("quorate/hash.constants", laid_quorate_hash_constants)], narrowed := true }
def HashZeroUptoSaid : Prop := hashZeroUptoRow.holds Tryd.pinned (OpenSpec.upto hashZeroSpec)

/-- 'quoratelaw03.ChainsGo', WHERE WHAT IT READS IS OF BULK AT MOST 1048576: true; the input reads as it did. -/
def chainsGoUptoRow : OpenClaim := { program := "ytdedphhohiioiaadoor", sum := "c510cf54afca71941e2cf0235f152158c0ba67659641d66e182c30a544794db8", func := "quorate/quoratelaw03.ChainsGo", spec := "chainsGo", named := ["quorate/hash.constants"], apart := false, laid := [("quorate/hash.constants", laid_quorate_hash_constants)], narrowed := true }
def ChainsGoUptoSaid : Prop := chainsGoUptoRow.holds Tryd.pinned (OpenSpec.upto chainsGoSpec)

/-- 'quoratelaw03.ChainsRuns', WHERE WHAT IT READS IS OF BULK AT MOST 1048576: true; the input reads as it did. -/
def chainsRunsUptoRow : OpenClaim := { program := "ytdedphhohiioiaadoor", sum := "c510cf54afca71941e2cf0235f152158c0ba67659641d66e182c30a544794db8", func := "quorate/quoratelaw03.ChainsRuns", spec := "chainsRuns", named := ["quorate/hash.constants"], apart := false, laid := [("quorate/hash.constants", laid_quorate_hash_constants)], narrowed := true }
def ChainsRunsUptoSaid : Prop := chainsRunsUptoRow.holds Tryd.pinned (OpenSpec.upto chainsRunsSpec)

/-- 'quoratelaw04.TreesWays', WHERE WHAT IT READS IS OF BULK AT MOST 1048576: true; the input reads as it did. -/
def treesWaysUptoRow : OpenClaim := { program := "ytdedphhohiioiaadoor", sum := "c510cf54afca71941e2cf0235f152158c0ba67659641d66e182c30a544794db8", func := "quorate/quoratelaw04.TreesWays", spec := "treesWays", unfollowed := true, recurses := true, named := ["quorate/hash.constants", "quorate/api.ErrForm", "quorate/api.ErrRange"], apart := false, laid := [("quorate/api.ErrRange", laid_quorate_api_ErrRange), ("quorate/api.ErrForm", laid_quorate_api_ErrForm), ("quorate/hash.constants", laid_quorate_hash_constants)], narrowed := true }
def TreesWaysUptoSaid : Prop := treesWaysUptoRow.holds Tryd.pinned (OpenSpec.upto treesWaysSpec)

/-- 'quoratelaw04.TreesClimbs', WHERE WHAT IT READS IS OF BULK AT MOST 1048576: true; the input reads as it did. -/
def treesClimbsUptoRow : OpenClaim := { program := "ytdedphhohiioiaadoor", sum := "c510cf54afca71941e2cf0235f152158c0ba67659641d66e182c30a544794db8", func := "quorate/quoratelaw04.TreesClimbs", spec := "treesClimbs", inPlace := ["internal/reflectlite.TypeOf"], unfollowed := true, recurses := true, named := ["quorate/hash.constants", "quorate/api.ErrRange", "quorate/api.ErrForm", "quorate/api.ErrShort", "quorate/api.ErrLong", "quorate/api.ErrSpent", "quorate/api.ErrPower", "quorate/api.ErrDisk", "quorate/api.ErrFull", "quorate/api.ErrNone", "quorate/api.ErrOld", "quorate/api.ErrSet", "quorate/api.ErrProof", "quorate/api.ErrLeader", "quorate/api.ErrRound", "quorate/api.ErrUnsafe", "quorate/api.ErrParent", "quorate/api.ErrTwice", "quorate/api.ErrEpoch"], apart := false, laid := [("quorate/api.ErrRange", laid_quorate_api_ErrRange), ("quorate/api.ErrShort", laid_quorate_api_ErrShort), ("quorate/api.ErrLong", laid_quorate_api_ErrLong), ("quorate/api.ErrForm", laid_quorate_api_ErrForm), ("quorate/api.ErrSpent", laid_quorate_api_ErrSpent), ("quorate/api.ErrPower", laid_quorate_api_ErrPower), ("quorate/api.ErrDisk", laid_quorate_api_ErrDisk), ("quorate/api.ErrFull", laid_quorate_api_ErrFull), ("quorate/api.ErrNone", laid_quorate_api_ErrNone), ("quorate/api.ErrOld", laid_quorate_api_ErrOld), ("quorate/api.ErrSet", laid_quorate_api_ErrSet), ("quorate/api.ErrProof", laid_quorate_api_ErrProof), ("quorate/api.ErrLeader", laid_quorate_api_ErrLeader), ("quorate/api.ErrRound", laid_quorate_api_ErrRound), ("quorate/api.ErrUnsafe", laid_quorate_api_ErrUnsafe), ("quorate/api.ErrParent", laid_quorate_api_ErrParent), ("quorate/api.ErrTwice", laid_quorate_api_ErrTwice), ("quorate/api.ErrEpoch", laid_quorate_api_ErrEpoch), ("quorate/hash.constants", laid_quorate_hash_constants)], narrowed := true }
def TreesClimbsUptoSaid : Prop := treesClimbsUptoRow.holds Tryd.pinned (OpenSpec.upto treesClimbsSpec)

/-- 'quoratelaw03.ChainsKept', WHERE WHAT IT READS IS OF BULK AT MOST 1048576: true; the input reads as it did. -/
def chainsKeptUptoRow : OpenClaim := { program := "ytdedphhohiioiaadoor", sum := "c510cf54afca71941e2cf0235f152158c0ba67659641d66e182c30a544794db8", func := "quorate/quoratelaw03.ChainsKept", spec := "chainsKept", unfollowed := true, recurses := true, named := ["quorate/api.ErrRange", "quorate/hash.constants", "quorate/api.ErrForm"], apart := false, laid := [("quorate/api.ErrRange", laid_quorate_api_ErrRange), ("quorate/api.ErrForm", laid_quorate_api_ErrForm), ("quorate/hash.constants", laid_quorate_hash_constants)], narrowed := true }
def ChainsKeptUptoSaid : Prop := chainsKeptUptoRow.holds Tryd.pinned (OpenSpec.upto chainsKeptSpec)

/-- 'quoratelaw03.ChainsPublic', WHERE WHAT IT READS IS OF BULK AT MOST 1048576: true; the input reads as it did. -/
def chainsPublicUptoRow : OpenClaim := { program := "ytdedphhohiioiaadoor", sum := "c510cf54afca71941e2cf0235f152158c0ba67659641d66e182c30a544794db8", func := "quorate/quoratelaw03.ChainsPublic", spec := "chainsPublic", unfollowed := true, recurses := true, named := ["quorate/api.ErrRange", "quorate/hash.constants", "quorate/api.ErrForm"], apart := false, laid := [("quorate/api.ErrRange", laid_quorate_api_ErrRange), ("quorate/api.ErrForm", laid_quorate_api_ErrForm), ("quorate/hash.constants", laid_quorate_hash_constants)], narrowed := true }
def ChainsPublicUptoSaid : Prop := chainsPublicUptoRow.holds Tryd.pinned (OpenSpec.upto chainsPublicSpec)

/-- 'quoratelaw04.TreesAll', WHERE WHAT IT READS IS OF BULK AT MOST 1048576: true; the input reads as it did. -/
def treesAllUptoRow : OpenClaim := { program := "ytdedphhohiioiaadoor", sum := "c510cf54afca71941e2cf0235f152158c0ba67659641d66e182c30a544794db8", func := "quorate/quoratelaw04.TreesAll", spec := "treesAll", unfollowed := true, recurses := true, named := ["quorate/hash.constants", "quorate/api.ErrForm", "quorate/api.ErrRange"], apart := false, laid := [("quorate/api.ErrRange", laid_quorate_api_ErrRange), ("quorate/api.ErrForm", laid_quorate_api_ErrForm), ("quorate/hash.constants", laid_quorate_hash_constants)], narrowed := true }
def TreesAllUptoSaid : Prop := treesAllUptoRow.holds Tryd.pinned (OpenSpec.upto treesAllSpec)

/-- 'quoratelaw04.TreesKept', WHERE WHAT IT READS IS OF BULK AT MOST 1048576: true; the input reads as it did. -/
def treesKeptUptoRow : OpenClaim := { program := "ytdedphhohiioiaadoor", sum := "c510cf54afca71941e2cf0235f152158c0ba67659641d66e182c30a544794db8", func := "quorate/quoratelaw04.TreesKept", spec := "treesKept", unfollowed := true, recurses := true, named := ["quorate/hash.constants", "quorate/api.ErrForm", "quorate/api.ErrRange"], apart := false, laid := [("quorate/api.ErrRange", laid_quorate_api_ErrRange), ("quorate/api.ErrForm", laid_quorate_api_ErrForm), ("quorate/hash.constants", laid_quorate_hash_constants)], narrowed := true }
def TreesKeptUptoSaid : Prop := treesKeptUptoRow.holds Tryd.pinned (OpenSpec.upto treesKeptSpec)

/-- 'quoratelaw03.ChainsRecovers', WHERE WHAT IT READS IS OF BULK AT MOST 1048576: true; the input reads as it did. -/
def chainsRecoversUptoRow : OpenClaim := { program := "ytdedphhohiioiaadoor", sum := "c510cf54afca71941e2cf0235f152158c0ba67659641d66e182c30a544794db8", func := "quorate/quoratelaw03.ChainsRecovers", spec := "chainsRecovers", inPlace := ["internal/reflectlite.TypeOf"], unfollowed := true, recurses := true, named := ["quorate/api.ErrRange", "quorate/api.ErrForm", "quorate/hash.constants", "quorate/api.ErrShort", "quorate/api.ErrLong", "quorate/api.ErrSpent", "quorate/api.ErrPower", "quorate/api.ErrDisk", "quorate/api.ErrFull", "quorate/api.ErrNone", "quorate/api.ErrOld", "quorate/api.ErrSet", "quorate/api.ErrProof", "quorate/api.ErrLeader", "quorate/api.ErrRound", "quorate/api.ErrUnsafe", "quorate/api.ErrParent", "quorate/api.ErrTwice", "quorate/api.ErrEpoch"], apart := false, laid := [("quorate/api.ErrRange", laid_quorate_api_ErrRange), ("quorate/api.ErrShort", laid_quorate_api_ErrShort), ("quorate/api.ErrLong", laid_quorate_api_ErrLong), ("quorate/api.ErrForm", laid_quorate_api_ErrForm), ("quorate/api.ErrSpent", laid_quorate_api_ErrSpent), ("quorate/api.ErrPower", laid_quorate_api_ErrPower), ("quorate/api.ErrDisk", laid_quorate_api_ErrDisk), ("quorate/api.ErrFull", laid_quorate_api_ErrFull), ("quorate/api.ErrNone", laid_quorate_api_ErrNone), ("quorate/api.ErrOld", laid_quorate_api_ErrOld), ("quorate/api.ErrSet", laid_quorate_api_ErrSet), ("quorate/api.ErrProof", laid_quorate_api_ErrProof), ("quorate/api.ErrLeader", laid_quorate_api_ErrLeader), ("quorate/api.ErrRound", laid_quorate_api_ErrRound), ("quorate/api.ErrUnsafe", laid_quorate_api_ErrUnsafe), ("quorate/api.ErrParent", laid_quorate_api_ErrParent), ("quorate/api.ErrTwice", laid_quorate_api_ErrTwice), ("quorate/api.ErrEpoch", laid_quorate_api_ErrEpoch), ("quorate/hash.constants", laid_quorate_hash_constants)], narrowed := true }
def ChainsRecoversUptoSaid : Prop := chainsRecoversUptoRow.holds Tryd.pinned (OpenSpec.upto chainsRecoversSpec)

/-- 'quoratelaw03.ChainsSigns', WHERE WHAT IT READS IS OF BULK AT MOST 1048576: true; the input reads as it did. -/
def chainsSignsUptoRow : OpenClaim := { program := "ytdedphhohiioiaadoor", sum := "c510cf54afca71941e2cf0235f152158c0ba67659641d66e182c30a544794db8", func := "quorate/quoratelaw03.ChainsSigns", spec := "chainsSigns", inPlace := ["internal/reflectlite.TypeOf"], unfollowed := true, recurses := true, named := ["quorate/api.ErrRange", "quorate/hash.constants", "quorate/api.ErrShort", "quorate/api.ErrLong", "quorate/api.ErrForm", "quorate/api.ErrSpent", "quorate/api.ErrPower", "quorate/api.ErrDisk", "quorate/api.ErrFull", "quorate/api.ErrNone", "quorate/api.ErrOld", "quorate/api.ErrSet", "quorate/api.ErrProof", "quorate/api.ErrLeader", "quorate/api.ErrRound", "quorate/api.ErrUnsafe", "quorate/api.ErrParent", "quorate/api.ErrTwice", "quorate/api.ErrEpoch"], apart := false, laid := [("quorate/api.ErrRange", laid_quorate_api_ErrRange), ("quorate/api.ErrShort", laid_quorate_api_ErrShort), ("quorate/api.ErrLong", laid_quorate_api_ErrLong), ("quorate/api.ErrForm", laid_quorate_api_ErrForm), ("quorate/api.ErrSpent", laid_quorate_api_ErrSpent), ("quorate/api.ErrPower", laid_quorate_api_ErrPower), ("quorate/api.ErrDisk", laid_quorate_api_ErrDisk), ("quorate/api.ErrFull", laid_quorate_api_ErrFull), ("quorate/api.ErrNone", laid_quorate_api_ErrNone), ("quorate/api.ErrOld", laid_quorate_api_ErrOld), ("quorate/api.ErrSet", laid_quorate_api_ErrSet), ("quorate/api.ErrProof", laid_quorate_api_ErrProof), ("quorate/api.ErrLeader", laid_quorate_api_ErrLeader), ("quorate/api.ErrRound", laid_quorate_api_ErrRound), ("quorate/api.ErrUnsafe", laid_quorate_api_ErrUnsafe), ("quorate/api.ErrParent", laid_quorate_api_ErrParent), ("quorate/api.ErrTwice", laid_quorate_api_ErrTwice), ("quorate/api.ErrEpoch", laid_quorate_api_ErrEpoch), ("quorate/hash.constants", laid_quorate_hash_constants)], narrowed := true }
def ChainsSignsUptoSaid : Prop := chainsSignsUptoRow.holds Tryd.pinned (OpenSpec.upto chainsSignsSpec)

/-- 'quoratelaw04.TreesRoots', WHERE WHAT IT READS IS OF BULK AT MOST 1048576: true; the input reads as it did. -/
def treesRootsUptoRow : OpenClaim := { program := "ytdedphhohiioiaadoor", sum := "c510cf54afca71941e2cf0235f152158c0ba67659641d66e182c30a544794db8", func := "quorate/quoratelaw04.TreesRoots", spec := "treesRoots", inPlace := ["internal/reflectlite.TypeOf"], unfollowed := true, recurses := true, named := ["quorate/hash.constants", "quorate/api.ErrForm", "quorate/api.ErrRange", "quorate/api.ErrShort", "quorate/api.ErrLong", "quorate/api.ErrSpent", "quorate/api.ErrPower", "quorate/api.ErrDisk", "quorate/api.ErrFull", "quorate/api.ErrNone", "quorate/api.ErrOld", "quorate/api.ErrSet", "quorate/api.ErrProof", "quorate/api.ErrLeader", "quorate/api.ErrRound", "quorate/api.ErrUnsafe", "quorate/api.ErrParent", "quorate/api.ErrTwice", "quorate/api.ErrEpoch"], apart := false, laid := [("quorate/api.ErrRange", laid_quorate_api_ErrRange), ("quorate/api.ErrShort", laid_quorate_api_ErrShort), ("quorate/api.ErrLong", laid_quorate_api_ErrLong), ("quorate/api.ErrForm", laid_quorate_api_ErrForm), ("quorate/api.ErrSpent", laid_quorate_api_ErrSpent), ("quorate/api.ErrPower", laid_quorate_api_ErrPower), ("quorate/api.ErrDisk", laid_quorate_api_ErrDisk), ("quorate/api.ErrFull", laid_quorate_api_ErrFull), ("quorate/api.ErrNone", laid_quorate_api_ErrNone), ("quorate/api.ErrOld", laid_quorate_api_ErrOld), ("quorate/api.ErrSet", laid_quorate_api_ErrSet), ("quorate/api.ErrProof", laid_quorate_api_ErrProof), ("quorate/api.ErrLeader", laid_quorate_api_ErrLeader), ("quorate/api.ErrRound", laid_quorate_api_ErrRound), ("quorate/api.ErrUnsafe", laid_quorate_api_ErrUnsafe), ("quorate/api.ErrParent", laid_quorate_api_ErrParent), ("quorate/api.ErrTwice", laid_quorate_api_ErrTwice), ("quorate/api.ErrEpoch", laid_quorate_api_ErrEpoch), ("quorate/hash.constants", laid_quorate_hash_constants)], narrowed := true }
def TreesRootsUptoSaid : Prop := treesRootsUptoRow.holds Tryd.pinned (OpenSpec.upto treesRootsSpec)

/-- 'quoratelaw05.KeysApart', WHERE WHAT IT READS IS OF BULK AT MOST 1048576: true; the input reads as it did. -/
def keysApartUptoRow : OpenClaim := { program := "ytdedphhohiioiaadoor", sum := "c510cf54afca71941e2cf0235f152158c0ba67659641d66e182c30a544794db8", func := "quorate/quoratelaw05.KeysApart", spec := "keysApart", inPlace := ["internal/reflectlite.TypeOf"], unfollowed := true, recurses := true, named := ["quorate/api.ErrRange", "quorate/hash.constants", "quorate/api.ErrForm", "quorate/api.ErrSpent", "quorate/api.ErrShort", "quorate/api.ErrLong", "quorate/api.ErrPower", "quorate/api.ErrDisk", "quorate/api.ErrFull", "quorate/api.ErrNone", "quorate/api.ErrOld", "quorate/api.ErrSet", "quorate/api.ErrProof", "quorate/api.ErrLeader", "quorate/api.ErrRound", "quorate/api.ErrUnsafe", "quorate/api.ErrParent", "quorate/api.ErrTwice", "quorate/api.ErrEpoch"], apart := false, laid := [("quorate/api.ErrRange", laid_quorate_api_ErrRange), ("quorate/api.ErrShort", laid_quorate_api_ErrShort), ("quorate/api.ErrLong", laid_quorate_api_ErrLong), ("quorate/api.ErrForm", laid_quorate_api_ErrForm), ("quorate/api.ErrSpent", laid_quorate_api_ErrSpent), ("quorate/api.ErrPower", laid_quorate_api_ErrPower), ("quorate/api.ErrDisk", laid_quorate_api_ErrDisk), ("quorate/api.ErrFull", laid_quorate_api_ErrFull), ("quorate/api.ErrNone", laid_quorate_api_ErrNone), ("quorate/api.ErrOld", laid_quorate_api_ErrOld), ("quorate/api.ErrSet", laid_quorate_api_ErrSet), ("quorate/api.ErrProof", laid_quorate_api_ErrProof), ("quorate/api.ErrLeader", laid_quorate_api_ErrLeader), ("quorate/api.ErrRound", laid_quorate_api_ErrRound), ("quorate/api.ErrUnsafe", laid_quorate_api_ErrUnsafe), ("quorate/api.ErrParent", laid_quorate_api_ErrParent), ("quorate/api.ErrTwice", laid_quorate_api_ErrTwice), ("quorate/api.ErrEpoch", laid_quorate_api_ErrEpoch), ("quorate/hash.constants", laid_quorate_hash_constants)], narrowed := true }
def KeysApartUptoSaid : Prop := keysApartUptoRow.holds Tryd.pinned (OpenSpec.upto keysApartSpec)

/-- 'quoratelaw05.KeysSigns', WHERE WHAT IT READS IS OF BULK AT MOST 1048576: true; the input reads as it did. -/
def keysSignsUptoRow : OpenClaim := { program := "ytdedphhohiioiaadoor", sum := "c510cf54afca71941e2cf0235f152158c0ba67659641d66e182c30a544794db8", func := "quorate/quoratelaw05.KeysSigns", spec := "keysSigns", inPlace := ["internal/reflectlite.TypeOf"], unfollowed := true, recurses := true, named := ["quorate/api.ErrRange", "quorate/hash.constants", "quorate/api.ErrForm", "quorate/api.ErrSpent", "quorate/api.ErrShort", "quorate/api.ErrLong", "quorate/api.ErrPower", "quorate/api.ErrDisk", "quorate/api.ErrFull", "quorate/api.ErrNone", "quorate/api.ErrOld", "quorate/api.ErrSet", "quorate/api.ErrProof", "quorate/api.ErrLeader", "quorate/api.ErrRound", "quorate/api.ErrUnsafe", "quorate/api.ErrParent", "quorate/api.ErrTwice", "quorate/api.ErrEpoch"], apart := false, laid := [("quorate/api.ErrRange", laid_quorate_api_ErrRange), ("quorate/api.ErrShort", laid_quorate_api_ErrShort), ("quorate/api.ErrLong", laid_quorate_api_ErrLong), ("quorate/api.ErrForm", laid_quorate_api_ErrForm), ("quorate/api.ErrSpent", laid_quorate_api_ErrSpent), ("quorate/api.ErrPower", laid_quorate_api_ErrPower), ("quorate/api.ErrDisk", laid_quorate_api_ErrDisk), ("quorate/api.ErrFull", laid_quorate_api_ErrFull), ("quorate/api.ErrNone", laid_quorate_api_ErrNone), ("quorate/api.ErrOld", laid_quorate_api_ErrOld), ("quorate/api.ErrSet", laid_quorate_api_ErrSet), ("quorate/api.ErrProof", laid_quorate_api_ErrProof), ("quorate/api.ErrLeader", laid_quorate_api_ErrLeader), ("quorate/api.ErrRound", laid_quorate_api_ErrRound), ("quorate/api.ErrUnsafe", laid_quorate_api_ErrUnsafe), ("quorate/api.ErrParent", laid_quorate_api_ErrParent), ("quorate/api.ErrTwice", laid_quorate_api_ErrTwice), ("quorate/api.ErrEpoch", laid_quorate_api_ErrEpoch), ("quorate/hash.constants", laid_quorate_hash_constants)], narrowed := true }
def KeysSignsUptoSaid : Prop := keysSignsUptoRow.holds Tryd.pinned (OpenSpec.upto keysSignsSpec)

/-- 'quoratelaw05.KeysVerifies', WHERE WHAT IT READS IS OF BULK AT MOST 1048576: true; the input reads as it did. -/
def keysVerifiesUptoRow : OpenClaim := { program := "ytdedphhohiioiaadoor", sum := "c510cf54afca71941e2cf0235f152158c0ba67659641d66e182c30a544794db8", func := "quorate/quoratelaw05.KeysVerifies", spec := "keysVerifies", inPlace := ["internal/reflectlite.TypeOf"], unfollowed := true, recurses := true, named := ["quorate/api.ErrRange", "quorate/hash.constants", "quorate/api.ErrForm", "quorate/api.ErrSpent", "quorate/api.ErrShort", "quorate/api.ErrLong", "quorate/api.ErrPower", "quorate/api.ErrDisk", "quorate/api.ErrFull", "quorate/api.ErrNone", "quorate/api.ErrOld", "quorate/api.ErrSet", "quorate/api.ErrProof", "quorate/api.ErrLeader", "quorate/api.ErrRound", "quorate/api.ErrUnsafe", "quorate/api.ErrParent", "quorate/api.ErrTwice", "quorate/api.ErrEpoch"], apart := false, laid := [("quorate/api.ErrRange", laid_quorate_api_ErrRange), ("quorate/api.ErrShort", laid_quorate_api_ErrShort), ("quorate/api.ErrLong", laid_quorate_api_ErrLong), ("quorate/api.ErrForm", laid_quorate_api_ErrForm), ("quorate/api.ErrSpent", laid_quorate_api_ErrSpent), ("quorate/api.ErrPower", laid_quorate_api_ErrPower), ("quorate/api.ErrDisk", laid_quorate_api_ErrDisk), ("quorate/api.ErrFull", laid_quorate_api_ErrFull), ("quorate/api.ErrNone", laid_quorate_api_ErrNone), ("quorate/api.ErrOld", laid_quorate_api_ErrOld), ("quorate/api.ErrSet", laid_quorate_api_ErrSet), ("quorate/api.ErrProof", laid_quorate_api_ErrProof), ("quorate/api.ErrLeader", laid_quorate_api_ErrLeader), ("quorate/api.ErrRound", laid_quorate_api_ErrRound), ("quorate/api.ErrUnsafe", laid_quorate_api_ErrUnsafe), ("quorate/api.ErrParent", laid_quorate_api_ErrParent), ("quorate/api.ErrTwice", laid_quorate_api_ErrTwice), ("quorate/api.ErrEpoch", laid_quorate_api_ErrEpoch), ("quorate/hash.constants", laid_quorate_hash_constants)], narrowed := true }
def KeysVerifiesUptoSaid : Prop := keysVerifiesUptoRow.holds Tryd.pinned (OpenSpec.upto keysVerifiesSpec)

/-- 'quoratelaw05.KeysSpoilt', WHERE WHAT IT READS IS OF BULK AT MOST 1048576: true; the input reads as it did. -/
def keysSpoiltUptoRow : OpenClaim := { program := "ytdedphhohiioiaadoor", sum := "c510cf54afca71941e2cf0235f152158c0ba67659641d66e182c30a544794db8", func := "quorate/quoratelaw05.KeysSpoilt", spec := "keysSpoilt", inPlace := ["internal/reflectlite.TypeOf"], unfollowed := true, recurses := true, named := ["quorate/api.ErrRange", "quorate/hash.constants", "quorate/api.ErrForm", "quorate/api.ErrSpent", "quorate/api.ErrShort", "quorate/api.ErrLong", "quorate/api.ErrPower", "quorate/api.ErrDisk", "quorate/api.ErrFull", "quorate/api.ErrNone", "quorate/api.ErrOld", "quorate/api.ErrSet", "quorate/api.ErrProof", "quorate/api.ErrLeader", "quorate/api.ErrRound", "quorate/api.ErrUnsafe", "quorate/api.ErrParent", "quorate/api.ErrTwice", "quorate/api.ErrEpoch"], apart := false, laid := [("quorate/api.ErrRange", laid_quorate_api_ErrRange), ("quorate/api.ErrShort", laid_quorate_api_ErrShort), ("quorate/api.ErrLong", laid_quorate_api_ErrLong), ("quorate/api.ErrForm", laid_quorate_api_ErrForm), ("quorate/api.ErrSpent", laid_quorate_api_ErrSpent), ("quorate/api.ErrPower", laid_quorate_api_ErrPower), ("quorate/api.ErrDisk", laid_quorate_api_ErrDisk), ("quorate/api.ErrFull", laid_quorate_api_ErrFull), ("quorate/api.ErrNone", laid_quorate_api_ErrNone), ("quorate/api.ErrOld", laid_quorate_api_ErrOld), ("quorate/api.ErrSet", laid_quorate_api_ErrSet), ("quorate/api.ErrProof", laid_quorate_api_ErrProof), ("quorate/api.ErrLeader", laid_quorate_api_ErrLeader), ("quorate/api.ErrRound", laid_quorate_api_ErrRound), ("quorate/api.ErrUnsafe", laid_quorate_api_ErrUnsafe), ("quorate/api.ErrParent", laid_quorate_api_ErrParent), ("quorate/api.ErrTwice", laid_quorate_api_ErrTwice), ("quorate/api.ErrEpoch", laid_quorate_api_ErrEpoch), ("quorate/hash.constants", laid_quorate_hash_constants)], narrowed := true }
def KeysSpoiltUptoSaid : Prop := keysSpoiltUptoRow.holds Tryd.pinned (OpenSpec.upto keysSpoiltSpec)

/-- 'quoratelaw05.KeysMany', WHERE WHAT IT READS IS OF BULK AT MOST 1048576: true; the input reads as it did. -/
def keysManyUptoRow : OpenClaim := { program := "ytdedphhohiioiaadoor", sum := "c510cf54afca71941e2cf0235f152158c0ba67659641d66e182c30a544794db8", func := "quorate/quoratelaw05.KeysMany", spec := "keysMany", inPlace := ["internal/reflectlite.TypeOf"], unfollowed := true, recurses := true, named := ["quorate/api.ErrRange", "quorate/hash.constants", "quorate/api.ErrForm", "quorate/api.ErrSpent", "quorate/api.ErrShort", "quorate/api.ErrLong", "quorate/api.ErrPower", "quorate/api.ErrDisk", "quorate/api.ErrFull", "quorate/api.ErrNone", "quorate/api.ErrOld", "quorate/api.ErrSet", "quorate/api.ErrProof", "quorate/api.ErrLeader", "quorate/api.ErrRound", "quorate/api.ErrUnsafe", "quorate/api.ErrParent", "quorate/api.ErrTwice", "quorate/api.ErrEpoch"], apart := false, laid := [("quorate/api.ErrRange", laid_quorate_api_ErrRange), ("quorate/api.ErrShort", laid_quorate_api_ErrShort), ("quorate/api.ErrLong", laid_quorate_api_ErrLong), ("quorate/api.ErrForm", laid_quorate_api_ErrForm), ("quorate/api.ErrSpent", laid_quorate_api_ErrSpent), ("quorate/api.ErrPower", laid_quorate_api_ErrPower), ("quorate/api.ErrDisk", laid_quorate_api_ErrDisk), ("quorate/api.ErrFull", laid_quorate_api_ErrFull), ("quorate/api.ErrNone", laid_quorate_api_ErrNone), ("quorate/api.ErrOld", laid_quorate_api_ErrOld), ("quorate/api.ErrSet", laid_quorate_api_ErrSet), ("quorate/api.ErrProof", laid_quorate_api_ErrProof), ("quorate/api.ErrLeader", laid_quorate_api_ErrLeader), ("quorate/api.ErrRound", laid_quorate_api_ErrRound), ("quorate/api.ErrUnsafe", laid_quorate_api_ErrUnsafe), ("quorate/api.ErrParent", laid_quorate_api_ErrParent), ("quorate/api.ErrTwice", laid_quorate_api_ErrTwice), ("quorate/api.ErrEpoch", laid_quorate_api_ErrEpoch), ("quorate/hash.constants", laid_quorate_hash_constants)], narrowed := true }
def KeysManyUptoSaid : Prop := keysManyUptoRow.holds Tryd.pinned (OpenSpec.upto keysManySpec)

end Rows
end Go.Proofs.YtdedphhohiioiaaDoor
