/-
  No cell of these rows narrows 'for every input' (looked for: loops, veiled, ifaces, maps, wideKeys, modest, calm, conditions, laid).
  DERIVED. THE GIVEN ROWS OF THIS SEAT. 2 by the template 'for every input the law returns true; each argument reads behind the call as it read before'; 0 by the template 'total and deterministic' (their statements: YtdedphhohiioiaaTotals.lean).
  GIVEN WITH THE SEED: the statements are not yours to turn. If you find one false, say at which input.
  Laid BY PROGRAM, IN A SANDBOX (cutbox-rows.mjs): the forced cells as the released guide's own fill.sh prints them over the translation e8a193231a7c9b20… (all of the seat's roots in one cut). By AI agents, Wed Nov 11 2026. No macro, syntax, notation, axiom, sorry.
-/
import Derived.Test.YtdedphhohiioiaaChecked
import GoSem.Claim
import GoSem.ClaimJoined
import GoSem.ClaimMapViews
import Derived.JoinedTies
import Derived.KernelRfl
namespace Go.Proofs.Ytdedphhohiioiaa
/- THE CELL 'sum', in the pinned program and in every row, IS THE sha256 OF THE DUMP (.gsa) THAT YtdedphhohiioiaaProg.lean LOADS. Nothing in Lean hashes anything: it is a label: what it is worth is what the hold of that sum in a sandbox is worth. -/
noncomputable def Try.pinned : Pinned := { name := "ytdedphhohiioiaa", sum := "e8a193231a7c9b20059d3bbf4cb7401de37304005016a1465738247712ce4759", checked := Try.checked }
namespace Rows
def none {H : Type} : Left H := { results := [], args := [] }

/-- 'quoratelaw03.ChainsDigits': WHATEVER THE INPUT: true; the input reads as it did. -/
def chainsDigitsSpec : ChangeSpec := { name := "chainsDigits", fn := fun _ => fun
  | [d] => { results := [.lit (.bool true)], args := [d] }
  | _ => none }
def chainsDigitsRow : OpenClaim := { program := "ytdedphhohiioiaa", sum := "e8a193231a7c9b20059d3bbf4cb7401de37304005016a1465738247712ce4759", func := "quorate/quoratelaw03.ChainsDigits", spec := "chainsDigits", apart := false }
def ChainsDigitsSaid : Prop := chainsDigitsRow.holds Try.pinned (OpenSpec.ofChange chainsDigitsSpec)

/-- ITS FALSE NEIGHBOUR: 'it returns false'. Refute it at one input. -/
def chainsDigitsWrong : ChangeSpec := { name := "chainsDigits", fn := fun _ => fun
  | [d] => { results := [.lit (.bool false)], args := [d] }
  | _ => none }
def ChainsDigitsWrongFalsely : Prop := chainsDigitsRow.holds Try.pinned (OpenSpec.ofChange chainsDigitsWrong)

/-- 'quoratelaw03.ChainsNoLess': WHATEVER THE INPUT: true; the input reads as it did. -/
def chainsNoLessSpec : ChangeSpec := { name := "chainsNoLess", fn := fun _ => fun
  | [d1, d2] => { results := [.lit (.bool true)], args := [d1, d2] }
  | _ => none }
def chainsNoLessRow : OpenClaim := { program := "ytdedphhohiioiaa", sum := "e8a193231a7c9b20059d3bbf4cb7401de37304005016a1465738247712ce4759", func := "quorate/quoratelaw03.ChainsNoLess", spec := "chainsNoLess", apart := false }
def ChainsNoLessSaid : Prop := chainsNoLessRow.holds Try.pinned (OpenSpec.ofChange chainsNoLessSpec)

/-- ITS FALSE NEIGHBOUR: 'it returns false'. Refute it at one input. -/
def chainsNoLessWrong : ChangeSpec := { name := "chainsNoLess", fn := fun _ => fun
  | [d1, d2] => { results := [.lit (.bool false)], args := [d1, d2] }
  | _ => none }
def ChainsNoLessWrongFalsely : Prop := chainsNoLessRow.holds Try.pinned (OpenSpec.ofChange chainsNoLessWrong)

/- THE SECOND FORM. 'bulk': how many values and letters a reading holds, each counted each time it is reached (what is shared counts as often as it is met; a slice's spare places count too). A statement '..UptoSaid' is the law's where the arguments, and the package variables that the reading takes, are together of bulk at most 1048576: NARROWER than '..Said'. Prove '..Said' where nothing that the law and all that it calls make is longer than what came in: it says more and counts as full. Else prove '..UptoSaid'. A law counts once. -/
mutual
def uptoBulk {H : Type} : DataW H → Nat
  | .lit (.string bytes) => bytes.length + 1
  | .lit _ => 1
  | .nil => 1
  | .ptr d => uptoBulk d + 1
  | .slice elems spare => uptoBulkAll elems + uptoBulkAll spare + 1
  | .agg parts => uptoBulkAll parts + 1
  | .iface _ d => uptoBulk d + 1
  | .map entries => uptoBulkEntries entries + 1
  | .held _ => 1
def uptoBulkAll {H : Type} : List (DataW H) → Nat
  | [] => 0
  | d :: r => uptoBulk d + uptoBulkAll r
def uptoBulkEntries {H : Type} : List (Lit × DataW H) → Nat
  | [] => 0
  | x :: r => uptoBulkEntry x + uptoBulkEntries r
def uptoBulkEntry {H : Type} : Lit × DataW H → Nat
  | (.string bytes, d) => bytes.length + uptoBulk d + 1
  | (_, d) => uptoBulk d + 1
 end
def uptoSmall : (H : Type) → List (DataW H) → Bool := fun _ ds => decide (uptoBulkAll ds ≤ 1048576)
def OpenSpec.upto (s : _root_.Go.ChangeSpec) : _root_.Go.OpenSpec := { _root_.Go.OpenSpec.ofChange s with cond := some uptoSmall }

/-- 'quoratelaw03.ChainsDigits', WHERE WHAT IT READS IS OF BULK AT MOST 1048576: true; the input reads as it did. -/
def chainsDigitsUptoRow : OpenClaim := { program := "ytdedphhohiioiaa", sum := "e8a193231a7c9b20059d3bbf4cb7401de37304005016a1465738247712ce4759", func := "quorate/quoratelaw03.ChainsDigits", spec := "chainsDigits", apart := false, narrowed := true }
def ChainsDigitsUptoSaid : Prop := chainsDigitsUptoRow.holds Try.pinned (OpenSpec.upto chainsDigitsSpec)

/-- 'quoratelaw03.ChainsNoLess', WHERE WHAT IT READS IS OF BULK AT MOST 1048576: true; the input reads as it did. -/
def chainsNoLessUptoRow : OpenClaim := { program := "ytdedphhohiioiaa", sum := "e8a193231a7c9b20059d3bbf4cb7401de37304005016a1465738247712ce4759", func := "quorate/quoratelaw03.ChainsNoLess", spec := "chainsNoLess", apart := false, narrowed := true }
def ChainsNoLessUptoSaid : Prop := chainsNoLessUptoRow.holds Try.pinned (OpenSpec.upto chainsNoLessSpec)

end Rows
end Go.Proofs.Ytdedphhohiioiaa
