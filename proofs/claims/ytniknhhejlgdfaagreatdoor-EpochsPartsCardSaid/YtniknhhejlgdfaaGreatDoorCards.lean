/-
  DERIVED. GIVEN WITH THE SEED: THE CARDS: each row of YtniknhhejlgdfaaGreatDoorRows.lean that lists a variable, with what it lists TIED to the program's text (the seventh form; the later family's looks); each row that meets fmt, with fmt's text TOLD by the authors' own Lean function (tested against real Go, not proved from fmt's source: count such statements apart). THE CARD IS WHAT COUNTS. Prove the row's statement (the work); the ties are given (YtniknhhejlgdfaaGreatDoorTie.lean); close each card by the builder's one call (the guide's Derived/Test/ToyasCard.lean, 'card_holds'). Laid BY PROGRAM, IN A SANDBOX (cutbox-door.mjs). By AI agents, Wed Nov 11 2026. No macro, syntax, notation, axiom, sorry.
-/
import Derived.Test.YtniknhhejlgdfaaGreatDoorRows
import GoSem.ClaimSeven
namespace Go.Proofs.YtniknhhejlgdfaaGreatDoor
namespace Rows

/-- THE TIED CARD OF 'quoratelaw20.EpochsChanges'. -/
def epochsChangesCard : Claim7 := { stood := { row := epochsChangesRow, standIns := [], harness := (true, "7c22e4f4b23bae0c59e82da5db6fed3daa269d3c5ab8e6a6d331450ceab2e9af"), looks := true }, kinds := [], alts := [], laidByText := true, laidKinds := [.sentinel, .sentinel, .sentinel, .sentinel, .sentinel, .sentinel, .sentinel, .sentinel, .sentinel, .sentinel, .sentinel, .sentinel, .sentinel, .sentinel, .sentinel, .sentinel, .sentinel, .sentinel, .data], laidTests := true, laidLooks := .later }
def EpochsChangesCardSaid : Prop := Claim7.holds Tryz.pinned (.plain (OpenSpec.ofChange epochsChangesSpec)) epochsChangesCard

/-- THE TIED CARD OF 'quoratelaw20.EpochsWalks'. -/
def epochsWalksCard : Claim7 := { stood := { row := epochsWalksRow, standIns := [], harness := (true, "7c22e4f4b23bae0c59e82da5db6fed3daa269d3c5ab8e6a6d331450ceab2e9af"), looks := true }, kinds := [], alts := [], laidByText := true, laidKinds := [.sentinel, .sentinel, .sentinel, .sentinel, .sentinel, .sentinel, .sentinel, .sentinel, .sentinel, .sentinel, .sentinel, .sentinel, .sentinel, .sentinel, .sentinel, .sentinel, .sentinel, .sentinel, .data], laidTests := true, laidLooks := .later }
def EpochsWalksCardSaid : Prop := Claim7.holds Tryz.pinned (.plain (OpenSpec.ofChange epochsWalksSpec)) epochsWalksCard

/-- THE TIED CARD OF 'quoratelaw20.EpochsParts'. -/
def epochsPartsCard : Claim7 := { stood := { row := epochsPartsRow, standIns := [], harness := (true, "7c22e4f4b23bae0c59e82da5db6fed3daa269d3c5ab8e6a6d331450ceab2e9af"), looks := true }, kinds := [], alts := [], laidByText := true, laidKinds := [.sentinel, .sentinel, .sentinel, .sentinel, .sentinel, .sentinel, .sentinel, .sentinel, .sentinel, .sentinel, .sentinel, .sentinel, .sentinel, .sentinel, .sentinel, .sentinel, .sentinel, .sentinel, .data], laidTests := true, laidLooks := .later }
def EpochsPartsCardSaid : Prop := Claim7.holds Tryz.pinned (.plain (OpenSpec.ofChange epochsPartsSpec)) epochsPartsCard

/-- THE TIED CARD OF 'quoratelaw11.ProofsMessages'. -/
def proofsMessagesCard : Claim7 := { stood := { row := proofsMessagesRow, standIns := [], harness := (true, "7c22e4f4b23bae0c59e82da5db6fed3daa269d3c5ab8e6a6d331450ceab2e9af"), looks := true }, kinds := [], alts := [], laidByText := true, laidKinds := [.sentinel, .sentinel, .sentinel, .sentinel, .sentinel, .sentinel, .sentinel, .sentinel, .sentinel, .sentinel, .sentinel, .sentinel, .sentinel, .sentinel, .sentinel, .sentinel, .sentinel, .sentinel, .data], laidTests := true, laidLooks := .later }
def ProofsMessagesCardSaid : Prop := Claim7.holds Tryz.pinned (.plain (OpenSpec.ofChange proofsMessagesSpec)) proofsMessagesCard

/-- THE TIED CARD OF 'quoratelaw11.ProofsEmpty'. -/
def proofsEmptyCard : Claim7 := { stood := { row := proofsEmptyRow, standIns := [], harness := (true, "7c22e4f4b23bae0c59e82da5db6fed3daa269d3c5ab8e6a6d331450ceab2e9af"), looks := true }, kinds := [], alts := [], laidByText := true, laidKinds := [.sentinel, .sentinel, .sentinel, .sentinel, .sentinel, .sentinel, .sentinel, .sentinel, .sentinel, .sentinel, .sentinel, .sentinel, .sentinel, .sentinel, .sentinel, .sentinel, .sentinel, .sentinel, .data], laidTests := true, laidLooks := .later }
def ProofsEmptyCardSaid : Prop := Claim7.holds Tryz.pinned (.plain (OpenSpec.ofChange proofsEmptySpec)) proofsEmptyCard

/-- THE SECOND FORM's CARD OF 'quoratelaw20.EpochsChanges'. -/
def epochsChangesUptoCard : Claim7 := { stood := { row := epochsChangesUptoRow, standIns := [], harness := (true, "7c22e4f4b23bae0c59e82da5db6fed3daa269d3c5ab8e6a6d331450ceab2e9af"), looks := true }, kinds := [], alts := [], laidByText := true, laidKinds := [.sentinel, .sentinel, .sentinel, .sentinel, .sentinel, .sentinel, .sentinel, .sentinel, .sentinel, .sentinel, .sentinel, .sentinel, .sentinel, .sentinel, .sentinel, .sentinel, .sentinel, .sentinel, .data], laidTests := true, laidLooks := .later }
def EpochsChangesUptoCardSaid : Prop := Claim7.holds Tryz.pinned (.plain (OpenSpec.upto epochsChangesSpec)) epochsChangesUptoCard

/-- THE SECOND FORM's CARD OF 'quoratelaw20.EpochsWalks'. -/
def epochsWalksUptoCard : Claim7 := { stood := { row := epochsWalksUptoRow, standIns := [], harness := (true, "7c22e4f4b23bae0c59e82da5db6fed3daa269d3c5ab8e6a6d331450ceab2e9af"), looks := true }, kinds := [], alts := [], laidByText := true, laidKinds := [.sentinel, .sentinel, .sentinel, .sentinel, .sentinel, .sentinel, .sentinel, .sentinel, .sentinel, .sentinel, .sentinel, .sentinel, .sentinel, .sentinel, .sentinel, .sentinel, .sentinel, .sentinel, .data], laidTests := true, laidLooks := .later }
def EpochsWalksUptoCardSaid : Prop := Claim7.holds Tryz.pinned (.plain (OpenSpec.upto epochsWalksSpec)) epochsWalksUptoCard

/-- THE SECOND FORM's CARD OF 'quoratelaw20.EpochsParts'. -/
def epochsPartsUptoCard : Claim7 := { stood := { row := epochsPartsUptoRow, standIns := [], harness := (true, "7c22e4f4b23bae0c59e82da5db6fed3daa269d3c5ab8e6a6d331450ceab2e9af"), looks := true }, kinds := [], alts := [], laidByText := true, laidKinds := [.sentinel, .sentinel, .sentinel, .sentinel, .sentinel, .sentinel, .sentinel, .sentinel, .sentinel, .sentinel, .sentinel, .sentinel, .sentinel, .sentinel, .sentinel, .sentinel, .sentinel, .sentinel, .data], laidTests := true, laidLooks := .later }
def EpochsPartsUptoCardSaid : Prop := Claim7.holds Tryz.pinned (.plain (OpenSpec.upto epochsPartsSpec)) epochsPartsUptoCard

/-- THE SECOND FORM's CARD OF 'quoratelaw11.ProofsMessages'. -/
def proofsMessagesUptoCard : Claim7 := { stood := { row := proofsMessagesUptoRow, standIns := [], harness := (true, "7c22e4f4b23bae0c59e82da5db6fed3daa269d3c5ab8e6a6d331450ceab2e9af"), looks := true }, kinds := [], alts := [], laidByText := true, laidKinds := [.sentinel, .sentinel, .sentinel, .sentinel, .sentinel, .sentinel, .sentinel, .sentinel, .sentinel, .sentinel, .sentinel, .sentinel, .sentinel, .sentinel, .sentinel, .sentinel, .sentinel, .sentinel, .data], laidTests := true, laidLooks := .later }
def ProofsMessagesUptoCardSaid : Prop := Claim7.holds Tryz.pinned (.plain (OpenSpec.upto proofsMessagesSpec)) proofsMessagesUptoCard

/-- THE SECOND FORM's CARD OF 'quoratelaw11.ProofsEmpty'. -/
def proofsEmptyUptoCard : Claim7 := { stood := { row := proofsEmptyUptoRow, standIns := [], harness := (true, "7c22e4f4b23bae0c59e82da5db6fed3daa269d3c5ab8e6a6d331450ceab2e9af"), looks := true }, kinds := [], alts := [], laidByText := true, laidKinds := [.sentinel, .sentinel, .sentinel, .sentinel, .sentinel, .sentinel, .sentinel, .sentinel, .sentinel, .sentinel, .sentinel, .sentinel, .sentinel, .sentinel, .sentinel, .sentinel, .sentinel, .sentinel, .data], laidTests := true, laidLooks := .later }
def ProofsEmptyUptoCardSaid : Prop := Claim7.holds Tryz.pinned (.plain (OpenSpec.upto proofsEmptySpec)) proofsEmptyUptoCard
end Rows
end Go.Proofs.YtniknhhejlgdfaaGreatDoor
