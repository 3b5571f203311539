/-
  DERIVED. GIVEN WITH THE SEED: THE CARDS: each row of YtniknhhejlgdfaaDoorRows.lean that lists a variable, with what it lists TIED to the program's text (the seventh form; the later family's looks); each row that meets fmt, with fmt's text TOLD by the authors' own Lean function (tested against real Go, not proved from fmt's source: count such statements apart). THE CARD IS WHAT COUNTS. Prove the row's statement (the work); the ties are given (YtniknhhejlgdfaaDoorTie.lean); close each card by the builder's one call (the guide's Derived/Test/ToyasCard.lean, 'card_holds'). Laid BY PROGRAM, IN A SANDBOX (cutbox-door.mjs). By AI agents, Wed Nov 11 2026. No macro, syntax, notation, axiom, sorry.
-/
import Derived.Test.YtniknhhejlgdfaaDoorRows
import GoSem.ClaimSeven
namespace Go.Proofs.YtniknhhejlgdfaaDoor
namespace Rows

/-- THE TIED CARD OF 'quoratelaw20.EpochsApart'. -/
def epochsApartCard : Claim7 := { stood := { row := epochsApartRow, standIns := [], harness := (true, "812279d2dbfb78d8f855331c0f8375c20b853a5a2bbd18a2adf1ed4ec52f4248"), looks := true }, kinds := [], alts := [], laidByText := true, laidKinds := [.sentinel, .sentinel, .sentinel, .data], laidTests := true, laidLooks := .later }
def EpochsApartCardSaid : Prop := Claim7.holds Tryd.pinned (.plain (OpenSpec.ofChange epochsApartSpec)) epochsApartCard

/-- THE TIED CARD OF 'quoratelaw20.EpochsRows'. -/
def epochsRowsCard : Claim7 := { stood := { row := epochsRowsRow, standIns := [], harness := (true, "812279d2dbfb78d8f855331c0f8375c20b853a5a2bbd18a2adf1ed4ec52f4248"), looks := true }, kinds := [], alts := [], laidByText := true, laidKinds := [.sentinel, .sentinel, .sentinel, .data], laidTests := true, laidLooks := .later }
def EpochsRowsCardSaid : Prop := Claim7.holds Tryd.pinned (.plain (OpenSpec.ofChange epochsRowsSpec)) epochsRowsCard

/-- THE TIED CARD OF 'quoratelaw20.EpochsGrounds'. -/
def epochsGroundsCard : Claim7 := { stood := { row := epochsGroundsRow, standIns := [], harness := (true, "812279d2dbfb78d8f855331c0f8375c20b853a5a2bbd18a2adf1ed4ec52f4248"), looks := true }, kinds := [], alts := [], laidByText := true, laidKinds := [.sentinel, .sentinel, .sentinel, .sentinel, .sentinel, .sentinel, .sentinel, .sentinel, .sentinel, .sentinel, .sentinel, .sentinel, .sentinel, .sentinel, .sentinel, .sentinel, .sentinel, .sentinel, .data], laidTests := true, laidLooks := .later }
def EpochsGroundsCardSaid : Prop := Claim7.holds Tryd.pinned (.plain (OpenSpec.ofChange epochsGroundsSpec)) epochsGroundsCard

/-- THE TIED CARD OF 'quoratelaw11.ProofsFewer'. -/
def proofsFewerCard : Claim7 := { stood := { row := proofsFewerRow, standIns := [], harness := (true, "812279d2dbfb78d8f855331c0f8375c20b853a5a2bbd18a2adf1ed4ec52f4248"), looks := true }, kinds := [], alts := [], laidByText := true, laidKinds := [.sentinel, .sentinel, .sentinel, .sentinel, .sentinel, .sentinel, .sentinel, .sentinel, .sentinel, .sentinel, .sentinel, .sentinel, .sentinel, .sentinel, .sentinel, .sentinel, .sentinel, .sentinel, .data], laidTests := true, laidLooks := .later }
def ProofsFewerCardSaid : Prop := Claim7.holds Tryd.pinned (.plain (OpenSpec.ofChange proofsFewerSpec)) proofsFewerCard

/-- THE TIED CARD OF 'quoratelaw11.ProofsPayloads'. -/
def proofsPayloadsCard : Claim7 := { stood := { row := proofsPayloadsRow, standIns := [], harness := (true, "812279d2dbfb78d8f855331c0f8375c20b853a5a2bbd18a2adf1ed4ec52f4248"), looks := true }, kinds := [], alts := [], laidByText := true, laidKinds := [.sentinel, .sentinel, .sentinel, .sentinel, .sentinel, .sentinel, .sentinel, .sentinel, .sentinel, .sentinel, .sentinel, .sentinel, .sentinel, .sentinel, .sentinel, .sentinel, .sentinel, .sentinel, .data], laidTests := true, laidLooks := .later }
def ProofsPayloadsCardSaid : Prop := Claim7.holds Tryd.pinned (.plain (OpenSpec.ofChange proofsPayloadsSpec)) proofsPayloadsCard

/-- THE TIED CARD OF 'quoratelaw11.ProofsGenesis'. -/
def proofsGenesisCard : Claim7 := { stood := { row := proofsGenesisRow, standIns := [], harness := (true, "812279d2dbfb78d8f855331c0f8375c20b853a5a2bbd18a2adf1ed4ec52f4248"), looks := true }, kinds := [], alts := [], laidByText := true, laidKinds := [.sentinel, .sentinel, .sentinel, .sentinel, .sentinel, .sentinel, .sentinel, .sentinel, .sentinel, .sentinel, .sentinel, .sentinel, .sentinel, .sentinel, .sentinel, .sentinel, .sentinel, .sentinel, .data], laidTests := true, laidLooks := .later }
def ProofsGenesisCardSaid : Prop := Claim7.holds Tryd.pinned (.plain (OpenSpec.ofChange proofsGenesisSpec)) proofsGenesisCard

/-- THE SECOND FORM's CARD OF 'quoratelaw20.EpochsApart'. -/
def epochsApartUptoCard : Claim7 := { stood := { row := epochsApartUptoRow, standIns := [], harness := (true, "812279d2dbfb78d8f855331c0f8375c20b853a5a2bbd18a2adf1ed4ec52f4248"), looks := true }, kinds := [], alts := [], laidByText := true, laidKinds := [.sentinel, .sentinel, .sentinel, .data], laidTests := true, laidLooks := .later }
def EpochsApartUptoCardSaid : Prop := Claim7.holds Tryd.pinned (.plain (OpenSpec.upto epochsApartSpec)) epochsApartUptoCard

/-- THE SECOND FORM's CARD OF 'quoratelaw20.EpochsRows'. -/
def epochsRowsUptoCard : Claim7 := { stood := { row := epochsRowsUptoRow, standIns := [], harness := (true, "812279d2dbfb78d8f855331c0f8375c20b853a5a2bbd18a2adf1ed4ec52f4248"), looks := true }, kinds := [], alts := [], laidByText := true, laidKinds := [.sentinel, .sentinel, .sentinel, .data], laidTests := true, laidLooks := .later }
def EpochsRowsUptoCardSaid : Prop := Claim7.holds Tryd.pinned (.plain (OpenSpec.upto epochsRowsSpec)) epochsRowsUptoCard

/-- THE SECOND FORM's CARD OF 'quoratelaw20.EpochsGrounds'. -/
def epochsGroundsUptoCard : Claim7 := { stood := { row := epochsGroundsUptoRow, standIns := [], harness := (true, "812279d2dbfb78d8f855331c0f8375c20b853a5a2bbd18a2adf1ed4ec52f4248"), looks := true }, kinds := [], alts := [], laidByText := true, laidKinds := [.sentinel, .sentinel, .sentinel, .sentinel, .sentinel, .sentinel, .sentinel, .sentinel, .sentinel, .sentinel, .sentinel, .sentinel, .sentinel, .sentinel, .sentinel, .sentinel, .sentinel, .sentinel, .data], laidTests := true, laidLooks := .later }
def EpochsGroundsUptoCardSaid : Prop := Claim7.holds Tryd.pinned (.plain (OpenSpec.upto epochsGroundsSpec)) epochsGroundsUptoCard

/-- THE SECOND FORM's CARD OF 'quoratelaw11.ProofsFewer'. -/
def proofsFewerUptoCard : Claim7 := { stood := { row := proofsFewerUptoRow, standIns := [], harness := (true, "812279d2dbfb78d8f855331c0f8375c20b853a5a2bbd18a2adf1ed4ec52f4248"), looks := true }, kinds := [], alts := [], laidByText := true, laidKinds := [.sentinel, .sentinel, .sentinel, .sentinel, .sentinel, .sentinel, .sentinel, .sentinel, .sentinel, .sentinel, .sentinel, .sentinel, .sentinel, .sentinel, .sentinel, .sentinel, .sentinel, .sentinel, .data], laidTests := true, laidLooks := .later }
def ProofsFewerUptoCardSaid : Prop := Claim7.holds Tryd.pinned (.plain (OpenSpec.upto proofsFewerSpec)) proofsFewerUptoCard

/-- THE SECOND FORM's CARD OF 'quoratelaw11.ProofsPayloads'. -/
def proofsPayloadsUptoCard : Claim7 := { stood := { row := proofsPayloadsUptoRow, standIns := [], harness := (true, "812279d2dbfb78d8f855331c0f8375c20b853a5a2bbd18a2adf1ed4ec52f4248"), looks := true }, kinds := [], alts := [], laidByText := true, laidKinds := [.sentinel, .sentinel, .sentinel, .sentinel, .sentinel, .sentinel, .sentinel, .sentinel, .sentinel, .sentinel, .sentinel, .sentinel, .sentinel, .sentinel, .sentinel, .sentinel, .sentinel, .sentinel, .data], laidTests := true, laidLooks := .later }
def ProofsPayloadsUptoCardSaid : Prop := Claim7.holds Tryd.pinned (.plain (OpenSpec.upto proofsPayloadsSpec)) proofsPayloadsUptoCard

/-- THE SECOND FORM's CARD OF 'quoratelaw11.ProofsGenesis'. -/
def proofsGenesisUptoCard : Claim7 := { stood := { row := proofsGenesisUptoRow, standIns := [], harness := (true, "812279d2dbfb78d8f855331c0f8375c20b853a5a2bbd18a2adf1ed4ec52f4248"), looks := true }, kinds := [], alts := [], laidByText := true, laidKinds := [.sentinel, .sentinel, .sentinel, .sentinel, .sentinel, .sentinel, .sentinel, .sentinel, .sentinel, .sentinel, .sentinel, .sentinel, .sentinel, .sentinel, .sentinel, .sentinel, .sentinel, .sentinel, .data], laidTests := true, laidLooks := .later }
def ProofsGenesisUptoCardSaid : Prop := Claim7.holds Tryd.pinned (.plain (OpenSpec.upto proofsGenesisSpec)) proofsGenesisUptoCard
end Rows
end Go.Proofs.YtniknhhejlgdfaaDoor
