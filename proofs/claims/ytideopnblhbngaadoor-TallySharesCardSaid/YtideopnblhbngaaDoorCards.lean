/-
  DERIVED. GIVEN WITH THE SEED: THE CARDS: each row of YtideopnblhbngaaDoorRows.lean that lists a variable, with what it lists TIED to the program's text (the seventh form; the later family's looks); each row that meets fmt, with fmt's text TOLD by the authors' own Lean function (tested against real Go, not proved from fmt's source: count such statements apart). THE CARD IS WHAT COUNTS. Prove the row's statement (the work); the ties are given (YtideopnblhbngaaDoorTie.lean); close each card by the builder's one call (the guide's Derived/Test/ToyasCard.lean, 'card_holds'). Laid BY PROGRAM, IN A SANDBOX (cutbox-door.mjs). By AI agents, Wed Nov 11 2026. No macro, syntax, notation, axiom, sorry.
-/
import Derived.Test.YtideopnblhbngaaDoorRows
import GoSem.ClaimSeven
namespace Go.Proofs.YtideopnblhbngaaDoor
namespace Rows

/-- THE TIED CARD OF 'quoratelaw08.PowersMeet'. -/
def powersMeetCard : Claim7 := { stood := { row := powersMeetRow, standIns := [], harness := (true, "2dd7ea86df0474276cf7e7881ccfdc12fb7b83fa080d6aec7c4d47b1601dd668"), looks := true }, kinds := [], alts := [], laidByText := true, laidKinds := [.sentinel, .sentinel, .sentinel], laidTests := true, laidLooks := .later }
def PowersMeetCardSaid : Prop := Claim7.holds Tryd.pinned (.plain (OpenSpec.ofChange powersMeetSpec)) powersMeetCard

/-- THE TIED CARD OF 'quoratelaw08.PowersMore'. -/
def powersMoreCard : Claim7 := { stood := { row := powersMoreRow, standIns := [], harness := (true, "2dd7ea86df0474276cf7e7881ccfdc12fb7b83fa080d6aec7c4d47b1601dd668"), looks := true }, kinds := [], alts := [], laidByText := true, laidKinds := [.sentinel, .sentinel, .sentinel], laidTests := true, laidLooks := .later }
def PowersMoreCardSaid : Prop := Claim7.holds Tryd.pinned (.plain (OpenSpec.ofChange powersMoreSpec)) powersMoreCard

/-- THE TIED CARD OF 'quoratelaw08.PowersLeast'. -/
def powersLeastCard : Claim7 := { stood := { row := powersLeastRow, standIns := [], harness := (true, "2dd7ea86df0474276cf7e7881ccfdc12fb7b83fa080d6aec7c4d47b1601dd668"), looks := true }, kinds := [], alts := [], laidByText := true, laidKinds := [.sentinel, .sentinel, .sentinel], laidTests := true, laidLooks := .later }
def PowersLeastCardSaid : Prop := Claim7.holds Tryd.pinned (.plain (OpenSpec.ofChange powersLeastSpec)) powersLeastCard

/-- THE TIED CARD OF 'quoratelaw17.PoolSome'. -/
def poolSomeCard : Claim7 := { stood := { row := poolSomeRow, standIns := [], harness := (true, "2dd7ea86df0474276cf7e7881ccfdc12fb7b83fa080d6aec7c4d47b1601dd668"), looks := true }, kinds := [], alts := [], laidByText := true, laidKinds := [.sentinel, .sentinel, .sentinel], laidTests := true, laidLooks := .later }
def PoolSomeCardSaid : Prop := Claim7.holds Tryd.pinned (.plain (OpenSpec.ofChange poolSomeSpec)) poolSomeCard

/-- THE TIED CARD OF 'quoratelaw17.PoolOnce'. -/
def poolOnceCard : Claim7 := { stood := { row := poolOnceRow, standIns := [], harness := (true, "2dd7ea86df0474276cf7e7881ccfdc12fb7b83fa080d6aec7c4d47b1601dd668"), looks := true }, kinds := [], alts := [], laidByText := true, laidKinds := [.sentinel, .sentinel, .sentinel], laidTests := true, laidLooks := .later }
def PoolOnceCardSaid : Prop := Claim7.holds Tryd.pinned (.plain (OpenSpec.ofChange poolOnceSpec)) poolOnceCard

/-- THE TIED CARD OF 'quoratelaw17.PoolTaken'. -/
def poolTakenCard : Claim7 := { stood := { row := poolTakenRow, standIns := [], harness := (true, "2dd7ea86df0474276cf7e7881ccfdc12fb7b83fa080d6aec7c4d47b1601dd668"), looks := true }, kinds := [], alts := [], laidByText := true, laidKinds := [.sentinel, .sentinel, .sentinel], laidTests := true, laidLooks := .later }
def PoolTakenCardSaid : Prop := Claim7.holds Tryd.pinned (.plain (OpenSpec.ofChange poolTakenSpec)) poolTakenCard

/-- THE TIED CARD OF 'quoratelaw08.PowersFinds'. -/
def powersFindsCard : Claim7 := { stood := { row := powersFindsRow, standIns := [], harness := (true, "2dd7ea86df0474276cf7e7881ccfdc12fb7b83fa080d6aec7c4d47b1601dd668"), looks := true }, kinds := [], alts := [], laidByText := true, laidKinds := [.sentinel, .sentinel, .sentinel], laidTests := true, laidLooks := .later }
def PowersFindsCardSaid : Prop := Claim7.holds Tryd.pinned (.plain (OpenSpec.ofChange powersFindsSpec)) powersFindsCard

/-- THE TIED CARD OF 'quoratelaw08.PowersSums'. -/
def powersSumsCard : Claim7 := { stood := { row := powersSumsRow, standIns := [], harness := (true, "2dd7ea86df0474276cf7e7881ccfdc12fb7b83fa080d6aec7c4d47b1601dd668"), looks := true }, kinds := [], alts := [], laidByText := true, laidKinds := [.sentinel, .sentinel, .sentinel, .sentinel, .sentinel, .sentinel, .sentinel, .sentinel, .sentinel, .sentinel, .sentinel, .sentinel, .sentinel, .sentinel, .sentinel, .sentinel, .sentinel, .sentinel], laidTests := true, laidLooks := .later }
def PowersSumsCardSaid : Prop := Claim7.holds Tryd.pinned (.plain (OpenSpec.ofChange powersSumsSpec)) powersSumsCard

/-- THE TIED CARD OF 'quoratelaw17.PoolPlays'. -/
def poolPlaysCard : Claim7 := { stood := { row := poolPlaysRow, standIns := [], harness := (true, "2dd7ea86df0474276cf7e7881ccfdc12fb7b83fa080d6aec7c4d47b1601dd668"), looks := true }, kinds := [], alts := [], laidByText := true, laidKinds := [.sentinel, .sentinel, .sentinel, .sentinel, .sentinel, .sentinel, .sentinel, .sentinel, .sentinel, .sentinel, .sentinel, .sentinel, .sentinel, .sentinel, .sentinel, .sentinel, .sentinel, .sentinel], laidTests := true, laidLooks := .later }
def PoolPlaysCardSaid : Prop := Claim7.holds Tryd.pinned (.plain (OpenSpec.ofChange poolPlaysSpec)) poolPlaysCard

/-- THE TIED CARD OF 'quoratelaw17.PoolFull'. -/
def poolFullCard : Claim7 := { stood := { row := poolFullRow, standIns := [], harness := (true, "2dd7ea86df0474276cf7e7881ccfdc12fb7b83fa080d6aec7c4d47b1601dd668"), looks := true }, kinds := [], alts := [], laidByText := true, laidKinds := [.sentinel, .sentinel, .sentinel, .sentinel, .sentinel, .sentinel, .sentinel, .sentinel, .sentinel, .sentinel, .sentinel, .sentinel, .sentinel, .sentinel, .sentinel, .sentinel, .sentinel, .sentinel], laidTests := true, laidLooks := .later }
def PoolFullCardSaid : Prop := Claim7.holds Tryd.pinned (.plain (OpenSpec.ofChange poolFullSpec)) poolFullCard

/-- THE TIED CARD OF 'quoratelaw10.TallyOnce'. -/
def tallyOnceCard : Claim7 := { stood := { row := tallyOnceRow, standIns := [], harness := (true, "2dd7ea86df0474276cf7e7881ccfdc12fb7b83fa080d6aec7c4d47b1601dd668"), looks := true }, kinds := [], alts := [], laidByText := true, laidKinds := [.sentinel, .sentinel, .sentinel], laidTests := true, laidLooks := .later }
def TallyOnceCardSaid : Prop := Claim7.holds Tryd.pinned (.plain (OpenSpec.ofChange tallyOnceSpec)) tallyOnceCard

/-- THE TIED CARD OF 'quoratelaw10.TallyShares'. -/
def tallySharesCard : Claim7 := { stood := { row := tallySharesRow, standIns := [], harness := (true, "2dd7ea86df0474276cf7e7881ccfdc12fb7b83fa080d6aec7c4d47b1601dd668"), looks := true }, kinds := [], alts := [], laidByText := true, laidKinds := [.sentinel, .sentinel, .sentinel], laidTests := true, laidLooks := .later }
def TallySharesCardSaid : Prop := Claim7.holds Tryd.pinned (.plain (OpenSpec.ofChange tallySharesSpec)) tallySharesCard

/-- THE TIED CARD OF 'quoratelaw10.TallyTurned'. -/
def tallyTurnedCard : Claim7 := { stood := { row := tallyTurnedRow, standIns := [], harness := (true, "2dd7ea86df0474276cf7e7881ccfdc12fb7b83fa080d6aec7c4d47b1601dd668"), looks := true }, kinds := [], alts := [], laidByText := true, laidKinds := [.sentinel, .sentinel, .sentinel], laidTests := true, laidLooks := .later }
def TallyTurnedCardSaid : Prop := Claim7.holds Tryd.pinned (.plain (OpenSpec.ofChange tallyTurnedSpec)) tallyTurnedCard

/-- THE TIED CARD OF 'quoratelaw10.TallyPlays'. -/
def tallyPlaysCard : Claim7 := { stood := { row := tallyPlaysRow, standIns := [], harness := (true, "2dd7ea86df0474276cf7e7881ccfdc12fb7b83fa080d6aec7c4d47b1601dd668"), looks := true }, kinds := [], alts := [], laidByText := true, laidKinds := [.sentinel, .sentinel, .sentinel, .sentinel, .sentinel, .sentinel, .sentinel, .sentinel, .sentinel, .sentinel, .sentinel, .sentinel, .sentinel, .sentinel, .sentinel, .sentinel, .sentinel, .sentinel], laidTests := true, laidLooks := .later }
def TallyPlaysCardSaid : Prop := Claim7.holds Tryd.pinned (.plain (OpenSpec.ofChange tallyPlaysSpec)) tallyPlaysCard

/-- THE SECOND FORM's CARD OF 'quoratelaw08.PowersMeet'. -/
def powersMeetUptoCard : Claim7 := { stood := { row := powersMeetUptoRow, standIns := [], harness := (true, "2dd7ea86df0474276cf7e7881ccfdc12fb7b83fa080d6aec7c4d47b1601dd668"), looks := true }, kinds := [], alts := [], laidByText := true, laidKinds := [.sentinel, .sentinel, .sentinel], laidTests := true, laidLooks := .later }
def PowersMeetUptoCardSaid : Prop := Claim7.holds Tryd.pinned (.plain (OpenSpec.upto powersMeetSpec)) powersMeetUptoCard

/-- THE SECOND FORM's CARD OF 'quoratelaw08.PowersMore'. -/
def powersMoreUptoCard : Claim7 := { stood := { row := powersMoreUptoRow, standIns := [], harness := (true, "2dd7ea86df0474276cf7e7881ccfdc12fb7b83fa080d6aec7c4d47b1601dd668"), looks := true }, kinds := [], alts := [], laidByText := true, laidKinds := [.sentinel, .sentinel, .sentinel], laidTests := true, laidLooks := .later }
def PowersMoreUptoCardSaid : Prop := Claim7.holds Tryd.pinned (.plain (OpenSpec.upto powersMoreSpec)) powersMoreUptoCard

/-- THE SECOND FORM's CARD OF 'quoratelaw08.PowersLeast'. -/
def powersLeastUptoCard : Claim7 := { stood := { row := powersLeastUptoRow, standIns := [], harness := (true, "2dd7ea86df0474276cf7e7881ccfdc12fb7b83fa080d6aec7c4d47b1601dd668"), looks := true }, kinds := [], alts := [], laidByText := true, laidKinds := [.sentinel, .sentinel, .sentinel], laidTests := true, laidLooks := .later }
def PowersLeastUptoCardSaid : Prop := Claim7.holds Tryd.pinned (.plain (OpenSpec.upto powersLeastSpec)) powersLeastUptoCard

/-- THE SECOND FORM's CARD OF 'quoratelaw17.PoolSome'. -/
def poolSomeUptoCard : Claim7 := { stood := { row := poolSomeUptoRow, standIns := [], harness := (true, "2dd7ea86df0474276cf7e7881ccfdc12fb7b83fa080d6aec7c4d47b1601dd668"), looks := true }, kinds := [], alts := [], laidByText := true, laidKinds := [.sentinel, .sentinel, .sentinel], laidTests := true, laidLooks := .later }
def PoolSomeUptoCardSaid : Prop := Claim7.holds Tryd.pinned (.plain (OpenSpec.upto poolSomeSpec)) poolSomeUptoCard

/-- THE SECOND FORM's CARD OF 'quoratelaw17.PoolOnce'. -/
def poolOnceUptoCard : Claim7 := { stood := { row := poolOnceUptoRow, standIns := [], harness := (true, "2dd7ea86df0474276cf7e7881ccfdc12fb7b83fa080d6aec7c4d47b1601dd668"), looks := true }, kinds := [], alts := [], laidByText := true, laidKinds := [.sentinel, .sentinel, .sentinel], laidTests := true, laidLooks := .later }
def PoolOnceUptoCardSaid : Prop := Claim7.holds Tryd.pinned (.plain (OpenSpec.upto poolOnceSpec)) poolOnceUptoCard

/-- THE SECOND FORM's CARD OF 'quoratelaw17.PoolTaken'. -/
def poolTakenUptoCard : Claim7 := { stood := { row := poolTakenUptoRow, standIns := [], harness := (true, "2dd7ea86df0474276cf7e7881ccfdc12fb7b83fa080d6aec7c4d47b1601dd668"), looks := true }, kinds := [], alts := [], laidByText := true, laidKinds := [.sentinel, .sentinel, .sentinel], laidTests := true, laidLooks := .later }
def PoolTakenUptoCardSaid : Prop := Claim7.holds Tryd.pinned (.plain (OpenSpec.upto poolTakenSpec)) poolTakenUptoCard

/-- THE SECOND FORM's CARD OF 'quoratelaw08.PowersFinds'. -/
def powersFindsUptoCard : Claim7 := { stood := { row := powersFindsUptoRow, standIns := [], harness := (true, "2dd7ea86df0474276cf7e7881ccfdc12fb7b83fa080d6aec7c4d47b1601dd668"), looks := true }, kinds := [], alts := [], laidByText := true, laidKinds := [.sentinel, .sentinel, .sentinel], laidTests := true, laidLooks := .later }
def PowersFindsUptoCardSaid : Prop := Claim7.holds Tryd.pinned (.plain (OpenSpec.upto powersFindsSpec)) powersFindsUptoCard

/-- THE SECOND FORM's CARD OF 'quoratelaw08.PowersSums'. -/
def powersSumsUptoCard : Claim7 := { stood := { row := powersSumsUptoRow, standIns := [], harness := (true, "2dd7ea86df0474276cf7e7881ccfdc12fb7b83fa080d6aec7c4d47b1601dd668"), looks := true }, kinds := [], alts := [], laidByText := true, laidKinds := [.sentinel, .sentinel, .sentinel, .sentinel, .sentinel, .sentinel, .sentinel, .sentinel, .sentinel, .sentinel, .sentinel, .sentinel, .sentinel, .sentinel, .sentinel, .sentinel, .sentinel, .sentinel], laidTests := true, laidLooks := .later }
def PowersSumsUptoCardSaid : Prop := Claim7.holds Tryd.pinned (.plain (OpenSpec.upto powersSumsSpec)) powersSumsUptoCard

/-- THE SECOND FORM's CARD OF 'quoratelaw17.PoolPlays'. -/
def poolPlaysUptoCard : Claim7 := { stood := { row := poolPlaysUptoRow, standIns := [], harness := (true, "2dd7ea86df0474276cf7e7881ccfdc12fb7b83fa080d6aec7c4d47b1601dd668"), looks := true }, kinds := [], alts := [], laidByText := true, laidKinds := [.sentinel, .sentinel, .sentinel, .sentinel, .sentinel, .sentinel, .sentinel, .sentinel, .sentinel, .sentinel, .sentinel, .sentinel, .sentinel, .sentinel, .sentinel, .sentinel, .sentinel, .sentinel], laidTests := true, laidLooks := .later }
def PoolPlaysUptoCardSaid : Prop := Claim7.holds Tryd.pinned (.plain (OpenSpec.upto poolPlaysSpec)) poolPlaysUptoCard

/-- THE SECOND FORM's CARD OF 'quoratelaw17.PoolFull'. -/
def poolFullUptoCard : Claim7 := { stood := { row := poolFullUptoRow, standIns := [], harness := (true, "2dd7ea86df0474276cf7e7881ccfdc12fb7b83fa080d6aec7c4d47b1601dd668"), looks := true }, kinds := [], alts := [], laidByText := true, laidKinds := [.sentinel, .sentinel, .sentinel, .sentinel, .sentinel, .sentinel, .sentinel, .sentinel, .sentinel, .sentinel, .sentinel, .sentinel, .sentinel, .sentinel, .sentinel, .sentinel, .sentinel, .sentinel], laidTests := true, laidLooks := .later }
def PoolFullUptoCardSaid : Prop := Claim7.holds Tryd.pinned (.plain (OpenSpec.upto poolFullSpec)) poolFullUptoCard

/-- THE SECOND FORM's CARD OF 'quoratelaw10.TallyOnce'. -/
def tallyOnceUptoCard : Claim7 := { stood := { row := tallyOnceUptoRow, standIns := [], harness := (true, "2dd7ea86df0474276cf7e7881ccfdc12fb7b83fa080d6aec7c4d47b1601dd668"), looks := true }, kinds := [], alts := [], laidByText := true, laidKinds := [.sentinel, .sentinel, .sentinel], laidTests := true, laidLooks := .later }
def TallyOnceUptoCardSaid : Prop := Claim7.holds Tryd.pinned (.plain (OpenSpec.upto tallyOnceSpec)) tallyOnceUptoCard

/-- THE SECOND FORM's CARD OF 'quoratelaw10.TallyShares'. -/
def tallySharesUptoCard : Claim7 := { stood := { row := tallySharesUptoRow, standIns := [], harness := (true, "2dd7ea86df0474276cf7e7881ccfdc12fb7b83fa080d6aec7c4d47b1601dd668"), looks := true }, kinds := [], alts := [], laidByText := true, laidKinds := [.sentinel, .sentinel, .sentinel], laidTests := true, laidLooks := .later }
def TallySharesUptoCardSaid : Prop := Claim7.holds Tryd.pinned (.plain (OpenSpec.upto tallySharesSpec)) tallySharesUptoCard

/-- THE SECOND FORM's CARD OF 'quoratelaw10.TallyTurned'. -/
def tallyTurnedUptoCard : Claim7 := { stood := { row := tallyTurnedUptoRow, standIns := [], harness := (true, "2dd7ea86df0474276cf7e7881ccfdc12fb7b83fa080d6aec7c4d47b1601dd668"), looks := true }, kinds := [], alts := [], laidByText := true, laidKinds := [.sentinel, .sentinel, .sentinel], laidTests := true, laidLooks := .later }
def TallyTurnedUptoCardSaid : Prop := Claim7.holds Tryd.pinned (.plain (OpenSpec.upto tallyTurnedSpec)) tallyTurnedUptoCard

/-- THE SECOND FORM's CARD OF 'quoratelaw10.TallyPlays'. -/
def tallyPlaysUptoCard : Claim7 := { stood := { row := tallyPlaysUptoRow, standIns := [], harness := (true, "2dd7ea86df0474276cf7e7881ccfdc12fb7b83fa080d6aec7c4d47b1601dd668"), looks := true }, kinds := [], alts := [], laidByText := true, laidKinds := [.sentinel, .sentinel, .sentinel, .sentinel, .sentinel, .sentinel, .sentinel, .sentinel, .sentinel, .sentinel, .sentinel, .sentinel, .sentinel, .sentinel, .sentinel, .sentinel, .sentinel, .sentinel], laidTests := true, laidLooks := .later }
def TallyPlaysUptoCardSaid : Prop := Claim7.holds Tryd.pinned (.plain (OpenSpec.upto tallyPlaysSpec)) tallyPlaysUptoCard
end Rows
end Go.Proofs.YtideopnblhbngaaDoor
