/-
  DERIVED. GIVEN WITH THE SEED: THE CARDS: each row of YtljiogkfabfkmaaGreatDoorRows.lean that lists a variable, with what it lists TIED to the program's text (the seventh form; the later family's looks); each row that meets fmt, with fmt's text TOLD by the authors' own Lean function (tested against real Go, not proved from fmt's source: count such statements apart). THE CARD IS WHAT COUNTS. Prove the row's statement (the work); the ties are given (YtljiogkfabfkmaaGreatDoorTie.lean); close each card by the builder's one call (the guide's Derived/Test/ToyasCard.lean, 'card_holds'). Laid BY PROGRAM, IN A SANDBOX (cutbox-door.mjs). By AI agents, Wed Nov 11 2026. No macro, syntax, notation, axiom, sorry.
-/
import Derived.Test.YtljiogkfabfkmaaGreatDoorRows
import GoSem.ClaimSeven
namespace Go.Proofs.YtljiogkfabfkmaaGreatDoor
namespace Rows

/-- THE TIED CARD OF 'palaverlaw14.ScanTokens'. -/
def scanTokensCard : Claim7 := { stood := { row := scanTokensRow, standIns := [], harness := (true, "0939602372d43d110538737eb6f6ab29108368a248c02881ad8e88021a3129e7"), looks := true }, kinds := [], alts := [], laidByText := true, laidKinds := [.data, .data, .widerDeep, .widerDeep, .data, .data, .data, .data, .data, .data, .sentinel, .sentinel, .pinned, .pinned, .pinned], laidTests := true, laidLooks := .later }
def ScanTokensCardSaid : Prop := Claim7.holds Tryz.pinned (.plain (OpenSpec.ofChange scanTokensSpec)) scanTokensCard

/-- THE TIED CARD OF 'palaverlaw14.ScanNexts'. -/
def scanNextsCard : Claim7 := { stood := { row := scanNextsRow, standIns := [], harness := (true, "0939602372d43d110538737eb6f6ab29108368a248c02881ad8e88021a3129e7"), looks := true }, kinds := [], alts := [], laidByText := true, laidKinds := [.data, .data, .widerDeep, .widerDeep, .data, .data, .data, .data, .data, .data, .sentinel, .sentinel, .pinned, .pinned, .pinned], laidTests := true, laidLooks := .later }
def ScanNextsCardSaid : Prop := Claim7.holds Tryz.pinned (.plain (OpenSpec.ofChange scanNextsSpec)) scanNextsCard

/-- THE TIED CARD OF 'palaverlaw14.ScanNames'. -/
def scanNamesCard : Claim7 := { stood := { row := scanNamesRow, standIns := [], harness := (true, "0939602372d43d110538737eb6f6ab29108368a248c02881ad8e88021a3129e7"), looks := true }, kinds := [], alts := [], laidByText := true, laidKinds := [.data, .data, .widerDeep, .widerDeep, .data, .data, .data, .data, .data, .data, .sentinel, .sentinel, .pinned, .pinned, .pinned], laidTests := true, laidLooks := .later }
def ScanNamesCardSaid : Prop := Claim7.holds Tryz.pinned (.plain (OpenSpec.ofChange scanNamesSpec)) scanNamesCard

/-- THE TIED CARD OF 'palaverlaw14.ScanTurns'. -/
def scanTurnsCard : Claim7 := { stood := { row := scanTurnsRow, standIns := [], harness := (true, "0939602372d43d110538737eb6f6ab29108368a248c02881ad8e88021a3129e7"), looks := true }, kinds := [], alts := [], laidByText := true, laidKinds := [.data, .data, .widerDeep, .widerDeep, .data, .data, .data, .data, .data, .data, .sentinel, .sentinel, .pinned, .pinned, .pinned], laidTests := true, laidLooks := .later }
def ScanTurnsCardSaid : Prop := Claim7.holds Tryz.pinned (.plain (OpenSpec.ofChange scanTurnsSpec)) scanTurnsCard

/-- THE TIED CARD OF 'palaverlaw14.ScanPieces'. -/
def scanPiecesCard : Claim7 := { stood := { row := scanPiecesRow, standIns := [], harness := (true, "0939602372d43d110538737eb6f6ab29108368a248c02881ad8e88021a3129e7"), looks := true }, kinds := [], alts := [], laidByText := true, laidKinds := [.data, .data, .widerDeep, .widerDeep, .data, .data, .data, .data, .data, .data, .sentinel, .sentinel, .pinned, .pinned, .pinned], laidTests := true, laidLooks := .later }
def ScanPiecesCardSaid : Prop := Claim7.holds Tryz.pinned (.plain (OpenSpec.ofChange scanPiecesSpec)) scanPiecesCard

/-- THE TIED CARD OF 'palaverlaw14.ScanJoined'. -/
def scanJoinedCard : Claim7 := { stood := { row := scanJoinedRow, standIns := [], harness := (true, "0939602372d43d110538737eb6f6ab29108368a248c02881ad8e88021a3129e7"), looks := true }, kinds := [], alts := [], laidByText := true, laidKinds := [.data, .data, .widerDeep, .widerDeep, .data, .data, .data, .data, .data, .data, .sentinel, .sentinel, .pinned, .pinned, .pinned], laidTests := true, laidLooks := .later }
def ScanJoinedCardSaid : Prop := Claim7.holds Tryz.pinned (.plain (OpenSpec.ofChange scanJoinedSpec)) scanJoinedCard

/-- THE TIED CARD OF 'palaverlaw14.ScanSpaced'. -/
def scanSpacedCard : Claim7 := { stood := { row := scanSpacedRow, standIns := [], harness := (true, "0939602372d43d110538737eb6f6ab29108368a248c02881ad8e88021a3129e7"), looks := true }, kinds := [], alts := [], laidByText := true, laidKinds := [.data, .data, .widerDeep, .widerDeep, .data, .data, .data, .data, .data, .data, .sentinel, .sentinel, .pinned, .pinned, .pinned], laidTests := true, laidLooks := .later }
def ScanSpacedCardSaid : Prop := Claim7.holds Tryz.pinned (.plain (OpenSpec.ofChange scanSpacedSpec)) scanSpacedCard

/-- THE TIED CARD OF 'palaverlaw14.ScanAlls'. -/
def scanAllsCard : Claim7 := { stood := { row := scanAllsRow, standIns := [], harness := (true, "0939602372d43d110538737eb6f6ab29108368a248c02881ad8e88021a3129e7"), looks := true }, kinds := [], alts := [], laidByText := true, laidKinds := [.data, .data, .widerDeep, .widerDeep, .data, .data, .data, .data, .data, .data, .sentinel, .sentinel, .pinned, .pinned, .pinned], laidTests := true, laidLooks := .later }
def ScanAllsCardSaid : Prop := Claim7.holds Tryz.pinned (.plain (OpenSpec.ofChange scanAllsSpec)) scanAllsCard

/-- THE SECOND FORM's CARD OF 'palaverlaw14.ScanTokens'. -/
def scanTokensUptoCard : Claim7 := { stood := { row := scanTokensUptoRow, standIns := [], harness := (true, "0939602372d43d110538737eb6f6ab29108368a248c02881ad8e88021a3129e7"), looks := true }, kinds := [], alts := [], laidByText := true, laidKinds := [.data, .data, .widerDeep, .widerDeep, .data, .data, .data, .data, .data, .data, .sentinel, .sentinel, .pinned, .pinned, .pinned], laidTests := true, laidLooks := .later }
def ScanTokensUptoCardSaid : Prop := Claim7.holds Tryz.pinned (.plain (OpenSpec.upto scanTokensSpec)) scanTokensUptoCard

/-- THE SECOND FORM's CARD OF 'palaverlaw14.ScanNexts'. -/
def scanNextsUptoCard : Claim7 := { stood := { row := scanNextsUptoRow, standIns := [], harness := (true, "0939602372d43d110538737eb6f6ab29108368a248c02881ad8e88021a3129e7"), looks := true }, kinds := [], alts := [], laidByText := true, laidKinds := [.data, .data, .widerDeep, .widerDeep, .data, .data, .data, .data, .data, .data, .sentinel, .sentinel, .pinned, .pinned, .pinned], laidTests := true, laidLooks := .later }
def ScanNextsUptoCardSaid : Prop := Claim7.holds Tryz.pinned (.plain (OpenSpec.upto scanNextsSpec)) scanNextsUptoCard

/-- THE SECOND FORM's CARD OF 'palaverlaw14.ScanNames'. -/
def scanNamesUptoCard : Claim7 := { stood := { row := scanNamesUptoRow, standIns := [], harness := (true, "0939602372d43d110538737eb6f6ab29108368a248c02881ad8e88021a3129e7"), looks := true }, kinds := [], alts := [], laidByText := true, laidKinds := [.data, .data, .widerDeep, .widerDeep, .data, .data, .data, .data, .data, .data, .sentinel, .sentinel, .pinned, .pinned, .pinned], laidTests := true, laidLooks := .later }
def ScanNamesUptoCardSaid : Prop := Claim7.holds Tryz.pinned (.plain (OpenSpec.upto scanNamesSpec)) scanNamesUptoCard

/-- THE SECOND FORM's CARD OF 'palaverlaw14.ScanTurns'. -/
def scanTurnsUptoCard : Claim7 := { stood := { row := scanTurnsUptoRow, standIns := [], harness := (true, "0939602372d43d110538737eb6f6ab29108368a248c02881ad8e88021a3129e7"), looks := true }, kinds := [], alts := [], laidByText := true, laidKinds := [.data, .data, .widerDeep, .widerDeep, .data, .data, .data, .data, .data, .data, .sentinel, .sentinel, .pinned, .pinned, .pinned], laidTests := true, laidLooks := .later }
def ScanTurnsUptoCardSaid : Prop := Claim7.holds Tryz.pinned (.plain (OpenSpec.upto scanTurnsSpec)) scanTurnsUptoCard

/-- THE SECOND FORM's CARD OF 'palaverlaw14.ScanPieces'. -/
def scanPiecesUptoCard : Claim7 := { stood := { row := scanPiecesUptoRow, standIns := [], harness := (true, "0939602372d43d110538737eb6f6ab29108368a248c02881ad8e88021a3129e7"), looks := true }, kinds := [], alts := [], laidByText := true, laidKinds := [.data, .data, .widerDeep, .widerDeep, .data, .data, .data, .data, .data, .data, .sentinel, .sentinel, .pinned, .pinned, .pinned], laidTests := true, laidLooks := .later }
def ScanPiecesUptoCardSaid : Prop := Claim7.holds Tryz.pinned (.plain (OpenSpec.upto scanPiecesSpec)) scanPiecesUptoCard

/-- THE SECOND FORM's CARD OF 'palaverlaw14.ScanJoined'. -/
def scanJoinedUptoCard : Claim7 := { stood := { row := scanJoinedUptoRow, standIns := [], harness := (true, "0939602372d43d110538737eb6f6ab29108368a248c02881ad8e88021a3129e7"), looks := true }, kinds := [], alts := [], laidByText := true, laidKinds := [.data, .data, .widerDeep, .widerDeep, .data, .data, .data, .data, .data, .data, .sentinel, .sentinel, .pinned, .pinned, .pinned], laidTests := true, laidLooks := .later }
def ScanJoinedUptoCardSaid : Prop := Claim7.holds Tryz.pinned (.plain (OpenSpec.upto scanJoinedSpec)) scanJoinedUptoCard

/-- THE SECOND FORM's CARD OF 'palaverlaw14.ScanSpaced'. -/
def scanSpacedUptoCard : Claim7 := { stood := { row := scanSpacedUptoRow, standIns := [], harness := (true, "0939602372d43d110538737eb6f6ab29108368a248c02881ad8e88021a3129e7"), looks := true }, kinds := [], alts := [], laidByText := true, laidKinds := [.data, .data, .widerDeep, .widerDeep, .data, .data, .data, .data, .data, .data, .sentinel, .sentinel, .pinned, .pinned, .pinned], laidTests := true, laidLooks := .later }
def ScanSpacedUptoCardSaid : Prop := Claim7.holds Tryz.pinned (.plain (OpenSpec.upto scanSpacedSpec)) scanSpacedUptoCard

/-- THE SECOND FORM's CARD OF 'palaverlaw14.ScanAlls'. -/
def scanAllsUptoCard : Claim7 := { stood := { row := scanAllsUptoRow, standIns := [], harness := (true, "0939602372d43d110538737eb6f6ab29108368a248c02881ad8e88021a3129e7"), looks := true }, kinds := [], alts := [], laidByText := true, laidKinds := [.data, .data, .widerDeep, .widerDeep, .data, .data, .data, .data, .data, .data, .sentinel, .sentinel, .pinned, .pinned, .pinned], laidTests := true, laidLooks := .later }
def ScanAllsUptoCardSaid : Prop := Claim7.holds Tryz.pinned (.plain (OpenSpec.upto scanAllsSpec)) scanAllsUptoCard
end Rows
end Go.Proofs.YtljiogkfabfkmaaGreatDoor
