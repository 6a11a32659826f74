/-
  DERIVED. GIVEN WITH THE SEED: THE CARDS: each row of YtihmlhjdlpjehaaGreatDoorRows.lean that lists a variable, with what it lists TIED to the program's text (the seventh form; the later family's looks); each row that meets fmt, with fmt's text TOLD by the authors' own Lean function (tested against real Go, not proved from fmt's source: count such statements apart). THE CARD IS WHAT COUNTS. Prove the row's statement (the work); the ties are given (YtihmlhjdlpjehaaGreatDoorTie.lean); close each card by the builder's one call (the guide's Derived/Test/ToyasCard.lean, 'card_holds'). Laid BY PROGRAM, IN A SANDBOX (cutbox-door.mjs). By AI agents, Wed Nov 11 2026. No macro, syntax, notation, axiom, sorry.
-/
import Derived.Test.YtihmlhjdlpjehaaGreatDoorRows
import GoSem.ClaimSeven
namespace Go.Proofs.YtihmlhjdlpjehaaGreatDoor
namespace Rows

/-- THE TIED CARD OF 'erratalaw16.ReadCopies'. -/
def readCopiesCard : Claim7 := { stood := { row := readCopiesRow, standIns := [], harness := (true, "65e2c17d662191dc2a7780185b5ff9738128d9a6a434f50ffc3f1eaeb8b60b70"), looks := true }, kinds := [], alts := [], laidByText := true, laidKinds := [.data, .data, .widerDeep, .widerDeep, .data, .data, .data, .data, .data, .sentinel, .sentinel, .listed, .data, .pinned, .pinned], laidTests := true, laidLooks := .later }
def ReadCopiesCardSaid : Prop := Claim7.holds Tryz.pinned (.plain (OpenSpec.ofChange readCopiesSpec)) readCopiesCard

/-- THE TIED CARD OF 'erratalaw16.ReadLines'. -/
def readLinesCard : Claim7 := { stood := { row := readLinesRow, standIns := [], harness := (true, "65e2c17d662191dc2a7780185b5ff9738128d9a6a434f50ffc3f1eaeb8b60b70"), looks := true }, kinds := [], alts := [], laidByText := true, laidKinds := [.data, .data, .widerDeep, .widerDeep, .data, .data, .data, .data, .data, .data, .sentinel, .sentinel, .listed, .data, .pinned, .pinned, .pinned], laidTests := true, laidLooks := .later }
def ReadLinesCardSaid : Prop := Claim7.holds Tryz.pinned (.plain (OpenSpec.ofChange readLinesSpec)) readLinesCard

/-- THE TIED CARD OF 'erratalaw16.ReadNames'. -/
def readNamesCard : Claim7 := { stood := { row := readNamesRow, standIns := [], harness := (true, "65e2c17d662191dc2a7780185b5ff9738128d9a6a434f50ffc3f1eaeb8b60b70"), looks := true }, kinds := [], alts := [], laidByText := true, laidKinds := [.data, .data, .widerDeep, .widerDeep, .data, .data, .data, .data, .data, .data, .sentinel, .sentinel, .listed, .data, .pinned, .pinned, .pinned], laidTests := true, laidLooks := .later }
def ReadNamesCardSaid : Prop := Claim7.holds Tryz.pinned (.plain (OpenSpec.ofChange readNamesSpec)) readNamesCard

/-- THE TIED CARD OF 'erratalaw16.ReadStacks'. -/
def readStacksCard : Claim7 := { stood := { row := readStacksRow, standIns := [], harness := (true, "65e2c17d662191dc2a7780185b5ff9738128d9a6a434f50ffc3f1eaeb8b60b70"), looks := true }, kinds := [], alts := [], laidByText := true, laidKinds := [.data, .data, .widerDeep, .widerDeep, .data, .data, .data, .data, .data, .data, .sentinel, .sentinel, .listed, .data, .pinned, .pinned, .pinned], laidTests := true, laidLooks := .later }
def ReadStacksCardSaid : Prop := Claim7.holds Tryz.pinned (.plain (OpenSpec.ofChange readStacksSpec)) readStacksCard

/-- THE TIED CARD OF 'erratalaw16.ReadBack'. -/
def readBackCard : Claim7 := { stood := { row := readBackRow, standIns := [], harness := (true, "65e2c17d662191dc2a7780185b5ff9738128d9a6a434f50ffc3f1eaeb8b60b70"), looks := true }, kinds := [], alts := [], laidByText := true, laidKinds := [.data, .data, .widerDeep, .widerDeep, .data, .data, .data, .data, .data, .data, .sentinel, .sentinel, .listed, .data, .pinned, .pinned, .pinned], laidTests := true, laidLooks := .later }
def ReadBackCardSaid : Prop := Claim7.holds Tryz.pinned (.plain (OpenSpec.ofChange readBackSpec)) readBackCard

/-- THE SECOND FORM's CARD OF 'erratalaw16.ReadCopies'. -/
def readCopiesUptoCard : Claim7 := { stood := { row := readCopiesUptoRow, standIns := [], harness := (true, "65e2c17d662191dc2a7780185b5ff9738128d9a6a434f50ffc3f1eaeb8b60b70"), looks := true }, kinds := [], alts := [], laidByText := true, laidKinds := [.data, .data, .widerDeep, .widerDeep, .data, .data, .data, .data, .data, .sentinel, .sentinel, .listed, .data, .pinned, .pinned], laidTests := true, laidLooks := .later }
def ReadCopiesUptoCardSaid : Prop := Claim7.holds Tryz.pinned (.plain (OpenSpec.upto readCopiesSpec)) readCopiesUptoCard

/-- THE SECOND FORM's CARD OF 'erratalaw16.ReadLines'. -/
def readLinesUptoCard : Claim7 := { stood := { row := readLinesUptoRow, standIns := [], harness := (true, "65e2c17d662191dc2a7780185b5ff9738128d9a6a434f50ffc3f1eaeb8b60b70"), looks := true }, kinds := [], alts := [], laidByText := true, laidKinds := [.data, .data, .widerDeep, .widerDeep, .data, .data, .data, .data, .data, .data, .sentinel, .sentinel, .listed, .data, .pinned, .pinned, .pinned], laidTests := true, laidLooks := .later }
def ReadLinesUptoCardSaid : Prop := Claim7.holds Tryz.pinned (.plain (OpenSpec.upto readLinesSpec)) readLinesUptoCard

/-- THE SECOND FORM's CARD OF 'erratalaw16.ReadNames'. -/
def readNamesUptoCard : Claim7 := { stood := { row := readNamesUptoRow, standIns := [], harness := (true, "65e2c17d662191dc2a7780185b5ff9738128d9a6a434f50ffc3f1eaeb8b60b70"), looks := true }, kinds := [], alts := [], laidByText := true, laidKinds := [.data, .data, .widerDeep, .widerDeep, .data, .data, .data, .data, .data, .data, .sentinel, .sentinel, .listed, .data, .pinned, .pinned, .pinned], laidTests := true, laidLooks := .later }
def ReadNamesUptoCardSaid : Prop := Claim7.holds Tryz.pinned (.plain (OpenSpec.upto readNamesSpec)) readNamesUptoCard

/-- THE SECOND FORM's CARD OF 'erratalaw16.ReadStacks'. -/
def readStacksUptoCard : Claim7 := { stood := { row := readStacksUptoRow, standIns := [], harness := (true, "65e2c17d662191dc2a7780185b5ff9738128d9a6a434f50ffc3f1eaeb8b60b70"), looks := true }, kinds := [], alts := [], laidByText := true, laidKinds := [.data, .data, .widerDeep, .widerDeep, .data, .data, .data, .data, .data, .data, .sentinel, .sentinel, .listed, .data, .pinned, .pinned, .pinned], laidTests := true, laidLooks := .later }
def ReadStacksUptoCardSaid : Prop := Claim7.holds Tryz.pinned (.plain (OpenSpec.upto readStacksSpec)) readStacksUptoCard

/-- THE SECOND FORM's CARD OF 'erratalaw16.ReadBack'. -/
def readBackUptoCard : Claim7 := { stood := { row := readBackUptoRow, standIns := [], harness := (true, "65e2c17d662191dc2a7780185b5ff9738128d9a6a434f50ffc3f1eaeb8b60b70"), looks := true }, kinds := [], alts := [], laidByText := true, laidKinds := [.data, .data, .widerDeep, .widerDeep, .data, .data, .data, .data, .data, .data, .sentinel, .sentinel, .listed, .data, .pinned, .pinned, .pinned], laidTests := true, laidLooks := .later }
def ReadBackUptoCardSaid : Prop := Claim7.holds Tryz.pinned (.plain (OpenSpec.upto readBackSpec)) readBackUptoCard
end Rows
end Go.Proofs.YtihmlhjdlpjehaaGreatDoor
