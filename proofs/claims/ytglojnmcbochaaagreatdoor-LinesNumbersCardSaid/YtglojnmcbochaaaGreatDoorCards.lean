/-
  DERIVED. GIVEN WITH THE SEED: THE CARDS: each row of YtglojnmcbochaaaGreatDoorRows.lean that lists a variable, with what it lists TIED to the program's text (the seventh form; the later family's looks); each row that meets fmt, with fmt's text TOLD by the authors' own Lean function (tested against real Go, not proved from fmt's source: count such statements apart). THE CARD IS WHAT COUNTS. Prove the row's statement (the work); the ties are given (YtglojnmcbochaaaGreatDoorTie.lean); close each card by the builder's one call (the guide's Derived/Test/ToyasCard.lean, 'card_holds'). Laid BY PROGRAM, IN A SANDBOX (cutbox-door.mjs). By AI agents, Wed Nov 11 2026. No macro, syntax, notation, axiom, sorry.
-/
import Derived.Test.YtglojnmcbochaaaGreatDoorRows
import GoSem.ClaimSeven
namespace Go.Proofs.YtglojnmcbochaaaGreatDoor
namespace Rows

/-- THE TIED CARD OF 'storemanlaw31.LinesSteps'. -/
def linesStepsCard : Claim7 := { stood := { row := linesStepsRow, standIns := [], harness := (true, "d1260563bea0e447a5ba7a65f10ab1fc90f455772e8ed961c2473868f8c5531f"), looks := true }, kinds := [], alts := [], laidByText := true, laidKinds := [.data, .data, .data, .data, .sentinel, .sentinel, .data, .data, .pinned], laidTests := true, laidLooks := .later }
def LinesStepsCardSaid : Prop := Claim7.holds Tryz.pinned (.plain (OpenSpec.ofChange linesStepsSpec)) linesStepsCard

/-- THE TIED CARD OF 'storemanlaw31.LinesTales'. -/
def linesTalesCard : Claim7 := { stood := { row := linesTalesRow, standIns := [], harness := (true, "d1260563bea0e447a5ba7a65f10ab1fc90f455772e8ed961c2473868f8c5531f"), looks := true }, kinds := [], alts := [], laidByText := true, laidKinds := [.data, .data, .data, .data, .sentinel, .sentinel, .data, .data, .pinned], laidTests := true, laidLooks := .later }
def LinesTalesCardSaid : Prop := Claim7.holds Tryz.pinned (.plain (OpenSpec.ofChange linesTalesSpec)) linesTalesCard

/-- THE TIED CARD OF 'storemanlaw31.LinesBack'. -/
def linesBackCard : Claim7 := { stood := { row := linesBackRow, standIns := [], harness := (true, "d1260563bea0e447a5ba7a65f10ab1fc90f455772e8ed961c2473868f8c5531f"), looks := true }, kinds := [], alts := [], laidByText := true, laidKinds := [.data, .data, .data, .data, .sentinel, .sentinel, .data, .data, .pinned], laidTests := true, laidLooks := .later }
def LinesBackCardSaid : Prop := Claim7.holds Tryz.pinned (.plain (OpenSpec.ofChange linesBackSpec)) linesBackCard

/-- THE TIED CARD OF 'storemanlaw31.LinesBlanks'. -/
def linesBlanksCard : Claim7 := { stood := { row := linesBlanksRow, standIns := [], harness := (true, "d1260563bea0e447a5ba7a65f10ab1fc90f455772e8ed961c2473868f8c5531f"), looks := true }, kinds := [], alts := [], laidByText := true, laidKinds := [.data, .data, .data, .data, .sentinel, .sentinel, .data, .data, .pinned], laidTests := true, laidLooks := .later }
def LinesBlanksCardSaid : Prop := Claim7.holds Tryz.pinned (.plain (OpenSpec.ofChange linesBlanksSpec)) linesBlanksCard

/-- THE TIED CARD OF 'storemanlaw31.LinesNumbers'. -/
def linesNumbersCard : Claim7 := { stood := { row := linesNumbersRow, standIns := [], harness := (true, "d1260563bea0e447a5ba7a65f10ab1fc90f455772e8ed961c2473868f8c5531f"), looks := true }, kinds := [], alts := [], laidByText := true, laidKinds := [.data, .data, .data, .data, .sentinel, .sentinel, .listed, .data, .data, .data, .pinned], laidTests := true, laidLooks := .later }
def LinesNumbersCardSaid : Prop := Claim7.holds Tryz.pinned (.plain (OpenSpec.ofChange linesNumbersSpec)) linesNumbersCard

/-- THE SECOND FORM's CARD OF 'storemanlaw31.LinesSteps'. -/
def linesStepsUptoCard : Claim7 := { stood := { row := linesStepsUptoRow, standIns := [], harness := (true, "d1260563bea0e447a5ba7a65f10ab1fc90f455772e8ed961c2473868f8c5531f"), looks := true }, kinds := [], alts := [], laidByText := true, laidKinds := [.data, .data, .data, .data, .sentinel, .sentinel, .data, .data, .pinned], laidTests := true, laidLooks := .later }
def LinesStepsUptoCardSaid : Prop := Claim7.holds Tryz.pinned (.plain (OpenSpec.upto linesStepsSpec)) linesStepsUptoCard

/-- THE SECOND FORM's CARD OF 'storemanlaw31.LinesTales'. -/
def linesTalesUptoCard : Claim7 := { stood := { row := linesTalesUptoRow, standIns := [], harness := (true, "d1260563bea0e447a5ba7a65f10ab1fc90f455772e8ed961c2473868f8c5531f"), looks := true }, kinds := [], alts := [], laidByText := true, laidKinds := [.data, .data, .data, .data, .sentinel, .sentinel, .data, .data, .pinned], laidTests := true, laidLooks := .later }
def LinesTalesUptoCardSaid : Prop := Claim7.holds Tryz.pinned (.plain (OpenSpec.upto linesTalesSpec)) linesTalesUptoCard

/-- THE SECOND FORM's CARD OF 'storemanlaw31.LinesBack'. -/
def linesBackUptoCard : Claim7 := { stood := { row := linesBackUptoRow, standIns := [], harness := (true, "d1260563bea0e447a5ba7a65f10ab1fc90f455772e8ed961c2473868f8c5531f"), looks := true }, kinds := [], alts := [], laidByText := true, laidKinds := [.data, .data, .data, .data, .sentinel, .sentinel, .data, .data, .pinned], laidTests := true, laidLooks := .later }
def LinesBackUptoCardSaid : Prop := Claim7.holds Tryz.pinned (.plain (OpenSpec.upto linesBackSpec)) linesBackUptoCard

/-- THE SECOND FORM's CARD OF 'storemanlaw31.LinesBlanks'. -/
def linesBlanksUptoCard : Claim7 := { stood := { row := linesBlanksUptoRow, standIns := [], harness := (true, "d1260563bea0e447a5ba7a65f10ab1fc90f455772e8ed961c2473868f8c5531f"), looks := true }, kinds := [], alts := [], laidByText := true, laidKinds := [.data, .data, .data, .data, .sentinel, .sentinel, .data, .data, .pinned], laidTests := true, laidLooks := .later }
def LinesBlanksUptoCardSaid : Prop := Claim7.holds Tryz.pinned (.plain (OpenSpec.upto linesBlanksSpec)) linesBlanksUptoCard

/-- THE SECOND FORM's CARD OF 'storemanlaw31.LinesNumbers'. -/
def linesNumbersUptoCard : Claim7 := { stood := { row := linesNumbersUptoRow, standIns := [], harness := (true, "d1260563bea0e447a5ba7a65f10ab1fc90f455772e8ed961c2473868f8c5531f"), looks := true }, kinds := [], alts := [], laidByText := true, laidKinds := [.data, .data, .data, .data, .sentinel, .sentinel, .listed, .data, .data, .data, .pinned], laidTests := true, laidLooks := .later }
def LinesNumbersUptoCardSaid : Prop := Claim7.holds Tryz.pinned (.plain (OpenSpec.upto linesNumbersSpec)) linesNumbersUptoCard
end Rows
end Go.Proofs.YtglojnmcbochaaaGreatDoor
