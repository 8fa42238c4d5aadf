/-
  DERIVED. GIVEN WITH THE SEED: THE CARDS: each row of YtijmfglgeaaoaaaGreatDoorRows.lean that lists a variable, with what it lists TIED to the program's text (the seventh form; the later family's looks); each row that meets fmt, with fmt's text TOLD by the authors' own Lean function (tested against real Go, not proved from fmt's source: count such statements apart). THE CARD IS WHAT COUNTS. Prove the row's statement (the work); the ties are given (YtijmfglgeaaoaaaGreatDoorTie.lean); close each card by the builder's one call (the guide's Derived/Test/ToyasCard.lean, 'card_holds'). Laid BY PROGRAM, IN A SANDBOX (cutbox-door.mjs). By AI agents, Wed Nov 11 2026. No macro, syntax, notation, axiom, sorry.
-/
import Derived.Test.YtijmfglgeaaoaaaGreatDoorRows
import GoSem.ClaimSeven
namespace Go.Proofs.YtijmfglgeaaoaaaGreatDoor
namespace Rows

/-- THE TIED CARD OF 'storemanlaw13.AskGets'. -/
def askGetsCard : Claim7 := { stood := { row := askGetsRow, standIns := [], harness := (true, "c90f1f719159805b511f5679ed455b38810dadccf7a567a6b927fc734a858af6"), looks := false }, kinds := [], alts := [], laidByText := true, laidKinds := [.data, .data, .pinned], laidTests := true, laidLooks := .later }
def AskGetsCardSaid : Prop := Claim7.holds Tryz.pinned (.plain (OpenSpec.ofChange askGetsSpec)) askGetsCard

/-- THE TIED CARD OF 'storemanlaw13.AskNumbers'. -/
def askNumbersCard : Claim7 := { stood := { row := askNumbersRow, standIns := [], harness := (true, "c90f1f719159805b511f5679ed455b38810dadccf7a567a6b927fc734a858af6"), looks := false }, kinds := [], alts := [], laidByText := true, laidKinds := [.data, .data, .pinned], laidTests := true, laidLooks := .later }
def AskNumbersCardSaid : Prop := Claim7.holds Tryz.pinned (.plain (OpenSpec.ofChange askNumbersSpec)) askNumbersCard

/-- THE SECOND FORM's CARD OF 'storemanlaw13.AskGets'. -/
def askGetsUptoCard : Claim7 := { stood := { row := askGetsUptoRow, standIns := [], harness := (true, "c90f1f719159805b511f5679ed455b38810dadccf7a567a6b927fc734a858af6"), looks := false }, kinds := [], alts := [], laidByText := true, laidKinds := [.data, .data, .pinned], laidTests := true, laidLooks := .later }
def AskGetsUptoCardSaid : Prop := Claim7.holds Tryz.pinned (.plain (OpenSpec.upto askGetsSpec)) askGetsUptoCard

/-- THE SECOND FORM's CARD OF 'storemanlaw13.AskNumbers'. -/
def askNumbersUptoCard : Claim7 := { stood := { row := askNumbersUptoRow, standIns := [], harness := (true, "c90f1f719159805b511f5679ed455b38810dadccf7a567a6b927fc734a858af6"), looks := false }, kinds := [], alts := [], laidByText := true, laidKinds := [.data, .data, .pinned], laidTests := true, laidLooks := .later }
def AskNumbersUptoCardSaid : Prop := Claim7.holds Tryz.pinned (.plain (OpenSpec.upto askNumbersSpec)) askNumbersUptoCard
end Rows
end Go.Proofs.YtijmfglgeaaoaaaGreatDoor
