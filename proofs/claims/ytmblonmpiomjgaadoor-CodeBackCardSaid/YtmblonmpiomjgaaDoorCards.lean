/-
  DERIVED. GIVEN WITH THE SEED: THE CARDS: each row of YtmblonmpiomjgaaDoorRows.lean that lists a variable, with what it lists TIED to the program's text (the seventh form; the later family's looks); each row that meets fmt, with fmt's text TOLD by the authors' own Lean function (tested against real Go, not proved from fmt's source: count such statements apart). THE CARD IS WHAT COUNTS. Prove the row's statement (the work); the ties are given (YtmblonmpiomjgaaDoorTie.lean); close each card by the builder's one call (the guide's Derived/Test/ToyasCard.lean, 'card_holds'). Laid BY PROGRAM, IN A SANDBOX (cutbox-door.mjs). By AI agents, Wed Nov 11 2026. No macro, syntax, notation, axiom, sorry.
-/
import Derived.Test.YtmblonmpiomjgaaDoorRows
import GoSem.ClaimSeven
namespace Go.Proofs.YtmblonmpiomjgaaDoor
namespace Rows

/-- THE TIED CARD OF 'storemanlaw03.CodeTexts'. -/
def codeTextsCard : Claim7 := { stood := { row := codeTextsRow, standIns := [], harness := (true, "efdd3f32147d9fc87cf77a49eae0c8d5e776ccb0972a08863f644a04899d6946"), looks := true }, kinds := [], alts := [], laidByText := true, laidKinds := [.data, .data, .data, .sentinel, .sentinel], laidTests := true, laidLooks := .later }
def CodeTextsCardSaid : Prop := Claim7.holds Tryd.pinned (.plain (OpenSpec.ofChange codeTextsSpec)) codeTextsCard

/-- THE TIED CARD OF 'storemanlaw03.CodeBack'. -/
def codeBackCard : Claim7 := { stood := { row := codeBackRow, standIns := [], harness := (true, "efdd3f32147d9fc87cf77a49eae0c8d5e776ccb0972a08863f644a04899d6946"), looks := true }, kinds := [], alts := [], laidByText := true, laidKinds := [.data, .data, .data, .sentinel, .sentinel], laidTests := true, laidLooks := .later }
def CodeBackCardSaid : Prop := Claim7.holds Tryd.pinned (.plain (OpenSpec.ofChange codeBackSpec)) codeBackCard

/-- THE TIED CARD OF 'storemanlaw03.CodeWithin'. -/
def codeWithinCard : Claim7 := { stood := { row := codeWithinRow, standIns := [], harness := (true, "efdd3f32147d9fc87cf77a49eae0c8d5e776ccb0972a08863f644a04899d6946"), looks := true }, kinds := [], alts := [], laidByText := true, laidKinds := [.data, .data, .data, .sentinel, .sentinel], laidTests := true, laidLooks := .later }
def CodeWithinCardSaid : Prop := Claim7.holds Tryd.pinned (.plain (OpenSpec.ofChange codeWithinSpec)) codeWithinCard

/-- THE SECOND FORM's CARD OF 'storemanlaw03.CodeTexts'. -/
def codeTextsUptoCard : Claim7 := { stood := { row := codeTextsUptoRow, standIns := [], harness := (true, "efdd3f32147d9fc87cf77a49eae0c8d5e776ccb0972a08863f644a04899d6946"), looks := true }, kinds := [], alts := [], laidByText := true, laidKinds := [.data, .data, .data, .sentinel, .sentinel], laidTests := true, laidLooks := .later }
def CodeTextsUptoCardSaid : Prop := Claim7.holds Tryd.pinned (.plain (OpenSpec.upto codeTextsSpec)) codeTextsUptoCard

/-- THE SECOND FORM's CARD OF 'storemanlaw03.CodeBack'. -/
def codeBackUptoCard : Claim7 := { stood := { row := codeBackUptoRow, standIns := [], harness := (true, "efdd3f32147d9fc87cf77a49eae0c8d5e776ccb0972a08863f644a04899d6946"), looks := true }, kinds := [], alts := [], laidByText := true, laidKinds := [.data, .data, .data, .sentinel, .sentinel], laidTests := true, laidLooks := .later }
def CodeBackUptoCardSaid : Prop := Claim7.holds Tryd.pinned (.plain (OpenSpec.upto codeBackSpec)) codeBackUptoCard

/-- THE SECOND FORM's CARD OF 'storemanlaw03.CodeWithin'. -/
def codeWithinUptoCard : Claim7 := { stood := { row := codeWithinUptoRow, standIns := [], harness := (true, "efdd3f32147d9fc87cf77a49eae0c8d5e776ccb0972a08863f644a04899d6946"), looks := true }, kinds := [], alts := [], laidByText := true, laidKinds := [.data, .data, .data, .sentinel, .sentinel], laidTests := true, laidLooks := .later }
def CodeWithinUptoCardSaid : Prop := Claim7.holds Tryd.pinned (.plain (OpenSpec.upto codeWithinSpec)) codeWithinUptoCard
end Rows
end Go.Proofs.YtmblonmpiomjgaaDoor
