/-
  DERIVED. GIVEN WITH THE SEED: THE CARDS: each row of YtbecdijccifllaaDoorRows.lean that lists a variable, with what it lists TIED to the program's text (the seventh form; the later family's looks); each row that meets fmt, with fmt's text TOLD by the authors' own Lean function (tested against real Go, not proved from fmt's source: count such statements apart). THE CARD IS WHAT COUNTS. Prove the row's statement (the work); the ties are given (YtbecdijccifllaaDoorTie.lean); close each card by the builder's one call (the guide's Derived/Test/ToyasCard.lean, 'card_holds'). Laid BY PROGRAM, IN A SANDBOX (cutbox-door.mjs). By AI agents, Wed Nov 11 2026. No macro, syntax, notation, axiom, sorry.
-/
import Derived.Test.YtbecdijccifllaaDoorRows
import GoSem.ClaimSeven
namespace Go.Proofs.YtbecdijccifllaaDoor
namespace Rows

/-- THE TIED CARD OF 'storemanlaw13.AskBack'. -/
def askBackCard : Claim7 := { stood := { row := askBackRow, standIns := [], harness := (true, "972d5ecab1c789e54044f98b0e2870b8db974d3419b61e01794f3aa5b70ed9f1"), looks := false }, kinds := [], alts := [], laidByText := true, laidKinds := [.data, .data, .pinned], laidTests := true, laidLooks := .later }
def AskBackCardSaid : Prop := Claim7.holds Tryd.pinned (.plain (OpenSpec.ofChange askBackSpec)) askBackCard

/-- THE TIED CARD OF 'storemanlaw13.AskWhole'. -/
def askWholeCard : Claim7 := { stood := { row := askWholeRow, standIns := [], harness := (true, "972d5ecab1c789e54044f98b0e2870b8db974d3419b61e01794f3aa5b70ed9f1"), looks := false }, kinds := [], alts := [], laidByText := true, laidKinds := [.data, .data, .pinned], laidTests := true, laidLooks := .later }
def AskWholeCardSaid : Prop := Claim7.holds Tryd.pinned (.plain (OpenSpec.ofChange askWholeSpec)) askWholeCard

/-- THE SECOND FORM's CARD OF 'storemanlaw13.AskBack'. -/
def askBackUptoCard : Claim7 := { stood := { row := askBackUptoRow, standIns := [], harness := (true, "972d5ecab1c789e54044f98b0e2870b8db974d3419b61e01794f3aa5b70ed9f1"), looks := false }, kinds := [], alts := [], laidByText := true, laidKinds := [.data, .data, .pinned], laidTests := true, laidLooks := .later }
def AskBackUptoCardSaid : Prop := Claim7.holds Tryd.pinned (.plain (OpenSpec.upto askBackSpec)) askBackUptoCard

/-- THE SECOND FORM's CARD OF 'storemanlaw13.AskWhole'. -/
def askWholeUptoCard : Claim7 := { stood := { row := askWholeUptoRow, standIns := [], harness := (true, "972d5ecab1c789e54044f98b0e2870b8db974d3419b61e01794f3aa5b70ed9f1"), looks := false }, kinds := [], alts := [], laidByText := true, laidKinds := [.data, .data, .pinned], laidTests := true, laidLooks := .later }
def AskWholeUptoCardSaid : Prop := Claim7.holds Tryd.pinned (.plain (OpenSpec.upto askWholeSpec)) askWholeUptoCard
end Rows
end Go.Proofs.YtbecdijccifllaaDoor
