/-
  DERIVED. GIVEN WITH THE SEED: THE CARDS: each row of YtgglkcikimmhfaaGreatDoorRows.lean that lists a variable, with what it lists TIED to the program's text (the seventh form; the later family's looks); each row that meets fmt, with fmt's text TOLD by the authors' own Lean function (tested against real Go, not proved from fmt's source: count such statements apart). THE CARD IS WHAT COUNTS. Prove the row's statement (the work); the ties are given (YtgglkcikimmhfaaGreatDoorTie.lean); close each card by the builder's one call (the guide's Derived/Test/ToyasCard.lean, 'card_holds'). Laid BY PROGRAM, IN A SANDBOX (cutbox-door.mjs). By AI agents, Wed Nov 11 2026. No macro, syntax, notation, axiom, sorry.
-/
import Derived.Test.YtgglkcikimmhfaaGreatDoorRows
import GoSem.ClaimSeven
namespace Go.Proofs.YtgglkcikimmhfaaGreatDoor
namespace Rows

/-- THE TIED CARD OF 'storemanlaw03.CodeNumbers'. -/
def codeNumbersCard : Claim7 := { stood := { row := codeNumbersRow, standIns := [], harness := (true, "d8713cfefdcbc7f14bdcb67a0bf29f2a4d467548f37067f82755935ade032c8e"), looks := true }, kinds := [], alts := [], laidByText := true, laidKinds := [.data, .data, .data, .sentinel, .sentinel], laidTests := true, laidLooks := .later }
def CodeNumbersCardSaid : Prop := Claim7.holds Tryz.pinned (.plain (OpenSpec.ofChange codeNumbersSpec)) codeNumbersCard

/-- THE SECOND FORM's CARD OF 'storemanlaw03.CodeNumbers'. -/
def codeNumbersUptoCard : Claim7 := { stood := { row := codeNumbersUptoRow, standIns := [], harness := (true, "d8713cfefdcbc7f14bdcb67a0bf29f2a4d467548f37067f82755935ade032c8e"), looks := true }, kinds := [], alts := [], laidByText := true, laidKinds := [.data, .data, .data, .sentinel, .sentinel], laidTests := true, laidLooks := .later }
def CodeNumbersUptoCardSaid : Prop := Claim7.holds Tryz.pinned (.plain (OpenSpec.upto codeNumbersSpec)) codeNumbersUptoCard
end Rows
end Go.Proofs.YtgglkcikimmhfaaGreatDoor
