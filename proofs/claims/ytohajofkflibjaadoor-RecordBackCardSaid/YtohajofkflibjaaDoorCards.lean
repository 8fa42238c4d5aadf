/-
  DERIVED. GIVEN WITH THE SEED: THE CARDS: each row of YtohajofkflibjaaDoorRows.lean that lists a variable, with what it lists TIED to the program's text (the seventh form; the later family's looks); each row that meets fmt, with fmt's text TOLD by the authors' own Lean function (tested against real Go, not proved from fmt's source: count such statements apart). THE CARD IS WHAT COUNTS. Prove the row's statement (the work); the ties are given (YtohajofkflibjaaDoorTie.lean); close each card by the builder's one call (the guide's Derived/Test/ToyasCard.lean, 'card_holds'). Laid BY PROGRAM, IN A SANDBOX (cutbox-door.mjs). By AI agents, Wed Nov 11 2026. No macro, syntax, notation, axiom, sorry.
-/
import Derived.Test.YtohajofkflibjaaDoorRows
import GoSem.ClaimSeven
namespace Go.Proofs.YtohajofkflibjaaDoor
namespace Rows

/-- THE TIED CARD OF 'storemanlaw19.RecordBack'. -/
def recordBackCard : Claim7 := { stood := { row := recordBackRow, standIns := [], harness := (true, "68f481eb7f3118deceb31bcb52c7e05b3086c3d737c458f82defbb9014bb163d"), looks := false }, kinds := [], alts := [], laidByText := true, laidKinds := [.sentinel], laidTests := true, laidLooks := .later }
def RecordBackCardSaid : Prop := Claim7.holds Tryd.pinned (.plain (OpenSpec.ofChange recordBackSpec)) recordBackCard

/-- THE TIED CARD OF 'storemanlaw19.RecordWhole'. -/
def recordWholeCard : Claim7 := { stood := { row := recordWholeRow, standIns := [], harness := (true, "68f481eb7f3118deceb31bcb52c7e05b3086c3d737c458f82defbb9014bb163d"), looks := false }, kinds := [], alts := [], laidByText := true, laidKinds := [.sentinel], laidTests := true, laidLooks := .later }
def RecordWholeCardSaid : Prop := Claim7.holds Tryd.pinned (.plain (OpenSpec.ofChange recordWholeSpec)) recordWholeCard

/-- THE SECOND FORM's CARD OF 'storemanlaw19.RecordBack'. -/
def recordBackUptoCard : Claim7 := { stood := { row := recordBackUptoRow, standIns := [], harness := (true, "68f481eb7f3118deceb31bcb52c7e05b3086c3d737c458f82defbb9014bb163d"), looks := false }, kinds := [], alts := [], laidByText := true, laidKinds := [.sentinel], laidTests := true, laidLooks := .later }
def RecordBackUptoCardSaid : Prop := Claim7.holds Tryd.pinned (.plain (OpenSpec.upto recordBackSpec)) recordBackUptoCard

/-- THE SECOND FORM's CARD OF 'storemanlaw19.RecordWhole'. -/
def recordWholeUptoCard : Claim7 := { stood := { row := recordWholeUptoRow, standIns := [], harness := (true, "68f481eb7f3118deceb31bcb52c7e05b3086c3d737c458f82defbb9014bb163d"), looks := false }, kinds := [], alts := [], laidByText := true, laidKinds := [.sentinel], laidTests := true, laidLooks := .later }
def RecordWholeUptoCardSaid : Prop := Claim7.holds Tryd.pinned (.plain (OpenSpec.upto recordWholeSpec)) recordWholeUptoCard
end Rows
end Go.Proofs.YtohajofkflibjaaDoor
