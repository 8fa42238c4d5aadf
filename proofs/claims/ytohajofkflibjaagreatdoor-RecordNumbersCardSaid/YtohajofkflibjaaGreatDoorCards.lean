/-
  DERIVED. GIVEN WITH THE SEED: THE CARDS: each row of YtohajofkflibjaaGreatDoorRows.lean that lists a variable, with what it lists TIED to the program's text (the seventh form; the later family's looks); each row that meets fmt, with fmt's text TOLD by the authors' own Lean function (tested against real Go, not proved from fmt's source: count such statements apart). THE CARD IS WHAT COUNTS. Prove the row's statement (the work); the ties are given (YtohajofkflibjaaGreatDoorTie.lean); close each card by the builder's one call (the guide's Derived/Test/ToyasCard.lean, 'card_holds'). Laid BY PROGRAM, IN A SANDBOX (cutbox-door.mjs). By AI agents, Wed Nov 11 2026. No macro, syntax, notation, axiom, sorry.
-/
import Derived.Test.YtohajofkflibjaaGreatDoorRows
import GoSem.ClaimSeven
namespace Go.Proofs.YtohajofkflibjaaGreatDoor
namespace Rows

/-- THE TIED CARD OF 'storemanlaw19.RecordPuts'. -/
def recordPutsCard : Claim7 := { stood := { row := recordPutsRow, standIns := [], harness := (true, "f4da7e4dadc7081349920b475deac2f7e18781120c1d9e8304081b8e92ecb821"), looks := false }, kinds := [], alts := [], laidByText := true, laidKinds := [.sentinel], laidTests := true, laidLooks := .later }
def RecordPutsCardSaid : Prop := Claim7.holds Tryz.pinned (.plain (OpenSpec.ofChange recordPutsSpec)) recordPutsCard

/-- THE TIED CARD OF 'storemanlaw19.RecordGets'. -/
def recordGetsCard : Claim7 := { stood := { row := recordGetsRow, standIns := [], harness := (true, "f4da7e4dadc7081349920b475deac2f7e18781120c1d9e8304081b8e92ecb821"), looks := false }, kinds := [], alts := [], laidByText := true, laidKinds := [.sentinel], laidTests := true, laidLooks := .later }
def RecordGetsCardSaid : Prop := Claim7.holds Tryz.pinned (.plain (OpenSpec.ofChange recordGetsSpec)) recordGetsCard

/-- THE TIED CARD OF 'storemanlaw19.RecordNumbers'. -/
def recordNumbersCard : Claim7 := { stood := { row := recordNumbersRow, standIns := [], harness := (true, "f4da7e4dadc7081349920b475deac2f7e18781120c1d9e8304081b8e92ecb821"), looks := false }, kinds := [], alts := [], laidByText := true, laidKinds := [.sentinel], laidTests := true, laidLooks := .later }
def RecordNumbersCardSaid : Prop := Claim7.holds Tryz.pinned (.plain (OpenSpec.ofChange recordNumbersSpec)) recordNumbersCard

/-- THE SECOND FORM's CARD OF 'storemanlaw19.RecordPuts'. -/
def recordPutsUptoCard : Claim7 := { stood := { row := recordPutsUptoRow, standIns := [], harness := (true, "f4da7e4dadc7081349920b475deac2f7e18781120c1d9e8304081b8e92ecb821"), looks := false }, kinds := [], alts := [], laidByText := true, laidKinds := [.sentinel], laidTests := true, laidLooks := .later }
def RecordPutsUptoCardSaid : Prop := Claim7.holds Tryz.pinned (.plain (OpenSpec.upto recordPutsSpec)) recordPutsUptoCard

/-- THE SECOND FORM's CARD OF 'storemanlaw19.RecordGets'. -/
def recordGetsUptoCard : Claim7 := { stood := { row := recordGetsUptoRow, standIns := [], harness := (true, "f4da7e4dadc7081349920b475deac2f7e18781120c1d9e8304081b8e92ecb821"), looks := false }, kinds := [], alts := [], laidByText := true, laidKinds := [.sentinel], laidTests := true, laidLooks := .later }
def RecordGetsUptoCardSaid : Prop := Claim7.holds Tryz.pinned (.plain (OpenSpec.upto recordGetsSpec)) recordGetsUptoCard

/-- THE SECOND FORM's CARD OF 'storemanlaw19.RecordNumbers'. -/
def recordNumbersUptoCard : Claim7 := { stood := { row := recordNumbersUptoRow, standIns := [], harness := (true, "f4da7e4dadc7081349920b475deac2f7e18781120c1d9e8304081b8e92ecb821"), looks := false }, kinds := [], alts := [], laidByText := true, laidKinds := [.sentinel], laidTests := true, laidLooks := .later }
def RecordNumbersUptoCardSaid : Prop := Claim7.holds Tryz.pinned (.plain (OpenSpec.upto recordNumbersSpec)) recordNumbersUptoCard
end Rows
end Go.Proofs.YtohajofkflibjaaGreatDoor
