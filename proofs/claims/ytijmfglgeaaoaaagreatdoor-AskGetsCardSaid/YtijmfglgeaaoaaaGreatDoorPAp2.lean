/-
  ytijmfglgeaaoaaagreatdoor: laws and walks on the road to AskGets, joined: Apt Ap2. Conditions stand at each theorem.
-/
import Derived.Test.YtijmfglgeaaoaaaGreatDoorPApP
import Derived.Test.YtijmfglgeaaoaaaGreatDoorPFlt
namespace Go.Proofs.YtijmfglgeaaoaaaGreatDoor
open Go.RowKit Go.Maps
set_option linter.unusedVariables false

end Go.Proofs.YtijmfglgeaaoaaaGreatDoor

namespace Go.Proofs.YtijmfglgeaaoaaaGreatDoor
open Go.RowKit Go.Maps
set_option linter.unusedVariables false

def two {α : Type} (x y : α) (k : Nat) : α := if k = 0 then x else y
theorem two_0 {α : Type} (x y : α) : two x y 0 = x := rfl
theorem two_1 {α : Type} (x y : α) : two x y 1 = y := rfl
end Go.Proofs.YtijmfglgeaaoaaaGreatDoor

