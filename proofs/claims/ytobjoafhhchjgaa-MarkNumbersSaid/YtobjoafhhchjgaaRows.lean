/-
  No cell of these rows narrows 'for every input' (looked for: loops, veiled, ifaces, maps, wideKeys, modest, calm, conditions, laid).
  DERIVED. THE GIVEN ROWS OF THIS SEAT. 11 by the template 'for every input the law returns true; each argument reads behind the call as it read before'; 0 by the template 'total and deterministic' (their statements: YtobjoafhhchjgaaTotals.lean).
  GIVEN WITH THE SEED: the statements are not yours to turn. If you find one false, say at which input.
  Laid BY PROGRAM, IN A SANDBOX (cutbox-rows.mjs): the forced cells as the released guide's own fill.sh prints them over the translation 229e9361af5d8a9c… (all of the seat's roots in one cut). By AI agents, Wed Nov 11 2026. No macro, syntax, notation, axiom, sorry.
-/
import Derived.Test.YtobjoafhhchjgaaChecked
import GoSem.Claim
import GoSem.ClaimJoined
import GoSem.ClaimMapViews
import Derived.JoinedTies
import Derived.KernelRfl
namespace Go.Proofs.Ytobjoafhhchjgaa
/- THE CELL 'sum', in the pinned program and in every row, IS THE sha256 OF THE DUMP (.gsa) THAT YtobjoafhhchjgaaProg.lean LOADS. Nothing in Lean hashes anything: it is a label: what it is worth is what the hold of that sum in a sandbox is worth. -/
noncomputable def Try.pinned : Pinned := { name := "ytobjoafhhchjgaa", sum := "229e9361af5d8a9c021e578f63b3df9fd1de4fb88d630fb17a7b95432ea51b9e", checked := Try.checked }
namespace Rows
def none {H : Type} : Left H := { results := [], args := [] }

/-- 'storemanlaw18.DiskWhole': WHATEVER THE INPUT: true; the input reads as it did. -/
def diskWholeSpec : ChangeSpec := { name := "diskWhole", fn := fun _ => fun
  | [d1, d2] => { results := [.lit (.bool true)], args := [d1, d2] }
  | _ => none }
def diskWholeRow : OpenClaim := { program := "ytobjoafhhchjgaa", sum := "229e9361af5d8a9c021e578f63b3df9fd1de4fb88d630fb17a7b95432ea51b9e", func := "storeman/storemanlaw18.DiskWhole", spec := "diskWhole", apart := false }
def DiskWholeSaid : Prop := diskWholeRow.holds Try.pinned (OpenSpec.ofChange diskWholeSpec)

/-- ITS FALSE NEIGHBOUR: 'it returns false'. Refute it at one input. -/
def diskWholeWrong : ChangeSpec := { name := "diskWhole", fn := fun _ => fun
  | [d1, d2] => { results := [.lit (.bool false)], args := [d1, d2] }
  | _ => none }
def DiskWholeWrongFalsely : Prop := diskWholeRow.holds Try.pinned (OpenSpec.ofChange diskWholeWrong)

/-- 'storemanlaw18.DiskLives': WHATEVER THE INPUT: true; the input reads as it did. -/
def diskLivesSpec : ChangeSpec := { name := "diskLives", fn := fun _ => fun
  | [d1, d2] => { results := [.lit (.bool true)], args := [d1, d2] }
  | _ => none }
def diskLivesRow : OpenClaim := { program := "ytobjoafhhchjgaa", sum := "229e9361af5d8a9c021e578f63b3df9fd1de4fb88d630fb17a7b95432ea51b9e", func := "storeman/storemanlaw18.DiskLives", spec := "diskLives", apart := false }
def DiskLivesSaid : Prop := diskLivesRow.holds Try.pinned (OpenSpec.ofChange diskLivesSpec)

/-- ITS FALSE NEIGHBOUR: 'it returns false'. Refute it at one input. -/
def diskLivesWrong : ChangeSpec := { name := "diskLives", fn := fun _ => fun
  | [d1, d2] => { results := [.lit (.bool false)], args := [d1, d2] }
  | _ => none }
def DiskLivesWrongFalsely : Prop := diskLivesRow.holds Try.pinned (OpenSpec.ofChange diskLivesWrong)

/-- 'storemanlaw18.DiskNumbers': WHATEVER THE INPUT: true; the input reads as it did. -/
def diskNumbersSpec : ChangeSpec := { name := "diskNumbers", fn := fun _ => fun
  | [] => { results := [.lit (.bool true)], args := [] }
  | _ => none }
def diskNumbersRow : OpenClaim := { program := "ytobjoafhhchjgaa", sum := "229e9361af5d8a9c021e578f63b3df9fd1de4fb88d630fb17a7b95432ea51b9e", func := "storeman/storemanlaw18.DiskNumbers", spec := "diskNumbers", apart := false }
def DiskNumbersSaid : Prop := diskNumbersRow.holds Try.pinned (OpenSpec.ofChange diskNumbersSpec)

/-- ITS FALSE NEIGHBOUR: 'it returns false'. Refute it at one input. -/
def diskNumbersWrong : ChangeSpec := { name := "diskNumbers", fn := fun _ => fun
  | [] => { results := [.lit (.bool false)], args := [] }
  | _ => none }
def DiskNumbersWrongFalsely : Prop := diskNumbersRow.holds Try.pinned (OpenSpec.ofChange diskNumbersWrong)

/-- 'storemanlaw18.DiskArmed': WHATEVER THE INPUT: true; the input reads as it did. -/
def diskArmedSpec : ChangeSpec := { name := "diskArmed", fn := fun _ => fun
  | [d1, d2] => { results := [.lit (.bool true)], args := [d1, d2] }
  | _ => none }
def diskArmedRow : OpenClaim := { program := "ytobjoafhhchjgaa", sum := "229e9361af5d8a9c021e578f63b3df9fd1de4fb88d630fb17a7b95432ea51b9e", func := "storeman/storemanlaw18.DiskArmed", spec := "diskArmed", apart := false }
def DiskArmedSaid : Prop := diskArmedRow.holds Try.pinned (OpenSpec.ofChange diskArmedSpec)

/-- ITS FALSE NEIGHBOUR: 'it returns false'. Refute it at one input. -/
def diskArmedWrong : ChangeSpec := { name := "diskArmed", fn := fun _ => fun
  | [d1, d2] => { results := [.lit (.bool false)], args := [d1, d2] }
  | _ => none }
def DiskArmedWrongFalsely : Prop := diskArmedRow.holds Try.pinned (OpenSpec.ofChange diskArmedWrong)

/-- 'storemanlaw18.DiskNil': WHATEVER THE INPUT: true; the input reads as it did. -/
def diskNilSpec : ChangeSpec := { name := "diskNil", fn := fun _ => fun
  | [d] => { results := [.lit (.bool true)], args := [d] }
  | _ => none }
def diskNilRow : OpenClaim := { program := "ytobjoafhhchjgaa", sum := "229e9361af5d8a9c021e578f63b3df9fd1de4fb88d630fb17a7b95432ea51b9e", func := "storeman/storemanlaw18.DiskNil", spec := "diskNil", apart := false }
def DiskNilSaid : Prop := diskNilRow.holds Try.pinned (OpenSpec.ofChange diskNilSpec)

/-- ITS FALSE NEIGHBOUR: 'it returns false'. Refute it at one input. -/
def diskNilWrong : ChangeSpec := { name := "diskNil", fn := fun _ => fun
  | [d] => { results := [.lit (.bool false)], args := [d] }
  | _ => none }
def DiskNilWrongFalsely : Prop := diskNilRow.holds Try.pinned (OpenSpec.ofChange diskNilWrong)

/-- 'storemanlaw25.MarkPlaces': WHATEVER THE INPUT: true; the input reads as it did. -/
def markPlacesSpec : ChangeSpec := { name := "markPlaces", fn := fun _ => fun
  | [d] => { results := [.lit (.bool true)], args := [d] }
  | _ => none }
def markPlacesRow : OpenClaim := { program := "ytobjoafhhchjgaa", sum := "229e9361af5d8a9c021e578f63b3df9fd1de4fb88d630fb17a7b95432ea51b9e", func := "storeman/storemanlaw25.MarkPlaces", spec := "markPlaces", apart := false }
def MarkPlacesSaid : Prop := markPlacesRow.holds Try.pinned (OpenSpec.ofChange markPlacesSpec)

/-- ITS FALSE NEIGHBOUR: 'it returns false'. Refute it at one input. -/
def markPlacesWrong : ChangeSpec := { name := "markPlaces", fn := fun _ => fun
  | [d] => { results := [.lit (.bool false)], args := [d] }
  | _ => none }
def MarkPlacesWrongFalsely : Prop := markPlacesRow.holds Try.pinned (OpenSpec.ofChange markPlacesWrong)

/-- 'storemanlaw25.MarkNil': WHATEVER THE INPUT: true; the input reads as it did. -/
def markNilSpec : ChangeSpec := { name := "markNil", fn := fun _ => fun
  | [d] => { results := [.lit (.bool true)], args := [d] }
  | _ => none }
def markNilRow : OpenClaim := { program := "ytobjoafhhchjgaa", sum := "229e9361af5d8a9c021e578f63b3df9fd1de4fb88d630fb17a7b95432ea51b9e", func := "storeman/storemanlaw25.MarkNil", spec := "markNil", apart := false }
def MarkNilSaid : Prop := markNilRow.holds Try.pinned (OpenSpec.ofChange markNilSpec)

/-- ITS FALSE NEIGHBOUR: 'it returns false'. Refute it at one input. -/
def markNilWrong : ChangeSpec := { name := "markNil", fn := fun _ => fun
  | [d] => { results := [.lit (.bool false)], args := [d] }
  | _ => none }
def MarkNilWrongFalsely : Prop := markNilRow.holds Try.pinned (OpenSpec.ofChange markNilWrong)

/-- 'storemanlaw25.MarkParts': WHATEVER THE INPUT: true; the input reads as it did. -/
def markPartsSpec : ChangeSpec := { name := "markParts", fn := fun _ => fun
  | [d1, d2] => { results := [.lit (.bool true)], args := [d1, d2] }
  | _ => none }
def markPartsRow : OpenClaim := { program := "ytobjoafhhchjgaa", sum := "229e9361af5d8a9c021e578f63b3df9fd1de4fb88d630fb17a7b95432ea51b9e", func := "storeman/storemanlaw25.MarkParts", spec := "markParts", apart := false }
def MarkPartsSaid : Prop := markPartsRow.holds Try.pinned (OpenSpec.ofChange markPartsSpec)

/-- ITS FALSE NEIGHBOUR: 'it returns false'. Refute it at one input. -/
def markPartsWrong : ChangeSpec := { name := "markParts", fn := fun _ => fun
  | [d1, d2] => { results := [.lit (.bool false)], args := [d1, d2] }
  | _ => none }
def MarkPartsWrongFalsely : Prop := markPartsRow.holds Try.pinned (OpenSpec.ofChange markPartsWrong)

/-- 'storemanlaw25.MarkLives': WHATEVER THE INPUT: true; the input reads as it did. -/
def markLivesSpec : ChangeSpec := { name := "markLives", fn := fun _ => fun
  | [d1, d2] => { results := [.lit (.bool true)], args := [d1, d2] }
  | _ => none }
def markLivesRow : OpenClaim := { program := "ytobjoafhhchjgaa", sum := "229e9361af5d8a9c021e578f63b3df9fd1de4fb88d630fb17a7b95432ea51b9e", func := "storeman/storemanlaw25.MarkLives", spec := "markLives", apart := false }
def MarkLivesSaid : Prop := markLivesRow.holds Try.pinned (OpenSpec.ofChange markLivesSpec)

/-- ITS FALSE NEIGHBOUR: 'it returns false'. Refute it at one input. -/
def markLivesWrong : ChangeSpec := { name := "markLives", fn := fun _ => fun
  | [d1, d2] => { results := [.lit (.bool false)], args := [d1, d2] }
  | _ => none }
def MarkLivesWrongFalsely : Prop := markLivesRow.holds Try.pinned (OpenSpec.ofChange markLivesWrong)

/-- 'storemanlaw25.MarkNumbers': WHATEVER THE INPUT: true; the input reads as it did. -/
def markNumbersSpec : ChangeSpec := { name := "markNumbers", fn := fun _ => fun
  | [] => { results := [.lit (.bool true)], args := [] }
  | _ => none }
def markNumbersRow : OpenClaim := { program := "ytobjoafhhchjgaa", sum := "229e9361af5d8a9c021e578f63b3df9fd1de4fb88d630fb17a7b95432ea51b9e", func := "storeman/storemanlaw25.MarkNumbers", spec := "markNumbers", apart := false }
def MarkNumbersSaid : Prop := markNumbersRow.holds Try.pinned (OpenSpec.ofChange markNumbersSpec)

/-- ITS FALSE NEIGHBOUR: 'it returns false'. Refute it at one input. -/
def markNumbersWrong : ChangeSpec := { name := "markNumbers", fn := fun _ => fun
  | [] => { results := [.lit (.bool false)], args := [] }
  | _ => none }
def MarkNumbersWrongFalsely : Prop := markNumbersRow.holds Try.pinned (OpenSpec.ofChange markNumbersWrong)

/-- 'storemanlaw25.MarkKept': WHATEVER THE INPUT: true; the input reads as it did. -/
def markKeptSpec : ChangeSpec := { name := "markKept", fn := fun _ => fun
  | [d] => { results := [.lit (.bool true)], args := [d] }
  | _ => none }
def markKeptRow : OpenClaim := { program := "ytobjoafhhchjgaa", sum := "229e9361af5d8a9c021e578f63b3df9fd1de4fb88d630fb17a7b95432ea51b9e", func := "storeman/storemanlaw25.MarkKept", spec := "markKept", apart := false }
def MarkKeptSaid : Prop := markKeptRow.holds Try.pinned (OpenSpec.ofChange markKeptSpec)

/-- ITS FALSE NEIGHBOUR: 'it returns false'. Refute it at one input. -/
def markKeptWrong : ChangeSpec := { name := "markKept", fn := fun _ => fun
  | [d] => { results := [.lit (.bool false)], args := [d] }
  | _ => none }
def MarkKeptWrongFalsely : Prop := markKeptRow.holds Try.pinned (OpenSpec.ofChange markKeptWrong)

/- THE SECOND FORM. 'bulk': how many values and letters a reading holds, each counted each time it is reached (what is shared counts as often as it is met; a slice's spare places count too). A statement '..UptoSaid' is the law's where the arguments, and the package variables that the reading takes, are together of bulk at most 1048576: NARROWER than '..Said'. Prove '..Said' where nothing that the law and all that it calls make is longer than what came in: it says more and counts as full. Else prove '..UptoSaid'. A law counts once. -/
mutual
def uptoBulk {H : Type} : DataW H → Nat
  | .lit (.string bytes) => bytes.length + 1
  | .lit _ => 1
  | .nil => 1
  | .ptr d => uptoBulk d + 1
  | .slice elems spare => uptoBulkAll elems + uptoBulkAll spare + 1
  | .agg parts => uptoBulkAll parts + 1
  | .iface _ d => uptoBulk d + 1
  | .map entries => uptoBulkEntries entries + 1
  | .held _ => 1
def uptoBulkAll {H : Type} : List (DataW H) → Nat
  | [] => 0
  | d :: r => uptoBulk d + uptoBulkAll r
def uptoBulkEntries {H : Type} : List (Lit × DataW H) → Nat
  | [] => 0
  | x :: r => uptoBulkEntry x + uptoBulkEntries r
def uptoBulkEntry {H : Type} : Lit × DataW H → Nat
  | (.string bytes, d) => bytes.length + uptoBulk d + 1
  | (_, d) => uptoBulk d + 1
 end
def uptoSmall : (H : Type) → List (DataW H) → Bool := fun _ ds => decide (uptoBulkAll ds ≤ 1048576)
def OpenSpec.upto (s : _root_.Go.ChangeSpec) : _root_.Go.OpenSpec := { _root_.Go.OpenSpec.ofChange s with cond := some uptoSmall }

/-- 'storemanlaw18.DiskWhole', WHERE WHAT IT READS IS OF BULK AT MOST 1048576: true; the input reads as it did. -/
def diskWholeUptoRow : OpenClaim := { program := "ytobjoafhhchjgaa", sum := "229e9361af5d8a9c021e578f63b3df9fd1de4fb88d630fb17a7b95432ea51b9e", func := "storeman/storemanlaw18.DiskWhole", spec := "diskWhole", apart := false, narrowed := true }
def DiskWholeUptoSaid : Prop := diskWholeUptoRow.holds Try.pinned (OpenSpec.upto diskWholeSpec)

/-- 'storemanlaw18.DiskLives', WHERE WHAT IT READS IS OF BULK AT MOST 1048576: true; the input reads as it did. -/
def diskLivesUptoRow : OpenClaim := { program := "ytobjoafhhchjgaa", sum := "229e9361af5d8a9c021e578f63b3df9fd1de4fb88d630fb17a7b95432ea51b9e", func := "storeman/storemanlaw18.DiskLives", spec := "diskLives", apart := false, narrowed := true }
def DiskLivesUptoSaid : Prop := diskLivesUptoRow.holds Try.pinned (OpenSpec.upto diskLivesSpec)

/-- 'storemanlaw18.DiskNumbers', WHERE WHAT IT READS IS OF BULK AT MOST 1048576: true; the input reads as it did. -/
def diskNumbersUptoRow : OpenClaim := { program := "ytobjoafhhchjgaa", sum := "229e9361af5d8a9c021e578f63b3df9fd1de4fb88d630fb17a7b95432ea51b9e", func := "storeman/storemanlaw18.DiskNumbers", spec := "diskNumbers", apart := false, narrowed := true }
def DiskNumbersUptoSaid : Prop := diskNumbersUptoRow.holds Try.pinned (OpenSpec.upto diskNumbersSpec)

/-- 'storemanlaw18.DiskArmed', WHERE WHAT IT READS IS OF BULK AT MOST 1048576: true; the input reads as it did. -/
def diskArmedUptoRow : OpenClaim := { program := "ytobjoafhhchjgaa", sum := "229e9361af5d8a9c021e578f63b3df9fd1de4fb88d630fb17a7b95432ea51b9e", func := "storeman/storemanlaw18.DiskArmed", spec := "diskArmed", apart := false, narrowed := true }
def DiskArmedUptoSaid : Prop := diskArmedUptoRow.holds Try.pinned (OpenSpec.upto diskArmedSpec)

/-- 'storemanlaw18.DiskNil', WHERE WHAT IT READS IS OF BULK AT MOST 1048576: true; the input reads as it did. -/
def diskNilUptoRow : OpenClaim := { program := "ytobjoafhhchjgaa", sum := "229e9361af5d8a9c021e578f63b3df9fd1de4fb88d630fb17a7b95432ea51b9e", func := "storeman/storemanlaw18.DiskNil", spec := "diskNil", apart := false, narrowed := true }
def DiskNilUptoSaid : Prop := diskNilUptoRow.holds Try.pinned (OpenSpec.upto diskNilSpec)

/-- 'storemanlaw25.MarkPlaces', WHERE WHAT IT READS IS OF BULK AT MOST 1048576: true; the input reads as it did. -/
def markPlacesUptoRow : OpenClaim := { program := "ytobjoafhhchjgaa", sum := "229e9361af5d8a9c021e578f63b3df9fd1de4fb88d630fb17a7b95432ea51b9e", func := "storeman/storemanlaw25.MarkPlaces", spec := "markPlaces", apart := false, narrowed := true }
def MarkPlacesUptoSaid : Prop := markPlacesUptoRow.holds Try.pinned (OpenSpec.upto markPlacesSpec)

/-- 'storemanlaw25.MarkNil', WHERE WHAT IT READS IS OF BULK AT MOST 1048576: true; the input reads as it did. -/
def markNilUptoRow : OpenClaim := { program := "ytobjoafhhchjgaa", sum := "229e9361af5d8a9c021e578f63b3df9fd1de4fb88d630fb17a7b95432ea51b9e", func := "storeman/storemanlaw25.MarkNil", spec := "markNil", apart := false, narrowed := true }
def MarkNilUptoSaid : Prop := markNilUptoRow.holds Try.pinned (OpenSpec.upto markNilSpec)

/-- 'storemanlaw25.MarkParts', WHERE WHAT IT READS IS OF BULK AT MOST 1048576: true; the input reads as it did. -/
def markPartsUptoRow : OpenClaim := { program := "ytobjoafhhchjgaa", sum := "229e9361af5d8a9c021e578f63b3df9fd1de4fb88d630fb17a7b95432ea51b9e", func := "storeman/storemanlaw25.MarkParts", spec := "markParts", apart := false, narrowed := true }
def MarkPartsUptoSaid : Prop := markPartsUptoRow.holds Try.pinned (OpenSpec.upto markPartsSpec)

/-- 'storemanlaw25.MarkLives', WHERE WHAT IT READS IS OF BULK AT MOST 1048576: true; the input reads as it did. -/
def markLivesUptoRow : OpenClaim := { program := "ytobjoafhhchjgaa", sum := "229e9361af5d8a9c021e578f63b3df9fd1de4fb88d630fb17a7b95432ea51b9e", func := "storeman/storemanlaw25.MarkLives", spec := "markLives", apart := false, narrowed := true }
def MarkLivesUptoSaid : Prop := markLivesUptoRow.holds Try.pinned (OpenSpec.upto markLivesSpec)

/-- 'storemanlaw25.MarkNumbers', WHERE WHAT IT READS IS OF BULK AT MOST 1048576: true; the input reads as it did. -/
def markNumbersUptoRow : OpenClaim := { program := "ytobjoafhhchjgaa", sum := "229e9361af5d8a9c021e578f63b3df9fd1de4fb88d630fb17a7b95432ea51b9e", func := "storeman/storemanlaw25.MarkNumbers", spec := "markNumbers", apart := false, narrowed := true }
def MarkNumbersUptoSaid : Prop := markNumbersUptoRow.holds Try.pinned (OpenSpec.upto markNumbersSpec)

/-- 'storemanlaw25.MarkKept', WHERE WHAT IT READS IS OF BULK AT MOST 1048576: true; the input reads as it did. -/
def markKeptUptoRow : OpenClaim := { program := "ytobjoafhhchjgaa", sum := "229e9361af5d8a9c021e578f63b3df9fd1de4fb88d630fb17a7b95432ea51b9e", func := "storeman/storemanlaw25.MarkKept", spec := "markKept", apart := false, narrowed := true }
def MarkKeptUptoSaid : Prop := markKeptUptoRow.holds Try.pinned (OpenSpec.upto markKeptSpec)

end Rows
end Go.Proofs.Ytobjoafhhchjgaa
