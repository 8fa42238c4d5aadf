/-
  The program's disk (storeman/disk): what its state is in memory, and the contracts of its small functions: may, crash, Arm, Down, Sectors, New.
-/
import Derived.Test.YtgglkcikimmhfaaGreatDoorProg
import Derived.Test.YtgglkcikimmhfaaGreatDoorSec
namespace Go.Proofs.YtgglkcikimmhfaaGreatDoor
open Go.RowKit Go.Maps

/-- What a disk is: sectors, the latest and the safe bytes of each, which are open, for which it is armed, whether it is down. -/
structure DA where
  n : Int
  lat : Int → List Int
  saf : Int → List Int
  opn : Int → Bool
  armed : Int
  down : Bool

def dskCells (n : Int) (s o : Nat) (armed : Int) (down : Bool) : Array Value := #[.int .i64 n, .map (some s), .map (some o), .int .i64 armed, .bool down]
def RetSame (v : Value) (w : World) (e : Ending) (w' : World) : Prop := e = .returned v ∧ w = w'

section
variable (d : Nat) (n k : Int) (w : World) (hn : w.cell? ⟨d, 0, none⟩ = some (.int .i64 n))
include hn
end

def dskW (d s o : Nat) (k : Nat) : Prop := k = d ∨ k = s ∨ k = o
def nonneg (n : Int) : Int := if 0 ≤ n then n else 0
def DA.new (n : Int) : DA := ⟨n, fun _ => noughts, fun _ => noughts, fun _ => false, 0, false⟩
end Go.Proofs.YtgglkcikimmhfaaGreatDoor
