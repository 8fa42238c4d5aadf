/-
  Numbers in so many bytes, the highest first, and readers of bytes, plain. No program in sight; no condition but the ranges that are named.
-/
import Derived.Test.YtglojnmcbochaaaGreatDoorQBits
import Derived.Test.YtglojnmcbochaaaGreatDoorQSec
namespace Go.Proofs.YtglojnmcbochaaaGreatDoor

def I64 (n : Int) : Prop := -9223372036854775808 ≤ n ∧ n ≤ 9223372036854775807
def beAt (k : Nat) (z : Int) (t : Nat) : Int := z / 2 ^ (8 * (k - 1 - t)) % 256
def beTo (k : Nat) (z : Int) (n : Nat) : List Int := (List.range n).map (beAt k z)
/-- z in k bytes. -/
def be (k : Nat) (z : Int) : List Int := beTo k z k
/-- The number that bytes say, wrapped as an int64 at each step. -/
def decN (l : List Int) : Int := l.foldl (fun a c => IntKind.i64.wrap (a * 256 + c)) 0
/-! Readers: none: bytes were wanting. -/
def takeS (n : Nat) : Option (List Int) → List Int × Option (List Int)
  | none => ([], none)
  | some zs => if zs.length < n then ([], none) else (zs.take n, some (zs.drop n))
def numS (k : Nat) (s : Option (List Int)) : Int × Option (List Int) := (decN (takeS k s).1, (takeS k s).2)
end Go.Proofs.YtglojnmcbochaaaGreatDoor

