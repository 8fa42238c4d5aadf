/-
  The log's room, plain: as many bytes of records as are told are appended, in any order of sizes. No program in sight.
-/
import Derived.Test.YtfheikmjjijdpaaDoorBeP
namespace Go.Proofs.YtfheikmjjijdpaaDoor

/-- How many sheets more there may be, of so many in all, of which so many are there. -/
def moreOf (count : Int) (k : Nat) : Int := count - 1 - (k : Int)
def roomOf (count : Int) (k : Nat) : Int := max (moreOf count k - 1) 0 * 496 / 2
theorem roomOf_eq (count : Int) (k : Nat) : roomOf count k = max (moreOf count k - 1) 0 * 248 := by
  unfold roomOf
  omega
/-- A record of b bytes behind a last sheet of so many: it fits, wants a new one, or there is no room. -/
def apd (count : Int) (k len b : Nat) : Option (Nat × Nat) := if len + b ≤ 496 then some (k, len + b) else if moreOf count k = 0 then none else some (k + 1, b)
/-- What stands while records of t bytes in all go onto a log that had k0 sheets. -/
def RoomInv (k0 t k len : Nat) : Prop := k = k0 ∨ (k0 < k ∧ 496 * (k - k0 - 1) + len ≤ 2 * t)
theorem room_start (k0 len : Nat) : RoomInv k0 0 k0 len := .inl rfl
theorem room_step {count : Int} {k0 t k len b : Nat} (h : RoomInv k0 t k len) (hk : (k : Int) ≤ count - 1) (hb : 1 ≤ b) (hr : (t : Int) + b ≤ roomOf count k0) :
    ∃ k' len', apd count k len b = some (k', len') ∧ RoomInv k0 (t + b) k' len' ∧ (k' : Int) ≤ count - 1 := by
  rw [roomOf_eq] at hr
  unfold moreOf at hr
  unfold apd moreOf
  unfold RoomInv at h ⊢
  by_cases h1 : len + b ≤ 496
  · refine ⟨k, len + b, by rw [if_pos h1], ?_, hk⟩
    omega
  · rw [if_neg h1]
    by_cases h2 : count - 1 - (k : Int) = 0
    · exfalso
      rcases h with h | ⟨h, h'⟩ <;> omega
    · rw [if_neg h2]
      refine ⟨k + 1, b, rfl, ?_, by omega⟩
      rcases h with h | ⟨h, h'⟩ <;> omega
end Go.Proofs.YtfheikmjjijdpaaDoor
