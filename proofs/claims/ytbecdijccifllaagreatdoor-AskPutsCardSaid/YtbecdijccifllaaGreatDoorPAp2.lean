/-
  Two new lists of bytes lie apart. No condition but numbers.
-/
import Derived.Test.YtbecdijccifllaaGreatDoorPApt
namespace Go.Proofs.YtbecdijccifllaaGreatDoor
open Go.RowKit Go.Maps
set_option linter.unusedVariables false

def two {α : Type} (x y : α) (k : Nat) : α := if k = 0 then x else y
/-- Two new lists of bytes lie apart. -/
theorem apart_two {w w0 : World} {A1 A2 : Option Addr} {n1 n2 c1 c2 g cap : Nat} {z1 z2 : List Int} {T : TypeId} {fr : Nat × Nat} (hL : w.heap[g]? = some (.cells #[.slice A1 n1 c1, .slice A2 n2 c2] T fr)) (h1 : OwnV w A1 n1 c1 z1) (h2 : OwnV w A2 n2 c2 z2)
    (hne : ∀ g, A1 = some ⟨g, 0, none⟩ → A2 ≠ some ⟨g, 0, none⟩) (hn1 : n1 ≤ 1000000) (hn2 : n2 ≤ 1000000) (hB1 : ∀ g, A1 = some ⟨g, 0, none⟩ → w0.heap.size ≤ g) (hB2 : ∀ g, A2 = some ⟨g, 0, none⟩ → w0.heap.size ≤ g) (ht : Turned (fun _ => False) w0 w) :
    Calls Tryz.prog 16 #[.slice (some ⟨g, 0, none⟩) 2 cap] w (fun e w' => e = .returned (.bool true) ∧ Turned (fun _ => False) w0 w') := by
  have hcell : ∀ k, k < 2 → w.cell? ⟨g, 0 + k, none⟩ = some (.slice (two A1 A2 k) (two n1 n2 k) (two c1 c2 k)) := by
    intro k hk
    rw [Nat.zero_add]
    have hc := cell_of_row w g k _ T fr hL
    rcases (show k = 0 ∨ k = 1 by omega) with rfl | rfl
    · exact hc
    · exact hc
  refine (apartBytes_any g 0 2 cap (two A1 A2) (two n1 n2) (two c1 c2) (two z1 z2) w hcell (fun k hk => ?_) (fun j k hj hk hjk g hg => ?_) (by omega) (by omega) (fun k hk => ?_)).mono ?_
  · rcases (show k = 0 ∨ k = 1 by omega) with rfl | rfl
    · exact h1
    · exact h2
  · rcases (show k = 0 ∨ k = 1 by omega) with rfl | rfl
    · obtain rfl : j = 1 := by omega
      exact fun e => hne g e hg
    · obtain rfl : j = 0 := by omega
      exact hne g hg
  · rcases (show k = 0 ∨ k = 1 by omega) with rfl | rfl
    · exact hn1
    · exact hn2
  · rintro e w' ⟨he, h⟩
    refine ⟨he, ht.trans (W := fun _ => False) h (fun _ e => e) ?_⟩
    rintro i ⟨k, hk, e⟩
    right
    rcases (show k = 0 ∨ k = 1 by omega) with rfl | rfl
    · exact hB1 _ e
    · exact hB2 _ e
end Go.Proofs.YtbecdijccifllaaGreatDoor

