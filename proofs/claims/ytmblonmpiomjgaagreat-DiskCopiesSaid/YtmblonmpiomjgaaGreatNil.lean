/-
  No disk, and one that nobody made: what 'none' tells of them; DiskNil's walk.
-/
import Derived.Test.YtmblonmpiomjgaaGreatAwk
namespace Go.Proofs.YtmblonmpiomjgaaGreat
open Go.RowKit Go.Maps

def unmCells (a : Int) : Array Value := #[.int .i64 0, .map none, .map none, .int .i64 a, .bool false]
theorem copy_nil (w : World) : Calls Tryz.prog 9 #[.pointer none] w (RetSame (.pointer none) w) := by
  go_enter Tryz.func9, Tryz.ntmps9
  go_wp2
  go_ret
  exact ⟨rfl, rfl⟩
theorem copy_unmade (d : Nat) (w : World) (h0 : w.cell? ⟨d, 0, none⟩ = some (.int .i64 0)) : Calls Tryz.prog 9 #[.pointer (some ⟨d, 0, none⟩)] w (RetSame (.pointer none) w) := by
  go_enter Tryz.func9, Tryz.ntmps9
  go_wp2
  go_ret
  exact ⟨rfl, rfl⟩
def ArmUn (d : Nat) (a : Int) (w : World) (e : Ending) (w' : World) : Prop := e = .returned (.tuple #[]) ∧ Blk w' d 48 (unmCells a) ∧ Turned (· = d) w w'
theorem arm_unmade (d : Nat) (a n : Int) (w : World) (h : Blk w d 48 (unmCells a)) :
    Calls Tryz.prog 27 #[.pointer (some ⟨d, 0, none⟩), .int .i64 n] w (ArmUn d (nonneg n) w) := by
  have hc := h.cell
  have hf := h.frozen
  unfold unmCells at hc
  by_cases hn : 0 ≤ n
  · go_enter Tryz.func27, Tryz.ntmps27
    go_wp2
    go_end0
    exact ⟨rfl, by rw [nonneg, if_pos hn]; exact h.set_ 3 _, (Turned.refl (· = d) _).setCell (.inl rfl) _⟩
  · go_enter Tryz.func27, Tryz.ntmps27
    go_wp2
    go_end0
    exact ⟨rfl, by rw [nonneg, if_neg (by omega)]; exact h.set_ 3 _, (Turned.refl (· = d) _).setCell (.inl rfl) _⟩

def OkBut (d : Nat) (w : World) (e : Ending) (w' : World) : Prop := e = .returned (.bool true) ∧ Turned (· = d) w w'
end Go.Proofs.YtmblonmpiomjgaaGreat
