/-
  No disk, and one that nobody made: what 'none' tells of them; DiskNil's walk.
-/
import Derived.Test.YtobjoafhhchjgaaAwk
namespace Go.Proofs.Ytobjoafhhchjgaa
open Go.RowKit Go.Maps

def unmCells (a : Int) : Array Value := #[.int .i64 0, .map none, .map none, .int .i64 a, .bool false]
theorem copy_nil (w : World) : Calls Try.prog 55 #[.pointer none] w (RetSame (.pointer none) w) := by
  go_enter Try.func55, Try.ntmps55
  go_wp2
  go_ret
  exact ⟨rfl, rfl⟩
theorem copy_unmade (d : Nat) (w : World) (h0 : w.cell? ⟨d, 0, none⟩ = some (.int .i64 0)) : Calls Try.prog 55 #[.pointer (some ⟨d, 0, none⟩)] w (RetSame (.pointer none) w) := by
  go_enter Try.func55, Try.ntmps55
  go_wp2
  go_ret
  exact ⟨rfl, rfl⟩
def ArmUn (d : Nat) (a : Int) (w : World) (e : Ending) (w' : World) : Prop := e = .returned (.tuple #[]) ∧ Blk w' d 54 (unmCells a) ∧ Turned (· = d) w w'
theorem arm_unmade (d : Nat) (a n : Int) (w : World) (h : Blk w d 54 (unmCells a)) :
    Calls Try.prog 29 #[.pointer (some ⟨d, 0, none⟩), .int .i64 n] w (ArmUn d (nonneg n) w) := by
  have hc := h.cell
  have hf := h.frozen
  unfold unmCells at hc
  by_cases hn : 0 ≤ n
  · go_enter Try.func29, Try.ntmps29
    go_wp2
    go_end0
    exact ⟨rfl, by rw [nonneg, if_pos hn]; exact h.set_ 3 _, (Turned.refl (· = d) _).setCell (.inl rfl) _⟩
  · go_enter Try.func29, Try.ntmps29
    go_wp2
    go_end0
    exact ⟨rfl, by rw [nonneg, if_neg (by omega)]; exact h.set_ 3 _, (Turned.refl (· = d) _).setCell (.inl rfl) _⟩

set_option maxRecDepth 100000 in
set_option maxHeartbeats 1000000 in
theorem none_nil (n : Int) (w : World) : Calls Try.prog 32 #[.pointer none, .int .i64 n] w (OkNew w) := by
  go_enter Try.func32, Try.ntmps32
  go_wp2_with fail
  refine (read_err none n 1 _ (may_nil n _) rfl).mono ?_
  rintro e w1 ⟨rfl, rfl⟩
  go_wp2_with fail
  refine (arm_nil n _).mono ?_
  rintro e w1 ⟨rfl, rfl⟩
  go_wp2_with fail
  refine (wake_nil _ _).mono ?_
  rintro e w1 ⟨rfl, rfl⟩
  go_wp2_with fail
  refine (full_any 1 _ (by omega) (by omega)).mono ?_
  rintro e w2 ⟨g2, rfl, hr2, hg2, ht2⟩
  go_wp2_with fail
  refine (write_err none 0 1 _ (may_nil 0 _) rfl _).mono ?_
  rintro e w1 ⟨rfl, rfl⟩
  go_wp2_with fail
  refine (sync_err none 1 _ (may_nil 0 _) rfl).mono ?_
  rintro e w1 ⟨rfl, rfl⟩
  go_wp2_with fail
  refine (down_nil _).mono ?_
  rintro e w1 ⟨rfl, rfl⟩
  go_wp2_with fail
  refine (sectors_nil _).mono ?_
  rintro e w1 ⟨rfl, rfl⟩
  go_wp2_with fail
  refine (copy_nil _).mono ?_
  rintro e w1 ⟨rfl, rfl⟩
  go_wp2_with fail
  go_ret
  exact ⟨rfl, ht2⟩

def OkBut (d : Nat) (w : World) (e : Ending) (w' : World) : Prop := e = .returned (.bool true) ∧ Turned (· = d) w w'
set_option maxRecDepth 100000 in
set_option maxHeartbeats 1000000 in
theorem none_unmade (d : Nat) (n : Int) (w : World) (h : Blk w d 54 (unmCells 0)) : Calls Try.prog 32 #[.pointer (some ⟨d, 0, none⟩), .int .i64 n] w (OkBut d w) := by
  go_enter Try.func32, Try.ntmps32
  go_wp2_with fail
  refine (read_err _ n 1 _ (may_unmade d 0 n _ (h.cell 0) rfl) rfl).mono ?_
  rintro e w1 ⟨rfl, rfl⟩
  go_wp2_with fail
  refine (arm_unmade d 0 n _ h).mono ?_
  rintro e w1 ⟨rfl, h1, ht1⟩
  go_wp2_with fail
  refine (wake_unmade d _ _ (h1.cell 0)).mono ?_
  rintro e w1 ⟨rfl, rfl⟩
  go_wp2_with fail
  refine (full_any 1 _ (by omega) (by omega)).mono ?_
  rintro e w2 ⟨g2, rfl, hr2, hg2, ht2⟩
  have h2 := h1.turned ht2 (fun e => e)
  go_wp2_with fail
  refine (write_err _ 0 1 _ (may_unmade d 0 0 _ (h2.cell 0) rfl) rfl _).mono ?_
  rintro e w1 ⟨rfl, rfl⟩
  go_wp2_with fail
  refine (sync_err _ 1 _ (may_unmade d 0 0 _ (h2.cell 0) rfl) rfl).mono ?_
  rintro e w1 ⟨rfl, rfl⟩
  go_wp2_with fail
  refine (down_any d false _ (h2.cell 4)).mono ?_
  rintro e w1 ⟨rfl, rfl⟩
  go_wp2_with fail
  refine (sectors_any d 0 _ (h2.cell 0)).mono ?_
  rintro e w1 ⟨rfl, rfl⟩
  go_wp2_with fail
  refine (copy_unmade d _ (h2.cell 0)).mono ?_
  rintro e w1 ⟨rfl, rfl⟩
  go_wp2_with fail
  go_ret
  exact ⟨rfl, ht1.trans (W := (· = d)) ht2 (fun _ e => e) (fun _ e => e.elim)⟩

set_option maxRecDepth 100000 in
theorem diskNil_any (n : Int) (w : World) : Calls Try.prog 7 #[.int .i64 n] w (OkNew w) := by
  go_enter Try.func7, Try.ntmps7
  go_wp2_with fail
  refine (awake_any _).mono ?_
  rintro e w1 ⟨rfl, ht1⟩
  go_wp2_with fail
  refine (none_nil n _).mono ?_
  rintro e w2 ⟨rfl, ht2⟩
  go_wp2_with fail
  have ht3 := (ht1.trans (W := fun _ => False) ht2 (fun _ e => e) (fun _ e => e.elim)).alloc (.cells (unmCells 0) 54)
  refine (none_unmade w2.heap.size n _ (Blk.new _ _ _)).mono ?_
  rintro e w3 ⟨rfl, ht4⟩
  go_wp2_with fail
  go_ret
  exact ⟨rfl, ht3.trans (W := fun _ => False) ht4 (fun _ e => e) (fun i e => by right; have := ht1.size; have := ht2.size; omega)⟩
end Go.Proofs.Ytobjoafhhchjgaa
