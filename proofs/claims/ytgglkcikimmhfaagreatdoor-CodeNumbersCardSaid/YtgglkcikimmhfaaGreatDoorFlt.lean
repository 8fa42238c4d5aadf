/-
  The flat.. over lists that are nil: true, and nothing that was there turns.
-/
import Derived.Test.YtgglkcikimmhfaaGreatDoorKitB
import Derived.Test.YtgglkcikimmhfaaGreatDoorAwk
import Derived.Handy
namespace Go.Proofs.YtgglkcikimmhfaaGreatDoor
open Go.RowKit Go.Maps

set_option maxRecDepth 100000 in
set_option maxHeartbeats 400000 in
theorem flatWords_nil (w : World) : Calls Tryz.prog 44 #[.slice none 0 0] w (OkNew w) := by
  have hmk : ∀ w : World, (Instr.makeSlice 61 (.int .i64 0) (.int .i64 0)).run Tryz.prog w = .ok (.slice (some ⟨w.heap.size, 0, none⟩) 0 0) (w.alloc (.cells #[] 130)) := fun _ => by kernel_rfl
  go_enter Tryz.func44, Tryz.ntmps44
  go_wp2
  go_rounds 1
  go_rounds 1
  go_rounds 1
  go_rounds 1
  go_rounds 1
  go_ret
  exact ⟨rfl, (Turned.refl _ w).alloc _⟩

set_option maxRecDepth 100000 in
set_option maxHeartbeats 400000 in
theorem flatInts_nil (w : World) : Calls Tryz.prog 45 #[.slice none 0 0] w (OkNew w) := by
  have hmk : ∀ w : World, (Instr.makeSlice 62 (.int .i64 0) (.int .i64 0)).run Tryz.prog w = .ok (.slice (some ⟨w.heap.size, 0, none⟩) 0 0) (w.alloc (.cells #[] 131)) := fun _ => by kernel_rfl
  go_enter Tryz.func45, Tryz.ntmps45
  go_wp2
  go_rounds 1
  go_rounds 1
  go_rounds 1
  go_rounds 1
  go_rounds 1
  go_ret
  exact ⟨rfl, (Turned.refl _ w).alloc _⟩

set_option maxRecDepth 100000 in
set_option maxHeartbeats 400000 in
theorem flatLongs_nil (w : World) : Calls Tryz.prog 46 #[.slice none 0 0] w (OkNew w) := by
  have hmk : ∀ w : World, (Instr.makeSlice 63 (.int .i64 0) (.int .i64 0)).run Tryz.prog w = .ok (.slice (some ⟨w.heap.size, 0, none⟩) 0 0) (w.alloc (.cells #[] 26)) := fun _ => by kernel_rfl
  go_enter Tryz.func46, Tryz.ntmps46
  go_wp2
  go_rounds 1
  go_rounds 1
  go_rounds 1
  go_rounds 1
  go_rounds 1
  go_ret
  exact ⟨rfl, (Turned.refl _ w).alloc _⟩

set_option maxRecDepth 100000 in
set_option maxHeartbeats 400000 in
theorem flatTexts_nil (w : World) : Calls Tryz.prog 47 #[.slice none 0 0] w (OkNew w) := by
  have hmk : ∀ w : World, (Instr.makeSlice 64 (.int .i64 0) (.int .i64 0)).run Tryz.prog w = .ok (.slice (some ⟨w.heap.size, 0, none⟩) 0 0) (w.alloc (.cells #[] 30)) := fun _ => by kernel_rfl
  go_enter Tryz.func47, Tryz.ntmps47
  go_wp2
  go_rounds 1
  go_rounds 1
  go_rounds 1
  go_rounds 1
  go_rounds 1
  go_ret
  exact ⟨rfl, (Turned.refl _ w).alloc _⟩

set_option maxRecDepth 100000 in
set_option maxHeartbeats 400000 in
theorem flatWindows_nil (w : World) : Calls Tryz.prog 49 #[.slice none 0 0] w (OkNew w) := by
  have hmk : ∀ w : World, (Instr.makeSlice 65 (.int .i64 0) (.int .i64 0)).run Tryz.prog w = .ok (.slice (some ⟨w.heap.size, 0, none⟩) 0 0) (w.alloc (.cells #[] 133)) := fun _ => by kernel_rfl
  go_enter Tryz.func49, Tryz.ntmps49
  go_wp2
  go_rounds 1
  go_rounds 1
  go_rounds 1
  go_rounds 1
  go_rounds 1
  go_ret
  exact ⟨rfl, (Turned.refl _ w).alloc _⟩

set_option maxRecDepth 100000 in
set_option maxHeartbeats 400000 in
theorem flatLots_nil (w : World) : Calls Tryz.prog 50 #[.slice none 0 0] w (OkNew w) := by
  have hmk : ∀ w : World, (Instr.makeSlice 66 (.int .i64 0) (.int .i64 0)).run Tryz.prog w = .ok (.slice (some ⟨w.heap.size, 0, none⟩) 0 0) (w.alloc (.cells #[] 137)) := fun _ => by kernel_rfl
  go_enter Tryz.func50, Tryz.ntmps50
  go_wp2
  go_rounds 1
  go_rounds 1
  go_rounds 1
  go_rounds 1
  go_rounds 1
  go_ret
  exact ⟨rfl, (Turned.refl _ w).alloc _⟩

set_option maxRecDepth 100000 in
set_option maxHeartbeats 400000 in
theorem flatWants_nil (w : World) : Calls Tryz.prog 51 #[.slice none 0 0] w (OkNew w) := by
  have hmk : ∀ w : World, (Instr.makeSlice 67 (.int .i64 0) (.int .i64 0)).run Tryz.prog w = .ok (.slice (some ⟨w.heap.size, 0, none⟩) 0 0) (w.alloc (.cells #[] 141)) := fun _ => by kernel_rfl
  go_enter Tryz.func51, Tryz.ntmps51
  go_wp2
  go_rounds 1
  go_rounds 1
  go_rounds 1
  go_rounds 1
  go_rounds 1
  go_ret
  exact ⟨rfl, (Turned.refl _ w).alloc _⟩

set_option maxRecDepth 100000 in
set_option maxHeartbeats 400000 in
theorem flatUses_nil (w : World) : Calls Tryz.prog 52 #[.slice none 0 0] w (OkNew w) := by
  have hmk : ∀ w : World, (Instr.makeSlice 68 (.int .i64 0) (.int .i64 0)).run Tryz.prog w = .ok (.slice (some ⟨w.heap.size, 0, none⟩) 0 0) (w.alloc (.cells #[] 145)) := fun _ => by kernel_rfl
  go_enter Tryz.func52, Tryz.ntmps52
  go_wp2
  go_rounds 1
  go_rounds 1
  go_rounds 1
  go_rounds 1
  go_rounds 1
  go_ret
  exact ⟨rfl, (Turned.refl _ w).alloc _⟩

set_option maxRecDepth 100000 in
set_option maxHeartbeats 400000 in
theorem flatParts_nil (w : World) : Calls Tryz.prog 53 #[.slice none 0 0] w (OkNew w) := by
  have hmk : ∀ w : World, (Instr.makeSlice 69 (.int .i64 0) (.int .i64 0)).run Tryz.prog w = .ok (.slice (some ⟨w.heap.size, 0, none⟩) 0 0) (w.alloc (.cells #[] 149)) := fun _ => by kernel_rfl
  go_enter Tryz.func53, Tryz.ntmps53
  go_wp2
  go_rounds 1
  go_rounds 1
  go_rounds 1
  go_rounds 1
  go_rounds 1
  go_ret
  exact ⟨rfl, (Turned.refl _ w).alloc _⟩

set_option maxRecDepth 100000 in
set_option maxHeartbeats 400000 in
theorem flatItems_nil (w : World) : Calls Tryz.prog 54 #[.slice none 0 0] w (OkNew w) := by
  have hmk : ∀ w : World, (Instr.makeSlice 70 (.int .i64 0) (.int .i64 0)).run Tryz.prog w = .ok (.slice (some ⟨w.heap.size, 0, none⟩) 0 0) (w.alloc (.cells #[] 153)) := fun _ => by kernel_rfl
  go_enter Tryz.func54, Tryz.ntmps54
  go_wp2
  go_rounds 1
  go_rounds 1
  go_rounds 1
  go_rounds 1
  go_rounds 1
  go_ret
  exact ⟨rfl, (Turned.refl _ w).alloc _⟩

set_option maxRecDepth 100000 in
set_option maxHeartbeats 400000 in
theorem flatLines_nil (w : World) : Calls Tryz.prog 55 #[.slice none 0 0] w (OkNew w) := by
  have hmk : ∀ w : World, (Instr.makeSlice 71 (.int .i64 0) (.int .i64 0)).run Tryz.prog w = .ok (.slice (some ⟨w.heap.size, 0, none⟩) 0 0) (w.alloc (.cells #[] 158)) := fun _ => by kernel_rfl
  go_enter Tryz.func55, Tryz.ntmps55
  go_wp2
  go_rounds 1
  go_rounds 1
  go_rounds 1
  go_rounds 1
  go_rounds 1
  go_ret
  exact ⟨rfl, (Turned.refl _ w).alloc _⟩

set_option maxRecDepth 100000 in
set_option maxHeartbeats 400000 in
theorem flatAsks_nil (w : World) : Calls Tryz.prog 56 #[.slice none 0 0] w (OkNew w) := by
  have hmk : ∀ w : World, (Instr.makeSlice 72 (.int .i64 0) (.int .i64 0)).run Tryz.prog w = .ok (.slice (some ⟨w.heap.size, 0, none⟩) 0 0) (w.alloc (.cells #[] 163)) := fun _ => by kernel_rfl
  go_enter Tryz.func56, Tryz.ntmps56
  go_wp2
  go_rounds 1
  go_rounds 1
  go_rounds 1
  go_rounds 1
  go_rounds 1
  go_ret
  exact ⟨rfl, (Turned.refl _ w).alloc _⟩

set_option maxRecDepth 100000 in
set_option maxHeartbeats 400000 in
theorem flatTells_nil (w : World) : Calls Tryz.prog 57 #[.slice none 0 0] w (OkNew w) := by
  have hmk : ∀ w : World, (Instr.makeSlice 73 (.int .i64 0) (.int .i64 0)).run Tryz.prog w = .ok (.slice (some ⟨w.heap.size, 0, none⟩) 0 0) (w.alloc (.cells #[] 169)) := fun _ => by kernel_rfl
  go_enter Tryz.func57, Tryz.ntmps57
  go_wp2
  go_rounds 1
  go_rounds 1
  go_rounds 1
  go_rounds 1
  go_rounds 1
  go_ret
  exact ⟨rfl, (Turned.refl _ w).alloc _⟩

set_option maxRecDepth 100000 in
set_option maxHeartbeats 400000 in
theorem flatStates_nil (w : World) : Calls Tryz.prog 58 #[.slice none 0 0] w (OkNew w) := by
  have hmk : ∀ w : World, (Instr.makeSlice 74 (.int .i64 0) (.int .i64 0)).run Tryz.prog w = .ok (.slice (some ⟨w.heap.size, 0, none⟩) 0 0) (w.alloc (.cells #[] 175)) := fun _ => by kernel_rfl
  go_enter Tryz.func58, Tryz.ntmps58
  go_wp2
  go_rounds 1
  go_rounds 1
  go_rounds 1
  go_rounds 1
  go_rounds 1
  go_ret
  exact ⟨rfl, (Turned.refl _ w).alloc _⟩

set_option maxRecDepth 100000 in
set_option maxHeartbeats 400000 in
theorem flatRows_nil (w : World) : Calls Tryz.prog 59 #[.slice none 0 0] w (OkNew w) := by
  have hmk : ∀ w : World, (Instr.makeSlice 75 (.int .i64 0) (.int .i64 0)).run Tryz.prog w = .ok (.slice (some ⟨w.heap.size, 0, none⟩) 0 0) (w.alloc (.cells #[] 180)) := fun _ => by kernel_rfl
  go_enter Tryz.func59, Tryz.ntmps59
  go_wp2
  go_rounds 1
  go_rounds 1
  go_rounds 1
  go_rounds 1
  go_rounds 1
  go_ret
  exact ⟨rfl, (Turned.refl _ w).alloc _⟩

set_option maxRecDepth 100000 in
set_option maxHeartbeats 400000 in
theorem flatTurns_nil (w : World) : Calls Tryz.prog 60 #[.slice none 0 0] w (OkNew w) := by
  have hmk : ∀ w : World, (Instr.makeSlice 76 (.int .i64 0) (.int .i64 0)).run Tryz.prog w = .ok (.slice (some ⟨w.heap.size, 0, none⟩) 0 0) (w.alloc (.cells #[] 185)) := fun _ => by kernel_rfl
  go_enter Tryz.func60, Tryz.ntmps60
  go_wp2
  go_rounds 1
  go_rounds 1
  go_rounds 1
  go_rounds 1
  go_rounds 1
  go_ret
  exact ⟨rfl, (Turned.refl _ w).alloc _⟩

set_option maxRecDepth 100000 in
set_option maxHeartbeats 400000 in
theorem flatFates_nil (w : World) : Calls Tryz.prog 61 #[.slice none 0 0] w (OkNew w) := by
  have hmk : ∀ w : World, (Instr.makeSlice 77 (.int .i64 0) (.int .i64 0)).run Tryz.prog w = .ok (.slice (some ⟨w.heap.size, 0, none⟩) 0 0) (w.alloc (.cells #[] 190)) := fun _ => by kernel_rfl
  go_enter Tryz.func61, Tryz.ntmps61
  go_wp2
  go_rounds 1
  go_rounds 1
  go_rounds 1
  go_rounds 1
  go_rounds 1
  go_ret
  exact ⟨rfl, (Turned.refl _ w).alloc _⟩

set_option maxRecDepth 100000 in
set_option maxHeartbeats 400000 in
theorem flatDirties_nil (w : World) : Calls Tryz.prog 62 #[.slice none 0 0] w (OkNew w) := by
  have hmk : ∀ w : World, (Instr.makeSlice 78 (.int .i64 0) (.int .i64 0)).run Tryz.prog w = .ok (.slice (some ⟨w.heap.size, 0, none⟩) 0 0) (w.alloc (.cells #[] 194)) := fun _ => by kernel_rfl
  go_enter Tryz.func62, Tryz.ntmps62
  go_wp2
  go_rounds 1
  go_rounds 1
  go_rounds 1
  go_rounds 1
  go_rounds 1
  go_ret
  exact ⟨rfl, (Turned.refl _ w).alloc _⟩

set_option maxRecDepth 100000 in
set_option maxHeartbeats 400000 in
theorem flatOpens_nil (w : World) : Calls Tryz.prog 63 #[.slice none 0 0] w (OkNew w) := by
  have hmk : ∀ w : World, (Instr.makeSlice 79 (.int .i64 0) (.int .i64 0)).run Tryz.prog w = .ok (.slice (some ⟨w.heap.size, 0, none⟩) 0 0) (w.alloc (.cells #[] 198)) := fun _ => by kernel_rfl
  go_enter Tryz.func63, Tryz.ntmps63
  go_wp2
  go_rounds 1
  go_rounds 1
  go_rounds 1
  go_rounds 1
  go_rounds 1
  go_ret
  exact ⟨rfl, (Turned.refl _ w).alloc _⟩

set_option maxRecDepth 100000 in
set_option maxHeartbeats 400000 in
theorem flatRecords_nil (w : World) : Calls Tryz.prog 64 #[.slice none 0 0] w (OkNew w) := by
  have hmk : ∀ w : World, (Instr.makeSlice 80 (.int .i64 0) (.int .i64 0)).run Tryz.prog w = .ok (.slice (some ⟨w.heap.size, 0, none⟩) 0 0) (w.alloc (.cells #[] 202)) := fun _ => by kernel_rfl
  go_enter Tryz.func64, Tryz.ntmps64
  go_wp2
  go_rounds 1
  go_rounds 1
  go_rounds 1
  go_rounds 1
  go_rounds 1
  go_ret
  exact ⟨rfl, (Turned.refl _ w).alloc _⟩

set_option maxRecDepth 100000 in
set_option maxHeartbeats 400000 in
theorem flatSteps_nil (w : World) : Calls Tryz.prog 65 #[.slice none 0 0] w (OkNew w) := by
  have hmk : ∀ w : World, (Instr.makeSlice 81 (.int .i64 0) (.int .i64 0)).run Tryz.prog w = .ok (.slice (some ⟨w.heap.size, 0, none⟩) 0 0) (w.alloc (.cells #[] 208)) := fun _ => by kernel_rfl
  go_enter Tryz.func65, Tryz.ntmps65
  go_wp2
  go_rounds 1
  go_rounds 1
  go_rounds 1
  go_rounds 1
  go_rounds 1
  go_ret
  exact ⟨rfl, (Turned.refl _ w).alloc _⟩

set_option maxRecDepth 100000 in
set_option maxHeartbeats 400000 in
theorem flatTales_nil (w : World) : Calls Tryz.prog 66 #[.slice none 0 0] w (OkNew w) := by
  have hmk : ∀ w : World, (Instr.makeSlice 82 (.int .i64 0) (.int .i64 0)).run Tryz.prog w = .ok (.slice (some ⟨w.heap.size, 0, none⟩) 0 0) (w.alloc (.cells #[] 214)) := fun _ => by kernel_rfl
  go_enter Tryz.func66, Tryz.ntmps66
  go_wp2
  go_rounds 1
  go_rounds 1
  go_rounds 1
  go_rounds 1
  go_rounds 1
  go_ret
  exact ⟨rfl, (Turned.refl _ w).alloc _⟩
end Go.Proofs.YtgglkcikimmhfaaGreatDoor
