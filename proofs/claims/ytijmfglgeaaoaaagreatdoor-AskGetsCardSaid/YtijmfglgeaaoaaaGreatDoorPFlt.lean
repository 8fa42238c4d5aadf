/-
  The flat.. over lists that are nil: true, and nothing that was there turns.
-/
import Derived.Test.YtijmfglgeaaoaaaGreatDoorPKitB
import Derived.Test.YtijmfglgeaaoaaaGreatDoorPAwk
import Derived.Handy
namespace Go.Proofs.YtijmfglgeaaoaaaGreatDoor
open Go.RowKit Go.Maps

set_option maxRecDepth 100000 in
set_option maxHeartbeats 400000 in
theorem flatWords_nil (w : World) : Calls Tryz.prog 61 #[.slice none 0 0] w (OkNew w) := by
  have hmk : ∀ w : World, (Instr.makeSlice 62 (.int .i64 0) (.int .i64 0)).run Tryz.prog w = .ok (.slice (some ⟨w.heap.size, 0, none⟩) 0 0) (w.alloc (.cells #[] 142)) := fun _ => by kernel_rfl
  go_enter Tryz.func61, Tryz.ntmps61
  go_wp2
  go_rounds 1
  go_rounds 1
  go_rounds 1
  go_rounds 1
  go_rounds 1
  go_ret
  exact ⟨rfl, (Turned.refl _ w).alloc _⟩

set_option maxRecDepth 100000 in
set_option maxHeartbeats 400000 in
theorem flatInts_nil (w : World) : Calls Tryz.prog 62 #[.slice none 0 0] w (OkNew w) := by
  have hmk : ∀ w : World, (Instr.makeSlice 63 (.int .i64 0) (.int .i64 0)).run Tryz.prog w = .ok (.slice (some ⟨w.heap.size, 0, none⟩) 0 0) (w.alloc (.cells #[] 143)) := fun _ => by kernel_rfl
  go_enter Tryz.func62, Tryz.ntmps62
  go_wp2
  go_rounds 1
  go_rounds 1
  go_rounds 1
  go_rounds 1
  go_rounds 1
  go_ret
  exact ⟨rfl, (Turned.refl _ w).alloc _⟩

set_option maxRecDepth 100000 in
set_option maxHeartbeats 400000 in
theorem flatLongs_nil (w : World) : Calls Tryz.prog 63 #[.slice none 0 0] w (OkNew w) := by
  have hmk : ∀ w : World, (Instr.makeSlice 64 (.int .i64 0) (.int .i64 0)).run Tryz.prog w = .ok (.slice (some ⟨w.heap.size, 0, none⟩) 0 0) (w.alloc (.cells #[] 144)) := fun _ => by kernel_rfl
  go_enter Tryz.func63, Tryz.ntmps63
  go_wp2
  go_rounds 1
  go_rounds 1
  go_rounds 1
  go_rounds 1
  go_rounds 1
  go_ret
  exact ⟨rfl, (Turned.refl _ w).alloc _⟩

set_option maxRecDepth 100000 in
set_option maxHeartbeats 400000 in
theorem flatWindows_nil (w : World) : Calls Tryz.prog 66 #[.slice none 0 0] w (OkNew w) := by
  have hmk : ∀ w : World, (Instr.makeSlice 67 (.int .i64 0) (.int .i64 0)).run Tryz.prog w = .ok (.slice (some ⟨w.heap.size, 0, none⟩) 0 0) (w.alloc (.cells #[] 146)) := fun _ => by kernel_rfl
  go_enter Tryz.func66, Tryz.ntmps66
  go_wp2
  go_rounds 1
  go_rounds 1
  go_rounds 1
  go_rounds 1
  go_rounds 1
  go_ret
  exact ⟨rfl, (Turned.refl _ w).alloc _⟩

set_option maxRecDepth 100000 in
set_option maxHeartbeats 400000 in
theorem flatLots_nil (w : World) : Calls Tryz.prog 67 #[.slice none 0 0] w (OkNew w) := by
  have hmk : ∀ w : World, (Instr.makeSlice 68 (.int .i64 0) (.int .i64 0)).run Tryz.prog w = .ok (.slice (some ⟨w.heap.size, 0, none⟩) 0 0) (w.alloc (.cells #[] 150)) := fun _ => by kernel_rfl
  go_enter Tryz.func67, Tryz.ntmps67
  go_wp2
  go_rounds 1
  go_rounds 1
  go_rounds 1
  go_rounds 1
  go_rounds 1
  go_ret
  exact ⟨rfl, (Turned.refl _ w).alloc _⟩

set_option maxRecDepth 100000 in
set_option maxHeartbeats 400000 in
theorem flatWants_nil (w : World) : Calls Tryz.prog 68 #[.slice none 0 0] w (OkNew w) := by
  have hmk : ∀ w : World, (Instr.makeSlice 69 (.int .i64 0) (.int .i64 0)).run Tryz.prog w = .ok (.slice (some ⟨w.heap.size, 0, none⟩) 0 0) (w.alloc (.cells #[] 154)) := fun _ => by kernel_rfl
  go_enter Tryz.func68, Tryz.ntmps68
  go_wp2
  go_rounds 1
  go_rounds 1
  go_rounds 1
  go_rounds 1
  go_rounds 1
  go_ret
  exact ⟨rfl, (Turned.refl _ w).alloc _⟩

set_option maxRecDepth 100000 in
set_option maxHeartbeats 400000 in
theorem flatUses_nil (w : World) : Calls Tryz.prog 69 #[.slice none 0 0] w (OkNew w) := by
  have hmk : ∀ w : World, (Instr.makeSlice 70 (.int .i64 0) (.int .i64 0)).run Tryz.prog w = .ok (.slice (some ⟨w.heap.size, 0, none⟩) 0 0) (w.alloc (.cells #[] 158)) := fun _ => by kernel_rfl
  go_enter Tryz.func69, Tryz.ntmps69
  go_wp2
  go_rounds 1
  go_rounds 1
  go_rounds 1
  go_rounds 1
  go_rounds 1
  go_ret
  exact ⟨rfl, (Turned.refl _ w).alloc _⟩

set_option maxRecDepth 100000 in
set_option maxHeartbeats 400000 in
theorem flatItems_nil (w : World) : Calls Tryz.prog 71 #[.slice none 0 0] w (OkNew w) := by
  have hmk : ∀ w : World, (Instr.makeSlice 72 (.int .i64 0) (.int .i64 0)).run Tryz.prog w = .ok (.slice (some ⟨w.heap.size, 0, none⟩) 0 0) (w.alloc (.cells #[] 163)) := fun _ => by kernel_rfl
  go_enter Tryz.func71, Tryz.ntmps71
  go_wp2
  go_rounds 1
  go_rounds 1
  go_rounds 1
  go_rounds 1
  go_rounds 1
  go_ret
  exact ⟨rfl, (Turned.refl _ w).alloc _⟩

set_option maxRecDepth 100000 in
set_option maxHeartbeats 400000 in
theorem flatLines_nil (w : World) : Calls Tryz.prog 72 #[.slice none 0 0] w (OkNew w) := by
  have hmk : ∀ w : World, (Instr.makeSlice 73 (.int .i64 0) (.int .i64 0)).run Tryz.prog w = .ok (.slice (some ⟨w.heap.size, 0, none⟩) 0 0) (w.alloc (.cells #[] 168)) := fun _ => by kernel_rfl
  go_enter Tryz.func72, Tryz.ntmps72
  go_wp2
  go_rounds 1
  go_rounds 1
  go_rounds 1
  go_rounds 1
  go_rounds 1
  go_ret
  exact ⟨rfl, (Turned.refl _ w).alloc _⟩

set_option maxRecDepth 100000 in
set_option maxHeartbeats 400000 in
theorem flatTells_nil (w : World) : Calls Tryz.prog 74 #[.slice none 0 0] w (OkNew w) := by
  have hmk : ∀ w : World, (Instr.makeSlice 74 (.int .i64 0) (.int .i64 0)).run Tryz.prog w = .ok (.slice (some ⟨w.heap.size, 0, none⟩) 0 0) (w.alloc (.cells #[] 174)) := fun _ => by kernel_rfl
  go_enter Tryz.func74, Tryz.ntmps74
  go_wp2
  go_rounds 1
  go_rounds 1
  go_rounds 1
  go_rounds 1
  go_rounds 1
  go_ret
  exact ⟨rfl, (Turned.refl _ w).alloc _⟩

set_option maxRecDepth 100000 in
set_option maxHeartbeats 400000 in
theorem flatStates_nil (w : World) : Calls Tryz.prog 75 #[.slice none 0 0] w (OkNew w) := by
  have hmk : ∀ w : World, (Instr.makeSlice 75 (.int .i64 0) (.int .i64 0)).run Tryz.prog w = .ok (.slice (some ⟨w.heap.size, 0, none⟩) 0 0) (w.alloc (.cells #[] 179)) := fun _ => by kernel_rfl
  go_enter Tryz.func75, Tryz.ntmps75
  go_wp2
  go_rounds 1
  go_rounds 1
  go_rounds 1
  go_rounds 1
  go_rounds 1
  go_ret
  exact ⟨rfl, (Turned.refl _ w).alloc _⟩

set_option maxRecDepth 100000 in
set_option maxHeartbeats 400000 in
theorem flatRows_nil (w : World) : Calls Tryz.prog 76 #[.slice none 0 0] w (OkNew w) := by
  have hmk : ∀ w : World, (Instr.makeSlice 76 (.int .i64 0) (.int .i64 0)).run Tryz.prog w = .ok (.slice (some ⟨w.heap.size, 0, none⟩) 0 0) (w.alloc (.cells #[] 184)) := fun _ => by kernel_rfl
  go_enter Tryz.func76, Tryz.ntmps76
  go_wp2
  go_rounds 1
  go_rounds 1
  go_rounds 1
  go_rounds 1
  go_rounds 1
  go_ret
  exact ⟨rfl, (Turned.refl _ w).alloc _⟩

set_option maxRecDepth 100000 in
set_option maxHeartbeats 400000 in
theorem flatTurns_nil (w : World) : Calls Tryz.prog 77 #[.slice none 0 0] w (OkNew w) := by
  have hmk : ∀ w : World, (Instr.makeSlice 77 (.int .i64 0) (.int .i64 0)).run Tryz.prog w = .ok (.slice (some ⟨w.heap.size, 0, none⟩) 0 0) (w.alloc (.cells #[] 189)) := fun _ => by kernel_rfl
  go_enter Tryz.func77, Tryz.ntmps77
  go_wp2
  go_rounds 1
  go_rounds 1
  go_rounds 1
  go_rounds 1
  go_rounds 1
  go_ret
  exact ⟨rfl, (Turned.refl _ w).alloc _⟩

set_option maxRecDepth 100000 in
set_option maxHeartbeats 400000 in
theorem flatFates_nil (w : World) : Calls Tryz.prog 78 #[.slice none 0 0] w (OkNew w) := by
  have hmk : ∀ w : World, (Instr.makeSlice 78 (.int .i64 0) (.int .i64 0)).run Tryz.prog w = .ok (.slice (some ⟨w.heap.size, 0, none⟩) 0 0) (w.alloc (.cells #[] 194)) := fun _ => by kernel_rfl
  go_enter Tryz.func78, Tryz.ntmps78
  go_wp2
  go_rounds 1
  go_rounds 1
  go_rounds 1
  go_rounds 1
  go_rounds 1
  go_ret
  exact ⟨rfl, (Turned.refl _ w).alloc _⟩

set_option maxRecDepth 100000 in
set_option maxHeartbeats 400000 in
theorem flatDirties_nil (w : World) : Calls Tryz.prog 79 #[.slice none 0 0] w (OkNew w) := by
  have hmk : ∀ w : World, (Instr.makeSlice 79 (.int .i64 0) (.int .i64 0)).run Tryz.prog w = .ok (.slice (some ⟨w.heap.size, 0, none⟩) 0 0) (w.alloc (.cells #[] 198)) := fun _ => by kernel_rfl
  go_enter Tryz.func79, Tryz.ntmps79
  go_wp2
  go_rounds 1
  go_rounds 1
  go_rounds 1
  go_rounds 1
  go_rounds 1
  go_ret
  exact ⟨rfl, (Turned.refl _ w).alloc _⟩

set_option maxRecDepth 100000 in
set_option maxHeartbeats 400000 in
theorem flatOpens_nil (w : World) : Calls Tryz.prog 80 #[.slice none 0 0] w (OkNew w) := by
  have hmk : ∀ w : World, (Instr.makeSlice 80 (.int .i64 0) (.int .i64 0)).run Tryz.prog w = .ok (.slice (some ⟨w.heap.size, 0, none⟩) 0 0) (w.alloc (.cells #[] 202)) := fun _ => by kernel_rfl
  go_enter Tryz.func80, Tryz.ntmps80
  go_wp2
  go_rounds 1
  go_rounds 1
  go_rounds 1
  go_rounds 1
  go_rounds 1
  go_ret
  exact ⟨rfl, (Turned.refl _ w).alloc _⟩

set_option maxRecDepth 100000 in
set_option maxHeartbeats 400000 in
theorem flatRecords_nil (w : World) : Calls Tryz.prog 81 #[.slice none 0 0] w (OkNew w) := by
  have hmk : ∀ w : World, (Instr.makeSlice 81 (.int .i64 0) (.int .i64 0)).run Tryz.prog w = .ok (.slice (some ⟨w.heap.size, 0, none⟩) 0 0) (w.alloc (.cells #[] 206)) := fun _ => by kernel_rfl
  go_enter Tryz.func81, Tryz.ntmps81
  go_wp2
  go_rounds 1
  go_rounds 1
  go_rounds 1
  go_rounds 1
  go_rounds 1
  go_ret
  exact ⟨rfl, (Turned.refl _ w).alloc _⟩

set_option maxRecDepth 100000 in
set_option maxHeartbeats 400000 in
theorem flatSteps_nil (w : World) : Calls Tryz.prog 82 #[.slice none 0 0] w (OkNew w) := by
  have hmk : ∀ w : World, (Instr.makeSlice 82 (.int .i64 0) (.int .i64 0)).run Tryz.prog w = .ok (.slice (some ⟨w.heap.size, 0, none⟩) 0 0) (w.alloc (.cells #[] 212)) := fun _ => by kernel_rfl
  go_enter Tryz.func82, Tryz.ntmps82
  go_wp2
  go_rounds 1
  go_rounds 1
  go_rounds 1
  go_rounds 1
  go_rounds 1
  go_ret
  exact ⟨rfl, (Turned.refl _ w).alloc _⟩

set_option maxRecDepth 100000 in
set_option maxHeartbeats 400000 in
theorem flatTales_nil (w : World) : Calls Tryz.prog 83 #[.slice none 0 0] w (OkNew w) := by
  have hmk : ∀ w : World, (Instr.makeSlice 83 (.int .i64 0) (.int .i64 0)).run Tryz.prog w = .ok (.slice (some ⟨w.heap.size, 0, none⟩) 0 0) (w.alloc (.cells #[] 218)) := fun _ => by kernel_rfl
  go_enter Tryz.func83, Tryz.ntmps83
  go_wp2
  go_rounds 1
  go_rounds 1
  go_rounds 1
  go_rounds 1
  go_rounds 1
  go_ret
  exact ⟨rfl, (Turned.refl _ w).alloc _⟩
end Go.Proofs.YtijmfglgeaaoaaaGreatDoor

