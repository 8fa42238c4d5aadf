/-
  Logs that are not there (nil, or empty): each operation's answer; what log.Open refuses. No condition.
-/
import Derived.Test.YtfheikmjjijdpaaDoorLgN
namespace Go.Proofs.YtfheikmjjijdpaaDoor
open Go.RowKit Go.Maps
set_option linter.unusedVariables false
set_option linter.unusedSimpArgs false

/-- No log: nil, or one that nobody opened. -/
def NoLog (p : Option Addr) (w : World) : Prop := p = none ∨ ∃ L, p = some ⟨L, 0, none⟩ ∧ w.cell? ⟨L, 0, none⟩ = some (.pointer none)
theorem NoLog.fresh {p : Option Addr} {w w' : World} (h : NoLog p w) (ht : Turned (fun _ => False) w w') : NoLog p w' := h.elim .inl (fun ⟨L, e, hc⟩ => .inr ⟨L, e, cell_turned ht hc (fun e => e)⟩)
theorem lthere_none (p : Option Addr) (w : World) (h : NoLog p w) : Calls Tryd.prog 32 #[.pointer p] w (RetSame (.bool false) w) := by
  rcases h with rfl | ⟨L, rfl, hc⟩
  · exact lthere_nil w
  · exact lthere_no L w hc
set_option maxRecDepth 100000 in
theorem nl_oldest (p : Option Addr) (w : World) (h : NoLog p w) : Calls Tryd.prog 19 #[.pointer p] w (RetNew (.int .i64 0) w) := by
  have HT := Lib.hid (fun (w' : World) (t : Turned (fun _ => False) w w') => lthere_none p w' (h.fresh t))
  clear h
  go_enter Tryd.func19, Tryd.ntmps19
  go_wp2_with fail
  refine (HT.out _ (Turned.refl _ _)).mono ?_
  rintro e w1 ⟨rfl, rfl⟩
  go_wp2_with fail
  go_ret
  exact ⟨rfl, Turned.refl _ _⟩
set_option maxRecDepth 100000 in
theorem nl_end (p : Option Addr) (w : World) (h : NoLog p w) : Calls Tryd.prog 25 #[.pointer p] w (RetNew (.int .i64 0) w) := by
  have HT := Lib.hid (fun (w' : World) (t : Turned (fun _ => False) w w') => lthere_none p w' (h.fresh t))
  clear h
  go_enter Tryd.func25, Tryd.ntmps25
  go_wp2_with fail
  refine (HT.out _ (Turned.refl _ _)).mono ?_
  rintro e w1 ⟨rfl, rfl⟩
  go_wp2_with fail
  go_ret
  exact ⟨rfl, Turned.refl _ _⟩
set_option maxRecDepth 100000 in
theorem nl_safe (p : Option Addr) (w : World) (h : NoLog p w) : Calls Tryd.prog 24 #[.pointer p] w (RetNew (.int .i64 0) w) := by
  have HT := Lib.hid (fun (w' : World) (t : Turned (fun _ => False) w w') => lthere_none p w' (h.fresh t))
  clear h
  go_enter Tryd.func24, Tryd.ntmps24
  go_wp2_with fail
  refine (HT.out _ (Turned.refl _ _)).mono ?_
  rintro e w1 ⟨rfl, rfl⟩
  go_wp2_with fail
  go_ret
  exact ⟨rfl, Turned.refl _ _⟩
set_option maxRecDepth 100000 in
theorem nl_room (p : Option Addr) (w : World) (h : NoLog p w) : Calls Tryd.prog 11 #[.pointer p] w (RetNew (.int .i64 0) w) := by
  have HT := Lib.hid (fun (w' : World) (t : Turned (fun _ => False) w w') => lthere_none p w' (h.fresh t))
  clear h
  go_enter Tryd.func11, Tryd.ntmps11
  go_wp2_with fail
  refine (HT.out _ (Turned.refl _ _)).mono ?_
  rintro e w1 ⟨rfl, rfl⟩
  go_wp2_with fail
  go_ret
  exact ⟨rfl, Turned.refl _ _⟩
set_option maxRecDepth 100000 in
theorem nl_trim (p : Option Addr) (x : Int) (w : World) (h : NoLog p w) : Calls Tryd.prog 18 #[.pointer p, .int .i64 x] w (RetNew (.int .i64 1) w) := by
  have HT := Lib.hid (fun (w' : World) (t : Turned (fun _ => False) w w') => lthere_none p w' (h.fresh t))
  clear h
  go_enter Tryd.func18, Tryd.ntmps18
  go_wp2_with fail
  refine (HT.out _ (Turned.refl _ _)).mono ?_
  rintro e w1 ⟨rfl, rfl⟩
  go_wp2_with fail
  go_ret
  exact ⟨rfl, Turned.refl _ _⟩
set_option maxRecDepth 100000 in
theorem nl_from (p : Option Addr) (x : Int) (w : World) (h : NoLog p w) : Calls Tryd.prog 16 #[.pointer p, .int .i64 x] w (RetNew (.slice none 0 0) w) := by
  have HT := Lib.hid (fun (w' : World) (t : Turned (fun _ => False) w w') => lthere_none p w' (h.fresh t))
  clear h
  go_enter Tryd.func16, Tryd.ntmps16
  go_wp2_with fail
  refine (HT.out _ (Turned.refl _ _)).mono ?_
  rintro e w1 ⟨rfl, rfl⟩
  go_wp2_with fail
  go_ret
  exact ⟨rfl, Turned.refl _ _⟩
set_option maxRecDepth 100000 in
theorem nl_force (p : Option Addr) (w : World) (h : NoLog p w) : Calls Tryd.prog 15 #[.pointer p] w (RetNew (.int .i64 1) w) := by
  have HT := Lib.hid (fun (w' : World) (t : Turned (fun _ => False) w w') => lthere_none p w' (h.fresh t))
  clear h
  go_enter Tryd.func15, Tryd.ntmps15
  go_wp2_with fail
  refine (HT.out _ ((Turned.refl (fun _ => False) w).alloc _)).mono ?_
  rintro e w1 ⟨rfl, rfl⟩
  go_wp2_with fail
  go_ret
  exact ⟨rfl, (Turned.refl (fun _ => False) w).alloc _⟩
set_option maxRecDepth 100000 in
theorem nl_append (p : Option Addr) (R : Rec) (S : RecS) (w : World) (h : NoLog p w) : Calls Tryd.prog 8 #[.pointer p, .agg (recC R S)] w (RetNew (.tuple #[.int .i64 0, .int .i64 1]) w) := by
  have HT := Lib.hid (fun (w' : World) (t : Turned (fun _ => False) w w') => lthere_none p w' (h.fresh t))
  clear h
  go_enter Tryd.func8, Tryd.ntmps8
  go_wp2_with fail
  refine (HT.out _ ((Turned.refl (fun _ => False) w).alloc _)).mono ?_
  rintro e w1 ⟨rfl, rfl⟩
  go_wp2_with fail
  go_ret2
  exact ⟨rfl, (Turned.refl (fun _ => False) w).alloc _⟩
set_option maxRecDepth 100000 in
theorem nl_read (p : Option Addr) (x : Int) (w : World) (h : NoLog p w) : Calls Tryd.prog 26 #[.pointer p, .int .i64 x] w (RetNew (.tuple #[.agg #[.int .i64 0, .int .i64 0, .int .i64 0, .int .i64 0, .int .u8 0, .int .i64 0, .slice none 0 0, .slice none 0 0, .slice none 0 0, .slice none 0 0, .slice none 0 0], .int .i64 1]) w) := by
  have HT := Lib.hid (fun (w' : World) (t : Turned (fun _ => False) w w') => lthere_none p w' (h.fresh t))
  clear h
  go_enter Tryd.func26, Tryd.ntmps26
  go_wp2_with fail
  refine (HT.out _ ((Turned.refl (fun _ => False) w).alloc _)).mono ?_
  rintro e w1 ⟨rfl, rfl⟩
  go_wp2_with fail
  refine bodyPost_ret (v := .tuple #[.agg #[.int .i64 0, .int .i64 0, .int .i64 0, .int .i64 0, .int .u8 0, .int .i64 0, .slice none 0 0, .slice none 0 0, .slice none 0 0, .slice none 0 0, .slice none 0 0], .int .i64 1]) (by simp [results, Tryd.results26, go_sem]) rfl ?_
  exact ⟨rfl, (Turned.refl (fun _ => False) w).alloc _⟩
/-! Open's refusals. -/
set_option maxRecDepth 100000 in
theorem lopen_nil (w : World) : Calls Tryd.prog 6 #[.pointer none, .int .i64 0, .int .i64 4, .int .i64 1, .int .i64 1] w (RetNew (.tuple #[.pointer none, .int .i64 1]) w) := by
  go_enter Tryd.func6, Tryd.ntmps6
  go_wp2_with fail
  refine (sectors_nil w).mono ?_
  rintro e w1 ⟨rfl, rfl⟩
  go_wp2_with fail
  go_ret2
  exact ⟨rfl, Turned.refl _ _⟩
set_option maxRecDepth 100000 in
theorem lopen_turn (d : Nat) (w : World) (h : w.cell? ⟨d, 0, none⟩ = some (.int .i64 4)) : Calls Tryd.prog 6 #[.pointer (some ⟨d, 0, none⟩), .int .i64 0, .int .i64 4, .int .i64 1, .int .i64 0] w (RetNew (.tuple #[.pointer none, .int .i64 2]) w) := by
  go_enter Tryd.func6, Tryd.ntmps6
  go_wp2_with fail
  refine (sectors_any d 4 w h).mono ?_
  rintro e w1 ⟨rfl, rfl⟩
  go_wp2_with fail
  go_ret2
  exact ⟨rfl, Turned.refl _ _⟩
set_option maxRecDepth 100000 in
theorem lopen_count (d : Nat) (w : World) (h : w.cell? ⟨d, 0, none⟩ = some (.int .i64 4)) : Calls Tryd.prog 6 #[.pointer (some ⟨d, 0, none⟩), .int .i64 0, .int .i64 5, .int .i64 1, .int .i64 1] w (RetNew (.tuple #[.pointer none, .int .i64 2]) w) := by
  go_enter Tryd.func6, Tryd.ntmps6
  go_wp2_with fail
  refine (sectors_any d 4 w h).mono ?_
  rintro e w1 ⟨rfl, rfl⟩
  go_wp2_with fail
  go_ret2
  exact ⟨rfl, Turned.refl _ _⟩
set_option maxRecDepth 100000 in
theorem lopen_place (d : Nat) (w : World) (h : w.cell? ⟨d, 0, none⟩ = some (.int .i64 4)) : Calls Tryd.prog 6 #[.pointer (some ⟨d, 0, none⟩), .int .i64 0, .int .i64 4, .int .i64 498, .int .i64 1] w (RetNew (.tuple #[.pointer none, .int .i64 2]) w) := by
  go_enter Tryd.func6, Tryd.ntmps6
  go_wp2_with fail
  refine (sectors_any d 4 w h).mono ?_
  rintro e w1 ⟨rfl, rfl⟩
  go_wp2_with fail
  go_ret2
  exact ⟨rfl, Turned.refl _ _⟩
end Go.Proofs.YtfheikmjjijdpaaDoor
