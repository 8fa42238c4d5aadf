/-
  The program's disk (storeman/disk): what its state is in memory, and the contracts of its small functions: may, crash, Arm, Down, Sectors, New.
-/
import Derived.Test.YtfheikmjjijdpaaDoorProg
import Derived.Test.YtfheikmjjijdpaaDoorSec
namespace Go.Proofs.YtfheikmjjijdpaaDoor
open Go.RowKit Go.Maps

/-- What a disk is: sectors, the latest and the safe bytes of each, which are open, for which it is armed, whether it is down. -/
structure DA where
  n : Int
  lat : Int → List Int
  saf : Int → List Int
  opn : Int → Bool
  armed : Int
  down : Bool

def dskCells (n : Int) (s o : Nat) (armed : Int) (down : Bool) : Array Value := #[.int .i64 n, .map (some s), .map (some o), .int .i64 armed, .bool down]
def RetSame (v : Value) (w : World) (e : Ending) (w' : World) : Prop := e = .returned v ∧ w = w'

theorem crash_idle (d s o : Nat) (n a : Int) (dn : Bool) (w : World) (h : Blk w d 79 (dskCells n s o a dn)) (ha : a = 0) :
    Calls Tryd.prog 65 #[.pointer (some ⟨d, 0, none⟩)] w (RetSame (.bool dn) w) := by
  subst ha
  have hc := h.cell
  have hf := h.frozen
  unfold dskCells at hc
  go_enter Tryd.func65, Tryd.ntmps65
  go_wp2
  go_ret
  exact ⟨rfl, rfl⟩

def Post1 (d s o : Nat) (n a : Int) (dn : Bool) (v : Value) (w : World) (e : Ending) (w' : World) : Prop := e = .returned v ∧ Blk w' d 79 (dskCells n s o a dn) ∧ Turned (· = d) w w'

theorem crash_armed (d s o : Nat) (n a : Int) (dn : Bool) (w : World) (h : Blk w d 79 (dskCells n s o a dn)) (ha : 0 < a) (ha2 : a ≤ 9223372036854775807) :
    Calls Tryd.prog 65 #[.pointer (some ⟨d, 0, none⟩)] w (Post1 d s o n (a - 1) (a - 1 == 0) (.bool (a - 1 == 0)) w) := by
  have hc := h.cell
  have hf := h.frozen
  unfold dskCells at hc
  go_enter Tryd.func65, Tryd.ntmps65
  go_wp2
  go_ret
  exact ⟨rfl, (h.set_ 3 _).set_ 4 _, ((Turned.refl (· = d) _).setCell (.inl rfl) _).setCell (.inl rfl) _⟩

theorem may_nil (k : Int) (w : World) : Calls Tryd.prog 52 #[.pointer none, .int .i64 k] w (RetSame (.int .i64 1) w) := by
  go_enter Tryd.func52, Tryd.ntmps52
  go_wp2
  go_ret
  exact ⟨rfl, rfl⟩

section
variable (d : Nat) (n k : Int) (w : World) (hn : w.cell? ⟨d, 0, none⟩ = some (.int .i64 n))
include hn
theorem may_unmade (h0 : n = 0) : Calls Tryd.prog 52 #[.pointer (some ⟨d, 0, none⟩), .int .i64 k] w (RetSame (.int .i64 1) w) := by
  subst h0
  go_enter Tryd.func52, Tryd.ntmps52
  go_wp2
  go_ret
  exact ⟨rfl, rfl⟩
theorem may_down (h1 : 1 ≤ n) (hd : w.cell? ⟨d, 4, none⟩ = some (.bool true)) : Calls Tryd.prog 52 #[.pointer (some ⟨d, 0, none⟩), .int .i64 k] w (RetSame (.int .i64 8) w) := by
  go_enter Tryd.func52, Tryd.ntmps52
  go_wp2
  go_ret
  exact ⟨rfl, rfl⟩
theorem may_none (h1 : 1 ≤ n) (hd : w.cell? ⟨d, 4, none⟩ = some (.bool false)) (hk : k < 0 ∨ n ≤ k) : Calls Tryd.prog 52 #[.pointer (some ⟨d, 0, none⟩), .int .i64 k] w (RetSame (.int .i64 6) w) := by
  by_cases hneg : k < 0
  · go_enter Tryd.func52, Tryd.ntmps52
    go_wp2
    go_ret
    exact ⟨rfl, rfl⟩
  · have hk' : n ≤ k := by omega
    clear hk
    go_enter Tryd.func52, Tryd.ntmps52
    go_wp2
    go_ret
    exact ⟨rfl, rfl⟩
theorem may_ok (h1 : 1 ≤ n) (hd : w.cell? ⟨d, 4, none⟩ = some (.bool false)) (hk0 : 0 ≤ k) (hk : k < n) : Calls Tryd.prog 52 #[.pointer (some ⟨d, 0, none⟩), .int .i64 k] w (RetSame (.int .i64 0) w) := by
  go_enter Tryd.func52, Tryd.ntmps52
  go_wp2
  go_ret
  exact ⟨rfl, rfl⟩
end

/-- The disk at d, its maps at s and o, is A. -/
structure IsDisk (w : World) (d s o : Nat) (A : DA) : Prop where
  blk : Blk w d 79 (dskCells A.n s o A.armed A.down)
  ne : s ≠ o
  n1 : 1 ≤ A.n
  n2 : A.n ≤ 8192
  a1 : 0 ≤ A.armed
  a2 : A.armed ≤ 9223372036854775807
  maps : ∃ vs vo, MapIs Tryd.prog 3 w s vs ∧ MapIs Tryd.prog 3 w o vo ∧ (∀ k, vs k ≠ none → 0 ≤ k ∧ k < A.n) ∧ (∀ k, vo k ≠ none → 0 ≤ k ∧ k < A.n) ∧
    (∀ k, A.saf k = (vs k).getD noughts) ∧ (∀ k, A.opn k = (vo k).isSome) ∧ (∀ k, A.lat k = (vo k).getD (A.saf k)) ∧ (∀ k, Sec (A.saf k)) ∧ (∀ k, Sec (A.lat k))

def dskW (d s o : Nat) (k : Nat) : Prop := k = d ∨ k = s ∨ k = o
theorem IsDisk.turned {w w' : World} {d s o : Nat} {A : DA} {W : Nat → Prop} (h : IsDisk w d s o A) (ht : Turned W w w') (hd : ∀ k, dskW d s o k → ¬ W k) : IsDisk w' d s o A := by
  obtain ⟨vs, vo, m1, m2, r⟩ := h.maps
  exact ⟨h.blk.turned ht (hd _ (.inl rfl)), h.ne, h.n1, h.n2, h.a1, h.a2, vs, vo, m1.turned ht (hd _ (.inr (.inl rfl))), m2.turned ht (hd _ (.inr (.inr rfl))), r⟩
theorem IsDisk.lt {w : World} {d s o : Nat} {A : DA} (h : IsDisk w d s o A) {k : Nat} (hk : dskW d s o k) : k < w.heap.size := by
  obtain ⟨vs, vo, m1, m2, _⟩ := h.maps
  rcases hk with rfl | rfl | rfl
  · exact h.blk.lt
  · exact m1.lt
  · exact m2.lt
theorem IsDisk.fresh {w w' : World} {d s o : Nat} {A : DA} (h : IsDisk w d s o A) (ht : Turned (fun _ => False) w w') : IsDisk w' d s o A := h.turned ht (fun _ _ e => e)

theorem sectors_nil (w : World) : Calls Tryd.prog 27 #[.pointer none] w (RetSame (.int .i64 0) w) := by
  go_enter Tryd.func27, Tryd.ntmps27
  go_wp2
  go_ret
  exact ⟨rfl, rfl⟩
theorem sectors_any (d : Nat) (n : Int) (w : World) (hn : w.cell? ⟨d, 0, none⟩ = some (.int .i64 n)) : Calls Tryd.prog 27 #[.pointer (some ⟨d, 0, none⟩)] w (RetSame (.int .i64 n) w) := by
  go_enter Tryd.func27, Tryd.ntmps27
  go_wp2
  go_ret
  exact ⟨rfl, rfl⟩

theorem arm_nil (n : Int) (w : World) : Calls Tryd.prog 20 #[.pointer none, .int .i64 n] w (RetSame (.tuple #[]) w) := by
  go_enter Tryd.func20, Tryd.ntmps20
  go_wp2
  go_end0
  exact ⟨rfl, rfl⟩
theorem arm_down (d : Nat) (n : Int) (w : World) (hd : w.cell? ⟨d, 4, none⟩ = some (.bool true)) : Calls Tryd.prog 20 #[.pointer (some ⟨d, 0, none⟩), .int .i64 n] w (RetSame (.tuple #[]) w) := by
  go_enter Tryd.func20, Tryd.ntmps20
  go_wp2
  go_end0
  exact ⟨rfl, rfl⟩
def nonneg (n : Int) : Int := if 0 ≤ n then n else 0
theorem arm_up (d s o : Nat) (N a n : Int) (w : World) (h : Blk w d 79 (dskCells N s o a false)) :
    Calls Tryd.prog 20 #[.pointer (some ⟨d, 0, none⟩), .int .i64 n] w (Post1 d s o N (nonneg n) false (.tuple #[]) w) := by
  have hc := h.cell
  have hf := h.frozen
  unfold dskCells at hc
  by_cases hn : 0 ≤ n
  · go_enter Tryd.func20, Tryd.ntmps20
    go_wp2
    go_end0
    exact ⟨rfl, by rw [nonneg, if_pos hn]; exact h.set_ 3 _, (Turned.refl (· = d) _).setCell (.inl rfl) _⟩
  · go_enter Tryd.func20, Tryd.ntmps20
    go_wp2
    go_end0
    exact ⟨rfl, by rw [nonneg, if_neg (by omega)]; exact h.set_ 3 _, (Turned.refl (· = d) _).setCell (.inl rfl) _⟩
theorem new_no (n : Int) (w : World) (h : n < 1 ∨ 8192 < n) : Calls Tryd.prog 7 #[.int .i64 n] w (RetSame (.pointer none) w) := by
  by_cases h1 : n < 1
  · go_enter Tryd.func7, Tryd.ntmps7
    go_wp2
    go_ret
    exact ⟨rfl, rfl⟩
  · have h2 : 8192 < n := by omega
    clear h
    go_enter Tryd.func7, Tryd.ntmps7
    go_wp2
    go_ret
    exact ⟨rfl, rfl⟩
def DA.new (n : Int) : DA := ⟨n, fun _ => noughts, fun _ => noughts, fun _ => false, 0, false⟩
def NewPost (n : Int) (w : World) (e : Ending) (w' : World) : Prop := ∃ d s o, e = .returned (.pointer (some ⟨d, 0, none⟩)) ∧ IsDisk w' d s o (DA.new n) ∧ Turned (fun _ => False) w w' ∧ (∀ k, dskW d s o k → w.heap.size ≤ k) ∧ (∀ k, k < w'.heap.size → k < w.heap.size ∨ dskW d s o k)
theorem new_yes (n : Int) (w : World) (h1 : 1 ≤ n) (h2 : n ≤ 8192) : Calls Tryd.prog 7 #[.int .i64 n] w (NewPost n w) := by
  have hmm := @run_makeMap Tryd.prog
  go_enter Tryd.func7, Tryd.ntmps7
  go_wp2
  go_ret
  refine ⟨w.heap.size + 2, w.heap.size, w.heap.size + 1, rfl, ⟨?_, by omega, h1, h2, by simp [DA.new], by simp [DA.new], ?_⟩, ?_, ?_, ?_⟩
  · exact Blk.new_at _ _ _ (by simp)
  · refine ⟨fun _ => none, fun _ => none, (((MapIs.made w _ _).alloc _).alloc _), (MapIs.made_at _ _ _ (by simp)).alloc _, by simp, by simp, fun _ => rfl, fun _ => rfl, fun _ => rfl, fun _ => sec_noughts, fun _ => sec_noughts⟩
  · exact (((Turned.refl (fun _ => False) w).alloc _).alloc _).alloc _
  · rintro k (rfl | rfl | rfl) <;> omega
  · intro k hk
    simp at hk
    unfold dskW
    omega
end Go.Proofs.YtfheikmjjijdpaaDoor
