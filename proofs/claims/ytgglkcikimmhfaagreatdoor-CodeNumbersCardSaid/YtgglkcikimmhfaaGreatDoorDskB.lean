/-
  The program's disk: the contracts of latest, Read, Write, Sync, Wake over what a disk is ('IsDisk').
-/
import Derived.Test.YtgglkcikimmhfaaGreatDoorDskA
import Derived.Test.YtgglkcikimmhfaaGreatDoorArr
namespace Go.Proofs.YtgglkcikimmhfaaGreatDoor
open Go.RowKit Go.Maps

theorem mixed : Tryz.prog.follows .mixedOrders = true := by kernel_rfl
theorem u8info : (Tryz.prog.info? 5).map (fun i => (i.zero, i.size, i.bytes)) = some (some (.int .u8 0), 1, 1) := by kernel_rfl

theorem u8cells : Tryz.prog.cellsOf 5 = 1 := by kernel_rfl
theorem bytT : BytT Tryz.prog 22 5 := ⟨Tryz.underlying22, u8info⟩
def RetNew (v : Value) (w : World) (e : Ending) (w' : World) : Prop := e = .returned v ∧ Turned (fun _ => False) w w'

theorem blk_grown {w w' : World} {g t : Nat} {cs : Array Value} {r : Nat} (h : Blk w g t cs) (hg : w.grownBy w' (some r)) (hne : g ≠ r) : Blk w' g t cs := h.grown hg (fun e => hne (by injection e))

theorem wf_idx {k n : Int} (h0 : 0 ≤ k) (h1 : k < n) (h2 : n ≤ 8192) : (Lit.int .i64 k).wf = true := wf_of k (by omega) (by omega)
def ReadPost (zs : List Int) (w : World) (e : Ending) (w' : World) : Prop := ∃ g cap, e = .returned (.tuple #[.slice (some ⟨g, 0, none⟩) 512 cap, .int .i64 0]) ∧ RowB w' 5 g 512 cap zs ∧ w.heap.size ≤ g ∧ Turned (fun _ => False) w w'

section
end
/-- What a write or sync does to the count. -/
def tickA (a : Int) : Int := if 0 < a then a - 1 else a
def tickD (a : Int) : Bool := decide (a = 1)
def codeOf (b : Bool) : Int := if b then 8 else 0
def DA.write (A : DA) (k : Int) (zs : List Int) : DA := { A with lat := upd A.lat k zs, opn := upd A.opn k true, armed := tickA A.armed, down := tickD A.armed }
theorem tickA_le {a : Int} (h : 0 ≤ a) : 0 ≤ tickA a ∧ tickA a ≤ a := by
  unfold tickA
  split <;> omega
end Go.Proofs.YtgglkcikimmhfaaGreatDoor
