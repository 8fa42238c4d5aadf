/-
  The disk's awake (the chapter's first example), and what no disk does.
-/
import Derived.Test.YtgglkcikimmhfaaGreatDoorKit
namespace Go.Proofs.YtgglkcikimmhfaaGreatDoor
open Go.RowKit Go.Maps

theorem same_yes (A B : Option Addr) (n m c1 c2 : Nat) (zs ys : List Int) (w : World) (hz : BytR w A n zs) (hy : BytR w B m ys) (h : zs = ys) :
    Calls Tryz.prog 14 #[.slice A n c1, .slice B m c2] w (RetDraw (.bool true) w) := by
  have := same_bytes A B n m c1 c2 zs ys w hz hy
  rw [decide_eq_true h] at this
  exact this

def aw1 : DA := (DA.new 2).write 0 (fullB 1)
def aw2 : DA := aw1.write 1 (fullB 1)
def aw3 : DA := aw2.sync
def aw4 : DA := aw3.write 0 (fullB 50)
def aw5 : DA := aw4.write 1 (fullB 50)
def aw6 : DA := aw5.wake [1]

def OkNew (w : World) (e : Ending) (w' : World) : Prop := e = .returned (.bool true) ∧ Turned (fun _ => False) w w'

end Go.Proofs.YtgglkcikimmhfaaGreatDoor
