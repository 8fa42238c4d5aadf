/-
  The disk's awake (the chapter's first example), and what no disk does.
-/
import Derived.Test.YtfheikmjjijdpaaDoorKit
namespace Go.Proofs.YtfheikmjjijdpaaDoor
open Go.RowKit Go.Maps

theorem same_yes (A B : Option Addr) (n m c1 c2 : Nat) (zs ys : List Int) (w : World) (hz : BytR w A n zs) (hy : BytR w B m ys) (h : zs = ys) :
    Calls Tryd.prog 83 #[.slice A n c1, .slice B m c2] w (RetDraw (.bool true) w) := by
  have := same_bytes A B n m c1 c2 zs ys w hz hy
  rw [decide_eq_true h] at this
  exact this

/-- A write, with its answer and what comes of it given. -/
theorem write_to (d s o : Nat) (A : DA) (k : Int) (g cap : Nat) (zs : List Int) (w : World) (c : Int) (A' : DA) (h : IsDisk w d s o A) (hdn : A.down = false) (h0 : 0 ≤ k) (h1 : k < A.n) (hr : RowB w 5 g 512 cap zs) (hz : Sec zs)
    (hc : codeOf (tickD A.armed) = c) (hA : A.write k zs = A') :
    Calls Tryd.prog 63 #[.pointer (some ⟨d, 0, none⟩), .int .i64 k, .slice (some ⟨g, 0, none⟩) 512 cap] w (StPost c d s o A' w) := by
  subst hc hA
  exact write_ok d s o A k g cap zs w h hdn h0 h1 hr hz.byte
theorem sync_to (d s o : Nat) (A : DA) (w : World) (A' : DA) (h : IsDisk w d s o A) (hdn : A.down = false) (hb : tickD A.armed = false) (hA : A.sync = A') :
    Calls Tryd.prog 47 #[.pointer (some ⟨d, 0, none⟩)] w (StPost 0 d s o A' w) := by
  subst hA
  exact sync_ok d s o A w h hdn hb
theorem read_to (d s o : Nat) (A : DA) (k : Int) (zs : List Int) (w : World) (h : IsDisk w d s o A) (hdn : A.down = false) (h0 : 0 ≤ k) (h1 : k < A.n) (hz : A.lat k = zs) :
    Calls Tryd.prog 28 #[.pointer (some ⟨d, 0, none⟩), .int .i64 k] w (ReadPost zs w) := by
  subst hz
  exact read_ok d s o A k w h hdn h0 h1

def aw1 : DA := (DA.new 2).write 0 (fullB 1)
def aw2 : DA := aw1.write 1 (fullB 1)
def aw3 : DA := aw2.sync
def aw4 : DA := aw3.write 0 (fullB 50)
def aw5 : DA := aw4.write 1 (fullB 50)
def aw6 : DA := aw5.wake [1]

def OkNew (w : World) (e : Ending) (w' : World) : Prop := e = .returned (.bool true) ∧ Turned (fun _ => False) w w'

end Go.Proofs.YtfheikmjjijdpaaDoor
