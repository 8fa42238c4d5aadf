/-
  ytglojnmcbochaaagreatdoor: laws and walks on the road to LinesBack, joined: CodB Own CodC CodD. Conditions stand at each theorem.
-/
import Derived.Test.YtglojnmcbochaaaGreatDoorRCodA
import Derived.Laws.BytesString
import Derived.Test.YtglojnmcbochaaaGreatDoorROpB
import Derived.Lib.AppendZerosOnto
import Derived.Lib.AppendStr
import Derived.Lib.ConvBytes
import Derived.Lib.AtoiErrMem
import Derived.Laws.BytesArg
namespace Go.Proofs.YtglojnmcbochaaaGreatDoor
open Go.RowKit Go.Maps
set_option linter.unusedVariables false

end Go.Proofs.YtglojnmcbochaaaGreatDoor

namespace Go.Proofs.YtglojnmcbochaaaGreatDoor
open Go.RowKit Go.Maps

def OwnV (w : World) (A : Option Addr) (n c : Nat) (zs : List Int) : Prop := w.ownsRow 0 5 1 (.slice A n c) n (u8s zs)
section
variable {w w' : World} {A : Option Addr} {n c : Nat} {zs : List Int}
theorem OwnV.nil (w : World) : OwnV w none 0 0 [] := World.ownsRow_nil _ _ _ _
theorem OwnV.of_row {g : Nat} (h : RowB w 5 g n c zs) : OwnV w (some ⟨g, 0, none⟩) n c zs := h.own (Nat.zero_le _)
theorem OwnV.row_or (h : OwnV w A n c zs) : (A = none ∧ n = 0 ∧ c = 0 ∧ zs = []) ∨ ∃ g, A = some ⟨g, 0, none⟩ ∧ RowB w 5 g n c zs := by
  rcases h.2 with ⟨h1, h2⟩ | ⟨g, cap, cur, hv, _⟩
  · left
    injection h1 with h3 h4 h5
    refine ⟨h3, h2, h5, ?_⟩
    have := h.1
    rw [u8s_length, h2] at this
    exact List.length_eq_zero_iff.1 (by omega)
  · right
    injection hv with h3 h4 h5
    subst h3 h5
    exact ⟨g, rfl, RowB.of_own (base := 0) h⟩
theorem OwnV.len (h : OwnV w A n c zs) : zs.length = n := by
  have := h.1
  rw [u8s_length] at this
  omega
theorem OwnV.row {g : Nat} (h : OwnV w (some ⟨g, 0, none⟩) n c zs) : RowB w 5 g n c zs := RowB.of_own (base := 0) h
theorem OwnV.some_ (h : OwnV w A n c zs) (hn : 0 < n) : ∃ g, A = some ⟨g, 0, none⟩ ∧ RowB w 5 g n c zs := by
  rcases h.row_or with ⟨_, h1, _⟩ | h1
  · omega
  · exact h1
theorem OwnV.turned {W : Nat → Prop} (h : OwnV w A n c zs) (ht : Turned W w w') (hW : ∀ g, A = some ⟨g, 0, none⟩ → ¬ W g) : OwnV w' A n c zs := by
  rcases h.row_or with ⟨rfl, rfl, rfl, rfl⟩ | ⟨g, rfl, hr⟩
  · exact OwnV.nil _
  · exact OwnV.of_row (hr.turned ht (hW g rfl))
theorem OwnV.far {g : Nat} (h : OwnV w A n c zs) (hA : A ≠ some ⟨g, 0, none⟩) (i : Nat) (u : Value) : OwnV (w.setCell ⟨g, i, none⟩ u) A n c zs :=
  h.turned ((Turned.refl (· = g) w).setCell (.inl rfl) u) (fun g' e e' => hA (by rw [e, e']))
theorem OwnV.take {m : Nat} (h : OwnV w A n c zs) (hm : m ≤ n) (hs : A ≠ none) : OwnV w A m c (zs.take m) := by
  rcases h.row_or with ⟨rfl, _⟩ | ⟨g, rfl, hr⟩
  · exact absurd rfl hs
  · exact OwnV.of_row (hr.cut hm)
theorem OwnV.lt {g : Nat} (h : OwnV w A n c zs) (hA : A = some ⟨g, 0, none⟩) : g < w.heap.size := by subst hA; exact h.row.lt
theorem OwnV.max (h : OwnV w A n c zs) : n ≤ c ∧ c ≤ maxLen := by
  rcases h.row_or with ⟨_, rfl, rfl, _⟩ | ⟨g, rfl, hr⟩
  · exact ⟨Nat.le_refl _, Nat.zero_le _⟩
  · exact ⟨hr.le, hr.max⟩
theorem OwnV.blk {g L : Nat} {T : TypeId} {cs : Array Value} (h : OwnV w A n c zs) (hL : Blk w L T cs) (hT : T ≠ 5) (hA : A = some ⟨g, 0, none⟩) : g ≠ L := by
  subst hA
  obtain ⟨cs', hb, _⟩ := h.row.row
  rintro rfl
  exact hT (Blk.inj hL hb).2
end

section
variable {P : Program} {w : World} {S : TypeId} {A : Option Addr} {n c : Nat} {zs : List Int}
end
end Go.Proofs.YtglojnmcbochaaaGreatDoor

namespace Go.Proofs.YtglojnmcbochaaaGreatDoor
open Go.RowKit Go.Maps
set_option linter.unusedVariables false

theorem OwnV.one (w : World) (x : Int) : OwnV (w.alloc (.cells #[.int .u8 x] 5)) (some ⟨w.heap.size, 0, none⟩) 1 1 [x] :=
  OwnV.of_row ⟨rfl, Nat.le_refl _, by unfold maxLen; omega, _, Blk.new _ _ _, rfl, rfl⟩
theorem turned_bytes (w : World) (s : ByteArray) : Turned (fun _ => False) w (Lib.bytesWorld w 5 s) := Turned.of_below (Lib.bytesWorld_below w _ s) _
end Go.Proofs.YtglojnmcbochaaaGreatDoor

namespace Go.Proofs.YtglojnmcbochaaaGreatDoor
open Go.RowKit Go.Maps
set_option linter.unusedVariables false

def toB (zs : List Int) : List UInt8 := zs.map fun n => UInt8.ofNat n.toNat
/-- The code that these bytes begin with. -/
def getL : List Int → Option (List UInt8)
  | [] => none
  | x :: r => if r.length < x.toNat then none else if putOk (toB (r.take x.toNat)) then some (toB (r.take x.toNat)) else none
end Go.Proofs.YtglojnmcbochaaaGreatDoor

