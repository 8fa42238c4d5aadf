/-
  A region that draws its order, told as a tree: an operation that is taken first, one that alone may come up, or two of which either may come up next. No condition: laws over any program.
-/
import Derived.Test.YtglojnmcbochaaaGreatDoorQRegB
namespace Go.Proofs.YtglojnmcbochaaaGreatDoor
open Go.RowKit Go.Maps

inductive Tr (α : Type) where
  | nil : Tr α
  | take (x : α) (r : Tr α) : Tr α
  | run (x : α) (r : Tr α) : Tr α
  | two (x y : α) (r s : Tr α) : Tr α
def Tr.map {α β : Type} (f : α → β) : Tr α → Tr β
  | .nil => .nil
  | .take x r => .take (f x) (r.map f)
  | .run x r => .run (f x) (r.map f)
  | .two x y r s => .two (f x) (f y) (r.map f) (s.map f)
def Tr.len {α : Type} : Tr α → Nat
  | .nil => 0
  | .take _ r => r.len + 1
  | .run _ r => r.len + 1
  | .two _ _ r _ => r.len + 1
section
variable {P : Program} {ops : Array Oper} {Q : Exit → Act → World → Prop} {md : Region.Mode} {S : World → Prop}
/-- One operation, now. -/
def wpNow (P : Program) (ops : Array Oper) (Q : Exit → Act → World → Prop) (S : World → Prop) (K : Act → World → Prop) (o : Oper) (a : Act) (w : World) : Prop :=
  if Region.wanted o (yielded ops a.tmps) then o.wp P a w (fun a' w' => S w' ∧ K a' w') Q else (S w ∧ K (a.put o.dst undef) w)
theorem now_run {a : Act} {w : World} {o : Oper} {K : Act → World → Prop} (hw : Region.wanted o (yielded ops a.tmps) = true) (h : ∀ K' : Act → World → Prop, Shut (∀ a w, S w → K a w → K' a w) → o.wp P a w K' Q) : wpNow P ops Q S K o a w := by
  unfold wpNow
  rw [if_pos hw]
  exact h _ (fun _ _ h1 h2 => ⟨h1, h2⟩)
theorem wpOp_now {i : Nat} {a : Act} {w : World} {K : Act → World → Prop} (hi : i < ops.size) (h : wpNow P ops Q S K ops[i] a w) : wpOp P ops Q i (fun a' w' => S w' ∧ K a' w') a w := by
  unfold wpOp
  rw [Array.getElem?_eq_getElem hi]
  show if Region.wanted ops[i] (yielded ops a.tmps) = true then _ else _
  unfold wpNow at h
  split
  · rename_i hw
    rw [if_pos hw] at h
    exact .inl h
  · rename_i hw
    rw [if_neg hw] at h
    exact h
theorem now_mono {K K' : Act → World → Prop} {o : Oper} {a : Act} {w : World} (hK : ∀ a w, K a w → K' a w) (h : wpNow P ops Q S K o a w) : wpNow P ops Q S K' o a w := by
  unfold wpNow at h ⊢
  split
  · rename_i hw
    rw [if_pos hw] at h
    exact Oper.wp_mono (fun a' w' h' => ⟨h'.1, hK a' w' h'.2⟩) h
  · rename_i hw
    rw [if_neg hw] at h
    exact ⟨h.1, hK _ _ h.2⟩
end
end Go.Proofs.YtglojnmcbochaaaGreatDoor

