/-
  The program's disk: Wake.
-/
import Derived.Test.YtgglkcikimmhfaaGreatDoorDskC
import Derived.Test.YtgglkcikimmhfaaGreatDoorReg
namespace Go.Proofs.YtgglkcikimmhfaaGreatDoor
open Go.RowKit Go.Maps

def DA.wake (A : DA) (fs : List Int) : DA :=
  { A with lat := fun k => if A.opn k && fs.contains k then A.lat k else A.saf k, saf := fun k => if A.opn k && fs.contains k then A.lat k else A.saf k, opn := fun _ => false, armed := 0, down := false }

/-- n numbers at A, not in block d. -/
structure IntsR (w : World) (d : Nat) (A : Option Addr) (n : Nat) (fs : List Int) : Prop where
  len : fs.length = n
  max : n ≤ 9223372036854775807
  wf : ∀ f ∈ fs, (Lit.int .i64 f).wf = true
  cell : 0 < n → ∃ b off, A = some ⟨b, off, none⟩ ∧ b ≠ d ∧ ∀ j, j < n → w.cell? ⟨b, off + j, none⟩ = some (.int .i64 (fs.getD j 0))

/-- How the safe map reads behind some fates. -/
def woken (vs vo : Int → Option (List Int)) (fs : List Int) (k : Int) : Option (List Int) := if fs.contains k then (vo k).or (vs k) else vs k
theorem woken_nil (vs vo : Int → Option (List Int)) (k : Int) : vs k = woken vs vo [] k := by simp [woken]
theorem woken_hit {vs vo : Int → Option (List Int)} {fs : List Int} {x : Int} {zs : List Int} (hx : vo x = some zs) (k : Int) : upd (woken vs vo fs) x (some zs) k = woken vs vo (fs ++ [x]) k := by
  unfold upd woken
  by_cases e : k = x
  · subst e; simp [hx]
  · have : (k == x) = false := by simp [e]
    simp [e, List.contains_eq_mem]
theorem woken_miss {vs vo : Int → Option (List Int)} {fs : List Int} {x : Int} (hx : vo x = none) (k : Int) : woken vs vo fs k = woken vs vo (fs ++ [x]) k := by
  unfold woken
  by_cases e : k = x
  · subst e; simp [hx]
  · simp [e, List.contains_eq_mem]
theorem cell_turned {w w' : World} {W : Nat → Prop} (ht : Turned W w w') {a : Addr} {v : Value} (h : w.cell? a = some v) (hW : ¬ W a.block) : w'.cell? a = some v :=
  (World.cell?_of_block (ht.block a.block (World.block_lt_of_cell? w a h) hW)).trans h
theorem cell_not_map {P : Program} {K : TypeId} {w : World} {b : Nat} {f : Int → Option (List Int)} (h : MapIs P K w b f) {a : Addr} {v : Value} (hc : w.cell? a = some v) : a.block ≠ b := by
  rintro rfl
  obtain ⟨n, D, ⟨es, clock, hb, _⟩, _⟩ := h
  unfold World.cell? at hc
  rw [hb] at hc
  cases hc

end Go.Proofs.YtgglkcikimmhfaaGreatDoor
