/-
  A region that draws its order, with guards: an operation that is not wanted is passed over; calls in the tail. No condition: laws over any program.
-/
import Derived.Test.YtglojnmcbochaaaGreatDoorROpB
namespace Go.Proofs.YtglojnmcbochaaaGreatDoor
open Go.RowKit Go.Maps

section
variable {P : Program} {ops : Array Oper} {Q : Exit → Act → World → Prop} {S : World → Prop}
end

/-! Takes and forced runs in any turn: 'true': taken first among what is ready (it yields one value in every world that meets S); 'false': it alone is ready. -/
section
variable {P : Program} {ops : Array Oper} {Q : Exit → Act → World → Prop} {md : Region.Mode} {S : World → Prop}
def segB (md : Region.Mode) (ops : Array Oper) : List (Bool × Nat) → Array Bool → Bool
  | [], listed => (Region.ready md ops listed).isEmpty
  | (true, i) :: r, listed => (Region.ready md ops listed).contains i && Region.free md ops listed i && segB md ops r (listed.setIfInBounds i true)
  | (false, i) :: r, listed => decide (Region.ready md ops listed = [i]) && segB md ops r (listed.setIfInBounds i true)
def pickSegs (l : List Oper) (is : List (Bool × Nat)) : List (Bool × Oper) := is.filterMap fun p => (l[p.2]?).map fun o => (p.1, o)
def wpSegs (P : Program) (ops : Array Oper) (Q : Exit → Act → World → Prop) (S : World → Prop) : List (Bool × Oper) → Act → World → Prop
  | [], a, w => Q .normal a w
  | (true, o) :: rest, a, w => ∃ v, YieldsIf P ops S o v a ∧ S w ∧ wpSegs P ops Q S rest (a.put o.dst v) w
  | (false, o) :: rest, a, w => if Region.wanted o (yielded ops a.tmps) then o.wp P a w (fun a' w' => S w' ∧ wpSegs P ops Q S rest a' w') Q else (S w ∧ wpSegs P ops Q S rest (a.put o.dst undef) w)
theorem wpSegs_nil {a : Act} {w : World} (h : Q .normal a w) : wpSegs P ops Q S [] a w := h
theorem wpSegs_skip {a : Act} {w : World} {o : Oper} {rest : List (Bool × Oper)} (hS : S w) (hw : Region.wanted o (yielded ops a.tmps) = false)
    (h : wpSegs P ops Q S rest (a.put o.dst undef) w) : wpSegs P ops Q S ((true, o) :: rest) a w := ⟨undef, .inr ⟨hw, rfl⟩, hS, h⟩
theorem wpSegs_take {a : Act} {w : World} {o : Oper} {rest : List (Bool × Oper)} {v : Value} (hS : S w) (hw : Region.wanted o (yielded ops a.tmps) = true) (hy : ∀ w, S w → (execOp a.eval o).run P w = .ok (.value v) w)
    (h : wpSegs P ops Q S rest (a.put o.dst v) w) : wpSegs P ops Q S ((true, o) :: rest) a w := ⟨v, .inl ⟨hw, hy⟩, hS, h⟩
theorem wpSegs_run {a : Act} {w : World} {o : Oper} {rest : List (Bool × Oper)} (hw : Region.wanted o (yielded ops a.tmps) = true)
    (h : ∀ K : Act → World → Prop, Shut (∀ a w, S w → wpSegs P ops Q S rest a w → K a w) → o.wp P a w K Q) : wpSegs P ops Q S ((false, o) :: rest) a w := by
  unfold wpSegs
  rw [if_pos hw]
  exact h _ (fun _ _ h1 h2 => ⟨h1, h2⟩)
theorem wpSegs_runSkip {a : Act} {w : World} {o : Oper} {rest : List (Bool × Oper)} (hS : S w) (hw : Region.wanted o (yielded ops a.tmps) = false)
    (h : wpSegs P ops Q S rest (a.put o.dst undef) w) : wpSegs P ops Q S ((false, o) :: rest) a w := by
  unfold wpSegs
  rw [if_neg (by rw [hw]; exact Bool.false_ne_true)]
  exact ⟨hS, h⟩
theorem wpAnyH_segs (hs : Region.noSelect ops = true) (hQ : ∀ c a d v w, Q (.panic c) (Act.put a (some d) v) w → Q (.panic c) a w) :
    ∀ (r : List (Bool × Nat)) (l : List (Bool × Oper)) (listed : Array Bool) (a : Act) (w : World), l = pickSegs ops.toList r → (∀ p ∈ r, p.2 < ops.size) → segB md ops r listed = true → wpSegs P ops Q S l a w → wpAnyH P md ops Q S r.length listed a w
  | [], l, listed, a, w, hl, _, hB, h => by
    subst hl
    exact ⟨by simpa [segB] using hB, h⟩
  | (true, i) :: r, l, listed, a, w, hl, hi, hB, h => by
    have hk : i < ops.size := hi (true, i) (by simp)
    have hok : ops[i]? = some ops[i] := Array.getElem?_eq_getElem hk
    have hl' : l = (true, ops[i]) :: pickSegs ops.toList r := by
      rw [hl]
      simp only [pickSegs]
      rw [List.filterMap_cons]
      have : ops.toList[i]? = some ops[i] := by simp
      rw [this]
      rfl
    rw [hl'] at h
    obtain ⟨v, hy, hS, h⟩ := h
    have hB' : ((Region.ready md ops listed).contains i = true ∧ Region.free md ops listed i = true) ∧ segB md ops r (listed.setIfInBounds i true) = true := by
      simpa only [segB, Bool.and_eq_true] using hB
    exact wpAnyH_take hok hs hB'.1.2 hB'.1.1 (fun c a w hp => by
      cases hd : ops[i].dst with
      | none => rw [hd] at hp; exact hp
      | some d => rw [hd] at hp; exact hQ c a d _ w hp) hy hS (wpAnyH_segs hs hQ r _ _ _ w rfl (fun p hp => hi p (by simp [hp])) hB'.2 h)
  | (false, k) :: r, l, listed, a, w, hl, hi, hB, h => by
    simp only [segB, Bool.and_eq_true, decide_eq_true_eq] at hB
    have hk : k < ops.size := hi (false, k) (by simp)
    have hok : ops[k]? = some ops[k] := Array.getElem?_eq_getElem hk
    have hl' : l = (false, ops[k]) :: pickSegs ops.toList r := by
      rw [hl]
      simp only [pickSegs]
      rw [List.filterMap_cons]
      have : ops.toList[k]? = some ops[k] := by simp
      rw [this]
      rfl
    rw [hl'] at h
    refine wpAnyH_all hB.1 (by simp) (fun i hi' => ?_)
    have : i = k := by simpa using hi'
    subst this
    unfold wpOp
    rw [hok]
    show if Region.wanted ops[i] (yielded ops a.tmps) = true then _ else _
    unfold wpSegs at h
    split
    · rename_i hw
      rw [if_pos hw] at h
      exact .inl (Oper.wp_mono (fun a' w' h' => ⟨h'.1, wpAnyH_segs hs hQ r _ _ a' w' rfl (fun p hp => hi p (by simp [hp])) hB.2 h'.2⟩) h)
    · rename_i hw
      rw [if_neg hw] at h
      exact ⟨h.1, wpAnyH_segs hs hQ r _ _ _ w rfl (fun p hp => hi p (by simp [hp])) hB.2 h.2⟩
/-- The whole check, for the kernel. -/
def segsB (l : List Oper) (r : List (Bool × Nat)) : Bool :=
  Region.noSelect l.toArray && r.all (fun p => decide (p.2 < l.toArray.size)) && decide (r.length = l.toArray.size) && segB .any l.toArray r (Array.replicate l.toArray.size false)
/-- Takes: 'T is': forced runs: 'F is'. -/
def segT (is : List Nat) : List (Bool × Nat) := is.map fun i => (true, i)
def segF (is : List Nat) : List (Bool × Nat) := is.map fun i => (false, i)
theorem wp_region_segs {id : Nat} {a : Act} {w : World} {l : List Oper} (S : World → Prop) (r : List (Bool × Nat)) (hm : P.follows .mixedOrders = true) (hB : segsB l r = true)
    (hQ : ∀ c a d v w, Q (.panic c) (Act.put a (some d) v) w → Q (.panic c) a w)
    (hh : wpSegs P l.toArray Q S (pickSegs l r) a w.drew) : (Code.region id l.toArray true).wp P Q a w := by
  simp only [segsB, Bool.and_eq_true, decide_eq_true_eq, List.all_eq_true] at hB
  obtain ⟨⟨⟨h1, h2⟩, h3⟩, h4⟩ := hB
  refine wp_region_held (S := S) hm ?_
  rw [← h3]
  rw [show Array.replicate r.length false = Array.replicate l.toArray.size false by rw [h3]]
  exact wpAnyH_segs h1 hQ r _ _ a w.drew rfl h2 h4 hh
end
end Go.Proofs.YtglojnmcbochaaaGreatDoor

