/-
 ytglojnmcbochaaagreatdoor: laws and walks on the road to LinesNumbers, joined: RegB RegC RegD. Conditions stand at each theorem.
-/
import Derived.Test.YtglojnmcbochaaaGreatDoorUCodQ
namespace Go.Proofs.YtglojnmcbochaaaGreatDoor
open Go.RowKit Go.Maps

section
variable {P : Program} {ops : Array Oper} {Q : Exit → Act → World → Prop} {S : World → Prop}
end

/-! Takes and forced runs in any turn: 'true': taken first among what is ready (it yields one value in every world that meets S); 'false': it alone is ready. -/
section
variable {P : Program} {ops : Array Oper} {Q : Exit → Act → World → Prop} {md : Region.Mode} {S : World → Prop}
def segB (md : Region.Mode) (ops : Array Oper) : List (Bool × Nat) → Array Bool → Bool
 | [], listed => (Region.ready md ops listed).isEmpty
 | (true, i) :: r, listed => (Region.ready md ops listed).contains i && Region.free md ops listed i && segB md ops r (listed.setIfInBounds i true)
 | (false, i) :: r, listed => decide (Region.ready md ops listed = [i]) && segB md ops r (listed.setIfInBounds i true)
def pickSegs (l : List Oper) (is : List (Bool × Nat)) : List (Bool × Oper) := is.filterMap fun p => (l[p.2]?).map fun o => (p.1, o)
def wpSegs (P : Program) (ops : Array Oper) (Q : Exit → Act → World → Prop) (S : World → Prop) : List (Bool × Oper) → Act → World → Prop
 | [], a, w => Q .normal a w
 | (true, o) :: rest, a, w => ∃ v, YieldsIf P ops S o v a ∧ S w ∧ wpSegs P ops Q S rest (a.put o.dst v) w
 | (false, o) :: rest, a, w => if Region.wanted o (yielded ops a.tmps) then o.wp P a w (fun a' w' => S w' ∧ wpSegs P ops Q S rest a' w') Q else (S w ∧ wpSegs P ops Q S rest (a.put o.dst undef) w)
theorem wpSegs_nil {a : Act} {w : World} (h : Q .normal a w) : wpSegs P ops Q S [] a w := h
theorem wpSegs_skip {a : Act} {w : World} {o : Oper} {rest : List (Bool × Oper)} (hS : S w) (hw : Region.wanted o (yielded ops a.tmps) = false)
  (h : wpSegs P ops Q S rest (a.put o.dst undef) w) : wpSegs P ops Q S ((true, o) :: rest) a w := ⟨undef, .inr ⟨hw, rfl⟩, hS, h⟩
theorem wpSegs_take {a : Act} {w : World} {o : Oper} {rest : List (Bool × Oper)} {v : Value} (hS : S w) (hw : Region.wanted o (yielded ops a.tmps) = true) (hy : ∀ w, S w → (execOp a.eval o).run P w = .ok (.value v) w)
  (h : wpSegs P ops Q S rest (a.put o.dst v) w) : wpSegs P ops Q S ((true, o) :: rest) a w := ⟨v, .inl ⟨hw, hy⟩, hS, h⟩
theorem wpSegs_run {a : Act} {w : World} {o : Oper} {rest : List (Bool × Oper)} (hw : Region.wanted o (yielded ops a.tmps) = true)
  (h : ∀ K : Act → World → Prop, Shut (∀ a w, S w → wpSegs P ops Q S rest a w → K a w) → o.wp P a w K Q) : wpSegs P ops Q S ((false, o) :: rest) a w := by
 unfold wpSegs
 rw [if_pos hw]
 exact h _ (fun _ _ h1 h2 => ⟨h1, h2⟩)
theorem wpSegs_runSkip {a : Act} {w : World} {o : Oper} {rest : List (Bool × Oper)} (hS : S w) (hw : Region.wanted o (yielded ops a.tmps) = false)
  (h : wpSegs P ops Q S rest (a.put o.dst undef) w) : wpSegs P ops Q S ((false, o) :: rest) a w := by
 unfold wpSegs
 rw [if_neg (by rw [hw]; exact Bool.false_ne_true)]
 exact ⟨hS, h⟩
theorem wpAnyH_segs (hs : Region.noSelect ops = true) (hQ : ∀ c a d v w, Q (.panic c) (Act.put a (some d) v) w → Q (.panic c) a w) :
  ∀ (r : List (Bool × Nat)) (l : List (Bool × Oper)) (listed : Array Bool) (a : Act) (w : World), l = pickSegs ops.toList r → (∀ p ∈ r, p.2 < ops.size) → segB md ops r listed = true → wpSegs P ops Q S l a w → wpAnyH P md ops Q S r.length listed a w
 | [], l, listed, a, w, hl, _, hB, h => by
  subst hl
  exact ⟨by simpa [segB] using hB, h⟩
 | (true, i) :: r, l, listed, a, w, hl, hi, hB, h => by
  have hk : i < ops.size := hi (true, i) (by simp)
  have hok : ops[i]? = some ops[i] := Array.getElem?_eq_getElem hk
  have hl' : l = (true, ops[i]) :: pickSegs ops.toList r := by
   rw [hl]
   simp only [pickSegs]
   rw [List.filterMap_cons]
   have : ops.toList[i]? = some ops[i] := by simp
   rw [this]
   rfl
  rw [hl'] at h
  obtain ⟨v, hy, hS, h⟩ := h
  have hB' : ((Region.ready md ops listed).contains i = true ∧ Region.free md ops listed i = true) ∧ segB md ops r (listed.setIfInBounds i true) = true := by
   simpa only [segB, zD] using hB
  exact wpAnyH_take hok hs hB'.1.2 hB'.1.1 (fun c a w hp => by
   cases hd : ops[i].dst with
   | none => rw [hd] at hp; exact hp
   | some d => rw [hd] at hp; exact hQ c a d _ w hp) hy hS (wpAnyH_segs hs hQ r _ _ _ w rfl (fun p hp => hi p (by simp [hp])) hB'.2 h)
 | (false, k) :: r, l, listed, a, w, hl, hi, hB, h => by
  simp only [segB, zD, zE] at hB
  have hk : k < ops.size := hi (false, k) (by simp)
  have hok : ops[k]? = some ops[k] := Array.getElem?_eq_getElem hk
  have hl' : l = (false, ops[k]) :: pickSegs ops.toList r := by
   rw [hl]
   simp only [pickSegs]
   rw [List.filterMap_cons]
   have : ops.toList[k]? = some ops[k] := by simp
   rw [this]
   rfl
  rw [hl'] at h
  refine wpAnyH_all hB.1 (by simp) (fun i hi' => ?_)
  have : i = k := by simpa using hi'
  subst this
  unfold wpOp
  rw [hok]
  show if Region.wanted ops[i] (yielded ops a.tmps) = true then _ else _
  unfold wpSegs at h
  split
  ·rename_i hw
   rw [if_pos hw] at h
   exact .inl (Oper.wp_mono (fun a' w' h' => ⟨h'.1, wpAnyH_segs hs hQ r _ _ a' w' rfl (fun p hp => hi p (by simp [hp])) hB.2 h'.2⟩) h)
  ·rename_i hw
   rw [if_neg hw] at h
   exact ⟨h.1, wpAnyH_segs hs hQ r _ _ _ w rfl (fun p hp => hi p (by simp [hp])) hB.2 h.2⟩
def segsB (l : List Oper) (r : List (Bool × Nat)) : Bool :=
 Region.noSelect l.toArray && r.all (fun p => decide (p.2 < l.toArray.size)) && decide (r.length = l.toArray.size) && segB .any l.toArray r (Array.replicate l.toArray.size false)
def segT (is : List Nat) : List (Bool × Nat) := is.map fun i => (true, i)
def segF (is : List Nat) : List (Bool × Nat) := is.map fun i => (false, i)
theorem wp_region_segs {id : Nat} {a : Act} {w : World} {l : List Oper} (S : World → Prop) (r : List (Bool × Nat)) (hm : P.follows .mixedOrders = true) (hB : segsB l r = true)
  (hQ : ∀ c a d v w, Q (.panic c) (Act.put a (some d) v) w → Q (.panic c) a w)
  (hh : wpSegs P l.toArray Q S (pickSegs l r) a w.drew) : (Code.region id l.toArray true).wp P Q a w := by
 simp only [segsB, zD, zE, List.all_eq_true] at hB
 obtain ⟨⟨⟨h1, h2⟩, h3⟩, h4⟩ := hB
 refine wp_region_held (S := S) hm ?_
 rw [← h3]
 rw [show Array.replicate r.length false = Array.replicate l.toArray.size false by rw [h3]]
 exact wpAnyH_segs h1 hQ r _ _ a w.drew rfl h2 h4 hh
end
end Go.Proofs.YtglojnmcbochaaaGreatDoor

namespace Go.Proofs.YtglojnmcbochaaaGreatDoor
open Go.RowKit Go.Maps

inductive Tr (α : Type) where
 | nil : Tr α
 | take (x : α) (r : Tr α) : Tr α
 | run (x : α) (r : Tr α) : Tr α
 | two (x y : α) (r s : Tr α) : Tr α
def Tr.map {α β : Type} (f : α → β) : Tr α → Tr β
 | .nil => .nil
 | .take x r => .take (f x) (r.map f)
 | .run x r => .run (f x) (r.map f)
 | .two x y r s => .two (f x) (f y) (r.map f) (s.map f)
def Tr.len {α : Type} : Tr α → Nat
 | .nil => 0
 | .take _ r => r.len + 1
 | .run _ r => r.len + 1
 | .two _ _ r _ => r.len + 1
section
variable {P : Program} {ops : Array Oper} {Q : Exit → Act → World → Prop} {md : Region.Mode} {S : World → Prop}
def wpNow (P : Program) (ops : Array Oper) (Q : Exit → Act → World → Prop) (S : World → Prop) (K : Act → World → Prop) (o : Oper) (a : Act) (w : World) : Prop :=
 if Region.wanted o (yielded ops a.tmps) then o.wp P a w (fun a' w' => S w' ∧ K a' w') Q else (S w ∧ K (a.put o.dst undef) w)
theorem now_run {a : Act} {w : World} {o : Oper} {K : Act → World → Prop} (hw : Region.wanted o (yielded ops a.tmps) = true) (h : ∀ K' : Act → World → Prop, Shut (∀ a w, S w → K a w → K' a w) → o.wp P a w K' Q) : wpNow P ops Q S K o a w := by
 unfold wpNow
 rw [if_pos hw]
 exact h _ (fun _ _ h1 h2 => ⟨h1, h2⟩)
theorem wpOp_now {i : Nat} {a : Act} {w : World} {K : Act → World → Prop} (hi : i < ops.size) (h : wpNow P ops Q S K ops[i] a w) : wpOp P ops Q i (fun a' w' => S w' ∧ K a' w') a w := by
 unfold wpOp
 rw [Array.getElem?_eq_getElem hi]
 show if Region.wanted ops[i] (yielded ops a.tmps) = true then _ else _
 unfold wpNow at h
 split
 ·rename_i hw
  rw [if_pos hw] at h
  exact .inl h
 ·rename_i hw
  rw [if_neg hw] at h
  exact h
theorem now_mono {K K' : Act → World → Prop} {o : Oper} {a : Act} {w : World} (hK : ∀ a w, K a w → K' a w) (h : wpNow P ops Q S K o a w) : wpNow P ops Q S K' o a w := by
 unfold wpNow at h ⊢
 split
 ·rename_i hw
  rw [if_pos hw] at h
  exact Oper.wp_mono (fun a' w' h' => ⟨h'.1, hK a' w' h'.2⟩) h
 ·rename_i hw
  rw [if_neg hw] at h
  exact ⟨h.1, hK _ _ h.2⟩
end
end Go.Proofs.YtglojnmcbochaaaGreatDoor

namespace Go.Proofs.YtglojnmcbochaaaGreatDoor
open Go.RowKit Go.Maps

inductive Ts (α : Type) where
 | nil : Ts α
 | take (x : α) (r : Ts α) : Ts α
 | run (x : α) (r : Ts α) : Ts α
 | two (x y : α) (r s : Ts α) : Ts α
 | three (x y z : α) (r s t : Ts α) : Ts α
def Ts.map {α β : Type} (f : α → β) : Ts α → Ts β
 | .nil => .nil
 | .take x r => .take (f x) (r.map f)
 | .run x r => .run (f x) (r.map f)
 | .two x y r s => .two (f x) (f y) (r.map f) (s.map f)
 | .three x y z r s t => .three (f x) (f y) (f z) (r.map f) (s.map f) (t.map f)
def Ts.len {α : Type} : Ts α → Nat
 | .nil => 0
 | .take _ r => r.len + 1
 | .run _ r => r.len + 1
 | .two _ _ r _ => r.len + 1
 | .three _ _ _ r _ _ => r.len + 1
def tsT (is : List Nat) (r : Ts Nat) : Ts Nat := is.foldr Ts.take r
def tsF (is : List Nat) (r : Ts Nat) : Ts Nat := is.foldr Ts.run r
section
variable {P : Program} {ops : Array Oper} {Q : Exit → Act → World → Prop} {md : Region.Mode} {S : World → Prop}
def tsB (md : Region.Mode) (ops : Array Oper) : Ts Nat → Array Bool → Bool
 | .nil, listed => (Region.ready md ops listed).isEmpty
 | .take i r, listed => decide (i < ops.size) && ((Region.ready md ops listed).contains i && Region.free md ops listed i) && tsB md ops r (listed.setIfInBounds i true)
 | .run i r, listed => decide (i < ops.size) && decide (Region.ready md ops listed = [i]) && tsB md ops r (listed.setIfInBounds i true)
 | .two i j r s, listed => (decide (i < ops.size) && decide (j < ops.size)) && (decide (Region.ready md ops listed = [i, j]) && decide (s.len = r.len)) && (tsB md ops r (listed.setIfInBounds i true) && tsB md ops s (listed.setIfInBounds j true))
 | .three i j k r s t, listed => (decide (i < ops.size) && decide (j < ops.size) && decide (k < ops.size)) && (decide (Region.ready md ops listed = [i, j, k]) && decide (s.len = r.len) && decide (t.len = r.len)) && (tsB md ops r (listed.setIfInBounds i true) && tsB md ops s (listed.setIfInBounds j true) && tsB md ops t (listed.setIfInBounds k true))
def wpTs (P : Program) (ops : Array Oper) (Q : Exit → Act → World → Prop) (S : World → Prop) : Ts (Option Oper) → Act → World → Prop
 | .nil, a, w => Q .normal a w
 | .take none _, _, _ => False
 | .take (some o) r, a, w => ∃ v, YieldsIf P ops S o v a ∧ S w ∧ wpTs P ops Q S r (a.put o.dst v) w
 | .run none _, _, _ => False
 | .run (some o) r, a, w => wpNow P ops Q S (wpTs P ops Q S r) o a w
 | .two none _ _ _, _, _ => False
 | .two (some _) none _ _, _, _ => False
 | .two (some o) (some p) r s, a, w => wpNow P ops Q S (wpTs P ops Q S r) o a w ∧ wpNow P ops Q S (wpTs P ops Q S s) p a w
 | .three none _ _ _ _ _, _, _ => False
 | .three (some _) none _ _ _ _, _, _ => False
 | .three (some _) (some _) none _ _ _, _, _ => False
 | .three (some o) (some p) (some q) r s t, a, w => wpNow P ops Q S (wpTs P ops Q S r) o a w ∧ wpNow P ops Q S (wpTs P ops Q S s) p a w ∧ wpNow P ops Q S (wpTs P ops Q S t) q a w
theorem ts_nil {a : Act} {w : World} (h : Q .normal a w) : wpTs P ops Q S .nil a w := by unfold wpTs; exact h
theorem ts_take {a : Act} {w : World} {o : Oper} {r : Ts (Option Oper)} {v : Value} (hS : S w) (hw : Region.wanted o (yielded ops a.tmps) = true) (hy : ∀ w, S w → (execOp a.eval o).run P w = .ok (.value v) w) (h : wpTs P ops Q S r (a.put o.dst v) w) : wpTs P ops Q S (.take (some o) r) a w := by
 unfold wpTs
 exact ⟨v, .inl ⟨hw, hy⟩, hS, h⟩
theorem ts_run {a : Act} {w : World} {o : Oper} {r : Ts (Option Oper)} (hw : Region.wanted o (yielded ops a.tmps) = true) (h : ∀ K : Act → World → Prop, Shut (∀ a w, S w → wpTs P ops Q S r a w → K a w) → o.wp P a w K Q) : wpTs P ops Q S (.run (some o) r) a w := by
 unfold wpTs
 exact now_run hw h
theorem ts_two {a : Act} {w : World} {o p : Oper} {r s : Ts (Option Oper)} (h1 : wpNow P ops Q S (wpTs P ops Q S r) o a w) (h2 : wpNow P ops Q S (wpTs P ops Q S s) p a w) : wpTs P ops Q S (.two (some o) (some p) r s) a w := by
 unfold wpTs
 exact ⟨h1, h2⟩
theorem wpAnyH_ts (hs : Region.noSelect ops = true) (hQ : ∀ c a d v w, Q (.panic c) (Act.put a (some d) v) w → Q (.panic c) a w) :
  ∀ (t : Ts Nat) (listed : Array Bool) (a : Act) (w : World), tsB md ops t listed = true → wpTs P ops Q S (t.map fun i => ops.toList[i]?) a w → wpAnyH P md ops Q S t.len listed a w
 | .nil, listed, a, w, hB, h => by
  unfold Ts.map wpTs at h
  exact ⟨by simpa [tsB] using hB, h⟩
 | .take i r, listed, a, w, hB, h => by
  simp only [tsB, zD, zE] at hB
  obtain ⟨⟨hi, h1, h2⟩, h3⟩ := hB
  have hoi : ops[i]? = some ops[i] := Array.getElem?_eq_getElem hi
  unfold Ts.map at h
  rw [show ops.toList[i]? = some ops[i] by simp] at h
  unfold wpTs at h
  obtain ⟨v, hy, hS, h⟩ := h
  exact wpAnyH_take hoi hs h2 h1 (fun c a w hp => by
   cases hd : ops[i].dst with
   | none => rw [hd] at hp; exact hp
   | some d => rw [hd] at hp; exact hQ c a d _ w hp) hy hS (wpAnyH_ts hs hQ r _ _ _ h3 h)
 | .run i r, listed, a, w, hB, h => by
  simp only [tsB, zD, zE] at hB
  obtain ⟨⟨hi, h1⟩, h3⟩ := hB
  unfold Ts.map at h
  rw [show ops.toList[i]? = some ops[i] by simp] at h
  unfold wpTs at h
  refine wpAnyH_all h1 (by simp) (fun j hj => ?_)
  obtain rfl : j = i := by simpa using hj
  exact wpOp_now hi (now_mono (fun a' w' h' => wpAnyH_ts hs hQ r _ a' w' h3 h') h)
 | .two i j r s, listed, a, w, hB, h => by
  simp only [tsB, zD, zE] at hB
  obtain ⟨⟨⟨hi, hj⟩, h1, hl⟩, h3, h4⟩ := hB
  unfold Ts.map at h
  rw [show ops.toList[i]? = some ops[i] by simp, show ops.toList[j]? = some ops[j] by simp] at h
  unfold wpTs at h
  refine wpAnyH_all h1 (by simp) (fun m hm => ?_)
  rcases (show m = i ∨ m = j by simpa using hm) with rfl | rfl
  ·exact wpOp_now hi (now_mono (fun a' w' h' => wpAnyH_ts hs hQ r _ a' w' h3 h') h.1)
  ·exact wpOp_now hj (now_mono (fun a' w' h' => by have := wpAnyH_ts hs hQ s _ a' w' h4 h'; rw [hl] at this; exact this) h.2)
 | .three i j k r s t, listed, a, w, hB, h => by
  simp only [tsB, zD, zE] at hB
  obtain ⟨⟨⟨⟨hi, hj⟩, hk⟩, ⟨h1, hl⟩, hl2⟩, ⟨h3, h4⟩, h5⟩ := hB
  unfold Ts.map at h
  rw [show ops.toList[i]? = some ops[i] by simp, show ops.toList[j]? = some ops[j] by simp, show ops.toList[k]? = some ops[k] by simp] at h
  unfold wpTs at h
  refine wpAnyH_all h1 (by simp) (fun m hm => ?_)
  rcases (show m = i ∨ m = j ∨ m = k by simpa using hm) with rfl | rfl | rfl
  ·exact wpOp_now hi (now_mono (fun a' w' h' => wpAnyH_ts hs hQ r _ a' w' h3 h') h.1)
  ·exact wpOp_now hj (now_mono (fun a' w' h' => by have := wpAnyH_ts hs hQ s _ a' w' h4 h'; rw [hl] at this; exact this) h.2.1)
  ·exact wpOp_now hk (now_mono (fun a' w' h' => by have := wpAnyH_ts hs hQ t _ a' w' h5 h'; rw [hl2] at this; exact this) h.2.2)
def regTsB (l : List Oper) (t : Ts Nat) : Bool := Region.noSelect l.toArray && decide (t.len = l.toArray.size) && tsB .any l.toArray t (Array.replicate l.toArray.size false)
theorem wp_region_ts {id : Nat} {a : Act} {w : World} {l : List Oper} (S : World → Prop) (t : Ts Nat) (hm : P.follows .mixedOrders = true) (hB : regTsB l t = true)
  (hQ : ∀ c a d v w, Q (.panic c) (Act.put a (some d) v) w → Q (.panic c) a w)
  (hh : wpTs P l.toArray Q S (t.map fun i => l[i]?) a w.drew) : (Code.region id l.toArray true).wp P Q a w := by
 simp only [regTsB, zD, zE] at hB
 obtain ⟨⟨h1, h3⟩, h4⟩ := hB
 refine wp_region_held (S := S) hm ?_
 rw [← h3]
 have h5 : wpAnyH P .any l.toArray Q S t.len (Array.replicate l.toArray.size false) a w.drew := wpAnyH_ts h1 hQ t _ a w.drew h4 (by simpa using hh)
 rw [h3] at h5 ⊢
 exact h5
end
end Go.Proofs.YtglojnmcbochaaaGreatDoor

