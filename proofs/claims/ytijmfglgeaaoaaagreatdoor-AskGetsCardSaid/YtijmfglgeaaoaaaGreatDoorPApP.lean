/-
  ytijmfglgeaaoaaagreatdoor: laws and walks on the road to AskGets, joined: FlB ApP. Conditions stand at each theorem.
-/
import Derived.Test.YtijmfglgeaaoaaaGreatDoorPCodC
import Derived.StillTailTactics
import Derived.Deep.QuietTactic
namespace Go.Proofs.YtijmfglgeaaoaaaGreatDoor
open Go.RowKit Go.Maps
set_option linter.unusedVariables false

theorem marks_take (k : Int) (n t : Nat) (h : t ≤ n) : (marksB k n).take t = marksB k t := by
  unfold marksB
  rw [← List.map_take, List.take_range, Nat.min_eq_left h]
/-- N rows of bytes, each nil or whole in a block of its own, no two in one; where they stand: in block L. -/
structure Fl (w : World) (L N : Nat) (A : Nat → Option Addr) (n c : Nat → Nat) (Z : Nat → List Int) : Prop where
  cells : ∃ cs, Blk w L 22 cs ∧ ∀ k, k < N → cs[k]? = some (.slice (A k) (n k) (c k))
  own : ∀ k, k < N → OwnV w (A k) (n k) (c k) (Z k)
  apart : ∀ j k, j < N → k < N → j ≠ k → ∀ g, A j = some ⟨g, 0, none⟩ → A k ≠ some ⟨g, 0, none⟩
def FlW (N : Nat) (A : Nat → Option Addr) (g : Nat) : Prop := ∃ k, k < N ∧ A k = some ⟨g, 0, none⟩
section
variable {w w' : World} {L N : Nat} {A : Nat → Option Addr} {n c : Nat → Nat} {Z : Nat → List Int}
theorem Fl.cell (h : Fl w L N A n c Z) {k : Nat} (hk : k < N) : w.cell? ⟨L, k, none⟩ = some (.slice (A k) (n k) (c k)) := by
  obtain ⟨cs, hb, hc⟩ := h.cells
  rw [hb.cell]
  exact hc k hk
theorem Fl.ne (h : Fl w L N A n c Z) {k g : Nat} (hk : k < N) (hA : A k = some ⟨g, 0, none⟩) : g ≠ L := by
  obtain ⟨cs, hb, _⟩ := h.cells
  exact (h.own k hk).blk hb (by decide) hA
theorem Fl.lt (h : Fl w L N A n c Z) : L < w.heap.size := by
  obtain ⟨cs, hb, _⟩ := h.cells
  exact hb.lt
theorem Fl.turned (h : Fl w L N A n c Z) {W : Nat → Prop} (ht : Turned W w w') (hL : ¬ W L) (hW : ∀ k g, k < N → A k = some ⟨g, 0, none⟩ → ¬ W g) : Fl w' L N A n c Z := by
  obtain ⟨cs, hb, hc⟩ := h.cells
  exact ⟨⟨cs, hb.turned ht hL, hc⟩, fun k hk => (h.own k hk).turned ht (fun g e => hW k g hk e), h.apart⟩
theorem Fl.fresh (h : Fl w L N A n c Z) (ht : Turned (fun _ => False) w w') : Fl w' L N A n c Z := h.turned ht (fun e => e) (fun _ _ _ _ e => e)
/-- One row is turned. -/
theorem Fl.one (h : Fl w L N A n c Z) {k : Nat} (hk : k < N) (ht : Turned (fun g => A k = some ⟨g, 0, none⟩) w w') {z : List Int} (ho : OwnV w' (A k) (n k) (c k) z) : Fl w' L N A n c (fun j => if j = k then z else Z j) := by
  obtain ⟨cs, hb, hc⟩ := h.cells
  refine ⟨⟨cs, hb.turned ht (fun e => h.ne hk e rfl), hc⟩, fun j hj => ?_, h.apart⟩
  by_cases e : j = k
  · subst e
    simp only [if_true]
    exact ho
  · simp only [if_neg e]
    exact (h.own j hj).turned ht (fun g e1 e2 => h.apart j k hj hk e g e1 e2)
theorem Fl.set (h : Fl w L N A n c Z) {k g : Nat} (hk : k < N) (hA : A k = some ⟨g, 0, none⟩) (i : Nat) (z : Int) : Fl (w.setCell ⟨g, i, none⟩ (.int .u8 z)) L N A n c (fun j => if j = k then (Z k).set i z else Z j) := by
  have ho := h.own k hk
  have ht : Turned (fun g => A k = some ⟨g, 0, none⟩) w (w.setCell ⟨g, i, none⟩ (.int .u8 z)) := (Turned.refl _ w).setCell (.inl hA) _
  refine h.one hk ht ?_
  rw [hA] at ho ⊢
  exact ho.set i z
end

theorem Fl.congr {w : World} {L N : Nat} {A : Nat → Option Addr} {n c : Nat → Nat} {Z Z' : Nat → List Int} (h : Fl w L N A n c Z) (e : ∀ j, j < N → Z j = Z' j) : Fl w L N A n c Z' :=
  ⟨h.cells, fun k hk => by rw [← e k hk]; exact h.own k hk, h.apart⟩
def flM (n : Nat → Nat) (j : Nat) : List Int := marksB j (n j)
/-- Beside the rows, all marked: block G, whose first k places hold rows grown by 64, with what X says. -/
structure Gs (w0 wr : World) (L N : Nat) (A : Nat → Option Addr) (n c : Nat → Nat) (G k : Nat) (B : Nat → Option Addr) (d : Nat → Nat) (X : Nat → List Int) : Prop where
  fl : Fl wr L N A n c (flM n)
  cells : ∃ cs, Blk wr G 22 cs ∧ cs.size = N ∧ ∀ j, j < k → cs[j]? = some (.slice (B j) (n j + 64) (d j))
  own : ∀ j, j < k → OwnV wr (B j) (n j + 64) (d j) (X j)
  gl : L < G
  g0 : w0.heap.size ≤ G
  ap : ∀ j i, j < k → i < N → i ≠ j → ∀ g, B j = some ⟨g, 0, none⟩ → A i ≠ some ⟨g, 0, none⟩
  ap2 : ∀ j i, j < k → i < k → i ≠ j → ∀ g, B j = some ⟨g, 0, none⟩ → B i ≠ some ⟨g, 0, none⟩
  tr : Turned (FlW N A) w0 wr
section
variable {w0 wr w' : World} {L N : Nat} {A : Nat → Option Addr} {n c : Nat → Nat} {G k : Nat} {B : Nat → Option Addr} {d : Nat → Nat} {X : Nat → List Int}
theorem Gs.start (h : Fl wr L N A n c (flM n)) {cs : Array Value} (hb : Blk wr G 22 cs) (hs : cs.size = N) (gl : L < G) (g0 : w0.heap.size ≤ G) (tr : Turned (FlW N A) w0 wr) : Gs w0 wr L N A n c G 0 B d X :=
  ⟨h, ⟨cs, hb, hs, fun j hj => absurd hj (by omega)⟩, fun j hj => absurd hj (by omega), gl, g0, fun j _ hj => absurd hj (by omega), fun j _ hj => absurd hj (by omega), tr⟩
theorem Gs.again (h : Gs w0 wr L N A n c G k B d X) {B' : Nat → Option Addr} {d' : Nat → Nat} {X' : Nat → List Int} : Gs w0 wr L N A n c G 0 B' d' X' := by
  obtain ⟨cs, hb, hs, _⟩ := h.cells
  exact Gs.start h.fl hb hs h.gl h.g0 h.tr
theorem Gs.drewN (h : Gs w0 wr L N A n c G k B d X) (m : Nat) : Gs w0 (wr.drewN m) L N A n c G k B d X :=
  ⟨h.fl.fresh ((Turned.refl _ wr).drewN m), h.cells, fun j hj => (h.own j hj).turned ((Turned.refl (fun _ => False) wr).drewN m) (fun _ _ e => e), h.gl, h.g0, h.ap, h.ap2, h.tr.drewN m⟩
theorem Gs.frozen (h : Gs w0 wr L N A n c G k B d X) (j : Nat) : wr.frozen? ⟨G, j, none⟩ = false := by
  obtain ⟨cs, hb, hs, _⟩ := h.cells
  exact hb.frozen j
theorem Gs.cell (h : Gs w0 wr L N A n c G k B d X) {j : Nat} (hj : j < k) : wr.cell? ⟨G, j, none⟩ = some (.slice (B j) (n j + 64) (d j)) := by
  obtain ⟨cs, hb, hs, hc⟩ := h.cells
  rw [hb.cell]
  exact hc j hj
theorem Gs.next {wo : World} (h : Gs w0 wo L N A n c G k B d X) (hk : k < N) {Bk : Option Addr} {dk : Nat} (ho : OwnV wr Bk (n k + 64) dk (X k)) (ha : OwnV wr (A k) (n k) (c k) (marksB k (n k)))
    (hor : Bk = A k ∨ ∃ g, Bk = some ⟨g, 0, none⟩ ∧ wo.heap.size ≤ g) (ht : Turned (fun g => A k = some ⟨g, 0, none⟩) wo wr) :
    Gs w0 (wr.setCell ⟨G, k, none⟩ (.slice Bk (n k + 64) dk)) L N A n c G (k + 1) (fun j => if j = k then Bk else B j) (fun j => if j = k then dk else d j) X := by
  obtain ⟨cs, hb, hs, hc⟩ := h.cells
  have hGA : ∀ j, j < N → A j ≠ some ⟨G, 0, none⟩ := fun j hj e => (h.fl.own j hj).blk hb (by decide) e rfl
  have hbr := hb.turned ht (hGA k hk)
  have hfl : Fl wr L N A n c (flM n) := (h.fl.one hk ht ha).congr (fun j hj => by
    by_cases e : j = k
    · subst e; simp [flM]
    · simp [e])
  have hset := (Turned.refl (· = G) wr).setCell (p := ⟨G, k, none⟩) (.inl rfl) (.slice Bk (n k + 64) dk)
  have hBG : ∀ g, Bk = some ⟨g, 0, none⟩ → g ≠ G := fun g e => by
    rcases hor with e2 | ⟨g2, e2, e3⟩
    · rintro rfl
      exact hGA k hk (by rw [← e2, e])
    · have := hb.lt
      rw [e] at e2
      injection e2 with e2
      injection e2 with e2
      omega
  have hblt : ∀ j g, j < k → B j = some ⟨g, 0, none⟩ → g < wo.heap.size := fun j g hj e => (h.own j hj).lt e
  have halt : ∀ j g, j < N → A j = some ⟨g, 0, none⟩ → g < wo.heap.size := fun j g hj e => (h.fl.own j hj).lt e
  have hfar : ∀ j g, j < k → B j = some ⟨g, 0, none⟩ → Bk ≠ some ⟨g, 0, none⟩ := fun j g hj e e2 => by
    rcases hor with e3 | ⟨g2, e3, e4⟩
    · rw [e3] at e2
      exact h.ap j k hj hk (by omega) g e e2
    · rw [e3] at e2
      injection e2 with e2
      injection e2 with e2
      have := hblt j g hj e
      omega
  refine ⟨hfl.turned hset (fun e => by have := h.gl; omega) (fun j g hj e e2 => hGA j hj (by rw [← e2]; exact e)), ⟨_, hbr.set_ k _, by simp [hs], fun j hj => ?_⟩, fun j hj => ?_, h.gl, h.g0, fun j i hj hi hne g e => ?_, fun j i hj hi hne g e => ?_, ?_⟩
  · by_cases e : j = k
    · subst e
      simp [hs, hk]
    · simp only [if_neg e]
      rw [Array.getElem?_setIfInBounds_ne (by omega)]
      exact hc j (by omega)
  · by_cases e : j = k
    · subst e
      simp only [if_true]
      exact ho.turned hset (fun g e => hBG g e)
    · simp only [if_neg e]
      refine ((h.own j (by omega)).turned ht (fun g e1 e2 => h.ap j k (by omega) hk (by omega) g e1 e2)).turned hset (fun g e1 e2 => ?_)
      exact (h.own j (by omega)).blk hb (by decide) e1 e2
  · by_cases e' : j = k
    · subst e'
      simp only [if_true] at e
      intro e3
      rcases hor with e4 | ⟨g2, e4, e5⟩
      · rw [e4] at e
        exact h.fl.apart j i hk hi (by omega) g e e3
      · rw [e4] at e
        injection e with e
        injection e with e
        have := halt i g hi e3
        omega
    · simp only [if_neg e'] at e
      exact h.ap j i (by omega) hi hne g e
  · by_cases e1 : j = k
    · subst e1
      simp only [if_true] at e
      simp only [if_neg hne]
      intro e2
      exact hfar i g (by omega) e2 e
    · simp only [if_neg e1] at e
      by_cases e2 : i = k
      · subst e2
        simp only [if_true]
        exact hfar j g (by omega) e
      · simp only [if_neg e2]
        exact h.ap2 j i (by omega) (by omega) hne g e
  · refine (h.tr.trans (W := FlW N A) ht (fun _ e => e) (fun g e => .inl ⟨k, hk, e⟩)).setCell (.inr h.g0) _
end
/-- One row is grown. -/
structure GrI (wo wr : World) (k nk ck : Nat) (Ak : Option Addr) (t : Nat) (B : Option Addr) (d : Nat) : Prop where
  own : OwnV wr B (nk + t) d (marksB k (nk + t))
  old : OwnV wr Ak nk ck (marksB k nk)
  at_ : (B = Ak ∧ d = ck) ∨ ∃ g, B = some ⟨g, 0, none⟩ ∧ wo.heap.size ≤ g
  tr : Turned (fun g => Ak = some ⟨g, 0, none⟩) wo wr
theorem GrI.step {wo wr w1 w' : World} {k nk ck t d c' m : Nat} {Ak B A' : Option Addr} {ys : List Int} (h0 : OwnV wo Ak nk ck (marksB k nk)) (h : GrI wo wr k nk ck Ak t B d) (h1 : Turned (fun _ => False) wr w1) (ho : OwnV w' A' (nk + t + m) c' (marksB k (nk + t) ++ ys))
    (hor : (A' = B ∧ c' = d ∧ B ≠ none ∧ Turned (fun g => B = some ⟨g, 0, none⟩) w1 w') ∨ (A' = some ⟨w1.heap.size, 0, none⟩ ∧ Turned (fun _ => False) w1 w')) :
    OwnV w' Ak nk ck (marksB k nk) ∧ ((A' = Ak ∧ c' = ck) ∨ ∃ g, A' = some ⟨g, 0, none⟩ ∧ wo.heap.size ≤ g) ∧ Turned (fun g => Ak = some ⟨g, 0, none⟩) wo w' := by
  have hT1 := h.tr.trans (W := fun g => Ak = some ⟨g, 0, none⟩) h1 (fun _ e => e) (fun _ e => e.elim)
  have hA1 := h.old.turned h1 (fun _ _ e => e)
  rcases hor with ⟨rfl, rfl, hne, ht⟩ | ⟨rfl, ht⟩
  · rcases h.at_ with ⟨rfl, rfl⟩ | ⟨g, rfl, hg⟩
    · refine ⟨?_, .inl ⟨rfl, rfl⟩, hT1.trans ht (fun _ e => e) (fun _ e => .inl e)⟩
      have := ho.take (m := nk) (by omega) hne
      rw [List.take_append_of_le_length (by rw [marksB_length]; omega), marks_take _ _ _ (by omega)] at this
      exact this
    · refine ⟨hA1.turned ht (fun g' e e2 => ?_), .inr ⟨g, rfl, hg⟩, hT1.trans ht (fun _ e => e) (fun g' e => .inr ?_)⟩
      · have := h0.lt e
        injection e2 with e2
        injection e2 with e2
        omega
      · injection e with e
        injection e with e
        omega
  · refine ⟨hA1.turned ht (fun _ _ e => e), .inr ⟨_, rfl, Nat.le_trans h.tr.size h1.size⟩, hT1.trans ht (fun _ e => e) (fun _ e => e.elim)⟩

end Go.Proofs.YtijmfglgeaaoaaaGreatDoor

namespace Go.Proofs.YtijmfglgeaaoaaaGreatDoor
open Go.RowKit Go.Maps
set_option linter.unusedVariables false

end Go.Proofs.YtijmfglgeaaoaaaGreatDoor

