/-
  flatBytes over rows that lie apart: true; of what was there only the rows themselves turn.
-/
import Derived.Test.YtgglkcikimmhfaaGreatDoorOwn
import Derived.StillTailTactics
import Derived.Deep.QuietTactic
namespace Go.Proofs.YtgglkcikimmhfaaGreatDoor
open Go.RowKit Go.Maps
set_option linter.unusedVariables false

theorem marks_take (k : Int) (n t : Nat) (h : t ≤ n) : (marksB k n).take t = marksB k t := by
  unfold marksB
  rw [← List.map_take, List.take_range, Nat.min_eq_left h]
theorem take_set_succ (l : List Int) (t : Nat) (x : Int) (h : t < l.length) : (l.set t x).take (t + 1) = l.take t ++ [x] := by
  rw [List.take_succ_eq_append_getElem (by rw [List.length_set]; exact h), List.getElem_set_self, List.take_set_of_le (Nat.le_refl _)]

/-- N rows of bytes, each nil or whole in a block of its own, no two in one; where they stand: in block L. -/
structure Fl (w : World) (L N : Nat) (A : Nat → Option Addr) (n c : Nat → Nat) (Z : Nat → List Int) : Prop where
  cells : ∃ cs, Blk w L 22 cs ∧ ∀ k, k < N → cs[k]? = some (.slice (A k) (n k) (c k))
  own : ∀ k, k < N → OwnV w (A k) (n k) (c k) (Z k)
  apart : ∀ j k, j < N → k < N → j ≠ k → ∀ g, A j = some ⟨g, 0, none⟩ → A k ≠ some ⟨g, 0, none⟩
def FlW (N : Nat) (A : Nat → Option Addr) (g : Nat) : Prop := ∃ k, k < N ∧ A k = some ⟨g, 0, none⟩
section
variable {w w' : World} {L N : Nat} {A : Nat → Option Addr} {n c : Nat → Nat} {Z : Nat → List Int}
theorem Fl.cell (h : Fl w L N A n c Z) {k : Nat} (hk : k < N) : w.cell? ⟨L, k, none⟩ = some (.slice (A k) (n k) (c k)) := by
  obtain ⟨cs, hb, hc⟩ := h.cells
  rw [hb.cell]
  exact hc k hk
theorem Fl.ne (h : Fl w L N A n c Z) {k g : Nat} (hk : k < N) (hA : A k = some ⟨g, 0, none⟩) : g ≠ L := by
  obtain ⟨cs, hb, _⟩ := h.cells
  exact (h.own k hk).blk hb (by decide) hA
theorem Fl.lt (h : Fl w L N A n c Z) : L < w.heap.size := by
  obtain ⟨cs, hb, _⟩ := h.cells
  exact hb.lt
theorem Fl.turned (h : Fl w L N A n c Z) {W : Nat → Prop} (ht : Turned W w w') (hL : ¬ W L) (hW : ∀ k g, k < N → A k = some ⟨g, 0, none⟩ → ¬ W g) : Fl w' L N A n c Z := by
  obtain ⟨cs, hb, hc⟩ := h.cells
  exact ⟨⟨cs, hb.turned ht hL, hc⟩, fun k hk => (h.own k hk).turned ht (fun g e => hW k g hk e), h.apart⟩
theorem Fl.fresh (h : Fl w L N A n c Z) (ht : Turned (fun _ => False) w w') : Fl w' L N A n c Z := h.turned ht (fun e => e) (fun _ _ _ _ e => e)
/-- One row is turned. -/
theorem Fl.one (h : Fl w L N A n c Z) {k : Nat} (hk : k < N) (ht : Turned (fun g => A k = some ⟨g, 0, none⟩) w w') {z : List Int} (ho : OwnV w' (A k) (n k) (c k) z) : Fl w' L N A n c (fun j => if j = k then z else Z j) := by
  obtain ⟨cs, hb, hc⟩ := h.cells
  refine ⟨⟨cs, hb.turned ht (fun e => h.ne hk e rfl), hc⟩, fun j hj => ?_, h.apart⟩
  by_cases e : j = k
  · subst e
    simp only [if_true]
    exact ho
  · simp only [if_neg e]
    exact (h.own j hj).turned ht (fun g e1 e2 => h.apart j k hj hk e g e1 e2)
theorem Fl.set (h : Fl w L N A n c Z) {k g : Nat} (hk : k < N) (hA : A k = some ⟨g, 0, none⟩) (i : Nat) (z : Int) : Fl (w.setCell ⟨g, i, none⟩ (.int .u8 z)) L N A n c (fun j => if j = k then (Z k).set i z else Z j) := by
  have ho := h.own k hk
  have ht : Turned (fun g => A k = some ⟨g, 0, none⟩) w (w.setCell ⟨g, i, none⟩ (.int .u8 z)) := (Turned.refl _ w).setCell (.inl hA) _
  refine h.one hk ht ?_
  rw [hA] at ho ⊢
  exact ho.set i z
end

def Fl1 (w : World) (L N : Nat) (A : Nat → Option Addr) (n c : Nat → Nat) (k : Nat) (wr : World) : Prop := ∃ Y, Fl wr L N A n c Y ∧ (∀ j, j < k → Y j = marksB j (n j)) ∧ Turned (FlW N A) w wr
def Fl1R (w : World) (L N : Nat) (A : Nat → Option Addr) (n c : Nat → Nat) (i : Value) (wr : World) : Prop := ∃ k : Nat, k ≤ N ∧ i = .int .i64 k ∧ Fl1 w L N A n c k wr
def Fl1I (w : World) (L N : Nat) (A : Nat → Option Addr) (n c : Nat → Nat) (k : Nat) (i : Value) (wr : World) : Prop := ∃ t : Nat, t ≤ n k ∧ i = .int .i64 t ∧ ∃ Y, Fl wr L N A n c Y ∧ (∀ j, j < k → Y j = marksB j (n j)) ∧ (Y k).take t = marksB k t ∧ Turned (FlW N A) w wr
theorem fl1_step {w wr wd : World} {L N : Nat} {A : Nat → Option Addr} {n c : Nat → Nat} {k t g : Nat} {Y : Nat → List Int} (h : Fl wr L N A n c Y) (hY : ∀ j, j < k → Y j = marksB j (n j)) (ht : (Y k).take t = marksB k t) (hT : Turned (FlW N A) w wr) (hk : k < N) (hA : A k = some ⟨g, 0, none⟩) (hlt : t < n k) (hd : Turned (fun _ => False) wr wd) :
    Fl1I w L N A n c k (.int .i64 ((t + 1 : Nat) : Int)) (wd.setCell ⟨g, t, none⟩ (.int .u8 (mkB k t))) := by
  refine ⟨t + 1, by omega, rfl, _, (h.fresh hd).set hk hA t (mkB k t), fun j hj => ?_, ?_, (hT.trans (W := FlW N A) hd (fun _ e => e) (fun _ e => e.elim)).setCell (.inl ⟨k, hk, hA⟩) _⟩
  · rw [if_neg (by omega)]
    exact hY j hj
  · simp only [if_true]
    rw [take_set_succ _ _ _ (by rw [(h.own k hk).len]; exact hlt), ht, ← marksB_succ]
theorem fl1_next {w wr : World} {L N : Nat} {A : Nat → Option Addr} {n c : Nat → Nat} {k : Nat} {Y : Nat → List Int} (h : Fl wr L N A n c Y) (hY : ∀ j, j < k → Y j = marksB j (n j)) (ht : (Y k).take (n k) = marksB k (n k)) (hT : Turned (FlW N A) w wr) (hk : k < N) :
    Fl1R w L N A n c (.int .i64 ((k + 1 : Nat) : Int)) wr := by
  refine ⟨k + 1, hk, rfl, Y, h, fun j hj => ?_, hT⟩
  by_cases e : j = k
  · subst e
    rw [List.take_of_length_le (by rw [(h.own j hk).len]; exact Nat.le_refl _)] at ht
    exact ht
  · exact hY j (by omega)

theorem Fl.congr {w : World} {L N : Nat} {A : Nat → Option Addr} {n c : Nat → Nat} {Z Z' : Nat → List Int} (h : Fl w L N A n c Z) (e : ∀ j, j < N → Z j = Z' j) : Fl w L N A n c Z' :=
  ⟨h.cells, fun k hk => by rw [← e k hk]; exact h.own k hk, h.apart⟩
def flM (n : Nat → Nat) (j : Nat) : List Int := marksB j (n j)
theorem slinfo : (Tryz.prog.info? 22).map (fun i => (i.zero, i.size, i.bytes)) = some (some (.slice none 0 0), 1, 24) := by kernel_rfl

/-- Beside the rows, all marked: block G, whose first k places hold rows grown by 64, with what X says. -/
structure Gs (w0 wr : World) (L N : Nat) (A : Nat → Option Addr) (n c : Nat → Nat) (G k : Nat) (B : Nat → Option Addr) (d : Nat → Nat) (X : Nat → List Int) : Prop where
  fl : Fl wr L N A n c (flM n)
  cells : ∃ cs, Blk wr G 22 cs ∧ cs.size = N ∧ ∀ j, j < k → cs[j]? = some (.slice (B j) (n j + 64) (d j))
  own : ∀ j, j < k → OwnV wr (B j) (n j + 64) (d j) (X j)
  gl : L < G
  g0 : w0.heap.size ≤ G
  ap : ∀ j i, j < k → i < N → i ≠ j → ∀ g, B j = some ⟨g, 0, none⟩ → A i ≠ some ⟨g, 0, none⟩
  ap2 : ∀ j i, j < k → i < k → i ≠ j → ∀ g, B j = some ⟨g, 0, none⟩ → B i ≠ some ⟨g, 0, none⟩
  tr : Turned (FlW N A) w0 wr
section
variable {w0 wr w' : World} {L N : Nat} {A : Nat → Option Addr} {n c : Nat → Nat} {G k : Nat} {B : Nat → Option Addr} {d : Nat → Nat} {X : Nat → List Int}
theorem Gs.start (h : Fl wr L N A n c (flM n)) {cs : Array Value} (hb : Blk wr G 22 cs) (hs : cs.size = N) (gl : L < G) (g0 : w0.heap.size ≤ G) (tr : Turned (FlW N A) w0 wr) : Gs w0 wr L N A n c G 0 B d X :=
  ⟨h, ⟨cs, hb, hs, fun j hj => absurd hj (by omega)⟩, fun j hj => absurd hj (by omega), gl, g0, fun j _ hj => absurd hj (by omega), fun j _ hj => absurd hj (by omega), tr⟩
theorem Gs.again (h : Gs w0 wr L N A n c G k B d X) {B' : Nat → Option Addr} {d' : Nat → Nat} {X' : Nat → List Int} : Gs w0 wr L N A n c G 0 B' d' X' := by
  obtain ⟨cs, hb, hs, _⟩ := h.cells
  exact Gs.start h.fl hb hs h.gl h.g0 h.tr
theorem Gs.drewN (h : Gs w0 wr L N A n c G k B d X) (m : Nat) : Gs w0 (wr.drewN m) L N A n c G k B d X :=
  ⟨h.fl.fresh ((Turned.refl _ wr).drewN m), h.cells, fun j hj => (h.own j hj).turned ((Turned.refl (fun _ => False) wr).drewN m) (fun _ _ e => e), h.gl, h.g0, h.ap, h.ap2, h.tr.drewN m⟩
theorem Gs.slot (h : Gs w0 wr L N A n c G k B d X) {j : Nat} (hj : j < N) : ∃ v, wr.cell? ⟨G, j, none⟩ = some v := by
  obtain ⟨cs, hb, hs, _⟩ := h.cells
  rw [hb.cell]
  exact ⟨_, Array.getElem?_eq_getElem (by omega)⟩
theorem Gs.frozen (h : Gs w0 wr L N A n c G k B d X) (j : Nat) : wr.frozen? ⟨G, j, none⟩ = false := by
  obtain ⟨cs, hb, hs, _⟩ := h.cells
  exact hb.frozen j
theorem Gs.cell (h : Gs w0 wr L N A n c G k B d X) {j : Nat} (hj : j < k) : wr.cell? ⟨G, j, none⟩ = some (.slice (B j) (n j + 64) (d j)) := by
  obtain ⟨cs, hb, hs, hc⟩ := h.cells
  rw [hb.cell]
  exact hc j hj
theorem Gs.ltG (h : Gs w0 wr L N A n c G k B d X) : G < wr.heap.size := by
  obtain ⟨cs, hb, _⟩ := h.cells
  exact hb.lt
theorem Gs.next {wo : World} (h : Gs w0 wo L N A n c G k B d X) (hk : k < N) {Bk : Option Addr} {dk : Nat} (ho : OwnV wr Bk (n k + 64) dk (X k)) (ha : OwnV wr (A k) (n k) (c k) (marksB k (n k)))
    (hor : Bk = A k ∨ ∃ g, Bk = some ⟨g, 0, none⟩ ∧ wo.heap.size ≤ g) (ht : Turned (fun g => A k = some ⟨g, 0, none⟩) wo wr) :
    Gs w0 (wr.setCell ⟨G, k, none⟩ (.slice Bk (n k + 64) dk)) L N A n c G (k + 1) (fun j => if j = k then Bk else B j) (fun j => if j = k then dk else d j) X := by
  obtain ⟨cs, hb, hs, hc⟩ := h.cells
  have hGA : ∀ j, j < N → A j ≠ some ⟨G, 0, none⟩ := fun j hj e => (h.fl.own j hj).blk hb (by decide) e rfl
  have hbr := hb.turned ht (hGA k hk)
  have hfl : Fl wr L N A n c (flM n) := (h.fl.one hk ht ha).congr (fun j hj => by
    by_cases e : j = k
    · subst e; simp [flM]
    · simp [e])
  have hset := (Turned.refl (· = G) wr).setCell (p := ⟨G, k, none⟩) (.inl rfl) (.slice Bk (n k + 64) dk)
  have hBG : ∀ g, Bk = some ⟨g, 0, none⟩ → g ≠ G := fun g e => by
    rcases hor with e2 | ⟨g2, e2, e3⟩
    · rintro rfl
      exact hGA k hk (by rw [← e2, e])
    · have := hb.lt
      rw [e] at e2
      injection e2 with e2
      injection e2 with e2
      omega
  have hblt : ∀ j g, j < k → B j = some ⟨g, 0, none⟩ → g < wo.heap.size := fun j g hj e => (h.own j hj).lt e
  have halt : ∀ j g, j < N → A j = some ⟨g, 0, none⟩ → g < wo.heap.size := fun j g hj e => (h.fl.own j hj).lt e
  have hfar : ∀ j g, j < k → B j = some ⟨g, 0, none⟩ → Bk ≠ some ⟨g, 0, none⟩ := fun j g hj e e2 => by
    rcases hor with e3 | ⟨g2, e3, e4⟩
    · rw [e3] at e2
      exact h.ap j k hj hk (by omega) g e e2
    · rw [e3] at e2
      injection e2 with e2
      injection e2 with e2
      have := hblt j g hj e
      omega
  refine ⟨hfl.turned hset (fun e => by have := h.gl; omega) (fun j g hj e e2 => hGA j hj (by rw [← e2]; exact e)), ⟨_, hbr.set_ k _, by simp [hs], fun j hj => ?_⟩, fun j hj => ?_, h.gl, h.g0, fun j i hj hi hne g e => ?_, fun j i hj hi hne g e => ?_, ?_⟩
  · by_cases e : j = k
    · subst e
      simp [hs, hk]
    · simp only [if_neg e]
      rw [Array.getElem?_setIfInBounds_ne (by omega)]
      exact hc j (by omega)
  · by_cases e : j = k
    · subst e
      simp only [if_true]
      exact ho.turned hset (fun g e => hBG g e)
    · simp only [if_neg e]
      refine ((h.own j (by omega)).turned ht (fun g e1 e2 => h.ap j k (by omega) hk (by omega) g e1 e2)).turned hset (fun g e1 e2 => ?_)
      exact (h.own j (by omega)).blk hb (by decide) e1 e2
  · by_cases e' : j = k
    · subst e'
      simp only [if_true] at e
      intro e3
      rcases hor with e4 | ⟨g2, e4, e5⟩
      · rw [e4] at e
        exact h.fl.apart j i hk hi (by omega) g e e3
      · rw [e4] at e
        injection e with e
        injection e with e
        have := halt i g hi e3
        omega
    · simp only [if_neg e'] at e
      exact h.ap j i (by omega) hi hne g e
  · by_cases e1 : j = k
    · subst e1
      simp only [if_true] at e
      simp only [if_neg hne]
      intro e2
      exact hfar i g (by omega) e2 e
    · simp only [if_neg e1] at e
      by_cases e2 : i = k
      · subst e2
        simp only [if_true]
        exact hfar j g (by omega) e
      · simp only [if_neg e2]
        exact h.ap2 j i (by omega) (by omega) hne g e
  · refine (h.tr.trans (W := FlW N A) ht (fun _ e => e) (fun g e => .inl ⟨k, hk, e⟩)).setCell (.inr h.g0) _
end
def GsR (w0 : World) (L N : Nat) (A : Nat → Option Addr) (n c : Nat → Nat) (G : Nat) (X : Nat → List Int) (i : Value) (wr : World) : Prop := ∃ k : Nat, k ≤ N ∧ i = .int .i64 k ∧ ∃ B d, Gs w0 wr L N A n c G k B d X
/-- One row is grown. -/
structure GrI (wo wr : World) (k nk ck : Nat) (Ak : Option Addr) (t : Nat) (B : Option Addr) (d : Nat) : Prop where
  own : OwnV wr B (nk + t) d (marksB k (nk + t))
  old : OwnV wr Ak nk ck (marksB k nk)
  at_ : (B = Ak ∧ d = ck) ∨ ∃ g, B = some ⟨g, 0, none⟩ ∧ wo.heap.size ≤ g
  tr : Turned (fun g => Ak = some ⟨g, 0, none⟩) wo wr
def GrR (wo : World) (k nk ck : Nat) (Ak : Option Addr) (v i : Value) (wr : World) : Prop := ∃ t : Nat, t ≤ 64 ∧ i = .int .i64 t ∧ ∃ B d, v = .slice B (nk + t) d ∧ GrI wo wr k nk ck Ak t B d
theorem GrI.step {wo wr w1 w' : World} {k nk ck t d c' m : Nat} {Ak B A' : Option Addr} {ys : List Int} (h0 : OwnV wo Ak nk ck (marksB k nk)) (h : GrI wo wr k nk ck Ak t B d) (h1 : Turned (fun _ => False) wr w1) (ho : OwnV w' A' (nk + t + m) c' (marksB k (nk + t) ++ ys))
    (hor : (A' = B ∧ c' = d ∧ B ≠ none ∧ Turned (fun g => B = some ⟨g, 0, none⟩) w1 w') ∨ (A' = some ⟨w1.heap.size, 0, none⟩ ∧ Turned (fun _ => False) w1 w')) :
    OwnV w' Ak nk ck (marksB k nk) ∧ ((A' = Ak ∧ c' = ck) ∨ ∃ g, A' = some ⟨g, 0, none⟩ ∧ wo.heap.size ≤ g) ∧ Turned (fun g => Ak = some ⟨g, 0, none⟩) wo w' := by
  have hT1 := h.tr.trans (W := fun g => Ak = some ⟨g, 0, none⟩) h1 (fun _ e => e) (fun _ e => e.elim)
  have hA1 := h.old.turned h1 (fun _ _ e => e)
  rcases hor with ⟨rfl, rfl, hne, ht⟩ | ⟨rfl, ht⟩
  · rcases h.at_ with ⟨rfl, rfl⟩ | ⟨g, rfl, hg⟩
    · refine ⟨?_, .inl ⟨rfl, rfl⟩, hT1.trans ht (fun _ e => e) (fun _ e => .inl e)⟩
      have := ho.take (m := nk) (by omega) hne
      rw [List.take_append_of_le_length (by rw [marksB_length]; omega), marks_take _ _ _ (by omega)] at this
      exact this
    · refine ⟨hA1.turned ht (fun g' e e2 => ?_), .inr ⟨g, rfl, hg⟩, hT1.trans ht (fun _ e => e) (fun g' e => .inr ?_)⟩
      · have := h0.lt e
        injection e2 with e2
        injection e2 with e2
        omega
      · injection e with e
        injection e with e
        omega
  · refine ⟨hA1.turned ht (fun _ _ e => e), .inr ⟨_, rfl, Nat.le_trans h.tr.size h1.size⟩, hT1.trans ht (fun _ e => e) (fun _ e => e.elim)⟩

theorem app2_turned {w w' : World} {A A' : Option Addr} {c c' : Nat} (h : (A' = A ∧ c' = c ∧ A ≠ none ∧ Turned (fun g => A = some ⟨g, 0, none⟩) w w') ∨ (A' = some ⟨w.heap.size, 0, none⟩ ∧ Turned (fun _ => False) w w')) : Turned (fun g => A = some ⟨g, 0, none⟩) w w' := by
  rcases h with ⟨_, _, _, h⟩ | ⟨_, h⟩
  · exact h
  · exact h.mono (fun _ e => e.elim)
theorem app2_old {w w' : World} {A A' : Option Addr} {n m c c' : Nat} {zs ys : List Int} (h0 : OwnV w A n c zs) (ho : OwnV w' A' (n + m) c' (zs ++ ys)) (h : (A' = A ∧ c' = c ∧ A ≠ none ∧ Turned (fun g => A = some ⟨g, 0, none⟩) w w') ∨ (A' = some ⟨w.heap.size, 0, none⟩ ∧ Turned (fun _ => False) w w')) : OwnV w' A n c zs := by
  rcases h with ⟨rfl, rfl, hne, _⟩ | ⟨_, h⟩
  · have := ho.take (m := n) (by omega) hne
    rw [List.take_left' h0.len] at this
    exact this
  · exact h0.turned h (fun _ _ e => e)
theorem app2_at {w w' : World} {A A' : Option Addr} {c c' s : Nat} (h : (A' = A ∧ c' = c ∧ A ≠ none ∧ Turned (fun g => A = some ⟨g, 0, none⟩) w w') ∨ (A' = some ⟨w.heap.size, 0, none⟩ ∧ Turned (fun _ => False) w w')) (hs : s ≤ w.heap.size) : A' = A ∨ ∃ g, A' = some ⟨g, 0, none⟩ ∧ s ≤ g := by
  rcases h with ⟨h, _⟩ | ⟨h, _⟩
  · exact .inl h
  · exact .inr ⟨_, h, hs⟩
/-- A row of 64 that is filled. -/
def FiR (w0 : World) (g : Nat) (k : Int) (i : Value) (wr : World) : Prop := ∃ t : Nat, t ≤ 64 ∧ i = .int .i64 t ∧ ∃ ys, RowB wr 5 g 64 64 ys ∧ ys.take t = marksB k t ∧ Turned (fun _ => False) w0 wr
def flX (n : Nat → Nat) (N j : Nat) : List Int := marksB j (n j) ++ marksB (((j : Int) + (N : Int))) 64
def DrR (n : Nat) (w : World) (i : Value) (wr : World) : Prop := ∃ j m : Nat, j ≤ n ∧ i = .int .i64 j ∧ wr = w.drewN m
theorem marksB_cell (k : Int) {n t : Nat} (h : t < n) : (marksB k n).getD t 0 = mkB k t := marksB_getD k n t h

set_option maxRecDepth 100000 in
set_option maxHeartbeats 4000000 in
theorem flatBytes_any (L N cL : Nat) (A : Nat → Option Addr) (n c : Nat → Nat) (Z : Nat → List Int) (w : World) (h : Fl w L N A n c Z) (h0 : 1 ≤ N) (hN : N ≤ 100) (hn : ∀ k, k < N → n k ≤ 1000000) :
    Calls Tryz.prog 48 #[.slice (some ⟨L, 0, none⟩) N cL] w (fun e w' => e = .returned (.bool true) ∧ Turned (FlW N A) w w') := by
  have mixed : Tryz.prog.follows .mixedOrders = true := by kernel_rfl
  have h' := Lib.hid h
  have hn' := Lib.hid hn
  clear h hn
  go_enter Tryz.func48, Tryz.ntmps48
  go_wp2
  go_loopw [3] (fun i wr => Fl1R w L N A n c i wr) (fun i _ => N - (intOf i).toNat)
  case atStart => exact ⟨0, by omega, rfl, Z, h'.out, fun j hj => absurd hj (by omega), Turned.refl _ _⟩
  case round =>
    obtain ⟨k, hk, rfl, Y, hF, hY, hT⟩ := hrel
    have hY' := Lib.hid hY
    have hF' := Lib.hid hF
    have hT' := Lib.hid hT
    obtain ⟨wo, hwo⟩ : ∃ wo : World, wo = wr := ⟨_, rfl⟩
    subst hwo
    by_cases hlt : k < N
    · have hki : (k : Int) < (N : Int) := by omega
      clear hF hY hT
      go_wp2
      go_loopw [4] (fun i wr => Fl1I w L N A n c k i wr) (fun i _ => n k - (intOf i).toNat)
      case atStart => exact ⟨0, by omega, rfl, Y, hF'.out, hY'.out, by simp [marksB], hT'.out⟩
      case round =>
        obtain ⟨t, ht, rfl, Y2, hF2, hY2, hm2, hT2⟩ := hrel
        have q1 := hF2.cell hlt
        have hnk := hn'.out k hlt
        have hF3 := Lib.hid hF2
        have hY3 := Lib.hid hY2
        have hm3 := Lib.hid hm2
        have hT3 := Lib.hid hT2
        by_cases hlt2 : t < n k
        · obtain ⟨g, hA, hr⟩ := (hF2.own k hlt).some_ (by omega)
          have q2 := hr.cell hlt2
          have q3 := hr.frozen t
          have hA' := Lib.hid hA
          rw [hA] at q1
          clear hF2 hY2 hm2 hT2 hA hr
          have hti : (t : Int) < (n k : Int) := by omega
          go_wp2
          refine wp_region_still_tail 9 mixed (by kernel_rfl) ?_
          simp only [List.take_succ_cons, List.take_zero, List.drop_succ_cons, List.drop_zero]
          change wpStill _ _ wr.drew (fun a' => wpList _ _ _ _ a' wr.drew) _ _
          iterate 7 still_step
          still_call ((markByte_any (k : Int) (t : Int) wr.drew (by omega) (by omega) (by omega) (by omega)).mono (fun _ _ h => ⟨h.1, h.2.symm⟩))
          still_step
          refine wpStill_nil ?_
          go_wp2
          have hR := Lib.hid (fl1_step hF3.out hY3.out hm3.out hT3.out hlt hA'.out hlt2 (Turned.refl _ wr).drew)
          go_roundw
          case rel =>
            have hz : Value.int .i64 ((t : Int) + 1) = .int .i64 ((t + 1 : Nat) : Int) := by go_num
            first
            | (rw [hz]; exact hR.out)
            | ((repeat apply Exists.intro); exact ⟨by rw [hz]; exact hR.out, rfl⟩)
          case measure => simp [intOf]; omega
        · have hti : (n k : Int) ≤ (t : Int) := by omega
          obtain rfl : t = n k := by omega
          clear hF2 hY2 hm2 hT2
          go_wp2
          have hR := Lib.hid (fl1_next hF3.out hY3.out hm3.out hT3.out hlt)
          go_roundw
          case rel =>
            have hz : Value.int .i64 ((k : Int) + 1) = .int .i64 ((k + 1 : Nat) : Int) := by go_num
            first
            | (rw [hz]; exact hR.out)
            | ((repeat apply Exists.intro); exact ⟨by rw [hz]; exact hR.out, rfl⟩)
          case measure => simp [intOf]; omega
    · have hkN : N = k := by omega
      subst hkN
      have hge : (N : Int) ≤ (N : Int) := Int.le_refl _
      have hFm : Fl wo L N A n c (flM n) := hF.congr (fun j hj => hY j hj)
      obtain ⟨i0, hi, hz0, hz1, hz2⟩ := info_parts slinfo
      have hI := Lib.hid (And.intro hi (And.intro hz0 (And.intro hz1 hz2)))
      have hFm' := Lib.hid hFm
      clear hF hY hT hi hz0 hz1 hz2 hFm hF' hY'
      go_wp2_with (at_make; refine wpList_make_full _ rfl _ _ 39 rfl wo.heap.size 22 i0 (.slice none 0 0) 1 Tryz.underlying39 hI.out.1 hI.out.2.1 hI.out.2.2.1 .i64 .i64 N N N rfl rfl rfl rfl (by rw [hI.out.2.2.2]; omega) (by unfold maxLen; omega) (Nat.le_refl _) ?_; intro w1 hown hg1)
      have hG1 : Gs w w1 L N A n c wo.heap.size 0 (fun _ => none) (fun _ => 0) (fun j => marksB j (n j + 64)) := by
        have ht1 : Turned (fun _ => False) wo w1 := (Turned.refl _ wo).grown hg1 (by simp)
        rcases hown.2 with ⟨e, _⟩ | ⟨g, cap, cur, e, _, hb, _, _, hs, _⟩
        · cases e
        · injection e with e1 e2 e3
          injection e1 with e1
          injection e1 with e1
          subst e1 e3
          exact Gs.start (hFm'.out.fresh ht1) hb (by omega) hFm'.out.lt hT'.out.size (hT'.out.trans ht1 (fun _ e => e) (fun _ e => e.elim))
      have hG1' := Lib.hid hG1
      generalize wo.heap.size = G at *
      clear hown hg1 hG1 hFm' hT' hI
      go_loopw [6] (fun i wr => GsR w L N A n c G (fun j => marksB j (n j + 64)) i wr) (fun i _ => N - (intOf i).toNat)
      case atStart => exact ⟨0, by omega, rfl, _, _, hG1'.out⟩
      case round =>
        obtain ⟨k, hk, rfl, B, d, hG⟩ := hrel
        clear hG1'
        have hG' := Lib.hid hG
        obtain ⟨wp, hwp⟩ : ∃ wp : World, wp = wr := ⟨_, rfl⟩
        subst hwp
        by_cases hlt : k < N
        · have hki : (k : Int) < (N : Int) := by omega
          have q1 := hG.fl.cell hlt
          have hgr0 : GrI wp wp k (n k) (c k) (A k) 0 (A k) (c k) := by
            have := hG.fl.own k hlt
            exact ⟨this, this, .inl ⟨rfl, rfl⟩, Turned.refl _ _⟩
          have hgr0' := Lib.hid hgr0
          have hnk := hn'.out k hlt
          clear hG hgr0
          go_wp2
          go_loopw [7, 8] (fun v i wr => GrR wp k (n k) (c k) (A k) v i wr) (fun _ i _ => 64 - (intOf i).toNat)
          case atStart => exact ⟨0, by omega, rfl, _, _, rfl, hgr0'.out⟩
          case round =>
            obtain ⟨t, ht, rfl, B', d', rfl, hgr⟩ := hrel
            have hgr' := Lib.hid hgr
            have q1 := cell_turned hgr.tr (hG'.out.fl.cell hlt) (fun e => hG'.out.fl.ne hlt e rfl)
            clear hgr0'
            by_cases hlt2 : t < 64
            · have hti : (t : Int) < 64 := by omega
              clear hgr
              go_wp2_with (first
                | (go_at_call 32; refine (markByte_any (k : Int) ((n k : Int) + (t : Int)) _ (by omega) (by omega) (by omega) (by omega)).mono ?_; rintro e w3 ⟨rfl, rfl⟩)
                | (at_builtin; refine wpList_app2 bytT rfl (.tmp 57) (.tmp 67) rfl (hgr'.out.own.turned ((Turned.refl (fun _ => False) wr).alloc _) (fun _ _ e => e)) ⟨wr.heap.size, 0, none⟩ 1 1 [mkB (k : Int) ((n k : Int) + (t : Int))] rfl (cell_one_new _ _ _) (by omega) (by omega) rfl rfl ?_; intro A' c' w4 ho4 hor4))
              have hst := GrI.step (hG'.out.fl.own k hlt) hgr'.out ((Turned.refl (fun _ => False) wr).alloc _) ho4 hor4
              have hR : GrR wp k (n k) (c k) (A k) (.slice A' (n k + (t + 1)) c') (.int .i64 ((t + 1 : Nat) : Int)) w4 :=
                ⟨t + 1, by omega, rfl, A', c', rfl, by
                  have e : marksB (k : Int) (n k + (t + 1)) = marksB (k : Int) (n k + t) ++ [mkB (k : Int) ((n k : Int) + (t : Int))] := by
                    rw [← Nat.add_assoc, marksB_succ, Int.natCast_add]
                  rw [e]; exact ho4, hst.1, hst.2.1, hst.2.2⟩
              have hR' := Lib.hid hR
              clear ho4 hor4 hst hR
              go_roundw
              case rel =>
                have hz : Value.int .i64 ((t : Int) + 1) = .int .i64 ((t + 1 : Nat) : Int) := by go_num
                first
                | (rw [hz]; exact hR'.out)
                | ((repeat apply Exists.intro); exact ⟨by rw [hz]; exact hR'.out, rfl⟩)
              case measure => simp [intOf]; omega
            · have ht64 : t = 64 := by omega
              subst ht64
              obtain ⟨cs, hb, hs, _⟩ := hG'.out.cells
              have hb2 := hb.turned hgr.tr (fun e => (hG'.out.fl.own k hlt).blk hb (by decide) e rfl)
              have q2 : wr.cell? ⟨G, k, none⟩ = some (cs[k]'(by omega)) := by rw [hb2.cell]; exact Array.getElem?_eq_getElem (by omega)
              have q3 := hb2.frozen k
              generalize cs[k]'(by omega) = v0 at q2
              clear hb hb2 hgr hs
              go_wp2
              have hnx := hG'.out.next hlt hgr'.out.own hgr'.out.old (by
                rcases hgr'.out.at_ with ⟨e, _⟩ | e
                · exact .inl e
                · exact .inr e) hgr'.out.tr
              have hR : GsR w L N A n c G (fun j => marksB j (n j + 64)) (.int .i64 ((k + 1 : Nat) : Int)) (wr.setCell ⟨G, k, none⟩ (.slice B' (n k + 64) d')) := ⟨k + 1, by omega, rfl, _, _, hnx⟩
              have hR' := Lib.hid hR
              clear hnx hR
              go_roundw
              case rel =>
                have hz : Value.int .i64 ((k : Int) + 1) = .int .i64 ((k + 1 : Nat) : Int) := by go_num
                first
                | (rw [hz]; exact hR'.out)
                | ((repeat apply Exists.intro); exact ⟨by rw [hz]; exact hR'.out, rfl⟩)
              case measure => simp [intOf]; omega
        · have hkN : N = k := by omega
          subst hkN
          have hge : (N : Int) ≤ (N : Int) := Int.le_refl _
          clear hG
          go_wp2
          go_loopw [9] (fun i wr => DrR N wp i wr) (fun i _ => N - (intOf i).toNat)
          case atStart => exact ⟨0, 0, by omega, rfl, rfl⟩
          case round =>
            obtain ⟨k, m, hk, rfl, hwr⟩ := hrel
            have hwr' := Lib.hid hwr
            clear hwr
            by_cases hlt : k < N
            · have hki : (k : Int) < (N : Int) := by omega
              have hnk := hn'.out k hlt
              obtain ⟨h, hB, hrB⟩ := (hG'.out.own k hlt).some_ (by omega)
              have qG : wr.cell? ⟨G, k, none⟩ = some (.slice (some ⟨h, 0, none⟩) (n k + 64) (d k)) := by rw [hwr'.out, ← hB]; exact hG'.out.cell hlt
              have hrB' := Lib.hid hrB
              clear hB hrB
              obtain ⟨wq, hwq⟩ : ∃ wq : World, wq = wr := ⟨_, rfl⟩
              subst hwq
              go_wp2
              go_loopw [10] (fun i wr => DrR (n k + 64) wq i wr) (fun i _ => n k + 64 - (intOf i).toNat)
              case atStart => exact ⟨0, 0, by omega, rfl, rfl⟩
              case round =>
                obtain ⟨t, m2, ht, rfl, hwr⟩ := hrel
                have hwr2 := Lib.hid hwr
                have qG : wr.cell? ⟨G, k, none⟩ = some (.slice (some ⟨h, 0, none⟩) (n k + 64) (d k)) := by rw [hwr]; exact qG
                clear hwr
                by_cases hlt2 : t < n k + 64
                · have hti : (t : Int) < (n k : Int) + 64 := by omega
                  have qH : wr.cell? ⟨h, t, none⟩ = some (.int .u8 (mkB k t)) := by
                    rw [hwr2.out, hwr'.out, ← marksB_cell k hlt2]; exact hrB'.out.cell hlt2
                  have qL : wr.cell? ⟨L, k, none⟩ = some (.slice (A k) (n k) (c k)) := by rw [hwr2.out, hwr'.out]; exact hG'.out.fl.cell hlt
                  by_cases htn : t < n k
                  · obtain ⟨g, hA, hrA⟩ := (hG'.out.fl.own k hlt).some_ (by omega)
                    have qA : wr.cell? ⟨g, t, none⟩ = some (.int .u8 (mkB k t)) := by
                      rw [hwr2.out, hwr'.out, ← marksB_cell k htn]; exact hrA.cell htn
                    rw [hA] at qL
                    clear hA hrA
                    have hd1 : decide ((t : Int) < (n k : Int)) = true := by simp; omega
                    have hd4 : decide (t < n k) = true := by simp; omega
                    have hjl : (t : Int) < (n k : Int) := by omega
                    go_wp2
                    go_quiet ((go_at_call 32; exact Calls.quiet_of_same ((markByte_any (k : Int) (t : Int) _ (by omega) (by omega) (by omega) (by omega)).mono (fun _ _ h => ⟨h.1, h.2.symm⟩))))
                    go_wp2
                    exact ⟨⟨t + 1, m2 + nq, by omega, by go_num, by rw [hwr2.out, World.drewN_drewN]⟩, by simp [intOf]; omega⟩
                  · have hd1 : decide ((t : Int) < (n k : Int)) = false := by simp; omega
                    have hd4 : decide (t < n k) = false := by simp; omega
                    have hjl : (n k : Int) ≤ (t : Int) := by omega
                    go_wp2
                    go_quiet ((go_at_call 32; exact Calls.quiet_of_same ((markByte_any (k : Int) (t : Int) _ (by omega) (by omega) (by omega) (by omega)).mono (fun _ _ h => ⟨h.1, h.2.symm⟩))))
                    go_wp2
                    exact ⟨⟨t + 1, m2 + nq, by omega, by go_num, by rw [hwr2.out, World.drewN_drewN]⟩, by simp [intOf]; omega⟩
                · have hge2 : (n k : Int) + 64 ≤ (t : Int) := by omega
                  go_wp2
                  have hR : DrR N wp (.int .i64 ((k + 1 : Nat) : Int)) wr := ⟨k + 1, m + m2, by omega, rfl, by rw [hwr2.out, hwr'.out, World.drewN_drewN]⟩
                  have hR' := Lib.hid hR
                  clear hR
                  go_roundw
                  case rel =>
                    have hz : Value.int .i64 ((k : Int) + 1) = .int .i64 ((k + 1 : Nat) : Int) := by go_num
                    first
                    | (rw [hz]; exact hR'.out)
                    | ((repeat apply Exists.intro); exact ⟨by rw [hz]; exact hR'.out, rfl⟩)
                  case measure => simp [intOf]; omega
            · have hkN : N = k := by omega
              subst hkN
              have hG4 : Gs w wr L N A n c G 0 (fun _ => none) (fun _ => 0) (flX n N) := by rw [hwr'.out]; exact (hG'.out.drewN m).again
              have hG4' := Lib.hid hG4
              clear hG4 hG' hwr'
              obtain ⟨wp, hwp⟩ : ∃ wp : World, wp = wr := ⟨_, rfl⟩
              subst hwp
              go_wp2
              go_loopw [11] (fun i wr => GsR w L N A n c G (flX n N) i wr) (fun i _ => N - (intOf i).toNat)
              case atStart => exact ⟨0, by omega, rfl, _, _, hG4'.out⟩
              case round =>
                obtain ⟨k, hk, rfl, B4, d4, hG⟩ := hrel
                clear hG4'
                have hG' := Lib.hid hG
                obtain ⟨wp, hwp⟩ : ∃ wp : World, wp = wr := ⟨_, rfl⟩
                subst hwp
                by_cases hlt : k < N
                · have hki : (k : Int) < (N : Int) := by omega
                  have hnk := hn'.out k hlt
                  obtain ⟨i0, hi, hz0, hz1, hz2⟩ := info_parts u8info
                  have hI := Lib.hid (And.intro hi (And.intro hz0 (And.intro hz1 hz2)))
                  clear hG hi hz0 hz1 hz2
                  go_wp2_with (at_make; refine wpList_make_full _ rfl _ _ 22 rfl wp.heap.size 5 i0 (.int .u8 0) 1 Tryz.underlying22 hI.out.1 hI.out.2.1 hI.out.2.2.1 .i64 .i64 64 64 64 rfl rfl rfl rfl (by rw [hI.out.2.2.2]; omega) (by unfold maxLen; omega) (Nat.le_refl _) ?_; intro w1 hown hg1)
                  have hM : FiR wp wp.heap.size ((k : Int) + (N : Int)) (.int .i64 (0 : Nat)) w1 := by
                    rw [made_u8] at hown
                    exact ⟨0, by omega, rfl, _, RowB.of_own hown, by simp [marksB], (Turned.refl _ wp).grown hg1 (by simp)⟩
                  have hM' := Lib.hid hM
                  clear hown hg1 hM hI
                  go_loopw [13] (fun i wr => FiR wp wp.heap.size ((k : Int) + (N : Int)) i wr) (fun i _ => 64 - (intOf i).toNat)
                  case atStart => exact hM'.out
                  case round =>
                    obtain ⟨t, ht, rfl, ys, hr, hys, hT⟩ := hrel
                    clear hM'
                    have hr' := Lib.hid hr
                    have hys' := Lib.hid hys
                    have hT' := Lib.hid hT
                    by_cases hlt2 : t < 64
                    · have hti : (t : Int) < 64 := by omega
                      have q1 := hr.cell hlt2
                      have q2 := hr.frozen t
                      clear hr hys hT
                      go_wp2_with (go_at_call 32; refine (markByte_any ((k : Int) + (N : Int)) (t : Int) _ (by omega) (by omega) (by omega) (by omega)).mono ?_; rintro e w3 ⟨rfl, rfl⟩)
                      have hR : FiR wp wp.heap.size ((k : Int) + (N : Int)) (.int .i64 ((t + 1 : Nat) : Int)) (wr.setCell ⟨wp.heap.size, t, none⟩ (.int .u8 (mkB ((k : Int) + (N : Int)) t))) := by
                        refine ⟨t + 1, by omega, rfl, _, hr'.out.set t _, ?_, hT'.out.setCell (.inr (Nat.le_refl _)) _⟩
                        rw [take_set_succ _ _ _ (by rw [hr'.out.len]; omega), hys'.out, ← marksB_succ]
                      have hR' := Lib.hid hR
                      clear hR
                      go_roundw
                      case rel =>
                        have hz : Value.int .i64 ((t : Int) + 1) = .int .i64 ((t + 1 : Nat) : Int) := by go_num
                        first
                        | (rw [hz]; exact hR'.out)
                        | ((repeat apply Exists.intro); exact ⟨by rw [hz]; exact hR'.out, rfl⟩)
                      case measure => simp [intOf]; omega
                    · have ht64 : t = 64 := by omega
                      subst ht64
                      have hz64 : ys = marksB ((k : Int) + (N : Int)) 64 := by
                        have := hys
                        rw [List.take_of_length_le (by rw [hr.len]; omega)] at this
                        exact this
                      obtain ⟨cs, hb, hs, _⟩ := hG'.out.cells
                      have hb1 := hb.turned hT (fun e => e)
                      have hown := (hG'.out.fl.own k hlt).turned hT (fun _ _ e => e)
                      have hnw : ∀ j u, (u8s (marksB ((k : Int) + (N : Int)) 64))[j]? = some u → wr.cell? ((⟨wp.heap.size, 0, none⟩ : Addr).add j) = some u := by rw [← hz64]; exact news_of_row hr
                      have q1 : wr.cell? ⟨L, k, none⟩ = some (.slice (A k) (n k) (c k)) := cell_turned hT (hG'.out.fl.cell hlt) (fun e => e)
                      have H := Lib.hid (And.intro hb1 (And.intro hown hnw))
                      have hGA : A k ≠ some ⟨G, 0, none⟩ := fun e => (hG'.out.fl.own k hlt).blk hb (by decide) e rfl
                      clear hr hys hT hz64 hb hb1 hown hnw hr' hys'
                      go_wp2_with (at_builtin; refine wpList_app2 bytT rfl (.tmp 148) (.tmp 149) rfl H.out.2.1 ⟨wp.heap.size, 0, none⟩ 64 64 (marksB ((k : Int) + (N : Int)) 64) (marksB_length _ _) H.out.2.2 (by omega) (by omega) rfl rfl ?_; intro A' c' w4 ho4 hor4; have hb4 := H.out.1.turned (app2_turned hor4) hGA; have q2 : w4.cell? ⟨G, k, none⟩ = some (cs[k]'(by omega)) := (by rw [hb4.cell]; exact Array.getElem?_eq_getElem (by omega)); have q3 := hb4.frozen k)
                      have hnx := hG'.out.next hlt (Bk := A') (dk := c') ho4 (app2_old H.out.2.1 ho4 hor4) (app2_at hor4 hT'.out.size) ((hT'.out.mono (fun _ e => e.elim)).trans (W := fun g => A k = some ⟨g, 0, none⟩) (app2_turned hor4) (fun _ e => e) (fun _ e => .inl e))
                      have hR : GsR w L N A n c G (flX n N) (.int .i64 ((k + 1 : Nat) : Int)) (w4.setCell ⟨G, k, none⟩ (.slice A' (n k + 64) c')) := ⟨k + 1, by omega, rfl, _, _, hnx⟩
                      have hR' := Lib.hid hR
                      clear hnx hR hb4 ho4 hor4
                      go_roundw
                      case rel =>
                        have hz : Value.int .i64 ((k : Int) + 1) = .int .i64 ((k + 1 : Nat) : Int) := by go_num
                        first
                        | (rw [hz]; exact hR'.out)
                        | ((repeat apply Exists.intro); exact ⟨by rw [hz]; exact hR'.out, rfl⟩)
                      case measure => simp [intOf]; omega
                · have hkN : N = k := by omega
                  subst hkN
                  have hge : (N : Int) ≤ (N : Int) := Int.le_refl _
                  clear hG
                  go_wp2
                  go_loopw [14] (fun i wr => DrR N wp i wr) (fun i _ => N - (intOf i).toNat)
                  case atStart => exact ⟨0, 0, by omega, rfl, rfl⟩
                  case round =>
                    obtain ⟨k, m, hk, rfl, hwr⟩ := hrel
                    have hwr' := Lib.hid hwr
                    clear hwr
                    by_cases hlt : k < N
                    · have hki : (k : Int) < (N : Int) := by omega
                      have hnk := hn'.out k hlt
                      have qL : wr.cell? ⟨L, k, none⟩ = some (.slice (A k) (n k) (c k)) := by rw [hwr'.out]; exact hG'.out.fl.cell hlt
                      obtain ⟨wq, hwq⟩ : ∃ wq : World, wq = wr := ⟨_, rfl⟩
                      subst hwq
                      go_wp2
                      go_loopw [15] (fun i wr => DrR (n k) wq i wr) (fun i _ => n k - (intOf i).toNat)
                      case atStart => exact ⟨0, 0, by omega, rfl, rfl⟩
                      case round =>
                        obtain ⟨t, m2, ht, rfl, hwr⟩ := hrel
                        have hwr2 := Lib.hid hwr
                        have qL : wr.cell? ⟨L, k, none⟩ = some (.slice (A k) (n k) (c k)) := by rw [hwr]; exact qL
                        clear hwr
                        by_cases hlt2 : t < n k
                        · have hti : (t : Int) < (n k : Int) := by omega
                          obtain ⟨h, hB, hrB⟩ := (hG'.out.own k hlt).some_ (by omega)
                          have qG : wr.cell? ⟨G, k, none⟩ = some (.slice (some ⟨h, 0, none⟩) (n k + 64) (d4 k)) := by rw [hwr2.out, hwr'.out, ← hB]; exact hG'.out.cell hlt
                          have qH : wr.cell? ⟨h, t, none⟩ = some (.int .u8 (mkB k t)) := by
                            have := hrB.cell (i := t) (by omega)
                            unfold flX at this
                            rw [getD_app_l _ _ _ _ (by rw [marksB_length]; exact hlt2), marksB_cell k hlt2] at this
                            rw [hwr2.out, hwr'.out]; exact this
                          obtain ⟨g, hA, hrA⟩ := (hG'.out.fl.own k hlt).some_ (by omega)
                          have qA : wr.cell? ⟨g, t, none⟩ = some (.int .u8 (mkB k t)) := by
                            rw [hwr2.out, hwr'.out, ← marksB_cell k hlt2]; exact hrA.cell hlt2
                          rw [hA] at qL
                          clear hA hrA hB hrB
                          have hd1 : decide ((t : Int) < (n k : Int) + 64) = true := by simp; omega
                          have hti2 : (t : Int) < (n k : Int) + 64 := by omega
                          go_wp2
                          go_quiet ((go_at_call 32; exact Calls.quiet_of_same ((markByte_any (k : Int) (t : Int) _ (by omega) (by omega) (by omega) (by omega)).mono (fun _ _ h => ⟨h.1, h.2.symm⟩))))
                          go_wp2
                          first
                          | exact ⟨⟨t + 1, m2 + nq, by omega, by go_num, by rw [hwr2.out, World.drewN_drewN]⟩, by simp [intOf]; omega⟩
                        · have hge2 : (n k : Int) ≤ (t : Int) := by omega
                          go_wp2
                          have hR : DrR N wp (.int .i64 ((k + 1 : Nat) : Int)) wr := ⟨k + 1, m + m2, by omega, rfl, by rw [hwr2.out, hwr'.out, World.drewN_drewN]⟩
                          have hR' := Lib.hid hR
                          clear hR
                          go_roundw
                          case rel =>
                            have hz : Value.int .i64 ((k : Int) + 1) = .int .i64 ((k + 1 : Nat) : Int) := by go_num
                            first
                            | (rw [hz]; exact hR'.out)
                            | ((repeat apply Exists.intro); exact ⟨by rw [hz]; exact hR'.out, rfl⟩)
                          case measure => simp [intOf]; omega
                    · have hkN : N = k := by omega
                      subst hkN
                      go_wp2
                      go_ret
                      refine ⟨rfl, ?_⟩
                      rw [hwr'.out]
                      exact hG'.out.tr.drewN m
end Go.Proofs.YtgglkcikimmhfaaGreatDoor
