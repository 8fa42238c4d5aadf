/-
  Rows of elements of any type that lie apart: marked, grown, looked at: the words for the flat.. functions. No condition: laws over any world.
-/
import Derived.Test.YtijmfglgeaaoaaaGreatDoorQElt
namespace Go.Proofs.YtijmfglgeaaoaaaGreatDoor
open Go.RowKit Go.Maps
set_option linter.unusedVariables false

/-- M k i: the cells of mark i of list k, q of them. -/
structure MkE (M : Int → Int → List Value) (q : Nat) : Prop where
  len : ∀ k i, (M k i).length = q
  one : ∀ k i, ∀ v ∈ M k i, v.oneCell' = true
def marksE (M : Int → Int → List Value) (k : Int) (n : Nat) : List Value := (List.range n).flatMap fun (i : Nat) => M k (i : Int)
section
variable {M : Int → Int → List Value} {q : Nat}
theorem marksE_succ (M : Int → Int → List Value) (k : Int) (n : Nat) : marksE M k (n + 1) = marksE M k n ++ M k n := by simp [marksE, List.range_succ]
theorem marksE_length (h : MkE M q) (k : Int) (n : Nat) : (marksE M k n).length = n * q := by
  induction n with
  | zero => simp [marksE]
  | succ n ih => rw [marksE_succ, List.length_append, ih, h.len, Nat.succ_mul]
theorem marksE_one (h : MkE M q) (k : Int) (n : Nat) : ∀ v ∈ marksE M k n, v.oneCell' = true := by
  intro v hv
  obtain ⟨i, _, hi⟩ := List.mem_flatMap.1 hv
  exact h.one k i v hi
theorem marksE_take (h : MkE M q) (k : Int) (n t : Nat) (ht : t ≤ n) : (marksE M k n).take (t * q) = marksE M k t := by
  induction n with
  | zero =>
    obtain rfl : t = 0 := by omega
    simp [marksE]
  | succ n ih =>
    by_cases e : t = n + 1
    · subst e
      exact List.take_of_length_le (by rw [marksE_length h]; exact Nat.le_refl _)
    · rw [marksE_succ, List.take_append_of_le_length (by rw [marksE_length h]; exact Nat.mul_le_mul_right _ (by omega))]
      exact ih (by omega)
theorem marksE_get (h : MkE M q) (k : Int) (n t j : Nat) (ht : t < n) (hj : j < q) : (marksE M k n)[t * q + j]? = (M k t)[j]? := by
  have h1 := marksE_take h k n (t + 1) ht
  have h2 : t * q + j < (t + 1) * q := by rw [Nat.succ_mul]; omega
  rw [show (marksE M k n)[t * q + j]? = ((marksE M k n).take ((t + 1) * q))[t * q + j]? by rw [List.getElem?_take, if_pos h2], h1, marksE_succ, List.getElem?_append_right (by rw [marksE_length h]; omega), marksE_length h]
  congr 1
  omega
end
/-! Cells set one behind the other. -/
def setsL (xs : List Value) (o : Nat) : List Value → List Value
  | [] => xs
  | v :: vs => setsL (xs.set o v) (o + 1) vs
def setsW (w : World) (g o : Nat) : List Value → World
  | [] => w
  | v :: vs => setsW (w.setCell ⟨g, o, none⟩ v) g (o + 1) vs
theorem take_setsL (vs : List Value) : ∀ (xs : List Value) (o : Nat), o + vs.length ≤ xs.length → (setsL xs o vs).take (o + vs.length) = xs.take o ++ vs := by
  induction vs with
  | nil => intro xs o h; simp [setsL]
  | cons v vs ih =>
    intro xs o h
    rw [List.length_cons] at h ⊢
    unfold setsL
    rw [show o + (vs.length + 1) = (o + 1) + vs.length by omega, ih _ _ (by rw [List.length_set]; omega)]
    rw [List.take_succ_eq_append_getElem (by rw [List.length_set]; omega), List.getElem_set_self, List.take_set_of_le (Nat.le_refl _), List.append_assoc]
    rfl
theorem RowE.sets {U q g n cap : Nat} (vs : List Value) : ∀ {w : World} {xs : List Value} (o : Nat), RowE w U q g n cap xs → RowE (setsW w g o vs) U q g n cap (setsL xs o vs) := by
  induction vs with
  | nil => intro w xs o h; exact h
  | cons v vs ih => intro w xs o h; exact ih (o + 1) (h.set o v)
theorem Turned.sets {W : Nat → Prop} {a : World} {g : Nat} (vs : List Value) : ∀ {b : World} (o : Nat), Turned W a b → (W g ∨ a.heap.size ≤ g) → Turned W a (setsW b g o vs) := by
  induction vs with
  | nil => intro b o h _; exact h
  | cons v vs ih => intro b o h hg; exact ih (o + 1) (h.setCell (p := ⟨g, o, none⟩) hg v) hg

/-- N rows of T (q cells each), each nil or whole in a block of its own, no two in one; where they stand: in block L, whose type is SL. -/
structure FlE (T q SL : Nat) (w : World) (L N : Nat) (A : Nat → Option Addr) (n c : Nat → Nat) (Z : Nat → List Value) : Prop where
  cells : ∃ cs, Blk w L SL cs ∧ ∀ k, k < N → cs[k]? = some (.slice (A k) (n k) (c k))
  own : ∀ k, k < N → OwnE w T q (A k) (n k) (c k) (Z k)
  apart : ∀ j k, j < N → k < N → j ≠ k → ∀ g, A j = some ⟨g, 0, none⟩ → A k ≠ some ⟨g, 0, none⟩
  ty : SL ≠ T
def FlEW (N : Nat) (A : Nat → Option Addr) (g : Nat) : Prop := ∃ k, k < N ∧ A k = some ⟨g, 0, none⟩
section
variable {T q SL : Nat} {w w' : World} {L N : Nat} {A : Nat → Option Addr} {n c : Nat → Nat} {Z : Nat → List Value} {M : Int → Int → List Value}
theorem FlE.cell (h : FlE T q SL w L N A n c Z) {k : Nat} (hk : k < N) : w.cell? ⟨L, k, none⟩ = some (.slice (A k) (n k) (c k)) := by
  obtain ⟨cs, hb, hc⟩ := h.cells
  rw [hb.cell]
  exact hc k hk
theorem FlE.ne (h : FlE T q SL w L N A n c Z) {k g : Nat} (hk : k < N) (hA : A k = some ⟨g, 0, none⟩) : g ≠ L := by
  obtain ⟨cs, hb, _⟩ := h.cells
  exact (h.own k hk).blk hb h.ty hA
theorem FlE.lt (h : FlE T q SL w L N A n c Z) : L < w.heap.size := by
  obtain ⟨cs, hb, _⟩ := h.cells
  exact hb.lt
theorem FlE.turned (h : FlE T q SL w L N A n c Z) {W : Nat → Prop} (ht : Turned W w w') (hL : ¬ W L) (hW : ∀ k g, k < N → A k = some ⟨g, 0, none⟩ → ¬ W g) : FlE T q SL w' L N A n c Z := by
  obtain ⟨cs, hb, hc⟩ := h.cells
  exact ⟨⟨cs, hb.turned ht hL, hc⟩, fun k hk => (h.own k hk).turned ht (fun g e => hW k g hk e), h.apart, h.ty⟩
theorem FlE.fresh (h : FlE T q SL w L N A n c Z) (ht : Turned (fun _ => False) w w') : FlE T q SL w' L N A n c Z := h.turned ht (fun e => e) (fun _ _ _ _ e => e)
/-- One row is turned. -/
theorem FlE.one (h : FlE T q SL w L N A n c Z) {k : Nat} (hk : k < N) (ht : Turned (fun g => A k = some ⟨g, 0, none⟩) w w') {z : List Value} (ho : OwnE w' T q (A k) (n k) (c k) z) : FlE T q SL w' L N A n c (fun j => if j = k then z else Z j) := by
  obtain ⟨cs, hb, hc⟩ := h.cells
  refine ⟨⟨cs, hb.turned ht (fun e => h.ne hk e rfl), hc⟩, fun j hj => ?_, h.apart, h.ty⟩
  by_cases e : j = k
  · subst e
    simp only [if_true]
    exact ho
  · simp only [if_neg e]
    exact (h.own j hj).turned ht (fun g e1 e2 => h.apart j k hj hk e g e1 e2)
theorem FlE.sets (h : FlE T q SL w L N A n c Z) {k g : Nat} (hk : k < N) (hA : A k = some ⟨g, 0, none⟩) (o : Nat) (vs : List Value) : FlE T q SL (setsW w g o vs) L N A n c (fun j => if j = k then setsL (Z k) o vs else Z j) := by
  have ho := h.own k hk
  have ht : Turned (fun g => A k = some ⟨g, 0, none⟩) w (setsW w g o vs) := (Turned.refl _ w).sets vs o (.inl hA)
  refine h.one hk ht ?_
  rw [hA] at ho ⊢
  exact OwnE.of_row (ho.row.sets vs o)
theorem FlE.congr {Z' : Nat → List Value} (h : FlE T q SL w L N A n c Z) (e : ∀ j, j < N → Z j = Z' j) : FlE T q SL w L N A n c Z' := ⟨h.cells, fun k hk => by rw [← e k hk]; exact h.own k hk, h.apart, h.ty⟩
end
/-! All are marked. -/
def FlE1 (T q SL : Nat) (M : Int → Int → List Value) (w : World) (L N : Nat) (A : Nat → Option Addr) (n c : Nat → Nat) (k : Nat) (wr : World) : Prop := ∃ Y, FlE T q SL wr L N A n c Y ∧ (∀ j, j < k → Y j = marksE M j (n j)) ∧ Turned (FlEW N A) w wr
def FlE1R (T q SL : Nat) (M : Int → Int → List Value) (w : World) (L N : Nat) (A : Nat → Option Addr) (n c : Nat → Nat) (i : Value) (wr : World) : Prop := ∃ k : Nat, k ≤ N ∧ i = .int .i64 k ∧ FlE1 T q SL M w L N A n c k wr
def FlE1I (T q SL : Nat) (M : Int → Int → List Value) (w : World) (L N : Nat) (A : Nat → Option Addr) (n c : Nat → Nat) (k : Nat) (i : Value) (wr : World) : Prop := ∃ t : Nat, t ≤ n k ∧ i = .int .i64 t ∧ ∃ Y, FlE T q SL wr L N A n c Y ∧ (∀ j, j < k → Y j = marksE M j (n j)) ∧ (Y k).take (t * q) = marksE M k t ∧ Turned (FlEW N A) w wr
section
variable {T q SL : Nat} {M : Int → Int → List Value} {w wr wd : World} {L N : Nat} {A : Nat → Option Addr} {n c : Nat → Nat} {k t g : Nat} {Y : Nat → List Value}
theorem flE1_step (hM : MkE M q) (h : FlE T q SL wr L N A n c Y) (hY : ∀ j, j < k → Y j = marksE M j (n j)) (ht : (Y k).take (t * q) = marksE M k t) (hT : Turned (FlEW N A) w wr) (hk : k < N) (hA : A k = some ⟨g, 0, none⟩) (hlt : t < n k) (hd : Turned (fun _ => False) wr wd) :
    FlE1I T q SL M w L N A n c k (.int .i64 ((t + 1 : Nat) : Int)) (setsW wd g (t * q) (M k t)) := by
  have hl := (h.own k hk).len
  refine ⟨t + 1, by omega, rfl, _, (h.fresh hd).sets hk hA (t * q) (M k t), fun j hj => ?_, ?_, (hT.trans (W := FlEW N A) hd (fun _ e => e) (fun _ e => e.elim)).sets _ _ (.inl ⟨k, hk, hA⟩)⟩
  · rw [if_neg (by omega)]
    exact hY j hj
  · simp only [if_true]
    have hle : (t + 1) * q ≤ n k * q := Nat.mul_le_mul_right _ hlt
    have he : (t + 1) * q = t * q + (M k t).length := by rw [hM.len, Nat.succ_mul]
    rw [he] at hle ⊢
    rw [take_setsL _ _ _ (by rw [hl]; exact hle), ht, ← marksE_succ]
theorem flE1_next (h : FlE T q SL wr L N A n c Y) (hY : ∀ j, j < k → Y j = marksE M j (n j)) (ht : (Y k).take (n k * q) = marksE M k (n k)) (hT : Turned (FlEW N A) w wr) (hk : k < N) :
    FlE1R T q SL M w L N A n c (.int .i64 ((k + 1 : Nat) : Int)) wr := by
  refine ⟨k + 1, hk, rfl, Y, h, fun j hj => ?_, hT⟩
  by_cases e : j = k
  · subst e
    rw [List.take_of_length_le (by rw [(h.own j hk).len]; exact Nat.le_refl _)] at ht
    exact ht
  · exact hY j (by omega)
end
def flEM (M : Int → Int → List Value) (n : Nat → Nat) (j : Nat) : List Value := marksE M j (n j)
/-! Beside the rows, all marked: block G, whose first k places hold rows grown by 64. -/
structure GsE (T q SL : Nat) (M : Int → Int → List Value) (w0 wr : World) (L N : Nat) (A : Nat → Option Addr) (n c : Nat → Nat) (G k : Nat) (B : Nat → Option Addr) (d : Nat → Nat) (X : Nat → List Value) : Prop where
  fl : FlE T q SL wr L N A n c (flEM M n)
  cells : ∃ cs, Blk wr G SL cs ∧ cs.size = N ∧ ∀ j, j < k → cs[j]? = some (.slice (B j) (n j + 64) (d j))
  own : ∀ j, j < k → OwnE wr T q (B j) (n j + 64) (d j) (X j)
  gl : L < G
  g0 : w0.heap.size ≤ G
  ap : ∀ j i, j < k → i < N → i ≠ j → ∀ g, B j = some ⟨g, 0, none⟩ → A i ≠ some ⟨g, 0, none⟩
  ap2 : ∀ j i, j < k → i < k → i ≠ j → ∀ g, B j = some ⟨g, 0, none⟩ → B i ≠ some ⟨g, 0, none⟩
  tr : Turned (FlEW N A) w0 wr
section
variable {T q SL : Nat} {M : Int → Int → List Value} {w0 wr w' : World} {L N : Nat} {A : Nat → Option Addr} {n c : Nat → Nat} {G k : Nat} {B : Nat → Option Addr} {d : Nat → Nat} {X : Nat → List Value}
theorem GsE.start (h : FlE T q SL wr L N A n c (flEM M n)) {cs : Array Value} (hb : Blk wr G SL cs) (hs : cs.size = N) (gl : L < G) (g0 : w0.heap.size ≤ G) (tr : Turned (FlEW N A) w0 wr) : GsE T q SL M w0 wr L N A n c G 0 B d X :=
  ⟨h, ⟨cs, hb, hs, fun j hj => absurd hj (by omega)⟩, fun j hj => absurd hj (by omega), gl, g0, fun j _ hj => absurd hj (by omega), fun j _ hj => absurd hj (by omega), tr⟩
theorem GsE.again (h : GsE T q SL M w0 wr L N A n c G k B d X) {B' : Nat → Option Addr} {d' : Nat → Nat} {X' : Nat → List Value} : GsE T q SL M w0 wr L N A n c G 0 B' d' X' := by
  obtain ⟨cs, hb, hs, _⟩ := h.cells
  exact GsE.start h.fl hb hs h.gl h.g0 h.tr
theorem GsE.fresh (h : GsE T q SL M w0 wr L N A n c G k B d X) (ht : Turned (fun _ => False) wr w') : GsE T q SL M w0 w' L N A n c G k B d X := by
  obtain ⟨cs, hb, hs, hc⟩ := h.cells
  exact ⟨h.fl.fresh ht, ⟨cs, hb.turned ht (fun e => e), hs, hc⟩, fun j hj => (h.own j hj).fresh ht, h.gl, h.g0, h.ap, h.ap2, h.tr.trans ht (fun _ e => e) (fun _ e => e.elim)⟩
theorem GsE.frozen (h : GsE T q SL M w0 wr L N A n c G k B d X) (j : Nat) : wr.frozen? ⟨G, j, none⟩ = false := by
  obtain ⟨cs, hb, hs, _⟩ := h.cells
  exact hb.frozen j
theorem GsE.cell (h : GsE T q SL M w0 wr L N A n c G k B d X) {j : Nat} (hj : j < k) : wr.cell? ⟨G, j, none⟩ = some (.slice (B j) (n j + 64) (d j)) := by
  obtain ⟨cs, hb, hs, hc⟩ := h.cells
  rw [hb.cell]
  exact hc j hj
theorem GsE.next {wo : World} (h : GsE T q SL M w0 wo L N A n c G k B d X) (hk : k < N) {Bk : Option Addr} {dk : Nat} (ho : OwnE wr T q Bk (n k + 64) dk (X k)) (ha : OwnE wr T q (A k) (n k) (c k) (marksE M k (n k)))
    (hor : Bk = A k ∨ ∃ g, Bk = some ⟨g, 0, none⟩ ∧ wo.heap.size ≤ g) (ht : Turned (fun g => A k = some ⟨g, 0, none⟩) wo wr) :
    GsE T q SL M w0 (wr.setCell ⟨G, k, none⟩ (.slice Bk (n k + 64) dk)) L N A n c G (k + 1) (fun j => if j = k then Bk else B j) (fun j => if j = k then dk else d j) X := by
  obtain ⟨cs, hb, hs, hc⟩ := h.cells
  have hty := h.fl.ty
  have hGA : ∀ j, j < N → A j ≠ some ⟨G, 0, none⟩ := fun j hj e => (h.fl.own j hj).blk hb hty e rfl
  have hbr := hb.turned ht (hGA k hk)
  have hfl : FlE T q SL wr L N A n c (flEM M n) := (h.fl.one hk ht ha).congr (fun j hj => by
    by_cases e : j = k
    · subst e; simp [flEM]
    · simp [e])
  have hset := (Turned.refl (· = G) wr).setCell (p := ⟨G, k, none⟩) (.inl rfl) (.slice Bk (n k + 64) dk)
  have hBG : ∀ g, Bk = some ⟨g, 0, none⟩ → g ≠ G := fun g e => by
    rcases hor with e2 | ⟨g2, e2, e3⟩
    · rintro rfl
      exact hGA k hk (by rw [← e2, e])
    · have := hb.lt
      rw [e] at e2
      injection e2 with e2
      injection e2 with e2
      omega
  have hblt : ∀ j g, j < k → B j = some ⟨g, 0, none⟩ → g < wo.heap.size := fun j g hj e => (h.own j hj).lt e
  have halt : ∀ j g, j < N → A j = some ⟨g, 0, none⟩ → g < wo.heap.size := fun j g hj e => (h.fl.own j hj).lt e
  have hfar : ∀ j g, j < k → B j = some ⟨g, 0, none⟩ → Bk ≠ some ⟨g, 0, none⟩ := fun j g hj e e2 => by
    rcases hor with e3 | ⟨g2, e3, e4⟩
    · rw [e3] at e2
      exact h.ap j k hj hk (by omega) g e e2
    · rw [e3] at e2
      injection e2 with e2
      injection e2 with e2
      have := hblt j g hj e
      omega
  refine ⟨hfl.turned hset (fun e => by have := h.gl; omega) (fun j g hj e e2 => hGA j hj (by rw [← e2]; exact e)), ⟨_, hbr.set_ k _, by simp [hs], fun j hj => ?_⟩, fun j hj => ?_, h.gl, h.g0, fun j i hj hi hne g e => ?_, fun j i hj hi hne g e => ?_, ?_⟩
  · by_cases e : j = k
    · subst e
      simp [hs, hk]
    · simp only [if_neg e]
      rw [Array.getElem?_setIfInBounds_ne (by omega)]
      exact hc j (by omega)
  · by_cases e : j = k
    · subst e
      simp only [if_true]
      exact ho.turned hset (fun g e => hBG g e)
    · simp only [if_neg e]
      refine ((h.own j (by omega)).turned ht (fun g e1 e2 => h.ap j k (by omega) hk (by omega) g e1 e2)).turned hset (fun g e1 e2 => ?_)
      exact (h.own j (by omega)).blk hb hty e1 e2
  · by_cases e' : j = k
    · subst e'
      simp only [if_true] at e
      intro e3
      rcases hor with e4 | ⟨g2, e4, e5⟩
      · rw [e4] at e
        exact h.fl.apart j i hk hi (by omega) g e e3
      · rw [e4] at e
        injection e with e
        injection e with e
        have := halt i g hi e3
        omega
    · simp only [if_neg e'] at e
      exact h.ap j i (by omega) hi hne g e
  · by_cases e1 : j = k
    · subst e1
      simp only [if_true] at e
      simp only [if_neg hne]
      intro e2
      exact hfar i g (by omega) e2 e
    · simp only [if_neg e1] at e
      by_cases e2 : i = k
      · subst e2
        simp only [if_true]
        exact hfar j g (by omega) e
      · simp only [if_neg e2]
        exact h.ap2 j i (by omega) (by omega) hne g e
  · refine (h.tr.trans (W := FlEW N A) ht (fun _ e => e) (fun g e => .inl ⟨k, hk, e⟩)).setCell (.inr h.g0) _
end
def GsER (T q SL : Nat) (M : Int → Int → List Value) (w0 : World) (L N : Nat) (A : Nat → Option Addr) (n c : Nat → Nat) (G : Nat) (X : Nat → List Value) (i : Value) (wr : World) : Prop := ∃ k : Nat, k ≤ N ∧ i = .int .i64 k ∧ ∃ B d, GsE T q SL M w0 wr L N A n c G k B d X
/-- One row is grown. -/
structure GrEI (T q : Nat) (M : Int → Int → List Value) (wo wr : World) (k nk ck : Nat) (Ak : Option Addr) (t : Nat) (B : Option Addr) (d : Nat) : Prop where
  own : OwnE wr T q B (nk + t) d (marksE M k (nk + t))
  old : OwnE wr T q Ak nk ck (marksE M k nk)
  at_ : (B = Ak ∧ d = ck) ∨ ∃ g, B = some ⟨g, 0, none⟩ ∧ wo.heap.size ≤ g
  tr : Turned (fun g => Ak = some ⟨g, 0, none⟩) wo wr
def GrER (T q : Nat) (M : Int → Int → List Value) (wo : World) (k nk ck : Nat) (Ak : Option Addr) (v i : Value) (wr : World) : Prop := ∃ t : Nat, t ≤ 64 ∧ i = .int .i64 t ∧ ∃ B d, v = .slice B (nk + t) d ∧ GrEI T q M wo wr k nk ck Ak t B d
theorem GrEI.step {T q : Nat} {M : Int → Int → List Value} {wo wr w1 w' : World} {k nk ck t d c' m : Nat} {Ak B A' : Option Addr} {ys : List Value} (hM : MkE M q) (h0 : OwnE wo T q Ak nk ck (marksE M k nk)) (h : GrEI T q M wo wr k nk ck Ak t B d) (h1 : Turned (fun _ => False) wr w1) (ho : OwnE w' T q A' (nk + t + m) c' (marksE M k (nk + t) ++ ys))
    (hor : App2 w1 w' B A' d c') :
    OwnE w' T q Ak nk ck (marksE M k nk) ∧ ((A' = Ak ∧ c' = ck) ∨ ∃ g, A' = some ⟨g, 0, none⟩ ∧ wo.heap.size ≤ g) ∧ Turned (fun g => Ak = some ⟨g, 0, none⟩) wo w' := by
  have hT1 := h.tr.trans (W := fun g => Ak = some ⟨g, 0, none⟩) h1 (fun _ e => e) (fun _ e => e.elim)
  have hA1 := h.old.turned h1 (fun _ _ e => e)
  rcases hor with ⟨rfl, rfl, hne, ht⟩ | ⟨rfl, ht⟩
  · rcases h.at_ with ⟨rfl, rfl⟩ | ⟨g, rfl, hg⟩
    · refine ⟨?_, .inl ⟨rfl, rfl⟩, hT1.trans ht (fun _ e => e) (fun _ e => .inl e)⟩
      have := ho.take (m := nk) (by omega) hne
      rw [List.take_append_of_le_length (by rw [marksE_length hM]; exact Nat.mul_le_mul_right _ (by omega)), marksE_take hM _ _ _ (by omega)] at this
      exact this
    · refine ⟨hA1.turned ht (fun g' e e2 => ?_), .inr ⟨g, rfl, hg⟩, hT1.trans ht (fun _ e => e) (fun g' e => .inr ?_)⟩
      · have := h0.lt e
        injection e2 with e2
        injection e2 with e2
        omega
      · injection e with e
        injection e with e
        omega
  · refine ⟨hA1.turned ht (fun _ _ e => e), .inr ⟨_, rfl, Nat.le_trans h.tr.size h1.size⟩, hT1.trans ht (fun _ e => e) (fun _ e => e.elim)⟩
/-- A row of 64 that is filled. -/
def FiER (T q : Nat) (M : Int → Int → List Value) (w0 : World) (g : Nat) (k : Int) (i : Value) (wr : World) : Prop := ∃ t : Nat, t ≤ 64 ∧ i = .int .i64 t ∧ ∃ ys, RowE wr T q g 64 64 ys ∧ ys.take (t * q) = marksE M k t ∧ Turned (fun _ => False) w0 wr
theorem FiER.step {T q : Nat} {M : Int → Int → List Value} {w0 wr wd : World} {g t : Nat} {k : Int} {ys : List Value} (hM : MkE M q) (hr : RowE wr T q g 64 64 ys) (ht : ys.take (t * q) = marksE M k t) (hT : Turned (fun _ => False) w0 wr) (hg : w0.heap.size ≤ g) (hlt : t < 64) (hd : Turned (fun _ => False) wr wd) :
    FiER T q M w0 g k (.int .i64 ((t + 1 : Nat) : Int)) (setsW wd g (t * q) (M k t)) := by
  refine ⟨t + 1, hlt, rfl, _, (hr.fresh hd).sets (M k t) (t * q), ?_, (hT.and_ hd).sets _ _ (.inr hg)⟩
  have hle : (t + 1) * q ≤ 64 * q := Nat.mul_le_mul_right _ hlt
  have he : (t + 1) * q = t * q + (M k t).length := by rw [hM.len, Nat.succ_mul]
  rw [he] at hle ⊢
  rw [take_setsL _ _ _ (by rw [hr.len]; exact hle), ht, ← marksE_succ]
def flEX (M : Int → Int → List Value) (n : Nat → Nat) (N j : Nat) : List Value := marksE M j (n j) ++ marksE M ((j : Int) + (N : Int)) 64
def TrER (n : Nat) (w : World) (i : Value) (wr : World) : Prop := ∃ j : Nat, j ≤ n ∧ i = .int .i64 j ∧ Turned (fun _ => False) w wr
end Go.Proofs.YtijmfglgeaaoaaaGreatDoor

