/-
  The program's reader of words: what its memory holds; word, number, session. Conditions: the library's variables hold what their initialisers lay.
-/
import Derived.Test.YtglojnmcbochaaaGreatDoorTLnsP
import Derived.Test.YtglojnmcbochaaaGreatDoorTCodQ
import Derived.Test.YtglojnmcbochaaaGreatDoorTRdP
namespace Go.Proofs.YtglojnmcbochaaaGreatDoor
open Go.RowKit Go.Maps
set_option linter.unusedVariables false
set_option linter.unusedSimpArgs false

def lenOk (l : List UInt8) : Prop := l.length ≤ 2000000
/-- A reader at g: its words, whether one was none. -/
def RdB (w : World) (B g : Nat) (ws : WS) (bad : Bool) : Prop :=
  ∃ s : Sl, Blk w g 69 #[.slice s.A s.n s.c, .bool bad] ∧ SlT w s ws ∧ (∀ x ∈ ws, lenOk x) ∧ (∀ b o, s.A = some ⟨b, o, none⟩ → b ≠ g ∧ b < B) ∧ g < B
/-- What is left of a slice of texts behind its first one. -/
theorem SlT.tail {w : World} {b off n c : Nat} {x : List UInt8} {ws : WS} (h : SlT w ⟨some ⟨b, off, none⟩, n, c⟩ (x :: ws)) : SlT w ⟨some ⟨b, off + 1, none⟩, n - 1, c - 1⟩ ws := by
  have hl := h.len
  have hle := h.le
  have hm := h.max
  simp only [List.length_cons] at hl hle hm
  refine ⟨⟨by rw [textC_length]; simp only; omega, fun h0 => ?_⟩, by simp only; omega, (fun e => by cases e), by simp only; omega, by simp only; omega⟩
  obtain ⟨b2, off2, e, hc⟩ := h.cel.cell (by simp only; omega)
  simp only at e
  injection e with e
  injection e with e1 e2
  subst e1 e2
  refine ⟨b, off + 1, rfl, fun j hj => ?_⟩
  have := hc (1 + j) (by simp only at hj ⊢; omega)
  rw [← Nat.add_assoc] at this
  rw [this, Nat.add_comm 1 j]
  rfl
theorem SlT.set_ {w : World} {s : Sl} {ws : WS} {g : Nat} (h : SlT w s ws) (hg : ∀ b o, s.A = some ⟨b, o, none⟩ → b ≠ g) (i : Nat) (v : Value) : SlT (w.setCell ⟨g, i, none⟩ v) s ws :=
  h.turned ((Turned.refl (· = g) w).setCell (.inl rfl) v) fun b o e => hg b o e
theorem turned_one (w : World) (g i : Nat) (v : Value) : Turned (· = g) w (w.setCell ⟨g, i, none⟩ v) := (Turned.refl (· = g) w).setCell (p := ⟨g, i, none⟩) (.inl rfl) v
def wordPost (B g : Nat) (ws : WS) (bad : Bool) (w : World) (e : Ending) (w' : World) : Prop :=
  e = .returned (.string ⟨(ws.headD []).toArray⟩) ∧ RdB w' B g ws.tail (bad || ws.isEmpty) ∧ Turned (· = g) w w'
set_option maxHeartbeats 1000000 in
theorem word_any (B g : Nat) (ws : WS) (bad : Bool) (w : World) (h : RdB w B g ws bad) : Calls Tryz.prog 63 #[.pointer (some ⟨g, 0, none⟩)] w (wordPost B g ws bad w) := by
  obtain ⟨⟨A, n, c⟩, h1, h2, h3, h4', h5⟩ := h
  simp only at h1 h4'
  have h4 : ∀ b o, A = some ⟨b, o, none⟩ → b ≠ g := fun b o e => (h4' b o e).1
  have h6 : ∀ b o, A = some ⟨b, o, none⟩ → b < B := fun b o e => (h4' b o e).2
  clear h4'
  have k0 : w.cell? ⟨g, 0, none⟩ = some (.slice A n c) := h1.cell 0
  have k3 : w.cell? ⟨g, 1, none⟩ = some (.bool bad) := h1.cell 1
  have k1 := h1.frozen 0
  have k2 := h1.frozen 1
  cases ws with
  | nil =>
    obtain rfl : n = 0 := h2.len.symm
    go_enter Tryz.func63, Tryz.ntmps63
    go_wp2
    go_ret
    refine ⟨rfl, ⟨⟨A, 0, c⟩, ?_, h2.set_ h4 1 _, h3, fun b o e => ⟨h4 b o e, h6 b o e⟩, h5⟩, turned_one w g 1 _⟩
    have := h1.set_ 1 (.bool true)
    simpa using this
  | cons x ws =>
    have hn : 0 < n := by have := h2.len; simp only [List.length_cons] at this; omega
    obtain ⟨b, off, hA, hc⟩ := h2.cells hn
    simp only at hA hc
    subst hA
    have hc0 := hc 0 hn
    simp only [Nat.add_zero, List.getD_cons_zero] at hc0
    have hb := h4 b off rfl
    have hbB := h6 b off rfl
    clear h6
    have hle := h2.le
    have hmx := h2.max
    unfold maxLen at hmx
    simp only at hle hmx
    go_enter Tryz.func63, Tryz.ntmps63
    go_wp2
    · go_ret
      have hz : c = 1 := by assumption
      have hn1 : n - 1 = 0 := by omega
      have hw0 : ws.length = 0 := by
        have := h2.len
        simp only [List.length_cons] at this
        omega
      obtain rfl := List.length_eq_zero_iff.1 hw0
      refine ⟨rfl, ⟨⟨some ⟨b, off, none⟩, n - 1, 0⟩, ?_, ⟨⟨by simp only; rw [hn1]; rfl, fun h0 => by simp only at h0; omega⟩, by simp only; rw [hn1]; rfl, (fun e => by cases e), by simp only; omega, Nat.zero_le _⟩, fun y hy => (by cases hy), fun b2 o2 e => by injection e with e; injection e with e; subst e; exact ⟨hb, hbB⟩, h5⟩, turned_one w g 0 _⟩
      have := h1.set_ 0 (.slice (some ⟨b, off, none⟩) (n - 1) 0)
      simpa using this
    · go_ret
      refine ⟨rfl, ⟨⟨some ⟨b, off + 1, none⟩, n - 1, c - 1⟩, ?_, (h2.tail).set_ (fun b2 o2 e => by injection e with e; injection e with e; subst e; exact hb) 0 _, fun y hy => h3 y (by simp only [List.tail_cons] at hy; simp [hy]), fun b2 o2 e => by injection e with e; injection e with e; subst e; exact ⟨hb, hbB⟩, h5⟩, turned_one w g 0 _⟩
      have := h1.set_ 0 (.slice (some ⟨b, off + 1, none⟩) (n - 1) (c - 1))
      simpa using this
theorem RdB.fresh {w w' : World} {B g : Nat} {ws : WS} {bad : Bool} (h : RdB w B g ws bad) (ht : Turned (fun _ => False) w w') : RdB w' B g ws bad := by
  obtain ⟨s, h1, h2, h3, h4, h5⟩ := h
  exact ⟨s, h1.turned ht (fun e => e), h2.fresh ht, h3, h4, h5⟩
theorem RdB.turned {W : Nat → Prop} {w w' : World} {B g : Nat} {ws : WS} {bad : Bool} (h : RdB w B g ws bad) (ht : Turned W w w') (hW : ∀ i, W i → B ≤ i) : RdB w' B g ws bad := by
  obtain ⟨s, h1, h2, h3, h4, h5⟩ := h
  exact ⟨s, h1.turned ht (fun e => by have := hW _ e; omega), h2.turned ht (fun b o e k => by have := hW _ k; have := (h4 b o e).2; omega), h3, h4, h5⟩
theorem RdB.gB {w : World} {B g : Nat} {ws : WS} {bad : Bool} (h : RdB w B g ws bad) : g < B := by
  obtain ⟨s, h1, h2, h3, h4, h5⟩ := h
  exact h5
theorem RdB.mem {w : World} {B g : Nat} {ws : WS} {bad : Bool} (h : RdB w B g ws bad) : ∀ x ∈ ws, lenOk x := by
  obtain ⟨s, h1, h2, h3, h4, h5⟩ := h
  exact h3
theorem RdB.bad_ {w : World} {B g : Nat} {ws : WS} {bad : Bool} (h : RdB w B g ws bad) (b : Bool) : RdB (w.setCell ⟨g, 1, none⟩ (.bool b)) B g ws b := by
  obtain ⟨s, h1, h2, h3, h4, h5⟩ := h
  refine ⟨s, ?_, h2.set_ (fun b o e => (h4 b o e).1) 1 _, h3, h4, h5⟩
  have := h1.set_ 1 (.bool b)
  simpa using this
theorem RdB.cells {w : World} {B g : Nat} {ws : WS} {bad : Bool} (h : RdB w B g ws bad) : w.cell? ⟨g, 1, none⟩ = some (.bool bad) ∧ w.frozen? ⟨g, 1, none⟩ = false := by
  obtain ⟨s, h1, _⟩ := h
  exact ⟨h1.cell 1, h1.frozen 1⟩
theorem RdB.head {w : World} {B g : Nat} {ws : WS} {bad : Bool} (h : RdB w B g ws bad) : lenOk (ws.headD []) := by
  obtain ⟨s, _, _, h3, _⟩ := h
  cases ws with
  | nil => unfold lenOk; simp
  | cons x ws => exact h3 x (by simp)
/-- The world from which a reader's steps count: the library's variables hold there, and the reader's block lies behind it. -/
structure Base (w0 w : World) (g : Nat) : Prop where
  vars : VarsOk w0
  t : Turned (fun _ => False) w0 w
  g : w0.heap.size ≤ g
theorem Base.next {w0 w w' : World} {g : Nat} (h : Base w0 w g) (ht : Turned (· = g) w w') : Base w0 w' g := ⟨h.vars, h.t.trans ht (fun _ e => e) (fun i e => .inr (by subst e; exact h.g)), h.g⟩
theorem Base.ok {w0 w : World} {g : Nat} (h : Base w0 w g) : VarsOk w := h.vars.turned h.t
theorem turned_same {w w' : World} {g : Nat} (h : Turned (fun _ => False) w w') : Turned (· = g) w w' := h.mono fun _ e => e.elim
theorem Turned.eq_ {a b c : World} {g : Nat} (h : Turned (· = g) a b) (k : Turned (· = g) b c) : Turned (· = g) a c := h.trans k (fun _ e => e) (fun _ e => .inl e)
def numbPost (B g : Nat) (ws : WS) (bad : Bool) (w : World) (e : Ending) (w' : World) : Prop :=
  e = .returned (.int .i64 (numV ws)) ∧ RdB w' B g ws.tail (nullB ws bad) ∧ Turned (· = g) w w'
set_option maxHeartbeats 1000000 in
theorem number_b (B g : Nat) (ws : WS) (bad : Bool) (w0 w : World) (h : RdB w B g ws bad) (hB : Base w0 w g) : Calls Tryz.prog 66 #[.pointer (some ⟨g, 0, none⟩)] w (numbPost B g ws bad w) := by
  have hlen := h.head
  unfold lenOk at hlen
  have hw := word_any B g ws bad w h
  unfold wordPost at hw
  have hnull : (bad || ws.isEmpty || !(numL (ws.headD [])).isSome) = nullB ws bad := by
    unfold nullB
    cases ws with
    | nil => simp [numL_nil]
    | cons x ws => simp
  unfold numbPost numV
  generalize nullB ws bad = nb at *
  generalize ws.headD [] = hd at *
  have hN := Lib.hid (fun (w1 : World) (hb : Base w0 w1 g) => number_any ⟨hd.toArray⟩ w1 hb.ok (by show hd.toArray.size ≤ _; rw [List.size_toArray]; omega))
  generalize ws.isEmpty = em at *
  generalize ws.tail = wt at *
  have hB' := Lib.hid hB
  have hw' := Lib.hid hw
  have hnull' := Lib.hid hnull
  clear h hB hlen hnull hw
  go_enter Tryz.func66, Tryz.ntmps66
  go_wp2_with fail
  refine hw'.out.mono ?_
  rintro e w1 ⟨rfl, R1, t1⟩
  have B1 := Lib.hid (hB'.out.next t1)
  have R1' := Lib.hid R1
  have t1' := Lib.hid t1
  clear R1 t1
  go_wp2_with fail
  refine (hN.out w1 B1.out).mono ?_
  rintro e w2 ⟨rfl, t2⟩
  have R2 := Lib.hid (R1'.out.fresh t2)
  have t2' := Lib.hid (t1'.out.eq_ (turned_same t2))
  clear t2
  have c2 := R2.out.cells.1
  have f2 := R2.out.cells.2
  have FI := Lib.hid (fun (b : Bool) (hb : b = nb) (w3 : World) (e : w3 = w2.setCell ⟨g, 1, none⟩ (.bool b)) => show RdB w3 B g wt nb ∧ Turned (· = g) w w3 from ⟨by
    subst hb e
    exact R2.out.bad_ _, by
    subst e
    exact t2'.out.eq_ (turned_one _ _ _ _)⟩)
  cases hno : numL hd with
  | none =>
    rw [hno] at hnull'
    cases hbe : (bad || em) with
    | true =>
      rw [hbe] at c2
      go_wp2
      all_goals
        go_ret
        exact ⟨by rw [hno]; rfl, FI.out true (by rw [← hnull'.out, hbe]; rfl) _ rfl⟩
    | false =>
      rw [hbe] at c2
      go_wp2
      all_goals
        go_ret
        exact ⟨by rw [hno]; rfl, FI.out true (by rw [← hnull'.out, hbe]; rfl) _ rfl⟩
  | some v =>
    rw [hno] at hnull'
    cases hbe : (bad || em) with
    | true =>
      rw [hbe] at c2
      go_wp2
      all_goals
        go_ret
        exact ⟨by rw [hno]; rfl, FI.out true (by rw [← hnull'.out, hbe]; rfl) _ rfl⟩
    | false =>
      rw [hbe] at c2
      go_wp2
      all_goals
        go_ret
        exact ⟨by rw [hno]; rfl, FI.out false (by rw [← hnull'.out, hbe]; rfl) _ rfl⟩
def sessPost (B g : Nat) (ws : WS) (bad : Bool) (w : World) (e : Ending) (w' : World) : Prop :=
  e = .returned (.int .i64 (numV ws)) ∧ RdB w' B g ws.tail (sessB ws bad) ∧ Turned (· = g) w w'
theorem numL_64 (l : List UInt8) : I64 ((numL l).getD 0) := by
  cases h : numL l with
  | none => unfold I64; decide
  | some v =>
    have := (numL_some h).2
    unfold int64 at this
    unfold I64
    simp only [Option.getD_some]
    omega
set_option maxHeartbeats 1000000 in
theorem session_b (B g : Nat) (ws : WS) (bad : Bool) (w0 w : World) (h : RdB w B g ws bad) (hB : Base w0 w g) : Calls Tryz.prog 64 #[.pointer (some ⟨g, 0, none⟩)] w (sessPost B g ws bad w) := by
  have hn := number_b B g ws bad w0 w h hB
  unfold numbPost numV at hn
  unfold sessPost sessB numV
  generalize nullB ws bad = nb at *
  have h64 := numL_64 (ws.headD [])
  generalize (numL (ws.headD [])).getD 0 = v at *
  generalize ws.tail = wt at *
  unfold I64 at h64
  have hn' := Lib.hid hn
  clear hn h hB
  go_enter Tryz.func64, Tryz.ntmps64
  go_wp2_with fail
  refine hn'.out.mono ?_
  rintro e w2 ⟨rfl, R2, t2⟩
  have R2' := Lib.hid R2
  have t2' := Lib.hid t2
  have c2 := R2.cells.1
  have f2 := R2.cells.2
  clear R2 t2
  have FI := Lib.hid (fun (b : Bool) (hb : b = (nb || decide (v < 0) || decide (4 ≤ v))) (w3 : World) (e : w3 = w2.setCell ⟨g, 1, none⟩ (.bool b)) => show RdB w3 B g wt (nb || decide (v < 0) || decide (4 ≤ v)) ∧ Turned (· = g) w w3 from ⟨by
    rw [← hb]
    subst e
    exact R2'.out.bad_ _, by
    subst e
    exact t2'.out.eq_ (turned_one _ _ _ _)⟩)
  cases nb with
  | true =>
    go_wp2
    all_goals
      go_ret
      exact ⟨rfl, FI.out true (by simp) _ rfl⟩
  | false =>
    by_cases h1 : v < 0
    · go_wp2
      all_goals
        go_ret
        exact ⟨rfl, FI.out true (by simp [h1]) _ rfl⟩
    · by_cases h2 : 4 ≤ v
      · go_wp2
        all_goals
          go_ret
          exact ⟨rfl, FI.out true (by simp [h2]) _ rfl⟩
      · go_wp2
        all_goals
          go_ret
          exact ⟨rfl, FI.out (decide (v < 0) || decide (4 ≤ v)) (by simp) _ rfl⟩
end Go.Proofs.YtglojnmcbochaaaGreatDoor

