/-
  The program's reader takes a field of a command: what it keeps, and the nine letters. Conditions: the library's variables hold what their initialisers lay; at most 1000000 words.
-/
import Derived.Test.YtglojnmcbochaaaGreatDoorRRdA
import Derived.Test.YtglojnmcbochaaaGreatDoorRAskH
import Derived.Test.YtglojnmcbochaaaGreatDoorRAskG
import Derived.Test.YtglojnmcbochaaaGreatDoorRRegD
namespace Go.Proofs.YtglojnmcbochaaaGreatDoor
open Go.RowKit Go.Maps
set_option linter.unusedVariables false
set_option linter.unusedSimpArgs false

/-- What a field is taken into: the reader, the command, its lists. -/
structure FldW (w0 : World) (B g bx : Nat) (x : AskV) (S : AskS) (ws : WS) (bad : Bool) (W : World) : Prop where
  base : Base w0 W g
  rd : RdB W B g ws bad
  aa : AskAt W bx x S
  own : AskOwn W B x S
  bB : B ≤ bx
  ok : x.Ok
  pN : x.parts.length + ws.length ≤ 1000000
  oN : x.others.length + ws.length ≤ 1000000
  bz : B ≤ W.heap.size
/-- What may turn. -/
def FldV (g bx : Nat) (S : AskS) (i : Nat) : Prop := i = g ∨ i = bx ∨ S.P.A = some ⟨i, 0, none⟩ ∨ S.O.A = some ⟨i, 0, none⟩
/-- The lists lie where they lay, or in new memory. -/
def FldM (S S' : AskS) (W : World) : Prop := (∀ i, S'.P.A = some ⟨i, 0, none⟩ → S.P.A = some ⟨i, 0, none⟩ ∨ W.heap.size ≤ i) ∧ ∀ i, S'.O.A = some ⟨i, 0, none⟩ → S.O.A = some ⟨i, 0, none⟩ ∨ W.heap.size ≤ i
theorem FldM.refl (S : AskS) (W : World) : FldM S S W := ⟨fun _ h => .inl h, fun _ h => .inl h⟩
theorem FldM.trans {S S' S2 : AskS} {W W' : World} (h : FldM S S' W) (k : FldM S' S2 W') (hz : W.heap.size ≤ W'.heap.size) : FldM S S2 W :=
  ⟨fun i e => by
    rcases k.1 i e with e | e
    · exact h.1 i e
    · exact .inr (by omega), fun i e => by
    rcases k.2 i e with e | e
    · exact h.2 i e
    · exact .inr (by omega)⟩
theorem FldM.v {S S' : AskS} {W : World} {g bx i : Nat} (h : FldM S S' W) (hv : FldV g bx S' i) : FldV g bx S i ∨ W.heap.size ≤ i := by
  rcases hv with e | e | e | e
  · exact .inl (.inl e)
  · exact .inl (.inr (.inl e))
  · rcases h.1 i e with e | e
    · exact .inl (.inr (.inr (.inl e)))
    · exact .inr e
  · rcases h.2 i e with e | e
    · exact .inl (.inr (.inr (.inr e)))
    · exact .inr e
section
variable {w0 W W' : World} {B g bx : Nat} {x x' : AskV} {S S' : AskS} {ws ws' : WS} {bad bad' : Bool}
theorem FldW.gx (h : FldW w0 B g bx x S ws bad W) : g ≠ bx := by
  have := h.rd.gB
  have := h.bB
  omega
/-- What turned was the reader's, or nothing. -/
theorem FldW.tk (h : FldW w0 B g bx x S ws bad W) (r : RdB W' B g ws' bad') (ht : Turned (· = g) W W') (hl : ws'.length ≤ ws.length) : FldW w0 B g bx x S ws' bad' W' := by
  have hg := h.rd.gB
  refine ⟨h.base.next ht, r, h.aa.turned ht h.gx.symm, ⟨h.own.parts.turned ht (fun i e k => ?_), h.own.others.turned ht (fun i e k => ?_), h.own.pB, h.own.oB⟩, h.bB, h.ok, by have := h.pN; omega, by have := h.oN; omega, Nat.le_trans h.bz ht.size⟩
  · have := h.own.pB i e; omega
  · have := h.own.oB i e; omega
theorem FldW.fresh (h : FldW w0 B g bx x S ws bad W) (ht : Turned (fun _ => False) W W') : FldW w0 B g bx x S ws bad W' := h.tk (h.rd.fresh ht) (turned_same ht) (Nat.le_refl _)
/-- A field is stored. -/
theorem FldW.store (h : FldW w0 B g bx x S ws bad W) (i : Nat) (v : Value) (hx : (askC x S).setIfInBounds i v = askC x' S') (hp : AskOwn W B x' S') (hk : x'.Ok) (hpN : x'.parts.length + ws.length ≤ 1000000) (hoN : x'.others.length + ws.length ≤ 1000000) : FldW w0 B g bx x' S' ws bad (W.setCell ⟨bx, i, none⟩ v) := by
  have tS : Turned (· = bx) W (W.setCell ⟨bx, i, none⟩ v) := turned_one _ _ _ _
  have hB := h.bB
  refine ⟨⟨h.base.vars, h.base.t.trans tS (fun _ e => e) (fun j e => .inr (by subst e; have := h.rd.gB; have := h.base.g; omega)), h.base.g⟩, h.rd.turned tS (fun j e => e ▸ hB), by have := Blk.set_ h.aa i v; rw [hx] at this; exact this,
    ⟨hp.parts.turned tS (fun j e e2 => hp.parts.blk h.aa (by decide) e e2), hp.others.turned tS (fun j e e2 => hp.others.blk h.aa (by decide) e e2), hp.pB, hp.oB⟩, h.bB, hk, hpN, hoN, Nat.le_trans h.bz tS.size⟩
/-- A list has grown: its new slice is stored. -/
theorem FldW.grow {V : Nat → Prop} (h : FldW w0 B g bx x S ws bad W) (ht : Turned V W W') (hV : ∀ i, V i → S.P.A = some ⟨i, 0, none⟩ ∨ S.O.A = some ⟨i, 0, none⟩) (i : Nat) (v : Value) (hx : (askC x S).setIfInBounds i v = askC x' S') (hp : AskOwn W' B x' S') (hk : x'.Ok) (hpN : x'.parts.length + ws.length ≤ 1000000) (hoN : x'.others.length + ws.length ≤ 1000000) : FldW w0 B g bx x' S' ws bad (W'.setCell ⟨bx, i, none⟩ v) := by
  have hVB : ∀ i, V i → B ≤ i := fun i e => by
    rcases hV i e with e | e
    · exact h.own.pB i e
    · exact h.own.oB i e
  have hVx : ¬ V bx := fun e => by
    rcases hV _ e with e | e
    · exact h.own.parts.blk h.aa (by decide) e rfl
    · exact h.own.others.blk h.aa (by decide) e rfl
  have hB := h.bB
  have aa' := h.aa.turned ht hVx
  have tS : Turned (· = bx) W' (W'.setCell ⟨bx, i, none⟩ v) := turned_one _ _ _ _
  have b0 : w0.heap.size ≤ B := by have := h.rd.gB; have := h.base.g; omega
  refine ⟨⟨h.base.vars, (h.base.t.trans ht (fun _ e => e) (fun j e => .inr (Nat.le_trans b0 (hVB j e)))).trans tS (fun _ e => e) (fun j e => .inr (by subst e; omega)), h.base.g⟩, (h.rd.turned ht hVB).turned tS (fun j e => e ▸ hB), by have := Blk.set_ aa' i v; rw [hx] at this; exact this,
    ⟨hp.parts.turned tS (fun j e e2 => hp.parts.blk aa' (by decide) e e2), hp.others.turned tS (fun j e e2 => hp.others.blk aa' (by decide) e e2), hp.pB, hp.oB⟩, h.bB, hk, hpN, hoN, Nat.le_trans h.bz (Nat.le_trans ht.size tS.size)⟩
end
def FldPost (w0 : World) (B g bx : Nat) (x : AskV) (S : AskS) (ws : WS) (bad : Bool) (c : Nat) (W : World) (e : Ending) (W' : World) : Prop :=
  e = .returned (.tuple #[]) ∧ ∃ S', FldW w0 B g bx (fieldP (x, ws, bad) c).1 S' (fieldP (x, ws, bad) c).2.1 (fieldP (x, ws, bad) c).2.2 W' ∧ Turned (FldV g bx S) W W' ∧ FldM S S' W
theorem FldPost.of {w0 : World} {B g bx c : Nat} {x x' : AskV} {S S' : AskS} {ws ws' : WS} {bad bad' : Bool} {W W' : World} (hf : fieldP (x, ws, bad) c = (x', ws', bad')) (h : FldW w0 B g bx x' S' ws' bad' W') (ht : Turned (FldV g bx S) W W') (hm : FldM S S' W) : ∃ S', FldW w0 B g bx (fieldP (x, ws, bad) c).1 S' (fieldP (x, ws, bad) c).2.1 (fieldP (x, ws, bad) c).2.2 W' ∧ Turned (FldV g bx S) W W' ∧ FldM S S' W := by
  rw [hf]
  exact ⟨S', h, ht, hm⟩
theorem turned_gx {W W2 : World} {g bx : Nat} (S : AskS) (h : Turned (· = g) W W2) (i : Nat) (v : Value) : Turned (FldV g bx S) W (W2.setCell ⟨bx, i, none⟩ v) :=
  (h.mono (fun j e => .inl (.inl e))).setCell (p := ⟨bx, i, none⟩) (.inl (.inr (.inl rfl))) v
theorem numV_64 (ws : WS) : I64 (numV ws) := numL_64 _
theorem headD_ok {w : World} {B g : Nat} {ws : WS} {bad : Bool} (h : RdB w B g ws bad) : strOk (ws.headD []) := by
  have := h.head
  unfold lenOk at this
  unfold strOk
  omega
theorem tail_le (ws : WS) : ws.tail.length ≤ ws.length := by rw [List.length_tail]; omega
end Go.Proofs.YtglojnmcbochaaaGreatDoor

