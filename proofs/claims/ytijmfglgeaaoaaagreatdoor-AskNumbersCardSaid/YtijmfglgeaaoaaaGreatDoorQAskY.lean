/-
  What the loop of the document's Get (storemanref13) keeps. No condition: laws over any world.
-/
import Derived.Test.YtijmfglgeaaoaaaGreatDoorQAskT
import Derived.Test.YtijmfglgeaaoaaaGreatDoorQAskI
namespace Go.Proofs.YtijmfglgeaaoaaaGreatDoor
open Go.RowKit Go.Maps
set_option linter.unusedVariables false
set_option linter.unusedSimpArgs false

/-- What the loop of the document's Get keeps. -/
structure DGt (A : Option Addr) (n c : Nat) (zs : List Int) (w : World) (r br bx : Nat) (x : AskV) (S : AskS) (s : Option (List Int)) (pz : Nat) (W : World) : Prop where
  get : DRd A n c zs w.heap.size r s pz W
  aa : AskAt W bx x S
  own : AskOwn W w.heap.size x S
  res : Blk W br 29 (askC AskV.zero AskS.nil)
  ok : x.Ok
  xb : w.heap.size ≤ bx
  rx : br ≠ bx
  t : Turned (fun _ => False) w W
section
variable {A : Option Addr} {n c : Nat} {zs : List Int} {w : World} {r br bx : Nat} {x : AskV} {S : AskS} {s : Option (List Int)} {pz : Nat} {W W' : World}
theorem DGt.fresh (h : DGt A n c zs w r br bx x S s pz W) (ht : Turned (fun _ => False) W W') : DGt A n c zs w r br bx x S s pz W' :=
  ⟨h.get.fresh ht, h.aa.turned ht (fun e => e), h.own.fresh ht, h.res.turned ht (fun e => e), h.ok, h.xb, h.rx, h.t.and_ ht⟩
/-- The reader has turned. -/
theorem DGt.tk {s' : Option (List Int)} {pz' : Nat} (h : DGt A n c zs w r br bx x S s pz W) (hg : DRd A n c zs w.heap.size r s' pz' W') (ht : Turned (· = r) W W') : DGt A n c zs w r br bx x S s' pz' W' := by
  have hr := h.get.blk
  have hb1 := h.get.b1
  exact ⟨hg, h.aa.turned ht (fun e => Blk.ne_ h.aa hr (by decide) e), ⟨h.own.parts.turned ht (fun g e e2 => h.own.parts.blk hr (by decide) e e2), h.own.others.turned ht (fun g e e2 => h.own.others.blk hr (by decide) e e2), h.own.pB, h.own.oB⟩, h.res.turned ht (fun e => Blk.ne_ h.res hr (by decide) e), h.ok, h.xb, h.rx, h.t.trans (W := fun _ => False) ht (fun _ e => e) (fun i e => .inr (by omega))⟩
/-- A field is stored. -/
theorem DGt.store {x' : AskV} {S' : AskS} (h : DGt A n c zs w r br bx x S s pz W) (i : Nat) (v : Value) (hx : (askC x S).setIfInBounds i v = askC x' S') (hp : AskOwn W w.heap.size x' S') (hk : x'.Ok) : DGt A n c zs w r br bx x' S' s pz (W.setCell ⟨bx, i, none⟩ v) := by
  have tS : Turned (· = bx) W (W.setCell ⟨bx, i, none⟩ v) := (Turned.refl (· = bx) W).setCell (p := ⟨bx, i, none⟩) (.inl rfl) v
  have hxb := h.xb
  have g' := h.get.turned tS (fun j e => by
    subst e
    exact ⟨Blk.ne_ h.aa h.get.blk (by decide), hxb⟩)
  refine ⟨g', by have := Blk.set_ h.aa i v; rw [hx] at this; exact this, ⟨hp.parts.turned tS (fun g e e2 => hp.parts.blk h.aa (by decide) e e2), hp.others.turned tS (fun g e e2 => hp.others.blk h.aa (by decide) e e2), hp.pB, hp.oB⟩, h.res.turned tS h.rx, hk, h.xb, h.rx, h.t.trans (W := fun _ => False) tS (fun _ e => e) (fun j e => .inr (by subst e; exact hxb))⟩
/-- A list has grown: its new slice is stored. -/
theorem DGt.grow {V : Nat → Prop} {x' : AskV} {S' : AskS} (h : DGt A n c zs w r br bx x S s pz W) (ht : Turned V W W') (hV : ∀ i, V i → S.P.A = some ⟨i, 0, none⟩ ∨ S.O.A = some ⟨i, 0, none⟩) (i : Nat) (v : Value) (hx : (askC x S).setIfInBounds i v = askC x' S') (hp : AskOwn W' w.heap.size x' S') (hk : x'.Ok) : DGt A n c zs w r br bx x' S' s pz (W'.setCell ⟨bx, i, none⟩ v) := by
  have hVb : ∀ {g : Nat} {T : TypeId} {cs : Array Value}, Blk W g T cs → T ≠ 55 → T ≠ 9 → ¬ V g := fun hb h1 h2 e => by
    rcases hV _ e with e | e
    · exact h.own.parts.blk hb h1 e rfl
    · exact h.own.others.blk hb h2 e rfl
  have hVB : ∀ i, V i → w.heap.size ≤ i := fun i e => by
    rcases hV i e with e | e
    · exact h.own.pB i e
    · exact h.own.oB i e
  have g' := h.get.turned ht (fun j e => ⟨fun e2 => hVb h.get.blk (by decide) (by decide) (e2 ▸ e), hVB j e⟩)
  have aa' := h.aa.turned ht (hVb h.aa (by decide) (by decide))
  have res' := h.res.turned ht (hVb h.res (by decide) (by decide))
  have t' := h.t.trans (W := fun _ => False) ht (fun _ e => e) (fun i e => .inr (hVB i e))
  have tS : Turned (· = bx) W' (W'.setCell ⟨bx, i, none⟩ v) := (Turned.refl (· = bx) W').setCell (p := ⟨bx, i, none⟩) (.inl rfl) v
  have hxb := h.xb
  have g2 := g'.turned tS (fun j e => by
    subst e
    exact ⟨Blk.ne_ aa' g'.blk (by decide), hxb⟩)
  refine ⟨g2, by have := Blk.set_ aa' i v; rw [hx] at this; exact this, ⟨hp.parts.turned tS (fun g e e2 => hp.parts.blk aa' (by decide) e e2), hp.others.turned tS (fun g e e2 => hp.others.blk aa' (by decide) e e2), hp.pB, hp.oB⟩, res'.turned tS h.rx, hk, h.xb, h.rx, t'.trans (W := fun _ => False) tS (fun _ e => e) (fun j e => .inr (by subst e; exact hxb))⟩
theorem DGt.bytes (h : DGt A n c zs w r br bx x S s pz W) (hb : ∀ z ∈ zs, isByte z) : BytesO s := h.get.bytes hb
end
def DGRel (A : Option Addr) (n c : Nat) (zs : List Int) (w : World) (r br bx : Nat) (f : List Nat) (i : Value) (wr : World) : Prop :=
  ∃ (pos : Nat) (x : AskV) (S : AskS) (s : Option (List Int)) (pz : Nat), pos ≤ f.length ∧ i = .int .i64 (pos : Int) ∧ DGt A n c zs w r br bx x S s pz wr ∧ (f.take pos).foldl decF (startA (some zs)) = (x, s)
theorem DGRel.step {A : Option Addr} {n c : Nat} {zs : List Int} {w : World} {r br bx pos k : Nat} {f : List Nat} {x x' : AskV} {S' : AskS} {s s' : Option (List Int)} {pz' : Nat} {W : World} (hp : pos < f.length) (ht : f.take (pos + 1) = f.take pos ++ [k]) (hx : (f.take pos).foldl decF (startA (some zs)) = (x, s)) (hd : decF (x, s) k = (x', s'))
    (h : DGt A n c zs w r br bx x' S' s' pz' W) : DGRel A n c zs w r br bx f (.int .i64 ((pos + 1 : Nat) : Int)) W :=
  ⟨pos + 1, x', S', s', pz', hp, rfl, h, by rw [ht, List.foldl_append, hx]; exact hd⟩
def DGLRel {α : Type} (A : Option Addr) (n c : Nat) (zs : List Int) (w : World) (r br bx : Nat) (mk : List α → AskV) (g1 : Nat → Option (List Int) → List α) (g2 : Nat → Option (List Int) → Option (List Int)) (k0 : Nat) (s0 : Option (List Int)) (i : Value) (wr : World) : Prop :=
  ∃ (l : List α) (k : Nat) (S : AskS) (s : Option (List Int)) (pz : Nat), i = .int .i64 (k : Int) ∧ DGt A n c zs w r br bx (mk l) S s pz wr ∧ (g1 k0 s0, g2 k0 s0) = (l ++ g1 k s, g2 k s) ∧ l.length + k ≤ 255
end Go.Proofs.YtijmfglgeaaoaaaGreatDoor

