/-
  ytglojnmcbochaaagreatdoor: laws and walks on the road to LinesTales, joined: AskH RdFh. Conditions stand at each theorem.
-/
import Derived.Test.YtglojnmcbochaaaGreatDoorTAskR
import Derived.Test.YtglojnmcbochaaaGreatDoorTRdA
namespace Go.Proofs.YtglojnmcbochaaaGreatDoor
open Go.RowKit Go.Maps
set_option linter.unusedVariables false
set_option linter.unusedSimpArgs false

/-! plain -/
/-! in memory -/
/-- A command whose lists lie in memory of their own, from block B on. -/
structure AskOwn (w : World) (B : Nat) (a : AskV) (S : AskS) : Prop where
  parts : OwnE w 62 2 S.P.A S.P.n S.P.c (partC a.parts)
  others : OwnE w 9 1 S.O.A S.O.n S.O.c (textC a.others)
  pB : ∀ g, S.P.A = some ⟨g, 0, none⟩ → B ≤ g
  oB : ∀ g, S.O.A = some ⟨g, 0, none⟩ → B ≤ g
theorem AskOwn.fresh {w w' : World} {B : Nat} {a : AskV} {S : AskS} (h : AskOwn w B a S) (ht : Turned (fun _ => False) w w') : AskOwn w' B a S := ⟨h.parts.fresh ht, h.others.fresh ht, h.pB, h.oB⟩
theorem AskOwn.is {w : World} {B : Nat} {a : AskV} {S : AskS} (h : AskOwn w B a S) : AskIs w a S := ⟨h.parts.slQ, h.others.slT⟩
/-- What Get's loop keeps. -/
structure GtW (A : Option Addr) (n c : Nat) (zs : List Int) (w : World) (bok bat bbx br bi bx pos : Nat) (f : List Nat) (x : AskV) (S : AskS) (s : Option (List Int)) (pz : Nat) (W : World) : Prop where
  get : GetW A n c zs w.heap.size bok bat bbx s pz W
  aa : AskAt W bx x S
  own : AskOwn W w.heap.size x S
  res : Blk W br 28 (askC AskV.zero AskS.nil)
  it : W.heap[bi]? = some (.stringIter (fBA f) pos)
  ok : x.Ok
  xb : w.heap.size ≤ bx
  rx : br ≠ bx
  t : Turned (fun _ => False) w W
section
variable {A : Option Addr} {n c : Nat} {zs : List Int} {w : World} {bok bat bbx br bi bx pos : Nat} {f : List Nat} {x : AskV} {S : AskS} {s : Option (List Int)} {pz : Nat} {W W' : World}
theorem blk_it {g k : Nat} {T : TypeId} {cs : Array Value} {b : ByteArray} {p : Nat} (h : Blk W g T cs) (hk : W.heap[k]? = some (.stringIter b p)) : g ≠ k := fun e => by
  subst e
  unfold Blk at h
  rw [h] at hk
  cases hk
theorem own_it {U q : Nat} {A : Option Addr} {n c k : Nat} {xs : List Value} {b : ByteArray} {p : Nat} (h : OwnE W U q A n c xs) (hk : W.heap[k]? = some (.stringIter b p)) : A ≠ some ⟨k, 0, none⟩ := fun e => by
  subst e
  obtain ⟨cs, hb, _⟩ := h.row.row
  exact blk_it hb hk rfl
theorem GtW.turned {V : Nat → Prop} (h : GtW A n c zs w bok bat bbx br bi bx pos f x S s pz W) (ht : Turned V W W') (hV : ∀ i, V i → w.heap.size ≤ i) (g' : GetW A n c zs w.heap.size bok bat bbx s pz W') (h1 : ¬ V bx) (h2 : ¬ V br) (h3 : ¬ V bi) (h4 : ∀ g, S.P.A = some ⟨g, 0, none⟩ → ¬ V g) (h5 : ∀ g, S.O.A = some ⟨g, 0, none⟩ → ¬ V g) :
    GtW A n c zs w bok bat bbx br bi bx pos f x S s pz W' :=
  ⟨g', h.aa.turned ht h1, ⟨h.own.parts.turned ht h4, h.own.others.turned ht h5, h.own.pB, h.own.oB⟩, h.res.turned ht h2, (ht.block bi (heap_lt h.it) h3).trans h.it, h.ok, h.xb, h.rx, h.t.trans ht (fun _ e => e) (fun i e => .inr (hV i e))⟩
theorem GtW.fresh (h : GtW A n c zs w bok bat bbx br bi bx pos f x S s pz W) (ht : Turned (fun _ => False) W W') : GtW A n c zs w bok bat bbx br bi bx pos f x S s pz W' :=
  h.turned ht (fun _ e => e.elim) (h.get.fresh ht) (fun e => e) (fun e => e) (fun e => e) (fun _ _ e => e) (fun _ _ e => e)
/-- The boxes have turned. -/
theorem GtW.tk {s' : Option (List Int)} {pz' : Nat} (h : GtW A n c zs w bok bat bbx br bi bx pos f x S s pz W) (hg : GetW A n c zs w.heap.size bok bat bbx s' pz' W') (ht : Turned (BoxT bok bat) W W') : GtW A n c zs w bok bat bbx br bi bx pos f x S s' pz' W' := by
  have hok := h.get.ok
  have hat := h.get.at_
  have n1 : ∀ {g : Nat} {T : TypeId} {cs : Array Value}, Blk W g T cs → T ≠ 4 → T ≠ 3 → ¬ BoxT bok bat g := fun hb h1 h2 e => by
    rcases e with e | e
    · exact Blk.ne_ hb hok h1 e
    · exact Blk.ne_ hb hat h2 e
  refine ⟨hg, h.aa.turned ht (n1 h.aa (by decide) (by decide)), ⟨h.own.parts.turned ht (fun g e e2 => ?_), h.own.others.turned ht (fun g e e2 => ?_), h.own.pB, h.own.oB⟩, h.res.turned ht (n1 h.res (by decide) (by decide)), (ht.block bi (heap_lt h.it) (fun e => ?_)).trans h.it, h.ok, h.xb, h.rx, h.t.trans ht (fun _ e => e) (fun i e => ?_)⟩
  · rcases e2 with e2 | e2
    · exact h.own.parts.blk hok (by decide) e e2
    · exact h.own.parts.blk hat (by decide) e e2
  · rcases e2 with e2 | e2
    · exact h.own.others.blk hok (by decide) e e2
    · exact h.own.others.blk hat (by decide) e e2
  · rcases e with e | e
    · exact blk_it hok h.it e.symm
    · exact blk_it hat h.it e.symm
  · have k1 := h.get.b1
    have k2 := h.get.b2
    rcases e with e | e <;> (right; omega)
theorem GtW.iter (h : GtW A n c zs w bok bat bbx br bi bx pos f x S s pz W) (h3 : w.heap.size ≤ bi) : GtW A n c zs w bok bat bbx br bi bx (pos + 1) f x S s pz (W.iterAt bi (fBA f) (pos + 1)) := by
  have tI : Turned (· = bi) W (W.iterAt bi (fBA f) (pos + 1)) := ⟨rfl, rfl, rfl, by simp [World.iterAt], fun i hi hn => by
    simp only [World.iterAt]
    rw [Array.getElem?_setIfInBounds_ne (fun e => hn e.symm)]⟩
  have g' := h.get.turned tI (fun i e => by
    subst e
    exact ⟨fun e => blk_it h.get.ok h.it e.symm, fun e => blk_it h.get.at_ h.it e.symm, fun e => blk_it h.get.bx h.it e.symm, h3⟩)
  exact ⟨g', h.aa.turned tI (blk_it h.aa h.it), ⟨h.own.parts.turned tI (fun g e e2 => own_it h.own.parts h.it (by rw [e, e2])), h.own.others.turned tI (fun g e e2 => own_it h.own.others h.it (by rw [e, e2])), h.own.pB, h.own.oB⟩, h.res.turned tI (blk_it h.res h.it), Lib.iterAt_heap _ _ _ _ _ h.it, h.ok, h.xb, h.rx, h.t.iterAt h3 _ _⟩
/-- A field is stored. -/
theorem GtW.store {x' : AskV} {S' : AskS} (h : GtW A n c zs w bok bat bbx br bi bx pos f x S s pz W) (i : Nat) (v : Value) (hx : (askC x S).setIfInBounds i v = askC x' S') (hp : AskOwn W w.heap.size x' S') (hk : x'.Ok) : GtW A n c zs w bok bat bbx br bi bx pos f x' S' s pz (W.setCell ⟨bx, i, none⟩ v) := by
  have tS : Turned (· = bx) W (W.setCell ⟨bx, i, none⟩ v) := (Turned.refl (· = bx) W).setCell (p := ⟨bx, i, none⟩) (.inl rfl) v
  have hxb := h.xb
  have g' := h.get.turned tS (fun j e => by
    subst e
    exact ⟨Blk.ne_ h.aa h.get.ok (by decide), Blk.ne_ h.aa h.get.at_ (by decide), Blk.ne_ h.aa h.get.bx (by decide), hxb⟩)
  refine ⟨g', by have := Blk.set_ h.aa i v; rw [hx] at this; exact this, ⟨hp.parts.turned tS (fun g e e2 => hp.parts.blk h.aa (by decide) e e2), hp.others.turned tS (fun g e e2 => hp.others.blk h.aa (by decide) e e2), hp.pB, hp.oB⟩, h.res.turned tS h.rx, (tS.block bi (heap_lt h.it) (fun e => blk_it h.aa h.it e.symm)).trans h.it, hk, h.xb, h.rx, h.t.trans tS (fun _ e => e) (fun j e => .inr (by subst e; exact hxb))⟩
/-- A list has grown: its new slice is stored. -/
theorem GtW.grow {V : Nat → Prop} {x' : AskV} {S' : AskS} (h : GtW A n c zs w bok bat bbx br bi bx pos f x S s pz W) (ht : Turned V W W') (hV : ∀ i, V i → S.P.A = some ⟨i, 0, none⟩ ∨ S.O.A = some ⟨i, 0, none⟩) (i : Nat) (v : Value) (hx : (askC x S).setIfInBounds i v = askC x' S') (hp : AskOwn W' w.heap.size x' S') (hk : x'.Ok) : GtW A n c zs w bok bat bbx br bi bx pos f x' S' s pz (W'.setCell ⟨bx, i, none⟩ v) := by
  have hVb : ∀ {g : Nat} {T : TypeId} {cs : Array Value}, Blk W g T cs → T ≠ 62 → T ≠ 9 → ¬ V g := fun hb h1 h2 e => by
    rcases hV _ e with e | e
    · exact h.own.parts.blk hb h1 e rfl
    · exact h.own.others.blk hb h2 e rfl
  have hVB : ∀ i, V i → w.heap.size ≤ i := fun i e => by
    rcases hV i e with e | e
    · exact h.own.pB i e
    · exact h.own.oB i e
  have hVi : ¬ V bi := fun e => by
    rcases hV _ e with e | e
    · exact own_it h.own.parts h.it e
    · exact own_it h.own.others h.it e
  have g' := h.get.turned ht (fun j e => ⟨fun e2 => hVb h.get.ok (by decide) (by decide) (e2 ▸ e), fun e2 => hVb h.get.at_ (by decide) (by decide) (e2 ▸ e), fun e2 => hVb h.get.bx (by decide) (by decide) (e2 ▸ e), hVB j e⟩)
  have aa' := h.aa.turned ht (hVb h.aa (by decide) (by decide))
  have res' := h.res.turned ht (hVb h.res (by decide) (by decide))
  have it' := (ht.block bi (heap_lt h.it) hVi).trans h.it
  have t' := h.t.trans ht (fun _ e => e) (fun i e => .inr (hVB i e))
  have tS : Turned (· = bx) W' (W'.setCell ⟨bx, i, none⟩ v) := (Turned.refl (· = bx) W').setCell (p := ⟨bx, i, none⟩) (.inl rfl) v
  have hxb := h.xb
  have g2 := g'.turned tS (fun j e => by
    subst e
    exact ⟨Blk.ne_ aa' g'.ok (by decide), Blk.ne_ aa' g'.at_ (by decide), Blk.ne_ aa' g'.bx (by decide), hxb⟩)
  refine ⟨g2, by have := Blk.set_ aa' i v; rw [hx] at this; exact this, ⟨hp.parts.turned tS (fun g e e2 => hp.parts.blk aa' (by decide) e e2), hp.others.turned tS (fun g e e2 => hp.others.blk aa' (by decide) e e2), hp.pB, hp.oB⟩, res'.turned tS h.rx, (tS.block bi (heap_lt it') (fun e => blk_it aa' it' e.symm)).trans it', hk, h.xb, h.rx, t'.trans tS (fun _ e => e) (fun j e => .inr (by subst e; exact hxb))⟩
theorem GtW.pos_ (h : GtW A n c zs w bok bat bbx br bi bx pos f x S s pz W) : W.iterPos bi = pos := by simp [World.iterPos, h.it]
theorem GtW.bytes (h : GtW A n c zs w bok bat bbx br bi bx pos f x S s pz W) (hb : ∀ z ∈ zs, isByte z) : BytesO s := fun ys e y hy => by
  rw [h.get.is_ ys e] at hy
  exact hb y (List.mem_of_mem_drop hy)
end
def GtRel (A : Option Addr) (n c : Nat) (zs : List Int) (w : World) (bok bat bbx br bi bx : Nat) (f : List Nat) (wr : World) : Prop :=
  ∃ (pos : Nat) (x : AskV) (S : AskS) (s : Option (List Int)) (pz : Nat), pos ≤ f.length ∧ GtW A n c zs w bok bat bbx br bi bx pos f x S s pz wr ∧ (f.take pos).foldl decF (startA (some zs)) = (x, s)
theorem GtRel.step {A : Option Addr} {n c : Nat} {zs : List Int} {w : World} {bok bat bbx br bi bx pos k : Nat} {f : List Nat} {x x' : AskV} {S' : AskS} {s s' : Option (List Int)} {pz' : Nat} {W : World} (hp : pos < f.length) (ht : f.take (pos + 1) = f.take pos ++ [k]) (hx : (f.take pos).foldl decF (startA (some zs)) = (x, s)) (hd : decF (x, s) k = (x', s'))
    (h : GtW A n c zs w bok bat bbx br bi bx (pos + 1) f x' S' s' pz' W) : GtRel A n c zs w bok bat bbx br bi bx f W ∧ W.iterPos bi = pos + 1 :=
  ⟨⟨pos + 1, x', S', s', pz', hp, h, by rw [ht, List.foldl_append, hx]; exact hd⟩, h.pos_⟩
end Go.Proofs.YtglojnmcbochaaaGreatDoor

namespace Go.Proofs.YtglojnmcbochaaaGreatDoor
open Go.RowKit Go.Maps
set_option linter.unusedVariables false
set_option linter.unusedSimpArgs false

/-- What a field is taken into: the reader, the command, its lists. -/
structure FldW (w0 : World) (B g bx : Nat) (x : AskV) (S : AskS) (ws : WS) (bad : Bool) (W : World) : Prop where
  base : Base w0 W g
  rd : RdB W B g ws bad
  aa : AskAt W bx x S
  own : AskOwn W B x S
  bB : B ≤ bx
  ok : x.Ok
  pN : x.parts.length + ws.length ≤ 1000000
  oN : x.others.length + ws.length ≤ 1000000
  bz : B ≤ W.heap.size
/-- What may turn. -/
def FldV (g bx : Nat) (S : AskS) (i : Nat) : Prop := i = g ∨ i = bx ∨ S.P.A = some ⟨i, 0, none⟩ ∨ S.O.A = some ⟨i, 0, none⟩
/-- The lists lie where they lay, or in new memory. -/
def FldM (S S' : AskS) (W : World) : Prop := (∀ i, S'.P.A = some ⟨i, 0, none⟩ → S.P.A = some ⟨i, 0, none⟩ ∨ W.heap.size ≤ i) ∧ ∀ i, S'.O.A = some ⟨i, 0, none⟩ → S.O.A = some ⟨i, 0, none⟩ ∨ W.heap.size ≤ i
theorem FldM.refl (S : AskS) (W : World) : FldM S S W := ⟨fun _ h => .inl h, fun _ h => .inl h⟩
theorem FldM.trans {S S' S2 : AskS} {W W' : World} (h : FldM S S' W) (k : FldM S' S2 W') (hz : W.heap.size ≤ W'.heap.size) : FldM S S2 W :=
  ⟨fun i e => by
    rcases k.1 i e with e | e
    · exact h.1 i e
    · exact .inr (by omega), fun i e => by
    rcases k.2 i e with e | e
    · exact h.2 i e
    · exact .inr (by omega)⟩
theorem FldM.v {S S' : AskS} {W : World} {g bx i : Nat} (h : FldM S S' W) (hv : FldV g bx S' i) : FldV g bx S i ∨ W.heap.size ≤ i := by
  rcases hv with e | e | e | e
  · exact .inl (.inl e)
  · exact .inl (.inr (.inl e))
  · rcases h.1 i e with e | e
    · exact .inl (.inr (.inr (.inl e)))
    · exact .inr e
  · rcases h.2 i e with e | e
    · exact .inl (.inr (.inr (.inr e)))
    · exact .inr e
section
variable {w0 W W' : World} {B g bx : Nat} {x x' : AskV} {S S' : AskS} {ws ws' : WS} {bad bad' : Bool}
theorem FldW.gx (h : FldW w0 B g bx x S ws bad W) : g ≠ bx := by
  have := h.rd.gB
  have := h.bB
  omega
/-- What turned was the reader's, or nothing. -/
theorem FldW.tk (h : FldW w0 B g bx x S ws bad W) (r : RdB W' B g ws' bad') (ht : Turned (· = g) W W') (hl : ws'.length ≤ ws.length) : FldW w0 B g bx x S ws' bad' W' := by
  have hg := h.rd.gB
  refine ⟨h.base.next ht, r, h.aa.turned ht h.gx.symm, ⟨h.own.parts.turned ht (fun i e k => ?_), h.own.others.turned ht (fun i e k => ?_), h.own.pB, h.own.oB⟩, h.bB, h.ok, by have := h.pN; omega, by have := h.oN; omega, Nat.le_trans h.bz ht.size⟩
  · have := h.own.pB i e; omega
  · have := h.own.oB i e; omega
theorem FldW.fresh (h : FldW w0 B g bx x S ws bad W) (ht : Turned (fun _ => False) W W') : FldW w0 B g bx x S ws bad W' := h.tk (h.rd.fresh ht) (turned_same ht) (Nat.le_refl _)
/-- A field is stored. -/
theorem FldW.store (h : FldW w0 B g bx x S ws bad W) (i : Nat) (v : Value) (hx : (askC x S).setIfInBounds i v = askC x' S') (hp : AskOwn W B x' S') (hk : x'.Ok) (hpN : x'.parts.length + ws.length ≤ 1000000) (hoN : x'.others.length + ws.length ≤ 1000000) : FldW w0 B g bx x' S' ws bad (W.setCell ⟨bx, i, none⟩ v) := by
  have tS : Turned (· = bx) W (W.setCell ⟨bx, i, none⟩ v) := turned_one _ _ _ _
  have hB := h.bB
  refine ⟨⟨h.base.vars, h.base.t.trans tS (fun _ e => e) (fun j e => .inr (by subst e; have := h.rd.gB; have := h.base.g; omega)), h.base.g⟩, h.rd.turned tS (fun j e => e ▸ hB), by have := Blk.set_ h.aa i v; rw [hx] at this; exact this,
    ⟨hp.parts.turned tS (fun j e e2 => hp.parts.blk h.aa (by decide) e e2), hp.others.turned tS (fun j e e2 => hp.others.blk h.aa (by decide) e e2), hp.pB, hp.oB⟩, h.bB, hk, hpN, hoN, Nat.le_trans h.bz tS.size⟩
/-- A list has grown: its new slice is stored. -/
theorem FldW.grow {V : Nat → Prop} (h : FldW w0 B g bx x S ws bad W) (ht : Turned V W W') (hV : ∀ i, V i → S.P.A = some ⟨i, 0, none⟩ ∨ S.O.A = some ⟨i, 0, none⟩) (i : Nat) (v : Value) (hx : (askC x S).setIfInBounds i v = askC x' S') (hp : AskOwn W' B x' S') (hk : x'.Ok) (hpN : x'.parts.length + ws.length ≤ 1000000) (hoN : x'.others.length + ws.length ≤ 1000000) : FldW w0 B g bx x' S' ws bad (W'.setCell ⟨bx, i, none⟩ v) := by
  have hVB : ∀ i, V i → B ≤ i := fun i e => by
    rcases hV i e with e | e
    · exact h.own.pB i e
    · exact h.own.oB i e
  have hVx : ¬ V bx := fun e => by
    rcases hV _ e with e | e
    · exact h.own.parts.blk h.aa (by decide) e rfl
    · exact h.own.others.blk h.aa (by decide) e rfl
  have hB := h.bB
  have aa' := h.aa.turned ht hVx
  have tS : Turned (· = bx) W' (W'.setCell ⟨bx, i, none⟩ v) := turned_one _ _ _ _
  have b0 : w0.heap.size ≤ B := by have := h.rd.gB; have := h.base.g; omega
  refine ⟨⟨h.base.vars, (h.base.t.trans ht (fun _ e => e) (fun j e => .inr (Nat.le_trans b0 (hVB j e)))).trans tS (fun _ e => e) (fun j e => .inr (by subst e; omega)), h.base.g⟩, (h.rd.turned ht hVB).turned tS (fun j e => e ▸ hB), by have := Blk.set_ aa' i v; rw [hx] at this; exact this,
    ⟨hp.parts.turned tS (fun j e e2 => hp.parts.blk aa' (by decide) e e2), hp.others.turned tS (fun j e e2 => hp.others.blk aa' (by decide) e e2), hp.pB, hp.oB⟩, h.bB, hk, hpN, hoN, Nat.le_trans h.bz (Nat.le_trans ht.size tS.size)⟩
end
def FldPost (w0 : World) (B g bx : Nat) (x : AskV) (S : AskS) (ws : WS) (bad : Bool) (c : Nat) (W : World) (e : Ending) (W' : World) : Prop :=
  e = .returned (.tuple #[]) ∧ ∃ S', FldW w0 B g bx (fieldP (x, ws, bad) c).1 S' (fieldP (x, ws, bad) c).2.1 (fieldP (x, ws, bad) c).2.2 W' ∧ Turned (FldV g bx S) W W' ∧ FldM S S' W
theorem FldPost.of {w0 : World} {B g bx c : Nat} {x x' : AskV} {S S' : AskS} {ws ws' : WS} {bad bad' : Bool} {W W' : World} (hf : fieldP (x, ws, bad) c = (x', ws', bad')) (h : FldW w0 B g bx x' S' ws' bad' W') (ht : Turned (FldV g bx S) W W') (hm : FldM S S' W) : ∃ S', FldW w0 B g bx (fieldP (x, ws, bad) c).1 S' (fieldP (x, ws, bad) c).2.1 (fieldP (x, ws, bad) c).2.2 W' ∧ Turned (FldV g bx S) W W' ∧ FldM S S' W := by
  rw [hf]
  exact ⟨S', h, ht, hm⟩
theorem turned_gx {W W2 : World} {g bx : Nat} (S : AskS) (h : Turned (· = g) W W2) (i : Nat) (v : Value) : Turned (FldV g bx S) W (W2.setCell ⟨bx, i, none⟩ v) :=
  (h.mono (fun j e => .inl (.inl e))).setCell (p := ⟨bx, i, none⟩) (.inl (.inr (.inl rfl))) v
theorem numV_64 (ws : WS) : I64 (numV ws) := numL_64 _
theorem headD_ok {w : World} {B g : Nat} {ws : WS} {bad : Bool} (h : RdB w B g ws bad) : strOk (ws.headD []) := by
  have := h.head
  unfold lenOk at this
  unfold strOk
  omega
theorem tail_le (ws : WS) : ws.tail.length ≤ ws.length := by rw [List.length_tail]; omega
end Go.Proofs.YtglojnmcbochaaaGreatDoor

