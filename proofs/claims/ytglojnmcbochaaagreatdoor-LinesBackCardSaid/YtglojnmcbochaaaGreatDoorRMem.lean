/-
  Words for memory, shared by all texts of this seat: which blocks may have turned ('Turned'), a block known whole ('Blk'), a slice that reads as a list of numbers ('Nums'), a map that reads as a function ('mview').
  No condition: plain lemmas over any program and any world.
-/
import Derived.WalkKit
import Derived.Maps.RangeWalk
import Derived.WalkLawsBesides
import Derived.WalkSpells
import Derived.Deep.MidRow
import Derived.Deep.WholeRow
import Derived.Deep.AppendLies
import Derived.Lib.Hide
namespace Go.Proofs.YtglojnmcbochaaaGreatDoor
open Go.RowKit Go.Maps

/-- Nothing that was there has turned but blocks of W; the streams are as they were. -/
structure Turned (W : Nat → Prop) (w w' : World) : Prop where
  os : w'.os = w.os
  tape : w'.tape = w.tape
  output : w'.output = w.output
  size : w.heap.size ≤ w'.heap.size
  block : ∀ k, k < w.heap.size → ¬ W k → w'.heap[k]? = w.heap[k]?

theorem Turned.refl (W : Nat → Prop) (w : World) : Turned W w w := ⟨rfl, rfl, rfl, Nat.le_refl _, fun _ _ _ => rfl⟩
theorem Turned.trans {W W1 W2 : Nat → Prop} {a b c : World} (h : Turned W1 a b) (k : Turned W2 b c) (h1 : ∀ i, W1 i → W i) (h2 : ∀ i, W2 i → W i ∨ a.heap.size ≤ i) : Turned W a c :=
  ⟨k.os.trans h.os, k.tape.trans h.tape, k.output.trans h.output, Nat.le_trans h.size k.size, fun i hi hn =>
    (k.block i (Nat.lt_of_lt_of_le hi h.size) (fun e => by
      rcases h2 i e with h3 | h3
      · exact hn h3
      · omega)).trans (h.block i hi (fun e => hn (h1 i e)))⟩
theorem Turned.and_ {a b c : World} (h : Turned (fun _ => False) a b) (k : Turned (fun _ => False) b c) : Turned (fun _ => False) a c := h.trans (W := fun _ => False) k (fun _ e => e) (fun _ e => e.elim)
theorem Turned.mono {W W' : Nat → Prop} {a b : World} (h : Turned W a b) (h1 : ∀ i, W i → W' i ∨ a.heap.size ≤ i) : Turned W' a b :=
  ⟨h.os, h.tape, h.output, h.size, fun i hi hn => h.block i hi (fun e => by
    rcases h1 i e with h3 | h3
    · exact hn h3
    · omega)⟩
theorem Turned.drewN {W : Nat → Prop} {a b : World} (h : Turned W a b) (n : Nat) : Turned W a (b.drewN n) := ⟨h.os, h.tape, h.output, h.size, h.block⟩
theorem Turned.drew {W : Nat → Prop} {a b : World} (h : Turned W a b) : Turned W a b.drew := ⟨h.os, h.tape, h.output, h.size, h.block⟩
theorem Turned.alloc {W : Nat → Prop} {a b : World} (h : Turned W a b) (o : Obj) : Turned W a (b.alloc o) :=
  ⟨h.os, h.tape, h.output, Nat.le_trans h.size (by simp), fun k hk hn => (Below.heap_alloc b o k (Nat.lt_of_lt_of_le hk h.size)).trans (h.block k hk hn)⟩
theorem Turned.setCell {W : Nat → Prop} {a b : World} (h : Turned W a b) {p : Addr} (hp : W p.block ∨ a.heap.size ≤ p.block) (u : Value) : Turned W a (b.setCell p u) :=
  ⟨h.os, h.tape, h.output, by simpa [World.setCell] using h.size, fun k hk hn => (Below.heap_setCell b p u k (by
    rintro rfl
    rcases hp with hp | hp
    · exact hn hp
    · omega)).trans (h.block k hk hn)⟩
theorem Turned.grown {W : Nat → Prop} {a b c : World} {row : Option Nat} (h : Turned W a b) (hg : b.grownBy c row) (hr : ∀ k, row = some k → W k ∨ a.heap.size ≤ k) : Turned W a c :=
  ⟨hg.os.trans h.os, hg.tape.trans h.tape, hg.output.trans h.output, Nat.le_trans h.size hg.size, fun k hk hn =>
    (hg.block k (Nat.lt_of_lt_of_le hk h.size) (fun e => by
      rcases hr k e.symm with h3 | h3
      · exact hn h3
      · omega)).trans (h.block k hk hn)⟩
theorem Turned.below {W : Nat → Prop} {a b : World} (h : Turned W a b) (hW : ∀ i, W i → a.heap.size ≤ i) : Below a.heap.size a b :=
  ⟨h.os, h.tape, h.output, h.size, fun k hk => h.block k hk (fun e => by have := hW k e; omega)⟩
theorem Turned.of_below {a b : World} (h : Below a.heap.size a b) (W : Nat → Prop) : Turned W a b := ⟨h.os, h.tape, h.output, h.size, fun k hk _ => h.block k hk⟩

/-- Block g is just the cells cs of element type t, none frozen. -/
def Blk (w : World) (g : Nat) (t : TypeId) (cs : Array Value) : Prop := w.heap[g]? = some (.cells cs t (0, 0))

section
variable {w w' : World} {g : Nat} {t : TypeId} {cs : Array Value}
theorem Blk.lt (h : Blk w g t cs) : g < w.heap.size := by
  rcases Nat.lt_or_ge g w.heap.size with hlt | hge
  · exact hlt
  · unfold Blk at h; rw [Array.getElem?_eq_none hge] at h; cases h
theorem Blk.cell (h : Blk w g t cs) (i : Nat) : w.cell? ⟨g, i, none⟩ = cs[i]? := cell_of_row w g i cs t (0, 0) h
theorem Blk.frozen (h : Blk w g t cs) (i : Nat) : w.frozen? ⟨g, i, none⟩ = false := by
  unfold Blk at h
  simp [World.frozen?, h]
theorem Blk.cells11 {a0 a1 a2 a3 a4 a5 a6 a7 a8 a9 a10 : Value} (h : Blk w g t #[a0, a1, a2, a3, a4, a5, a6, a7, a8, a9, a10]) : w.cell? ⟨g, 0, none⟩ = some a0 ∧ w.cell? ⟨g, 1, none⟩ = some a1 ∧ w.cell? ⟨g, 2, none⟩ = some a2 ∧ w.cell? ⟨g, 3, none⟩ = some a3 ∧ w.cell? ⟨g, 4, none⟩ = some a4 ∧ w.cell? ⟨g, 5, none⟩ = some a5 ∧ w.cell? ⟨g, 6, none⟩ = some a6 ∧ w.cell? ⟨g, 7, none⟩ = some a7 ∧ w.cell? ⟨g, 8, none⟩ = some a8 ∧ w.cell? ⟨g, 9, none⟩ = some a9 ∧ w.cell? ⟨g, 10, none⟩ = some a10 :=
  ⟨h.cell 0, h.cell 1, h.cell 2, h.cell 3, h.cell 4, h.cell 5, h.cell 6, h.cell 7, h.cell 8, h.cell 9, h.cell 10⟩
theorem Blk.new (w : World) (t : TypeId) (cs : Array Value) : Blk (w.alloc (.cells cs t)) w.heap.size t cs := heap_alloc_new w _
theorem Blk.new_at {k : Nat} (w : World) (t : TypeId) (cs : Array Value) (h : w.heap.size = k) : Blk (w.alloc (.cells cs t)) k t cs := by subst h; exact heap_alloc_new w _
theorem Blk.drewN (h : Blk w g t cs) (n : Nat) : Blk (w.drewN n) g t cs := h
theorem Blk.drew (h : Blk w g t cs) : Blk w.drew g t cs := h
theorem Blk.alloc (h : Blk w g t cs) (o : Obj) : Blk (w.alloc o) g t cs := (Below.heap_alloc w o g h.lt).trans h
theorem Blk.set_ (h : Blk w g t cs) (i : Nat) (u : Value) : Blk (w.setCell ⟨g, i, none⟩ u) g t (cs.setIfInBounds i u) := by
  unfold Blk at h ⊢
  simp [World.setCell, Array.getElem?_modify, h]
theorem Blk.far (h : Blk w g t cs) {p : Addr} (hp : g ≠ p.block) (u : Value) : Blk (w.setCell p u) g t cs := (Below.heap_setCell w p u g hp).trans h
theorem Blk.grown {row : Option Nat} (h : Blk w g t cs) (hb : w.grownBy w' row) (hg : some g ≠ row) : Blk w' g t cs := (hb.block g h.lt hg).trans h
theorem Blk.turned {W : Nat → Prop} (h : Blk w g t cs) (hb : Turned W w w') (hg : ¬ W g) : Blk w' g t cs := (hb.block g h.lt hg).trans h
theorem Blk.ne_ {g' : Nat} {t' : TypeId} {cs' : Array Value} (h : Blk w g t cs) (h' : Blk w g' t' cs') (hne : t ≠ t') : g ≠ g' := by
  rintro rfl
  unfold Blk at h h'
  rw [h] at h'
  injection h' with h'
  injection h' with _ ht
  exact hne ht
theorem Blk.inj {cs' : Array Value} {t' : TypeId} (h : Blk w g t cs) (h' : Blk w g t' cs') : cs = cs' ∧ t = t' := by
  unfold Blk at h h'
  rw [h] at h'
  injection h' with h'
  injection h' with h1 h2
  exact ⟨h1, h2⟩
end

/-- A map's block stays what it is. -/
theorem ownsMap_turned {H : Type} {P : Program} {k : TypeId} {R : Value → Option (DataW H × List MemPlace)} {w w' : World} {b n : Nat} {D : DataW H} {W : Nat → Prop} (h : w.ownsMap P k R b n D) (hb : Turned W w w') (hg : ¬ W b) : w'.ownsMap P k R b n D := by
  have hlt := h.lt
  obtain ⟨es, clock, hh, r⟩ := h
  exact ⟨es, clock, (hb.block b hlt hg).trans hh, r⟩

/-- The numbers as bytes in memory. -/
def u8s (zs : List Int) : List Value := zs.map (Value.int .u8)
theorem u8s_length (zs : List Int) : (u8s zs).length = zs.length := by simp [u8s]
end Go.Proofs.YtglojnmcbochaaaGreatDoor

