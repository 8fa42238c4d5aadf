/-
 ask.Get: the command that bytes begin with. Conditions: at most 1000000 bytes; ask.kinds holds what its initialiser lays.
-/
import Derived.Test.YtglojnmcbochaaaGreatDoorURdFh
import Derived.Test.YtglojnmcbochaaaGreatDoorUAskS
namespace Go.Proofs.YtglojnmcbochaaaGreatDoor
open Go.RowKit Go.Maps
set_option linter.unusedVariables false
set_option linter.unusedSimpArgs false

theorem Blk.set11 {w : World} {g : Nat} {T : TypeId} {a0 a1 a2 a3 a4 a5 a6 a7 a8 a9 a10 : Value} (v0 v1 v2 v3 v4 v5 v6 v7 v8 v9 v10 : Value) (h : Blk w g T #[a0, a1, a2, a3, a4, a5, a6, a7, a8, a9, a10]) : Blk (((((((((((w.setCell ⟨g, 0, none⟩ v0).setCell ⟨g, 1, none⟩ v1).setCell ⟨g, 2, none⟩ v2).setCell ⟨g, 3, none⟩ v3).setCell ⟨g, 4, none⟩ v4).setCell ⟨g, 5, none⟩ v5).setCell ⟨g, 6, none⟩ v6).setCell ⟨g, 7, none⟩ v7).setCell ⟨g, 8, none⟩ v8).setCell ⟨g, 9, none⟩ v9).setCell ⟨g, 10, none⟩ v10) g T #[v0, v1, v2, v3, v4, v5, v6, v7, v8, v9, v10] := by
 have h1 := (((((((((((h.set_ 0 v0).set_ 1 v1).set_ 2 v2).set_ 3 v3).set_ 4 v4).set_ 5 v5).set_ 6 v6).set_ 7 v7).set_ 8 v8).set_ 9 v9).set_ 10 v10)
 simp only [zA, zB, zC] at h1
 exact h1
theorem fin11 {w : World} {g : Nat} {T : TypeId} {a0 a1 a2 a3 a4 a5 a6 a7 a8 a9 a10 : Value} (v0 v1 v2 v3 v4 v5 v6 v7 v8 v9 v10 : Value) (h : Blk w g T #[a0, a1, a2, a3, a4, a5, a6, a7, a8, a9, a10]) :
  ∃ wz, (((((((((((w.setCell ⟨g, 0, none⟩ v0).setCell ⟨g, 1, none⟩ v1).setCell ⟨g, 2, none⟩ v2).setCell ⟨g, 3, none⟩ v3).setCell ⟨g, 4, none⟩ v4).setCell ⟨g, 5, none⟩ v5).setCell ⟨g, 6, none⟩ v6).setCell ⟨g, 7, none⟩ v7).setCell ⟨g, 8, none⟩ v8).setCell ⟨g, 9, none⟩ v9).setCell ⟨g, 10, none⟩ v10) = wz ∧ Blk wz g T #[v0, v1, v2, v3, v4, v5, v6, v7, v8, v9, v10] ∧ Turned (fun i => i = g) w wz :=
 ⟨_, rfl, Blk.set11 v0 v1 v2 v3 v4 v5 v6 v7 v8 v9 v10 h, ((((((((((((Turned.refl (fun i => i = g) w).setCell (p := ⟨g, 0, none⟩) (.inl rfl) v0).setCell (p := ⟨g, 1, none⟩) (.inl rfl) v1).setCell (p := ⟨g, 2, none⟩) (.inl rfl) v2).setCell (p := ⟨g, 3, none⟩) (.inl rfl) v3).setCell (p := ⟨g, 4, none⟩) (.inl rfl) v4).setCell (p := ⟨g, 5, none⟩) (.inl rfl) v5).setCell (p := ⟨g, 6, none⟩) (.inl rfl) v6).setCell (p := ⟨g, 7, none⟩) (.inl rfl) v7).setCell (p := ⟨g, 8, none⟩) (.inl rfl) v8).setCell (p := ⟨g, 9, none⟩) (.inl rfl) v9).setCell (p := ⟨g, 10, none⟩) (.inl rfl) v10)⟩
theorem AskOwn.moved {w w' : World} {W : Nat → Prop} {B b : Nat} {T : TypeId} {cs : Array Value} {a : AskV} {S : AskS} (h : AskOwn w B a S) (ht : Turned W w w') (hW : ∀ i, W i → i = b) (hb : Blk w b T cs) (h1 : T ≠ 62) (h2 : T ≠ 9) : AskOwn w' B a S :=
 ⟨h.parts.turned ht (fun g e e2 => h.parts.blk hb h1 e (hW g e2)), h.others.turned ht (fun g e e2 => h.others.blk hb h2 e (hW g e2)), h.pB, h.oB⟩
theorem news_new2 (w : World) (T : TypeId) (u v : Value) : ∀ j x, ([u, v] : List Value)[j]? = some x → (w.alloc (.cells #[u, v] T)).cell? ((⟨w.heap.size, 0, none⟩ : Addr).add j) = some x := by
 intro j x hx
 rw [Addr.add_mid, Nat.zero_add, (Blk.new w T #[u, v]).cell]
 simpa using hx
theorem fieldsK_all (k : Int) : (fieldsK k).getD [] ∈ kindsL := by
 cases h : fieldsK k with
 | none => decide
 | some f => exact fieldsK_kinds h
end Go.Proofs.YtglojnmcbochaaaGreatDoor

