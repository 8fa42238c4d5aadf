/-
  append of any bytes, of none too, to a row of one's own. No condition: laws over any world.
-/
import Derived.Test.YtbecdijccifllaaDoorOwn
namespace Go.Proofs.YtbecdijccifllaaDoor
open Go.RowKit Go.Maps
set_option linter.unusedVariables false

theorem BytR.tF {w w' : World} {A : Option Addr} {n : Nat} {zs : List Int} (h : BytR w A n zs) (ht : Turned (fun _ => False) w w') : BytR w' A n zs := h.turned ht (fun _ _ _ e => e)
theorem BytS.tF {w w' : World} {A : Option Addr} {n c : Nat} {zs : List Int} (h : BytS w A n c zs) (ht : Turned (fun _ => False) w w') : BytS w' A n c zs := h.turned ht (fun _ _ _ e => e)
section
variable {P : Program} {w : World} {S : TypeId} {g n c : Nat} {zs : List Int}
theorem wpList_app4 {ops : Array Oper} {rest : List Oper} {o : Oper} {a : Act} {Q : Exit → Act → World → Prop} (B : BytT P S 5) (hgd : o.guard = none) (s x : Operand) (ho : o.op = .call { callee := .builtin .append, args := #[s, x], argTypes := #[S, S] })
    (h : OwnV w (some ⟨g, 0, none⟩) n c zs) {A : Option Addr} {m cc : Nat} {ys : List Int} (hy : BytS w A m cc ys) (hb : n + m ≤ 140737488355328) (hs : a.eval s = .slice (some ⟨g, 0, none⟩) n c) (hx : a.eval x = .slice A m cc)
    (hC : ∀ A' c' w', OwnV w' A' (n + m) c' (zs ++ ys) → ((A' = some ⟨g, 0, none⟩ ∧ c' = c ∧ (some (⟨g, 0, none⟩ : Addr)) ≠ none ∧ Turned (fun g' => some (⟨g, 0, none⟩ : Addr) = some ⟨g', 0, none⟩) w w') ∨ (A' = some ⟨w.heap.size, 0, none⟩ ∧ Turned (fun _ => False) w w')) → wpList P ops Q rest (a.put o.dst (.slice A' (n + m) c')) w') : wpList P ops Q (o :: rest) a w := by
  rcases Nat.eq_zero_or_pos m with h0 | h0
  · subst h0
    obtain ⟨i0, hi, hz0, hz1, hz2⟩ := info_parts B.info
    have hl0 : ys = [] := List.length_eq_zero_iff.1 hy.len
    subst hl0
    refine wpList_append_fits_any w hgd s x S ho 0 5 i0 1 B.und hi hz1 g n c (u8s zs) hs h A 0 cc [] hx rfl hy.nil_ (fun ad e j u hu => by simp at hu) (by simp) (by have := h.max; omega) ?_
    intro w2 hown2 hg2
    rw [List.append_nil] at hown2
    exact hC _ _ _ (by rw [List.append_nil]; exact hown2) (.inl ⟨rfl, rfl, by simp, (Turned.refl _ w).grown hg2 (fun k e => by injection e with e; subst e; exact .inl rfl)⟩)
  · obtain ⟨b, off, rfl, _⟩ := hy.cell h0
    exact wpList_app2 B hgd s x ho h ⟨b, off, none⟩ m cc ys hy.len (hy.news _ rfl) h0 hb hs hx hC
end
end Go.Proofs.YtbecdijccifllaaDoor
