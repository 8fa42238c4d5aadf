/-
  A slice of bytes that is nil, or lies whole at the head of a block of its own; append to it, told apart by whether there was room. No condition: laws over any world.
-/
import Derived.Test.YtfheikmjjijdpaaDoorKitB
import Derived.Test.YtfheikmjjijdpaaDoorAwk
import Derived.Lib.AppendZerosOnto
import Derived.Lib.AppendStr
namespace Go.Proofs.YtfheikmjjijdpaaDoor
open Go.RowKit Go.Maps

def OwnV (w : World) (A : Option Addr) (n c : Nat) (zs : List Int) : Prop := w.ownsRow 0 5 1 (.slice A n c) n (u8s zs)
section
variable {w w' : World} {A : Option Addr} {n c : Nat} {zs : List Int}
theorem OwnV.nil (w : World) : OwnV w none 0 0 [] := World.ownsRow_nil _ _ _ _
theorem OwnV.of_row {g : Nat} (h : RowB w 5 g n c zs) : OwnV w (some ⟨g, 0, none⟩) n c zs := h.own (Nat.zero_le _)
theorem OwnV.row_or (h : OwnV w A n c zs) : (A = none ∧ n = 0 ∧ c = 0 ∧ zs = []) ∨ ∃ g, A = some ⟨g, 0, none⟩ ∧ RowB w 5 g n c zs := by
  rcases h.2 with ⟨h1, h2⟩ | ⟨g, cap, cur, hv, _⟩
  · left
    injection h1 with h3 h4 h5
    refine ⟨h3, h2, h5, ?_⟩
    have := h.1
    rw [u8s_length, h2] at this
    exact List.length_eq_zero_iff.1 (by omega)
  · right
    injection hv with h3 h4 h5
    subst h3 h5
    exact ⟨g, rfl, RowB.of_own (base := 0) h⟩
theorem OwnV.len (h : OwnV w A n c zs) : zs.length = n := by
  have := h.1
  rw [u8s_length] at this
  omega
theorem OwnV.row {g : Nat} (h : OwnV w (some ⟨g, 0, none⟩) n c zs) : RowB w 5 g n c zs := RowB.of_own (base := 0) h
theorem OwnV.some_ (h : OwnV w A n c zs) (hn : 0 < n) : ∃ g, A = some ⟨g, 0, none⟩ ∧ RowB w 5 g n c zs := by
  rcases h.row_or with ⟨_, h1, _⟩ | h1
  · omega
  · exact h1
theorem OwnV.turned {W : Nat → Prop} (h : OwnV w A n c zs) (ht : Turned W w w') (hW : ∀ g, A = some ⟨g, 0, none⟩ → ¬ W g) : OwnV w' A n c zs := by
  rcases h.row_or with ⟨rfl, rfl, rfl, rfl⟩ | ⟨g, rfl, hr⟩
  · exact OwnV.nil _
  · exact OwnV.of_row (hr.turned ht (hW g rfl))
theorem OwnV.set {g : Nat} (h : OwnV w (some ⟨g, 0, none⟩) n c zs) (i : Nat) (z : Int) : OwnV (w.setCell ⟨g, i, none⟩ (.int .u8 z)) (some ⟨g, 0, none⟩) n c (zs.set i z) := OwnV.of_row (h.row.set i z)
theorem OwnV.far {g : Nat} (h : OwnV w A n c zs) (hA : A ≠ some ⟨g, 0, none⟩) (i : Nat) (u : Value) : OwnV (w.setCell ⟨g, i, none⟩ u) A n c zs :=
  h.turned ((Turned.refl (· = g) w).setCell (.inl rfl) u) (fun g' e e' => hA (by rw [e, e']))
theorem OwnV.take {m : Nat} (h : OwnV w A n c zs) (hm : m ≤ n) (hs : A ≠ none) : OwnV w A m c (zs.take m) := by
  rcases h.row_or with ⟨rfl, _⟩ | ⟨g, rfl, hr⟩
  · exact absurd rfl hs
  · exact OwnV.of_row (hr.cut hm)
theorem OwnV.lt {g : Nat} (h : OwnV w A n c zs) (hA : A = some ⟨g, 0, none⟩) : g < w.heap.size := by subst hA; exact h.row.lt
theorem OwnV.max (h : OwnV w A n c zs) : n ≤ c ∧ c ≤ maxLen := by
  rcases h.row_or with ⟨_, rfl, rfl, _⟩ | ⟨g, rfl, hr⟩
  · exact ⟨Nat.le_refl _, Nat.zero_le _⟩
  · exact ⟨hr.le, hr.max⟩
theorem OwnV.blk {g L : Nat} {T : TypeId} {cs : Array Value} (h : OwnV w A n c zs) (hL : Blk w L T cs) (hT : T ≠ 5) (hA : A = some ⟨g, 0, none⟩) : g ≠ L := by
  subst hA
  obtain ⟨cs', hb, _⟩ := h.row.row
  rintro rfl
  exact hT (Blk.inj hL hb).2
end

section
variable {P : Program} {w : World} {S : TypeId} {A : Option Addr} {n c : Nat} {zs : List Int}
def blkOf (A : Option Addr) : Option Nat := (Value.slice A 0 0).ownBlock
/-- append, by whether there was room. -/
theorem run_app2 (B : BytT P S 5) {ty : TypeId} (h : OwnV w A n c zs) (ad : Addr) (m cc : Nat) (ys : List Int) (hl : ys.length = m) (hnews : ∀ j u, (u8s ys)[j]? = some u → w.cell? (ad.add j) = some u) (hm : 0 < m) (hb : n + m ≤ 140737488355328) :
    ∃ A' c' w', (Builtin.append_ #[S, S] ty #[.slice A n c, .slice (some ad) m cc]).run P w = .ok (.slice A' (n + m) c') w' ∧ OwnV w' A' (n + m) c' (zs ++ ys) ∧
      ((A' = A ∧ c' = c ∧ A ≠ none ∧ Turned (fun g => A = some ⟨g, 0, none⟩) w w') ∨ (A' = some ⟨w.heap.size, 0, none⟩ ∧ Turned (fun _ => False) w w')) := by
  obtain ⟨i, hi, hz0, hz1, hz2⟩ := info_parts B.info
  have hu : u8s (zs ++ ys) = u8s zs ++ u8s ys := by simp [u8s]
  rcases h.row_or with ⟨rfl, rfl, rfl, rfl⟩ | ⟨g, rfl, hr⟩
  · obtain ⟨g, cap, w', hrun, h2, h3, h4, h5⟩ := run_append_lies (P := P) w S ty 0 5 i (.int .u8 0) 1 1 B.und hi hz0 hz1 hz2 rfl (by omega) _ 0 [] (World.ownsRow_nil w 0 5 1) ad m cc (u8s ys) (by rw [u8s_length, hl, Nat.mul_one]) hnews (u8s_one ys) hm (by unfold maxLen; omega) (by omega) (Nat.zero_le _) _ rfl
    rcases h4 with h4 | h4
    · cases h4
    · subst h4
      exact ⟨_, cap, w', hrun, by unfold OwnV; rw [hu]; exact h2, .inr ⟨rfl, (Turned.refl _ w).grown h3 (fun k e => by cases e)⟩⟩
  · by_cases hroom : n + m ≤ c
    · obtain ⟨w', hrun, h2, h3⟩ := run_append_fits (P := P) w 0 S ty 5 i 1 B.und hi hz1 g n c (u8s zs) h ad m cc (u8s ys) (by rw [u8s_length, hl, Nat.mul_one]) hnews (u8s_one ys) hroom
      exact ⟨_, c, w', hrun, by unfold OwnV; rw [hu]; exact h2, .inl ⟨rfl, rfl, by simp, (Turned.refl _ w).grown h3 (fun k e => by injection e with e; subst e; exact .inl rfl)⟩⟩
    · have hle := hr.le
      have hxl := hr.len
      have hrun := run_append_grow (P := P) w S ty 5 i (.int .u8 0) B.und hi hz0 ⟨g, 0, none⟩ n c (u8s zs) (by rw [u8s_length, hr.len, hz1, Nat.mul_one]) (news_of_row hr) ad m cc (u8s ys) (by rw [u8s_length, hl, hz1, Nat.mul_one]) hnews (by omega) (by omega) (by rw [hz2]; exact growslice_fits (by omega) (by omega))
      have hge := grownCap_ge w (n + m) c 5
      have hcm : grownCap w (n + m) c 5 ≤ maxLen := grownCap_le_maxLen w (n + m) c 5 (by unfold maxLen; omega)
      refine ⟨_, _, _, hrun, OwnV.of_row ⟨by rw [List.length_append, hxl, hl], hge, hcm, _, heap_alloc_new w.drew _, ?_, ?_⟩, .inr ⟨rfl, (Turned.refl _ w).drew.alloc _⟩⟩
      · simp only [Array.size_append, List.size_toArray, size_zeroCells, u8s_length, hxl, hl, Value.cells]
        simp
        omega
      · simp only [Array.toList_append]
        rw [hu, List.take_left' (by simp [u8s, hxl, hl])]
theorem wpList_app2 {ops : Array Oper} {rest : List Oper} {o : Oper} {a : Act} {Q : Exit → Act → World → Prop} (B : BytT P S 5) (hgd : o.guard = none) (s x : Operand) (ho : o.op = .call { callee := .builtin .append, args := #[s, x], argTypes := #[S, S] })
    (h : OwnV w A n c zs) (ad : Addr) (m cc : Nat) (ys : List Int) (hl : ys.length = m) (hnews : ∀ j u, (u8s ys)[j]? = some u → w.cell? (ad.add j) = some u) (hm : 0 < m) (hb : n + m ≤ 140737488355328) (hs : a.eval s = .slice A n c) (hx : a.eval x = .slice (some ad) m cc)
    (hC : ∀ A' c' w', OwnV w' A' (n + m) c' (zs ++ ys) → ((A' = A ∧ c' = c ∧ A ≠ none ∧ Turned (fun g => A = some ⟨g, 0, none⟩) w w') ∨ (A' = some ⟨w.heap.size, 0, none⟩ ∧ Turned (fun _ => False) w w')) → wpList P ops Q rest (a.put o.dst (.slice A' (n + m) c')) w') : wpList P ops Q (o :: rest) a w := by
  obtain ⟨A', c', w', hrun, h1, h2⟩ := run_app2 (ty := o.type) B h ad m cc ys hl hnews hm hb
  exact Lib.wpList_append_run w hgd s x S S ho _ _ hs hx _ _ hrun (hC A' c' w' h1 h2)
end
end Go.Proofs.YtfheikmjjijdpaaDoor
