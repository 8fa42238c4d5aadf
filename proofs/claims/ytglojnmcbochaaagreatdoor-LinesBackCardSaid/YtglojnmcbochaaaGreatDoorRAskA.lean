/-
  Commands in memory: the words (texts, parts, a command's cells). No condition: laws over any world.
-/
import Derived.Test.YtglojnmcbochaaaGreatDoorRAskQ
import Derived.Test.YtglojnmcbochaaaGreatDoorRElt
import Derived.Lib.SlicesS
namespace Go.Proofs.YtglojnmcbochaaaGreatDoor
open Go.RowKit Go.Maps
set_option linter.unusedVariables false

/-- A slice's three words. -/
structure Sl where
  A : Option Addr
  n : Nat
  c : Nat
def strV (l : List UInt8) : Value := .string ⟨l.toArray⟩
/-- The cells of texts, and of parts. -/
def textC (l : List (List UInt8)) : List Value := l.map strV
def partC (l : List (List UInt8 × Int)) : List Value := l.flatMap fun p => [strV p.1, .int .i64 p.2]
def itemAt (l : List (List UInt8 × Int)) (i : Nat) : List UInt8 := (l.getD i ([], 0)).1
def qtyAt (l : List (List UInt8 × Int)) (i : Nat) : Int := (l.getD i ([], 0)).2
theorem textC_length (l : List (List UInt8)) : (textC l).length = l.length := by simp [textC]
theorem textC_append (a b : List (List UInt8)) : textC (a ++ b) = textC a ++ textC b := by simp [textC]
theorem textC_get (l : List (List UInt8)) (i : Nat) (h : i < l.length) : (textC l)[i]? = some (strV (l.getD i [])) := by
  simp [textC, List.getD_eq_getElem?_getD, h]
theorem textC_one (l : List (List UInt8)) : ∀ v ∈ textC l, v.oneCell' = true := by
  intro v hv
  obtain ⟨p, _, rfl⟩ := List.mem_map.1 hv
  rfl
theorem partC_length (l : List (List UInt8 × Int)) : (partC l).length = l.length * 2 := by
  induction l with
  | nil => rfl
  | cons p l ih =>
    show ([strV p.1, Value.int .i64 p.2] ++ partC l).length = _
    rw [List.length_append, ih, List.length_cons]
    simp
    omega
theorem partC_cons (p : List UInt8 × Int) (l : List (List UInt8 × Int)) : partC (p :: l) = strV p.1 :: .int .i64 p.2 :: partC l := rfl
theorem partC_append (a b : List (List UInt8 × Int)) : partC (a ++ b) = partC a ++ partC b := by simp [partC]
theorem partC_fst (l : List (List UInt8 × Int)) (i : Nat) (h : i < l.length) : (partC l)[i * 2]? = some (strV (itemAt l i)) := by
  induction l generalizing i with
  | nil => simp at h
  | cons p l ih =>
    cases i with
    | zero => rfl
    | succ i =>
      rw [partC_cons, show (i + 1) * 2 = i * 2 + 1 + 1 by omega, List.getElem?_cons_succ, List.getElem?_cons_succ, ih i (by simpa using h)]
      rfl
theorem partC_snd (l : List (List UInt8 × Int)) (i : Nat) (h : i < l.length) : (partC l)[i * 2 + 1]? = some (.int .i64 (qtyAt l i)) := by
  induction l generalizing i with
  | nil => simp at h
  | cons p l ih =>
    cases i with
    | zero => rfl
    | succ i =>
      rw [partC_cons, show (i + 1) * 2 + 1 = i * 2 + 1 + 1 + 1 by omega, List.getElem?_cons_succ, List.getElem?_cons_succ, ih i (by simpa using h)]
      rfl
/-- A slice of texts. -/
structure SlT (w : World) (s : Sl) (l : List (List UInt8)) : Prop where
  cel : CelR w s.A s.n (textC l)
  len : l.length = s.n
  nil_ : s.A = none → s.n = 0 ∧ s.c = 0
  le : s.n ≤ s.c
  max : s.c ≤ maxLen
/-- A slice of parts. -/
structure SlQ (w : World) (s : Sl) (l : List (List UInt8 × Int)) : Prop where
  cel : CelR w s.A (s.n * 2) (partC l)
  len : l.length = s.n
  nil_ : s.A = none → s.n = 0 ∧ s.c = 0
  le : s.n ≤ s.c
  max : s.c ≤ maxLen
structure AskS where
  P : Sl
  O : Sl
/-- What a command's slices hold. -/
structure AskIs (w : World) (a : AskV) (S : AskS) : Prop where
  parts : SlQ w S.P a.parts
  others : SlT w S.O a.others
/-- A command's cells. -/
def askC (a : AskV) (S : AskS) : Array Value :=
  #[.int .u8 a.kind, .int .i64 a.request, strV a.item, .int .i64 a.qty, .int .i64 a.day, .int .i64 a.days, .int .i64 a.rank, .int .i64 a.lot, .int .i64 a.line, .slice S.P.A S.P.n S.P.c, .slice S.O.A S.O.n S.O.c]
def strOk (l : List UInt8) : Prop := l.length ≤ 9223372036854775807
/-- The numbers are of their types, the texts are no longer than texts may be. -/
structure AskV.Ok (a : AskV) : Prop where
  kind : isByte a.kind
  request : I64 a.request
  item : strOk a.item
  qty : I64 a.qty
  day : I64 a.day
  days : I64 a.days
  rank : I64 a.rank
  lot : I64 a.lot
  line : I64 a.line
  parts : ∀ p ∈ a.parts, strOk p.1 ∧ I64 p.2
  others : ∀ s ∈ a.others, strOk s
section
variable {w w' : World}
theorem SlT.fresh {s : Sl} {l : List (List UInt8)} (h : SlT w s l) (ht : Turned (fun _ => False) w w') : SlT w' s l := ⟨h.cel.fresh ht, h.len, h.nil_, h.le, h.max⟩
theorem SlQ.fresh {s : Sl} {l : List (List UInt8 × Int)} (h : SlQ w s l) (ht : Turned (fun _ => False) w w') : SlQ w' s l := ⟨h.cel.fresh ht, h.len, h.nil_, h.le, h.max⟩
theorem AskIs.fresh {a : AskV} {S : AskS} (h : AskIs w a S) (ht : Turned (fun _ => False) w w') : AskIs w' a S := ⟨h.parts.fresh ht, h.others.fresh ht⟩
theorem SlT.turned {W : Nat → Prop} {s : Sl} {l : List (List UInt8)} (h : SlT w s l) (ht : Turned W w w') (hW : ∀ b o, s.A = some ⟨b, o, none⟩ → ¬ W b) : SlT w' s l := ⟨h.cel.turned ht hW, h.len, h.nil_, h.le, h.max⟩
theorem SlQ.turned {W : Nat → Prop} {s : Sl} {l : List (List UInt8 × Int)} (h : SlQ w s l) (ht : Turned W w w') (hW : ∀ b o, s.A = some ⟨b, o, none⟩ → ¬ W b) : SlQ w' s l := ⟨h.cel.turned ht hW, h.len, h.nil_, h.le, h.max⟩
theorem SlT.cells {s : Sl} {l : List (List UInt8)} (h : SlT w s l) (hn : 0 < s.n) : ∃ b off, s.A = some ⟨b, off, none⟩ ∧ ∀ i, i < s.n → w.cell? ⟨b, off + i, none⟩ = some (strV (l.getD i [])) := by
  obtain ⟨b, off, e, hc⟩ := h.cel.cell hn
  refine ⟨b, off, e, fun i hi => ?_⟩
  rw [hc i hi, textC_get l i (by rw [h.len]; exact hi)]
theorem SlQ.cells {s : Sl} {l : List (List UInt8 × Int)} (h : SlQ w s l) (hn : 0 < s.n) : ∃ b off, s.A = some ⟨b, off, none⟩ ∧ ∀ i, i < s.n → w.cell? ⟨b, off + i * 2, none⟩ = some (strV (itemAt l i)) ∧ w.cell? ⟨b, off + i * 2 + 1, none⟩ = some (.int .i64 (qtyAt l i)) := by
  obtain ⟨b, off, e, hc⟩ := h.cel.cell (by omega)
  refine ⟨b, off, e, fun i hi => ⟨?_, ?_⟩⟩
  · rw [hc (i * 2) (by omega), partC_fst l i (by rw [h.len]; exact hi)]
  · rw [Nat.add_assoc, hc (i * 2 + 1) (by omega), partC_snd l i (by rw [h.len]; exact hi)]
end
/-! slices.Contains at texts -/
def baOf (l : List UInt8) : ByteArray := ⟨l.toArray⟩
theorem baOf_inj {a b : List UInt8} : baOf a = baOf b ↔ a = b := by
  unfold baOf
  constructor
  · intro h
    injection h with h
    simpa using congrArg Array.toList h
  · rintro rfl; rfl
theorem getD_baOf (l : List (List UInt8)) (i : Nat) : (l.map baOf).getD i ByteArray.empty = baOf (l.getD i []) := by
  rw [List.getD_eq_getElem?_getD, List.getD_eq_getElem?_getD, List.getElem?_map]
  cases l[i]? <;> rfl
theorem containsS_map (l : List (List UInt8)) (x : List UInt8) (k : Nat) : Lib.containsS ((l.map baOf).take k) (baOf x) = (l.take k).contains x := by
  rw [Bool.eq_iff_iff, Lib.containsS_iff, ← List.map_take, List.contains_iff_mem, List.mem_map]
  constructor
  · rintro ⟨y, hy, e⟩
    rw [baOf_inj] at e
    exact e ▸ hy
  · exact fun h => ⟨x, h, rfl⟩
/-! unlike, step by step -/
def unlikeTo (l : List (List UInt8)) (j : Nat) : Bool := (List.range j).all fun i => codeL (l.getD i []) && !(l.take i).contains (l.getD i [])
theorem unlikeTo_succ (l : List (List UInt8)) (j : Nat) : unlikeTo l (j + 1) = (unlikeTo l j && (codeL (l.getD j []) && !(l.take j).contains (l.getD j []))) := by
  unfold unlikeTo
  rw [List.range_succ, List.all_append]
  simp
theorem unlikeTo_mono {l : List (List UInt8)} {j k : Nat} (h : unlikeTo l k = true) (hj : j ≤ k) : unlikeTo l j = true := by
  unfold unlikeTo at *
  rw [List.all_eq_true] at *
  intro i hi
  exact h i (List.mem_range.2 (by have := List.mem_range.1 hi; omega))
theorem unlike_no {l : List (List UInt8)} {j : Nat} (hj : j < l.length) (h : (codeL (l.getD j []) && !(l.take j).contains (l.getD j [])) = false) : unlikeB l = false := by
  cases hu : unlikeB l with
  | false => rfl
  | true =>
    have h1 := unlikeTo_mono (l := l) (k := l.length) hu (show j + 1 ≤ l.length by omega)
    rw [unlikeTo_succ, h] at h1
    simp at h1
end Go.Proofs.YtglojnmcbochaaaGreatDoor

