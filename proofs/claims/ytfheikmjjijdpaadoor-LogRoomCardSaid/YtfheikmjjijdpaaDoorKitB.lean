/-
  What the statements share: bytes that are lent, with marks behind their end: markByte, LentBytes, KeptBytes, OverBytes.
  Conditions: at most 1000000 bytes.
-/
import Derived.Test.YtfheikmjjijdpaaDoorKit
import Derived.IntWalk
namespace Go.Proofs.YtfheikmjjijdpaaDoor
open Go.RowKit Go.Maps

def mkB (k i : Int) : Int := IntKind.u64.wrap ((1000003 * (k + 7) + i) * 11400714819323198485) / 72057594037927936 % 256
theorem mkB_byte (k i : Int) : isByte (mkB k i) := by
  unfold isByte mkB
  generalize IntKind.u64.wrap _ / _ = x
  omega
/-- The first n marks of list k. -/
def marksB (k : Int) (n : Nat) : List Int := (List.range n).map fun (i : Nat) => mkB k i
theorem marksB_length (k : Int) (n : Nat) : (marksB k n).length = n := by simp [marksB]
theorem marksB_succ (k : Int) (n : Nat) : marksB k (n + 1) = marksB k n ++ [mkB k n] := by simp [marksB, List.range_succ]
theorem marksB_getD (k : Int) (n i : Nat) (h : i < n) : (marksB k n).getD i 0 = mkB k i := by simp [marksB, List.getD_eq_getElem?_getD, h]

theorem getD_app_l {α : Type} (a b : List α) (i : Nat) (d : α) (h : i < a.length) : (a ++ b).getD i d = a.getD i d := by
  simp [List.getD_eq_getElem?_getD, List.getElem?_append_left h]
theorem getD_app_r {α : Type} (a b : List α) (i : Nat) (d : α) (h : a.length ≤ i) : (a ++ b).getD i d = b.getD (i - a.length) d := by
  simp [List.getD_eq_getElem?_getD, List.getElem?_append_right h]

/-- A slice of bytes that may be nil, then without room. -/
structure BytS (w : World) (A : Option Addr) (n c : Nat) (zs : List Int) : Prop extends BytR w A n zs where
  nil_ : A = none → n = 0 ∧ c = 0
theorem BytS.news {w : World} {A : Option Addr} {n c : Nat} {zs : List Int} (h : BytS w A n c zs) : ∀ ad, A = some ad → ∀ j u, (u8s zs)[j]? = some u → w.cell? (ad.add j) = some u := by
  intro ad had j u hu
  have hj : j < n := by
    have := (List.getElem?_eq_some_iff.1 hu).1
    rw [u8s_length, h.len] at this
    exact this
  obtain ⟨b, off, rfl, hc⟩ := h.cell (by omega)
  injection had with had
  subst had
  have hl := h.len
  rw [Addr.add_mid, hc j hj, ← hu]
  simp only [u8s, List.getElem?_map, List.getD_eq_getElem?_getD]
  rw [List.getElem?_eq_getElem (by omega)]
  rfl
theorem RowB.bytS {w : World} {U g n cap : Nat} {zs : List Int} (h : RowB w U g n cap zs) (c : Nat) : BytS w (some ⟨g, 0, none⟩) n c zs := ⟨h.bytR, fun e => by cases e⟩
theorem BytR.turned {w w' : World} {W : Nat → Prop} {A : Option Addr} {n : Nat} {zs : List Int} (h : BytR w A n zs) (ht : Turned W w w') (hW : ∀ b o, A = some ⟨b, o, none⟩ → ¬ W b) : BytR w' A n zs :=
  ⟨h.len, h.max, fun hn => by
    obtain ⟨b, off, e, hc⟩ := h.cell hn
    exact ⟨b, off, e, fun j hj => cell_turned ht (hc j hj) (hW b off e)⟩⟩
theorem BytS.turned {w w' : World} {W : Nat → Prop} {A : Option Addr} {n c : Nat} {zs : List Int} (h : BytS w A n c zs) (ht : Turned W w w') (hW : ∀ b o, A = some ⟨b, o, none⟩ → ¬ W b) : BytS w' A n c zs :=
  ⟨h.toBytR.turned ht hW, h.nil_⟩

def LentPost (n : Nat) (zs : List Int) (w : World) (e : Ending) (w' : World) : Prop :=
  ∃ g, e = .returned (.slice (some ⟨g, 0, none⟩) n (n + 12)) ∧ RowB w' 5 g (n + 12) (n + 12) (zs ++ marksB 1 12) ∧ w.heap.size ≤ g ∧ Turned (fun _ => False) w w'
def LentRel (n : Nat) (zs : List Int) (w : World) (v i : Value) (wr : World) : Prop :=
  ∃ j : Nat, j ≤ 12 ∧ i = .int .i64 j ∧ v = .slice (some ⟨w.heap.size, 0, none⟩) (n + j) (n + 12) ∧ RowB wr 5 w.heap.size (n + j) (n + 12) (zs ++ marksB 1 j) ∧ Turned (fun _ => False) w wr

def KeptRel (n : Nat) (w : World) (i : Value) (wr : World) : Prop := ∃ j k : Nat, j ≤ n + 12 ∧ i = .int .i64 j ∧ wr = w.drewN k
def OverPost (g n cap : Nat) (w : World) (e : Ending) (w' : World) : Prop := e = .returned (.tuple #[]) ∧ (∃ ys, RowB w' 5 g n cap ys) ∧ Turned (· = g) w w'
def OverRel (g n cap : Nat) (w : World) (i : Value) (wr : World) : Prop := ∃ j : Nat, j ≤ n ∧ i = .int .i64 j ∧ (∃ ys, RowB wr 5 g n cap ys) ∧ Turned (· = g) w wr
end Go.Proofs.YtfheikmjjijdpaaDoor
