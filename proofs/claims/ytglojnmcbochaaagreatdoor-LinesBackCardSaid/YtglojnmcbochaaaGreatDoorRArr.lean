/-
  ytglojnmcbochaaagreatdoor: laws and walks on the road to LinesBack, joined: DskA Arr. Conditions stand at each theorem.
-/
import Derived.Test.YtglojnmcbochaaaGreatDoorProg
import Derived.Test.YtglojnmcbochaaaGreatDoorRSec
import Derived.StillTailTactics
namespace Go.Proofs.YtglojnmcbochaaaGreatDoor
open Go.RowKit Go.Maps

/-- What a disk is: sectors, the latest and the safe bytes of each, which are open, for which it is armed, whether it is down. -/
structure DA where
  n : Int
  lat : Int → List Int
  saf : Int → List Int
  opn : Int → Bool
  armed : Int
  down : Bool

def RetSame (v : Value) (w : World) (e : Ending) (w' : World) : Prop := e = .returned v ∧ w = w'

section
variable (d : Nat) (n k : Int) (w : World) (hn : w.cell? ⟨d, 0, none⟩ = some (.int .i64 n))
include hn
end

def DA.new (n : Int) : DA := ⟨n, fun _ => noughts, fun _ => noughts, fun _ => false, 0, false⟩
end Go.Proofs.YtglojnmcbochaaaGreatDoor

namespace Go.Proofs.YtglojnmcbochaaaGreatDoor
open Go.RowKit Go.Maps

section
variable {P : Program} {w : World} {T E : TypeId} {ops : Array Oper} {rest : List Oper} {o : Oper} {a : Act} {Q : Exit → Act → World → Prop}

/-! in the head of a region that draws its order -/
end

/-- n bytes zs at the head of block g, which has room for cap. -/
structure RowB (w : World) (U g n cap : Nat) (zs : List Int) : Prop where
  len : zs.length = n
  le : n ≤ cap
  max : cap ≤ maxLen
  row : ∃ cs, Blk w g U cs ∧ cs.size = cap ∧ cs.toList.take n = u8s zs

section
variable {w w' : World} {U g n cap : Nat} {zs : List Int}
theorem RowB.lt (h : RowB w U g n cap zs) : g < w.heap.size := let ⟨_, hb, _⟩ := h.row; hb.lt
theorem RowB.turned {W : Nat → Prop} (h : RowB w U g n cap zs) (ht : Turned W w w') (hg : ¬ W g) : RowB w' U g n cap zs :=
  let ⟨cs, hb, r⟩ := h.row; ⟨h.len, h.le, h.max, cs, hb.turned ht hg, r⟩
theorem RowB.own (h : RowB w U g n cap zs) {base : Nat} (hb : base ≤ g) : w.ownsRow base U 1 (.slice (some ⟨g, 0, none⟩) n cap) n (u8s zs) :=
  let ⟨cs, hb', hs, ht⟩ := h.row; ⟨by rw [u8s_length, h.len, Nat.mul_one], .inr ⟨g, cap, cs, rfl, hb, hb', h.le, h.max, by rw [hs, Nat.mul_one], by rw [Nat.mul_one]; exact ht⟩⟩
theorem RowB.of_own {base : Nat} (h : w.ownsRow base U 1 (.slice (some ⟨g, 0, none⟩) n cap) n (u8s zs)) : RowB w U g n cap zs := by
  obtain ⟨h1, h2⟩ := h
  rcases h2 with ⟨h2, _⟩ | ⟨g', cap', cs, hv, _, hb, hn, hc, hs, ht⟩
  · cases h2
  · injection hv with hv1 hv2 hv3
    injection hv1 with hv1
    injection hv1 with hv1
    subst hv1 hv3
    rw [Nat.mul_one] at hs ht
    exact ⟨by rw [u8s_length, Nat.mul_one] at h1; exact h1, hn, hc, cs, hb, hs, ht⟩
theorem RowB.cell (h : RowB w U g n cap zs) {i : Nat} (hi : i < n) : w.cell? ⟨g, i, none⟩ = some (.int .u8 (zs.getD i 0)) := by
  obtain ⟨cs, hb, hs, ht⟩ := h.row
  have hl := h.len
  rw [hb.cell]
  have h1 : (u8s zs)[i]? = some (.int .u8 (zs.getD i 0)) := by
    simp only [u8s, List.getElem?_map, List.getD_eq_getElem?_getD]
    rw [List.getElem?_eq_getElem (by omega)]
    rfl
  rw [← ht, List.getElem?_take, if_pos hi] at h1
  simpa using h1
theorem RowB.frozen (h : RowB w U g n cap zs) (i : Nat) : w.frozen? ⟨g, i, none⟩ = false := let ⟨_, hb, _⟩ := h.row; hb.frozen i
/-- A shorter part of it. -/
theorem RowB.cut (h : RowB w U g n cap zs) {k : Nat} (hk : k ≤ n) : RowB w U g k cap (zs.take k) := by
  obtain ⟨cs, hb, hs, ht⟩ := h.row
  have hl := h.len
  have hle := h.le
  refine ⟨by rw [List.length_take]; omega, by omega, h.max, cs, hb, hs, ?_⟩
  have : cs.toList.take k = (cs.toList.take n).take k := by rw [List.take_take, Nat.min_eq_left hk]
  rw [this, ht]
  simp [u8s]
end

section
variable {P : Program} {w : World} {S U : TypeId} {ops : Array Oper} {rest : List Oper} {o : Oper} {a : Act} {Q : Exit → Act → World → Prop}
end
end Go.Proofs.YtglojnmcbochaaaGreatDoor

