/-
  ytohajofkflibjaagreatdoor: laws and walks on the road to RecordNumbers, joined: DskA Arr DskB DskC Reg DskD. Conditions stand at each theorem.
-/
import Derived.Test.YtohajofkflibjaaGreatDoorProg
import Derived.Test.YtohajofkflibjaaGreatDoorSec
import Derived.StillTailTactics
import Derived.OrdersHeld
import Derived.Deep.RegionHeld
namespace Go.Proofs.YtohajofkflibjaaGreatDoor
open Go.RowKit Go.Maps

/-- What a disk is: sectors, the latest and the safe bytes of each, which are open, for which it is armed, whether it is down. -/
structure DA where
  n : Int
  lat : Int → List Int
  saf : Int → List Int
  opn : Int → Bool
  armed : Int
  down : Bool

def RetSame (v : Value) (w : World) (e : Ending) (w' : World) : Prop := e = .returned v ∧ w = w'

section
variable (d : Nat) (n k : Int) (w : World) (hn : w.cell? ⟨d, 0, none⟩ = some (.int .i64 n))
include hn
end

def DA.new (n : Int) : DA := ⟨n, fun _ => noughts, fun _ => noughts, fun _ => false, 0, false⟩
end Go.Proofs.YtohajofkflibjaaGreatDoor

namespace Go.Proofs.YtohajofkflibjaaGreatDoor
open Go.RowKit Go.Maps

section
variable {P : Program} {w : World} {T E : TypeId} {ops : Array Oper} {rest : List Oper} {o : Oper} {a : Act} {Q : Exit → Act → World → Prop}

/-! in the head of a region that draws its order -/
end

/-- n bytes zs at the head of block g, which has room for cap. -/
structure RowB (w : World) (U g n cap : Nat) (zs : List Int) : Prop where
  len : zs.length = n
  le : n ≤ cap
  max : cap ≤ maxLen
  row : ∃ cs, Blk w g U cs ∧ cs.size = cap ∧ cs.toList.take n = u8s zs

section
variable {w w' : World} {U g n cap : Nat} {zs : List Int}
theorem RowB.lt (h : RowB w U g n cap zs) : g < w.heap.size := let ⟨_, hb, _⟩ := h.row; hb.lt
theorem RowB.turned {W : Nat → Prop} (h : RowB w U g n cap zs) (ht : Turned W w w') (hg : ¬ W g) : RowB w' U g n cap zs :=
  let ⟨cs, hb, r⟩ := h.row; ⟨h.len, h.le, h.max, cs, hb.turned ht hg, r⟩
theorem RowB.own (h : RowB w U g n cap zs) {base : Nat} (hb : base ≤ g) : w.ownsRow base U 1 (.slice (some ⟨g, 0, none⟩) n cap) n (u8s zs) :=
  let ⟨cs, hb', hs, ht⟩ := h.row; ⟨by rw [u8s_length, h.len, Nat.mul_one], .inr ⟨g, cap, cs, rfl, hb, hb', h.le, h.max, by rw [hs, Nat.mul_one], by rw [Nat.mul_one]; exact ht⟩⟩
theorem RowB.of_own {base : Nat} (h : w.ownsRow base U 1 (.slice (some ⟨g, 0, none⟩) n cap) n (u8s zs)) : RowB w U g n cap zs := by
  obtain ⟨h1, h2⟩ := h
  rcases h2 with ⟨h2, _⟩ | ⟨g', cap', cs, hv, _, hb, hn, hc, hs, ht⟩
  · cases h2
  · injection hv with hv1 hv2 hv3
    injection hv1 with hv1
    injection hv1 with hv1
    subst hv1 hv3
    rw [Nat.mul_one] at hs ht
    exact ⟨by rw [u8s_length, Nat.mul_one] at h1; exact h1, hn, hc, cs, hb, hs, ht⟩
theorem RowB.cell (h : RowB w U g n cap zs) {i : Nat} (hi : i < n) : w.cell? ⟨g, i, none⟩ = some (.int .u8 (zs.getD i 0)) := by
  obtain ⟨cs, hb, hs, ht⟩ := h.row
  have hl := h.len
  rw [hb.cell]
  have h1 : (u8s zs)[i]? = some (.int .u8 (zs.getD i 0)) := by
    simp only [u8s, List.getElem?_map, List.getD_eq_getElem?_getD]
    rw [List.getElem?_eq_getElem (by omega)]
    rfl
  rw [← ht, List.getElem?_take, if_pos hi] at h1
  simpa using h1
theorem RowB.frozen (h : RowB w U g n cap zs) (i : Nat) : w.frozen? ⟨g, i, none⟩ = false := let ⟨_, hb, _⟩ := h.row; hb.frozen i
/-- A shorter part of it. -/
theorem RowB.cut (h : RowB w U g n cap zs) {k : Nat} (hk : k ≤ n) : RowB w U g k cap (zs.take k) := by
  obtain ⟨cs, hb, hs, ht⟩ := h.row
  have hl := h.len
  have hle := h.le
  refine ⟨by rw [List.length_take]; omega, by omega, h.max, cs, hb, hs, ?_⟩
  have : cs.toList.take k = (cs.toList.take n).take k := by rw [List.take_take, Nat.min_eq_left hk]
  rw [this, ht]
  simp [u8s]
end

/-- S is []byte, U byte. -/
structure BytT (P : Program) (S U : TypeId) : Prop where
  und : P.underlying S = some (.slice U)
  info : (P.info? U).map (fun i => (i.zero, i.size, i.bytes)) = some (some (.int .u8 0), 1, 1)

section
variable {P : Program} {w : World} {S U : TypeId} {ops : Array Oper} {rest : List Oper} {o : Oper} {a : Act} {Q : Exit → Act → World → Prop}
theorem own_none (w : World) {base : Nat} (h : base ≤ w.heap.size) (U : TypeId) : (w.alloc (.cells #[] U)).ownsRow base U 1 (.slice (some ⟨w.heap.size, 0, none⟩) 0 0) 0 (u8s []) :=
  World.ownsRow_made w #[] 0 h (by simp) rfl
theorem news_of_row {g n cap : Nat} {zs : List Int} (h : RowB w U g n cap zs) : ∀ j u, (u8s zs)[j]? = some u → w.cell? ((⟨g, 0, none⟩ : Addr).add j) = some u := by
  intro j u hu
  have hj : j < n := by
    have := (List.getElem?_eq_some_iff.1 hu).1
    rw [u8s_length, h.len] at this
    exact this
  rw [Addr.add_mid, Nat.zero_add, h.cell hj, ← hu]
  have := h.len
  simp only [u8s, List.getElem?_map, List.getD_eq_getElem?_getD]
  rw [List.getElem?_eq_getElem (by omega)]
  rfl
end
end Go.Proofs.YtohajofkflibjaaGreatDoor

namespace Go.Proofs.YtohajofkflibjaaGreatDoor
open Go.RowKit Go.Maps

theorem mixed : Tryz.prog.follows .mixedOrders = true := by kernel_rfl
theorem u8info : (Tryz.prog.info? 5).map (fun i => (i.zero, i.size, i.bytes)) = some (some (.int .u8 0), 1, 1) := by kernel_rfl

theorem bytT : BytT Tryz.prog 23 5 := ⟨Tryz.underlying23, u8info⟩
def RetNew (v : Value) (w : World) (e : Ending) (w' : World) : Prop := e = .returned v ∧ Turned (fun _ => False) w w'

section
end
end Go.Proofs.YtohajofkflibjaaGreatDoor

namespace Go.Proofs.YtohajofkflibjaaGreatDoor
open Go.RowKit Go.Maps

end Go.Proofs.YtohajofkflibjaaGreatDoor

namespace Go.Proofs.YtohajofkflibjaaGreatDoor
open Go.RowKit Go.Maps

section
variable {P : Program} {ops : Array Oper} {Q : Exit → Act → World → Prop} {md : Region.Mode} {S : World → Prop}

end
end Go.Proofs.YtohajofkflibjaaGreatDoor

namespace Go.Proofs.YtohajofkflibjaaGreatDoor
open Go.RowKit Go.Maps

theorem cell_turned {w w' : World} {W : Nat → Prop} (ht : Turned W w w') {a : Addr} {v : Value} (h : w.cell? a = some v) (hW : ¬ W a.block) : w'.cell? a = some v :=
  (World.cell?_of_block (ht.block a.block (World.block_lt_of_cell? w a h) hW)).trans h
end Go.Proofs.YtohajofkflibjaaGreatDoor

