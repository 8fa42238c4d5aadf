/-
  ytglojnmcbochaaagreatdoor: laws and walks on the road to LinesBlanks, joined: CodP DskA Arr DskB DskC Reg DskD Kit Awk. Conditions stand at each theorem.
-/
import Derived.Test.YtglojnmcbochaaaGreatDoorQCodN
import Derived.Test.YtglojnmcbochaaaGreatDoorProg
import Derived.Test.YtglojnmcbochaaaGreatDoorQSec
import Derived.StillTailTactics
import Derived.OrdersHeld
import Derived.Deep.RegionHeld
import Derived.BigQuiet
import Derived.Deep.QuietTactic
namespace Go.Proofs.YtglojnmcbochaaaGreatDoor

def upper (c : Nat) : Bool := decide (65 ≤ c) && decide (c ≤ 90)
def digit (c : Nat) : Bool := decide (48 ≤ c) && decide (c ≤ 57)
/-- May byte c stand at place i of a code? -/
def okAt (i c : Nat) : Bool := upper c || (decide (0 < i) && (digit c || c == 45))
def okFrom : Nat → List UInt8 → Bool
  | _, [] => true
  | i, c :: r => okAt i c.toNat && okFrom (i + 1) r
def codeL (l : List UInt8) : Bool := decide (0 < l.length) && decide (l.length ≤ 12) && okFrom 0 l
theorem okFrom_append (i : Nat) (a b : List UInt8) : okFrom i (a ++ b) = (okFrom i a && okFrom (i + a.length) b) := by
  induction a generalizing i with
  | nil => simp [okFrom]
  | cons c r ih =>
    simp only [List.cons_append, okFrom, ih, List.length_cons]
    rw [Bool.and_assoc, show i + 1 + r.length = i + (r.length + 1) by omega]
theorem okFrom_take {l : List UInt8} (h : okFrom 0 l = true) (k : Nat) : okFrom 0 (l.take k) = true := by
  have := okFrom_append 0 (l.take k) (l.drop k)
  rw [List.take_append_drop, h] at this
  simp only [Bool.true_eq, Bool.and_eq_true] at this
  exact this.1
theorem okFrom_snoc (l : List UInt8) (k : Nat) (hk : k < l.length) : okFrom 0 (l.take (k + 1)) = (okFrom 0 (l.take k) && okAt k (l[k]).toNat) := by
  rw [List.take_succ_eq_append_getElem hk, okFrom_append]
  simp only [okFrom, Bool.and_true, Nat.zero_add, List.length_take]
  rw [Nat.min_eq_left (by omega)]
theorem codeL_len {l : List UInt8} (h : codeL l = true) : 0 < l.length ∧ l.length ≤ 12 ∧ okFrom 0 l = true := by
  unfold codeL at h
  simp only [Bool.and_eq_true, decide_eq_true_eq] at h
  exact ⟨h.1.1, h.1.2, h.2⟩
/-- May these bytes be put? The empty text's, too. -/
def putOk (l : List UInt8) : Bool := decide (l.length = 0) || codeL l
end Go.Proofs.YtglojnmcbochaaaGreatDoor

namespace Go.Proofs.YtglojnmcbochaaaGreatDoor
open Go.RowKit Go.Maps

/-- What a disk is: sectors, the latest and the safe bytes of each, which are open, for which it is armed, whether it is down. -/
structure DA where
  n : Int
  lat : Int → List Int
  saf : Int → List Int
  opn : Int → Bool
  armed : Int
  down : Bool

def RetSame (v : Value) (w : World) (e : Ending) (w' : World) : Prop := e = .returned v ∧ w = w'

section
variable (d : Nat) (n k : Int) (w : World) (hn : w.cell? ⟨d, 0, none⟩ = some (.int .i64 n))
include hn
end

def DA.new (n : Int) : DA := ⟨n, fun _ => noughts, fun _ => noughts, fun _ => false, 0, false⟩
end Go.Proofs.YtglojnmcbochaaaGreatDoor

namespace Go.Proofs.YtglojnmcbochaaaGreatDoor
open Go.RowKit Go.Maps

section
variable {P : Program} {w : World} {T E : TypeId} {ops : Array Oper} {rest : List Oper} {o : Oper} {a : Act} {Q : Exit → Act → World → Prop}

/-! in the head of a region that draws its order -/
end

/-- n bytes zs at the head of block g, which has room for cap. -/
structure RowB (w : World) (U g n cap : Nat) (zs : List Int) : Prop where
  len : zs.length = n
  le : n ≤ cap
  max : cap ≤ maxLen
  row : ∃ cs, Blk w g U cs ∧ cs.size = cap ∧ cs.toList.take n = u8s zs

section
variable {w w' : World} {U g n cap : Nat} {zs : List Int}
theorem RowB.lt (h : RowB w U g n cap zs) : g < w.heap.size := let ⟨_, hb, _⟩ := h.row; hb.lt
theorem RowB.turned {W : Nat → Prop} (h : RowB w U g n cap zs) (ht : Turned W w w') (hg : ¬ W g) : RowB w' U g n cap zs :=
  let ⟨cs, hb, r⟩ := h.row; ⟨h.len, h.le, h.max, cs, hb.turned ht hg, r⟩
theorem RowB.own (h : RowB w U g n cap zs) {base : Nat} (hb : base ≤ g) : w.ownsRow base U 1 (.slice (some ⟨g, 0, none⟩) n cap) n (u8s zs) :=
  let ⟨cs, hb', hs, ht⟩ := h.row; ⟨by rw [u8s_length, h.len, Nat.mul_one], .inr ⟨g, cap, cs, rfl, hb, hb', h.le, h.max, by rw [hs, Nat.mul_one], by rw [Nat.mul_one]; exact ht⟩⟩
theorem RowB.of_own {base : Nat} (h : w.ownsRow base U 1 (.slice (some ⟨g, 0, none⟩) n cap) n (u8s zs)) : RowB w U g n cap zs := by
  obtain ⟨h1, h2⟩ := h
  rcases h2 with ⟨h2, _⟩ | ⟨g', cap', cs, hv, _, hb, hn, hc, hs, ht⟩
  · cases h2
  · injection hv with hv1 hv2 hv3
    injection hv1 with hv1
    injection hv1 with hv1
    subst hv1 hv3
    rw [Nat.mul_one] at hs ht
    exact ⟨by rw [u8s_length, Nat.mul_one] at h1; exact h1, hn, hc, cs, hb, hs, ht⟩
theorem RowB.cell (h : RowB w U g n cap zs) {i : Nat} (hi : i < n) : w.cell? ⟨g, i, none⟩ = some (.int .u8 (zs.getD i 0)) := by
  obtain ⟨cs, hb, hs, ht⟩ := h.row
  have hl := h.len
  rw [hb.cell]
  have h1 : (u8s zs)[i]? = some (.int .u8 (zs.getD i 0)) := by
    simp only [u8s, List.getElem?_map, List.getD_eq_getElem?_getD]
    rw [List.getElem?_eq_getElem (by omega)]
    rfl
  rw [← ht, List.getElem?_take, if_pos hi] at h1
  simpa using h1
theorem RowB.frozen (h : RowB w U g n cap zs) (i : Nat) : w.frozen? ⟨g, i, none⟩ = false := let ⟨_, hb, _⟩ := h.row; hb.frozen i
/-- A shorter part of it. -/
theorem RowB.cut (h : RowB w U g n cap zs) {k : Nat} (hk : k ≤ n) : RowB w U g k cap (zs.take k) := by
  obtain ⟨cs, hb, hs, ht⟩ := h.row
  have hl := h.len
  have hle := h.le
  refine ⟨by rw [List.length_take]; omega, by omega, h.max, cs, hb, hs, ?_⟩
  have : cs.toList.take k = (cs.toList.take n).take k := by rw [List.take_take, Nat.min_eq_left hk]
  rw [this, ht]
  simp [u8s]
end

section
variable {P : Program} {w : World} {S U : TypeId} {ops : Array Oper} {rest : List Oper} {o : Oper} {a : Act} {Q : Exit → Act → World → Prop}
end
end Go.Proofs.YtglojnmcbochaaaGreatDoor

namespace Go.Proofs.YtglojnmcbochaaaGreatDoor
open Go.RowKit Go.Maps

theorem mixed : Tryz.prog.follows .mixedOrders = true := by kernel_rfl
def RetNew (v : Value) (w : World) (e : Ending) (w' : World) : Prop := e = .returned v ∧ Turned (fun _ => False) w w'

section
end
end Go.Proofs.YtglojnmcbochaaaGreatDoor

namespace Go.Proofs.YtglojnmcbochaaaGreatDoor
open Go.RowKit Go.Maps

end Go.Proofs.YtglojnmcbochaaaGreatDoor

namespace Go.Proofs.YtglojnmcbochaaaGreatDoor
open Go.RowKit Go.Maps

section
variable {P : Program} {ops : Array Oper} {Q : Exit → Act → World → Prop} {md : Region.Mode} {S : World → Prop}

end
end Go.Proofs.YtglojnmcbochaaaGreatDoor

namespace Go.Proofs.YtglojnmcbochaaaGreatDoor
open Go.RowKit Go.Maps

theorem cell_turned {w w' : World} {W : Nat → Prop} (ht : Turned W w w') {a : Addr} {v : Value} (h : w.cell? a = some v) (hW : ¬ W a.block) : w'.cell? a = some v :=
  (World.cell?_of_block (ht.block a.block (World.block_lt_of_cell? w a h) hW)).trans h
end Go.Proofs.YtglojnmcbochaaaGreatDoor

namespace Go.Proofs.YtglojnmcbochaaaGreatDoor
open Go.RowKit Go.Maps

theorem ret_bool {a b : Bool} (h : a = b) : Ending.returned (.bool a) = .returned (.bool b) := by rw [h]
/-- n bytes zs at A. -/
structure BytR (w : World) (A : Option Addr) (n : Nat) (zs : List Int) : Prop where
  len : zs.length = n
  max : n ≤ 9223372036854775807
  cell : 0 < n → ∃ b off, A = some ⟨b, off, none⟩ ∧ ∀ j, j < n → w.cell? ⟨b, off + j, none⟩ = some (.int .u8 (zs.getD j 0))
theorem BytR.none_ (w : World) : BytR w none 0 [] := ⟨rfl, by omega, fun h => absurd h (by omega)⟩
def RetDraw (v : Value) (w : World) (e : Ending) (w' : World) : Prop := e = .returned v ∧ ∃ n, w' = w.drewN n

end Go.Proofs.YtglojnmcbochaaaGreatDoor

namespace Go.Proofs.YtglojnmcbochaaaGreatDoor
open Go.RowKit Go.Maps

def OkNew (w : World) (e : Ending) (w' : World) : Prop := e = .returned (.bool true) ∧ Turned (fun _ => False) w w'

end Go.Proofs.YtglojnmcbochaaaGreatDoor

