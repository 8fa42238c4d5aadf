/-
  ytijmfglgeaaoaaagreatdoor: laws and walks on the road to AskNumbers, joined: CodN CodP DskA Arr DskB DskC Reg DskD Kit Awk. Conditions stand at each theorem.
-/
import Derived.Lib.AtoiAllCases
import Derived.Lib.ItoaNum
import Derived.Test.YtijmfglgeaaoaaaGreatDoorProg
import Derived.Test.YtijmfglgeaaoaaaGreatDoorQSec
import Derived.StillTailTactics
import Derived.OrdersHeld
import Derived.Deep.RegionHeld
import Derived.BigQuiet
import Derived.Deep.QuietTactic
namespace Go.Proofs.YtijmfglgeaaoaaaGreatDoor
open Go.Lib

def int64 (v : Int) : Prop := -9223372036854775808 ≤ v ∧ v ≤ 9223372036854775807
def digB (c : UInt8) : Prop := 48 ≤ c.toNat ∧ c.toNat ≤ 57
instance (c : UInt8) : Decidable (digB c) := by unfold digB; infer_instance
/-! the document's reading -/
end Go.Proofs.YtijmfglgeaaoaaaGreatDoor

namespace Go.Proofs.YtijmfglgeaaoaaaGreatDoor

def upper (c : Nat) : Bool := decide (65 ≤ c) && decide (c ≤ 90)
def digit (c : Nat) : Bool := decide (48 ≤ c) && decide (c ≤ 57)
/-- May byte c stand at place i of a code? -/
def okAt (i c : Nat) : Bool := upper c || (decide (0 < i) && (digit c || c == 45))
def okFrom : Nat → List UInt8 → Bool
  | _, [] => true
  | i, c :: r => okAt i c.toNat && okFrom (i + 1) r
def codeL (l : List UInt8) : Bool := decide (0 < l.length) && decide (l.length ≤ 12) && okFrom 0 l
theorem okFrom_append (i : Nat) (a b : List UInt8) : okFrom i (a ++ b) = (okFrom i a && okFrom (i + a.length) b) := by
  induction a generalizing i with
  | nil => simp [okFrom]
  | cons c r ih =>
    simp only [List.cons_append, okFrom, ih, List.length_cons]
    rw [Bool.and_assoc, show i + 1 + r.length = i + (r.length + 1) by omega]
theorem okFrom_take {l : List UInt8} (h : okFrom 0 l = true) (k : Nat) : okFrom 0 (l.take k) = true := by
  have := okFrom_append 0 (l.take k) (l.drop k)
  rw [List.take_append_drop, h] at this
  simp only [Bool.true_eq, Bool.and_eq_true] at this
  exact this.1
theorem okFrom_snoc (l : List UInt8) (k : Nat) (hk : k < l.length) : okFrom 0 (l.take (k + 1)) = (okFrom 0 (l.take k) && okAt k (l[k]).toNat) := by
  rw [List.take_succ_eq_append_getElem hk, okFrom_append]
  simp only [okFrom, Bool.and_true, Nat.zero_add, List.length_take]
  rw [Nat.min_eq_left (by omega)]
theorem codeL_len {l : List UInt8} (h : codeL l = true) : 0 < l.length ∧ l.length ≤ 12 ∧ okFrom 0 l = true := by
  unfold codeL at h
  simp only [Bool.and_eq_true, decide_eq_true_eq] at h
  exact ⟨h.1.1, h.1.2, h.2⟩
theorem codeL_mk {l : List UInt8} (h1 : 0 < l.length) (h2 : l.length ≤ 12) (h3 : okFrom 0 l = true) : codeL l = true := by
  unfold codeL
  simp only [Bool.and_eq_true, decide_eq_true_eq]
  exact ⟨⟨h1, h2⟩, h3⟩
/-- May these bytes be put? The empty text's, too. -/
def putOk (l : List UInt8) : Bool := decide (l.length = 0) || codeL l
def ints (l : List UInt8) : List Int := l.map fun c => (c.toNat : Int)
theorem ints_length (l : List UInt8) : (ints l).length = l.length := by simp [ints]
/-- A code's bytes. -/
def putL (l : List UInt8) : List Int := if putOk l then (l.length : Int) :: ints l else []
theorem putOk_len {l : List UInt8} (h : putOk l = true) : l.length ≤ 12 := by
  unfold putOk at h
  simp only [Bool.or_eq_true, decide_eq_true_eq] at h
  rcases h with h | h
  · omega
  · exact (codeL_len h).2.1
end Go.Proofs.YtijmfglgeaaoaaaGreatDoor

namespace Go.Proofs.YtijmfglgeaaoaaaGreatDoor
open Go.RowKit Go.Maps

/-- What a disk is: sectors, the latest and the safe bytes of each, which are open, for which it is armed, whether it is down. -/
structure DA where
  n : Int
  lat : Int → List Int
  saf : Int → List Int
  opn : Int → Bool
  armed : Int
  down : Bool

def RetSame (v : Value) (w : World) (e : Ending) (w' : World) : Prop := e = .returned v ∧ w = w'

section
variable (d : Nat) (n k : Int) (w : World) (hn : w.cell? ⟨d, 0, none⟩ = some (.int .i64 n))
include hn
end

def DA.new (n : Int) : DA := ⟨n, fun _ => noughts, fun _ => noughts, fun _ => false, 0, false⟩
end Go.Proofs.YtijmfglgeaaoaaaGreatDoor

namespace Go.Proofs.YtijmfglgeaaoaaaGreatDoor
open Go.RowKit Go.Maps

section
variable {P : Program} {w : World} {T E : TypeId} {ops : Array Oper} {rest : List Oper} {o : Oper} {a : Act} {Q : Exit → Act → World → Prop}

/-! in the head of a region that draws its order -/
end

/-- n bytes zs at the head of block g, which has room for cap. -/
structure RowB (w : World) (U g n cap : Nat) (zs : List Int) : Prop where
  len : zs.length = n
  le : n ≤ cap
  max : cap ≤ maxLen
  row : ∃ cs, Blk w g U cs ∧ cs.size = cap ∧ cs.toList.take n = u8s zs

section
variable {w w' : World} {U g n cap : Nat} {zs : List Int}
theorem RowB.lt (h : RowB w U g n cap zs) : g < w.heap.size := let ⟨_, hb, _⟩ := h.row; hb.lt
theorem RowB.turned {W : Nat → Prop} (h : RowB w U g n cap zs) (ht : Turned W w w') (hg : ¬ W g) : RowB w' U g n cap zs :=
  let ⟨cs, hb, r⟩ := h.row; ⟨h.len, h.le, h.max, cs, hb.turned ht hg, r⟩
theorem RowB.own (h : RowB w U g n cap zs) {base : Nat} (hb : base ≤ g) : w.ownsRow base U 1 (.slice (some ⟨g, 0, none⟩) n cap) n (u8s zs) :=
  let ⟨cs, hb', hs, ht⟩ := h.row; ⟨by rw [u8s_length, h.len, Nat.mul_one], .inr ⟨g, cap, cs, rfl, hb, hb', h.le, h.max, by rw [hs, Nat.mul_one], by rw [Nat.mul_one]; exact ht⟩⟩
theorem RowB.of_own {base : Nat} (h : w.ownsRow base U 1 (.slice (some ⟨g, 0, none⟩) n cap) n (u8s zs)) : RowB w U g n cap zs := by
  obtain ⟨h1, h2⟩ := h
  rcases h2 with ⟨h2, _⟩ | ⟨g', cap', cs, hv, _, hb, hn, hc, hs, ht⟩
  · cases h2
  · injection hv with hv1 hv2 hv3
    injection hv1 with hv1
    injection hv1 with hv1
    subst hv1 hv3
    rw [Nat.mul_one] at hs ht
    exact ⟨by rw [u8s_length, Nat.mul_one] at h1; exact h1, hn, hc, cs, hb, hs, ht⟩
theorem RowB.cell (h : RowB w U g n cap zs) {i : Nat} (hi : i < n) : w.cell? ⟨g, i, none⟩ = some (.int .u8 (zs.getD i 0)) := by
  obtain ⟨cs, hb, hs, ht⟩ := h.row
  have hl := h.len
  rw [hb.cell]
  have h1 : (u8s zs)[i]? = some (.int .u8 (zs.getD i 0)) := by
    simp only [u8s, List.getElem?_map, List.getD_eq_getElem?_getD]
    rw [List.getElem?_eq_getElem (by omega)]
    rfl
  rw [← ht, List.getElem?_take, if_pos hi] at h1
  simpa using h1
theorem RowB.frozen (h : RowB w U g n cap zs) (i : Nat) : w.frozen? ⟨g, i, none⟩ = false := let ⟨_, hb, _⟩ := h.row; hb.frozen i
/-- A shorter part of it. -/
theorem RowB.cut (h : RowB w U g n cap zs) {k : Nat} (hk : k ≤ n) : RowB w U g k cap (zs.take k) := by
  obtain ⟨cs, hb, hs, ht⟩ := h.row
  have hl := h.len
  have hle := h.le
  refine ⟨by rw [List.length_take]; omega, by omega, h.max, cs, hb, hs, ?_⟩
  have : cs.toList.take k = (cs.toList.take n).take k := by rw [List.take_take, Nat.min_eq_left hk]
  rw [this, ht]
  simp [u8s]
end

/-- S is []byte, U byte. -/
structure BytT (P : Program) (S U : TypeId) : Prop where
  und : P.underlying S = some (.slice U)
  info : (P.info? U).map (fun i => (i.zero, i.size, i.bytes)) = some (some (.int .u8 0), 1, 1)

section
variable {P : Program} {w : World} {S U : TypeId} {ops : Array Oper} {rest : List Oper} {o : Oper} {a : Act} {Q : Exit → Act → World → Prop}
theorem news_of_row {g n cap : Nat} {zs : List Int} (h : RowB w U g n cap zs) : ∀ j u, (u8s zs)[j]? = some u → w.cell? ((⟨g, 0, none⟩ : Addr).add j) = some u := by
  intro j u hu
  have hj : j < n := by
    have := (List.getElem?_eq_some_iff.1 hu).1
    rw [u8s_length, h.len] at this
    exact this
  rw [Addr.add_mid, Nat.zero_add, h.cell hj, ← hu]
  have := h.len
  simp only [u8s, List.getElem?_map, List.getD_eq_getElem?_getD]
  rw [List.getElem?_eq_getElem (by omega)]
  rfl
end
end Go.Proofs.YtijmfglgeaaoaaaGreatDoor

namespace Go.Proofs.YtijmfglgeaaoaaaGreatDoor
open Go.RowKit Go.Maps

theorem mixed : Tryz.prog.follows .mixedOrders = true := by kernel_rfl
theorem u8info : (Tryz.prog.info? 5).map (fun i => (i.zero, i.size, i.bytes)) = some (some (.int .u8 0), 1, 1) := by kernel_rfl

theorem bytT : BytT Tryz.prog 22 5 := ⟨Tryz.underlying22, u8info⟩
def RetNew (v : Value) (w : World) (e : Ending) (w' : World) : Prop := e = .returned v ∧ Turned (fun _ => False) w w'

section
end
end Go.Proofs.YtijmfglgeaaoaaaGreatDoor

namespace Go.Proofs.YtijmfglgeaaoaaaGreatDoor
open Go.RowKit Go.Maps

end Go.Proofs.YtijmfglgeaaoaaaGreatDoor

namespace Go.Proofs.YtijmfglgeaaoaaaGreatDoor
open Go.RowKit Go.Maps

section
variable {P : Program} {ops : Array Oper} {Q : Exit → Act → World → Prop} {md : Region.Mode} {S : World → Prop}

end
end Go.Proofs.YtijmfglgeaaoaaaGreatDoor

namespace Go.Proofs.YtijmfglgeaaoaaaGreatDoor
open Go.RowKit Go.Maps

theorem cell_turned {w w' : World} {W : Nat → Prop} (ht : Turned W w w') {a : Addr} {v : Value} (h : w.cell? a = some v) (hW : ¬ W a.block) : w'.cell? a = some v :=
  (World.cell?_of_block (ht.block a.block (World.block_lt_of_cell? w a h) hW)).trans h
end Go.Proofs.YtijmfglgeaaoaaaGreatDoor

namespace Go.Proofs.YtijmfglgeaaoaaaGreatDoor
open Go.RowKit Go.Maps

theorem ret_bool {a b : Bool} (h : a = b) : Ending.returned (.bool a) = .returned (.bool b) := by rw [h]
theorem RowB.set {w : World} {U g n cap : Nat} {zs : List Int} (h : RowB w U g n cap zs) (i : Nat) (z : Int) : RowB (w.setCell ⟨g, i, none⟩ (.int .u8 z)) U g n cap (zs.set i z) := by
  obtain ⟨cs, hb, hs, ht⟩ := h.row
  refine ⟨by simp [h.len], h.le, h.max, _, hb.set_ i _, by simp [hs], ?_⟩
  simp only [Array.toList_setIfInBounds]
  rw [List.take_set, ht]
  simp [u8s, List.map_set]

theorem made_u8 (n : Nat) : (madeCells (Value.int .u8 0).cells (n * 1)).toList = u8s (List.replicate n 0) := by
  unfold madeCells u8s
  apply List.ext_getElem
  · simp
  · intro i h1 h2
    simp [Value.cells, Nat.mod_one]

/-- n bytes zs at A. -/
structure BytR (w : World) (A : Option Addr) (n : Nat) (zs : List Int) : Prop where
  len : zs.length = n
  max : n ≤ 9223372036854775807
  cell : 0 < n → ∃ b off, A = some ⟨b, off, none⟩ ∧ ∀ j, j < n → w.cell? ⟨b, off + j, none⟩ = some (.int .u8 (zs.getD j 0))
theorem BytR.none_ (w : World) : BytR w none 0 [] := ⟨rfl, by omega, fun h => absurd h (by omega)⟩
theorem RowB.bytR {w : World} {U g n cap : Nat} {zs : List Int} (h : RowB w U g n cap zs) : BytR w (some ⟨g, 0, none⟩) n zs :=
  ⟨h.len, by have := h.le; have := h.max; unfold maxLen at this; omega, fun _ => ⟨g, 0, rfl, fun j hj => by rw [Nat.zero_add]; exact h.cell hj⟩⟩

def RetDraw (v : Value) (w : World) (e : Ending) (w' : World) : Prop := e = .returned v ∧ ∃ n, w' = w.drewN n

theorem getD_ext {zs ys : List Int} (hl : zs.length = ys.length) (h : ∀ j, j < zs.length → zs.getD j 0 = ys.getD j 0) : zs = ys := by
  apply List.ext_getElem hl
  intro i h1 h2
  have := h i h1
  simp only [List.getD_eq_getElem?_getD, List.getElem?_eq_getElem h1, List.getElem?_eq_getElem h2] at this
  exact this

def SameRel (n : Nat) (zs ys : List Int) (w : World) (i : Value) (wr : World) : Prop := ∃ j k : Nat, j ≤ n ∧ i = .int .i64 j ∧ wr = w.drewN k ∧ ∀ t, t < j → zs.getD t 0 = ys.getD t 0
set_option maxHeartbeats 400000 in
theorem same_bytes (A B : Option Addr) (n m c1 c2 : Nat) (zs ys : List Int) (w : World) (hz : BytR w A n zs) (hy : BytR w B m ys) :
    Calls Tryz.prog 19 #[.slice A n c1, .slice B m c2] w (RetDraw (.bool (decide (zs = ys))) w) := by
  have hn := hz.max
  have hm := hy.max
  by_cases hnm : n = m
  · subst hnm
    have hz' := Lib.hid hz
    have hy' := Lib.hid hy
    clear hz hy
    go_enter Tryz.func19, Tryz.ntmps19
    go_wp2
    go_loopw [5] (fun i wr => SameRel n zs ys w i wr) (fun i _ => n - (intOf i).toNat)
    case atStart => exact ⟨0, 0, by omega, rfl, rfl, fun t ht => absurd ht (by omega)⟩
    case round =>
      obtain ⟨j, k, hj, rfl, rfl, hall⟩ := hrel
      have hall' := Lib.hid hall
      clear hall
      by_cases hlt : j < n
      · obtain ⟨b1, o1, rfl, k1⟩ := hz'.out.cell (by omega)
        obtain ⟨b2, o2, rfl, k2⟩ := hy'.out.cell (by omega)
        have q1 := k1 j hlt
        have q2 := k2 j hlt
        clear k1 k2
        generalize hx1 : zs.getD j 0 = x1 at q1
        generalize hx2 : ys.getD j 0 = x2 at q2
        have hx1' := Lib.hid hx1
        have hx2' := Lib.hid hx2
        clear hx1 hx2
        have hj0 : (0 : Int) ≤ (j : Int) := by omega
        have hjn : (j : Int) < (n : Int) := by omega
        by_cases he : x1 = x2
        · subst he
          have hall2 : ∀ t, t < j + 1 → zs.getD t 0 = ys.getD t 0 := by
            intro t ht
            by_cases e : t = j
            · subst e; rw [hx1'.out, hx2'.out]
            · exact hall'.out t (by omega)
          have hall3 := Lib.hid hall2
          clear hall2
          go_wp2
          go_quiet (fail)
          go_wp2
          go_roundw
          case rel =>
            first
            | exact ⟨j + 1, k + nq, by omega, by go_num, by first | rfl | rw [World.drewN_drewN], hall3.out⟩
            | ((repeat apply Exists.intro); exact ⟨⟨j + 1, k + nq, by omega, by go_num, by first | rfl | rw [World.drewN_drewN], hall3.out⟩, rfl⟩)
          case measure => simp [intOf]; omega
        · have hne : (x1 != x2) = true := by simpa using he
          clear he
          go_wp2
          go_quiet (fail)
          go_wp2
          go_ret
          refine ⟨ret_bool ?_, k + nq, by first | rfl | rw [World.drewN_drewN]⟩
          symm
          rw [decide_eq_false_iff_not]
          intro e
          subst e
          have := hx1'.out.symm.trans hx2'.out
          subst this
          simp at hne
      · have hjn : j = n := by omega
        have hjn' := Lib.hid hjn
        have hge : (n : Int) ≤ (j : Int) := by omega
        clear hj hjn
        go_wp2
        go_ret
        refine ⟨ret_bool ?_, _, rfl⟩
        symm
        rw [decide_eq_true_eq]
        have l1 := hz'.out.len
        have l2 := hy'.out.len
        have e := hjn'.out
        exact getD_ext (by omega) (fun t ht => hall'.out t (by omega))
  · have hne : ((n : Int) != (m : Int)) = true := by rw [bne_iff_ne]; omega
    have hd : decide (zs = ys) = false := by
      rw [decide_eq_false_iff_not]
      intro e
      have l1 := hz.len
      have l2 := hy.len
      rw [e] at l1
      omega
    have hd' := Lib.hid hd
    clear hz hy hd
    go_enter Tryz.func19, Tryz.ntmps19
    go_wp2
    go_ret
    exact ⟨ret_bool hd'.out.symm, 0, rfl⟩
end Go.Proofs.YtijmfglgeaaoaaaGreatDoor

namespace Go.Proofs.YtijmfglgeaaoaaaGreatDoor
open Go.RowKit Go.Maps

theorem same_yes (A B : Option Addr) (n m c1 c2 : Nat) (zs ys : List Int) (w : World) (hz : BytR w A n zs) (hy : BytR w B m ys) (h : zs = ys) :
    Calls Tryz.prog 19 #[.slice A n c1, .slice B m c2] w (RetDraw (.bool true) w) := by
  have := same_bytes A B n m c1 c2 zs ys w hz hy
  rw [decide_eq_true h] at this
  exact this

def OkNew (w : World) (e : Ending) (w' : World) : Prop := e = .returned (.bool true) ∧ Turned (fun _ => False) w w'

end Go.Proofs.YtijmfglgeaaoaaaGreatDoor

