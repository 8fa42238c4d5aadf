/-
  ytglojnmcbochaaagreatdoor: laws and walks on the road to LinesNumbers, joined: CodP DskA Arr DskB DskC Reg DskD Kit Awk CodA CodB KitB Own CodC CodD CodQ. Conditions stand at each theorem.
-/
import Derived.Test.YtglojnmcbochaaaGreatDoorUCodN
import Derived.Test.YtglojnmcbochaaaGreatDoorProg
import Derived.StillTailTactics
import Derived.OrdersHeld
import Derived.Deep.RegionHeld
import Derived.BigQuiet
import Derived.Deep.QuietTactic
import Derived.Lib.OthersKept
import Derived.Laws.RangeAny
import Derived.Laws.BytesString
import Derived.IntWalk
import Derived.Lib.AppendZerosOnto
import Derived.Lib.AppendStr
import Derived.Lib.ConvBytes
import Derived.Lib.AtoiErrMem
import Derived.Laws.BytesArg
namespace Go.Proofs.YtglojnmcbochaaaGreatDoor

def upper (c : Nat) : Bool := decide (65 ≤ c) && decide (c ≤ 90)
def digit (c : Nat) : Bool := decide (48 ≤ c) && decide (c ≤ 57)
def okAt (i c : Nat) : Bool := upper c || (decide (0 < i) && (digit c || c == 45))
def okFrom : Nat → List UInt8 → Bool
  | _, [] => true
  | i, c :: r => okAt i c.toNat && okFrom (i + 1) r
def codeL (l : List UInt8) : Bool := decide (0 < l.length) && decide (l.length ≤ 12) && okFrom 0 l
theorem okFrom_append (i : Nat) (a b : List UInt8) : okFrom i (a ++ b) = (okFrom i a && okFrom (i + a.length) b) := by
  induction a generalizing i with
  | nil => simp [okFrom]
  | cons c r ih =>
    simp only [zG, okFrom, ih, List.length_cons]
    rw [Bool.and_assoc, show i + 1 + r.length = i + (r.length + 1) by omega]
theorem okFrom_take {l : List UInt8} (h : okFrom 0 l = true) (k : Nat) : okFrom 0 (l.take k) = true := by
  have := okFrom_append 0 (l.take k) (l.drop k)
  rw [List.take_append_drop, h] at this
  simp only [Bool.true_eq, zD] at this
  exact this.1
theorem okFrom_snoc (l : List UInt8) (k : Nat) (hk : k < l.length) : okFrom 0 (l.take (k + 1)) = (okFrom 0 (l.take k) && okAt k (l[k]).toNat) := by
  rw [List.take_succ_eq_append_getElem hk, okFrom_append]
  simp only [okFrom, Bool.and_true, Nat.zero_add, List.length_take]
  rw [Nat.min_eq_left (by omega)]
theorem codeL_len {l : List UInt8} (h : codeL l = true) : 0 < l.length ∧ l.length ≤ 12 ∧ okFrom 0 l = true := by
  unfold codeL at h
  simp only [zD, zE] at h
  exact ⟨h.1.1, h.1.2, h.2⟩
theorem codeL_mk {l : List UInt8} (h1 : 0 < l.length) (h2 : l.length ≤ 12) (h3 : okFrom 0 l = true) : codeL l = true := by
  unfold codeL
  simp only [zD, zE]
  exact ⟨⟨h1, h2⟩, h3⟩
def putOk (l : List UInt8) : Bool := decide (l.length = 0) || codeL l
end Go.Proofs.YtglojnmcbochaaaGreatDoor

namespace Go.Proofs.YtglojnmcbochaaaGreatDoor
open Go.RowKit Go.Maps

structure DA where
  n : Int
  lat : Int → List Int
  saf : Int → List Int
  opn : Int → Bool
  armed : Int
  down : Bool

def RetSame (v : Value) (w : World) (e : Ending) (w' : World) : Prop := e = .returned v ∧ w = w'

section
variable (d : Nat) (n k : Int) (w : World) (hn : w.cell? ⟨d, 0, none⟩ = some (.int .i64 n))
include hn
end

def DA.new (n : Int) : DA := ⟨n, fun _ => noughts, fun _ => noughts, fun _ => false, 0, false⟩
end Go.Proofs.YtglojnmcbochaaaGreatDoor

namespace Go.Proofs.YtglojnmcbochaaaGreatDoor
open Go.RowKit Go.Maps

section
variable {P : Program} {w : World} {T E : TypeId} {ops : Array Oper} {rest : List Oper} {o : Oper} {a : Act} {Q : Exit → Act → World → Prop}

/-! in the head of a region that draws its order -/
end

structure RowB (w : World) (U g n cap : Nat) (zs : List Int) : Prop where
  len : zs.length = n
  le : n ≤ cap
  max : cap ≤ maxLen
  row : ∃ cs, Blk w g U cs ∧ cs.size = cap ∧ cs.toList.take n = u8s zs

section
variable {w w' : World} {U g n cap : Nat} {zs : List Int}
theorem RowB.lt (h : RowB w U g n cap zs) : g < w.heap.size := let ⟨_, hb, _⟩ := h.row; hb.lt
theorem RowB.turned {W : Nat → Prop} (h : RowB w U g n cap zs) (ht : Turned W w w') (hg : ¬ W g) : RowB w' U g n cap zs :=
  let ⟨cs, hb, r⟩ := h.row; ⟨h.len, h.le, h.max, cs, hb.turned ht hg, r⟩
theorem RowB.own (h : RowB w U g n cap zs) {base : Nat} (hb : base ≤ g) : w.ownsRow base U 1 (.slice (some ⟨g, 0, none⟩) n cap) n (u8s zs) :=
  let ⟨cs, hb', hs, ht⟩ := h.row; ⟨by rw [u8s_length, h.len, Nat.mul_one], .inr ⟨g, cap, cs, rfl, hb, hb', h.le, h.max, by rw [hs, Nat.mul_one], by rw [Nat.mul_one]; exact ht⟩⟩
theorem RowB.of_own {base : Nat} (h : w.ownsRow base U 1 (.slice (some ⟨g, 0, none⟩) n cap) n (u8s zs)) : RowB w U g n cap zs := by
  obtain ⟨h1, h2⟩ := h
  rcases h2 with ⟨h2, _⟩ | ⟨g', cap', cs, hv, _, hb, hn, hc, hs, ht⟩
  · cases h2
  · injection hv with hv1 hv2 hv3
    injection hv1 with hv1
    injection hv1 with hv1
    subst hv1 hv3
    rw [Nat.mul_one] at hs ht
    exact ⟨by rw [u8s_length, Nat.mul_one] at h1; exact h1, hn, hc, cs, hb, hs, ht⟩
theorem RowB.cell (h : RowB w U g n cap zs) {i : Nat} (hi : i < n) : w.cell? ⟨g, i, none⟩ = some (.int .u8 (zs.getD i 0)) := by
  obtain ⟨cs, hb, hs, ht⟩ := h.row
  have hl := h.len
  rw [hb.cell]
  have h1 : (u8s zs)[i]? = some (.int .u8 (zs.getD i 0)) := by
    simp only [u8s, List.getElem?_map, List.getD_eq_getElem?_getD]
    rw [List.getElem?_eq_getElem (by omega)]
    rfl
  rw [← ht, List.getElem?_take, if_pos hi] at h1
  simpa using h1
theorem RowB.frozen (h : RowB w U g n cap zs) (i : Nat) : w.frozen? ⟨g, i, none⟩ = false := let ⟨_, hb, _⟩ := h.row; hb.frozen i
theorem RowB.cut (h : RowB w U g n cap zs) {k : Nat} (hk : k ≤ n) : RowB w U g k cap (zs.take k) := by
  obtain ⟨cs, hb, hs, ht⟩ := h.row
  have hl := h.len
  have hle := h.le
  refine ⟨by rw [List.length_take]; omega, by omega, h.max, cs, hb, hs, ?_⟩
  have : cs.toList.take k = (cs.toList.take n).take k := by rw [List.take_take, Nat.min_eq_left hk]
  rw [this, ht]
  simp [u8s]
end

section
variable {P : Program} {w : World} {S U : TypeId} {ops : Array Oper} {rest : List Oper} {o : Oper} {a : Act} {Q : Exit → Act → World → Prop}
end
end Go.Proofs.YtglojnmcbochaaaGreatDoor

namespace Go.Proofs.YtglojnmcbochaaaGreatDoor
open Go.RowKit Go.Maps

theorem mixed : Tryz.prog.follows .mixedOrders = true := by kernel_rfl
def RetNew (v : Value) (w : World) (e : Ending) (w' : World) : Prop := e = .returned v ∧ Turned (fun _ => False) w w'

section
end
end Go.Proofs.YtglojnmcbochaaaGreatDoor

namespace Go.Proofs.YtglojnmcbochaaaGreatDoor
open Go.RowKit Go.Maps

end Go.Proofs.YtglojnmcbochaaaGreatDoor

namespace Go.Proofs.YtglojnmcbochaaaGreatDoor
open Go.RowKit Go.Maps

section
variable {P : Program} {ops : Array Oper} {Q : Exit → Act → World → Prop} {md : Region.Mode} {S : World → Prop}

end
end Go.Proofs.YtglojnmcbochaaaGreatDoor

namespace Go.Proofs.YtglojnmcbochaaaGreatDoor
open Go.RowKit Go.Maps

theorem cell_turned {w w' : World} {W : Nat → Prop} (ht : Turned W w w') {a : Addr} {v : Value} (h : w.cell? a = some v) (hW : ¬ W a.block) : w'.cell? a = some v :=
  (World.cell?_of_block (ht.block a.block (World.block_lt_of_cell? w a h) hW)).trans h
end Go.Proofs.YtglojnmcbochaaaGreatDoor

namespace Go.Proofs.YtglojnmcbochaaaGreatDoor
open Go.RowKit Go.Maps

theorem ret_bool {a b : Bool} (h : a = b) : Ending.returned (.bool a) = .returned (.bool b) := by rw [h]
theorem RowB.set {w : World} {U g n cap : Nat} {zs : List Int} (h : RowB w U g n cap zs) (i : Nat) (z : Int) : RowB (w.setCell ⟨g, i, none⟩ (.int .u8 z)) U g n cap (zs.set i z) := by
  obtain ⟨cs, hb, hs, ht⟩ := h.row
  refine ⟨by simp [h.len], h.le, h.max, _, hb.set_ i _, by simp [hs], ?_⟩
  simp only [Array.toList_setIfInBounds]
  rw [List.take_set, ht]
  simp [u8s, List.map_set]

structure BytR (w : World) (A : Option Addr) (n : Nat) (zs : List Int) : Prop where
  len : zs.length = n
  max : n ≤ 9223372036854775807
  cell : 0 < n → ∃ b off, A = some ⟨b, off, none⟩ ∧ ∀ j, j < n → w.cell? ⟨b, off + j, none⟩ = some (.int .u8 (zs.getD j 0))
theorem BytR.none_ (w : World) : BytR w none 0 [] := ⟨rfl, by omega, fun h => absurd h (by omega)⟩
def RetDraw (v : Value) (w : World) (e : Ending) (w' : World) : Prop := e = .returned v ∧ ∃ n, w' = w.drewN n

end Go.Proofs.YtglojnmcbochaaaGreatDoor

namespace Go.Proofs.YtglojnmcbochaaaGreatDoor
open Go.RowKit Go.Maps

def OkNew (w : World) (e : Ending) (w' : World) : Prop := e = .returned (.bool true) ∧ Turned (fun _ => False) w w'

end Go.Proofs.YtglojnmcbochaaaGreatDoor

namespace Go.Proofs.YtglojnmcbochaaaGreatDoor
open Go.RowKit Go.Maps
set_option linter.unusedVariables false

def BoolNew (b : Bool) (w : World) (e : Ending) (w' : World) : Prop := e = .returned (.bool b) ∧ Turned (fun _ => False) w w'
theorem Turned.iterAt {W : Nat → Prop} {a b : World} (h : Turned W a b) {k : Nat} (hk : a.heap.size ≤ k) (s : ByteArray) (p : Nat) : Turned W a (b.iterAt k s p) :=
  ⟨h.os, h.tape, h.output, by simpa [World.iterAt] using h.size, fun i hi hn => by
    have := h.block i hi hn
    simp only [World.iterAt]
    rw [Array.getElem?_setIfInBounds_ne (by omega)]
    exact this⟩
theorem ba_get (s : ByteArray) (i : Nat) (h : i < s.size) : s.data.toList[i]'(by simpa using h) = s[i] := by
  simp [ByteArray.getElem_eq_getElem_data]
theorem ba_size (s : ByteArray) : s.data.toList.length = s.size := by simp
theorem code_end (s : ByteArray) (ho : okFrom 0 (s.data.toList.take s.size) = true) : codeL s.data.toList = (!s.toList.isEmpty && decide ((s.size : Int) ≤ 12)) := by
  rw [List.take_of_length_le (by rw [ba_size]; exact Nat.le_refl _)] at ho
  unfold codeL
  rw [ho, Bool.and_true, ByteArray.toList_eq, ba_size]
  have h1 : decide (0 < s.size) = !s.data.toList.isEmpty := by
    rw [← ba_size s]
    cases s.data.toList <;> simp
  rw [h1]
  congr 1
  simp only [decide_eq_decide]
  omega
def RgtRel (s : ByteArray) (w wr : World) : Prop := ∃ pos : Nat, pos ≤ s.size ∧ wr.heap[w.heap.size]? = some (.stringIter s pos) ∧ okFrom 0 (s.data.toList.take pos) = true ∧ Turned (fun _ => False) w wr
theorem rgt_step {s : ByteArray} {w wr : World} {pos : Nat} (hp : pos < s.size) (hk : wr.heap[w.heap.size]? = some (.stringIter s pos)) (ho : okFrom 0 (s.data.toList.take pos) = true) (ht : Turned (fun _ => False) w wr) (h : okAt pos (s[pos]'hp).toNat = true) :
    RgtRel s w (wr.iterAt w.heap.size s (pos + 1)) := by
  refine ⟨pos + 1, hp, Lib.iterAt_heap _ _ _ _ _ hk, ?_, ht.iterAt (Nat.le_refl _) _ _⟩
  rw [okFrom_snoc _ _ (by rw [ba_size]; exact hp), ho, ba_get s pos hp, h]
  rfl
theorem okAt_iff (i c : Nat) : okAt i c = true ↔ (65 ≤ c ∧ c ≤ 90) ∨ (0 < i ∧ ((48 ≤ c ∧ c ≤ 57) ∨ c = 45)) := by
  unfold okAt upper digit
  simp only [Bool.or_eq_true, zD, zE, beq_iff_eq]
theorem not_code {s : ByteArray} {pos : Nat} (hp : pos < s.size) (h : okAt pos (s[pos]'hp).toNat ≠ true) : codeL s.data.toList = false := by
  cases hc : codeL s.data.toList with
  | false => rfl
  | true =>
    exfalso
    have h1 := okFrom_take (codeL_len hc).2.2 (pos + 1)
    rw [okFrom_snoc _ _ (by rw [ba_size]; exact hp), ba_get s pos hp] at h1
    simp only [zD] at h1
    exact h h1.2
set_option maxRecDepth 100000 in
set_option maxHeartbeats 1000000 in
theorem right_any (s : ByteArray) (w : World) (hs : s.size ≤ 9223372036854775807) :
    Calls Tryz.prog 47 #[.string s] w (BoolNew (codeL s.data.toList) w) := by
  have hk0 := World.iter_heap w s 0
  have hk0' := hZ hk0
  clear hk0
  go_enter Tryz.func47, Tryz.ntmps47
  go_wp2
  go_loopw [4] (fun _ wr => RgtRel s w wr) (fun _ wr => s.size - wr.iterPos w.heap.size)
  case atStart => exact ⟨0, by omega, hk0'.out, rfl, (Turned.refl _ w).alloc _⟩
  case round =>
    obtain ⟨pos, hps, hk, ho, ht⟩ := hrel
    by_cases hp : pos < s.size
    · by_cases ha : (s[pos]'hp).toNat < 128
      · have hnext : ∀ ty, (Instr.next (.pointer (some ⟨w.heap.size, 0, none⟩)) true ty).run Tryz.prog wr = _ := fun ty => Lib.run_next_ascii_at wr w.heap.size s pos ty hk hp ha
        have hmu : wr.iterPos w.heap.size = pos := by simp [World.iterPos, hk]
        have hmu' := hZ hmu
        by_cases hok : okAt pos (s[pos]'hp).toNat = true
        · have hR := hZ (rgt_step hp hk ho ht hok)
          have hm2 : (wr.iterAt w.heap.size s (pos + 1)).iterPos w.heap.size = pos + 1 := by simp [World.iterPos, Lib.iterAt_heap _ _ _ _ _ hk]
          have hm2' := hZ hm2
          rw [okAt_iff] at hok
          generalize wr.iterAt w.heap.size s (pos + 1) = W1 at hnext hR hm2'
          generalize (s[pos]'hp).toNat = c at hnext hok
          clear hk ho ht hm2 hmu ha
          have hpi : (0 : Int) ≤ (pos : Int) := by omega
          rcases hok with ⟨h1, h2⟩ | ⟨h0, (⟨h1, h2⟩ | h1)⟩
          · have h1' : (65 : Int) ≤ (c : Int) := by omega
            have h2' : (c : Int) ≤ 90 := by omega
            go_wp2
            exact ⟨hR.out, by rw [hmu'.out, hm2'.out]; omega⟩
          · have h1' : (48 : Int) ≤ (c : Int) := by omega
            have h2' : (c : Int) ≤ 57 := by omega
            have h3' : (c : Int) < 65 := by omega
            have h0' : (0 : Int) < (pos : Int) := by omega
            go_wp2
            exact ⟨hR.out, by rw [hmu'.out, hm2'.out]; omega⟩
          · subst h1
            have h0' : (0 : Int) < (pos : Int) := by omega
            go_wp2
            exact ⟨hR.out, by rw [hmu'.out, hm2'.out]; omega⟩
        · have hno := hZ (not_code hp hok)
          have ht1 := hZ (ht.iterAt (Nat.le_refl _) s (pos + 1))
          rw [okAt_iff] at hok
          generalize wr.iterAt w.heap.size s (pos + 1) = W1 at hnext ht1
          generalize (s[pos]'hp).toNat = c at hnext hok
          clear hk ho ht hmu ha hmu'
          have hpi : (0 : Int) ≤ (pos : Int) := by omega
          go_wp2
          all_goals first
            | (go_ret; rw [hno.out]; exact ⟨rfl, ht1.out⟩)
            | (exfalso; simp only [beq_iff_eq] at *; omega)
      · have hnext : ∀ ty, (Instr.next (.pointer (some ⟨w.heap.size, 0, none⟩)) true ty).run Tryz.prog wr = _ := fun ty => Lib.run_next_any_at wr w.heap.size s pos ty hk hp
        have hr := (decode_high s pos hp (by omega)).1
        have hno := hZ (not_code hp (fun e => by rw [okAt_iff] at e; omega))
        have ht1 := hZ (ht.iterAt (Nat.le_refl _) s (pos + (Utf8.decode s pos).2))
        generalize wr.iterAt w.heap.size s (pos + (Utf8.decode s pos).2) = W1 at hnext ht1
        generalize (Utf8.decode s pos).1 = r at hnext hr
        have hr1 : (128 : Int) ≤ (r : Int) := by omega
        have hr2 : (90 : Int) < (r : Int) := by omega
        have hr3 : (57 : Int) < (r : Int) := by omega
        have hr4 : ((r : Int) == 45) = false := by rw [beq_eq_false_iff_ne]; omega
        clear hk ho ht ha
        have hpi : (0 : Int) ≤ (pos : Int) := by omega
        go_wp2
        all_goals first
          | (go_ret; rw [hno.out]; exact ⟨rfl, ht1.out⟩)
          | (exfalso; simp only [beq_iff_eq] at *; omega)
    · have hnext : ∀ ty, (Instr.next (.pointer (some ⟨w.heap.size, 0, none⟩)) true ty).run Tryz.prog wr = _ := fun ty => Lib.run_next_end_at wr w.heap.size s pos ty hk hp
      have hps2 : pos = s.size := by omega
      have hho := hZ ho
      have hth := hZ ht
      clear ho ht hk
      subst hps2
      go_wp2
      · have e : codeL s.data.toList = false := by
          rw [code_end s hho.out]
          have : s.toList = [] := by assumption
          rw [this]
          rfl
        go_ret
        rw [e]
        exact ⟨rfl, hth.out⟩
      · have e := code_end s hho.out
        go_ret
        rw [e]
        exact ⟨rfl, hth.out⟩
end Go.Proofs.YtglojnmcbochaaaGreatDoor

namespace Go.Proofs.YtglojnmcbochaaaGreatDoor
open Go.RowKit Go.Maps
set_option linter.unusedVariables false

theorem not_ok_at {s : ByteArray} {pos : Nat} (hp : pos < s.size) (h : okAt pos (s[pos]'hp).toNat = true) (ho : okFrom 0 (s.data.toList.take pos) = true) : okFrom 0 (s.data.toList.take (pos + 1)) = true := by
  rw [okFrom_snoc _ _ (by rw [ba_size]; exact hp), ho, ba_get s pos hp, h]
  rfl
set_option maxRecDepth 100000 in
set_option maxHeartbeats 1000000 in
theorem rright_any (s : ByteArray) (w : World) (hs : s.size ≤ 9223372036854775807) :
    Calls Tryz.prog 109 #[.string s] w (RetSame (.bool (codeL s.data.toList)) w) := by
  by_cases h1 : s.size < 1
  · have e : codeL s.data.toList = false := by
      unfold codeL
      rw [ba_size]
      have : decide (0 < s.size) = false := decide_eq_false (by omega)
      rw [this]
      rfl
    have h1i : (s.size : Int) < 1 := by omega
    have e' := hZ e
    clear e
    go_enter Tryz.func109, Tryz.ntmps109
    go_wp2
    go_ret
    rw [e'.out]
    exact ⟨rfl, rfl⟩
  · by_cases h2 : 12 < s.size
    · have e : codeL s.data.toList = false := by
        unfold codeL
        rw [ba_size]
        have : decide (s.size ≤ 12) = false := decide_eq_false (by omega)
        rw [this]
        simp
      have h1i : (1 : Int) ≤ (s.size : Int) := by omega
      have h2i : (12 : Int) < (s.size : Int) := by omega
      have e' := hZ e
      clear e
      go_enter Tryz.func109, Tryz.ntmps109
      go_wp2
      go_ret
      rw [e'.out]
      exact ⟨rfl, rfl⟩
    · have h1i : (1 : Int) ≤ (s.size : Int) := by omega
      have h2i : (s.size : Int) ≤ 12 := by omega
      go_enter Tryz.func109, Tryz.ntmps109
      go_wp2
      go_loop [3] (fun i => ∃ j : Nat, j ≤ s.size ∧ i = .int .i64 j ∧ okFrom 0 (s.data.toList.take j) = true) (fun i => s.size - (intOf i).toNat)
      case atStart => exact ⟨0, by omega, rfl, rfl⟩
      case round =>
        obtain ⟨j, hj, rfl, ho⟩ := hrel
        have ho' := hZ ho
        clear ho
        by_cases hlt : j < s.size
        · have hji : (j : Int) < (s.size : Int) := by omega
          by_cases hok : okAt j (s[j]'hlt).toNat = true
          · have hR := hZ (not_ok_at hlt hok ho'.out)
            rw [okAt_iff] at hok
            go_wp2
            all_goals first
              | (go_round
                 case rel => exact ⟨j + 1, by omega, by go_num, hR.out⟩
                 case measure => simp [intOf]; omega)
              | (exfalso; simp only [beq_iff_eq, beq_eq_false_iff_ne, ne_eq, Bool.not_eq_eq_eq_not, Bool.not_true] at *; omega)
              | (subst_vars; exfalso; simp only [Bool.not_eq_false', Bool.not_eq_true', zE, decide_eq_false_iff_not, beq_iff_eq, beq_eq_false_iff_ne, ne_eq] at *; omega)
          · have hno := hZ (not_code hlt hok)
            rw [okAt_iff] at hok
            go_wp2
            all_goals first
              | (go_ret; rw [hno.out]; exact ⟨rfl, rfl⟩)
              | (exfalso; simp only [zE, beq_iff_eq, beq_eq_false_iff_ne, ne_eq, Bool.not_eq_eq_eq_not, Bool.not_false] at *; omega)
              | (subst_vars; exfalso; simp only [] at *; omega)
        · have hjn : s.size = j := by omega
          have hge : (s.size : Int) ≤ (j : Int) := by omega
          have e : codeL s.data.toList = true := by
            have := ho'.out
            rw [← hjn, List.take_of_length_le (by rw [ba_size]; exact Nat.le_refl _)] at this
            exact codeL_mk (by rw [ba_size]; omega) (by rw [ba_size]; omega) this
          have e' := hZ e
          clear e hjn
          go_wp2
          go_ret
          rw [e'.out]
          exact ⟨rfl, rfl⟩
end Go.Proofs.YtglojnmcbochaaaGreatDoor

namespace Go.Proofs.YtglojnmcbochaaaGreatDoor
open Go.RowKit Go.Maps

theorem mark_any (k i : Int) (w : World) (h0 : 0 ≤ k) (h1 : k ≤ 1000) (h2 : 0 ≤ i) (h3 : i ≤ 10000000) :
    Calls Tryz.prog 130 #[.int .i64 k, .int .i64 i] w (RetSame (.int .i64 (1000003 * (k + 7) + i)) w) := by
  go_enter Tryz.func130, Tryz.ntmps130
  go_wp2
  go_ret
  exact ⟨rfl, rfl⟩
theorem getD_app_l {α : Type} (a b : List α) (i : Nat) (d : α) (h : i < a.length) : (a ++ b).getD i d = a.getD i d := by
  simp [List.getD_eq_getElem?_getD, List.getElem?_append_left h]
theorem getD_app_r {α : Type} (a b : List α) (i : Nat) (d : α) (h : a.length ≤ i) : (a ++ b).getD i d = b.getD (i - a.length) d := by
  simp [List.getD_eq_getElem?_getD, List.getElem?_append_right h]

structure BytS (w : World) (A : Option Addr) (n c : Nat) (zs : List Int) : Prop extends BytR w A n zs where
  nil_ : A = none → n = 0 ∧ c = 0
theorem BytS.news {w : World} {A : Option Addr} {n c : Nat} {zs : List Int} (h : BytS w A n c zs) : ∀ ad, A = some ad → ∀ j u, (u8s zs)[j]? = some u → w.cell? (ad.add j) = some u := by
  intro ad had j u hu
  have hj : j < n := by
    have := (List.getElem?_eq_some_iff.1 hu).1
    rw [u8s_length, h.len] at this
    exact this
  obtain ⟨b, off, rfl, hc⟩ := h.cell (by omega)
  injection had with had
  subst had
  have hl := h.len
  rw [Addr.add_mid, hc j hj, ← hu]
  simp only [u8s, List.getElem?_map, List.getD_eq_getElem?_getD]
  rw [List.getElem?_eq_getElem (by omega)]
  rfl
theorem BytR.turned {w w' : World} {W : Nat → Prop} {A : Option Addr} {n : Nat} {zs : List Int} (h : BytR w A n zs) (ht : Turned W w w') (hW : ∀ b o, A = some ⟨b, o, none⟩ → ¬ W b) : BytR w' A n zs :=
  ⟨h.len, h.max, fun hn => by
    obtain ⟨b, off, e, hc⟩ := h.cell hn
    exact ⟨b, off, e, fun j hj => cell_turned ht (hc j hj) (hW b off e)⟩⟩
theorem BytS.turned {w w' : World} {W : Nat → Prop} {A : Option Addr} {n c : Nat} {zs : List Int} (h : BytS w A n c zs) (ht : Turned W w w') (hW : ∀ b o, A = some ⟨b, o, none⟩ → ¬ W b) : BytS w' A n c zs :=
  ⟨h.toBytR.turned ht hW, h.nil_⟩

end Go.Proofs.YtglojnmcbochaaaGreatDoor

namespace Go.Proofs.YtglojnmcbochaaaGreatDoor
open Go.RowKit Go.Maps

def OwnV (w : World) (A : Option Addr) (n c : Nat) (zs : List Int) : Prop := w.ownsRow 0 5 1 (.slice A n c) n (u8s zs)
section
variable {w w' : World} {A : Option Addr} {n c : Nat} {zs : List Int}
theorem OwnV.nil (w : World) : OwnV w none 0 0 [] := World.ownsRow_nil _ _ _ _
theorem OwnV.of_row {g : Nat} (h : RowB w 5 g n c zs) : OwnV w (some ⟨g, 0, none⟩) n c zs := h.own (Nat.zero_le _)
theorem OwnV.row_or (h : OwnV w A n c zs) : (A = none ∧ n = 0 ∧ c = 0 ∧ zs = []) ∨ ∃ g, A = some ⟨g, 0, none⟩ ∧ RowB w 5 g n c zs := by
  rcases h.2 with ⟨h1, h2⟩ | ⟨g, cap, cur, hv, _⟩
  · left
    injection h1 with h3 h4 h5
    refine ⟨h3, h2, h5, ?_⟩
    have := h.1
    rw [u8s_length, h2] at this
    exact List.length_eq_zero_iff.1 (by omega)
  · right
    injection hv with h3 h4 h5
    subst h3 h5
    exact ⟨g, rfl, RowB.of_own (base := 0) h⟩
theorem OwnV.len (h : OwnV w A n c zs) : zs.length = n := by
  have := h.1
  rw [u8s_length] at this
  omega
theorem OwnV.row {g : Nat} (h : OwnV w (some ⟨g, 0, none⟩) n c zs) : RowB w 5 g n c zs := RowB.of_own (base := 0) h
theorem OwnV.some_ (h : OwnV w A n c zs) (hn : 0 < n) : ∃ g, A = some ⟨g, 0, none⟩ ∧ RowB w 5 g n c zs := by
  rcases h.row_or with ⟨_, h1, _⟩ | h1
  · omega
  · exact h1
theorem OwnV.turned {W : Nat → Prop} (h : OwnV w A n c zs) (ht : Turned W w w') (hW : ∀ g, A = some ⟨g, 0, none⟩ → ¬ W g) : OwnV w' A n c zs := by
  rcases h.row_or with ⟨rfl, rfl, rfl, rfl⟩ | ⟨g, rfl, hr⟩
  · exact OwnV.nil _
  · exact OwnV.of_row (hr.turned ht (hW g rfl))
theorem OwnV.set {g : Nat} (h : OwnV w (some ⟨g, 0, none⟩) n c zs) (i : Nat) (z : Int) : OwnV (w.setCell ⟨g, i, none⟩ (.int .u8 z)) (some ⟨g, 0, none⟩) n c (zs.set i z) := OwnV.of_row (h.row.set i z)
theorem OwnV.far {g : Nat} (h : OwnV w A n c zs) (hA : A ≠ some ⟨g, 0, none⟩) (i : Nat) (u : Value) : OwnV (w.setCell ⟨g, i, none⟩ u) A n c zs :=
  h.turned ((Turned.refl (· = g) w).setCell (.inl rfl) u) (fun g' e e' => hA (by rw [e, e']))
theorem OwnV.take {m : Nat} (h : OwnV w A n c zs) (hm : m ≤ n) (hs : A ≠ none) : OwnV w A m c (zs.take m) := by
  rcases h.row_or with ⟨rfl, _⟩ | ⟨g, rfl, hr⟩
  · exact absurd rfl hs
  · exact OwnV.of_row (hr.cut hm)
theorem OwnV.lt {g : Nat} (h : OwnV w A n c zs) (hA : A = some ⟨g, 0, none⟩) : g < w.heap.size := by subst hA; exact h.row.lt
theorem OwnV.max (h : OwnV w A n c zs) : n ≤ c ∧ c ≤ maxLen := by
  rcases h.row_or with ⟨_, rfl, rfl, _⟩ | ⟨g, rfl, hr⟩
  · exact ⟨Nat.le_refl _, Nat.zero_le _⟩
  · exact ⟨hr.le, hr.max⟩
theorem OwnV.blk {g L : Nat} {T : TypeId} {cs : Array Value} (h : OwnV w A n c zs) (hL : Blk w L T cs) (hT : T ≠ 5) (hA : A = some ⟨g, 0, none⟩) : g ≠ L := by
  subst hA
  obtain ⟨cs', hb, _⟩ := h.row.row
  rintro rfl
  exact hT (Blk.inj hL hb).2
end

section
variable {P : Program} {w : World} {S : TypeId} {A : Option Addr} {n c : Nat} {zs : List Int}
end
end Go.Proofs.YtglojnmcbochaaaGreatDoor

namespace Go.Proofs.YtglojnmcbochaaaGreatDoor
open Go.RowKit Go.Maps
set_option linter.unusedVariables false

theorem OwnV.one (w : World) (x : Int) : OwnV (w.alloc (.cells #[.int .u8 x] 5)) (some ⟨w.heap.size, 0, none⟩) 1 1 [x] :=
  OwnV.of_row ⟨rfl, Nat.le_refl _, by unfold maxLen; omega, _, Blk.new _ _ _, rfl, rfl⟩
theorem ba_empty {s : ByteArray} (h : s.size = 0) : s = ⟨#[]⟩ := by
  have : s.data = #[] := Array.eq_empty_of_size_eq_zero h
  cases s
  simp at this
  rw [this]
theorem ba_ne {s : ByteArray} (h : 0 < s.size) : ¬ s.toList = [] ∧ s.toList.isEmpty = false := by
  rw [ByteArray.toList_eq]
  have := ba_size s
  cases hd : s.data.toList with
  | nil => rw [hd] at this; simp at this; omega
  | cons a r => simp
theorem turned_bytes (w : World) (s : ByteArray) : Turned (fun _ => False) w (Lib.bytesWorld w 5 s) := Turned.of_below (Lib.bytesWorld_below w _ s) _
end Go.Proofs.YtglojnmcbochaaaGreatDoor

namespace Go.Proofs.YtglojnmcbochaaaGreatDoor
open Go.RowKit Go.Maps
set_option linter.unusedVariables false

def toB (zs : List Int) : List UInt8 := zs.map fun n => UInt8.ofNat n.toNat
def getL : List Int → Option (List UInt8)
  | [] => none
  | x :: r => if r.length < x.toNat then none else if putOk (toB (r.take x.toNat)) then some (toB (r.take x.toNat)) else none
end Go.Proofs.YtglojnmcbochaaaGreatDoor

namespace Go.Proofs.YtglojnmcbochaaaGreatDoor

end Go.Proofs.YtglojnmcbochaaaGreatDoor

