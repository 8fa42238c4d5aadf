/-
  MarkNumbers' walk.
-/
import Derived.Test.YtobjoafhhchjgaaNumM
namespace Go.Proofs.Ytobjoafhhchjgaa
open Go.RowKit Go.Maps
set_option linter.unusedVariables false

def sizeM : Nat → Int
  | 0 => -9223372036854775808
  | 1 => -1
  | 2 => 0
  | 3 => 39
  | 4 => 40
  | 5 => 41
  | 6 => 47
  | 7 => 48
  | 8 => 51
  | 9 => 52
  | 10 => 100
  | 11 => 8191
  | 12 => 8192
  | 13 => 8193
  | _ => 9223372036854775807
def sizeCells : Array Value := #[.int .i64 (-9223372036854775808), .int .i64 (-1), .int .i64 0, .int .i64 39, .int .i64 40, .int .i64 41, .int .i64 47, .int .i64 48, .int .i64 51, .int .i64 52, .int .i64 100, .int .i64 8191, .int .i64 8192, .int .i64 8193, .int .i64 9223372036854775807]
theorem size_cell {j : Nat} (h : j < 15) : sizeCells[j]? = some (.int .i64 (sizeM j)) := by
  rcases (show j = 0 ∨ j = 1 ∨ j = 2 ∨ j = 3 ∨ j = 4 ∨ j = 5 ∨ j = 6 ∨ j = 7 ∨ j = 8 ∨ j = 9 ∨ j = 10 ∨ j = 11 ∨ j = 12 ∨ j = 13 ∨ j = 14 by omega) with rfl | rfl | rfl | rfl | rfl | rfl | rfl | rfl | rfl | rfl | rfl | rfl | rfl | rfl | rfl <;> rfl
def SzRel (g : Nat) (w : World) (i : Value) (wr : World) : Prop := ∃ j : Nat, j ≤ 15 ∧ i = .int .i64 j ∧ Blk wr g 3 sizeCells ∧ Turned (fun _ => False) w wr
def KRel (w : World) (i : Value) (wr : World) : Prop := ∃ j : Nat, 38 ≤ j ∧ j ≤ 46 ∧ i = .int .i64 j ∧ Turned (fun _ => False) w wr
def doM0 (op num : Int) (m : M4) : DoM := ⟨op, num, m, 0, none, 0, 0, []⟩
def doMF (op : Int) (fb : Nat) (f : Int) : DoM := ⟨op, 0, M4.zero, 0, some ⟨fb, 0, none⟩, 1, 1, [f]⟩
theorem doM0_at {w : World} {B b o : Nat} {op num : Int} {m : M4} (h0 : w.cell? ⟨b, o, none⟩ = some (.int .i64 op)) (h1 : w.cell? ⟨b, o + 1, none⟩ = some (.int .i64 num)) (h2 : w.cell? ⟨b, o + 2, none⟩ = some (.int .i64 m.seq)) (h3 : w.cell? ⟨b, o + 3, none⟩ = some (.int .i64 m.turn))
    (h4 : w.cell? ⟨b, o + 4, none⟩ = some (.int .i64 m.old)) (h5 : w.cell? ⟨b, o + 5, none⟩ = some (.int .i64 m.mark)) (h6 : w.cell? ⟨b, o + 6, none⟩ = some (.slice none 0 0)) (h7 : w.cell? ⟨b, o + 7, none⟩ = some (.int .u8 0)) (ho : 0 ≤ op ∧ op ≤ 7) (hn : 0 ≤ num ∧ num ≤ 100) (hm : m.Ok) : DoMAt w B b o (doM0 op num m) :=
  ⟨h0, h1, h2, h3, h4, h5, h6, h7, ⟨by show -9223372036854775808 ≤ op; omega, by show op ≤ 9223372036854775807; omega⟩, ⟨by show -9223372036854775808 ≤ num; omega, by show num ≤ 9223372036854775807; omega⟩, hm, ⟨show (0 : Int) ≤ 0 by omega, show (0 : Int) ≤ 255 by omega⟩, FatesR.none_ _ _, fun _ => ⟨rfl, rfl⟩⟩
theorem zero_ok : M4.zero.Ok := ⟨⟨by decide, by decide⟩, ⟨by decide, by decide⟩, ⟨by decide, by decide⟩, ⟨by decide, by decide⟩⟩
theorem fate_one {w : World} {fb B : Nat} {f : Int} (h : Blk w fb 39 #[.int .i64 f]) (hB : fb < B) (hf : 0 ≤ f ∧ f ≤ 100) : FatesR w B (some ⟨fb, 0, none⟩) 1 [f] :=
  ⟨rfl, by omega, fun x hx => by
    simp only [List.mem_cons, List.not_mem_nil, or_false] at hx
    subst hx
    exact wf_of _ (by omega) (by omega), fun _ => ⟨fb, 0, rfl, hB, fun j hj => by
    have : j = 0 := by omega
    subst this
    exact h.cell 0⟩⟩
theorem doMF_at {w : World} {B b o fb : Nat} {op f : Int} (h0 : w.cell? ⟨b, o, none⟩ = some (.int .i64 op)) (h1 : w.cell? ⟨b, o + 1, none⟩ = some (.int .i64 0)) (h2 : w.cell? ⟨b, o + 2, none⟩ = some (.int .i64 0)) (h3 : w.cell? ⟨b, o + 3, none⟩ = some (.int .i64 0))
    (h4 : w.cell? ⟨b, o + 4, none⟩ = some (.int .i64 0)) (h5 : w.cell? ⟨b, o + 5, none⟩ = some (.int .i64 0)) (h6 : w.cell? ⟨b, o + 6, none⟩ = some (.slice (some ⟨fb, 0, none⟩) 1 1)) (h7 : w.cell? ⟨b, o + 7, none⟩ = some (.int .u8 0)) (ho : 0 ≤ op ∧ op ≤ 7) (hF : FatesR w B (some ⟨fb, 0, none⟩) 1 [f]) : DoMAt w B b o (doMF op fb f) :=
  ⟨h0, h1, h2, h3, h4, h5, h6, h7, ⟨by show -9223372036854775808 ≤ op; omega, by show op ≤ 9223372036854775807; omega⟩, ⟨show (-9223372036854775808 : Int) ≤ 0 by omega, show (0 : Int) ≤ 9223372036854775807 by omega⟩, zero_ok, ⟨show (0 : Int) ≤ 0 by omega, show (0 : Int) ≤ 255 by omega⟩, hF, fun e => by cases e⟩

def listA (k : Int) (fb : Nat) : Nat → DoM
  | 0 => doM0 1 k M4.zero
  | 1 => doM0 0 0 M4.zero
  | 2 => doMF 2 fb 1
  | _ => doM0 2 0 M4.zero
def listB (k : Int) (fb : Nat) : Nat → DoM
  | 0 => doM0 0 0 M4.zero
  | 1 => doM0 1 k M4.zero
  | 2 => doM0 0 0 M4.zero
  | _ => doMF 2 fb 0
def listC (m : M4) : Nat → DoM
  | 0 => doM0 0 0 M4.zero
  | 1 => doM0 7 0 m
  | _ => doM0 7 0 goodM
theorem dosA {w : World} {b fb B : Nat} {k : Int} (h : Blk w b 69 #[.int .i64 1, .int .i64 k, .int .i64 0, .int .i64 0, .int .i64 0, .int .i64 0, .slice none 0 0, .int .u8 0, .int .i64 0, .int .i64 0, .int .i64 0, .int .i64 0, .int .i64 0, .int .i64 0, .slice none 0 0, .int .u8 0, .int .i64 2, .int .i64 0, .int .i64 0, .int .i64 0, .int .i64 0, .int .i64 0, .slice (some ⟨fb, 0, none⟩) 1 1, .int .u8 0, .int .i64 2, .int .i64 0, .int .i64 0, .int .i64 0, .int .i64 0, .int .i64 0, .slice none 0 0, .int .u8 0]) (hf : Blk w fb 39 #[.int .i64 1]) (hB : b < B) (hfB : fb < B) (hk : 0 ≤ k ∧ k ≤ 100) : DosM w B (some ⟨b, 0, none⟩) 4 (listA k fb) :=
  ⟨by omega, fun _ => ⟨b, 0, rfl, hB, fun i hi => by
    match i, hi with
    | 0, _ => exact doM0_at (h.cell 0) (h.cell 1) (h.cell 2) (h.cell 3) (h.cell 4) (h.cell 5) (h.cell 6) (h.cell 7) (by omega) hk zero_ok
    | 1, _ => exact doM0_at (h.cell 8) (h.cell 9) (h.cell 10) (h.cell 11) (h.cell 12) (h.cell 13) (h.cell 14) (h.cell 15) (by omega) (by omega) zero_ok
    | 2, _ => exact doMF_at (h.cell 16) (h.cell 17) (h.cell 18) (h.cell 19) (h.cell 20) (h.cell 21) (h.cell 22) (h.cell 23) (by omega) (fate_one hf hfB (by omega))
    | 3, _ => exact doM0_at (h.cell 24) (h.cell 25) (h.cell 26) (h.cell 27) (h.cell 28) (h.cell 29) (h.cell 30) (h.cell 31) (by omega) (by omega) zero_ok⟩⟩
theorem dosB {w : World} {b fb B : Nat} {k : Int} (h : Blk w b 69 #[.int .i64 0, .int .i64 0, .int .i64 0, .int .i64 0, .int .i64 0, .int .i64 0, .slice none 0 0, .int .u8 0, .int .i64 1, .int .i64 k, .int .i64 0, .int .i64 0, .int .i64 0, .int .i64 0, .slice none 0 0, .int .u8 0, .int .i64 0, .int .i64 0, .int .i64 0, .int .i64 0, .int .i64 0, .int .i64 0, .slice none 0 0, .int .u8 0, .int .i64 2, .int .i64 0, .int .i64 0, .int .i64 0, .int .i64 0, .int .i64 0, .slice (some ⟨fb, 0, none⟩) 1 1, .int .u8 0]) (hf : Blk w fb 39 #[.int .i64 0]) (hB : b < B) (hfB : fb < B) (hk : 0 ≤ k ∧ k ≤ 100) : DosM w B (some ⟨b, 0, none⟩) 4 (listB k fb) :=
  ⟨by omega, fun _ => ⟨b, 0, rfl, hB, fun i hi => by
    match i, hi with
    | 0, _ => exact doM0_at (h.cell 0) (h.cell 1) (h.cell 2) (h.cell 3) (h.cell 4) (h.cell 5) (h.cell 6) (h.cell 7) (by omega) (by omega) zero_ok
    | 1, _ => exact doM0_at (h.cell 8) (h.cell 9) (h.cell 10) (h.cell 11) (h.cell 12) (h.cell 13) (h.cell 14) (h.cell 15) (by omega) hk zero_ok
    | 2, _ => exact doM0_at (h.cell 16) (h.cell 17) (h.cell 18) (h.cell 19) (h.cell 20) (h.cell 21) (h.cell 22) (h.cell 23) (by omega) (by omega) zero_ok
    | 3, _ => exact doMF_at (h.cell 24) (h.cell 25) (h.cell 26) (h.cell 27) (h.cell 28) (h.cell 29) (h.cell 30) (h.cell 31) (by omega) (fate_one hf hfB (by omega))⟩⟩
theorem dosC {w : World} {b B : Nat} {m : M4} (h : Blk w b 69 #[.int .i64 0, .int .i64 0, .int .i64 0, .int .i64 0, .int .i64 0, .int .i64 0, .slice none 0 0, .int .u8 0, .int .i64 7, .int .i64 0, .int .i64 m.seq, .int .i64 m.turn, .int .i64 m.old, .int .i64 m.mark, .slice none 0 0, .int .u8 0, .int .i64 7, .int .i64 0, .int .i64 goodM.seq, .int .i64 goodM.turn, .int .i64 goodM.old, .int .i64 goodM.mark, .slice none 0 0, .int .u8 0]) (hB : b < B) (hm : m.Ok) : DosM w B (some ⟨b, 0, none⟩) 3 (listC m) :=
  ⟨by omega, fun _ => ⟨b, 0, rfl, hB, fun i hi => by
    match i, hi with
    | 0, _ => exact doM0_at (h.cell 0) (h.cell 1) (h.cell 2) (h.cell 3) (h.cell 4) (h.cell 5) (h.cell 6) (h.cell 7) (by omega) (by omega) zero_ok
    | 1, _ => exact doM0_at (h.cell 8) (h.cell 9) (h.cell 10) (h.cell 11) (h.cell 12) (h.cell 13) (h.cell 14) (h.cell 15) (by omega) (by omega) hm
    | 2, _ => exact doM0_at (h.cell 16) (h.cell 17) (h.cell 18) (h.cell 19) (h.cell 20) (h.cell 21) (h.cell 22) (h.cell 23) (by omega) (by omega) goodM_ok⟩⟩

def MrLit (a b c d code : Int) (w : World) (e : Ending) (w' : World) : Prop := e = .returned (.tuple #[.agg #[.int .i64 a, .int .i64 b, .int .i64 c, .int .i64 d], .int .i64 code]) ∧ Turned (fun _ => False) w w'
theorem mread_zero {w : World} {d s o : Nat} {A : DA} {c : Int} (h : IsDisk w d s o A) (hr : mread A = (c, M4.zero)) : Calls Try.prog 36 #[.pointer (some ⟨d, 0, none⟩)] w (MrLit 0 0 0 0 c w) := by
  have := mread_all h
  rw [hr] at this
  exact this
theorem mread_good {w : World} {d s o : Nat} {A : DA} (h : IsDisk w d s o A) (hr : mread A = (0, goodM)) : Calls Try.prog 36 #[.pointer (some ⟨d, 0, none⟩)] w (MrLit 2305843009213693952 2147483647 1152921504606846976 1152921504606846976 0 w) := by
  have := mread_all h
  rw [hr] at this
  exact this
theorem mwrite_to {w : World} {d s o : Nat} {A B : DA} {c : Int} (h : IsDisk w d s o A) (m : M4) (hm : m.Ok) (hr : mw A m = (c, B)) :
    Calls Try.prog 37 #[.pointer (some ⟨d, 0, none⟩), .agg #[.int .i64 m.seq, .int .i64 m.turn, .int .i64 m.old, .int .i64 m.mark]] w (StPost c d s o B w) := by
  have := mwrite_all h m hm
  rw [hr] at this
  exact this
theorem mformat_to {w : World} {d s o : Nat} {A B : DA} {c : Int} (h : IsDisk w d s o A) (hr : fmt A = (c, B)) : Calls Try.prog 38 #[.pointer (some ⟨d, 0, none⟩)] w (StPost c d s o B w) := by
  have := mformat_all h
  rw [hr] at this
  exact this

theorem thirdM_ok : thirdM.Ok := ⟨⟨by decide, by decide⟩, ⟨by decide, by decide⟩, ⟨by decide, by decide⟩, ⟨by decide, by decide⟩⟩
def goodCells : Array Value := #[.int .i64 2305843009213693952, .int .i64 2147483647, .int .i64 1152921504606846976, .int .i64 1152921504606846976]
def badCells : Array Value := #[.int .i64 2305843009213693953, .int .i64 1, .int .i64 1, .int .i64 0, .int .i64 (-1), .int .i64 1, .int .i64 1, .int .i64 0, .int .i64 1, .int .i64 0, .int .i64 1, .int .i64 0, .int .i64 1, .int .i64 2147483648, .int .i64 1, .int .i64 0, .int .i64 1, .int .i64 1, .int .i64 0, .int .i64 0, .int .i64 1, .int .i64 1, .int .i64 1152921504606846977, .int .i64 0, .int .i64 1, .int .i64 1, .int .i64 1, .int .i64 (-1), .int .i64 1, .int .i64 1, .int .i64 1, .int .i64 1152921504606846977]
theorem bad_cell {j : Nat} (h : j < 8) : badCells[j * 4]? = some (.int .i64 (badM j).seq) ∧ badCells[j * 4 + 1]? = some (.int .i64 (badM j).turn) ∧ badCells[j * 4 + 2]? = some (.int .i64 (badM j).old) ∧ badCells[j * 4 + 3]? = some (.int .i64 (badM j).mark) := by
  rcases (show j = 0 ∨ j = 1 ∨ j = 2 ∨ j = 3 ∨ j = 4 ∨ j = 5 ∨ j = 6 ∨ j = 7 by omega) with rfl | rfl | rfl | rfl | rfl | rfl | rfl | rfl <;> exact ⟨rfl, rfl, rfl, rfl⟩
def BadRel (d s o gb bb : Nat) (A : DA) (w : World) (i : Value) (wr : World) : Prop := ∃ j : Nat, j ≤ 8 ∧ i = .int .i64 j ∧ IsDisk wr d s o A ∧ Blk wr gb 59 goodCells ∧ Blk wr bb 59 badCells ∧ Turned (fun _ => False) w wr

set_option maxRecDepth 100000 in
set_option maxHeartbeats 4000000 in
theorem markNumbers_any (w : World) : Calls Try.prog 12 #[] w (OkNew w) := by
  obtain ⟨A1, A2, C1, HN0⟩ := nums25
  have HN := Lib.hid HN0
  clear HN0
  go_enter Try.func12, Try.ntmps12
  go_wp2_with fail
  have hS0 : SzRel w.heap.size w (.int .i64 0) (w.alloc (.cells #[.int .i64 (-9223372036854775808), .int .i64 (-1), .int .i64 0, .int .i64 39, .int .i64 40, .int .i64 41, .int .i64 47, .int .i64 48, .int .i64 51, .int .i64 52, .int .i64 100, .int .i64 8191, .int .i64 8192, .int .i64 8193, .int .i64 9223372036854775807] 3)) := ⟨0, by omega, rfl, Blk.new w _ _, (Turned.refl (fun _ => False) w).alloc _⟩
  have hS := Lib.hid hS0
  clear hS0
  go_loopw [2] (fun i wr => SzRel w.heap.size w i wr) (fun i _ => 15 - (intOf i).toNat)
  case atStart => exact hS.out
  case round =>
    obtain ⟨j, hj, rfl, hB, ht⟩ := hrel
    clear hS
    by_cases hlt : j < 15
    · have hji : (j : Int) < 15 := by omega
      have qc : wr.cell? ⟨w.heap.size, j, none⟩ = some (.int .i64 (sizeM j)) := by rw [hB.cell]; exact size_cell hlt
      have hBh := Lib.hid hB
      clear hB
      generalize hsz : sizeM j = sz at qc
      clear hsz
      go_wp2_with fail
      refine (markPlaces_any sz wr).mono ?_
      rintro e w1 ⟨rfl, ht1⟩
      have hR : SzRel w.heap.size w (.int .i64 ((j + 1 : Nat) : Int)) w1 := ⟨j + 1, by omega, rfl, hBh.out.turned ht1 (fun e => e), ht.trans (W := fun _ => False) ht1 (fun _ e => e) (fun _ e => e.elim)⟩
      have hR' := Lib.hid hR
      clear hR
      go_wp2_with fail
      go_roundw
      case rel =>
        have hz : Value.int .i64 ((j : Int) + 1) = .int .i64 ((j + 1 : Nat) : Int) := by go_num
        first
        | (rw [hz]; exact hR'.out)
        | ((repeat apply Exists.intro); exact ⟨by rw [hz]; exact hR'.out, rfl⟩)
      case measure => simp [intOf]; omega
    · have hge : (15 : Int) ≤ (j : Int) := by omega
      clear hB
      go_wp2_with fail
      have hK0 : KRel w (.int .i64 38) wr := ⟨38, by omega, by omega, rfl, ht⟩
      have hK := Lib.hid hK0
      clear hK0 ht hj hlt hge
      go_loopw [3] (fun i wr => KRel w i wr) (fun i _ => 46 - (intOf i).toNat)
      case atStart => exact hK.out
      case round =>
        obtain ⟨k, hk0, hk1, rfl, ht⟩ := hrel
        clear hK
        by_cases hlt : k < 46
        · have hki : (k : Int) < 46 := by omega
          have hki0 : (38 : Int) ≤ (k : Int) := by omega
          go_wp2_with fail
          have hf1 := (Blk.new wr 39 #[.int .i64 1]).alloc (.cells #[.int .i64 1, .int .i64 (k : Int), .int .i64 0, .int .i64 0, .int .i64 0, .int .i64 0, .slice none 0 0, .int .u8 0, .int .i64 0, .int .i64 0, .int .i64 0, .int .i64 0, .int .i64 0, .int .i64 0, .slice none 0 0, .int .u8 0, .int .i64 2, .int .i64 0, .int .i64 0, .int .i64 0, .int .i64 0, .int .i64 0, .slice (some ⟨wr.heap.size, 0, none⟩) 1 1, .int .u8 0, .int .i64 2, .int .i64 0, .int .i64 0, .int .i64 0, .int .i64 0, .int .i64 0, .slice none 0 0, .int .u8 0] 69)
          have hb1 := Blk.new_at (k := wr.heap.size + 1) (wr.alloc (.cells #[.int .i64 1] 39)) 69 #[.int .i64 1, .int .i64 (k : Int), .int .i64 0, .int .i64 0, .int .i64 0, .int .i64 0, .slice none 0 0, .int .u8 0, .int .i64 0, .int .i64 0, .int .i64 0, .int .i64 0, .int .i64 0, .int .i64 0, .slice none 0 0, .int .u8 0, .int .i64 2, .int .i64 0, .int .i64 0, .int .i64 0, .int .i64 0, .int .i64 0, .slice (some ⟨wr.heap.size, 0, none⟩) 1 1, .int .u8 0, .int .i64 2, .int .i64 0, .int .i64 0, .int .i64 0, .int .i64 0, .int .i64 0, .slice none 0 0, .int .u8 0] (by simp)
          have ht1 := (ht.alloc (.cells #[.int .i64 1] 39)).alloc (.cells #[.int .i64 1, .int .i64 (k : Int), .int .i64 0, .int .i64 0, .int .i64 0, .int .i64 0, .slice none 0 0, .int .u8 0, .int .i64 0, .int .i64 0, .int .i64 0, .int .i64 0, .int .i64 0, .int .i64 0, .slice none 0 0, .int .u8 0, .int .i64 2, .int .i64 0, .int .i64 0, .int .i64 0, .int .i64 0, .int .i64 0, .slice (some ⟨wr.heap.size, 0, none⟩) 1 1, .int .u8 0, .int .i64 2, .int .i64 0, .int .i64 0, .int .i64 0, .int .i64 0, .int .i64 0, .slice none 0 0, .int .u8 0] 69)
          have hL1 := Lib.hid (dosA hb1 hf1 hb1.lt hf1.lt (by omega))
          clear hf1 hb1
          generalize (wr.alloc (.cells #[.int .i64 1] 39)).alloc (.cells #[.int .i64 1, .int .i64 (k : Int), .int .i64 0, .int .i64 0, .int .i64 0, .int .i64 0, .slice none 0 0, .int .u8 0, .int .i64 0, .int .i64 0, .int .i64 0, .int .i64 0, .int .i64 0, .int .i64 0, .slice none 0 0, .int .u8 0, .int .i64 2, .int .i64 0, .int .i64 0, .int .i64 0, .int .i64 0, .int .i64 0, .slice (some ⟨wr.heap.size, 0, none⟩) 1 1, .int .u8 0, .int .i64 2, .int .i64 0, .int .i64 0, .int .i64 0, .int .i64 0, .int .i64 0, .slice none 0 0, .int .u8 0] 69) = w1 at *
          refine (markLives_any 10 _ 4 4 _ w1 ⟨by omega, by omega⟩ hL1.out (by omega) (by unfold maxLen; omega)).mono ?_
          rintro e w2 ⟨rfl, ht2'⟩
          have ht2 := ht1.trans (W := fun _ => False) ht2' (fun _ e => e) (fun _ e => e.elim)
          clear ht1 ht2' hL1
          go_wp2_with fail
          have hf1 := (Blk.new w2 39 #[.int .i64 0]).alloc (.cells #[.int .i64 0, .int .i64 0, .int .i64 0, .int .i64 0, .int .i64 0, .int .i64 0, .slice none 0 0, .int .u8 0, .int .i64 1, .int .i64 (k : Int), .int .i64 0, .int .i64 0, .int .i64 0, .int .i64 0, .slice none 0 0, .int .u8 0, .int .i64 0, .int .i64 0, .int .i64 0, .int .i64 0, .int .i64 0, .int .i64 0, .slice none 0 0, .int .u8 0, .int .i64 2, .int .i64 0, .int .i64 0, .int .i64 0, .int .i64 0, .int .i64 0, .slice (some ⟨w2.heap.size, 0, none⟩) 1 1, .int .u8 0] 69)
          have hb1 := Blk.new_at (k := w2.heap.size + 1) (w2.alloc (.cells #[.int .i64 0] 39)) 69 #[.int .i64 0, .int .i64 0, .int .i64 0, .int .i64 0, .int .i64 0, .int .i64 0, .slice none 0 0, .int .u8 0, .int .i64 1, .int .i64 (k : Int), .int .i64 0, .int .i64 0, .int .i64 0, .int .i64 0, .slice none 0 0, .int .u8 0, .int .i64 0, .int .i64 0, .int .i64 0, .int .i64 0, .int .i64 0, .int .i64 0, .slice none 0 0, .int .u8 0, .int .i64 2, .int .i64 0, .int .i64 0, .int .i64 0, .int .i64 0, .int .i64 0, .slice (some ⟨w2.heap.size, 0, none⟩) 1 1, .int .u8 0] (by simp)
          have ht1 := (ht2.alloc (.cells #[.int .i64 0] 39)).alloc (.cells #[.int .i64 0, .int .i64 0, .int .i64 0, .int .i64 0, .int .i64 0, .int .i64 0, .slice none 0 0, .int .u8 0, .int .i64 1, .int .i64 (k : Int), .int .i64 0, .int .i64 0, .int .i64 0, .int .i64 0, .slice none 0 0, .int .u8 0, .int .i64 0, .int .i64 0, .int .i64 0, .int .i64 0, .int .i64 0, .int .i64 0, .slice none 0 0, .int .u8 0, .int .i64 2, .int .i64 0, .int .i64 0, .int .i64 0, .int .i64 0, .int .i64 0, .slice (some ⟨w2.heap.size, 0, none⟩) 1 1, .int .u8 0] 69)
          have hL1 := Lib.hid (dosB hb1 hf1 hb1.lt hf1.lt (by omega))
          clear hf1 hb1
          generalize (w2.alloc (.cells #[.int .i64 0] 39)).alloc (.cells #[.int .i64 0, .int .i64 0, .int .i64 0, .int .i64 0, .int .i64 0, .int .i64 0, .slice none 0 0, .int .u8 0, .int .i64 1, .int .i64 (k : Int), .int .i64 0, .int .i64 0, .int .i64 0, .int .i64 0, .slice none 0 0, .int .u8 0, .int .i64 0, .int .i64 0, .int .i64 0, .int .i64 0, .int .i64 0, .int .i64 0, .slice none 0 0, .int .u8 0, .int .i64 2, .int .i64 0, .int .i64 0, .int .i64 0, .int .i64 0, .int .i64 0, .slice (some ⟨w2.heap.size, 0, none⟩) 1 1, .int .u8 0] 69) = w3 at *
          refine (markLives_any 10 _ 4 4 _ w3 ⟨by omega, by omega⟩ hL1.out (by omega) (by unfold maxLen; omega)).mono ?_
          rintro e w4 ⟨rfl, ht4⟩
          have hR : KRel w (.int .i64 ((k + 1 : Nat) : Int)) w4 := ⟨k + 1, by omega, by omega, rfl, ht1.trans (W := fun _ => False) ht4 (fun _ e => e) (fun _ e => e.elim)⟩
          have hR' := Lib.hid hR
          clear hR hL1
          go_wp2_with fail
          go_roundw
          case rel =>
            have hz : Value.int .i64 ((k : Int) + 1) = .int .i64 ((k + 1 : Nat) : Int) := by go_num
            first
            | (rw [hz]; exact hR'.out)
            | ((repeat apply Exists.intro); exact ⟨by rw [hz]; exact hR'.out, rfl⟩)
          case measure => simp [intOf]; omega
        · have hge : (46 : Int) ≤ (k : Int) := by omega
          go_wp2_with fail
          have hG0 := (Blk.new wr 59 #[.int .i64 2305843009213693952, .int .i64 2147483647, .int .i64 1152921504606846976, .int .i64 1152921504606846976]).alloc (.cells #[.int .i64 2305843009213693953, .int .i64 1, .int .i64 1, .int .i64 0, .int .i64 (-1), .int .i64 1, .int .i64 1, .int .i64 0, .int .i64 1, .int .i64 0, .int .i64 1, .int .i64 0, .int .i64 1, .int .i64 2147483648, .int .i64 1, .int .i64 0, .int .i64 1, .int .i64 1, .int .i64 0, .int .i64 0, .int .i64 1, .int .i64 1, .int .i64 1152921504606846977, .int .i64 0, .int .i64 1, .int .i64 1, .int .i64 1, .int .i64 (-1), .int .i64 1, .int .i64 1, .int .i64 1, .int .i64 1152921504606846977] 59)
          have hB0 := Blk.new_at (k := wr.heap.size + 1) (wr.alloc (.cells #[.int .i64 2305843009213693952, .int .i64 2147483647, .int .i64 1152921504606846976, .int .i64 1152921504606846976] 59)) 59 #[.int .i64 2305843009213693953, .int .i64 1, .int .i64 1, .int .i64 0, .int .i64 (-1), .int .i64 1, .int .i64 1, .int .i64 0, .int .i64 1, .int .i64 0, .int .i64 1, .int .i64 0, .int .i64 1, .int .i64 2147483648, .int .i64 1, .int .i64 0, .int .i64 1, .int .i64 1, .int .i64 0, .int .i64 0, .int .i64 1, .int .i64 1, .int .i64 1152921504606846977, .int .i64 0, .int .i64 1, .int .i64 1, .int .i64 1, .int .i64 (-1), .int .i64 1, .int .i64 1, .int .i64 1, .int .i64 1152921504606846977] (by simp)
          have htA := (ht.alloc (.cells #[.int .i64 2305843009213693952, .int .i64 2147483647, .int .i64 1152921504606846976, .int .i64 1152921504606846976] 59)).alloc (.cells #[.int .i64 2305843009213693953, .int .i64 1, .int .i64 1, .int .i64 0, .int .i64 (-1), .int .i64 1, .int .i64 1, .int .i64 0, .int .i64 1, .int .i64 0, .int .i64 1, .int .i64 0, .int .i64 1, .int .i64 2147483648, .int .i64 1, .int .i64 0, .int .i64 1, .int .i64 1, .int .i64 0, .int .i64 0, .int .i64 1, .int .i64 1, .int .i64 1152921504606846977, .int .i64 0, .int .i64 1, .int .i64 1, .int .i64 1, .int .i64 (-1), .int .i64 1, .int .i64 1, .int .i64 1, .int .i64 1152921504606846977] 59)
          clear ht hk0 hk1 hlt hge
          generalize (wr.alloc (.cells #[.int .i64 2305843009213693952, .int .i64 2147483647, .int .i64 1152921504606846976, .int .i64 1152921504606846976] 59)).alloc (.cells #[.int .i64 2305843009213693953, .int .i64 1, .int .i64 1, .int .i64 0, .int .i64 (-1), .int .i64 1, .int .i64 1, .int .i64 0, .int .i64 1, .int .i64 0, .int .i64 1, .int .i64 0, .int .i64 1, .int .i64 2147483648, .int .i64 1, .int .i64 0, .int .i64 1, .int .i64 1, .int .i64 0, .int .i64 0, .int .i64 1, .int .i64 1, .int .i64 1152921504606846977, .int .i64 0, .int .i64 1, .int .i64 1, .int .i64 1, .int .i64 (-1), .int .i64 1, .int .i64 1, .int .i64 1, .int .i64 1152921504606846977] 59) = w5 at *
          generalize hbb : wr.heap.size + 1 = bb at *
          generalize wr.heap.size = gb at *
          clear hbb
          refine (new_yes 40 _ (by omega) (by omega)).mono ?_
          rintro e w6 ⟨d, s, o, rfl, hD6, ht6, hfr, _⟩
          have hfr' := Lib.hid (fun k hk => Nat.le_trans htA.size (hfr k hk))
          clear hfr
          have hm6 := mread_zero hD6 HN.out.r0
          go_wp2_with fail
          refine hm6.mono ?_
          clear hm6
          rintro e w7 ⟨rfl, ht7⟩
          have ht8 := (((htA.trans (W := fun _ => False) ht6 (fun _ e => e) (fun _ e => e.elim)).trans (W := fun _ => False) ht7 (fun _ e => e) (fun _ e => e.elim))).alloc (.cells #[.int .i64 0, .int .i64 0, .int .i64 0, .int .i64 0] 59)
          have hta := ht7.alloc (.cells #[.int .i64 0, .int .i64 0, .int .i64 0, .int .i64 0] 59)
          have hD8 := hD6.fresh hta
          have hG8 := (hG0.turned ht6 (fun e => e)).turned hta (fun e => e)
          have hB8 := (hB0.turned ht6 (fun e => e)).turned hta (fun e => e)
          obtain ⟨z0, z1, z2, z3⟩ := m4_cells hG8
          clear hG0 hB0 htA ht6 ht7 hta hD6
          have hm8 := mwrite_to hD8 goodM goodM_ok HN.out.w1
          go_wp2_with fail
          refine hm8.mono ?_
          clear hm8
          rintro e w9 ⟨rfl, hD9, ht9⟩
          have hR0 : BadRel d s o gb bb A1 w (.int .i64 0) w9 := ⟨0, by omega, rfl, hD9, hG8.dskTurned hD8 ht9 (by decide), hB8.dskTurned hD8 ht9 (by decide), ht8.trans ht9 (fun _ e => e) (fun k e => .inr (hfr'.out k e))⟩
          have hR0' := Lib.hid hR0
          clear hR0 hD8 hG8 hB8 ht8 ht9 hD9 z0 z1 z2 z3
          go_wp2_with fail
          go_loopw [9] (fun i wr => BadRel d s o gb bb A1 w i wr) (fun i _ => 8 - (intOf i).toNat)
          case atStart => exact hR0'.out
          case round =>
            obtain ⟨j, hj, rfl, hD, hG, hB, ht⟩ := hrel
            clear hR0'
            by_cases hlt : j < 8
            · have hji : (j : Int) < 8 := by omega
              have hbf := Lib.hid (fun (w' : World) (h : Blk w' bb 59 badCells) => (⟨(h.cell (j * 4)).trans (bad_cell hlt).1, (h.cell (j * 4 + 1)).trans (bad_cell hlt).2.1, (h.cell (j * 4 + 2)).trans (bad_cell hlt).2.2.1, (h.cell (j * 4 + 3)).trans (bad_cell hlt).2.2.2⟩ : w'.cell? ⟨bb, j * 4, none⟩ = some (.int .i64 (badM j).seq) ∧ w'.cell? ⟨bb, j * 4 + 1, none⟩ = some (.int .i64 (badM j).turn) ∧ w'.cell? ⟨bb, j * 4 + 2, none⟩ = some (.int .i64 (badM j).old) ∧ w'.cell? ⟨bb, j * 4 + 3, none⟩ = some (.int .i64 (badM j).mark)))
              have hgf := Lib.hid (fun (w' : World) (h : Blk w' gb 59 goodCells) => m4_cells h)
              have hmok := Lib.hid (badM_ok j)
              have hmw := Lib.hid (mw_bad (A := A1) (badM_may j))
              generalize badM j = bm at *
              obtain ⟨seq, turn, old, mark⟩ := bm
              go_wp2_with fail
              refine wp_region_segs (fun w' => (w'.cell? ⟨bb, j * 4, none⟩ = some (.int .i64 seq) ∧ w'.cell? ⟨bb, j * 4 + 1, none⟩ = some (.int .i64 turn) ∧ w'.cell? ⟨bb, j * 4 + 2, none⟩ = some (.int .i64 old) ∧ w'.cell? ⟨bb, j * 4 + 3, none⟩ = some (.int .i64 mark)) ∧ (w'.cell? ⟨gb, 0, none⟩ = some (.int .i64 2305843009213693952) ∧ w'.cell? ⟨gb, 1, none⟩ = some (.int .i64 2147483647) ∧ w'.cell? ⟨gb, 2, none⟩ = some (.int .i64 1152921504606846976) ∧ w'.cell? ⟨gb, 3, none⟩ = some (.int .i64 1152921504606846976))) (segT [0, 1, 2, 3, 4] ++ segF [5] ++ segT [6, 7, 8, 9, 10, 11, 12, 13, 14, 15] ++ segF [16, 17] ++ segT [18, 19]) mixed (by kernel_rfl) (fun _ _ _ _ _ h => h) ?_
              simp only [segT, segF, pickSegs, List.map_cons, List.map_nil, List.cons_append, List.nil_append, List.filterMap_cons, List.filterMap_nil, List.getElem?_cons_zero, List.getElem?_cons_succ, Option.map_some]
              iterate 5 (refine wpSegs_take (v := ?_) ⟨hbf.out _ hB, hgf.out _ hG⟩ rfl (fun w' hw => ?_) ?_; rotate_left; (obtain ⟨⟨hw0, hw1, hw2, hw3⟩, hv0, hv1, hv2, hv3⟩ := hw; go_simp; try with_reducible rfl); try simp only [Act.put, List.setIfInBounds_toArray, List.set_cons_zero, List.set_cons_succ])
              refine wpSegs_run rfl (fun K hK => ?_)
              go_simp
              have hmc := mwrite_to (hD.fresh (Turned.refl (fun _ => False) wr).drew) ⟨seq, turn, old, mark⟩ hmok.out hmw.out
              refine hmc.mono ?_
              clear hmc
              rintro e w2 ⟨rfl, hD2, ht2'⟩
              have ht2 : Turned (dskW d s o) wr w2 := ⟨ht2'.os, ht2'.tape, ht2'.output, ht2'.size, ht2'.block⟩
              have hG2 := hG.dskTurned hD ht2 (by decide)
              have hB2 := hB.dskTurned hD ht2 (by decide)
              refine hK.out _ _ ⟨hbf.out _ hB2, hgf.out _ hG2⟩ ?_
              clear hK K
              iterate 10 (refine wpSegs_take (v := ?_) ⟨hbf.out _ hB2, hgf.out _ hG2⟩ rfl (fun w' hw => ?_) ?_; rotate_left; (obtain ⟨⟨hw0, hw1, hw2, hw3⟩, hv0, hv1, hv2, hv3⟩ := hw; go_simp; try with_reducible rfl); try simp only [Act.put, List.setIfInBounds_toArray, List.set_cons_zero, List.set_cons_succ])
              refine wpSegs_run rfl (fun K hK => ?_)
              go_simp
              have ha := (Turned.refl (fun _ => False) w2).alloc (.cells #[.int .i64 0, .int .i64 0, .int .i64 0, .int .i64 0, .int .i64 0, .int .i64 0, .slice none 0 0, .int .u8 0, .int .i64 7, .int .i64 0, .int .i64 seq, .int .i64 turn, .int .i64 old, .int .i64 mark, .slice none 0 0, .int .u8 0, .int .i64 7, .int .i64 0, .int .i64 2305843009213693952, .int .i64 2147483647, .int .i64 1152921504606846976, .int .i64 1152921504606846976, .slice none 0 0, .int .u8 0] 69)
              have hL := Lib.hid (dosC (Blk.new w2 69 #[.int .i64 0, .int .i64 0, .int .i64 0, .int .i64 0, .int .i64 0, .int .i64 0, .slice none 0 0, .int .u8 0, .int .i64 7, .int .i64 0, .int .i64 seq, .int .i64 turn, .int .i64 old, .int .i64 mark, .slice none 0 0, .int .u8 0, .int .i64 7, .int .i64 0, .int .i64 2305843009213693952, .int .i64 2147483647, .int .i64 1152921504606846976, .int .i64 1152921504606846976, .slice none 0 0, .int .u8 0]) (Blk.new w2 69 #[.int .i64 0, .int .i64 0, .int .i64 0, .int .i64 0, .int .i64 0, .int .i64 0, .slice none 0 0, .int .u8 0, .int .i64 7, .int .i64 0, .int .i64 seq, .int .i64 turn, .int .i64 old, .int .i64 mark, .slice none 0 0, .int .u8 0, .int .i64 7, .int .i64 0, .int .i64 2305843009213693952, .int .i64 2147483647, .int .i64 1152921504606846976, .int .i64 1152921504606846976, .slice none 0 0, .int .u8 0]).lt hmok.out)
              have hD3 := hD2.fresh ha
              have hG3 := hG2.turned ha (fun e => e)
              have hB3 := hB2.turned ha (fun e => e)
              refine hK.out _ _ ⟨hbf.out _ hB3, hgf.out _ hG3⟩ ?_
              clear hK K
              generalize w2.alloc (.cells #[.int .i64 0, .int .i64 0, .int .i64 0, .int .i64 0, .int .i64 0, .int .i64 0, .slice none 0 0, .int .u8 0, .int .i64 7, .int .i64 0, .int .i64 seq, .int .i64 turn, .int .i64 old, .int .i64 mark, .slice none 0 0, .int .u8 0, .int .i64 7, .int .i64 0, .int .i64 2305843009213693952, .int .i64 2147483647, .int .i64 1152921504606846976, .int .i64 1152921504606846976, .slice none 0 0, .int .u8 0] 69) = w3 at *
              refine wpSegs_run rfl (fun K hK => ?_)
              go_simp
              refine (markLives_any 10 _ 3 3 _ w3 ⟨by omega, by omega⟩ hL.out (by omega) (by unfold maxLen; omega)).mono ?_
              rintro e w4 ⟨rfl, ht4⟩
              have hD4 := hD3.fresh ht4
              have hG4 := hG3.turned ht4 (fun e => e)
              have hB4 := hB3.turned ht4 (fun e => e)
              refine hK.out _ _ ⟨hbf.out _ hB4, hgf.out _ hG4⟩ ?_
              clear hK K
              iterate 2 (refine wpSegs_take (v := ?_) ⟨hbf.out _ hB4, hgf.out _ hG4⟩ rfl (fun w' hw => ?_) ?_; rotate_left; (obtain ⟨⟨hw0, hw1, hw2, hw3⟩, hv0, hv1, hv2, hv3⟩ := hw; go_simp; try with_reducible rfl); try simp only [Act.put, List.setIfInBounds_toArray, List.set_cons_zero, List.set_cons_succ])
              refine wpSegs_nil ?_
              have hR : BadRel d s o gb bb A1 w (.int .i64 ((j + 1 : Nat) : Int)) w4 := ⟨j + 1, by omega, rfl, hD4, hG4, hB4, ((ht.trans ht2 (fun _ e => e) (fun k e => .inr (hfr'.out k e))).trans (W := fun _ => False) ha (fun _ e => e) (fun _ e => e.elim)).trans (W := fun _ => False) ht4 (fun _ e => e) (fun _ e => e.elim)⟩
              have hR' := Lib.hid hR
              clear hR hD hG hB hD2 hG2 hB2 hD3 hG3 hB3 hD4 hG4 hB4 hL
              go_wp2_with fail
              go_roundw
              case rel =>
                have hz : Value.int .i64 ((j : Int) + 1) = .int .i64 ((j + 1 : Nat) : Int) := by go_num
                first
                | (rw [hz]; exact hR'.out)
                | ((repeat apply Exists.intro); exact ⟨by rw [hz]; exact hR'.out, rfl⟩)
              case measure => simp [intOf]; omega
            · have hge : (8 : Int) ≤ (j : Int) := by omega
              clear hB hj hlt
              go_wp2_with fail
              refine (mread_good hD HN.out.r1).mono ?_
              rintro e w10 ⟨rfl, ht10⟩
              have hta := ht10.alloc (.cells #[.int .i64 2305843009213693952, .int .i64 2147483647, .int .i64 1152921504606846976, .int .i64 1152921504606846976] 59)
              have hX := Blk.new w10 59 #[.int .i64 2305843009213693952, .int .i64 2147483647, .int .i64 1152921504606846976, .int .i64 1152921504606846976]
              have hD11 := hD.fresh hta
              have hG11 := hG.turned hta (fun e => e)
              have hT11 := ht.trans (W := fun _ => False) hta (fun _ e => e) (fun _ e => e.elim)
              have hxw0 := Lib.hid (show w.heap.size ≤ w10.heap.size from Nat.le_trans ht.size ht10.size)
              have hgx := Lib.hid (show gb < w10.heap.size from Nat.lt_of_lt_of_le hG.lt ht10.size)
              obtain ⟨z0, z1, z2, z3⟩ := m4_cells hG11
              obtain ⟨x0, x1, x2, x3⟩ := m4_cells hX
              clear hD hG ht hta ht10
              go_wp2_with fail
              refine (mwrite_to hD11 thirdM thirdM_ok HN.out.w2).mono ?_
              rintro e w12 ⟨rfl, hD12, ht12⟩
              have hG12 := hG11.dskTurned hD11 ht12 (by decide)
              have hX12 := hX.dskTurned hD11 ht12 (by decide)
              have hT12 := hT11.trans ht12 (fun _ e => e) (fun k e => .inr (hfr'.out k e))
              clear z0 z1 z2 z3 x0 x1 x2 x3 hG11 hX hD11 hT11 ht12
              generalize w10.heap.size = xb at *
              go_wp2_with fail
              refine (mread_good hD12 HN.out.r2).mono ?_
              rintro e w13 ⟨rfl, ht13⟩
              have hD13 := hD12.fresh ht13
              have hG13 := hG12.turned ht13 (fun e => e)
              have hX13 := hX12.turned ht13 (fun e => e)
              have hT13 := hT12.trans (W := fun _ => False) ht13 (fun _ e => e) (fun _ e => e.elim)
              have hS : Turned (· = xb) w13 ((((w13.setCell ⟨xb, 0, none⟩ (.int .i64 2305843009213693952)).setCell ⟨xb, 1, none⟩ (.int .i64 2147483647)).setCell ⟨xb, 2, none⟩ (.int .i64 1152921504606846976)).setCell ⟨xb, 3, none⟩ (.int .i64 1152921504606846976)) := ((((Turned.refl (· = xb) w13).setCell (.inl rfl) _).setCell (.inl rfl) _).setCell (.inl rfl) _).setCell (.inl rfl) _
              have hX14 : Blk ((((w13.setCell ⟨xb, 0, none⟩ (.int .i64 2305843009213693952)).setCell ⟨xb, 1, none⟩ (.int .i64 2147483647)).setCell ⟨xb, 2, none⟩ (.int .i64 1152921504606846976)).setCell ⟨xb, 3, none⟩ (.int .i64 1152921504606846976)) xb 59 #[.int .i64 2305843009213693952, .int .i64 2147483647, .int .i64 1152921504606846976, .int .i64 1152921504606846976] := (((hX13.set_ 0 (.int .i64 2305843009213693952)).set_ 1 (.int .i64 2147483647)).set_ 2 (.int .i64 1152921504606846976)).set_ 3 (.int .i64 1152921504606846976)
              have hD14 := hD13.turned hS (fun k hk e => by
                have e' : k = xb := e
                subst e'
                obtain ⟨vs, vo, m1, m2, _⟩ := hD13.maps
                rcases hk with rfl | rfl | rfl
                · exact absurd (hX13.inj hD13.blk).2 (by decide)
                · exact m1.ne_blk hX13 rfl
                · exact m2.ne_blk hX13 rfl)
              have hG14 := hG13.turned hS (fun e => by have e' : gb = xb := e; have := hgx.out; omega)
              obtain ⟨x0, x1, x2, x3⟩ := m4_cells hX13
              have hfx := hX13.frozen
              have hXl := Lib.hid hX13.lt
              have hxw := Lib.hid (show w.heap.size ≤ xb from hxw0.out)
              have hT14 := hT13.trans hS (fun _ e => e) (fun k e => .inr (by have e' : k = xb := e; have := hxw.out; omega))
              have hQ := Lib.hid (And.intro hD14 (And.intro hG14 (And.intro hX14 hT14)))
              clear hD12 hG12 hX12 hT12 ht13 hD13 hG13 hX13 hT13 hS hD14 hG14 hX14 hT14
              have hrc : A2.rCode 0 = 0 := by
                unfold DA.rCode
                rw [HN.out.d2, HN.out.n2]
                rfl
              have hrc' := Lib.hid hrc
              clear hrc
              go_wp2_with fail
              clear x0 x1 x2 x3 hfx
              generalize (((w13.setCell ⟨xb, 0, none⟩ (.int .i64 2305843009213693952)).setCell ⟨xb, 1, none⟩ (.int .i64 2147483647)).setCell ⟨xb, 2, none⟩ (.int .i64 1152921504606846976)).setCell ⟨xb, 3, none⟩ (.int .i64 1152921504606846976) = w14 at *
              refine (dread_all hQ.out.1 0).mono ?_
              rintro e w15 ⟨v15, n15, c15, rfl, hb15, ht15, _, hrow⟩
              obtain ⟨g, rfl, rfl, hr15⟩ := hrow hrc'.out
              rw [hrc'.out]
              rw [HN.out.l2] at hr15
              have hG15 := hQ.out.2.1.turned ht15 (fun e => e)
              have hX15 := hQ.out.2.2.1.turned ht15 (fun e => e)
              have hT15 := hQ.out.2.2.2.trans (W := fun _ => False) ht15 (fun _ e => e) (fun _ e => e.elim)
              clear hb15 hrow ht15
              go_wp2_with fail
              refine (new_yes 40 _ (by omega) (by omega)).mono ?_
              rintro e w16 ⟨dc, sc, oc, rfl, hDc, ht16, hfrc, _⟩
              have hr16 := hr15.turned ht16 (fun e => e)
              have hG16 := hG15.turned ht16 (fun e => e)
              have hX16 := hX15.turned ht16 (fun e => e)
              have hT16 := hT15.trans (W := fun _ => False) ht16 (fun _ e => e) (fun _ e => e.elim)
              have hfrc' := Lib.hid (fun k hk => Nat.le_trans hT15.size (hfrc k hk))
              obtain ⟨z0, z1, z2, z3⟩ := m4_cells hG16
              obtain ⟨x0, x1, x2, x3⟩ := m4_cells hX16
              have hdw := dwrite_all hDc 1 g 512 c15 _ hr16 (mBytes_sec goodM.list rfl).byte
              rw [HN.out.cw, HN.out.cn] at hdw
              clear hr15 hG15 hX15 hT15 ht16 hfrc
              go_wp2_with fail
              refine hdw.mono ?_
              rintro e w17 ⟨rfl, hDc17, ht17⟩
              have hG17 := hG16.dskTurned hDc ht17 (by decide)
              have hT17 := hT16.trans ht17 (fun _ e => e) (fun k e => .inr (hfrc'.out k e))
              clear hdw z0 z1 z2 z3 x0 x1 x2 x3 hG16 hX16 hT16 ht17 hr16
              go_wp2_with fail
              refine (mread_zero hDc17 HN.out.rc).mono ?_
              rintro e w18 ⟨rfl, ht18⟩
              have hG18 := hG17.turned ht18 (fun e => e)
              have hT18 := hT17.trans (W := fun _ => False) ht18 (fun _ e => e) (fun _ e => e.elim)
              clear hG17 hT17 ht18
              go_wp2_with fail
              refine (new_yes 39 _ (by omega) (by omega)).mono ?_
              rintro e w19 ⟨de, se, oe, rfl, hDe, ht19, _, _⟩
              have hG19 := hG18.turned ht19 (fun e => e)
              have hT19 := hT18.trans (W := fun _ => False) ht19 (fun _ e => e) (fun _ e => e.elim)
              clear hG18 hT18 ht19
              go_wp2_with fail
              refine (mread_zero hDe small39.1).mono ?_
              rintro e w20 ⟨rfl, ht20⟩
              have hta := ht20.alloc (.cells #[.int .i64 0, .int .i64 0, .int .i64 0, .int .i64 0] 59)
              have hG21 := hG19.turned hta (fun e => e)
              have hT21 := hT19.trans (W := fun _ => False) hta (fun _ e => e) (fun _ e => e.elim)
              clear hG19 hT19 hta ht20
              go_wp2_with fail
              generalize w20.alloc (.cells #[.int .i64 0, .int .i64 0, .int .i64 0, .int .i64 0] 59) = w21 at *
              refine wp_region_segs (fun w' => w'.cell? ⟨gb, 0, none⟩ = some (.int .i64 2305843009213693952) ∧ w'.cell? ⟨gb, 1, none⟩ = some (.int .i64 2147483647) ∧ w'.cell? ⟨gb, 2, none⟩ = some (.int .i64 1152921504606846976) ∧ w'.cell? ⟨gb, 3, none⟩ = some (.int .i64 1152921504606846976)) (segT [0, 1, 2, 3, 4, 5, 6] ++ segF [7, 8] ++ segT [9, 10, 11, 13] ++ segF [12, 14] ++ segT [15, 16, 17] ++ segF [18] ++ segT [19, 20]) mixed (by kernel_rfl) (fun _ _ _ _ _ h => h) ?_
              simp only [segT, segF, pickSegs, List.map_cons, List.map_nil, List.cons_append, List.nil_append, List.filterMap_cons, List.filterMap_nil, List.getElem?_cons_zero, List.getElem?_cons_succ, Option.map_some]
              iterate 7 (refine wpSegs_take (v := ?_) (m4_cells hG21) rfl (fun w' hw => ?_) ?_; rotate_left; (obtain ⟨hv0, hv1, hv2, hv3⟩ := hw; go_simp; try with_reducible rfl); try simp only [Act.put, List.setIfInBounds_toArray, List.set_cons_zero, List.set_cons_succ])
              refine wpSegs_run rfl (fun K hK => ?_)
              go_simp
              refine (new_yes 39 w21.drew (by omega) (by omega)).mono ?_
              rintro e w22 ⟨df, sf, of, rfl, hDf, ht22', hfrf', _⟩
              have ht22 : Turned (fun _ => False) w21 w22 := ⟨ht22'.os, ht22'.tape, ht22'.output, ht22'.size, ht22'.block⟩
              have hfrf := Lib.hid (fun k (hk : dskW df sf of k) => Nat.le_trans hT21.size (show w21.heap.size ≤ k from hfrf' k hk))
              have hG22 := hG21.turned ht22 (fun e => e)
              have hT22 := hT21.trans (W := fun _ => False) ht22 (fun _ e => e) (fun _ e => e.elim)
              refine hK.out _ _ (m4_cells hG22) ?_
              clear hK K
              refine wpSegs_run rfl (fun K hK => ?_)
              go_simp
              refine (mformat_to hDf small39.2.1).mono ?_
              rintro e w23 ⟨rfl, hDf23, ht23⟩
              have hG23 := hG22.dskTurned hDf ht23 (by decide)
              have hT23 := hT22.trans ht23 (fun _ e => e) (fun k e => .inr (hfrf.out k e))
              refine hK.out _ _ (m4_cells hG23) ?_
              clear hK K
              iterate 4 (refine wpSegs_take (v := ?_) (m4_cells hG23) rfl (fun w' hw => ?_) ?_; rotate_left; (obtain ⟨hv0, hv1, hv2, hv3⟩ := hw; go_simp; try with_reducible rfl); try simp only [Act.put, List.setIfInBounds_toArray, List.set_cons_zero, List.set_cons_succ])
              refine wpSegs_run rfl (fun K hK => ?_)
              go_simp
              refine (new_yes 39 w23 (by omega) (by omega)).mono ?_
              rintro e w24 ⟨dg, sg, og, rfl, hDg, ht24, hfrg', _⟩
              have hfrg := Lib.hid (fun k (hk : dskW dg sg og k) => Nat.le_trans hT23.size (hfrg' k hk))
              have hG24 := hG23.turned ht24 (fun e => e)
              have hT24 := hT23.trans (W := fun _ => False) ht24 (fun _ e => e) (fun _ e => e.elim)
              refine hK.out _ _ (m4_cells hG24) ?_
              clear hK K
              refine wpSegs_run rfl (fun K hK => ?_)
              go_simp
              refine (mwrite_to hDg goodM goodM_ok small39.2.2).mono ?_
              rintro e w25 ⟨rfl, hDg25, ht25⟩
              have hG25 := hG24.dskTurned hDg ht25 (by decide)
              have hT25 := hT24.trans ht25 (fun _ e => e) (fun k e => .inr (hfrg.out k e))
              refine hK.out _ _ (m4_cells hG25) ?_
              clear hK K
              iterate 3 (refine wpSegs_take (v := ?_) (m4_cells hG25) rfl (fun w' hw => ?_) ?_; rotate_left; (obtain ⟨hv0, hv1, hv2, hv3⟩ := hw; go_simp; try with_reducible rfl); try simp only [Act.put, List.setIfInBounds_toArray, List.set_cons_zero, List.set_cons_succ])
              refine wpSegs_run rfl (fun K hK => ?_)
              go_simp
              refine (awake25_any w25).mono ?_
              rintro e w26 ⟨rfl, ht26⟩
              have hG26 := hG25.turned ht26 (fun e => e)
              refine hK.out _ _ (m4_cells hG26) ?_
              clear hK K
              iterate 2 (refine wpSegs_take (v := ?_) (m4_cells hG26) rfl (fun w' hw => ?_) ?_; rotate_left; (obtain ⟨hv0, hv1, hv2, hv3⟩ := hw; go_simp; try with_reducible rfl); try simp only [Act.put, List.setIfInBounds_toArray, List.set_cons_zero, List.set_cons_succ])
              refine wpSegs_nil ?_
              go_wp2_with fail
              go_ret
              exact ⟨rfl, hT25.trans (W := fun _ => False) ht26 (fun _ e => e) (fun _ e => e.elim)⟩
end Go.Proofs.Ytobjoafhhchjgaa
