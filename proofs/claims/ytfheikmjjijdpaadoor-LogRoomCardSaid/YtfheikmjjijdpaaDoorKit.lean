/-
  What the statements share: Pick, full, SameBytes.
-/
import Derived.Test.YtfheikmjjijdpaaDoorDskD
import Derived.BigQuiet
import Derived.Deep.QuietTactic
namespace Go.Proofs.YtfheikmjjijdpaaDoor
open Go.RowKit Go.Maps

theorem ret_int {k : IntKind} {a b : Int} (h : a = b) : Ending.returned (.int k a) = .returned (.int k b) := by rw [h]
theorem ret_bool {a b : Bool} (h : a = b) : Ending.returned (.bool a) = .returned (.bool b) := by rw [h]
theorem tmod_neg (x n : Int) (hx : x < 0) (hn : 1 ≤ n) : -n < x.tmod n ∧ x.tmod n ≤ 0 ∧ (x % n = if x.tmod n < 0 then x.tmod n + n else x.tmod n) := by
  have h1 := Int.tmod_add_mul_tdiv x n
  have h2 : x.tmod n = -((-x) % n) := by
    rw [show x = -(-x) by omega, Int.neg_tmod, Int.tmod_eq_emod_of_nonneg (by omega)]; simp
  have h3 := Int.emod_nonneg (-x) (show n ≠ 0 by omega)
  have h4 := Int.emod_lt_of_pos (-x) (show 0 < n by omega)
  refine ⟨by omega, by omega, ?_⟩
  split
  · have e : x.tmod n + n + n * (x.tdiv n - 1) = x := by rw [Int.mul_sub]; omega
    exact ((Int.ediv_emod_unique (a := x) (b := n) (r := x.tmod n + n) (q := x.tdiv n - 1) (by omega)).2 ⟨e, by omega, by omega⟩).2
  · exact ((Int.ediv_emod_unique (a := x) (b := n) (r := x.tmod n) (q := x.tdiv n) (by omega)).2 ⟨h1, by omega, by omega⟩).2

theorem pick_any (x n : Int) (w : World) (hn : 1 ≤ n) (hn2 : n ≤ 1000000) (hx1 : -9223372036854775808 ≤ x) (hx2 : x ≤ 9223372036854775807) :
    Calls Tryd.prog 10 #[.int .i64 x, .int .i64 n] w (RetSame (.int .i64 (x % n)) w) := by
  by_cases h0 : 0 ≤ x
  · have := Int.emod_nonneg x (show n ≠ 0 by omega)
    go_enter Tryd.func10, Tryd.ntmps10
    go_wp2
    go_ret
    exact ⟨rfl, rfl⟩
  · obtain ⟨h1, h2, h3⟩ := tmod_neg x n (by omega) hn
    by_cases h4 : x.tmod n < 0
    · rw [if_pos h4] at h3
      have h3' := Lib.hid h3
      clear h3
      go_enter Tryd.func10, Tryd.ntmps10
      go_wp2
      go_ret
      exact ⟨ret_int h3'.out.symm, rfl⟩
    · rw [if_neg h4] at h3
      have h3' := Lib.hid h3
      clear h3
      go_enter Tryd.func10, Tryd.ntmps10
      go_wp2
      go_ret
      exact ⟨ret_int h3'.out.symm, rfl⟩

theorem RowB.set {w : World} {U g n cap : Nat} {zs : List Int} (h : RowB w U g n cap zs) (i : Nat) (z : Int) : RowB (w.setCell ⟨g, i, none⟩ (.int .u8 z)) U g n cap (zs.set i z) := by
  obtain ⟨cs, hb, hs, ht⟩ := h.row
  refine ⟨by simp [h.len], h.le, h.max, _, hb.set_ i _, by simp [hs], ?_⟩
  simp only [Array.toList_setIfInBounds]
  rw [List.take_set, ht]
  simp [u8s, List.map_set]

/-- A sector of a byte, and another one in each 64th of it. -/
def fullAt (b : Int) (i : Nat) : Int := (b + i / 64) % 256
def fullB (b : Int) : List Int := (List.range 512).map (fullAt b)
def fullTo (b : Int) (j : Nat) : List Int := (List.range 512).map fun i => if i < j then fullAt b i else 0
theorem fullTo_zero (b : Int) : fullTo b 0 = noughts := by
  unfold fullTo noughts
  apply List.ext_getElem
  · rw [List.length_map, List.length_range, List.length_replicate]
  · intro i h1 h2
    rw [List.getElem_map, List.getElem_replicate, if_neg (Nat.not_lt_zero _)]
theorem fullTo_end (b : Int) : fullTo b 512 = fullB b := by
  unfold fullTo fullB
  apply List.map_congr_left
  intro i hi
  rw [if_pos (List.mem_range.1 hi)]
theorem fullTo_step (b : Int) (j : Nat) : (fullTo b j).set j (fullAt b j) = fullTo b (j + 1) := by
  unfold fullTo
  apply List.ext_getElem
  · rw [List.length_set, List.length_map, List.length_map]
  · intro i h1 h2
    rw [List.getElem_set]
    simp only [List.getElem_map, List.getElem_range]
    by_cases e : j = i
    · subst e; simp
    · rw [if_neg e]
      by_cases h3 : i < j
      · rw [if_pos h3, if_pos (by omega)]
      · rw [if_neg h3, if_neg (by omega)]
theorem sec_full (b : Int) : Sec (fullB b) := ⟨by rw [fullB, List.length_map, List.length_range], fun z hz => by
  obtain ⟨i, _, rfl⟩ := List.mem_map.1 hz
  unfold fullAt isByte
  omega⟩
theorem made_u8 (n : Nat) : (madeCells (Value.int .u8 0).cells (n * 1)).toList = u8s (List.replicate n 0) := by
  unfold madeCells u8s
  apply List.ext_getElem
  · simp
  · intro i h1 h2
    simp [Value.cells, Nat.mod_one]

def NewRow (v : Value → Prop) (w : World) (e : Ending) (w' : World) (zs : List Int) : Prop :=
  ∃ g cap, e = .returned (.slice (some ⟨g, 0, none⟩) zs.length cap) ∧ v (.slice (some ⟨g, 0, none⟩) zs.length cap) ∧ RowB w' 5 g zs.length cap zs ∧ w.heap.size ≤ g ∧ Turned (fun _ => False) w w'
def FullPost (b : Int) (w : World) (e : Ending) (w' : World) : Prop :=
  ∃ g, e = .returned (.slice (some ⟨g, 0, none⟩) 512 512) ∧ RowB w' 5 g 512 512 (fullB b) ∧ w.heap.size ≤ g ∧ Turned (fun _ => False) w w'

/-- n bytes zs at A. -/
structure BytR (w : World) (A : Option Addr) (n : Nat) (zs : List Int) : Prop where
  len : zs.length = n
  max : n ≤ 9223372036854775807
  cell : 0 < n → ∃ b off, A = some ⟨b, off, none⟩ ∧ ∀ j, j < n → w.cell? ⟨b, off + j, none⟩ = some (.int .u8 (zs.getD j 0))
theorem BytR.none_ (w : World) : BytR w none 0 [] := ⟨rfl, by omega, fun h => absurd h (by omega)⟩
theorem RowB.bytR {w : World} {U g n cap : Nat} {zs : List Int} (h : RowB w U g n cap zs) : BytR w (some ⟨g, 0, none⟩) n zs :=
  ⟨h.len, by have := h.le; have := h.max; unfold maxLen at this; omega, fun _ => ⟨g, 0, rfl, fun j hj => by rw [Nat.zero_add]; exact h.cell hj⟩⟩

def RetDraw (v : Value) (w : World) (e : Ending) (w' : World) : Prop := e = .returned v ∧ ∃ n, w' = w.drewN n

theorem getD_ext {zs ys : List Int} (hl : zs.length = ys.length) (h : ∀ j, j < zs.length → zs.getD j 0 = ys.getD j 0) : zs = ys := by
  apply List.ext_getElem hl
  intro i h1 h2
  have := h i h1
  simp only [List.getD_eq_getElem?_getD, List.getElem?_eq_getElem h1, List.getElem?_eq_getElem h2] at this
  exact this

def SameRel (n : Nat) (zs ys : List Int) (w : World) (i : Value) (wr : World) : Prop := ∃ j k : Nat, j ≤ n ∧ i = .int .i64 j ∧ wr = w.drewN k ∧ ∀ t, t < j → zs.getD t 0 = ys.getD t 0
set_option maxHeartbeats 400000 in
theorem same_bytes (A B : Option Addr) (n m c1 c2 : Nat) (zs ys : List Int) (w : World) (hz : BytR w A n zs) (hy : BytR w B m ys) :
    Calls Tryd.prog 83 #[.slice A n c1, .slice B m c2] w (RetDraw (.bool (decide (zs = ys))) w) := by
  have hn := hz.max
  have hm := hy.max
  by_cases hnm : n = m
  · subst hnm
    have hz' := Lib.hid hz
    have hy' := Lib.hid hy
    clear hz hy
    go_enter Tryd.func83, Tryd.ntmps83
    go_wp2
    go_loopw [5] (fun i wr => SameRel n zs ys w i wr) (fun i _ => n - (intOf i).toNat)
    case atStart => exact ⟨0, 0, by omega, rfl, rfl, fun t ht => absurd ht (by omega)⟩
    case round =>
      obtain ⟨j, k, hj, rfl, rfl, hall⟩ := hrel
      have hall' := Lib.hid hall
      clear hall
      by_cases hlt : j < n
      · obtain ⟨b1, o1, rfl, k1⟩ := hz'.out.cell (by omega)
        obtain ⟨b2, o2, rfl, k2⟩ := hy'.out.cell (by omega)
        have q1 := k1 j hlt
        have q2 := k2 j hlt
        clear k1 k2
        generalize hx1 : zs.getD j 0 = x1 at q1
        generalize hx2 : ys.getD j 0 = x2 at q2
        have hx1' := Lib.hid hx1
        have hx2' := Lib.hid hx2
        clear hx1 hx2
        have hj0 : (0 : Int) ≤ (j : Int) := by omega
        have hjn : (j : Int) < (n : Int) := by omega
        by_cases he : x1 = x2
        · subst he
          have hall2 : ∀ t, t < j + 1 → zs.getD t 0 = ys.getD t 0 := by
            intro t ht
            by_cases e : t = j
            · subst e; rw [hx1'.out, hx2'.out]
            · exact hall'.out t (by omega)
          have hall3 := Lib.hid hall2
          clear hall2
          go_wp2
          go_quiet (fail)
          go_wp2
          go_roundw
          case rel =>
            first
            | exact ⟨j + 1, k + nq, by omega, by go_num, by first | rfl | rw [World.drewN_drewN], hall3.out⟩
            | ((repeat apply Exists.intro); exact ⟨⟨j + 1, k + nq, by omega, by go_num, by first | rfl | rw [World.drewN_drewN], hall3.out⟩, rfl⟩)
          case measure => simp [intOf]; omega
        · have hne : (x1 != x2) = true := by simpa using he
          clear he
          go_wp2
          go_quiet (fail)
          go_wp2
          go_ret
          refine ⟨ret_bool ?_, k + nq, by first | rfl | rw [World.drewN_drewN]⟩
          symm
          rw [decide_eq_false_iff_not]
          intro e
          subst e
          have := hx1'.out.symm.trans hx2'.out
          subst this
          simp at hne
      · have hjn : j = n := by omega
        have hjn' := Lib.hid hjn
        have hge : (n : Int) ≤ (j : Int) := by omega
        clear hj hjn
        go_wp2
        go_ret
        refine ⟨ret_bool ?_, _, rfl⟩
        symm
        rw [decide_eq_true_eq]
        have l1 := hz'.out.len
        have l2 := hy'.out.len
        have e := hjn'.out
        exact getD_ext (by omega) (fun t ht => hall'.out t (by omega))
  · have hne : ((n : Int) != (m : Int)) = true := by rw [bne_iff_ne]; omega
    have hd : decide (zs = ys) = false := by
      rw [decide_eq_false_iff_not]
      intro e
      have l1 := hz.len
      have l2 := hy.len
      rw [e] at l1
      omega
    have hd' := Lib.hid hd
    clear hz hy hd
    go_enter Tryd.func83, Tryd.ntmps83
    go_wp2
    go_ret
    exact ⟨ret_bool hd'.out.symm, 0, rfl⟩
end Go.Proofs.YtfheikmjjijdpaaDoor
