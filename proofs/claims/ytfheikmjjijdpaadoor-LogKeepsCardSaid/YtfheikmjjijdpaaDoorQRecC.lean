/-
  record's writer: number, row, and the buffer's bytes. No condition but numbers.
-/
import Derived.Test.YtfheikmjjijdpaaDoorQRecB
import Derived.Test.YtfheikmjjijdpaaDoorQRecE
import Derived.Lib.OthersKept
import Derived.StillTailTactics
import Derived.Laws.IdiomCopy
namespace Go.Proofs.YtfheikmjjijdpaaDoor
open Go.RowKit Go.Maps
set_option linter.unusedVariables false
set_option linter.unusedSimpArgs false

/-- Block b is a writer that holds the bytes zs; its own blocks lie from B on. -/
def BufW (B b : Nat) (zs : List Int) (w : World) : Prop := LibA.IsBuffer 88 (fun _ => none) 5 B b 0 (u8s zs) w
def WrPost (B b : Nat) (zs : List Int) (w : World) (e : Ending) (w' : World) : Prop := e = .returned (.tuple #[]) ∧ BufW B b zs w' ∧ Below B w w' ∧ Lib.OthersKept 5 (some b) w w'
theorem u8s_append (a b : List Int) : u8s (a ++ b) = u8s a ++ u8s b := by simp [u8s]
theorem BufW.new (w : World) : BufW w.heap.size w.heap.size [] (w.alloc (.cells #[.slice none 0 0, .int .i64 0, .int .i8 0] 88)) :=
  LibA.zero_isBuffer (Nat.le_refl _) (LibA.three_whole (heap_alloc_new w _))
theorem BufW.base {B B' b : Nat} {zs : List Int} {w : World} (h : BufW B b zs w) (hB : B' ≤ B) : BufW B' b zs w := by
  obtain ⟨h1, v, lr, h3, h4, h5⟩ := h
  refine ⟨Nat.le_trans hB h1, v, lr, h3, ⟨h4.1, ?_⟩, h5⟩
  rcases h4.2 with h6 | ⟨g, cap, cur, e1, e2, r⟩
  · exact .inl h6
  · exact .inr ⟨g, cap, cur, e1, Nat.le_trans hB e2, r⟩
theorem BufW.alloc {B b : Nat} {zs : List Int} {w : World} (h : BufW B b zs w) (o : Obj) : BufW B b zs (w.alloc o) := LibA.IsBuffer.alloc h o
theorem BufW.drewN {B b : Nat} {zs : List Int} {w : World} (h : BufW B b zs w) (n : Nat) : BufW B b zs (w.drewN n) := LibA.IsBuffer.drewN h n
theorem BufW.fresh {B b : Nat} {zs : List Int} {w w' : World} (h : BufW B b zs w) (ht : Turned (fun _ => False) w w') : BufW B b zs w' := LibA.IsBuffer.carry h (fun k hk => ht.block k hk (fun e => e))
theorem BufW.lt {B b : Nat} {zs : List Int} {w : World} (h : BufW B b zs w) : b < w.heap.size := LibA.IsBuffer.lt h
theorem BufW.ge {B b : Nat} {zs : List Int} {w : World} (h : BufW B b zs w) : B ≤ b := h.1
/-- Its bytes lie in a row of their own. -/
theorem BufW.row {B b : Nat} {zs : List Int} {w : World} (h : BufW B b zs w) (hz : zs ≠ []) : ∃ g cap lr, Blk w b 88 #[.slice (some ⟨g, 0, none⟩) zs.length cap, .int .i64 0, .int .i8 lr] ∧ RowB w 5 g zs.length cap zs ∧ B ≤ g ∧ g ≠ b := by
  obtain ⟨hB, v, lr, ⟨cs, hb, c0, c1, c2, cr⟩, hown, hne⟩ := h
  rw [u8s_length] at hown
  rcases hown.2 with ⟨rfl, h0⟩ | ⟨g, cap, cur, rfl, hBg, hg, hnc, hcm, hcs, htk⟩
  · exact absurd (List.length_eq_zero_iff.1 h0) hz
  · refine ⟨g, cap, lr, ?_, ⟨rfl, hnc, hcm, cur, hg, by rw [Nat.mul_one] at hcs; exact hcs, by rw [Nat.mul_one] at htk; exact htk⟩, hBg, fun e => hne (by simp [Value.ownBlock, e])⟩
    have e : cs = #[.slice (some ⟨g, 0, none⟩) zs.length cap, .int .i64 0, .int .i8 lr] := by
      apply Array.ext_getElem?
      intro i
      match i with
      | 0 => exact c0
      | 1 => exact c1
      | 2 => exact c2
      | i + 3 => rw [cr (i + 3) (.inr (by omega))]; simp
    unfold Blk
    rw [← e]
    exact hb
theorem byte_any (B b : Nat) (zs : List Int) (x : Int) (w : World) (h : BufW B b zs w) (hB : B ≤ w.heap.size) (hl : zs.length ≤ 1000000) :
    Calls Tryd.prog 58 #[.pointer (some ⟨b, 0, none⟩), .int .u8 x] w (fun e w' => e = .returned .nilIface ∧ BufW B b (zs ++ [x]) w' ∧ Below B w w' ∧ Lib.OthersKept 5 (some b) w w') := by
  refine (Any.Buffer_WriteByte_at Tryd.laysM179 88 (fun _ => none) B b 0 (u8s zs) x w h hB (u8s_one zs) (by rw [u8s_length]; omega)).mono ?_
  rintro e w' ⟨h1, h2, h3, h4⟩
  refine ⟨h1, ?_, h3, h4⟩
  unfold BufW
  rw [u8s_append]
  exact h2
theorem write_any (B b : Nat) (zs ys : List Int) (a : Addr) (n c : Nat) (w : World) (h : BufW B b zs w) (hB : B ≤ w.heap.size) (hl : zs.length ≤ 1000000) (hn : ys.length = n) (hn2 : n ≤ 1000000) (hab : a.block ≠ b) (hsrc : ∀ j v, (u8s ys)[j]? = some v → w.cell? (a.add j) = some v) :
    Calls Tryd.prog 36 #[.pointer (some ⟨b, 0, none⟩), .slice (some a) n c] w (fun e w' => e = .returned (.tuple #[.int .i64 n, .nilIface]) ∧ BufW B b (zs ++ ys) w' ∧ Below B w w' ∧ Lib.OthersKept 5 (some b) w w') := by
  refine (Any.Buffer_Write_at Tryd.laysM180 88 (fun _ => none) B b 0 (u8s zs) (u8s ys) a n c w h hB (u8s_one zs) (by rw [u8s_length, hn]) hab hsrc (u8s_one ys) (by rw [u8s_length]; omega)).mono ?_
  rintro e w' ⟨h1, h2, h3, h4⟩
  refine ⟨h1, ?_, h3, h4⟩
  unfold BufW
  rw [u8s_append]
  exact h2
theorem u8size : (Tryd.prog.info? 5).map (·.size) = some 1 := by kernel_rfl
set_option maxRecDepth 100000 in
set_option maxHeartbeats 1000000 in
theorem write_none (B b : Nat) (zs : List Int) (A : Option Addr) (c : Nat) (w : World) (h : BufW B b zs w) (hB : B ≤ w.heap.size) (hz : zs ≠ []) (hl : zs.length ≤ 1000000) :
    Calls Tryd.prog 36 #[.pointer (some ⟨b, 0, none⟩), .slice A 0 c] w (fun e w' => e = .returned (.tuple #[.int .i64 0, .nilIface]) ∧ BufW B b zs w' ∧ Below B w w' ∧ Lib.OthersKept 5 (some b) w w') := by
  have hce : ∀ d dLen dCap W, (Builtin.copy_ #[33, 33] 3 #[.slice d dLen dCap, .slice A 0 c]).run Tryd.prog W = .ok (goInt 0) W := fun d dLen dCap W => run_copy_none W 33 33 3 5 d A dLen dCap 0 c Tryd.underlying33 u8size (by simp)
  obtain ⟨g, cap, lr, hbk, hr, hBg, hgb⟩ := h.row hz
  have c2 : w.cell? ⟨b, 2, none⟩ = some (.int .i8 lr) := hbk.cell 2
  have f2 := hbk.frozen 2
  have h' := LibA.IsBuffer.setLast h 0
  have hbel0 : Below B w (w.setCell ⟨b, 2, none⟩ (.int .i8 0)) := (Below.refl B w).setCell (p := ⟨b, 2, none⟩) h.1 _
  have hk0 : Lib.OthersKept 5 (some b) w (w.setCell ⟨b, 2, none⟩ (.int .i8 0)) := (Lib.OthersKept.refl _ _ w).setCell ⟨b, 2, none⟩ rfl _
  have hle := hr.le
  have hmx := hr.max
  unfold maxLen at hmx
  have hT := Lib.hid (fun W (hW : LibA.IsBuffer 88 (fun _ => none) 5 B b 0 (u8s zs) W) => Any.Buffer_tryGrow_at Tryd.laysM251 88 (fun _ => none) B b 0 0 (u8s zs) W hW)
  have H' := Lib.hid h'
  have HB0 := Lib.hid (And.intro hbel0 hk0)
  have hzz := Lib.hid hz
  clear h h' hbel0 hk0 hbk hr hz
  go_enter Tryd.func36, Tryd.ntmps36
  go_wp2_with fail
  refine (hT.out _ H'.out).mono ?_
  rintro e W1 (⟨rfl, xs, hxl, hI, hbel, hk, hg⟩ | ⟨rfl, rfl, _, _, _, _, hlt⟩)
  · obtain rfl : xs = [] := List.eq_nil_of_length_eq_zero hxl
    rw [List.append_nil] at hI
    obtain ⟨g2, cap2, lr2, hbk2, hr2, _, _⟩ := BufW.row (zs := zs) hI hzz.out
    have d0 : W1.cell? ⟨b, 0, none⟩ = some (.slice (some ⟨g2, 0, none⟩) zs.length cap2) := hbk2.cell 0
    have hle2 := hr2.le
    have hmx2 := hr2.max
    unfold maxLen at hmx2
    have HI := Lib.hid hI
    have HB1 := Lib.hid (And.intro (HB0.out.1.trans hbel) (HB0.out.2.trans hk))
    have ul : (u8s zs).length = zs.length := u8s_length zs
    rw [ul]
    clear hT H' HB0 hI hbel hk hg hbk2 hr2 c2 f2 ul
    go_wp2_with fail
    all_goals
      go_ret2
      exact ⟨rfl, HI.out, HB1.out.1, HB1.out.2⟩
  · omega
set_option maxRecDepth 100000 in
theorem bytes_any (B b : Nat) (zs : List Int) (w : World) (h : BufW B b zs w) (hz : zs ≠ []) : Calls Tryd.prog 39 #[.pointer (some ⟨b, 0, none⟩)] w (fun e w' => ∃ g cap, e = .returned (.slice (some ⟨g, 0, none⟩) zs.length cap) ∧ RowB w 5 g zs.length cap zs ∧ B ≤ g ∧ g ≠ b ∧ ∃ n, w' = w.drewN n) := by
  obtain ⟨g, cap, lr, hbk, hr, hBg, hgb⟩ := h.row hz
  have c0 : w.cell? ⟨b, 0, none⟩ = some (.slice (some ⟨g, 0, none⟩) zs.length cap) := hbk.cell 0
  have c1 : w.cell? ⟨b, 1, none⟩ = some (.int .i64 0) := hbk.cell 1
  have hle := hr.le
  have hmx := hr.max
  have hpos : 0 < cap := by
    have : 0 < zs.length := List.length_pos_iff.2 hz
    omega
  have hne : ¬ cap = 0 := by omega
  have hne2 : ((cap : Int) == 0) = false := by rw [beq_eq_false_iff_ne]; omega
  have hne3 : ¬ (0 = cap) := by omega
  unfold maxLen at hmx
  have hF := Lib.hid (And.intro hr (And.intro hBg hgb))
  clear h hz hbk hr hBg hgb
  generalize zs.length = n at *
  go_enter Tryd.func39, Tryd.ntmps39
  go_wp2_with fail
  go_quiet (fail)
  go_wp2_with fail
  go_ret
  exact ⟨g, cap, rfl, hF.out.1, hF.out.2.1, hF.out.2.2, _, rfl⟩
/-! number, row -/
def WNumRel (B b : Nat) (zs : List Int) (n : Int) (k : Nat) (w : World) (i : Value) (wr : World) : Prop :=
  ∃ t : Nat, t ≤ k ∧ i = .int .i64 ((k : Int) - 1 - (t : Int)) ∧ BufW B b (zs ++ beTo k n t) wr ∧ Below B w wr ∧ Lib.OthersKept 5 (some b) w wr
set_option maxRecDepth 100000 in
set_option maxHeartbeats 1000000 in
theorem wnumber_any (B b : Nat) (zs : List Int) (n : Int) (k : Nat) (w : World) (h : BufW B b zs w) (hB : B ≤ w.heap.size) (hk : k ≤ 8) (hl : zs.length ≤ 100000) :
    Calls Tryd.prog 37 #[.pointer (some ⟨b, 0, none⟩), .int .i64 n, .int .i64 k] w (WrPost B b (zs ++ be k n) w) := by
  have mixed : Tryd.prog.follows .mixedOrders = true := by kernel_rfl
  have h' := Lib.hid h
  clear h
  go_enter Tryd.func37, Tryd.ntmps37
  go_wp2_with fail
  go_loopw [6] (fun i wr => WNumRel B b zs n k w i wr) (fun i _ => (intOf i + 1).toNat)
  case atStart => exact ⟨0, by omega, by simp, by rw [show beTo k n 0 = [] from rfl, List.append_nil]; exact h'.out, Below.refl _ _, Lib.OthersKept.refl _ _ _⟩
  case round =>
    obtain ⟨t, ht, rfl, hb, hbel, hok⟩ := hrel
    have hb' := Lib.hid hb
    have hbel' := Lib.hid hbel
    have hok' := Lib.hid hok
    have hsz := Nat.le_trans hB hbel.size
    have hll : (zs ++ beTo k n t).length ≤ 1000000 := by rw [List.length_append, beTo_length]; omega
    have hll' := Lib.hid hll
    clear hb hbel hok hll
    by_cases hlt : t < k
    · obtain ⟨m, hm⟩ : ∃ m : Nat, m = k - 1 - t := ⟨_, rfl⟩
      have hmi : (k : Int) - 1 - (t : Int) = (m : Int) := by omega
      have hm7 : m ≤ 7 := by omega
      have hx := Lib.hid (show beAt k n t = n / 2 ^ (8 * m) % 256 by unfold beAt; rw [hm])
      rw [hmi]
      clear hm
      have hm0 : (0 : Int) ≤ (m : Int) := by omega
      have h8 : (0 : Int) ≤ 8 * (m : Int) := by omega
      have h8b : 8 * (m : Int) ≤ 56 := by omega
      have hw8 : IntKind.i64.wrap (8 * (m : Int)) = 8 * (m : Int) := IntWalk.i64_in _ (by omega)
      go_wp2_with fail
      refine wp_region_still_tail 8 mixed (by kernel_rfl) ?_
      simp only [List.take_succ_cons, List.take_zero, List.drop_succ_cons, List.drop_zero]
      change wpStill _ _ wr.drew (fun a' => wpList _ _ _ _ a' wr.drew) _ _
      iterate 8 still_step
      refine wpStill_nil ?_
      go_wp2_with fail
      refine (byte_any B b (zs ++ beTo k n t) _ _ (hb'.out.drewN 1) hsz hll'.out).mono ?_
      rintro e w3 ⟨rfl, b3, l3, o3⟩
      rw [← hx.out] at b3
      have hR := Lib.hid (show WNumRel B b zs n k w (.int .i64 ((k : Int) - 1 - ((t + 1 : Nat) : Int))) w3 from ⟨t + 1, hlt, rfl, by rw [beTo_succ, ← List.append_assoc]; exact b3, hbel'.out.trans (⟨l3.os, l3.tape, l3.output, l3.size, l3.block⟩ : Below B wr w3), hok'.out.trans (fun k o h => o3 k o h)⟩)
      have hmv : Value.int .i64 ((m : Int) - 1) = .int .i64 ((k : Int) - 1 - ((t + 1 : Nat) : Int)) := by congr 1; omega
      have hmv' := Lib.hid hmv
      clear b3 l3 o3 hmv
      go_wp2_with fail
      go_roundw
      case rel =>
        first
        | (rw [hmv'.out]; exact hR.out)
        | ((repeat apply Exists.intro); exact ⟨by rw [hmv'.out]; exact hR.out, rfl⟩)
      case measure => simp [intOf] <;> omega
    · obtain rfl : t = k := by omega
      have hneg : (t : Int) - 1 - (t : Int) = -1 := by omega
      rw [hneg]
      go_wp2_with fail
      go_end0
      exact ⟨rfl, hb'.out, hbel'.out, hok'.out⟩
set_option maxRecDepth 100000 in
set_option maxHeartbeats 1000000 in
theorem wrow_any (B b : Nat) (zs ys : List Int) (s : Sl) (w : World) (h : BufW B b zs w) (hB : B ≤ w.heap.size) (hy : SlB w s ys) (hn : s.n ≤ 255) (hfar : 0 < s.n → ∀ g o, s.A = some ⟨g, o, none⟩ → g < B) (hl : zs.length ≤ 100000) :
    Calls Tryd.prog 38 #[.pointer (some ⟨b, 0, none⟩), .slice s.A s.n s.c] w (WrPost B b (zs ++ rowL ys) w) := by
  obtain ⟨A, n, c⟩ := s
  simp only at hn hfar ⊢
  have hyl := hy.len
  simp only at hyl
  have hb255 : (n : Int) % 256 = (n : Int) := by omega
  have hB1 := Lib.hid (byte_any B b zs (n : Int) w h hB (by omega))
  have hy' := Lib.hid hy
  have hyl' := Lib.hid hyl
  have hbge := h.ge
  clear h hy hyl
  go_enter Tryd.func38, Tryd.ntmps38
  go_wp2_with fail
  refine hB1.out.mono ?_
  rintro e w1 ⟨rfl, b1, l1, o1⟩
  have B1 := Lib.hid b1
  have L1 := Lib.hid l1
  have O1 := Lib.hid o1
  have hsz1 := Nat.le_trans hB l1.size
  clear b1 l1 o1 hB1
  go_wp2_with fail
  by_cases h0 : n = 0
  · subst h0
    obtain rfl : ys = [] := List.length_eq_zero_iff.1 hyl'.out
    refine (write_none B b (zs ++ [((0 : Nat) : Int)]) A c w1 B1.out hsz1 (by simp) (by rw [List.length_append]; simp; omega)).mono ?_
    rintro e w2 ⟨rfl, b2, l2, o2⟩
    have F := Lib.hid (show WrPost B b (zs ++ rowL []) w (.returned (.tuple #[])) w2 from ⟨rfl, b2, L1.out.trans l2, O1.out.trans o2⟩)
    clear b2 l2 o2
    go_wp2_with fail
    go_end0
    exact F.out
  · obtain ⟨g, off, rfl, hc⟩ := hy'.out.bytS.cell (show 0 < n by omega)
    have hg := hfar (by omega) g off rfl
    have hnews : ∀ j v, (u8s ys)[j]? = some v → w1.cell? ((⟨g, off, none⟩ : Addr).add j) = some v := fun j v hv => by
      have h2 := hy'.out.bytS.news _ rfl j v hv
      rw [Addr.add_mid] at h2 ⊢
      exact (L1.out.cell (p := ⟨g, off + j, none⟩) hg).trans h2
    refine (write_any B b (zs ++ [(n : Int)]) ys ⟨g, off, none⟩ n c w1 B1.out hsz1 (by simp; omega) hyl'.out (by omega) (by show g ≠ b; omega) hnews).mono ?_
    rintro e w2 ⟨rfl, b2, l2, o2⟩
    have F := Lib.hid (show WrPost B b (zs ++ rowL ys) w (.returned (.tuple #[])) w2 from ⟨rfl, by unfold rowL; rw [hyl'.out, show zs ++ (n : Int) :: ys = (zs ++ [(n : Int)]) ++ ys by simp]; exact b2, L1.out.trans l2, O1.out.trans o2⟩)
    clear b2 l2 o2 hnews hc
    go_wp2_with fail
    go_end0
    exact F.out
end Go.Proofs.YtfheikmjjijdpaaDoor

