/-
 What the statements share: lists of lots, and of uses: compared, and lent with marks behind their end; answers compared. Conditions: at most 1000000 elements.
-/
import Derived.Test.YtglojnmcbochaaaGreatDoorULnQ
import Derived.Test.YtglojnmcbochaaaGreatDoorUTelB
namespace Go.Proofs.YtglojnmcbochaaaGreatDoor
open Go.RowKit Go.Maps
set_option linter.unusedVariables false
set_option linter.unusedSimpArgs false

def mkL (k i : Int) : LotV := ⟨1000003 * (k + 7) + i, [], 0, 0, 0, false⟩
def mkU (k i : Int) : UseV := ⟨0, 1000003 * (k + 7) + i, 0⟩

theorem SlL.drewN {w : World} {s : Sl} {l : List LotV} (h : SlL w s l) (k : Nat) : SlL (w.drewN k) s l := SlE.fresh h ((Turned.refl _ w).drewN k)
set_option maxRecDepth 100000 in
set_option maxHeartbeats 2000000 in
theorem sameL_any (a b : Sl) (l : List LotV) (w : World) (ha : SlL w a l) (hb : SlL w b l) : Calls Tryz.prog 113 #[.slice a.A a.n a.c, .slice b.A b.n b.c] w (RetDraw (.bool true) w) := by
 obtain ⟨A, n, c⟩ := a
 obtain ⟨B, m, d⟩ := b
 have h1 := ha.len
 have h2 := hb.len
 have hn := Nat.le_trans (SlE.le ha) (SlE.max ha)
 simp only at h1 h2 hn ⊢
 unfold maxLen at hn
 obtain rfl : n = m := by omega
 have ha' := hZ ha
 have hb' := hZ hb
 clear ha hb h1 h2
 go_enter Tryz.func113, Tryz.ntmps113
 go_wp2
 go_loopw [5] (fun i wr => DrwRel n w i wr) (fun i _ => n - (intOf i).toNat)
 case atStart => exact ⟨0, 0, by omega, rfl, rfl⟩
 case round =>
  obtain ⟨j, k, hj, rfl, hwr⟩ := hrel
  by_cases hlt : j < n
  ·have hji : (j : Int) < (n : Int) := by omega
   obtain ⟨ba, oa, hA, hca⟩ := (ha'.out.drewN k).cells (show 0 < n by omega)
   obtain ⟨bb, ob, hB, hcb⟩ := (hb'.out.drewN k).cells (show 0 < n by omega)
   simp only at hA hB
   subst hA hB
   obtain ⟨q1, q2, q3, q4, q5, q6⟩ := hca j hlt
   obtain ⟨p1, p2, p3, p4, p5, p6⟩ := hcb j hlt
   rw [← hwr] at q1 p1 q2 p2 q3 p3 q4 p4 q5 p5 q6 p6
   have hwr' := hZ hwr
   clear hca hcb hwr
   generalize (l.getD j LotV.zero).id = v1 at *
   generalize (⟨((l.getD j LotV.zero).item).toArray⟩ : ByteArray) = v2 at *
   generalize (l.getD j LotV.zero).frm = v3 at *
   generalize (l.getD j LotV.zero).til = v4 at *
   generalize (l.getD j LotV.zero).qty = v5 at *
   generalize (l.getD j LotV.zero).here = v6 at *
   go_wp2
   go_quiet (fail)
   go_wp2
   go_roundw
   case rel =>
    first
    | exact ⟨j + 1, k + nq, by omega, by go_num, by rw [hwr'.out, World.drewN_drewN]⟩
    | ((repeat apply Exists.intro); exact ⟨⟨j + 1, k + nq, by omega, by go_num, by rw [hwr'.out, World.drewN_drewN]⟩, rfl⟩)
   case measure => simp [intOf] <;> omega
  ·have hge : (n : Int) ≤ (j : Int) := by omega
   have hwr' := hZ hwr
   clear hwr
   go_wp2
   go_ret
   exact ⟨rfl, k, hwr'.out⟩
def marksL (k : Int) (n : Nat) : List LotV := (List.range n).map fun (i : Nat) => mkL k i
theorem marksL_length (k : Int) (n : Nat) : (marksL k n).length = n := by simp [marksL]
theorem marksL_succ (k : Int) (n : Nat) : marksL k (n + 1) = marksL k n ++ [mkL k n] := by simp [marksL, List.range_succ]
theorem marksL_at (l : List LotV) (k : Int) (n i j : Nat) (h : j = l.length + i) (hi : i < n) : (l ++ marksL k n).getD j LotV.zero = mkL k i := by
 rw [h, getD_app_r _ _ _ _ (by omega), Nat.add_sub_cancel_left]
 simp [marksL, List.getD_eq_getElem?_getD, hi]
def LentL (T n : Nat) (l : List LotV) (w : World) (e : Ending) (w' : World) : Prop :=
 ∃ g, e = .returned (.slice (some ⟨g, 0, none⟩) n (n + 12)) ∧ RowE w' T 6 g (n + 12) (n + 12) (lotC (l ++ marksL 1 12)) ∧ w.heap.size ≤ g ∧ Turned (fun _ => False) w w'
def LentLRel (T n : Nat) (l : List LotV) (w : World) (v i : Value) (wr : World) : Prop :=
 ∃ j : Nat, j ≤ 12 ∧ i = .int .i64 j ∧ v = .slice (some ⟨w.heap.size, 0, none⟩) (n + j) (n + 12) ∧ RowE wr T 6 w.heap.size (n + j) (n + 12) (lotC (l ++ marksL 1 j)) ∧ Turned (fun _ => False) w wr
def KeptLRel (n : Nat) (w : World) (i : Value) (wr : World) : Prop := ∃ j : Nat, j ≤ n + 12 ∧ i = .int .i64 j ∧ Turned (fun _ => False) w wr
theorem RowE.rowL {w : World} {T g n cap : Nat} {l : List LotV} (h : RowE w T 6 g n cap (lotC l)) {i : Nat} (hi : i < l.length) : w.cell? ⟨g, i * 6, none⟩ = some (.int .i64 (l.getD i LotV.zero).id) ∧ w.cell? ⟨g, i * 6 + 1, none⟩ = some (.string ⟨((l.getD i LotV.zero).item).toArray⟩) ∧ w.cell? ⟨g, i * 6 + 2, none⟩ = some (.int .i64 (l.getD i LotV.zero).frm) ∧ w.cell? ⟨g, i * 6 + 3, none⟩ = some (.int .i64 (l.getD i LotV.zero).til) ∧ w.cell? ⟨g, i * 6 + 4, none⟩ = some (.int .i64 (l.getD i LotV.zero).qty) ∧ w.cell? ⟨g, i * 6 + 5, none⟩ = some (.bool (l.getD i LotV.zero).here) :=
 ⟨h.cell (lotC_at l i 0 hi (by omega)), h.cell (lotC_at l i 1 hi (by omega)), h.cell (lotC_at l i 2 hi (by omega)), h.cell (lotC_at l i 3 hi (by omega)), h.cell (lotC_at l i 4 hi (by omega)), h.cell (lotC_at l i 5 hi (by omega))⟩
set_option maxRecDepth 100000 in
theorem mkL_any (k i : Int) (w : World) (h0 : 0 ≤ k) (h1 : k ≤ 1000) (h2 : 0 ≤ i) (h3 : i ≤ 10000000) : Calls Tryz.prog 102 #[.int .i64 k, .int .i64 i] w (RetNew (.agg #[.int .i64 (1000003 * (k + 7) + i), .string ⟨#[]⟩, .int .i64 0, .int .i64 0, .int .i64 0, .bool false]) w) := by
 go_enter Tryz.func102, Tryz.ntmps102
 go_wp2_with fail
 refine (mark_any k i _ h0 h1 h2 h3).mono ?_
 rintro e w1 ⟨rfl, rfl⟩
 go_wp2_with fail
 refine bodyPost_ret (v := .agg #[.int .i64 (1000003 * (k + 7) + i), .string ⟨#[]⟩, .int .i64 0, .int .i64 0, .int .i64 0, .bool false]) (by simp [results, Tryz.results102, go_sem]) rfl ⟨rfl, ?_⟩
 exact (Turned.refl (fun _ => False) w).alloc _
set_option maxRecDepth 100000 in
set_option maxHeartbeats 2000000 in
theorem lentL_any (A : Option Addr) (n c : Nat) (l : List LotV) (w : World) (h : SlL w ⟨A, n, c⟩ l) (hn : n ≤ 1000000) : Calls Tryz.prog 74 #[.slice A n c] w (LentL 60 n l w) := by
 obtain ⟨i0, hi, hz0, hz1, hz2⟩ := info_parts lotsT.info
 have hI := hZ (And.intro hi (And.intro hz0 (And.intro hz1 hz2)))
 have h' := hZ h
 have hnl := hZ (SlE.nil_ h)
 have hle := hZ (SlE.cel h).len
 have hl := hZ h.len
 simp only at hnl hle hl
 clear hi hz0 hz1 hz2 h
 go_enter Tryz.func74, Tryz.ntmps74
 go_wp2_with (first
  | (at_make; refine wpList_make_own _ rfl _ _ 39 rfl w.heap.size 60 i0 (.agg #[.int .i64 0, .string ⟨#[]⟩, .int .i64 0, .int .i64 0, .int .i64 0, .bool false]) 6 Tryz.underlying39 hI.out.1 hI.out.2.1 hI.out.2.2.1 .i64 .i64 _ (n + 12) rfl rfl (by omega) (by rw [hI.out.2.2.2]; omega) (by unfold maxLen; omega) (Nat.le_refl _) ?_; intro w1 hown hg1; have hs1 := hg1.size)
  | (at_builtin; refine wpList_append_fits_any _ rfl (.tmp 9) (.tmp 10) 39 rfl w.heap.size 60 i0 6 Tryz.underlying39 hI.out.1 hI.out.2.2.1 w.heap.size 0 (n + 12) [] rfl hown A n c (lotC l) rfl hle.out hnl.out (((SlE.cel h'.out).fresh ((Turned.refl (fun _ => False) w).grown hg1 (fun k e => by cases e))).news) (lotC_one l) (by omega) ?_; intro w2 hown2 hg2))
 have hr2 : RowE w2 60 6 w.heap.size (n + 0) (n + 12) (lotC (l ++ marksL 1 0)) := by
  simp only [Nat.zero_add, zH] at hown2
  rw [show marksL 1 0 = [] from rfl, List.append_nil, Nat.add_zero]
  exact RowE.of_own hown2
 have ht2 : Turned (fun _ => False) w w2 := ((Turned.refl (fun _ => False) w).grown hg1 (fun k e => by cases e)).grown hg2 (fun k e => by injection e with e; exact .inr (Nat.le_of_eq e))
 clear hown hown2 hg1 hg2
 go_loopw [3, 4] (fun v i wr => LentLRel 60 n l w v i wr) (fun _ i _ => 12 - (intOf i).toNat)
 case atStart => exact ⟨0, by omega, rfl, by simp, hr2, ht2⟩
 case round =>
  obtain ⟨j, hj, rfl, rfl, hr, ht⟩ := hrel
  have hr' := hZ hr
  have hsz := hr.lt
  have ht' := hZ ht
  clear hr hr2 ht2 hs1 ht
  by_cases hlt : j < 12
  ·have hji : (j : Int) < 12 := by omega
   go_wp2_with fail
   refine (mkL_any 1 (j : Int) _ (by omega) (by omega) (by omega) (by omega)).mono ?_
   rintro e w3 ⟨rfl, t3⟩
   have t3' := hZ t3
   clear t3
   go_wp2_with (at_builtin; refine wpList_append_fits_any _ rfl (.tmp 16) (.tmp 19) 39 rfl w.heap.size 60 i0 6 Tryz.underlying39 hI.out.1 hI.out.2.2.1 w.heap.size (n + j) (n + 12) (lotC (l ++ marksL 1 j)) rfl (((hr'.out.fresh t3'.out).fresh ((Turned.refl (fun _ => False) w3).alloc _)).own (Nat.le_refl _)) (some ⟨w3.heap.size, 0, none⟩) 1 1 [.int .i64 (1000003 * (1 + 7) + (j : Int)), .string ⟨#[]⟩, .int .i64 0, .int .i64 0, .int .i64 0, .bool false] rfl rfl (fun e => by cases e) (fun ad e => by injection e with e; subst e; exact news_new w3 60 [.int .i64 (1000003 * (1 + 7) + (j : Int)), .string ⟨#[]⟩, .int .i64 0, .int .i64 0, .int .i64 0, .bool false]) (show ∀ v ∈ lotC [mkL 1 (j : Int)], v.oneCell' = true from lotC_one _) (by omega) ?_; intro w4 hown4 hg4)
   have hr4 : RowE w4 60 6 w.heap.size (n + (j + 1)) (n + 12) (lotC (l ++ marksL 1 (j + 1))) := by
    rw [marksL_succ, ← List.append_assoc, ← Nat.add_assoc]
    refine RowE.of_own (base := w.heap.size) ?_
    rw [lotC_append]
    exact hown4
   have ht4 : Turned (fun _ => False) w w4 := ((ht'.out.and_ t3'.out).alloc _).grown hg4 (fun k e => by injection e with e; exact .inr (Nat.le_of_eq e))
   exact ⟨⟨j + 1, by omega, by go_num, by rw [Nat.add_assoc], hr4, ht4⟩, by simp [intOf]; omega⟩
  ·have hj12 : j = 12 := by omega
   subst hj12
   go_wp2
   go_ret
   exact ⟨w.heap.size, rfl, hr'.out, Nat.le_refl _, ht'.out⟩
set_option maxRecDepth 100000 in
set_option maxHeartbeats 2000000 in
theorem keptL_any (A : Option Addr) (n c g cap : Nat) (l : List LotV) (w : World) (hr : RowE w 60 6 g (n + 12) cap (lotC (l ++ marksL 1 12))) (hy : SlL w ⟨A, n, c⟩ l) (hn : n ≤ 1000000) :
  Calls Tryz.prog 86 #[.slice (some ⟨g, 0, none⟩) n cap, .slice A n c] w (RetNew (.bool true) w) := by
 have mixed : Tryz.prog.follows .mixedOrders = true := by kernel_rfl
 have hle := hr.le
 have hmx := hr.max
 unfold maxLen at hmx
 have hr' := hZ hr
 have hy' := hZ hy
 have hl := hZ hy.len
 simp only at hl
 clear hr hy
 go_enter Tryz.func86, Tryz.ntmps86
 go_wp2
 go_loopw [6] (fun i wr => KeptLRel n w i wr) (fun i _ => n + 12 - (intOf i).toNat)
 case atStart => exact ⟨0, by omega, rfl, Turned.refl _ _⟩
 case round =>
  obtain ⟨j, hj, rfl, hT⟩ := hrel
  have hT := hZ hT
  by_cases hlt : j < n + 12
  ·have hji : (j : Int) < (n : Int) + 12 := by omega
   have hq := (hr'.out.fresh hT.out).rowL (i := j) (by rw [List.length_append, hl.out, marksL_length]; exact hlt)
   by_cases hjn : j < n
   ·obtain ⟨b2, o2, hA, k2⟩ := SlL.cells (SlE.fresh hy'.out hT.out) (show 0 < n by omega)
    simp only at hA
    subst hA
    have hjl : (j : Int) < (n : Int) := by omega
    have hd1 : decide ((j : Int) < (n : Int)) = true := by simp; omega
    have hd2 : decide ((n : Int) ≤ (j : Int)) = false := by simp; omega
    have hd3 : decide (n ≤ j) = false := by simp; omega
    have hd4 : decide (j < n) = true := by simp; omega
    rw [getD_app_l _ _ _ _ (by rw [hl.out]; exact hjn)] at hq
    obtain ⟨q1, q2, q3, q4, q5, q6⟩ := hq
    obtain ⟨p1, p2, p3, p4, p5, p6⟩ := k2 j hjn
    generalize (l.getD j LotV.zero).id = v1 at *
    generalize (⟨((l.getD j LotV.zero).item).toArray⟩ : ByteArray) = v2 at *
    generalize (l.getD j LotV.zero).frm = v3 at *
    generalize (l.getD j LotV.zero).til = v4 at *
    generalize (l.getD j LotV.zero).qty = v5 at *
    generalize (l.getD j LotV.zero).here = v6 at *
    clear k2
    go_wp2_with fail
    refine wp_region_segs (fun w' => w'.cell? ⟨g, j * 6, none⟩ = some (.int .i64 v1) ∧ w'.cell? ⟨g, j * 6 + 1, none⟩ = some (.string v2) ∧ w'.cell? ⟨g, j * 6 + 2, none⟩ = some (.int .i64 v3) ∧ w'.cell? ⟨g, j * 6 + 3, none⟩ = some (.int .i64 v4) ∧ w'.cell? ⟨g, j * 6 + 4, none⟩ = some (.int .i64 v5) ∧ w'.cell? ⟨g, j * 6 + 5, none⟩ = some (.bool v6) ∧ w'.cell? ⟨b2, o2 + j * 6, none⟩ = some (.int .i64 v1) ∧ w'.cell? ⟨b2, o2 + j * 6 + 1, none⟩ = some (.string v2) ∧ w'.cell? ⟨b2, o2 + j * 6 + 2, none⟩ = some (.int .i64 v3) ∧ w'.cell? ⟨b2, o2 + j * 6 + 3, none⟩ = some (.int .i64 v4) ∧ w'.cell? ⟨b2, o2 + j * 6 + 4, none⟩ = some (.int .i64 v5) ∧ w'.cell? ⟨b2, o2 + j * 6 + 5, none⟩ = some (.bool v6)) (segT [0, 1, 2, 3, 4, 5, 6, 7, 8, 9, 10, 11, 12, 13, 14, 15, 16, 17, 18, 19, 20, 21, 22, 23, 24, 25, 26, 27, 28, 29] ++ segF [30] ++ segT [31, 32, 33, 34]) mixed (by kernel_rfl) (fun _ _ _ _ _ h => h) ?_
    simp only [segT, segF, pickSegs, zF, List.map_nil, zG, zH, List.filterMap_cons, List.filterMap_nil, zI, zJ, Option.map_some]
    have hS : wr.drew.cell? ⟨g, j * 6, none⟩ = some (.int .i64 v1) ∧ wr.drew.cell? ⟨g, j * 6 + 1, none⟩ = some (.string v2) ∧ wr.drew.cell? ⟨g, j * 6 + 2, none⟩ = some (.int .i64 v3) ∧ wr.drew.cell? ⟨g, j * 6 + 3, none⟩ = some (.int .i64 v4) ∧ wr.drew.cell? ⟨g, j * 6 + 4, none⟩ = some (.int .i64 v5) ∧ wr.drew.cell? ⟨g, j * 6 + 5, none⟩ = some (.bool v6) ∧ wr.drew.cell? ⟨b2, o2 + j * 6, none⟩ = some (.int .i64 v1) ∧ wr.drew.cell? ⟨b2, o2 + j * 6 + 1, none⟩ = some (.string v2) ∧ wr.drew.cell? ⟨b2, o2 + j * 6 + 2, none⟩ = some (.int .i64 v3) ∧ wr.drew.cell? ⟨b2, o2 + j * 6 + 3, none⟩ = some (.int .i64 v4) ∧ wr.drew.cell? ⟨b2, o2 + j * 6 + 4, none⟩ = some (.int .i64 v5) ∧ wr.drew.cell? ⟨b2, o2 + j * 6 + 5, none⟩ = some (.bool v6) := ⟨q1, q2, q3, q4, q5, q6, p1, p2, p3, p4, p5, p6⟩
    iterate 22 (refine wpSegs_take (v := ?_) hS rfl (fun w' hw => ?_) ?_; rotate_left; (focus (obtain ⟨hw0, hw1, hw2, hw3, hw4, hw5, hw6, hw7, hw8, hw9, hw10, hw11⟩ := hw; go_simp; (try with_reducible rfl); done)); try simp only [Act.put, zA, zB, zC])
    iterate 8 (refine wpSegs_skip hS rfl ?_; try simp only [Act.put, zA, zB, zC])
    refine wpSegs_runSkip hS rfl ?_
    try simp only [Act.put, zA, zB, zC]
    iterate 2 (refine wpSegs_skip hS rfl ?_; try simp only [Act.put, zA, zB, zC])
    iterate 2 (refine wpSegs_take (v := ?_) hS rfl (fun w' hw => ?_) ?_; rotate_left; (focus (obtain ⟨hw0, hw1, hw2, hw3, hw4, hw5, hw6, hw7, hw8, hw9, hw10, hw11⟩ := hw; go_simp; (try with_reducible rfl); done)); try simp only [Act.put, zA, zB, zC])
    refine wpSegs_nil ?_
    clear hS
    have t3 := hZ (Turned.refl (fun _ => False) wr).drew
    generalize wr.drew = w3 at *
    go_wp2_with fail
    go_roundw
    case rel =>
     first
     | exact ⟨j + 1, by omega, by go_num, hT.out.and_ t3.out⟩
     | ((repeat apply Exists.intro); exact ⟨⟨j + 1, by omega, by go_num, hT.out.and_ t3.out⟩, rfl⟩)
    case measure => simp [intOf]; omega
   ·obtain ⟨i, hi⟩ : ∃ i : Nat, j = n + i := ⟨j - n, by omega⟩
    have hd1 : decide ((j : Int) < (n : Int)) = false := by simp; omega
    have hd2 : decide ((n : Int) ≤ (j : Int)) = true := by simp; omega
    have hd3 : decide (n ≤ j) = true := by simp; omega
    have hd4 : decide (j < n) = false := by simp; omega
    have hnj : (n : Int) ≤ (j : Int) := by omega
    rw [marksL_at l 1 12 i j (by rw [hl.out]; omega) (by omega)] at hq
    unfold mkL at hq
    simp only at hq
    obtain ⟨q1, q2, q3, q4, q5, q6⟩ := hq
    have hsub : IntKind.i64.wrap ((j : Int) - (n : Int)) = (i : Int) := by rw [show (j : Int) - (n : Int) = (i : Int) by omega]; exact IntWalk.i64_in _ (by omega)
    have hsub2 : (j : Int) - (n : Int) = (i : Int) := by omega
    have hi12 : (i : Int) < 12 := by omega
    have hsub3 : IntKind.i64.wrap (i : Int) = (i : Int) := IntWalk.i64_in _ (by omega)
    have hij := hZ hi
    clear hi
    go_wp2_with fail
    refine wp_region_segs (fun w' => w'.cell? ⟨g, j * 6, none⟩ = some (.int .i64 (1000003 * (1 + 7) + (i : Int))) ∧ w'.cell? ⟨g, j * 6 + 1, none⟩ = some (.string ⟨#[]⟩) ∧ w'.cell? ⟨g, j * 6 + 2, none⟩ = some (.int .i64 0) ∧ w'.cell? ⟨g, j * 6 + 3, none⟩ = some (.int .i64 0) ∧ w'.cell? ⟨g, j * 6 + 4, none⟩ = some (.int .i64 0) ∧ w'.cell? ⟨g, j * 6 + 5, none⟩ = some (.bool false)) (segT [0, 1, 2, 3, 4, 5, 6, 7, 8, 9, 10, 11, 12, 13, 14, 15, 16, 17, 18, 19, 20, 21, 22, 23, 24, 25, 26, 27, 28, 29] ++ segF [30] ++ segT [31, 32, 33, 34]) mixed (by kernel_rfl) (fun _ _ _ _ _ h => h) ?_
    simp only [segT, segF, pickSegs, zF, List.map_nil, zG, zH, List.filterMap_cons, List.filterMap_nil, zI, zJ, Option.map_some]
    have hS : wr.drew.cell? ⟨g, j * 6, none⟩ = some (.int .i64 (1000003 * (1 + 7) + (i : Int))) ∧ wr.drew.cell? ⟨g, j * 6 + 1, none⟩ = some (.string ⟨#[]⟩) ∧ wr.drew.cell? ⟨g, j * 6 + 2, none⟩ = some (.int .i64 0) ∧ wr.drew.cell? ⟨g, j * 6 + 3, none⟩ = some (.int .i64 0) ∧ wr.drew.cell? ⟨g, j * 6 + 4, none⟩ = some (.int .i64 0) ∧ wr.drew.cell? ⟨g, j * 6 + 5, none⟩ = some (.bool false) := ⟨q1, q2, q3, q4, q5, q6⟩
    iterate 5 (refine wpSegs_take (v := ?_) hS rfl (fun w' hw => ?_) ?_; rotate_left; (focus (obtain ⟨hw0, hw1, hw2, hw3, hw4, hw5⟩ := hw; go_simp; (try with_reducible rfl); done)); try simp only [Act.put, zA, zB, zC])
    iterate 10 (refine wpSegs_skip hS rfl ?_; try simp only [Act.put, zA, zB, zC])
    iterate 15 (refine wpSegs_take (v := ?_) hS rfl (fun w' hw => ?_) ?_; rotate_left; (focus (obtain ⟨hw0, hw1, hw2, hw3, hw4, hw5⟩ := hw; go_simp; (try with_reducible rfl); done)); try simp only [Act.put, zA, zB, zC])
    refine wpSegs_run rfl (fun K hK => ?_)
    go_simp
    refine (mkL_any 1 (i : Int) _ (by omega) (by omega) (by omega) (by omega)).mono ?_
    rintro e w3 ⟨rfl, t3⟩
    have hS2 : w3.cell? ⟨g, j * 6, none⟩ = some (.int .i64 (1000003 * (1 + 7) + (i : Int))) ∧ w3.cell? ⟨g, j * 6 + 1, none⟩ = some (.string ⟨#[]⟩) ∧ w3.cell? ⟨g, j * 6 + 2, none⟩ = some (.int .i64 0) ∧ w3.cell? ⟨g, j * 6 + 3, none⟩ = some (.int .i64 0) ∧ w3.cell? ⟨g, j * 6 + 4, none⟩ = some (.int .i64 0) ∧ w3.cell? ⟨g, j * 6 + 5, none⟩ = some (.bool false) := ⟨cell_turned t3 hS.1 (fun e => e), cell_turned t3 hS.2.1 (fun e => e), cell_turned t3 hS.2.2.1 (fun e => e), cell_turned t3 hS.2.2.2.1 (fun e => e), cell_turned t3 hS.2.2.2.2.1 (fun e => e), cell_turned t3 hS.2.2.2.2.2 (fun e => e)⟩
    refine hK.out _ _ hS2 ?_
    clear hK K hS
    have hS := hS2
    clear hS2
    have t3 := hZ (((Turned.refl (fun _ => False) wr).drew).and_ t3)
    iterate 4 (refine wpSegs_take (v := ?_) hS rfl (fun w' hw => ?_) ?_; rotate_left; (focus (obtain ⟨hw0, hw1, hw2, hw3, hw4, hw5⟩ := hw; go_simp; (try with_reducible rfl); done)); try simp only [Act.put, zA, zB, zC])
    refine wpSegs_nil ?_
    clear hS
    go_wp2_with fail
    go_roundw
    case rel =>
     first
     | exact ⟨j + 1, by omega, by go_num, hT.out.and_ t3.out⟩
     | ((repeat apply Exists.intro); exact ⟨⟨j + 1, by omega, by go_num, hT.out.and_ t3.out⟩, rfl⟩)
    case measure => simp [intOf]; omega
  ·have hge : (n : Int) + 12 ≤ (j : Int) := by omega
   go_wp2
   go_ret
   exact ⟨rfl, hT.out⟩

theorem SlU.drewN {w : World} {s : Sl} {l : List UseV} (h : SlU w s l) (k : Nat) : SlU (w.drewN k) s l := SlE.fresh h ((Turned.refl _ w).drewN k)
set_option maxRecDepth 100000 in
set_option maxHeartbeats 2000000 in
theorem sameU_any (a b : Sl) (l : List UseV) (w : World) (ha : SlU w a l) (hb : SlU w b l) : Calls Tryz.prog 114 #[.slice a.A a.n a.c, .slice b.A b.n b.c] w (RetDraw (.bool true) w) := by
 obtain ⟨A, n, c⟩ := a
 obtain ⟨B, m, d⟩ := b
 have h1 := ha.len
 have h2 := hb.len
 have hn := Nat.le_trans (SlE.le ha) (SlE.max ha)
 simp only at h1 h2 hn ⊢
 unfold maxLen at hn
 obtain rfl : n = m := by omega
 have ha' := hZ ha
 have hb' := hZ hb
 clear ha hb h1 h2
 go_enter Tryz.func114, Tryz.ntmps114
 go_wp2
 go_loopw [5] (fun i wr => DrwRel n w i wr) (fun i _ => n - (intOf i).toNat)
 case atStart => exact ⟨0, 0, by omega, rfl, rfl⟩
 case round =>
  obtain ⟨j, k, hj, rfl, hwr⟩ := hrel
  by_cases hlt : j < n
  ·have hji : (j : Int) < (n : Int) := by omega
   obtain ⟨ba, oa, hA, hca⟩ := (ha'.out.drewN k).cells (show 0 < n by omega)
   obtain ⟨bb, ob, hB, hcb⟩ := (hb'.out.drewN k).cells (show 0 < n by omega)
   simp only at hA hB
   subst hA hB
   obtain ⟨q1, q2, q3⟩ := hca j hlt
   obtain ⟨p1, p2, p3⟩ := hcb j hlt
   rw [← hwr] at q1 p1 q2 p2 q3 p3
   have hwr' := hZ hwr
   clear hca hcb hwr
   generalize (l.getD j UseV.zero).want = v1 at *
   generalize (l.getD j UseV.zero).lot = v2 at *
   generalize (l.getD j UseV.zero).qty = v3 at *
   go_wp2
   go_quiet (fail)
   go_wp2
   go_roundw
   case rel =>
    first
    | exact ⟨j + 1, k + nq, by omega, by go_num, by rw [hwr'.out, World.drewN_drewN]⟩
    | ((repeat apply Exists.intro); exact ⟨⟨j + 1, k + nq, by omega, by go_num, by rw [hwr'.out, World.drewN_drewN]⟩, rfl⟩)
   case measure => simp [intOf] <;> omega
  ·have hge : (n : Int) ≤ (j : Int) := by omega
   have hwr' := hZ hwr
   clear hwr
   go_wp2
   go_ret
   exact ⟨rfl, k, hwr'.out⟩
def marksU (k : Int) (n : Nat) : List UseV := (List.range n).map fun (i : Nat) => mkU k i
theorem marksU_length (k : Int) (n : Nat) : (marksU k n).length = n := by simp [marksU]
theorem marksU_succ (k : Int) (n : Nat) : marksU k (n + 1) = marksU k n ++ [mkU k n] := by simp [marksU, List.range_succ]
theorem marksU_at (l : List UseV) (k : Int) (n i j : Nat) (h : j = l.length + i) (hi : i < n) : (l ++ marksU k n).getD j UseV.zero = mkU k i := by
 rw [h, getD_app_r _ _ _ _ (by omega), Nat.add_sub_cancel_left]
 simp [marksU, List.getD_eq_getElem?_getD, hi]
def LentU (T n : Nat) (l : List UseV) (w : World) (e : Ending) (w' : World) : Prop :=
 ∃ g, e = .returned (.slice (some ⟨g, 0, none⟩) n (n + 12)) ∧ RowE w' T 3 g (n + 12) (n + 12) (useC (l ++ marksU 1 12)) ∧ w.heap.size ≤ g ∧ Turned (fun _ => False) w w'
def LentURel (T n : Nat) (l : List UseV) (w : World) (v i : Value) (wr : World) : Prop :=
 ∃ j : Nat, j ≤ 12 ∧ i = .int .i64 j ∧ v = .slice (some ⟨w.heap.size, 0, none⟩) (n + j) (n + 12) ∧ RowE wr T 3 w.heap.size (n + j) (n + 12) (useC (l ++ marksU 1 j)) ∧ Turned (fun _ => False) w wr
def KeptURel (n : Nat) (w : World) (i : Value) (wr : World) : Prop := ∃ j : Nat, j ≤ n + 12 ∧ i = .int .i64 j ∧ Turned (fun _ => False) w wr
theorem RowE.rowU {w : World} {T g n cap : Nat} {l : List UseV} (h : RowE w T 3 g n cap (useC l)) {i : Nat} (hi : i < l.length) : w.cell? ⟨g, i * 3, none⟩ = some (.int .i64 (l.getD i UseV.zero).want) ∧ w.cell? ⟨g, i * 3 + 1, none⟩ = some (.int .i64 (l.getD i UseV.zero).lot) ∧ w.cell? ⟨g, i * 3 + 2, none⟩ = some (.int .i64 (l.getD i UseV.zero).qty) :=
 ⟨h.cell (useC_at l i 0 hi (by omega)), h.cell (useC_at l i 1 hi (by omega)), h.cell (useC_at l i 2 hi (by omega))⟩
set_option maxRecDepth 100000 in
theorem mkU_any (k i : Int) (w : World) (h0 : 0 ≤ k) (h1 : k ≤ 1000) (h2 : 0 ≤ i) (h3 : i ≤ 10000000) : Calls Tryz.prog 103 #[.int .i64 k, .int .i64 i] w (RetNew (.agg #[.int .i64 0, .int .i64 (1000003 * (k + 7) + i), .int .i64 0]) w) := by
 go_enter Tryz.func103, Tryz.ntmps103
 go_wp2_with fail
 refine (mark_any k i _ h0 h1 h2 h3).mono ?_
 rintro e w1 ⟨rfl, rfl⟩
 go_wp2_with fail
 refine bodyPost_ret (v := .agg #[.int .i64 0, .int .i64 (1000003 * (k + 7) + i), .int .i64 0]) (by simp [results, Tryz.results103, go_sem]) rfl ⟨rfl, ?_⟩
 exact (Turned.refl (fun _ => False) w).alloc _
set_option maxRecDepth 100000 in
set_option maxHeartbeats 2000000 in
theorem lentU_any (A : Option Addr) (n c : Nat) (l : List UseV) (w : World) (h : SlU w ⟨A, n, c⟩ l) (hn : n ≤ 1000000) : Calls Tryz.prog 75 #[.slice A n c] w (LentU 64 n l w) := by
 obtain ⟨i0, hi, hz0, hz1, hz2⟩ := info_parts usesT.info
 have hI := hZ (And.intro hi (And.intro hz0 (And.intro hz1 hz2)))
 have h' := hZ h
 have hnl := hZ (SlE.nil_ h)
 have hle := hZ (SlE.cel h).len
 have hl := hZ h.len
 simp only at hnl hle hl
 clear hi hz0 hz1 hz2 h
 go_enter Tryz.func75, Tryz.ntmps75
 go_wp2_with (first
  | (at_make; refine wpList_make_own _ rfl _ _ 40 rfl w.heap.size 64 i0 (.agg #[.int .i64 0, .int .i64 0, .int .i64 0]) 3 Tryz.underlying40 hI.out.1 hI.out.2.1 hI.out.2.2.1 .i64 .i64 _ (n + 12) rfl rfl (by omega) (by rw [hI.out.2.2.2]; omega) (by unfold maxLen; omega) (Nat.le_refl _) ?_; intro w1 hown hg1; have hs1 := hg1.size)
  | (at_builtin; refine wpList_append_fits_any _ rfl (.tmp 9) (.tmp 10) 40 rfl w.heap.size 64 i0 3 Tryz.underlying40 hI.out.1 hI.out.2.2.1 w.heap.size 0 (n + 12) [] rfl hown A n c (useC l) rfl hle.out hnl.out (((SlE.cel h'.out).fresh ((Turned.refl (fun _ => False) w).grown hg1 (fun k e => by cases e))).news) (useC_one l) (by omega) ?_; intro w2 hown2 hg2))
 have hr2 : RowE w2 64 3 w.heap.size (n + 0) (n + 12) (useC (l ++ marksU 1 0)) := by
  simp only [Nat.zero_add, zH] at hown2
  rw [show marksU 1 0 = [] from rfl, List.append_nil, Nat.add_zero]
  exact RowE.of_own hown2
 have ht2 : Turned (fun _ => False) w w2 := ((Turned.refl (fun _ => False) w).grown hg1 (fun k e => by cases e)).grown hg2 (fun k e => by injection e with e; exact .inr (Nat.le_of_eq e))
 clear hown hown2 hg1 hg2
 go_loopw [3, 4] (fun v i wr => LentURel 64 n l w v i wr) (fun _ i _ => 12 - (intOf i).toNat)
 case atStart => exact ⟨0, by omega, rfl, by simp, hr2, ht2⟩
 case round =>
  obtain ⟨j, hj, rfl, rfl, hr, ht⟩ := hrel
  have hr' := hZ hr
  have hsz := hr.lt
  have ht' := hZ ht
  clear hr hr2 ht2 hs1 ht
  by_cases hlt : j < 12
  ·have hji : (j : Int) < 12 := by omega
   go_wp2_with fail
   refine (mkU_any 1 (j : Int) _ (by omega) (by omega) (by omega) (by omega)).mono ?_
   rintro e w3 ⟨rfl, t3⟩
   have t3' := hZ t3
   clear t3
   go_wp2_with (at_builtin; refine wpList_append_fits_any _ rfl (.tmp 16) (.tmp 19) 40 rfl w.heap.size 64 i0 3 Tryz.underlying40 hI.out.1 hI.out.2.2.1 w.heap.size (n + j) (n + 12) (useC (l ++ marksU 1 j)) rfl (((hr'.out.fresh t3'.out).fresh ((Turned.refl (fun _ => False) w3).alloc _)).own (Nat.le_refl _)) (some ⟨w3.heap.size, 0, none⟩) 1 1 [.int .i64 0, .int .i64 (1000003 * (1 + 7) + (j : Int)), .int .i64 0] rfl rfl (fun e => by cases e) (fun ad e => by injection e with e; subst e; exact news_new w3 64 [.int .i64 0, .int .i64 (1000003 * (1 + 7) + (j : Int)), .int .i64 0]) (show ∀ v ∈ useC [mkU 1 (j : Int)], v.oneCell' = true from useC_one _) (by omega) ?_; intro w4 hown4 hg4)
   have hr4 : RowE w4 64 3 w.heap.size (n + (j + 1)) (n + 12) (useC (l ++ marksU 1 (j + 1))) := by
    rw [marksU_succ, ← List.append_assoc, ← Nat.add_assoc]
    refine RowE.of_own (base := w.heap.size) ?_
    rw [useC_append]
    exact hown4
   have ht4 : Turned (fun _ => False) w w4 := ((ht'.out.and_ t3'.out).alloc _).grown hg4 (fun k e => by injection e with e; exact .inr (Nat.le_of_eq e))
   exact ⟨⟨j + 1, by omega, by go_num, by rw [Nat.add_assoc], hr4, ht4⟩, by simp [intOf]; omega⟩
  ·have hj12 : j = 12 := by omega
   subst hj12
   go_wp2
   go_ret
   exact ⟨w.heap.size, rfl, hr'.out, Nat.le_refl _, ht'.out⟩
set_option maxRecDepth 100000 in
set_option maxHeartbeats 2000000 in
theorem keptU_any (A : Option Addr) (n c g cap : Nat) (l : List UseV) (w : World) (hr : RowE w 64 3 g (n + 12) cap (useC (l ++ marksU 1 12))) (hy : SlU w ⟨A, n, c⟩ l) (hn : n ≤ 1000000) :
  Calls Tryz.prog 87 #[.slice (some ⟨g, 0, none⟩) n cap, .slice A n c] w (RetNew (.bool true) w) := by
 have mixed : Tryz.prog.follows .mixedOrders = true := by kernel_rfl
 have hle := hr.le
 have hmx := hr.max
 unfold maxLen at hmx
 have hr' := hZ hr
 have hy' := hZ hy
 have hl := hZ hy.len
 simp only at hl
 clear hr hy
 go_enter Tryz.func87, Tryz.ntmps87
 go_wp2
 go_loopw [6] (fun i wr => KeptURel n w i wr) (fun i _ => n + 12 - (intOf i).toNat)
 case atStart => exact ⟨0, by omega, rfl, Turned.refl _ _⟩
 case round =>
  obtain ⟨j, hj, rfl, hT⟩ := hrel
  have hT := hZ hT
  by_cases hlt : j < n + 12
  ·have hji : (j : Int) < (n : Int) + 12 := by omega
   have hq := (hr'.out.fresh hT.out).rowU (i := j) (by rw [List.length_append, hl.out, marksU_length]; exact hlt)
   by_cases hjn : j < n
   ·obtain ⟨b2, o2, hA, k2⟩ := SlU.cells (SlE.fresh hy'.out hT.out) (show 0 < n by omega)
    simp only at hA
    subst hA
    have hjl : (j : Int) < (n : Int) := by omega
    have hd1 : decide ((j : Int) < (n : Int)) = true := by simp; omega
    have hd2 : decide ((n : Int) ≤ (j : Int)) = false := by simp; omega
    have hd3 : decide (n ≤ j) = false := by simp; omega
    have hd4 : decide (j < n) = true := by simp; omega
    rw [getD_app_l _ _ _ _ (by rw [hl.out]; exact hjn)] at hq
    obtain ⟨q1, q2, q3⟩ := hq
    obtain ⟨p1, p2, p3⟩ := k2 j hjn
    generalize (l.getD j UseV.zero).want = v1 at *
    generalize (l.getD j UseV.zero).lot = v2 at *
    generalize (l.getD j UseV.zero).qty = v3 at *
    clear k2
    go_wp2_with fail
    refine wp_region_segs (fun w' => w'.cell? ⟨g, j * 3, none⟩ = some (.int .i64 v1) ∧ w'.cell? ⟨g, j * 3 + 1, none⟩ = some (.int .i64 v2) ∧ w'.cell? ⟨g, j * 3 + 2, none⟩ = some (.int .i64 v3) ∧ w'.cell? ⟨b2, o2 + j * 3, none⟩ = some (.int .i64 v1) ∧ w'.cell? ⟨b2, o2 + j * 3 + 1, none⟩ = some (.int .i64 v2) ∧ w'.cell? ⟨b2, o2 + j * 3 + 2, none⟩ = some (.int .i64 v3)) (segT [0, 1, 2, 3, 4, 5, 6, 7, 8, 9, 10, 11, 12, 13, 14, 15, 16, 17, 18, 19, 20, 21, 22, 23, 24, 25, 26, 27, 28, 29] ++ segF [30] ++ segT [31, 32, 33, 34]) mixed (by kernel_rfl) (fun _ _ _ _ _ h => h) ?_
    simp only [segT, segF, pickSegs, zF, List.map_nil, zG, zH, List.filterMap_cons, List.filterMap_nil, zI, zJ, Option.map_some]
    have hS : wr.drew.cell? ⟨g, j * 3, none⟩ = some (.int .i64 v1) ∧ wr.drew.cell? ⟨g, j * 3 + 1, none⟩ = some (.int .i64 v2) ∧ wr.drew.cell? ⟨g, j * 3 + 2, none⟩ = some (.int .i64 v3) ∧ wr.drew.cell? ⟨b2, o2 + j * 3, none⟩ = some (.int .i64 v1) ∧ wr.drew.cell? ⟨b2, o2 + j * 3 + 1, none⟩ = some (.int .i64 v2) ∧ wr.drew.cell? ⟨b2, o2 + j * 3 + 2, none⟩ = some (.int .i64 v3) := ⟨q1, q2, q3, p1, p2, p3⟩
    iterate 22 (refine wpSegs_take (v := ?_) hS rfl (fun w' hw => ?_) ?_; rotate_left; (focus (obtain ⟨hw0, hw1, hw2, hw3, hw4, hw5⟩ := hw; go_simp; (try with_reducible rfl); done)); try simp only [Act.put, zA, zB, zC])
    iterate 8 (refine wpSegs_skip hS rfl ?_; try simp only [Act.put, zA, zB, zC])
    refine wpSegs_runSkip hS rfl ?_
    try simp only [Act.put, zA, zB, zC]
    iterate 2 (refine wpSegs_skip hS rfl ?_; try simp only [Act.put, zA, zB, zC])
    iterate 2 (refine wpSegs_take (v := ?_) hS rfl (fun w' hw => ?_) ?_; rotate_left; (focus (obtain ⟨hw0, hw1, hw2, hw3, hw4, hw5⟩ := hw; go_simp; (try with_reducible rfl); done)); try simp only [Act.put, zA, zB, zC])
    refine wpSegs_nil ?_
    clear hS
    have t3 := hZ (Turned.refl (fun _ => False) wr).drew
    generalize wr.drew = w3 at *
    go_wp2_with fail
    go_roundw
    case rel =>
     first
     | exact ⟨j + 1, by omega, by go_num, hT.out.and_ t3.out⟩
     | ((repeat apply Exists.intro); exact ⟨⟨j + 1, by omega, by go_num, hT.out.and_ t3.out⟩, rfl⟩)
    case measure => simp [intOf]; omega
   ·obtain ⟨i, hi⟩ : ∃ i : Nat, j = n + i := ⟨j - n, by omega⟩
    have hd1 : decide ((j : Int) < (n : Int)) = false := by simp; omega
    have hd2 : decide ((n : Int) ≤ (j : Int)) = true := by simp; omega
    have hd3 : decide (n ≤ j) = true := by simp; omega
    have hd4 : decide (j < n) = false := by simp; omega
    have hnj : (n : Int) ≤ (j : Int) := by omega
    rw [marksU_at l 1 12 i j (by rw [hl.out]; omega) (by omega)] at hq
    unfold mkU at hq
    simp only at hq
    obtain ⟨q1, q2, q3⟩ := hq
    have hsub : IntKind.i64.wrap ((j : Int) - (n : Int)) = (i : Int) := by rw [show (j : Int) - (n : Int) = (i : Int) by omega]; exact IntWalk.i64_in _ (by omega)
    have hsub2 : (j : Int) - (n : Int) = (i : Int) := by omega
    have hi12 : (i : Int) < 12 := by omega
    have hsub3 : IntKind.i64.wrap (i : Int) = (i : Int) := IntWalk.i64_in _ (by omega)
    have hij := hZ hi
    clear hi
    go_wp2_with fail
    refine wp_region_segs (fun w' => w'.cell? ⟨g, j * 3, none⟩ = some (.int .i64 0) ∧ w'.cell? ⟨g, j * 3 + 1, none⟩ = some (.int .i64 (1000003 * (1 + 7) + (i : Int))) ∧ w'.cell? ⟨g, j * 3 + 2, none⟩ = some (.int .i64 0)) (segT [0, 1, 2, 3, 4, 5, 6, 7, 8, 9, 10, 11, 12, 13, 14, 15, 16, 17, 18, 19, 20, 21, 22, 23, 24, 25, 26, 27, 28, 29] ++ segF [30] ++ segT [31, 32, 33, 34]) mixed (by kernel_rfl) (fun _ _ _ _ _ h => h) ?_
    simp only [segT, segF, pickSegs, zF, List.map_nil, zG, zH, List.filterMap_cons, List.filterMap_nil, zI, zJ, Option.map_some]
    have hS : wr.drew.cell? ⟨g, j * 3, none⟩ = some (.int .i64 0) ∧ wr.drew.cell? ⟨g, j * 3 + 1, none⟩ = some (.int .i64 (1000003 * (1 + 7) + (i : Int))) ∧ wr.drew.cell? ⟨g, j * 3 + 2, none⟩ = some (.int .i64 0) := ⟨q1, q2, q3⟩
    iterate 5 (refine wpSegs_take (v := ?_) hS rfl (fun w' hw => ?_) ?_; rotate_left; (focus (obtain ⟨hw0, hw1, hw2⟩ := hw; go_simp; (try with_reducible rfl); done)); try simp only [Act.put, zA, zB, zC])
    iterate 10 (refine wpSegs_skip hS rfl ?_; try simp only [Act.put, zA, zB, zC])
    iterate 15 (refine wpSegs_take (v := ?_) hS rfl (fun w' hw => ?_) ?_; rotate_left; (focus (obtain ⟨hw0, hw1, hw2⟩ := hw; go_simp; (try with_reducible rfl); done)); try simp only [Act.put, zA, zB, zC])
    refine wpSegs_run rfl (fun K hK => ?_)
    go_simp
    refine (mkU_any 1 (i : Int) _ (by omega) (by omega) (by omega) (by omega)).mono ?_
    rintro e w3 ⟨rfl, t3⟩
    have hS2 : w3.cell? ⟨g, j * 3, none⟩ = some (.int .i64 0) ∧ w3.cell? ⟨g, j * 3 + 1, none⟩ = some (.int .i64 (1000003 * (1 + 7) + (i : Int))) ∧ w3.cell? ⟨g, j * 3 + 2, none⟩ = some (.int .i64 0) := ⟨cell_turned t3 hS.1 (fun e => e), cell_turned t3 hS.2.1 (fun e => e), cell_turned t3 hS.2.2 (fun e => e)⟩
    refine hK.out _ _ hS2 ?_
    clear hK K hS
    have hS := hS2
    clear hS2
    have t3 := hZ (((Turned.refl (fun _ => False) wr).drew).and_ t3)
    iterate 4 (refine wpSegs_take (v := ?_) hS rfl (fun w' hw => ?_) ?_; rotate_left; (focus (obtain ⟨hw0, hw1, hw2⟩ := hw; go_simp; (try with_reducible rfl); done)); try simp only [Act.put, zA, zB, zC])
    refine wpSegs_nil ?_
    clear hS
    go_wp2_with fail
    go_roundw
    case rel =>
     first
     | exact ⟨j + 1, by omega, by go_num, hT.out.and_ t3.out⟩
     | ((repeat apply Exists.intro); exact ⟨⟨j + 1, by omega, by go_num, hT.out.and_ t3.out⟩, rfl⟩)
    case measure => simp [intOf]; omega
  ·have hge : (n : Int) + 12 ≤ (j : Int) := by omega
   go_wp2
   go_ret
   exact ⟨rfl, hT.out⟩

set_option maxRecDepth 100000 in
set_option maxHeartbeats 2000000 in
theorem sameTell_any (t : TellV) (S1 S2 : TellS) (w : World) (h1 : TellIs w t S1) (h2 : TellIs w t S2) : Calls Tryz.prog 83 #[.agg (tellC t S1), .agg (tellC t S2)] w (RetNew (.bool true) w) := by
 have HL := hZ (fun (w' : World) (x : Turned (fun _ => False) w w') => sameL_any S1.L S2.L t.lots w' (SlE.fresh h1.lots x) (SlE.fresh h2.lots x))
 have HU := hZ (fun (w' : World) (x : Turned (fun _ => False) w w') => sameU_any S1.U S2.U t.uses w' (SlE.fresh h1.uses x) (SlE.fresh h2.uses x))
 clear h1 h2
 obtain ⟨er, id, dy, cd, st, lots, uses⟩ := t
 obtain ⟨⟨xLA, xLn, xLc⟩, ⟨xUA, xUn, xUc⟩⟩ := S1
 obtain ⟨⟨yLA, yLn, yLc⟩, ⟨yUA, yUn, yUc⟩⟩ := S2
 unfold tellC strV at *
 simp only at HL HU ⊢
 have A1 := hZ ((Blk.new w 42 #[.int .i64 er, .int .i64 id, .int .i64 dy, .string ⟨cd.toArray⟩, .int .u8 st, .slice xLA xLn xLc, .slice xUA xUn xUc]).alloc (.cells #[.int .i64 er, .int .i64 id, .int .i64 dy, .string ⟨cd.toArray⟩, .int .u8 st, .slice yLA yLn yLc, .slice yUA yUn yUc] 42))
 have A2 := hZ (Blk.new_at (k := w.heap.size + 1) (w.alloc (.cells #[.int .i64 er, .int .i64 id, .int .i64 dy, .string ⟨cd.toArray⟩, .int .u8 st, .slice xLA xLn xLc, .slice xUA xUn xUc] 42)) 42 #[.int .i64 er, .int .i64 id, .int .i64 dy, .string ⟨cd.toArray⟩, .int .u8 st, .slice yLA yLn yLc, .slice yUA yUn yUc] (by simp))
 have T0 := hZ (((Turned.refl (fun _ => False) w).alloc (.cells #[.int .i64 er, .int .i64 id, .int .i64 dy, .string ⟨cd.toArray⟩, .int .u8 st, .slice xLA xLn xLc, .slice xUA xUn xUc] 42)).alloc (.cells #[.int .i64 er, .int .i64 id, .int .i64 dy, .string ⟨cd.toArray⟩, .int .u8 st, .slice yLA yLn yLc, .slice yUA yUn yUc] 42))
 go_enter Tryz.func83, Tryz.ntmps83
 go_wp2_with fail
 generalize (w.alloc (.cells #[.int .i64 er, .int .i64 id, .int .i64 dy, .string ⟨cd.toArray⟩, .int .u8 st, .slice xLA xLn xLc, .slice xUA xUn xUc] 42)).alloc (.cells #[.int .i64 er, .int .i64 id, .int .i64 dy, .string ⟨cd.toArray⟩, .int .u8 st, .slice yLA yLn yLc, .slice yUA yUn yUc] 42) = w0 at *
 generalize w.heap.size + 1 = b2 at *
 generalize w.heap.size = b1 at *
 refine (HL.out w0 T0.out).mono ?_
 rintro e w2 ⟨rfl, n2, rfl⟩
 obtain ⟨c0, c1, c2, c3, c4, c5, c6⟩ := (A1.out.turned ((Turned.refl (fun _ => False) w0).drewN n2) (fun e => e)).cells7
 obtain ⟨d0, d1, d2, d3, d4, d5, d6⟩ := (A2.out.turned ((Turned.refl (fun _ => False) w0).drewN n2) (fun e => e)).cells7
 go_wp2_with fail
 refine (HU.out _ (T0.out.drewN n2)).mono ?_
 rintro e w3 ⟨rfl, n3, rfl⟩
 go_wp2_with fail
 go_ret
 exact ⟨rfl, T0.out.drewN _⟩
end Go.Proofs.YtglojnmcbochaaaGreatDoor

