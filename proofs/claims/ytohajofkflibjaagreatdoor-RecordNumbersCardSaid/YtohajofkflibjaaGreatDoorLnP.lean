/-
  What the statements share: lists of pairs that are lent, with marks behind their end. Conditions: at most 1000000 pairs.
-/
import Derived.Test.YtohajofkflibjaaGreatDoorRecG
import Derived.Test.YtohajofkflibjaaGreatDoorRecK
import Derived.Test.YtohajofkflibjaaGreatDoorRegB
import Derived.IntWalk
namespace Go.Proofs.YtohajofkflibjaaGreatDoor
open Go.RowKit Go.Maps
set_option linter.unusedVariables false
set_option linter.unusedSimpArgs false

def mkP (k i : Int) : Int × Int := (1000003 * (k + 7) + i, 0)
def marksP (k : Int) (n : Nat) : List (Int × Int) := (List.range n).map fun (i : Nat) => mkP k i
theorem marksP_length (k : Int) (n : Nat) : (marksP k n).length = n := by simp [marksP]
theorem marksP_succ (k : Int) (n : Nat) : marksP k (n + 1) = marksP k n ++ [mkP k n] := by simp [marksP, List.range_succ]
theorem fstAt_app_l (a b : List (Int × Int)) (i : Nat) (h : i < a.length) : fstAt (a ++ b) i = fstAt a i := by unfold fstAt; rw [getD_app_l _ _ _ _ h]
theorem sndAt_app_l (a b : List (Int × Int)) (i : Nat) (h : i < a.length) : sndAt (a ++ b) i = sndAt a i := by unfold sndAt; rw [getD_app_l _ _ _ _ h]
theorem fstAt_marks (l : List (Int × Int)) (k : Int) (n i j : Nat) (h : j = l.length + i) (hi : i < n) : fstAt (l ++ marksP k n) j = 1000003 * (k + 7) + (i : Int) := by
  unfold fstAt
  rw [h, getD_app_r _ _ _ _ (by omega), Nat.add_sub_cancel_left]
  simp [marksP, mkP, List.getD_eq_getElem?_getD, hi]
theorem sndAt_marks (l : List (Int × Int)) (k : Int) (n i j : Nat) (h : j = l.length + i) (hi : i < n) : sndAt (l ++ marksP k n) j = 0 := by
  unfold sndAt
  rw [h, getD_app_r _ _ _ _ (by omega), Nat.add_sub_cancel_left]
  simp [marksP, mkP, List.getD_eq_getElem?_getD, hi]
theorem RowE.pair {w : World} {T g n cap : Nat} {l : List (Int × Int)} (h : RowE w T 2 g n cap (pairC l)) {i : Nat} (hi : i < l.length) : w.cell? ⟨g, i * 2, none⟩ = some (.int .i64 (fstAt l i)) ∧ w.cell? ⟨g, i * 2 + 1, none⟩ = some (.int .i64 (sndAt l i)) :=
  ⟨h.cell (pairC_fst l i hi), h.cell (pairC_snd l i hi)⟩
def LentP (T n : Nat) (l : List (Int × Int)) (w : World) (e : Ending) (w' : World) : Prop :=
  ∃ g, e = .returned (.slice (some ⟨g, 0, none⟩) n (n + 12)) ∧ RowE w' T 2 g (n + 12) (n + 12) (pairC (l ++ marksP 1 12)) ∧ w.heap.size ≤ g ∧ Turned (fun _ => False) w w'
def LentPRel (T n : Nat) (l : List (Int × Int)) (w : World) (v i : Value) (wr : World) : Prop :=
  ∃ j : Nat, j ≤ 12 ∧ i = .int .i64 j ∧ v = .slice (some ⟨w.heap.size, 0, none⟩) (n + j) (n + 12) ∧ RowE wr T 2 w.heap.size (n + j) (n + 12) (pairC (l ++ marksP 1 j)) ∧ Turned (fun _ => False) w wr
def KeptPRel (n : Nat) (w : World) (i : Value) (wr : World) : Prop := ∃ j : Nat, j ≤ n + 12 ∧ i = .int .i64 j ∧ Turned (fun _ => False) w wr
def OverP (T g n cap : Nat) (w : World) (e : Ending) (w' : World) : Prop := e = .returned (.tuple #[]) ∧ Turned (· = g) w w'
def OverPRel (T g n cap : Nat) (w : World) (i : Value) (wr : World) : Prop := ∃ j : Nat, j ≤ n ∧ i = .int .i64 j ∧ (∃ xs, RowE wr T 2 g n cap xs) ∧ Turned (· = g) w wr

set_option maxRecDepth 100000 in
theorem mkD_any (k i : Int) (w : World) (h0 : 0 ≤ k) (h1 : k ≤ 1000) (h2 : 0 ≤ i) (h3 : i ≤ 10000000) : Calls Tryz.prog 69 #[.int .i64 k, .int .i64 i] w (RetNew (.agg #[.int .i64 (1000003 * (k + 7) + i), .int .i64 0]) w) := by
  go_enter Tryz.func69, Tryz.ntmps69
  go_wp2_with fail
  refine (mark_any k i _ h0 h1 h2 h3).mono ?_
  rintro e w1 ⟨rfl, rfl⟩
  go_wp2_with fail
  refine bodyPost_ret (v := .agg #[.int .i64 (1000003 * (k + 7) + i), .int .i64 0]) (by simp [results, Tryz.results69, go_sem]) rfl ⟨rfl, ?_⟩
  exact (Turned.refl (fun _ => False) w).alloc _
set_option maxRecDepth 100000 in
set_option maxHeartbeats 1000000 in
theorem lentD_any (A : Option Addr) (n c : Nat) (l : List (Int × Int)) (w : World) (h : SlP w ⟨A, n, c⟩ l) (hn : n ≤ 1000000) : Calls Tryz.prog 29 #[.slice A n c] w (LentP 52 n l w) := by
  obtain ⟨i0, hi, hz0, hz1, hz2⟩ := info_parts dirtyT.info
  have hI := Lib.hid (And.intro hi (And.intro hz0 (And.intro hz1 hz2)))
  have h' := Lib.hid h
  have hnl := Lib.hid h.nil_
  have hle := Lib.hid h.cel.len
  have hl := Lib.hid h.len
  simp only at hnl hle hl
  clear hi hz0 hz1 hz2 h
  go_enter Tryz.func29, Tryz.ntmps29
  go_wp2_with (first
    | (at_make; refine wpList_make_own _ rfl _ _ 26 rfl w.heap.size 52 i0 (.agg #[.int .i64 0, .int .i64 0]) 2 Tryz.underlying26 hI.out.1 hI.out.2.1 hI.out.2.2.1 .i64 .i64 _ (n + 12) rfl rfl (by omega) (by rw [hI.out.2.2.2]; omega) (by unfold maxLen; omega) (Nat.le_refl _) ?_; intro w1 hown hg1; have hs1 := hg1.size)
    | (at_builtin; refine wpList_append_fits_any _ rfl (.tmp 9) (.tmp 10) 26 rfl w.heap.size 52 i0 2 Tryz.underlying26 hI.out.1 hI.out.2.2.1 w.heap.size 0 (n + 12) [] rfl hown A n c (pairC l) rfl hle.out hnl.out ((h'.out.cel.fresh ((Turned.refl (fun _ => False) w).grown hg1 (fun k e => by cases e))).news) (pairC_one l) (by omega) ?_; intro w2 hown2 hg2))
  have hr2 : RowE w2 52 2 w.heap.size (n + 0) (n + 12) (pairC (l ++ marksP 1 0)) := by
    simp only [Nat.zero_add, List.nil_append] at hown2
    rw [show marksP 1 0 = [] from rfl, List.append_nil, Nat.add_zero]
    exact RowE.of_own hown2
  have ht2 : Turned (fun _ => False) w w2 := ((Turned.refl (fun _ => False) w).grown hg1 (fun k e => by cases e)).grown hg2 (fun k e => by injection e with e; exact .inr (Nat.le_of_eq e))
  clear hown hown2 hg1 hg2
  go_loopw [3, 4] (fun v i wr => LentPRel 52 n l w v i wr) (fun _ i _ => 12 - (intOf i).toNat)
  case atStart => exact ⟨0, by omega, rfl, by simp, hr2, ht2⟩
  case round =>
    obtain ⟨j, hj, rfl, rfl, hr, ht⟩ := hrel
    have hr' := Lib.hid hr
    have hsz := hr.lt
    have ht' := Lib.hid ht
    clear hr hr2 ht2 hs1 ht
    by_cases hlt : j < 12
    · have hji : (j : Int) < 12 := by omega
      go_wp2_with fail
      refine (mkD_any 1 (j : Int) _ (by omega) (by omega) (by omega) (by omega)).mono ?_
      rintro e w3 ⟨rfl, t3⟩
      have t3' := Lib.hid t3
      clear t3
      go_wp2_with (at_builtin; refine wpList_append_fits_any _ rfl (.tmp 16) (.tmp 19) 26 rfl w.heap.size 52 i0 2 Tryz.underlying26 hI.out.1 hI.out.2.2.1 w.heap.size (n + j) (n + 12) (pairC (l ++ marksP 1 j)) rfl (((hr'.out.fresh t3'.out).fresh ((Turned.refl (fun _ => False) w3).alloc _)).own (Nat.le_refl _)) (some ⟨w3.heap.size, 0, none⟩) 1 1 (pairC [mkP 1 j]) rfl rfl (fun e => by cases e) (fun ad e => by injection e with e; subst e; exact news_new w3 52 (pairC [mkP 1 j])) (pairC_one _) (by omega) ?_; intro w4 hown4 hg4)
      have hr4 : RowE w4 52 2 w.heap.size (n + (j + 1)) (n + 12) (pairC (l ++ marksP 1 (j + 1))) := by
        rw [marksP_succ, ← List.append_assoc, ← Nat.add_assoc]
        refine RowE.of_own (base := w.heap.size) ?_
        rw [pairC_append]
        exact hown4
      have ht4 : Turned (fun _ => False) w w4 := ((ht'.out.and_ t3'.out).alloc _).grown hg4 (fun k e => by injection e with e; exact .inr (Nat.le_of_eq e))
      exact ⟨⟨j + 1, by omega, by go_num, by rw [Nat.add_assoc], hr4, ht4⟩, by simp [intOf]; omega⟩
    · have hj12 : j = 12 := by omega
      subst hj12
      go_wp2
      go_ret
      exact ⟨w.heap.size, rfl, hr'.out, Nat.le_refl _, ht'.out⟩
set_option maxRecDepth 100000 in
set_option maxHeartbeats 1000000 in
theorem keptD_any (A : Option Addr) (n c g cap : Nat) (l : List (Int × Int)) (w : World) (hr : RowE w 52 2 g (n + 12) cap (pairC (l ++ marksP 1 12))) (hy : SlP w ⟨A, n, c⟩ l) (hn : n ≤ 1000000) :
    Calls Tryz.prog 40 #[.slice (some ⟨g, 0, none⟩) n cap, .slice A n c] w (RetNew (.bool true) w) := by
  have mixed : Tryz.prog.follows .mixedOrders = true := by kernel_rfl
  have hle := hr.le
  have hmx := hr.max
  unfold maxLen at hmx
  have hr' := Lib.hid hr
  have hy' := Lib.hid hy
  have hl := Lib.hid hy.len
  simp only at hl
  clear hr hy
  go_enter Tryz.func40, Tryz.ntmps40
  go_wp2
  go_loopw [6] (fun i wr => KeptPRel n w i wr) (fun i _ => n + 12 - (intOf i).toNat)
  case atStart => exact ⟨0, by omega, rfl, Turned.refl _ _⟩
  case round =>
    obtain ⟨j, hj, rfl, hT⟩ := hrel
    have hT := Lib.hid hT
    by_cases hlt : j < n + 12
    · have hji : (j : Int) < (n : Int) + 12 := by omega
      obtain ⟨q1, q2⟩ := (hr'.out.fresh hT.out).pair (i := j) (by rw [List.length_append, hl.out, marksP_length]; exact hlt)
      by_cases hjn : j < n
      · obtain ⟨b2, o2, hA, k2⟩ := (hy'.out.fresh hT.out).cells (show 0 < n by omega)
        simp only at hA
        subst hA
        obtain ⟨q3, q4⟩ := k2 j hjn
        have hjl : (j : Int) < (n : Int) := by omega
        have hd1 : decide ((j : Int) < (n : Int)) = true := by simp; omega
        have hd2 : decide ((n : Int) ≤ (j : Int)) = false := by simp; omega
        have hd3 : decide (n ≤ j) = false := by simp; omega
        have hd4 : decide (j < n) = true := by simp; omega
        rw [fstAt_app_l _ _ _ (by rw [hl.out]; exact hjn)] at q1
        rw [sndAt_app_l _ _ _ (by rw [hl.out]; exact hjn)] at q2
        generalize fstAt l j = x at *
        generalize sndAt l j = y at *
        clear k2
        go_wp2_with fail
        refine wp_region_segs (fun w' => w'.cell? ⟨g, j * 2, none⟩ = some (.int .i64 x) ∧ w'.cell? ⟨g, j * 2 + 1, none⟩ = some (.int .i64 y) ∧ w'.cell? ⟨b2, o2 + j * 2, none⟩ = some (.int .i64 x) ∧ w'.cell? ⟨b2, o2 + j * 2 + 1, none⟩ = some (.int .i64 y)) (segT [0, 1, 2, 3, 4, 5, 6, 7, 8, 9, 10, 11, 12, 13, 14, 15, 16, 17, 18, 19, 20, 21, 22, 23, 24, 25, 26, 27, 28, 29] ++ segF [30] ++ segT [31, 32, 33, 34]) mixed (by kernel_rfl) (fun _ _ _ _ _ h => h) ?_
        simp only [segT, segF, pickSegs, List.map_cons, List.map_nil, List.cons_append, List.nil_append, List.filterMap_cons, List.filterMap_nil, List.getElem?_cons_zero, List.getElem?_cons_succ, Option.map_some]
        have hS : wr.drew.cell? ⟨g, j * 2, none⟩ = some (.int .i64 x) ∧ wr.drew.cell? ⟨g, j * 2 + 1, none⟩ = some (.int .i64 y) ∧ wr.drew.cell? ⟨b2, o2 + j * 2, none⟩ = some (.int .i64 x) ∧ wr.drew.cell? ⟨b2, o2 + j * 2 + 1, none⟩ = some (.int .i64 y) := ⟨q1, q2, q3, q4⟩
        iterate 22 (refine wpSegs_take (v := ?_) hS rfl (fun w' hw => ?_) ?_; rotate_left; (focus (obtain ⟨hw0, hw1, hw2, hw3⟩ := hw; go_simp; (try with_reducible rfl); done)); try simp only [Act.put, List.setIfInBounds_toArray, List.set_cons_zero, List.set_cons_succ])
        iterate 8 (refine wpSegs_skip hS rfl ?_; try simp only [Act.put, List.setIfInBounds_toArray, List.set_cons_zero, List.set_cons_succ])
        refine wpSegs_runSkip hS rfl ?_
        try simp only [Act.put, List.setIfInBounds_toArray, List.set_cons_zero, List.set_cons_succ]
        iterate 2 (refine wpSegs_skip hS rfl ?_; try simp only [Act.put, List.setIfInBounds_toArray, List.set_cons_zero, List.set_cons_succ])
        iterate 2 (refine wpSegs_take (v := ?_) hS rfl (fun w' hw => ?_) ?_; rotate_left; (focus (obtain ⟨hw0, hw1, hw2, hw3⟩ := hw; go_simp; (try with_reducible rfl); done)); try simp only [Act.put, List.setIfInBounds_toArray, List.set_cons_zero, List.set_cons_succ])
        refine wpSegs_nil ?_
        clear hS
        have t3 := Lib.hid (Turned.refl (fun _ => False) wr).drew
        generalize wr.drew = w3 at *
        go_wp2_with fail
        go_roundw
        case rel =>
          first
          | exact ⟨j + 1, by omega, by go_num, hT.out.and_ t3.out⟩
          | ((repeat apply Exists.intro); exact ⟨⟨j + 1, by omega, by go_num, hT.out.and_ t3.out⟩, rfl⟩)
        case measure => simp [intOf]; omega
      · obtain ⟨i, hi⟩ : ∃ i : Nat, j = n + i := ⟨j - n, by omega⟩
        have hd1 : decide ((j : Int) < (n : Int)) = false := by simp; omega
        have hd2 : decide ((n : Int) ≤ (j : Int)) = true := by simp; omega
        have hd3 : decide (n ≤ j) = true := by simp; omega
        have hd4 : decide (j < n) = false := by simp; omega
        have hnj : (n : Int) ≤ (j : Int) := by omega
        rw [fstAt_marks l 1 12 i j (by rw [hl.out]; omega) (by omega)] at q1
        rw [sndAt_marks l 1 12 i j (by rw [hl.out]; omega) (by omega)] at q2
        have hsub : IntKind.i64.wrap ((j : Int) - (n : Int)) = (i : Int) := by rw [show (j : Int) - (n : Int) = (i : Int) by omega]; exact IntWalk.i64_in _ (by omega)
        have hsub2 : (j : Int) - (n : Int) = (i : Int) := by omega
        have hi12 : (i : Int) < 12 := by omega
        have hsub3 : IntKind.i64.wrap (i : Int) = (i : Int) := IntWalk.i64_in _ (by omega)
        have hij := Lib.hid hi
        clear hi
        obtain ⟨x, hx⟩ : ∃ x : Int, x = 1000003 * (1 + 7) + (i : Int) := ⟨_, rfl⟩
        obtain ⟨y, hy0⟩ : ∃ y : Int, y = 0 := ⟨_, rfl⟩
        subst hx hy0
        go_wp2_with fail
        refine wp_region_segs (fun w' => w'.cell? ⟨g, j * 2, none⟩ = some (.int .i64 (1000003 * (1 + 7) + (i : Int))) ∧ w'.cell? ⟨g, j * 2 + 1, none⟩ = some (.int .i64 0)) (segT [0, 1, 2, 3, 4, 5, 6, 7, 8, 9, 10, 11, 12, 13, 14, 15, 16, 17, 18, 19, 20, 21, 22, 23, 24, 25, 26, 27, 28, 29] ++ segF [30] ++ segT [31, 32, 33, 34]) mixed (by kernel_rfl) (fun _ _ _ _ _ h => h) ?_
        simp only [segT, segF, pickSegs, List.map_cons, List.map_nil, List.cons_append, List.nil_append, List.filterMap_cons, List.filterMap_nil, List.getElem?_cons_zero, List.getElem?_cons_succ, Option.map_some]
        have hS : wr.drew.cell? ⟨g, j * 2, none⟩ = some (.int .i64 (1000003 * (1 + 7) + (i : Int))) ∧ wr.drew.cell? ⟨g, j * 2 + 1, none⟩ = some (.int .i64 0) := ⟨q1, q2⟩
        iterate 5 (refine wpSegs_take (v := ?_) hS rfl (fun w' hw => ?_) ?_; rotate_left; (focus (obtain ⟨hw0, hw1⟩ := hw; go_simp; (try with_reducible rfl); done)); try simp only [Act.put, List.setIfInBounds_toArray, List.set_cons_zero, List.set_cons_succ])
        iterate 10 (refine wpSegs_skip hS rfl ?_; try simp only [Act.put, List.setIfInBounds_toArray, List.set_cons_zero, List.set_cons_succ])
        iterate 15 (refine wpSegs_take (v := ?_) hS rfl (fun w' hw => ?_) ?_; rotate_left; (focus (obtain ⟨hw0, hw1⟩ := hw; go_simp; (try with_reducible rfl); done)); try simp only [Act.put, List.setIfInBounds_toArray, List.set_cons_zero, List.set_cons_succ])
        refine wpSegs_run rfl (fun K hK => ?_)
        go_simp
        refine (mkD_any 1 (i : Int) _ (by omega) (by omega) (by omega) (by omega)).mono ?_
        rintro e w3 ⟨rfl, t3⟩
        have hS2 : w3.cell? ⟨g, j * 2, none⟩ = some (.int .i64 (1000003 * (1 + 7) + (i : Int))) ∧ w3.cell? ⟨g, j * 2 + 1, none⟩ = some (.int .i64 0) := ⟨cell_turned t3 hS.1 (fun e => e), cell_turned t3 hS.2 (fun e => e)⟩
        refine hK.out _ _ hS2 ?_
        clear hK K hS
        have hS := hS2
        clear hS2
        have t3 := Lib.hid (((Turned.refl (fun _ => False) wr).drew).and_ t3)
        iterate 4 (refine wpSegs_take (v := ?_) hS rfl (fun w' hw => ?_) ?_; rotate_left; (focus (obtain ⟨hw0, hw1⟩ := hw; go_simp; (try with_reducible rfl); done)); try simp only [Act.put, List.setIfInBounds_toArray, List.set_cons_zero, List.set_cons_succ])
        refine wpSegs_nil ?_
        clear hS
        go_wp2_with fail
        go_roundw
        case rel =>
          first
          | exact ⟨j + 1, by omega, by go_num, hT.out.and_ t3.out⟩
          | ((repeat apply Exists.intro); exact ⟨⟨j + 1, by omega, by go_num, hT.out.and_ t3.out⟩, rfl⟩)
        case measure => simp [intOf]; omega
    · have hge : (n : Int) + 12 ≤ (j : Int) := by omega
      go_wp2
      go_ret
      exact ⟨rfl, hT.out⟩
set_option maxRecDepth 100000 in
set_option maxHeartbeats 1000000 in
theorem overD_any (n g cap : Nat) (xs : List Value) (w : World) (hr : RowE w 52 2 g (n + 12) cap xs) (hn : n ≤ 1000000) :
    Calls Tryz.prog 43 #[.slice (some ⟨g, 0, none⟩) n cap] w (OverP 52 g (n + 12) cap w) := by
  have hle := hr.le
  have hmx := hr.max
  unfold maxLen at hmx
  have hr' := Lib.hid hr
  have hgl := hr.lt
  clear hr
  go_enter Tryz.func43, Tryz.ntmps43
  go_wp2
  go_loopw [3] (fun i wr => OverPRel 52 g (n + 12) cap w i wr) (fun i _ => n + 12 - (intOf i).toNat)
  case atStart => exact ⟨0, by omega, rfl, ⟨_, hr'.out⟩, Turned.refl _ _⟩
  case round =>
    obtain ⟨j, hj, rfl, ⟨ys, hr⟩, ht⟩ := hrel
    by_cases hlt : j < n + 12
    · have hji : (j : Int) < (n : Int) + 12 := by omega
      have hry := Lib.hid hr
      have ht' := Lib.hid ht
      clear hr ht
      go_wp2_with fail
      refine (mkD_any 2 (j : Int) _ (by omega) (by omega) (by omega) (by omega)).mono ?_
      rintro e w3 ⟨rfl, t3⟩
      have h3 := hry.out.fresh t3
      have hyl := h3.len
      have c0 : w3.cell? ⟨g, j * 2, none⟩ = some (ys[j * 2]'(by omega)) := h3.cell (List.getElem?_eq_getElem (by omega))
      have c1 : w3.cell? ⟨g, j * 2 + 1, none⟩ = some (ys[j * 2 + 1]'(by omega)) := h3.cell (List.getElem?_eq_getElem (by omega))
      have f0 := h3.frozen (j * 2)
      have f1 := h3.frozen (j * 2 + 1)
      have h3' := Lib.hid h3
      have t3' := Lib.hid (ht'.out.trans (W := (· = g)) t3 (fun _ e => e) (fun _ e => e.elim))
      generalize (ys[j * 2]'(by omega)) = v0 at *
      generalize (ys[j * 2 + 1]'(by omega)) = v1 at *
      clear h3 t3 hyl
      go_wp2_with fail
      go_roundw
      case rel =>
        first
        | exact ⟨j + 1, by omega, by go_num, ⟨_, (h3'.out.set _ _).set _ _⟩, (t3'.out.setCell (.inl rfl) _).setCell (.inl rfl) _⟩
        | ((repeat apply Exists.intro); exact ⟨⟨j + 1, by omega, by go_num, ⟨_, (h3'.out.set _ _).set _ _⟩, (t3'.out.setCell (.inl rfl) _).setCell (.inl rfl) _⟩, rfl⟩)
      case measure => simp [intOf]; omega
    · have hge : (n : Int) + 12 ≤ (j : Int) := by omega
      clear hr
      go_wp2
      go_end0
      exact ⟨rfl, ht⟩

set_option maxRecDepth 100000 in
theorem mkO_any (k i : Int) (w : World) (h0 : 0 ≤ k) (h1 : k ≤ 1000) (h2 : 0 ≤ i) (h3 : i ≤ 10000000) : Calls Tryz.prog 70 #[.int .i64 k, .int .i64 i] w (RetNew (.agg #[.int .i64 (1000003 * (k + 7) + i), .int .i64 0]) w) := by
  go_enter Tryz.func70, Tryz.ntmps70
  go_wp2_with fail
  refine (mark_any k i _ h0 h1 h2 h3).mono ?_
  rintro e w1 ⟨rfl, rfl⟩
  go_wp2_with fail
  refine bodyPost_ret (v := .agg #[.int .i64 (1000003 * (k + 7) + i), .int .i64 0]) (by simp [results, Tryz.results70, go_sem]) rfl ⟨rfl, ?_⟩
  exact (Turned.refl (fun _ => False) w).alloc _
set_option maxRecDepth 100000 in
set_option maxHeartbeats 1000000 in
theorem lentO_any (A : Option Addr) (n c : Nat) (l : List (Int × Int)) (w : World) (h : SlP w ⟨A, n, c⟩ l) (hn : n ≤ 1000000) : Calls Tryz.prog 30 #[.slice A n c] w (LentP 54 n l w) := by
  obtain ⟨i0, hi, hz0, hz1, hz2⟩ := info_parts openT.info
  have hI := Lib.hid (And.intro hi (And.intro hz0 (And.intro hz1 hz2)))
  have h' := Lib.hid h
  have hnl := Lib.hid h.nil_
  have hle := Lib.hid h.cel.len
  have hl := Lib.hid h.len
  simp only at hnl hle hl
  clear hi hz0 hz1 hz2 h
  go_enter Tryz.func30, Tryz.ntmps30
  go_wp2_with (first
    | (at_make; refine wpList_make_own _ rfl _ _ 27 rfl w.heap.size 54 i0 (.agg #[.int .i64 0, .int .i64 0]) 2 Tryz.underlying27 hI.out.1 hI.out.2.1 hI.out.2.2.1 .i64 .i64 _ (n + 12) rfl rfl (by omega) (by rw [hI.out.2.2.2]; omega) (by unfold maxLen; omega) (Nat.le_refl _) ?_; intro w1 hown hg1; have hs1 := hg1.size)
    | (at_builtin; refine wpList_append_fits_any _ rfl (.tmp 9) (.tmp 10) 27 rfl w.heap.size 54 i0 2 Tryz.underlying27 hI.out.1 hI.out.2.2.1 w.heap.size 0 (n + 12) [] rfl hown A n c (pairC l) rfl hle.out hnl.out ((h'.out.cel.fresh ((Turned.refl (fun _ => False) w).grown hg1 (fun k e => by cases e))).news) (pairC_one l) (by omega) ?_; intro w2 hown2 hg2))
  have hr2 : RowE w2 54 2 w.heap.size (n + 0) (n + 12) (pairC (l ++ marksP 1 0)) := by
    simp only [Nat.zero_add, List.nil_append] at hown2
    rw [show marksP 1 0 = [] from rfl, List.append_nil, Nat.add_zero]
    exact RowE.of_own hown2
  have ht2 : Turned (fun _ => False) w w2 := ((Turned.refl (fun _ => False) w).grown hg1 (fun k e => by cases e)).grown hg2 (fun k e => by injection e with e; exact .inr (Nat.le_of_eq e))
  clear hown hown2 hg1 hg2
  go_loopw [3, 4] (fun v i wr => LentPRel 54 n l w v i wr) (fun _ i _ => 12 - (intOf i).toNat)
  case atStart => exact ⟨0, by omega, rfl, by simp, hr2, ht2⟩
  case round =>
    obtain ⟨j, hj, rfl, rfl, hr, ht⟩ := hrel
    have hr' := Lib.hid hr
    have hsz := hr.lt
    have ht' := Lib.hid ht
    clear hr hr2 ht2 hs1 ht
    by_cases hlt : j < 12
    · have hji : (j : Int) < 12 := by omega
      go_wp2_with fail
      refine (mkO_any 1 (j : Int) _ (by omega) (by omega) (by omega) (by omega)).mono ?_
      rintro e w3 ⟨rfl, t3⟩
      have t3' := Lib.hid t3
      clear t3
      go_wp2_with (at_builtin; refine wpList_append_fits_any _ rfl (.tmp 16) (.tmp 19) 27 rfl w.heap.size 54 i0 2 Tryz.underlying27 hI.out.1 hI.out.2.2.1 w.heap.size (n + j) (n + 12) (pairC (l ++ marksP 1 j)) rfl (((hr'.out.fresh t3'.out).fresh ((Turned.refl (fun _ => False) w3).alloc _)).own (Nat.le_refl _)) (some ⟨w3.heap.size, 0, none⟩) 1 1 (pairC [mkP 1 j]) rfl rfl (fun e => by cases e) (fun ad e => by injection e with e; subst e; exact news_new w3 54 (pairC [mkP 1 j])) (pairC_one _) (by omega) ?_; intro w4 hown4 hg4)
      have hr4 : RowE w4 54 2 w.heap.size (n + (j + 1)) (n + 12) (pairC (l ++ marksP 1 (j + 1))) := by
        rw [marksP_succ, ← List.append_assoc, ← Nat.add_assoc]
        refine RowE.of_own (base := w.heap.size) ?_
        rw [pairC_append]
        exact hown4
      have ht4 : Turned (fun _ => False) w w4 := ((ht'.out.and_ t3'.out).alloc _).grown hg4 (fun k e => by injection e with e; exact .inr (Nat.le_of_eq e))
      exact ⟨⟨j + 1, by omega, by go_num, by rw [Nat.add_assoc], hr4, ht4⟩, by simp [intOf]; omega⟩
    · have hj12 : j = 12 := by omega
      subst hj12
      go_wp2
      go_ret
      exact ⟨w.heap.size, rfl, hr'.out, Nat.le_refl _, ht'.out⟩
set_option maxRecDepth 100000 in
set_option maxHeartbeats 1000000 in
theorem keptO_any (A : Option Addr) (n c g cap : Nat) (l : List (Int × Int)) (w : World) (hr : RowE w 54 2 g (n + 12) cap (pairC (l ++ marksP 1 12))) (hy : SlP w ⟨A, n, c⟩ l) (hn : n ≤ 1000000) :
    Calls Tryz.prog 41 #[.slice (some ⟨g, 0, none⟩) n cap, .slice A n c] w (RetNew (.bool true) w) := by
  have mixed : Tryz.prog.follows .mixedOrders = true := by kernel_rfl
  have hle := hr.le
  have hmx := hr.max
  unfold maxLen at hmx
  have hr' := Lib.hid hr
  have hy' := Lib.hid hy
  have hl := Lib.hid hy.len
  simp only at hl
  clear hr hy
  go_enter Tryz.func41, Tryz.ntmps41
  go_wp2
  go_loopw [6] (fun i wr => KeptPRel n w i wr) (fun i _ => n + 12 - (intOf i).toNat)
  case atStart => exact ⟨0, by omega, rfl, Turned.refl _ _⟩
  case round =>
    obtain ⟨j, hj, rfl, hT⟩ := hrel
    have hT := Lib.hid hT
    by_cases hlt : j < n + 12
    · have hji : (j : Int) < (n : Int) + 12 := by omega
      obtain ⟨q1, q2⟩ := (hr'.out.fresh hT.out).pair (i := j) (by rw [List.length_append, hl.out, marksP_length]; exact hlt)
      by_cases hjn : j < n
      · obtain ⟨b2, o2, hA, k2⟩ := (hy'.out.fresh hT.out).cells (show 0 < n by omega)
        simp only at hA
        subst hA
        obtain ⟨q3, q4⟩ := k2 j hjn
        have hjl : (j : Int) < (n : Int) := by omega
        have hd1 : decide ((j : Int) < (n : Int)) = true := by simp; omega
        have hd2 : decide ((n : Int) ≤ (j : Int)) = false := by simp; omega
        have hd3 : decide (n ≤ j) = false := by simp; omega
        have hd4 : decide (j < n) = true := by simp; omega
        rw [fstAt_app_l _ _ _ (by rw [hl.out]; exact hjn)] at q1
        rw [sndAt_app_l _ _ _ (by rw [hl.out]; exact hjn)] at q2
        generalize fstAt l j = x at *
        generalize sndAt l j = y at *
        clear k2
        go_wp2_with fail
        refine wp_region_segs (fun w' => w'.cell? ⟨g, j * 2, none⟩ = some (.int .i64 x) ∧ w'.cell? ⟨g, j * 2 + 1, none⟩ = some (.int .i64 y) ∧ w'.cell? ⟨b2, o2 + j * 2, none⟩ = some (.int .i64 x) ∧ w'.cell? ⟨b2, o2 + j * 2 + 1, none⟩ = some (.int .i64 y)) (segT [0, 1, 2, 3, 4, 5, 6, 7, 8, 9, 10, 11, 12, 13, 14, 15, 16, 17, 18, 19, 20, 21, 22, 23, 24, 25, 26, 27, 28, 29] ++ segF [30] ++ segT [31, 32, 33, 34]) mixed (by kernel_rfl) (fun _ _ _ _ _ h => h) ?_
        simp only [segT, segF, pickSegs, List.map_cons, List.map_nil, List.cons_append, List.nil_append, List.filterMap_cons, List.filterMap_nil, List.getElem?_cons_zero, List.getElem?_cons_succ, Option.map_some]
        have hS : wr.drew.cell? ⟨g, j * 2, none⟩ = some (.int .i64 x) ∧ wr.drew.cell? ⟨g, j * 2 + 1, none⟩ = some (.int .i64 y) ∧ wr.drew.cell? ⟨b2, o2 + j * 2, none⟩ = some (.int .i64 x) ∧ wr.drew.cell? ⟨b2, o2 + j * 2 + 1, none⟩ = some (.int .i64 y) := ⟨q1, q2, q3, q4⟩
        iterate 22 (refine wpSegs_take (v := ?_) hS rfl (fun w' hw => ?_) ?_; rotate_left; (focus (obtain ⟨hw0, hw1, hw2, hw3⟩ := hw; go_simp; (try with_reducible rfl); done)); try simp only [Act.put, List.setIfInBounds_toArray, List.set_cons_zero, List.set_cons_succ])
        iterate 8 (refine wpSegs_skip hS rfl ?_; try simp only [Act.put, List.setIfInBounds_toArray, List.set_cons_zero, List.set_cons_succ])
        refine wpSegs_runSkip hS rfl ?_
        try simp only [Act.put, List.setIfInBounds_toArray, List.set_cons_zero, List.set_cons_succ]
        iterate 2 (refine wpSegs_skip hS rfl ?_; try simp only [Act.put, List.setIfInBounds_toArray, List.set_cons_zero, List.set_cons_succ])
        iterate 2 (refine wpSegs_take (v := ?_) hS rfl (fun w' hw => ?_) ?_; rotate_left; (focus (obtain ⟨hw0, hw1, hw2, hw3⟩ := hw; go_simp; (try with_reducible rfl); done)); try simp only [Act.put, List.setIfInBounds_toArray, List.set_cons_zero, List.set_cons_succ])
        refine wpSegs_nil ?_
        clear hS
        have t3 := Lib.hid (Turned.refl (fun _ => False) wr).drew
        generalize wr.drew = w3 at *
        go_wp2_with fail
        go_roundw
        case rel =>
          first
          | exact ⟨j + 1, by omega, by go_num, hT.out.and_ t3.out⟩
          | ((repeat apply Exists.intro); exact ⟨⟨j + 1, by omega, by go_num, hT.out.and_ t3.out⟩, rfl⟩)
        case measure => simp [intOf]; omega
      · obtain ⟨i, hi⟩ : ∃ i : Nat, j = n + i := ⟨j - n, by omega⟩
        have hd1 : decide ((j : Int) < (n : Int)) = false := by simp; omega
        have hd2 : decide ((n : Int) ≤ (j : Int)) = true := by simp; omega
        have hd3 : decide (n ≤ j) = true := by simp; omega
        have hd4 : decide (j < n) = false := by simp; omega
        have hnj : (n : Int) ≤ (j : Int) := by omega
        rw [fstAt_marks l 1 12 i j (by rw [hl.out]; omega) (by omega)] at q1
        rw [sndAt_marks l 1 12 i j (by rw [hl.out]; omega) (by omega)] at q2
        have hsub : IntKind.i64.wrap ((j : Int) - (n : Int)) = (i : Int) := by rw [show (j : Int) - (n : Int) = (i : Int) by omega]; exact IntWalk.i64_in _ (by omega)
        have hsub2 : (j : Int) - (n : Int) = (i : Int) := by omega
        have hi12 : (i : Int) < 12 := by omega
        have hsub3 : IntKind.i64.wrap (i : Int) = (i : Int) := IntWalk.i64_in _ (by omega)
        have hij := Lib.hid hi
        clear hi
        obtain ⟨x, hx⟩ : ∃ x : Int, x = 1000003 * (1 + 7) + (i : Int) := ⟨_, rfl⟩
        obtain ⟨y, hy0⟩ : ∃ y : Int, y = 0 := ⟨_, rfl⟩
        subst hx hy0
        go_wp2_with fail
        refine wp_region_segs (fun w' => w'.cell? ⟨g, j * 2, none⟩ = some (.int .i64 (1000003 * (1 + 7) + (i : Int))) ∧ w'.cell? ⟨g, j * 2 + 1, none⟩ = some (.int .i64 0)) (segT [0, 1, 2, 3, 4, 5, 6, 7, 8, 9, 10, 11, 12, 13, 14, 15, 16, 17, 18, 19, 20, 21, 22, 23, 24, 25, 26, 27, 28, 29] ++ segF [30] ++ segT [31, 32, 33, 34]) mixed (by kernel_rfl) (fun _ _ _ _ _ h => h) ?_
        simp only [segT, segF, pickSegs, List.map_cons, List.map_nil, List.cons_append, List.nil_append, List.filterMap_cons, List.filterMap_nil, List.getElem?_cons_zero, List.getElem?_cons_succ, Option.map_some]
        have hS : wr.drew.cell? ⟨g, j * 2, none⟩ = some (.int .i64 (1000003 * (1 + 7) + (i : Int))) ∧ wr.drew.cell? ⟨g, j * 2 + 1, none⟩ = some (.int .i64 0) := ⟨q1, q2⟩
        iterate 5 (refine wpSegs_take (v := ?_) hS rfl (fun w' hw => ?_) ?_; rotate_left; (focus (obtain ⟨hw0, hw1⟩ := hw; go_simp; (try with_reducible rfl); done)); try simp only [Act.put, List.setIfInBounds_toArray, List.set_cons_zero, List.set_cons_succ])
        iterate 10 (refine wpSegs_skip hS rfl ?_; try simp only [Act.put, List.setIfInBounds_toArray, List.set_cons_zero, List.set_cons_succ])
        iterate 15 (refine wpSegs_take (v := ?_) hS rfl (fun w' hw => ?_) ?_; rotate_left; (focus (obtain ⟨hw0, hw1⟩ := hw; go_simp; (try with_reducible rfl); done)); try simp only [Act.put, List.setIfInBounds_toArray, List.set_cons_zero, List.set_cons_succ])
        refine wpSegs_run rfl (fun K hK => ?_)
        go_simp
        refine (mkO_any 1 (i : Int) _ (by omega) (by omega) (by omega) (by omega)).mono ?_
        rintro e w3 ⟨rfl, t3⟩
        have hS2 : w3.cell? ⟨g, j * 2, none⟩ = some (.int .i64 (1000003 * (1 + 7) + (i : Int))) ∧ w3.cell? ⟨g, j * 2 + 1, none⟩ = some (.int .i64 0) := ⟨cell_turned t3 hS.1 (fun e => e), cell_turned t3 hS.2 (fun e => e)⟩
        refine hK.out _ _ hS2 ?_
        clear hK K hS
        have hS := hS2
        clear hS2
        have t3 := Lib.hid (((Turned.refl (fun _ => False) wr).drew).and_ t3)
        iterate 4 (refine wpSegs_take (v := ?_) hS rfl (fun w' hw => ?_) ?_; rotate_left; (focus (obtain ⟨hw0, hw1⟩ := hw; go_simp; (try with_reducible rfl); done)); try simp only [Act.put, List.setIfInBounds_toArray, List.set_cons_zero, List.set_cons_succ])
        refine wpSegs_nil ?_
        clear hS
        go_wp2_with fail
        go_roundw
        case rel =>
          first
          | exact ⟨j + 1, by omega, by go_num, hT.out.and_ t3.out⟩
          | ((repeat apply Exists.intro); exact ⟨⟨j + 1, by omega, by go_num, hT.out.and_ t3.out⟩, rfl⟩)
        case measure => simp [intOf]; omega
    · have hge : (n : Int) + 12 ≤ (j : Int) := by omega
      go_wp2
      go_ret
      exact ⟨rfl, hT.out⟩
set_option maxRecDepth 100000 in
set_option maxHeartbeats 1000000 in
theorem overO_any (n g cap : Nat) (xs : List Value) (w : World) (hr : RowE w 54 2 g (n + 12) cap xs) (hn : n ≤ 1000000) :
    Calls Tryz.prog 44 #[.slice (some ⟨g, 0, none⟩) n cap] w (OverP 54 g (n + 12) cap w) := by
  have hle := hr.le
  have hmx := hr.max
  unfold maxLen at hmx
  have hr' := Lib.hid hr
  have hgl := hr.lt
  clear hr
  go_enter Tryz.func44, Tryz.ntmps44
  go_wp2
  go_loopw [3] (fun i wr => OverPRel 54 g (n + 12) cap w i wr) (fun i _ => n + 12 - (intOf i).toNat)
  case atStart => exact ⟨0, by omega, rfl, ⟨_, hr'.out⟩, Turned.refl _ _⟩
  case round =>
    obtain ⟨j, hj, rfl, ⟨ys, hr⟩, ht⟩ := hrel
    by_cases hlt : j < n + 12
    · have hji : (j : Int) < (n : Int) + 12 := by omega
      have hry := Lib.hid hr
      have ht' := Lib.hid ht
      clear hr ht
      go_wp2_with fail
      refine (mkO_any 2 (j : Int) _ (by omega) (by omega) (by omega) (by omega)).mono ?_
      rintro e w3 ⟨rfl, t3⟩
      have h3 := hry.out.fresh t3
      have hyl := h3.len
      have c0 : w3.cell? ⟨g, j * 2, none⟩ = some (ys[j * 2]'(by omega)) := h3.cell (List.getElem?_eq_getElem (by omega))
      have c1 : w3.cell? ⟨g, j * 2 + 1, none⟩ = some (ys[j * 2 + 1]'(by omega)) := h3.cell (List.getElem?_eq_getElem (by omega))
      have f0 := h3.frozen (j * 2)
      have f1 := h3.frozen (j * 2 + 1)
      have h3' := Lib.hid h3
      have t3' := Lib.hid (ht'.out.trans (W := (· = g)) t3 (fun _ e => e) (fun _ e => e.elim))
      generalize (ys[j * 2]'(by omega)) = v0 at *
      generalize (ys[j * 2 + 1]'(by omega)) = v1 at *
      clear h3 t3 hyl
      go_wp2_with fail
      go_roundw
      case rel =>
        first
        | exact ⟨j + 1, by omega, by go_num, ⟨_, (h3'.out.set _ _).set _ _⟩, (t3'.out.setCell (.inl rfl) _).setCell (.inl rfl) _⟩
        | ((repeat apply Exists.intro); exact ⟨⟨j + 1, by omega, by go_num, ⟨_, (h3'.out.set _ _).set _ _⟩, (t3'.out.setCell (.inl rfl) _).setCell (.inl rfl) _⟩, rfl⟩)
      case measure => simp [intOf]; omega
    · have hge : (n : Int) + 12 ≤ (j : Int) := by omega
      clear hr
      go_wp2
      go_end0
      exact ⟨rfl, ht⟩
end Go.Proofs.YtohajofkflibjaaGreatDoor

