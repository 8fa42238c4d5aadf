/-
 What the statements share: lists of texts, and of parts, that are lent, with marks behind their end. Conditions: at most 1000000 elements.
-/
import Derived.Test.YtglojnmcbochaaaGreatDoorUKtS
import Derived.Test.YtglojnmcbochaaaGreatDoorURegD
import Derived.Test.YtglojnmcbochaaaGreatDoorUCodQ
import Derived.Test.YtglojnmcbochaaaGreatDoorURdFh
import Derived.IntWalk
import Derived.Laws.BytesArg
namespace Go.Proofs.YtglojnmcbochaaaGreatDoor
open Go.RowKit Go.Maps
set_option linter.unusedVariables false
set_option linter.unusedSimpArgs false

def mkXs (k i : Int) : List Int := [35, k % 256, k / 256 % 256, k / 65536, 47, i % 256, i / 256 % 256, i / 65536]
def mkX (k i : Int) : List UInt8 := toB (mkXs k i)
def mkQ (k i : Int) : List UInt8 × Int := ([], 1000003 * (k + 7) + i)
theorem news_new (w : World) (T : TypeId) (cs : List Value) : ∀ j u, cs[j]? = some u → (w.alloc (.cells cs.toArray T)).cell? ((⟨w.heap.size, 0, none⟩ : Addr).add j) = some u := by
 intro j u hu
 rw [Addr.add_mid, Nat.zero_add, (Blk.new w T cs.toArray).cell]
 simpa using hu
def marksX (k : Int) (n : Nat) : List (List UInt8) := (List.range n).map fun (i : Nat) => mkX k i
theorem marksX_length (k : Int) (n : Nat) : (marksX k n).length = n := by simp [marksX]
theorem marksX_succ (k : Int) (n : Nat) : marksX k (n + 1) = marksX k n ++ [mkX k n] := by simp [marksX, List.range_succ]
theorem marksX_at (l : List (List UInt8)) (k : Int) (n i j : Nat) (h : j = l.length + i) (hi : i < n) : (l ++ marksX k n).getD j [] = mkX k i := by
 rw [h, getD_app_r _ _ _ _ (by omega), Nat.add_sub_cancel_left]
 simp [marksX, List.getD_eq_getElem?_getD, hi]
def LentX (T n : Nat) (l : List (List UInt8)) (w : World) (e : Ending) (w' : World) : Prop :=
 ∃ g, e = .returned (.slice (some ⟨g, 0, none⟩) n (n + 12)) ∧ RowE w' T 1 g (n + 12) (n + 12) (textC (l ++ marksX 1 12)) ∧ w.heap.size ≤ g ∧ Turned (fun _ => False) w w'
def LentXRel (T n : Nat) (l : List (List UInt8)) (w : World) (v i : Value) (wr : World) : Prop :=
 ∃ j : Nat, j ≤ 12 ∧ i = .int .i64 j ∧ v = .slice (some ⟨w.heap.size, 0, none⟩) (n + j) (n + 12) ∧ RowE wr T 1 w.heap.size (n + j) (n + 12) (textC (l ++ marksX 1 j)) ∧ Turned (fun _ => False) w wr
def KeptXRel (n : Nat) (w : World) (i : Value) (wr : World) : Prop := ∃ j : Nat, j ≤ n + 12 ∧ i = .int .i64 j ∧ Turned (fun _ => False) w wr
theorem RowE.text {w : World} {T g n cap : Nat} {l : List (List UInt8)} (h : RowE w T 1 g n cap (textC l)) {i : Nat} (hi : i < l.length) : w.cell? ⟨g, i, none⟩ = some (strV (l.getD i [])) := h.cell (textC_get l i hi)
set_option maxRecDepth 100000 in
theorem mkX_any (k i : Int) (w : World) (h0 : 0 ≤ k) (h1 : k ≤ 10000000) (h2 : 0 ≤ i) (h3 : i ≤ 10000000) : Calls Tryz.prog 101 #[.int .i64 k, .int .i64 i] w (RetNew (strV (mkX k i)) w) := by
 have hcv : (convert 106 9 (.slice (some ⟨w.heap.size, 0, none⟩) 8 8)).run Tryz.prog (w.alloc (.cells #[.int .u8 35, .int .u8 (k % 256), .int .u8 (k / 256 % 256), .int .u8 (k / 65536), .int .u8 47, .int .u8 (i % 256), .int .u8 (i / 256 % 256), .int .u8 (i / 65536)] 5)) = .ok (.string (strOfNums (mkXs k i))) (w.alloc (.cells #[.int .u8 35, .int .u8 (k % 256), .int .u8 (k / 256 % 256), .int .u8 (k / 65536), .int .u8 47, .int .u8 (i % 256), .int .u8 (i / 256 % 256), .int .u8 (i / 65536)] 5)) :=
  run_convert_bytes_arg (w.alloc (.cells #[.int .u8 35, .int .u8 (k % 256), .int .u8 (k / 256 % 256), .int .u8 (k / 65536), .int .u8 47, .int .u8 (i % 256), .int .u8 (i / 256 % 256), .int .u8 (i / 65536)] 5)) 106 5 Tryz.underlying106 Tryz.underlying5 w.heap.size 0 8 8 (mkXs k i) rfl (fun j hj => by
   rw [Nat.zero_add, (Blk.new w 5 #[.int .u8 35, .int .u8 (k % 256), .int .u8 (k / 256 % 256), .int .u8 (k / 65536), .int .u8 47, .int .u8 (i % 256), .int .u8 (i / 256 % 256), .int .u8 (i / 65536)]).cell]
   rcases (show j = 0 ∨ j = 1 ∨ j = 2 ∨ j = 3 ∨ j = 4 ∨ j = 5 ∨ j = 6 ∨ j = 7 by omega) with rfl | rfl | rfl | rfl | rfl | rfl | rfl | rfl <;> rfl) 9 Tryz.underlying9
 go_enter Tryz.func101, Tryz.ntmps101
 go_wp2_with fail
 go_ret
 exact ⟨rfl, (Turned.refl (fun _ => False) w).alloc _⟩
set_option maxRecDepth 100000 in
set_option maxHeartbeats 1000000 in
theorem lentX_any (A : Option Addr) (n c : Nat) (l : List (List UInt8)) (w : World) (h : SlT w ⟨A, n, c⟩ l) (hn : n ≤ 1000000) : Calls Tryz.prog 73 #[.slice A n c] w (LentX 9 n l w) := by
 obtain ⟨i0, hi, hz0, hz1, hz2⟩ := info_parts textT.info
 have hI := hZ (And.intro hi (And.intro hz0 (And.intro hz1 hz2)))
 have h' := hZ h
 have hnl := hZ h.nil_
 have hle := hZ h.cel.len
 have hl := hZ h.len
 simp only at hnl hle hl
 clear hi hz0 hz1 hz2 h
 go_enter Tryz.func73, Tryz.ntmps73
 go_wp2_with (first
  | (at_make; refine wpList_make_own _ rfl _ _ 26 rfl w.heap.size 9 i0 (.string ⟨#[]⟩) 1 Tryz.underlying26 hI.out.1 hI.out.2.1 hI.out.2.2.1 .i64 .i64 _ (n + 12) rfl rfl (by omega) (by rw [hI.out.2.2.2]; omega) (by unfold maxLen; omega) (Nat.le_refl _) ?_; intro w1 hown hg1; have hs1 := hg1.size)
  | (at_builtin; refine wpList_append_fits_any _ rfl (.tmp 9) (.tmp 10) 26 rfl w.heap.size 9 i0 1 Tryz.underlying26 hI.out.1 hI.out.2.2.1 w.heap.size 0 (n + 12) [] rfl hown A n c (textC l) rfl (by rw [Nat.mul_one]; exact hle.out) hnl.out ((h'.out.cel.fresh ((Turned.refl (fun _ => False) w).grown hg1 (fun k e => by cases e))).news) (textC_one l) (by omega) ?_; intro w2 hown2 hg2))
 have hr2 : RowE w2 9 1 w.heap.size (n + 0) (n + 12) (textC (l ++ marksX 1 0)) := by
  simp only [Nat.zero_add, zH] at hown2
  rw [show marksX 1 0 = [] from rfl, List.append_nil, Nat.add_zero]
  exact RowE.of_own hown2
 have ht2 : Turned (fun _ => False) w w2 := ((Turned.refl (fun _ => False) w).grown hg1 (fun k e => by cases e)).grown hg2 (fun k e => by injection e with e; exact .inr (Nat.le_of_eq e))
 clear hown hown2 hg1 hg2
 go_loopw [3, 4] (fun v i wr => LentXRel 9 n l w v i wr) (fun _ i _ => 12 - (intOf i).toNat)
 case atStart => exact ⟨0, by omega, rfl, by simp, hr2, ht2⟩
 case round =>
  obtain ⟨j, hj, rfl, rfl, hr, ht⟩ := hrel
  have hr' := hZ hr
  have hsz := hr.lt
  have ht' := hZ ht
  clear hr hr2 ht2 hs1 ht
  by_cases hlt : j < 12
  ·have hji : (j : Int) < 12 := by omega
   go_wp2_with fail
   refine (mkX_any 1 (j : Int) _ (by omega) (by omega) (by omega) (by omega)).mono ?_
   rintro e w3 ⟨rfl, t3⟩
   have t3' := hZ t3
   clear t3
   unfold strV
   go_wp2_with (at_builtin; refine wpList_append_fits_any _ rfl (.tmp 16) (.tmp 19) 26 rfl w.heap.size 9 i0 1 Tryz.underlying26 hI.out.1 hI.out.2.2.1 w.heap.size (n + j) (n + 12) (textC (l ++ marksX 1 j)) rfl (((hr'.out.fresh t3'.out).fresh ((Turned.refl (fun _ => False) w3).alloc _)).own (Nat.le_refl _)) (some ⟨w3.heap.size, 0, none⟩) 1 1 [.string ⟨(mkX 1 (j : Int)).toArray⟩] rfl rfl (fun e => by cases e) (fun ad e => by injection e with e; subst e; exact news_new w3 9 [.string ⟨(mkX 1 (j : Int)).toArray⟩]) (show ∀ v ∈ textC [mkX 1 (j : Int)], v.oneCell' = true from textC_one _) (by omega) ?_; intro w4 hown4 hg4)
   have hr4 : RowE w4 9 1 w.heap.size (n + (j + 1)) (n + 12) (textC (l ++ marksX 1 (j + 1))) := by
    rw [marksX_succ, ← List.append_assoc, ← Nat.add_assoc]
    refine RowE.of_own (base := w.heap.size) ?_
    rw [textC_append]
    exact hown4
   have ht4 : Turned (fun _ => False) w w4 := ((ht'.out.and_ t3'.out).alloc _).grown hg4 (fun k e => by injection e with e; exact .inr (Nat.le_of_eq e))
   exact ⟨⟨j + 1, by omega, by go_num, by rw [Nat.add_assoc], hr4, ht4⟩, by simp [intOf]; omega⟩
  ·have hj12 : j = 12 := by omega
   subst hj12
   go_wp2
   go_ret
   exact ⟨w.heap.size, rfl, hr'.out, Nat.le_refl _, ht'.out⟩
set_option maxRecDepth 100000 in
set_option maxHeartbeats 1000000 in
theorem keptX_any (A : Option Addr) (n c g cap : Nat) (l : List (List UInt8)) (w : World) (hr : RowE w 9 1 g (n + 12) cap (textC (l ++ marksX 1 12))) (hy : SlT w ⟨A, n, c⟩ l) (hn : n ≤ 1000000) :
  Calls Tryz.prog 85 #[.slice (some ⟨g, 0, none⟩) n cap, .slice A n c] w (RetNew (.bool true) w) := by
 have mixed : Tryz.prog.follows .mixedOrders = true := by kernel_rfl
 have hle := hr.le
 have hmx := hr.max
 unfold maxLen at hmx
 have hr' := hZ hr
 have hy' := hZ hy
 have hl := hZ hy.len
 simp only at hl
 clear hr hy
 go_enter Tryz.func85, Tryz.ntmps85
 go_wp2
 go_loopw [6] (fun i wr => KeptXRel n w i wr) (fun i _ => n + 12 - (intOf i).toNat)
 case atStart => exact ⟨0, by omega, rfl, Turned.refl _ _⟩
 case round =>
  obtain ⟨j, hj, rfl, hT⟩ := hrel
  have hT := hZ hT
  by_cases hlt : j < n + 12
  ·have hji : (j : Int) < (n : Int) + 12 := by omega
   have q1 := (hr'.out.fresh hT.out).text (i := j) (by rw [List.length_append, hl.out, marksX_length]; exact hlt)
   by_cases hjn : j < n
   ·obtain ⟨b2, o2, hA, k2⟩ := (hy'.out.fresh hT.out).cells (show 0 < n by omega)
    simp only at hA
    subst hA
    have hjl : (j : Int) < (n : Int) := by omega
    have hd1 : decide ((j : Int) < (n : Int)) = true := by simp; omega
    have hd2 : decide ((n : Int) ≤ (j : Int)) = false := by simp; omega
    have hd3 : decide (n ≤ j) = false := by simp; omega
    have hd4 : decide (j < n) = true := by simp; omega
    have q2 := k2 j hjn
    rw [getD_app_l _ _ _ _ (by rw [hl.out]; exact hjn)] at q1
    unfold strV at q1 q2
    generalize (⟨(l.getD j []).toArray⟩ : ByteArray) = x at *
    clear k2
    go_wp2_with fail
    refine wp_region_segs (fun w' => w'.cell? ⟨g, j, none⟩ = some (.string x) ∧ w'.cell? ⟨b2, o2 + j, none⟩ = some (.string x)) (segT [0, 1, 2, 3, 4, 5, 6, 7, 8, 9, 10, 11, 12, 13, 14, 15, 16, 17, 18, 19, 20, 21, 22, 23, 24, 25, 26, 27, 28, 29] ++ segF [30] ++ segT [31, 32, 33, 34]) mixed (by kernel_rfl) (fun _ _ _ _ _ h => h) ?_
    simp only [segT, segF, pickSegs, zF, List.map_nil, zG, zH, List.filterMap_cons, List.filterMap_nil, zI, zJ, Option.map_some]
    have hS : wr.drew.cell? ⟨g, j, none⟩ = some (.string x) ∧ wr.drew.cell? ⟨b2, o2 + j, none⟩ = some (.string x) := ⟨q1, q2⟩
    iterate 22 (refine wpSegs_take (v := ?_) hS rfl (fun w' hw => ?_) ?_; rotate_left; (focus (obtain ⟨hw0, hw1⟩ := hw; go_simp; (try with_reducible rfl); done)); try simp only [Act.put, zA, zB, zC])
    iterate 8 (refine wpSegs_skip hS rfl ?_; try simp only [Act.put, zA, zB, zC])
    refine wpSegs_runSkip hS rfl ?_
    try simp only [Act.put, zA, zB, zC]
    iterate 2 (refine wpSegs_skip hS rfl ?_; try simp only [Act.put, zA, zB, zC])
    iterate 2 (refine wpSegs_take (v := ?_) hS rfl (fun w' hw => ?_) ?_; rotate_left; (focus (obtain ⟨hw0, hw1⟩ := hw; go_simp; (try with_reducible rfl); done)); try simp only [Act.put, zA, zB, zC])
    refine wpSegs_nil ?_
    clear hS
    have t3 := hZ (Turned.refl (fun _ => False) wr).drew
    generalize wr.drew = w3 at *
    go_wp2_with fail
    go_roundw
    case rel =>
     first
     | exact ⟨j + 1, by omega, by go_num, hT.out.and_ t3.out⟩
     | ((repeat apply Exists.intro); exact ⟨⟨j + 1, by omega, by go_num, hT.out.and_ t3.out⟩, rfl⟩)
    case measure => simp [intOf]; omega
   ·obtain ⟨i, hi⟩ : ∃ i : Nat, j = n + i := ⟨j - n, by omega⟩
    have hd1 : decide ((j : Int) < (n : Int)) = false := by simp; omega
    have hd2 : decide ((n : Int) ≤ (j : Int)) = true := by simp; omega
    have hd3 : decide (n ≤ j) = true := by simp; omega
    have hd4 : decide (j < n) = false := by simp; omega
    have hnj : (n : Int) ≤ (j : Int) := by omega
    rw [marksX_at l 1 12 i j (by rw [hl.out]; omega) (by omega)] at q1
    unfold strV at q1
    have hsub : IntKind.i64.wrap ((j : Int) - (n : Int)) = (i : Int) := by rw [show (j : Int) - (n : Int) = (i : Int) by omega]; exact IntWalk.i64_in _ (by omega)
    have hsub2 : (j : Int) - (n : Int) = (i : Int) := by omega
    have hi12 : (i : Int) < 12 := by omega
    have hsub3 : IntKind.i64.wrap (i : Int) = (i : Int) := IntWalk.i64_in _ (by omega)
    have hij := hZ hi
    clear hi
    go_wp2_with fail
    refine wp_region_segs (fun w' => w'.cell? ⟨g, j, none⟩ = some (.string ⟨(mkX 1 (i : Int)).toArray⟩)) (segT [0, 1, 2, 3, 4, 5, 6, 7, 8, 9, 10, 11, 12, 13, 14, 15, 16, 17, 18, 19, 20, 21, 22, 23, 24, 25, 26, 27, 28, 29] ++ segF [30] ++ segT [31, 32, 33, 34]) mixed (by kernel_rfl) (fun _ _ _ _ _ h => h) ?_
    simp only [segT, segF, pickSegs, zF, List.map_nil, zG, zH, List.filterMap_cons, List.filterMap_nil, zI, zJ, Option.map_some]
    have hS : wr.drew.cell? ⟨g, j, none⟩ = some (.string ⟨(mkX 1 (i : Int)).toArray⟩) := q1
    iterate 5 (refine wpSegs_take (v := ?_) hS rfl (fun w' hw => ?_) ?_; rotate_left; (focus (go_simp; (try with_reducible rfl); done)); try simp only [Act.put, zA, zB, zC])
    iterate 10 (refine wpSegs_skip hS rfl ?_; try simp only [Act.put, zA, zB, zC])
    iterate 15 (refine wpSegs_take (v := ?_) hS rfl (fun w' hw => ?_) ?_; rotate_left; (focus (go_simp; (try with_reducible rfl); done)); try simp only [Act.put, zA, zB, zC])
    refine wpSegs_run rfl (fun K hK => ?_)
    go_simp
    refine (mkX_any 1 (i : Int) _ (by omega) (by omega) (by omega) (by omega)).mono ?_
    rintro e w3 ⟨rfl, t3⟩
    have hS2 : w3.cell? ⟨g, j, none⟩ = some (.string ⟨(mkX 1 (i : Int)).toArray⟩) := cell_turned t3 hS (fun e => e)
    refine hK.out _ _ hS2 ?_
    clear hK K hS
    have hS := hS2
    clear hS2
    have t3 := hZ (((Turned.refl (fun _ => False) wr).drew).and_ t3)
    unfold strV at *
    iterate 4 (refine wpSegs_take (v := ?_) hS rfl (fun w' hw => ?_) ?_; rotate_left; (focus (go_simp; (try with_reducible rfl); done)); try simp only [Act.put, zA, zB, zC])
    refine wpSegs_nil ?_
    clear hS
    go_wp2_with fail
    go_roundw
    case rel =>
     first
     | exact ⟨j + 1, by omega, by go_num, hT.out.and_ t3.out⟩
     | ((repeat apply Exists.intro); exact ⟨⟨j + 1, by omega, by go_num, hT.out.and_ t3.out⟩, rfl⟩)
    case measure => simp [intOf]; omega
  ·have hge : (n : Int) + 12 ≤ (j : Int) := by omega
   go_wp2
   go_ret
   exact ⟨rfl, hT.out⟩
def marksQ (k : Int) (n : Nat) : List (List UInt8 × Int) := (List.range n).map fun (i : Nat) => mkQ k i
theorem marksQ_length (k : Int) (n : Nat) : (marksQ k n).length = n := by simp [marksQ]
theorem marksQ_succ (k : Int) (n : Nat) : marksQ k (n + 1) = marksQ k n ++ [mkQ k n] := by simp [marksQ, List.range_succ]
theorem marksQ_at (l : List (List UInt8 × Int)) (k : Int) (n i j : Nat) (h : j = l.length + i) (hi : i < n) : (l ++ marksQ k n).getD j ([], 0) = mkQ k i := by
 rw [h, getD_app_r _ _ _ _ (by omega), Nat.add_sub_cancel_left]
 simp [marksQ, List.getD_eq_getElem?_getD, hi]
def LentQ (T n : Nat) (l : List (List UInt8 × Int)) (w : World) (e : Ending) (w' : World) : Prop :=
 ∃ g, e = .returned (.slice (some ⟨g, 0, none⟩) n (n + 12)) ∧ RowE w' T 2 g (n + 12) (n + 12) (partC (l ++ marksQ 1 12)) ∧ w.heap.size ≤ g ∧ Turned (fun _ => False) w w'
def LentQRel (T n : Nat) (l : List (List UInt8 × Int)) (w : World) (v i : Value) (wr : World) : Prop :=
 ∃ j : Nat, j ≤ 12 ∧ i = .int .i64 j ∧ v = .slice (some ⟨w.heap.size, 0, none⟩) (n + j) (n + 12) ∧ RowE wr T 2 w.heap.size (n + j) (n + 12) (partC (l ++ marksQ 1 j)) ∧ Turned (fun _ => False) w wr
def KeptQRel (n : Nat) (w : World) (i : Value) (wr : World) : Prop := ∃ j : Nat, j ≤ n + 12 ∧ i = .int .i64 j ∧ Turned (fun _ => False) w wr
theorem RowE.part {w : World} {T g n cap : Nat} {l : List (List UInt8 × Int)} (h : RowE w T 2 g n cap (partC l)) {i : Nat} (hi : i < l.length) : w.cell? ⟨g, i * 2, none⟩ = some (strV (itemAt l i)) ∧ w.cell? ⟨g, i * 2 + 1, none⟩ = some (.int .i64 (qtyAt l i)) := ⟨h.cell (partC_fst l i hi), h.cell (partC_snd l i hi)⟩
set_option maxRecDepth 100000 in
theorem mkQ_any (k i : Int) (w : World) (h0 : 0 ≤ k) (h1 : k ≤ 1000) (h2 : 0 ≤ i) (h3 : i ≤ 10000000) : Calls Tryz.prog 100 #[.int .i64 k, .int .i64 i] w (RetNew (.agg #[.string ⟨#[]⟩, .int .i64 (1000003 * (k + 7) + i)]) w) := by
 go_enter Tryz.func100, Tryz.ntmps100
 go_wp2_with fail
 refine (mark_any k i _ h0 h1 h2 h3).mono ?_
 rintro e w1 ⟨rfl, rfl⟩
 go_wp2_with fail
 refine bodyPost_ret (v := .agg #[.string ⟨#[]⟩, .int .i64 (1000003 * (k + 7) + i)]) (by simp [results, Tryz.results100, go_sem]) rfl ⟨rfl, ?_⟩
 exact (Turned.refl (fun _ => False) w).alloc _
set_option maxRecDepth 100000 in
set_option maxHeartbeats 1000000 in
theorem lentQ_any (A : Option Addr) (n c : Nat) (l : List (List UInt8 × Int)) (w : World) (h : SlQ w ⟨A, n, c⟩ l) (hn : n ≤ 1000000) : Calls Tryz.prog 72 #[.slice A n c] w (LentQ 62 n l w) := by
 obtain ⟨i0, hi, hz0, hz1, hz2⟩ := info_parts partT.info
 have hI := hZ (And.intro hi (And.intro hz0 (And.intro hz1 hz2)))
 have h' := hZ h
 have hnl := hZ h.nil_
 have hle := hZ h.cel.len
 have hl := hZ h.len
 simp only at hnl hle hl
 clear hi hz0 hz1 hz2 h
 go_enter Tryz.func72, Tryz.ntmps72
 go_wp2_with (first
  | (at_make; refine wpList_make_own _ rfl _ _ 25 rfl w.heap.size 62 i0 (.agg #[.string ⟨#[]⟩, .int .i64 0]) 2 Tryz.underlying25 hI.out.1 hI.out.2.1 hI.out.2.2.1 .i64 .i64 _ (n + 12) rfl rfl (by omega) (by rw [hI.out.2.2.2]; omega) (by unfold maxLen; omega) (Nat.le_refl _) ?_; intro w1 hown hg1; have hs1 := hg1.size)
  | (at_builtin; refine wpList_append_fits_any _ rfl (.tmp 9) (.tmp 10) 25 rfl w.heap.size 62 i0 2 Tryz.underlying25 hI.out.1 hI.out.2.2.1 w.heap.size 0 (n + 12) [] rfl hown A n c (partC l) rfl hle.out hnl.out ((h'.out.cel.fresh ((Turned.refl (fun _ => False) w).grown hg1 (fun k e => by cases e))).news) (partC_one l) (by omega) ?_; intro w2 hown2 hg2))
 have hr2 : RowE w2 62 2 w.heap.size (n + 0) (n + 12) (partC (l ++ marksQ 1 0)) := by
  simp only [Nat.zero_add, zH] at hown2
  rw [show marksQ 1 0 = [] from rfl, List.append_nil, Nat.add_zero]
  exact RowE.of_own hown2
 have ht2 : Turned (fun _ => False) w w2 := ((Turned.refl (fun _ => False) w).grown hg1 (fun k e => by cases e)).grown hg2 (fun k e => by injection e with e; exact .inr (Nat.le_of_eq e))
 clear hown hown2 hg1 hg2
 go_loopw [3, 4] (fun v i wr => LentQRel 62 n l w v i wr) (fun _ i _ => 12 - (intOf i).toNat)
 case atStart => exact ⟨0, by omega, rfl, by simp, hr2, ht2⟩
 case round =>
  obtain ⟨j, hj, rfl, rfl, hr, ht⟩ := hrel
  have hr' := hZ hr
  have hsz := hr.lt
  have ht' := hZ ht
  clear hr hr2 ht2 hs1 ht
  by_cases hlt : j < 12
  ·have hji : (j : Int) < 12 := by omega
   go_wp2_with fail
   refine (mkQ_any 1 (j : Int) _ (by omega) (by omega) (by omega) (by omega)).mono ?_
   rintro e w3 ⟨rfl, t3⟩
   have t3' := hZ t3
   clear t3
   skip
   go_wp2_with (at_builtin; refine wpList_append_fits_any _ rfl (.tmp 16) (.tmp 19) 25 rfl w.heap.size 62 i0 2 Tryz.underlying25 hI.out.1 hI.out.2.2.1 w.heap.size (n + j) (n + 12) (partC (l ++ marksQ 1 j)) rfl (((hr'.out.fresh t3'.out).fresh ((Turned.refl (fun _ => False) w3).alloc _)).own (Nat.le_refl _)) (some ⟨w3.heap.size, 0, none⟩) 1 1 [.string ⟨#[]⟩, .int .i64 (1000003 * (1 + 7) + (j : Int))] rfl rfl (fun e => by cases e) (fun ad e => by injection e with e; subst e; exact news_new w3 62 [.string ⟨#[]⟩, .int .i64 (1000003 * (1 + 7) + (j : Int))]) (show ∀ v ∈ partC [mkQ 1 (j : Int)], v.oneCell' = true from partC_one _) (by omega) ?_; intro w4 hown4 hg4)
   have hr4 : RowE w4 62 2 w.heap.size (n + (j + 1)) (n + 12) (partC (l ++ marksQ 1 (j + 1))) := by
    rw [marksQ_succ, ← List.append_assoc, ← Nat.add_assoc]
    refine RowE.of_own (base := w.heap.size) ?_
    rw [partC_append]
    exact hown4
   have ht4 : Turned (fun _ => False) w w4 := ((ht'.out.and_ t3'.out).alloc _).grown hg4 (fun k e => by injection e with e; exact .inr (Nat.le_of_eq e))
   exact ⟨⟨j + 1, by omega, by go_num, by rw [Nat.add_assoc], hr4, ht4⟩, by simp [intOf]; omega⟩
  ·have hj12 : j = 12 := by omega
   subst hj12
   go_wp2
   go_ret
   exact ⟨w.heap.size, rfl, hr'.out, Nat.le_refl _, ht'.out⟩
set_option maxRecDepth 100000 in
set_option maxHeartbeats 1000000 in
theorem keptQ_any (A : Option Addr) (n c g cap : Nat) (l : List (List UInt8 × Int)) (w : World) (hr : RowE w 62 2 g (n + 12) cap (partC (l ++ marksQ 1 12))) (hy : SlQ w ⟨A, n, c⟩ l) (hn : n ≤ 1000000) :
  Calls Tryz.prog 84 #[.slice (some ⟨g, 0, none⟩) n cap, .slice A n c] w (RetNew (.bool true) w) := by
 have mixed : Tryz.prog.follows .mixedOrders = true := by kernel_rfl
 have hle := hr.le
 have hmx := hr.max
 unfold maxLen at hmx
 have hr' := hZ hr
 have hy' := hZ hy
 have hl := hZ hy.len
 simp only at hl
 clear hr hy
 go_enter Tryz.func84, Tryz.ntmps84
 go_wp2
 go_loopw [6] (fun i wr => KeptQRel n w i wr) (fun i _ => n + 12 - (intOf i).toNat)
 case atStart => exact ⟨0, by omega, rfl, Turned.refl _ _⟩
 case round =>
  obtain ⟨j, hj, rfl, hT⟩ := hrel
  have hT := hZ hT
  by_cases hlt : j < n + 12
  ·have hji : (j : Int) < (n : Int) + 12 := by omega
   obtain ⟨q1, q2⟩ := (hr'.out.fresh hT.out).part (i := j) (by rw [List.length_append, hl.out, marksQ_length]; exact hlt)
   by_cases hjn : j < n
   ·obtain ⟨b2, o2, hA, k2⟩ := (hy'.out.fresh hT.out).cells (show 0 < n by omega)
    simp only at hA
    subst hA
    have hjl : (j : Int) < (n : Int) := by omega
    have hd1 : decide ((j : Int) < (n : Int)) = true := by simp; omega
    have hd2 : decide ((n : Int) ≤ (j : Int)) = false := by simp; omega
    have hd3 : decide (n ≤ j) = false := by simp; omega
    have hd4 : decide (j < n) = true := by simp; omega
    obtain ⟨q3, q4⟩ := k2 j hjn
    unfold itemAt at q1 q3
    unfold qtyAt at q2 q4
    rw [getD_app_l _ _ _ _ (by rw [hl.out]; exact hjn)] at q1 q2
    unfold strV at q1 q3
    generalize (⟨((l.getD j ([], 0)).1).toArray⟩ : ByteArray) = x at *
    generalize (l.getD j ([], 0)).2 = y at *
    clear k2
    go_wp2_with fail
    refine wp_region_segs (fun w' => w'.cell? ⟨g, j * 2, none⟩ = some (.string x) ∧ w'.cell? ⟨g, j * 2 + 1, none⟩ = some (.int .i64 y) ∧ w'.cell? ⟨b2, o2 + j * 2, none⟩ = some (.string x) ∧ w'.cell? ⟨b2, o2 + j * 2 + 1, none⟩ = some (.int .i64 y)) (segT [0, 1, 2, 3, 4, 5, 6, 7, 8, 9, 10, 11, 12, 13, 14, 15, 16, 17, 18, 19, 20, 21, 22, 23, 24, 25, 26, 27, 28, 29] ++ segF [30] ++ segT [31, 32, 33, 34]) mixed (by kernel_rfl) (fun _ _ _ _ _ h => h) ?_
    simp only [segT, segF, pickSegs, zF, List.map_nil, zG, zH, List.filterMap_cons, List.filterMap_nil, zI, zJ, Option.map_some]
    have hS : wr.drew.cell? ⟨g, j * 2, none⟩ = some (.string x) ∧ wr.drew.cell? ⟨g, j * 2 + 1, none⟩ = some (.int .i64 y) ∧ wr.drew.cell? ⟨b2, o2 + j * 2, none⟩ = some (.string x) ∧ wr.drew.cell? ⟨b2, o2 + j * 2 + 1, none⟩ = some (.int .i64 y) := ⟨q1, q2, q3, q4⟩
    iterate 22 (refine wpSegs_take (v := ?_) hS rfl (fun w' hw => ?_) ?_; rotate_left; (focus (obtain ⟨hw0, hw1, hw2, hw3⟩ := hw; go_simp; (try with_reducible rfl); done)); try simp only [Act.put, zA, zB, zC])
    iterate 8 (refine wpSegs_skip hS rfl ?_; try simp only [Act.put, zA, zB, zC])
    refine wpSegs_runSkip hS rfl ?_
    try simp only [Act.put, zA, zB, zC]
    iterate 2 (refine wpSegs_skip hS rfl ?_; try simp only [Act.put, zA, zB, zC])
    iterate 2 (refine wpSegs_take (v := ?_) hS rfl (fun w' hw => ?_) ?_; rotate_left; (focus (obtain ⟨hw0, hw1, hw2, hw3⟩ := hw; go_simp; (try with_reducible rfl); done)); try simp only [Act.put, zA, zB, zC])
    refine wpSegs_nil ?_
    clear hS
    have t3 := hZ (Turned.refl (fun _ => False) wr).drew
    generalize wr.drew = w3 at *
    go_wp2_with fail
    go_roundw
    case rel =>
     first
     | exact ⟨j + 1, by omega, by go_num, hT.out.and_ t3.out⟩
     | ((repeat apply Exists.intro); exact ⟨⟨j + 1, by omega, by go_num, hT.out.and_ t3.out⟩, rfl⟩)
    case measure => simp [intOf]; omega
   ·obtain ⟨i, hi⟩ : ∃ i : Nat, j = n + i := ⟨j - n, by omega⟩
    have hd1 : decide ((j : Int) < (n : Int)) = false := by simp; omega
    have hd2 : decide ((n : Int) ≤ (j : Int)) = true := by simp; omega
    have hd3 : decide (n ≤ j) = true := by simp; omega
    have hd4 : decide (j < n) = false := by simp; omega
    have hnj : (n : Int) ≤ (j : Int) := by omega
    unfold itemAt at q1
    unfold qtyAt at q2
    rw [marksQ_at l 1 12 i j (by rw [hl.out]; omega) (by omega)] at q1 q2
    unfold strV mkQ at q1
    unfold mkQ at q2
    simp only at q1 q2
    have hsub : IntKind.i64.wrap ((j : Int) - (n : Int)) = (i : Int) := by rw [show (j : Int) - (n : Int) = (i : Int) by omega]; exact IntWalk.i64_in _ (by omega)
    have hsub2 : (j : Int) - (n : Int) = (i : Int) := by omega
    have hi12 : (i : Int) < 12 := by omega
    have hsub3 : IntKind.i64.wrap (i : Int) = (i : Int) := IntWalk.i64_in _ (by omega)
    have hij := hZ hi
    clear hi
    go_wp2_with fail
    refine wp_region_segs (fun w' => w'.cell? ⟨g, j * 2, none⟩ = some (.string ⟨#[]⟩) ∧ w'.cell? ⟨g, j * 2 + 1, none⟩ = some (.int .i64 (1000003 * (1 + 7) + (i : Int)))) (segT [0, 1, 2, 3, 4, 5, 6, 7, 8, 9, 10, 11, 12, 13, 14, 15, 16, 17, 18, 19, 20, 21, 22, 23, 24, 25, 26, 27, 28, 29] ++ segF [30] ++ segT [31, 32, 33, 34]) mixed (by kernel_rfl) (fun _ _ _ _ _ h => h) ?_
    simp only [segT, segF, pickSegs, zF, List.map_nil, zG, zH, List.filterMap_cons, List.filterMap_nil, zI, zJ, Option.map_some]
    have hS : wr.drew.cell? ⟨g, j * 2, none⟩ = some (.string ⟨#[]⟩) ∧ wr.drew.cell? ⟨g, j * 2 + 1, none⟩ = some (.int .i64 (1000003 * (1 + 7) + (i : Int))) := ⟨q1, q2⟩
    iterate 5 (refine wpSegs_take (v := ?_) hS rfl (fun w' hw => ?_) ?_; rotate_left; (focus (obtain ⟨hw0, hw1⟩ := hw; go_simp; (try with_reducible rfl); done)); try simp only [Act.put, zA, zB, zC])
    iterate 10 (refine wpSegs_skip hS rfl ?_; try simp only [Act.put, zA, zB, zC])
    iterate 15 (refine wpSegs_take (v := ?_) hS rfl (fun w' hw => ?_) ?_; rotate_left; (focus (obtain ⟨hw0, hw1⟩ := hw; go_simp; (try with_reducible rfl); done)); try simp only [Act.put, zA, zB, zC])
    refine wpSegs_run rfl (fun K hK => ?_)
    go_simp
    refine (mkQ_any 1 (i : Int) _ (by omega) (by omega) (by omega) (by omega)).mono ?_
    rintro e w3 ⟨rfl, t3⟩
    have hS2 : w3.cell? ⟨g, j * 2, none⟩ = some (.string ⟨#[]⟩) ∧ w3.cell? ⟨g, j * 2 + 1, none⟩ = some (.int .i64 (1000003 * (1 + 7) + (i : Int))) := ⟨cell_turned t3 hS.1 (fun e => e), cell_turned t3 hS.2 (fun e => e)⟩
    refine hK.out _ _ hS2 ?_
    clear hK K hS
    have hS := hS2
    clear hS2
    have t3 := hZ (((Turned.refl (fun _ => False) wr).drew).and_ t3)
    iterate 4 (refine wpSegs_take (v := ?_) hS rfl (fun w' hw => ?_) ?_; rotate_left; (focus (obtain ⟨hw0, hw1⟩ := hw; go_simp; (try with_reducible rfl); done)); try simp only [Act.put, zA, zB, zC])
    refine wpSegs_nil ?_
    clear hS
    go_wp2_with fail
    go_roundw
    case rel =>
     first
     | exact ⟨j + 1, by omega, by go_num, hT.out.and_ t3.out⟩
     | ((repeat apply Exists.intro); exact ⟨⟨j + 1, by omega, by go_num, hT.out.and_ t3.out⟩, rfl⟩)
    case measure => simp [intOf]; omega
  ·have hge : (n : Int) + 12 ≤ (j : Int) := by omega
   go_wp2
   go_ret
   exact ⟨rfl, hT.out⟩
end Go.Proofs.YtglojnmcbochaaaGreatDoor

