/-
 The document's Right (storemanref13): whether a command is right. No condition but numbers.
-/
import Derived.Test.YtglojnmcbochaaaGreatDoorUAskEh
import Derived.Test.YtglojnmcbochaaaGreatDoorURegD
import Derived.StillTailTactics
import Derived.Deep.CutRange
namespace Go.Proofs.YtglojnmcbochaaaGreatDoor
open Go.RowKit Go.Maps
set_option linter.unusedVariables false
set_option linter.unusedSimpArgs false

set_option maxRecDepth 100000 in
set_option maxHeartbeats 8000000 in
theorem rright_3 (a : AskV) (S : AskS) (w : World) (hI : AskIs w a S) (hOk : a.Ok) (hf : fieldsK a.kind = some [105, 113]) : Calls Tryz.prog 79 #[.agg (askC a S)] w (RetNew (.bool (rightA a)) w) := by
 have mixed : Tryz.prog.follows .mixedOrders = true := by kernel_rfl
 have hF := hZ (fun (w' : World) => rfields_any a.kind w' hOk.kind)
 rw [fields_some hf] at hF
 have hfk := fieldsK_kinds hf
 have hH := hZ (fun (z : Int) (hz : isByte z) (w' : World) => hasZ_any [105, 113] hfk z hz w')
 have e105 : hasZ [105, 113] 105 = true := rfl
 have e113 : hasZ [105, 113] 113 = true := rfl
 have e100 : hasZ [105, 113] 100 = false := rfl
 have e108 : hasZ [105, 113] 108 = false := rfl
 have e114 : hasZ [105, 113] 114 = false := rfl
 have e116 : hasZ [105, 113] 116 = false := rfl
 have e110 : hasZ [105, 113] 110 = false := rfl
 have e112 : hasZ [105, 113] 112 = false := rfl
 have e111 : hasZ [105, 113] 111 = false := rfl
 generalize hasZ [105, 113] = hz at *
 have hPp := hZ (fun (w' : World) (t : Turned (fun _ => False) w w') => rparts_any S.P a.parts w' (hI.parts.fresh t) (fun p hp => (hOk.parts p hp).1))
 have hOo := hZ (fun (w' : World) (t : Turned (fun _ => False) w w') => rothers_any S.O a.others a.item w' (hI.others.fresh t) hOk.others)
 have hCr := hZ (fun (w' : World) => rcode_right_any a.item w' hOk.item)
 have hPl := hI.parts.len
 have hOl := hI.others.len
 have hPmx := Nat.le_trans hI.parts.le hI.parts.max
 have hOmx := Nat.le_trans hI.others.le hI.others.max
 unfold maxLen at hPmx hOmx
 have TT := hZ ((Turned.refl (fun _ => False) w).alloc (.cells (askC a S) 28))
 have A1 := hZ (show AskAt _ _ a S from Blk.new w 28 (askC a S))
 obtain ⟨kind, request, item, qty, day, days, rank, lot, line, parts, others⟩ := a
 obtain ⟨⟨PA, Pn, Pc⟩, ⟨OA, On, Oc⟩⟩ := S
 have hE := hZ (show rightA ⟨kind, request, item, qty, day, days, rank, lot, line, parts, others⟩ = (withinB request 0 4611686018427387904 && (codeL item && (withinB qty 1 1073741824 && (decide (day = 0) && (decide (days = 0) && (decide (rank = 0) && (decide (lot = 0) && (decide (line = 0) && (decide (parts = []) && (decide (others = []))))))))))) from by
  unfold rightA
  rw [hf]
  simp only [letters, List.all_cons, List.all_nil, Bool.and_true]
  rfl)
 clear hI hOk hf hfk
 simp only at hF hPl hOl hPmx hOmx
 have hp0 : (decide (parts = []) : Bool) = decide (Pn = 0) := by rw [← hPl]; simp only [decide_eq_decide, List.length_eq_zero_iff]
 have ho0 : (decide (others = []) : Bool) = decide (On = 0) := by rw [← hOl]; simp only [decide_eq_decide, List.length_eq_zero_iff]
 rw [hp0] at hE
 rw [ho0] at hE
 clear hp0 ho0 hPl hOl
 unfold askC strV at TT ⊢
 simp only at TT ⊢
 generalize fBA [105, 113] = fs at *
 generalize hcd : codeL item = cd at *
 generalize partsB parts = pb at *
 generalize othersB others item = ob at *
 have hse := hZ (fun (e : ¬ item = []) => ba_ne (s := ⟨item.toArray⟩) (by show 0 < item.toArray.size; rw [List.size_toArray]; exact List.length_pos_iff.2 e))
 go_enter Tryz.func79, Tryz.ntmps79
 go_wp2_with fail
 refine (hF.out _).mono ?_
 rintro e w9 ⟨rfl, rfl⟩
 obtain ⟨w1, hw1⟩ : ∃ w1, w1 = w.alloc (.cells #[.int .u8 kind, .int .i64 request, .string ⟨item.toArray⟩, .int .i64 qty, .int .i64 day, .int .i64 days, .int .i64 rank, .int .i64 lot, .int .i64 line, .slice PA Pn Pc, .slice OA On Oc] 28) := ⟨_, rfl⟩
 rw [← hw1] at TT ⊢
 have A1 : Hid (AskAt w1 w.heap.size ⟨kind, request, item, qty, day, days, rank, lot, line, parts, others⟩ ⟨⟨PA, Pn, Pc⟩, ⟨OA, On, Oc⟩⟩) := by rw [hw1]; exact A1
 generalize w.heap.size = ba at *
 clear hw1
 obtain ⟨c0, c1, c2, c3, c4, c5, c6, c7, c8, c9, c10⟩ := A1.out.cells
 simp only at c0 c1 c2 c3 c4 c5 c6 c7 c8 c9 c10
 by_cases hq1 : request < 0
 ·go_wp2_with fail
  all_goals
   go_ret
   refine ⟨ret_bool ?_, TT.out⟩
   rw [hE.out]
   (symm; apply Bool.eq_false_iff.2; intro hh; simp only [withinB, zD, zE] at hh; (try simp only [bne_iff_ne, ne_eq] at *); omega)
 by_cases hq2 : 4611686018427387904 < request
 ·have hq1i : (0 : Int) ≤ request := by omega
  go_wp2_with fail
  all_goals
   go_ret
   refine ⟨ret_bool ?_, TT.out⟩
   rw [hE.out]
   (symm; apply Bool.eq_false_iff.2; intro hh; simp only [withinB, zD, zE] at hh; (try simp only [bne_iff_ne, ne_eq] at *); omega)
 have hq1i : (0 : Int) ≤ request := by omega
 have hq2i : request ≤ 4611686018427387904 := by omega
 go_upto_region 4 with fail
 by_cases hit : item = []
 ·have hc0 : cd = false := by rw [← hcd, hit]; rfl
  subst hc0 hit
  clear hse
  refine wp_region_segs (fun w' => AskAt w' ba ⟨kind, request, [], qty, day, days, rank, lot, line, parts, others⟩ ⟨⟨PA, Pn, Pc⟩, ⟨OA, On, Oc⟩⟩) (segT [0, 2, 3, 4] ++ segF [1] ++ segT [5, 6, 7, 8, 9, 10, 11, 12] ++ segF [13] ++ segT [14, 15, 16]) mixed (by kernel_rfl) (fun _ _ _ _ _ h => h) ?_
  simp only [segT, segF, pickSegs, zF, List.map_nil, zG, zH, List.filterMap_cons, List.filterMap_nil, zI, zJ, Option.map_some]
  have hS := AskAt.fresh A1.out ((Turned.refl (fun _ => False) w1).drew)
  iterate 4 (refine wpSegs_take (v := ?_) hS rfl (fun w' hw => ?_) ?_; rotate_left; (obtain ⟨c0, c1, c2, c3, c4, c5, c6, c7, c8, c9, c10⟩ := AskAt.cells hw; simp only at c0 c1 c2 c3 c4 c5 c6 c7 c8 c9 c10; go_simp; try with_reducible rfl); (try simp only [Act.put, zA, zB, zC]))
  refine wpSegs_run rfl (fun K hK => ?_)
  go_simp
  refine (hH.out 105 (by unfold isByte; decide) _).mono ?_
  rintro e w9 ⟨rfl, rfl⟩
  rw [e105]
  refine hK.out _ _ hS ?_
  clear hK K
  iterate 2 (refine wpSegs_take (v := ?_) hS rfl (fun w' hw => ?_) ?_; rotate_left; (obtain ⟨c0, c1, c2, c3, c4, c5, c6, c7, c8, c9, c10⟩ := AskAt.cells hw; simp only at c0 c1 c2 c3 c4 c5 c6 c7 c8 c9 c10; go_simp; try with_reducible rfl); (try simp only [Act.put, zA, zB, zC]))
  iterate 6 (refine wpSegs_skip hS rfl ?_; (try simp only [Act.put, zA, zB, zC]))
  (refine wpSegs_runSkip hS rfl ?_; (try simp only [Act.put, zA, zB, zC]))
  iterate 2 (refine wpSegs_skip hS rfl ?_; (try simp only [Act.put, zA, zB, zC]))
  (refine wpSegs_take (v := ?_) hS rfl (fun w' hw => ?_) ?_; rotate_left; (obtain ⟨c0, c1, c2, c3, c4, c5, c6, c7, c8, c9, c10⟩ := AskAt.cells hw; simp only at c0 c1 c2 c3 c4 c5 c6 c7 c8 c9 c10; go_simp; try with_reducible rfl); (try simp only [Act.put, zA, zB, zC]))
  refine wpSegs_nil ?_
  have A2 := hZ hS
  clear hS
  skip
  go_wp2_with fail
  have TT := hZ TT.out.drew
  all_goals
   go_ret
   refine ⟨ret_bool ?_, TT.out⟩
   rw [hE.out]
   (symm; apply Bool.eq_false_iff.2; intro hh; simp only [withinB, zD, zE] at hh; (try simp only [bne_iff_ne, ne_eq] at *); simp_all; done)
 ·obtain ⟨hse1, hse2⟩ := hse.out hit
  have hse3 : item.isEmpty = false := by cases item with
   | nil => exact absurd rfl hit
   | cons x r => rfl
  clear hse
  cases cd with
  | false =>
   refine wp_region_segs (fun w' => AskAt w' ba ⟨kind, request, item, qty, day, days, rank, lot, line, parts, others⟩ ⟨⟨PA, Pn, Pc⟩, ⟨OA, On, Oc⟩⟩) (segT [0, 2, 3, 4] ++ segF [1] ++ segT [5, 6, 7, 8, 9, 10, 11, 12] ++ segF [13] ++ segT [14, 15, 16]) mixed (by kernel_rfl) (fun _ _ _ _ _ h => h) ?_
   simp only [segT, segF, pickSegs, zF, List.map_nil, zG, zH, List.filterMap_cons, List.filterMap_nil, zI, zJ, Option.map_some]
   have hS := AskAt.fresh A1.out ((Turned.refl (fun _ => False) w1).drew)
   iterate 4 (refine wpSegs_take (v := ?_) hS rfl (fun w' hw => ?_) ?_; rotate_left; (obtain ⟨c0, c1, c2, c3, c4, c5, c6, c7, c8, c9, c10⟩ := AskAt.cells hw; simp only at c0 c1 c2 c3 c4 c5 c6 c7 c8 c9 c10; go_simp; try with_reducible rfl); (try simp only [Act.put, zA, zB, zC]))
   refine wpSegs_run rfl (fun K hK => ?_)
   go_simp
   refine (hH.out 105 (by unfold isByte; decide) _).mono ?_
   rintro e w9 ⟨rfl, rfl⟩
   rw [e105]
   refine hK.out _ _ hS ?_
   clear hK K
   iterate 8 (refine wpSegs_take (v := ?_) hS rfl (fun w' hw => ?_) ?_; rotate_left; (obtain ⟨c0, c1, c2, c3, c4, c5, c6, c7, c8, c9, c10⟩ := AskAt.cells hw; simp only at c0 c1 c2 c3 c4 c5 c6 c7 c8 c9 c10; go_simp; try with_reducible rfl); (try simp only [Act.put, zA, zB, zC]))
   refine wpSegs_run rfl (fun K hK => ?_)
   go_simp
   refine (hCr.out _).mono ?_
   rintro e w9 ⟨rfl, rfl⟩
   refine hK.out _ _ hS ?_
   clear hK K
   iterate 3 (refine wpSegs_take (v := ?_) hS rfl (fun w' hw => ?_) ?_; rotate_left; (obtain ⟨c0, c1, c2, c3, c4, c5, c6, c7, c8, c9, c10⟩ := AskAt.cells hw; simp only at c0 c1 c2 c3 c4 c5 c6 c7 c8 c9 c10; go_simp; try with_reducible rfl); (try simp only [Act.put, zA, zB, zC]))
   refine wpSegs_nil ?_
   have A2 := hZ hS
   clear hS
   skip
   go_wp2_with fail
   have TT := hZ TT.out.drew
   all_goals
    go_ret
    refine ⟨ret_bool ?_, TT.out⟩
    rw [hE.out]
    (symm; apply Bool.eq_false_iff.2; intro hh; simp only [withinB, zD, zE] at hh; (try simp only [bne_iff_ne, ne_eq] at *); simp_all; done)
  | true =>
   refine wp_region_segs (fun w' => AskAt w' ba ⟨kind, request, item, qty, day, days, rank, lot, line, parts, others⟩ ⟨⟨PA, Pn, Pc⟩, ⟨OA, On, Oc⟩⟩) (segT [0, 2, 3, 4] ++ segF [1] ++ segT [5, 6, 7, 8, 9, 10, 11, 12] ++ segF [13] ++ segT [14, 15, 16]) mixed (by kernel_rfl) (fun _ _ _ _ _ h => h) ?_
   simp only [segT, segF, pickSegs, zF, List.map_nil, zG, zH, List.filterMap_cons, List.filterMap_nil, zI, zJ, Option.map_some]
   have hS := AskAt.fresh A1.out ((Turned.refl (fun _ => False) w1).drew)
   iterate 4 (refine wpSegs_take (v := ?_) hS rfl (fun w' hw => ?_) ?_; rotate_left; (obtain ⟨c0, c1, c2, c3, c4, c5, c6, c7, c8, c9, c10⟩ := AskAt.cells hw; simp only at c0 c1 c2 c3 c4 c5 c6 c7 c8 c9 c10; go_simp; try with_reducible rfl); (try simp only [Act.put, zA, zB, zC]))
   refine wpSegs_run rfl (fun K hK => ?_)
   go_simp
   refine (hH.out 105 (by unfold isByte; decide) _).mono ?_
   rintro e w9 ⟨rfl, rfl⟩
   rw [e105]
   refine hK.out _ _ hS ?_
   clear hK K
   iterate 8 (refine wpSegs_take (v := ?_) hS rfl (fun w' hw => ?_) ?_; rotate_left; (obtain ⟨c0, c1, c2, c3, c4, c5, c6, c7, c8, c9, c10⟩ := AskAt.cells hw; simp only at c0 c1 c2 c3 c4 c5 c6 c7 c8 c9 c10; go_simp; try with_reducible rfl); (try simp only [Act.put, zA, zB, zC]))
   refine wpSegs_run rfl (fun K hK => ?_)
   go_simp
   refine (hCr.out _).mono ?_
   rintro e w9 ⟨rfl, rfl⟩
   refine hK.out _ _ hS ?_
   clear hK K
   iterate 3 (refine wpSegs_take (v := ?_) hS rfl (fun w' hw => ?_) ?_; rotate_left; (obtain ⟨c0, c1, c2, c3, c4, c5, c6, c7, c8, c9, c10⟩ := AskAt.cells hw; simp only at c0 c1 c2 c3 c4 c5 c6 c7 c8 c9 c10; go_simp; try with_reducible rfl); (try simp only [Act.put, zA, zB, zC]))
   refine wpSegs_nil ?_
   have A2 := hZ hS
   clear hS
   skip
   have TT := hZ TT.out.drew
   obtain ⟨w2, hw2⟩ : ∃ w2, w2 = w1.drew := ⟨_, rfl⟩
   rw [← hw2] at TT A2 ⊢
   clear c0 c1 c2 c3 c4 c5 c6 c7 c8 c9 c10 A1
   obtain ⟨c0, c1, c2, c3, c4, c5, c6, c7, c8, c9, c10⟩ := A2.out.cells
   simp only at c0 c1 c2 c3 c4 c5 c6 c7 c8 c9 c10
   clear hw2
   go_wp2_with (first | (go_at_call 108; refine (hH.out _ (by unfold isByte; decide) _).mono ?_; rintro e w9 ⟨rfl, rfl⟩))
   all_goals
    go_ret
    refine ⟨ret_bool ?_, TT.out⟩
    rw [hE.out]
    first
    | (symm; apply Bool.eq_false_iff.2; intro hh; simp only [withinB, zD, zE] at hh; (try simp only [bne_iff_ne, ne_eq] at *); omega)
    | (simp only [withinB] at *; grind)
set_option maxRecDepth 100000 in
set_option maxHeartbeats 8000000 in
theorem rright_4 (a : AskV) (S : AskS) (w : World) (hI : AskIs w a S) (hOk : a.Ok) (hf : fieldsK a.kind = some [105, 113, 100]) : Calls Tryz.prog 79 #[.agg (askC a S)] w (RetNew (.bool (rightA a)) w) := by
 have mixed : Tryz.prog.follows .mixedOrders = true := by kernel_rfl
 have hF := hZ (fun (w' : World) => rfields_any a.kind w' hOk.kind)
 rw [fields_some hf] at hF
 have hfk := fieldsK_kinds hf
 have hH := hZ (fun (z : Int) (hz : isByte z) (w' : World) => hasZ_any [105, 113, 100] hfk z hz w')
 have e105 : hasZ [105, 113, 100] 105 = true := rfl
 have e113 : hasZ [105, 113, 100] 113 = true := rfl
 have e100 : hasZ [105, 113, 100] 100 = true := rfl
 have e108 : hasZ [105, 113, 100] 108 = false := rfl
 have e114 : hasZ [105, 113, 100] 114 = false := rfl
 have e116 : hasZ [105, 113, 100] 116 = false := rfl
 have e110 : hasZ [105, 113, 100] 110 = false := rfl
 have e112 : hasZ [105, 113, 100] 112 = false := rfl
 have e111 : hasZ [105, 113, 100] 111 = false := rfl
 generalize hasZ [105, 113, 100] = hz at *
 have hPp := hZ (fun (w' : World) (t : Turned (fun _ => False) w w') => rparts_any S.P a.parts w' (hI.parts.fresh t) (fun p hp => (hOk.parts p hp).1))
 have hOo := hZ (fun (w' : World) (t : Turned (fun _ => False) w w') => rothers_any S.O a.others a.item w' (hI.others.fresh t) hOk.others)
 have hCr := hZ (fun (w' : World) => rcode_right_any a.item w' hOk.item)
 have hPl := hI.parts.len
 have hOl := hI.others.len
 have hPmx := Nat.le_trans hI.parts.le hI.parts.max
 have hOmx := Nat.le_trans hI.others.le hI.others.max
 unfold maxLen at hPmx hOmx
 have TT := hZ ((Turned.refl (fun _ => False) w).alloc (.cells (askC a S) 28))
 have A1 := hZ (show AskAt _ _ a S from Blk.new w 28 (askC a S))
 obtain ⟨kind, request, item, qty, day, days, rank, lot, line, parts, others⟩ := a
 obtain ⟨⟨PA, Pn, Pc⟩, ⟨OA, On, Oc⟩⟩ := S
 have hE := hZ (show rightA ⟨kind, request, item, qty, day, days, rank, lot, line, parts, others⟩ = (withinB request 0 4611686018427387904 && (codeL item && (withinB qty 1 1073741824 && (withinB day 0 4000 && (decide (days = 0) && (decide (rank = 0) && (decide (lot = 0) && (decide (line = 0) && (decide (parts = []) && (decide (others = []))))))))))) from by
  unfold rightA
  rw [hf]
  simp only [letters, List.all_cons, List.all_nil, Bool.and_true]
  rfl)
 clear hI hOk hf hfk
 simp only at hF hPl hOl hPmx hOmx
 have hp0 : (decide (parts = []) : Bool) = decide (Pn = 0) := by rw [← hPl]; simp only [decide_eq_decide, List.length_eq_zero_iff]
 have ho0 : (decide (others = []) : Bool) = decide (On = 0) := by rw [← hOl]; simp only [decide_eq_decide, List.length_eq_zero_iff]
 rw [hp0] at hE
 rw [ho0] at hE
 clear hp0 ho0 hPl hOl
 unfold askC strV at TT ⊢
 simp only at TT ⊢
 generalize fBA [105, 113, 100] = fs at *
 generalize hcd : codeL item = cd at *
 generalize partsB parts = pb at *
 generalize othersB others item = ob at *
 have hse := hZ (fun (e : ¬ item = []) => ba_ne (s := ⟨item.toArray⟩) (by show 0 < item.toArray.size; rw [List.size_toArray]; exact List.length_pos_iff.2 e))
 go_enter Tryz.func79, Tryz.ntmps79
 go_wp2_with fail
 refine (hF.out _).mono ?_
 rintro e w9 ⟨rfl, rfl⟩
 obtain ⟨w1, hw1⟩ : ∃ w1, w1 = w.alloc (.cells #[.int .u8 kind, .int .i64 request, .string ⟨item.toArray⟩, .int .i64 qty, .int .i64 day, .int .i64 days, .int .i64 rank, .int .i64 lot, .int .i64 line, .slice PA Pn Pc, .slice OA On Oc] 28) := ⟨_, rfl⟩
 rw [← hw1] at TT ⊢
 have A1 : Hid (AskAt w1 w.heap.size ⟨kind, request, item, qty, day, days, rank, lot, line, parts, others⟩ ⟨⟨PA, Pn, Pc⟩, ⟨OA, On, Oc⟩⟩) := by rw [hw1]; exact A1
 generalize w.heap.size = ba at *
 clear hw1
 obtain ⟨c0, c1, c2, c3, c4, c5, c6, c7, c8, c9, c10⟩ := A1.out.cells
 simp only at c0 c1 c2 c3 c4 c5 c6 c7 c8 c9 c10
 by_cases hq1 : request < 0
 ·go_wp2_with fail
  all_goals
   go_ret
   refine ⟨ret_bool ?_, TT.out⟩
   rw [hE.out]
   (symm; apply Bool.eq_false_iff.2; intro hh; simp only [withinB, zD, zE] at hh; (try simp only [bne_iff_ne, ne_eq] at *); omega)
 by_cases hq2 : 4611686018427387904 < request
 ·have hq1i : (0 : Int) ≤ request := by omega
  go_wp2_with fail
  all_goals
   go_ret
   refine ⟨ret_bool ?_, TT.out⟩
   rw [hE.out]
   (symm; apply Bool.eq_false_iff.2; intro hh; simp only [withinB, zD, zE] at hh; (try simp only [bne_iff_ne, ne_eq] at *); omega)
 have hq1i : (0 : Int) ≤ request := by omega
 have hq2i : request ≤ 4611686018427387904 := by omega
 go_upto_region 4 with fail
 by_cases hit : item = []
 ·have hc0 : cd = false := by rw [← hcd, hit]; rfl
  subst hc0 hit
  clear hse
  refine wp_region_segs (fun w' => AskAt w' ba ⟨kind, request, [], qty, day, days, rank, lot, line, parts, others⟩ ⟨⟨PA, Pn, Pc⟩, ⟨OA, On, Oc⟩⟩) (segT [0, 2, 3, 4] ++ segF [1] ++ segT [5, 6, 7, 8, 9, 10, 11, 12] ++ segF [13] ++ segT [14, 15, 16]) mixed (by kernel_rfl) (fun _ _ _ _ _ h => h) ?_
  simp only [segT, segF, pickSegs, zF, List.map_nil, zG, zH, List.filterMap_cons, List.filterMap_nil, zI, zJ, Option.map_some]
  have hS := AskAt.fresh A1.out ((Turned.refl (fun _ => False) w1).drew)
  iterate 4 (refine wpSegs_take (v := ?_) hS rfl (fun w' hw => ?_) ?_; rotate_left; (obtain ⟨c0, c1, c2, c3, c4, c5, c6, c7, c8, c9, c10⟩ := AskAt.cells hw; simp only at c0 c1 c2 c3 c4 c5 c6 c7 c8 c9 c10; go_simp; try with_reducible rfl); (try simp only [Act.put, zA, zB, zC]))
  refine wpSegs_run rfl (fun K hK => ?_)
  go_simp
  refine (hH.out 105 (by unfold isByte; decide) _).mono ?_
  rintro e w9 ⟨rfl, rfl⟩
  rw [e105]
  refine hK.out _ _ hS ?_
  clear hK K
  iterate 2 (refine wpSegs_take (v := ?_) hS rfl (fun w' hw => ?_) ?_; rotate_left; (obtain ⟨c0, c1, c2, c3, c4, c5, c6, c7, c8, c9, c10⟩ := AskAt.cells hw; simp only at c0 c1 c2 c3 c4 c5 c6 c7 c8 c9 c10; go_simp; try with_reducible rfl); (try simp only [Act.put, zA, zB, zC]))
  iterate 6 (refine wpSegs_skip hS rfl ?_; (try simp only [Act.put, zA, zB, zC]))
  (refine wpSegs_runSkip hS rfl ?_; (try simp only [Act.put, zA, zB, zC]))
  iterate 2 (refine wpSegs_skip hS rfl ?_; (try simp only [Act.put, zA, zB, zC]))
  (refine wpSegs_take (v := ?_) hS rfl (fun w' hw => ?_) ?_; rotate_left; (obtain ⟨c0, c1, c2, c3, c4, c5, c6, c7, c8, c9, c10⟩ := AskAt.cells hw; simp only at c0 c1 c2 c3 c4 c5 c6 c7 c8 c9 c10; go_simp; try with_reducible rfl); (try simp only [Act.put, zA, zB, zC]))
  refine wpSegs_nil ?_
  have A2 := hZ hS
  clear hS
  skip
  go_wp2_with fail
  have TT := hZ TT.out.drew
  all_goals
   go_ret
   refine ⟨ret_bool ?_, TT.out⟩
   rw [hE.out]
   (symm; apply Bool.eq_false_iff.2; intro hh; simp only [withinB, zD, zE] at hh; (try simp only [bne_iff_ne, ne_eq] at *); simp_all; done)
 ·obtain ⟨hse1, hse2⟩ := hse.out hit
  have hse3 : item.isEmpty = false := by cases item with
   | nil => exact absurd rfl hit
   | cons x r => rfl
  clear hse
  cases cd with
  | false =>
   refine wp_region_segs (fun w' => AskAt w' ba ⟨kind, request, item, qty, day, days, rank, lot, line, parts, others⟩ ⟨⟨PA, Pn, Pc⟩, ⟨OA, On, Oc⟩⟩) (segT [0, 2, 3, 4] ++ segF [1] ++ segT [5, 6, 7, 8, 9, 10, 11, 12] ++ segF [13] ++ segT [14, 15, 16]) mixed (by kernel_rfl) (fun _ _ _ _ _ h => h) ?_
   simp only [segT, segF, pickSegs, zF, List.map_nil, zG, zH, List.filterMap_cons, List.filterMap_nil, zI, zJ, Option.map_some]
   have hS := AskAt.fresh A1.out ((Turned.refl (fun _ => False) w1).drew)
   iterate 4 (refine wpSegs_take (v := ?_) hS rfl (fun w' hw => ?_) ?_; rotate_left; (obtain ⟨c0, c1, c2, c3, c4, c5, c6, c7, c8, c9, c10⟩ := AskAt.cells hw; simp only at c0 c1 c2 c3 c4 c5 c6 c7 c8 c9 c10; go_simp; try with_reducible rfl); (try simp only [Act.put, zA, zB, zC]))
   refine wpSegs_run rfl (fun K hK => ?_)
   go_simp
   refine (hH.out 105 (by unfold isByte; decide) _).mono ?_
   rintro e w9 ⟨rfl, rfl⟩
   rw [e105]
   refine hK.out _ _ hS ?_
   clear hK K
   iterate 8 (refine wpSegs_take (v := ?_) hS rfl (fun w' hw => ?_) ?_; rotate_left; (obtain ⟨c0, c1, c2, c3, c4, c5, c6, c7, c8, c9, c10⟩ := AskAt.cells hw; simp only at c0 c1 c2 c3 c4 c5 c6 c7 c8 c9 c10; go_simp; try with_reducible rfl); (try simp only [Act.put, zA, zB, zC]))
   refine wpSegs_run rfl (fun K hK => ?_)
   go_simp
   refine (hCr.out _).mono ?_
   rintro e w9 ⟨rfl, rfl⟩
   refine hK.out _ _ hS ?_
   clear hK K
   iterate 3 (refine wpSegs_take (v := ?_) hS rfl (fun w' hw => ?_) ?_; rotate_left; (obtain ⟨c0, c1, c2, c3, c4, c5, c6, c7, c8, c9, c10⟩ := AskAt.cells hw; simp only at c0 c1 c2 c3 c4 c5 c6 c7 c8 c9 c10; go_simp; try with_reducible rfl); (try simp only [Act.put, zA, zB, zC]))
   refine wpSegs_nil ?_
   have A2 := hZ hS
   clear hS
   skip
   go_wp2_with fail
   have TT := hZ TT.out.drew
   all_goals
    go_ret
    refine ⟨ret_bool ?_, TT.out⟩
    rw [hE.out]
    (symm; apply Bool.eq_false_iff.2; intro hh; simp only [withinB, zD, zE] at hh; (try simp only [bne_iff_ne, ne_eq] at *); simp_all; done)
  | true =>
   refine wp_region_segs (fun w' => AskAt w' ba ⟨kind, request, item, qty, day, days, rank, lot, line, parts, others⟩ ⟨⟨PA, Pn, Pc⟩, ⟨OA, On, Oc⟩⟩) (segT [0, 2, 3, 4] ++ segF [1] ++ segT [5, 6, 7, 8, 9, 10, 11, 12] ++ segF [13] ++ segT [14, 15, 16]) mixed (by kernel_rfl) (fun _ _ _ _ _ h => h) ?_
   simp only [segT, segF, pickSegs, zF, List.map_nil, zG, zH, List.filterMap_cons, List.filterMap_nil, zI, zJ, Option.map_some]
   have hS := AskAt.fresh A1.out ((Turned.refl (fun _ => False) w1).drew)
   iterate 4 (refine wpSegs_take (v := ?_) hS rfl (fun w' hw => ?_) ?_; rotate_left; (obtain ⟨c0, c1, c2, c3, c4, c5, c6, c7, c8, c9, c10⟩ := AskAt.cells hw; simp only at c0 c1 c2 c3 c4 c5 c6 c7 c8 c9 c10; go_simp; try with_reducible rfl); (try simp only [Act.put, zA, zB, zC]))
   refine wpSegs_run rfl (fun K hK => ?_)
   go_simp
   refine (hH.out 105 (by unfold isByte; decide) _).mono ?_
   rintro e w9 ⟨rfl, rfl⟩
   rw [e105]
   refine hK.out _ _ hS ?_
   clear hK K
   iterate 8 (refine wpSegs_take (v := ?_) hS rfl (fun w' hw => ?_) ?_; rotate_left; (obtain ⟨c0, c1, c2, c3, c4, c5, c6, c7, c8, c9, c10⟩ := AskAt.cells hw; simp only at c0 c1 c2 c3 c4 c5 c6 c7 c8 c9 c10; go_simp; try with_reducible rfl); (try simp only [Act.put, zA, zB, zC]))
   refine wpSegs_run rfl (fun K hK => ?_)
   go_simp
   refine (hCr.out _).mono ?_
   rintro e w9 ⟨rfl, rfl⟩
   refine hK.out _ _ hS ?_
   clear hK K
   iterate 3 (refine wpSegs_take (v := ?_) hS rfl (fun w' hw => ?_) ?_; rotate_left; (obtain ⟨c0, c1, c2, c3, c4, c5, c6, c7, c8, c9, c10⟩ := AskAt.cells hw; simp only at c0 c1 c2 c3 c4 c5 c6 c7 c8 c9 c10; go_simp; try with_reducible rfl); (try simp only [Act.put, zA, zB, zC]))
   refine wpSegs_nil ?_
   have A2 := hZ hS
   clear hS
   skip
   have TT := hZ TT.out.drew
   obtain ⟨w2, hw2⟩ : ∃ w2, w2 = w1.drew := ⟨_, rfl⟩
   rw [← hw2] at TT A2 ⊢
   clear c0 c1 c2 c3 c4 c5 c6 c7 c8 c9 c10 A1
   obtain ⟨c0, c1, c2, c3, c4, c5, c6, c7, c8, c9, c10⟩ := A2.out.cells
   simp only at c0 c1 c2 c3 c4 c5 c6 c7 c8 c9 c10
   clear hw2
   go_wp2_with (first | (go_at_call 108; refine (hH.out _ (by unfold isByte; decide) _).mono ?_; rintro e w9 ⟨rfl, rfl⟩))
   all_goals
    go_ret
    refine ⟨ret_bool ?_, TT.out⟩
    rw [hE.out]
    first
    | (symm; apply Bool.eq_false_iff.2; intro hh; simp only [withinB, zD, zE] at hh; (try simp only [bne_iff_ne, ne_eq] at *); omega)
    | (simp only [withinB] at *; grind)
set_option maxRecDepth 100000 in
set_option maxHeartbeats 8000000 in
theorem rright_5 (a : AskV) (S : AskS) (w : World) (hI : AskIs w a S) (hOk : a.Ok) (hf : fieldsK a.kind = some [116, 100]) : Calls Tryz.prog 79 #[.agg (askC a S)] w (RetNew (.bool (rightA a)) w) := by
 have mixed : Tryz.prog.follows .mixedOrders = true := by kernel_rfl
 have hF := hZ (fun (w' : World) => rfields_any a.kind w' hOk.kind)
 rw [fields_some hf] at hF
 have hfk := fieldsK_kinds hf
 have hH := hZ (fun (z : Int) (hz : isByte z) (w' : World) => hasZ_any [116, 100] hfk z hz w')
 have e105 : hasZ [116, 100] 105 = false := rfl
 have e113 : hasZ [116, 100] 113 = false := rfl
 have e100 : hasZ [116, 100] 100 = true := rfl
 have e108 : hasZ [116, 100] 108 = false := rfl
 have e114 : hasZ [116, 100] 114 = false := rfl
 have e116 : hasZ [116, 100] 116 = true := rfl
 have e110 : hasZ [116, 100] 110 = false := rfl
 have e112 : hasZ [116, 100] 112 = false := rfl
 have e111 : hasZ [116, 100] 111 = false := rfl
 generalize hasZ [116, 100] = hz at *
 have hPp := hZ (fun (w' : World) (t : Turned (fun _ => False) w w') => rparts_any S.P a.parts w' (hI.parts.fresh t) (fun p hp => (hOk.parts p hp).1))
 have hOo := hZ (fun (w' : World) (t : Turned (fun _ => False) w w') => rothers_any S.O a.others a.item w' (hI.others.fresh t) hOk.others)
 have hCr := hZ (fun (w' : World) => rcode_right_any a.item w' hOk.item)
 have hPl := hI.parts.len
 have hOl := hI.others.len
 have hPmx := Nat.le_trans hI.parts.le hI.parts.max
 have hOmx := Nat.le_trans hI.others.le hI.others.max
 unfold maxLen at hPmx hOmx
 have TT := hZ ((Turned.refl (fun _ => False) w).alloc (.cells (askC a S) 28))
 have A1 := hZ (show AskAt _ _ a S from Blk.new w 28 (askC a S))
 obtain ⟨kind, request, item, qty, day, days, rank, lot, line, parts, others⟩ := a
 obtain ⟨⟨PA, Pn, Pc⟩, ⟨OA, On, Oc⟩⟩ := S
 have hE := hZ (show rightA ⟨kind, request, item, qty, day, days, rank, lot, line, parts, others⟩ = (withinB request 0 4611686018427387904 && (decide (item = []) && (decide (qty = 0) && (withinB day 0 4000 && (decide (days = 0) && (decide (rank = 0) && (decide (0 < lot) && (decide (line = 0) && (decide (parts = []) && (decide (others = []))))))))))) from by
  unfold rightA
  rw [hf]
  simp only [letters, List.all_cons, List.all_nil, Bool.and_true]
  rfl)
 clear hI hOk hf hfk
 simp only at hF hPl hOl hPmx hOmx
 have hp0 : (decide (parts = []) : Bool) = decide (Pn = 0) := by rw [← hPl]; simp only [decide_eq_decide, List.length_eq_zero_iff]
 have ho0 : (decide (others = []) : Bool) = decide (On = 0) := by rw [← hOl]; simp only [decide_eq_decide, List.length_eq_zero_iff]
 rw [hp0] at hE
 rw [ho0] at hE
 clear hp0 ho0 hPl hOl
 unfold askC strV at TT ⊢
 simp only at TT ⊢
 generalize fBA [116, 100] = fs at *
 generalize hcd : codeL item = cd at *
 generalize partsB parts = pb at *
 generalize othersB others item = ob at *
 have hse := hZ (fun (e : ¬ item = []) => ba_ne (s := ⟨item.toArray⟩) (by show 0 < item.toArray.size; rw [List.size_toArray]; exact List.length_pos_iff.2 e))
 go_enter Tryz.func79, Tryz.ntmps79
 go_wp2_with fail
 refine (hF.out _).mono ?_
 rintro e w9 ⟨rfl, rfl⟩
 obtain ⟨w1, hw1⟩ : ∃ w1, w1 = w.alloc (.cells #[.int .u8 kind, .int .i64 request, .string ⟨item.toArray⟩, .int .i64 qty, .int .i64 day, .int .i64 days, .int .i64 rank, .int .i64 lot, .int .i64 line, .slice PA Pn Pc, .slice OA On Oc] 28) := ⟨_, rfl⟩
 rw [← hw1] at TT ⊢
 have A1 : Hid (AskAt w1 w.heap.size ⟨kind, request, item, qty, day, days, rank, lot, line, parts, others⟩ ⟨⟨PA, Pn, Pc⟩, ⟨OA, On, Oc⟩⟩) := by rw [hw1]; exact A1
 generalize w.heap.size = ba at *
 clear hw1
 obtain ⟨c0, c1, c2, c3, c4, c5, c6, c7, c8, c9, c10⟩ := A1.out.cells
 simp only at c0 c1 c2 c3 c4 c5 c6 c7 c8 c9 c10
 by_cases hq1 : request < 0
 ·go_wp2_with fail
  all_goals
   go_ret
   refine ⟨ret_bool ?_, TT.out⟩
   rw [hE.out]
   (symm; apply Bool.eq_false_iff.2; intro hh; simp only [withinB, zD, zE] at hh; (try simp only [bne_iff_ne, ne_eq] at *); omega)
 by_cases hq2 : 4611686018427387904 < request
 ·have hq1i : (0 : Int) ≤ request := by omega
  go_wp2_with fail
  all_goals
   go_ret
   refine ⟨ret_bool ?_, TT.out⟩
   rw [hE.out]
   (symm; apply Bool.eq_false_iff.2; intro hh; simp only [withinB, zD, zE] at hh; (try simp only [bne_iff_ne, ne_eq] at *); omega)
 have hq1i : (0 : Int) ≤ request := by omega
 have hq2i : request ≤ 4611686018427387904 := by omega
 go_upto_region 4 with fail
 by_cases hit : item = []
 ·subst hit
  clear hse
  refine wp_region_segs (fun w' => AskAt w' ba ⟨kind, request, [], qty, day, days, rank, lot, line, parts, others⟩ ⟨⟨PA, Pn, Pc⟩, ⟨OA, On, Oc⟩⟩) (segT [0, 2, 3, 4] ++ segF [1] ++ segT [5, 6, 7, 8, 9, 10, 11, 12] ++ segF [13] ++ segT [14, 15, 16]) mixed (by kernel_rfl) (fun _ _ _ _ _ h => h) ?_
  simp only [segT, segF, pickSegs, zF, List.map_nil, zG, zH, List.filterMap_cons, List.filterMap_nil, zI, zJ, Option.map_some]
  have hS := AskAt.fresh A1.out ((Turned.refl (fun _ => False) w1).drew)
  iterate 4 (refine wpSegs_take (v := ?_) hS rfl (fun w' hw => ?_) ?_; rotate_left; (obtain ⟨c0, c1, c2, c3, c4, c5, c6, c7, c8, c9, c10⟩ := AskAt.cells hw; simp only at c0 c1 c2 c3 c4 c5 c6 c7 c8 c9 c10; go_simp; try with_reducible rfl); (try simp only [Act.put, zA, zB, zC]))
  refine wpSegs_run rfl (fun K hK => ?_)
  go_simp
  refine (hH.out 105 (by unfold isByte; decide) _).mono ?_
  rintro e w9 ⟨rfl, rfl⟩
  rw [e105]
  refine hK.out _ _ hS ?_
  clear hK K
  iterate 6 (refine wpSegs_take (v := ?_) hS rfl (fun w' hw => ?_) ?_; rotate_left; (obtain ⟨c0, c1, c2, c3, c4, c5, c6, c7, c8, c9, c10⟩ := AskAt.cells hw; simp only at c0 c1 c2 c3 c4 c5 c6 c7 c8 c9 c10; go_simp; try with_reducible rfl); (try simp only [Act.put, zA, zB, zC]))
  iterate 2 (refine wpSegs_skip hS rfl ?_; (try simp only [Act.put, zA, zB, zC]))
  (refine wpSegs_runSkip hS rfl ?_; (try simp only [Act.put, zA, zB, zC]))
  (refine wpSegs_skip hS rfl ?_; (try simp only [Act.put, zA, zB, zC]))
  iterate 2 (refine wpSegs_take (v := ?_) hS rfl (fun w' hw => ?_) ?_; rotate_left; (obtain ⟨c0, c1, c2, c3, c4, c5, c6, c7, c8, c9, c10⟩ := AskAt.cells hw; simp only at c0 c1 c2 c3 c4 c5 c6 c7 c8 c9 c10; go_simp; try with_reducible rfl); (try simp only [Act.put, zA, zB, zC]))
  refine wpSegs_nil ?_
  have A2 := hZ hS
  clear hS
  skip
  have TT := hZ TT.out.drew
  obtain ⟨w2, hw2⟩ : ∃ w2, w2 = w1.drew := ⟨_, rfl⟩
  rw [← hw2] at TT A2 ⊢
  clear c0 c1 c2 c3 c4 c5 c6 c7 c8 c9 c10 A1
  obtain ⟨c0, c1, c2, c3, c4, c5, c6, c7, c8, c9, c10⟩ := A2.out.cells
  simp only at c0 c1 c2 c3 c4 c5 c6 c7 c8 c9 c10
  clear hw2
  go_wp2_with (first | (go_at_call 108; refine (hH.out _ (by unfold isByte; decide) _).mono ?_; rintro e w9 ⟨rfl, rfl⟩))
  all_goals
   go_ret
   refine ⟨ret_bool ?_, TT.out⟩
   rw [hE.out]
   first
   | (symm; apply Bool.eq_false_iff.2; intro hh; simp only [withinB, zD, zE] at hh; (try simp only [bne_iff_ne, ne_eq] at *); omega)
   | (simp only [withinB] at *; grind)
 ·obtain ⟨hse1, hse2⟩ := hse.out hit
  have hse3 : item.isEmpty = false := by cases item with
   | nil => exact absurd rfl hit
   | cons x r => rfl
  clear hse
  refine wp_region_segs (fun w' => AskAt w' ba ⟨kind, request, item, qty, day, days, rank, lot, line, parts, others⟩ ⟨⟨PA, Pn, Pc⟩, ⟨OA, On, Oc⟩⟩) (segT [0, 2, 3, 4] ++ segF [1] ++ segT [5, 6, 7, 8, 9, 10, 11, 12] ++ segF [13] ++ segT [14, 15, 16]) mixed (by kernel_rfl) (fun _ _ _ _ _ h => h) ?_
  simp only [segT, segF, pickSegs, zF, List.map_nil, zG, zH, List.filterMap_cons, List.filterMap_nil, zI, zJ, Option.map_some]
  have hS := AskAt.fresh A1.out ((Turned.refl (fun _ => False) w1).drew)
  iterate 4 (refine wpSegs_take (v := ?_) hS rfl (fun w' hw => ?_) ?_; rotate_left; (obtain ⟨c0, c1, c2, c3, c4, c5, c6, c7, c8, c9, c10⟩ := AskAt.cells hw; simp only at c0 c1 c2 c3 c4 c5 c6 c7 c8 c9 c10; go_simp; try with_reducible rfl); (try simp only [Act.put, zA, zB, zC]))
  refine wpSegs_run rfl (fun K hK => ?_)
  go_simp
  refine (hH.out 105 (by unfold isByte; decide) _).mono ?_
  rintro e w9 ⟨rfl, rfl⟩
  rw [e105]
  refine hK.out _ _ hS ?_
  clear hK K
  iterate 2 (refine wpSegs_take (v := ?_) hS rfl (fun w' hw => ?_) ?_; rotate_left; (obtain ⟨c0, c1, c2, c3, c4, c5, c6, c7, c8, c9, c10⟩ := AskAt.cells hw; simp only at c0 c1 c2 c3 c4 c5 c6 c7 c8 c9 c10; go_simp; try with_reducible rfl); (try simp only [Act.put, zA, zB, zC]))
  iterate 6 (refine wpSegs_skip hS rfl ?_; (try simp only [Act.put, zA, zB, zC]))
  (refine wpSegs_runSkip hS rfl ?_; (try simp only [Act.put, zA, zB, zC]))
  iterate 2 (refine wpSegs_skip hS rfl ?_; (try simp only [Act.put, zA, zB, zC]))
  (refine wpSegs_take (v := ?_) hS rfl (fun w' hw => ?_) ?_; rotate_left; (obtain ⟨c0, c1, c2, c3, c4, c5, c6, c7, c8, c9, c10⟩ := AskAt.cells hw; simp only at c0 c1 c2 c3 c4 c5 c6 c7 c8 c9 c10; go_simp; try with_reducible rfl); (try simp only [Act.put, zA, zB, zC]))
  refine wpSegs_nil ?_
  have A2 := hZ hS
  clear hS
  skip
  go_wp2_with fail
  have TT := hZ TT.out.drew
  all_goals
   go_ret
   refine ⟨ret_bool ?_, TT.out⟩
   rw [hE.out]
   (symm; apply Bool.eq_false_iff.2; intro hh; simp only [withinB, zD, zE] at hh; (try simp only [bne_iff_ne, ne_eq] at *); simp_all; done)
end Go.Proofs.YtglojnmcbochaaaGreatDoor

