/-
 ask.Right: whether a command is right. Conditions: ask.kinds holds what its initialiser lays; at most 1000000 parts.
-/
import Derived.Test.YtglojnmcbochaaaGreatDoorURdFh
import Derived.Deep.CutRange
namespace Go.Proofs.YtglojnmcbochaaaGreatDoor
open Go.RowKit Go.Maps
set_option linter.unusedVariables false
set_option linter.unusedSimpArgs false

theorem has_any (f : List Nat) (hf : f ∈ kindsL) (c : Nat) (hc : c ∈ letters) (w : World) : Calls Tryz.prog 51 #[.string (fBA f), .string ⟨#[UInt8.ofNat c]⟩] w (RetSame (.bool (f.contains c)) w) := by
 have h := Any.strings_Contains_one Tryz.lays144 (fBA f) (UInt8.ofNat c) w
 rw [← Lib.contains_iff_indexByte, fBA_data, kinds_contains hf c hc] at h
 exact h.mono (fun e w' ⟨h1, h2⟩ => ⟨h1, h2.symm⟩)
set_option maxRecDepth 100000 in
set_option maxHeartbeats 8000000 in
theorem ask_right_any (a : AskV) (S : AskS) (w : World) (hI : AskIs w a S) (hOk : a.Ok) (hK : KindsOk w) (hP : a.parts.length ≤ 1000000) : Calls Tryz.prog 18 #[.agg (askC a S)] w (BoolNew (rightA a) w) := by
 have mixed : Tryz.prog.follows .mixedOrders = true := by kernel_rfl
 have hF := hZ (fun (w' : World) (h : KindsOk w') => fields_any a.kind w' hOk.kind h)
 obtain ⟨kind, request, item, qty, day, days, rank, lot, line, parts, others⟩ := a
 obtain ⟨⟨PA, Pn, Pc⟩, ⟨OA, On, Oc⟩⟩ := S
 have hPl := hI.parts.len
 have hOl := hI.others.len
 have hIs := hZ hI
 have hItem : strOk item := hOk.item
 have hPo : ∀ p ∈ parts, strOk p.1 := fun p hp => (hOk.parts p hp).1
 have hOo : ∀ x ∈ others, strOk x := hOk.others
 simp only at hF hPl hOl hP
 have hPn : Pn ≤ 1000000 := by omega
 have hPmx := hI.parts.max
 have hOmx := hI.others.max
 have hOle := hI.others.le
 have hPle := hI.parts.le
 simp only at hPmx hOmx hOle hPle
 unfold maxLen at hPmx hOmx
 have hK' := hZ (fun (w' : World) (ht : Turned (fun _ => False) w w') => hK.fresh ht)
 have tA := hZ ((Turned.refl (fun _ => False) w).alloc (.cells (askC ⟨kind, request, item, qty, day, days, rank, lot, line, parts, others⟩ ⟨⟨PA, Pn, Pc⟩, ⟨OA, On, Oc⟩⟩) 28))
 have bA := hZ (Blk.new w 28 (askC ⟨kind, request, item, qty, day, days, rank, lot, line, parts, others⟩ ⟨⟨PA, Pn, Pc⟩, ⟨OA, On, Oc⟩⟩))
 clear hI hOk hK hP
 unfold askC strV at tA bA ⊢
 simp only at tA bA ⊢
 cases hf : fieldsK kind with
 | none =>
  have hF2 := hZ (show rightA ⟨kind, request, item, qty, day, days, rank, lot, line, parts, others⟩ = false from by unfold rightA; simp only; rw [hf])
  unfold FieldsPost at hF
  rw [fields_none hf] at hF
  clear hf
  go_enter Tryz.func18, Tryz.ntmps18
  go_wp2_with fail
  refine (hF.out _ (hK'.out _ tA.out)).mono ?_
  rintro e w1 ⟨rfl, t1⟩
  have T1 := hZ (tA.out.and_ t1)
  clear t1
  go_wp2_with fail
  go_ret
  exact ⟨ret_bool hF2.out.symm, T1.out⟩
 | some f =>
  have hE := hZ (rightA_prog (a := ⟨kind, request, item, qty, day, days, rank, lot, line, parts, others⟩) hf)
  have hfk := fieldsK_kinds hf
  have hfl := (kinds_letters hfk).1
  unfold FieldsPost at hF
  rw [fields_some hf] at hF
  have hH := hZ (has_any f hfk)
  clear hf
  go_enter Tryz.func18, Tryz.ntmps18
  go_wp2_with fail
  refine (hF.out _ (hK'.out _ tA.out)).mono ?_
  rintro e w1 ⟨rfl, t1⟩
  have T1 := hZ (tA.out.and_ t1)
  have B1 := hZ (bA.out.turned t1 (fun e => e))
  have hba1 := B1.out.lt
  have q0 : w1.cell? ⟨w.heap.size, 0, none⟩ = some (.int .u8 kind) := B1.out.cell 0
  have q1 : w1.cell? ⟨w.heap.size, 1, none⟩ = some (.int .i64 request) := B1.out.cell 1
  clear t1 tA bA hF
  have hwb := hZ (Nat.le_refl w.heap.size)
  generalize hba : w.heap.size = ba at B1 hba1 q0 q1 ⊢
  have hba' := hZ hba
  clear hba
  cases hq : withinB request 0 4611686018427387904 with
  | false =>
   have hF2 := hZ (show rightA ⟨kind, request, item, qty, day, days, rank, lot, line, parts, others⟩ = false from by rw [hE.out]; (try simp only); rw [hq]; rfl)
   have hW := hZ (within_any request 0 4611686018427387904 w1)
   rw [hq] at hW
   clear hq
   go_wp2_with fail
   refine hW.out.mono ?_
   rintro e w2 ⟨rfl, rfl⟩
   go_wp2_with fail
   go_ret
   exact ⟨ret_bool hF2.out.symm, T1.out⟩
  | true =>
   have hE2' := hE.out
   (try simp only at hE2')
   rw [hq, Bool.true_and] at hE2'
   have hE2 := hZ hE2'
   clear hE2'
   have hW := hZ (within_any request 0 4611686018427387904 w1)
   rw [hq] at hW
   clear hq hE
   have hk0 := World.iter_heap (w1.alloc (.cells (askC (bareA ⟨kind, request, item, qty, day, days, rank, lot, line, parts, others⟩ []) AskS.nil) 28)) (fBA f) 0
   rw [show (w1.alloc (.cells (askC (bareA ⟨kind, request, item, qty, day, days, rank, lot, line, parts, others⟩ []) AskS.nil) 28)).heap.size = w1.heap.size + 1 by simp] at hk0
   have hst : RgtRel2 ⟨kind, request, item, qty, day, days, rank, lot, line, parts, others⟩ ⟨⟨PA, Pn, Pc⟩, ⟨OA, On, Oc⟩⟩ f w ba w1.heap.size (w1.heap.size + 1) (.bool true) ((w1.alloc (.cells (askC (bareA ⟨kind, request, item, qty, day, days, rank, lot, line, parts, others⟩ []) AskS.nil) 28)).alloc (.stringIter (fBA f) 0)) :=
    ⟨0, bareA ⟨kind, request, item, qty, day, days, rank, lot, line, parts, others⟩ [], Nat.zero_le _, rfl, rfl, ((B1.out.alloc _).alloc _ : Blk _ ba 28 _), ((Blk.new w1 28 (askC (bareA ⟨kind, request, item, qty, day, days, rank, lot, line, parts, others⟩ []) AskS.nil)).alloc _ : Blk _ _ 28 _), hk0, (T1.out.alloc _).alloc _⟩
   have hst' := hZ hst
   clear hst hk0
   go_wp2_with fail
   refine hW.out.mono ?_
   rintro e w2 ⟨rfl, rfl⟩
   go_wp2_with fail
   have hab : ba ≠ w1.heap.size := by omega
   have hwb : w.heap.size ≤ w1.heap.size := T1.out.size
   have hai : ba ≠ w1.heap.size + 1 := by omega
   have hbi : w1.heap.size ≠ w1.heap.size + 1 := by omega
   have hwi : w.heap.size ≤ w1.heap.size + 1 := by omega
   generalize hgi : w1.heap.size + 1 = bi at *
   generalize hgb : w1.heap.size = bb at *
   clear hgi hgb
   go_loopw [4] (fun v wr => RgtRel2 ⟨kind, request, item, qty, day, days, rank, lot, line, parts, others⟩ ⟨⟨PA, Pn, Pc⟩, ⟨OA, On, Oc⟩⟩ f w ba bb bi v wr) (fun _ wr => f.length - wr.iterPos bi)
   case atStart => exact hst'.out
   case round =>
    obtain ⟨pos, x, hpl0, rfl, hx0, hR⟩ := hrel
    clear hst' B1 q0 q1 hba1
    have hk := hR.it
    have hmu := hZ hR.pos_
    have hx := hZ hx0
    clear hx0
    have hR' := hZ hR
    by_cases hp : pos < (fBA f).size
    ·have hpl : pos < f.length := by rw [fBA_size] at hp; exact hp
     obtain ⟨c, hcm, hcv, htk0, h128⟩ := letter_at hfk hp
     have htk := hZ htk0
     have hnext : ∀ ty, (Instr.next (.pointer (some ⟨bi, 0, none⟩)) true ty).run Tryz.prog wr = _ := fun ty => Lib.run_next_ascii_at wr bi (fBA f) pos ty hk hp (by rw [hcv]; exact h128)
     generalize ((fBA f)[pos]'hp).toNat = c' at hnext hcv
     subst hcv
     have R1 := hZ (hR.iter hai hbi hwi)
     generalize hok : okTo ⟨kind, request, item, qty, day, days, rank, lot, line, parts, others⟩ (f.take pos) = ok
     have hok' := hZ hok
     generalize wr.iterAt bi (fBA f) (pos + 1) = W1 at hnext R1
     clear hk hR hR' htk0 hok
     unfold letters at hcm
     simp only [List.mem_cons, List.not_mem_nil, or_false] at hcm
     obtain ⟨xk, xr, xi, xq, xd, xl, xa, xt, xn, xp, xo⟩ := x
     rcases hcm with rfl | rfl | rfl | rfl | rfl | rfl | rfl | rfl | rfl
     ·cases ok with
      | false =>
       have a0 : W1.cell? ⟨ba, 2, none⟩ = some (.string ⟨item.toArray⟩) := R1.out.aa.cell 2
       have b0 : W1.cell? ⟨bb, 2, none⟩ = some (.string ⟨xi.toArray⟩) := R1.out.bare.cell 2
       have g0 := R1.out.bare.frozen 2
       go_wp2_with fail
       have F := RgtRel2.step (c := 105) hpl htk.out hx.out (v := .bool false) (by rw [hok'.out]; rfl) (R1.out.store hab hbi hwb 2 (.string ⟨item.toArray⟩) rfl)
       exact ⟨F.1, by rw [hmu.out, F.2]; omega⟩
      | true =>
       have a0 : W1.cell? ⟨ba, 2, none⟩ = some (.string ⟨item.toArray⟩) := R1.out.aa.cell 2
       have b0 : W1.cell? ⟨bb, 2, none⟩ = some (.string ⟨xi.toArray⟩) := R1.out.bare.cell 2
       have g0 := R1.out.bare.frozen 2
       unfold strOk at hItem
       go_wp2_with fail
       refine (code_right_any item W1 hItem).mono ?_
       rintro e W2 ⟨rfl, t2⟩
       have R2 := hZ (R1.out.fresh t2)
       clear t2
       clear a0 b0 g0
       have a1 : W2.cell? ⟨ba, 2, none⟩ = some (.string ⟨item.toArray⟩) := R2.out.aa.cell 2
       have b1 : W2.cell? ⟨bb, 2, none⟩ = some (.string ⟨xi.toArray⟩) := R2.out.bare.cell 2
       have g1 := R2.out.bare.frozen 2
       go_wp2_with fail
       have F := RgtRel2.step (c := 105) hpl htk.out hx.out (v := .bool (codeL item)) (by rw [hok'.out]; rfl) (R2.out.store hab hbi hwb 2 (.string ⟨item.toArray⟩) rfl)
       exact ⟨F.1, by rw [hmu.out, F.2]; omega⟩
     ·cases ok with
      | false =>
       have a0 : W1.cell? ⟨ba, 3, none⟩ = some (.int .i64 qty) := R1.out.aa.cell 3
       have b0 : W1.cell? ⟨bb, 3, none⟩ = some (.int .i64 xq) := R1.out.bare.cell 3
       have g0 := R1.out.bare.frozen 3
       go_wp2_with fail
       have F := RgtRel2.step (c := 113) hpl htk.out hx.out (v := .bool false) (by rw [hok'.out]; rfl) (R1.out.store hab hbi hwb 3 (.int .i64 qty) rfl)
       exact ⟨F.1, by rw [hmu.out, F.2]; omega⟩
      | true =>
       have a0 : W1.cell? ⟨ba, 3, none⟩ = some (.int .i64 qty) := R1.out.aa.cell 3
       have b0 : W1.cell? ⟨bb, 3, none⟩ = some (.int .i64 xq) := R1.out.bare.cell 3
       have g0 := R1.out.bare.frozen 3
       unfold strOk at hItem
       go_wp2_with fail
       refine (within_any qty 1 1073741824 W1).mono ?_
       rintro e W2 ⟨rfl, rfl⟩
       have R2 := R1


       go_wp2_with fail
       have F := RgtRel2.step (c := 113) hpl htk.out hx.out (v := .bool (withinB qty 1 1073741824)) (by rw [hok'.out]; rfl) (R2.out.store hab hbi hwb 3 (.int .i64 qty) rfl)
       exact ⟨F.1, by rw [hmu.out, F.2]; omega⟩
     ·cases ok with
      | false =>
       have a0 : W1.cell? ⟨ba, 4, none⟩ = some (.int .i64 day) := R1.out.aa.cell 4
       have b0 : W1.cell? ⟨bb, 4, none⟩ = some (.int .i64 xd) := R1.out.bare.cell 4
       have g0 := R1.out.bare.frozen 4
       go_wp2_with fail
       have F := RgtRel2.step (c := 100) hpl htk.out hx.out (v := .bool false) (by rw [hok'.out]; rfl) (R1.out.store hab hbi hwb 4 (.int .i64 day) rfl)
       exact ⟨F.1, by rw [hmu.out, F.2]; omega⟩
      | true =>
       have a0 : W1.cell? ⟨ba, 4, none⟩ = some (.int .i64 day) := R1.out.aa.cell 4
       have b0 : W1.cell? ⟨bb, 4, none⟩ = some (.int .i64 xd) := R1.out.bare.cell 4
       have g0 := R1.out.bare.frozen 4
       unfold strOk at hItem
       go_wp2_with fail
       refine (within_any day 0 4000 W1).mono ?_
       rintro e W2 ⟨rfl, rfl⟩
       have R2 := R1


       go_wp2_with fail
       have F := RgtRel2.step (c := 100) hpl htk.out hx.out (v := .bool (withinB day 0 4000)) (by rw [hok'.out]; rfl) (R2.out.store hab hbi hwb 4 (.int .i64 day) rfl)
       exact ⟨F.1, by rw [hmu.out, F.2]; omega⟩
     ·cases ok with
      | false =>
       have a0 : W1.cell? ⟨ba, 5, none⟩ = some (.int .i64 days) := R1.out.aa.cell 5
       have b0 : W1.cell? ⟨bb, 5, none⟩ = some (.int .i64 xl) := R1.out.bare.cell 5
       have g0 := R1.out.bare.frozen 5
       go_wp2_with fail
       have F := RgtRel2.step (c := 108) hpl htk.out hx.out (v := .bool false) (by rw [hok'.out]; rfl) (R1.out.store hab hbi hwb 5 (.int .i64 days) rfl)
       exact ⟨F.1, by rw [hmu.out, F.2]; omega⟩
      | true =>
       have a0 : W1.cell? ⟨ba, 5, none⟩ = some (.int .i64 days) := R1.out.aa.cell 5
       have b0 : W1.cell? ⟨bb, 5, none⟩ = some (.int .i64 xl) := R1.out.bare.cell 5
       have g0 := R1.out.bare.frozen 5
       unfold strOk at hItem
       go_wp2_with fail
       refine (within_any days 1 2000 W1).mono ?_
       rintro e W2 ⟨rfl, rfl⟩
       have R2 := R1


       go_wp2_with fail
       have F := RgtRel2.step (c := 108) hpl htk.out hx.out (v := .bool (withinB days 1 2000)) (by rw [hok'.out]; rfl) (R2.out.store hab hbi hwb 5 (.int .i64 days) rfl)
       exact ⟨F.1, by rw [hmu.out, F.2]; omega⟩
     ·cases ok with
      | false =>
       have a0 : W1.cell? ⟨ba, 6, none⟩ = some (.int .i64 rank) := R1.out.aa.cell 6
       have b0 : W1.cell? ⟨bb, 6, none⟩ = some (.int .i64 xa) := R1.out.bare.cell 6
       have g0 := R1.out.bare.frozen 6
       go_wp2_with fail
       have F := RgtRel2.step (c := 114) hpl htk.out hx.out (v := .bool false) (by rw [hok'.out]; rfl) (R1.out.store hab hbi hwb 6 (.int .i64 rank) rfl)
       exact ⟨F.1, by rw [hmu.out, F.2]; omega⟩
      | true =>
       have a0 : W1.cell? ⟨ba, 6, none⟩ = some (.int .i64 rank) := R1.out.aa.cell 6
       have b0 : W1.cell? ⟨bb, 6, none⟩ = some (.int .i64 xa) := R1.out.bare.cell 6
       have g0 := R1.out.bare.frozen 6
       unfold strOk at hItem
       go_wp2_with fail
       refine (within_any rank 0 99 W1).mono ?_
       rintro e W2 ⟨rfl, rfl⟩
       have R2 := R1


       go_wp2_with fail
       have F := RgtRel2.step (c := 114) hpl htk.out hx.out (v := .bool (withinB rank 0 99)) (by rw [hok'.out]; rfl) (R2.out.store hab hbi hwb 6 (.int .i64 rank) rfl)
       exact ⟨F.1, by rw [hmu.out, F.2]; omega⟩
     ·cases ok with
      | false =>
       have a0 : W1.cell? ⟨ba, 7, none⟩ = some (.int .i64 lot) := R1.out.aa.cell 7
       have b0 : W1.cell? ⟨bb, 7, none⟩ = some (.int .i64 xt) := R1.out.bare.cell 7
       have g0 := R1.out.bare.frozen 7
       go_wp2_with fail
       have F := RgtRel2.step (c := 116) hpl htk.out hx.out (v := .bool false) (by rw [hok'.out]; rfl) (R1.out.store hab hbi hwb 7 (.int .i64 lot) rfl)
       exact ⟨F.1, by rw [hmu.out, F.2]; omega⟩
      | true =>
       have a0 : W1.cell? ⟨ba, 7, none⟩ = some (.int .i64 lot) := R1.out.aa.cell 7
       have b0 : W1.cell? ⟨bb, 7, none⟩ = some (.int .i64 xt) := R1.out.bare.cell 7
       have g0 := R1.out.bare.frozen 7
       go_wp2_with fail
       have F := RgtRel2.step (c := 116) hpl htk.out hx.out (v := .bool (decide (0 < lot))) (by rw [hok'.out]; rfl) (R1.out.store hab hbi hwb 7 (.int .i64 lot) rfl)
       exact ⟨F.1, by rw [hmu.out, F.2]; omega⟩
     ·cases ok with
      | false =>
       have a0 : W1.cell? ⟨ba, 8, none⟩ = some (.int .i64 line) := R1.out.aa.cell 8
       have b0 : W1.cell? ⟨bb, 8, none⟩ = some (.int .i64 xn) := R1.out.bare.cell 8
       have g0 := R1.out.bare.frozen 8
       go_wp2_with fail
       have F := RgtRel2.step (c := 110) hpl htk.out hx.out (v := .bool false) (by rw [hok'.out]; rfl) (R1.out.store hab hbi hwb 8 (.int .i64 line) rfl)
       exact ⟨F.1, by rw [hmu.out, F.2]; omega⟩
      | true =>
       have a0 : W1.cell? ⟨ba, 8, none⟩ = some (.int .i64 line) := R1.out.aa.cell 8
       have b0 : W1.cell? ⟨bb, 8, none⟩ = some (.int .i64 xn) := R1.out.bare.cell 8
       have g0 := R1.out.bare.frozen 8
       go_wp2_with fail
       have F := RgtRel2.step (c := 110) hpl htk.out hx.out (v := .bool (decide (0 < line))) (by rw [hok'.out]; rfl) (R1.out.store hab hbi hwb 8 (.int .i64 line) rfl)
       exact ⟨F.1, by rw [hmu.out, F.2]; omega⟩
     ·cases ok with
      | false =>
       have a0 : W1.cell? ⟨ba, 9, none⟩ = some (.slice PA Pn Pc) := R1.out.aa.cell 9
       go_wp2_with fail
       have F := RgtRel2.step (c := 112) hpl htk.out hx.out (v := .bool false) (by rw [hok'.out]; rfl) R1.out
       exact ⟨F.1, by rw [hmu.out, F.2]; omega⟩
      | true =>
       have a0 : W1.cell? ⟨ba, 9, none⟩ = some (.slice PA Pn Pc) := R1.out.aa.cell 9
       have hPt := hZ (hIs.out.fresh R1.out.t)
       go_wp2_with fail
       refine (parted_any ⟨PA, Pn, Pc⟩ parts W1 hPt.out.parts hPo hPn).mono ?_
       rintro e W2 ⟨rfl, t2⟩
       have R2 := hZ (R1.out.fresh t2)
       clear t2
       go_wp2_with fail
       have F := RgtRel2.step (c := 112) hpl htk.out hx.out (v := .bool (partsB parts)) (by rw [hok'.out]; rfl) R2.out
       exact ⟨F.1, by rw [hmu.out, F.2]; omega⟩
     ·cases ok with
      | false =>
       have a0 : W1.cell? ⟨ba, 10, none⟩ = some (.slice OA On Oc) := R1.out.aa.cell 10
       go_wp2_with fail
       have F := RgtRel2.step (c := 111) hpl htk.out hx.out (v := .bool false) (by rw [hok'.out]; rfl) R1.out
       exact ⟨F.1, by rw [hmu.out, F.2]; omega⟩
      | true =>
       have a0 : W1.cell? ⟨ba, 10, none⟩ = some (.slice OA On Oc) := R1.out.aa.cell 10
       have hOt := hZ (hIs.out.fresh R1.out.t).others
       have hol := hZ (show others.length = On from hOt.out.len)
       by_cases h4 : On ≤ 4
       ·have h4d := hZ (decide_eq_true h4)
        have h4i : (On : Int) ≤ 4 := by omega
        have hU := hZ (unlike_any ⟨OA, On, Oc⟩ others W1 hOt.out hOo)
        cases hu : unlikeB others with
        | false =>
         rw [hu] at hU
         have hu' := hZ hu
         clear hu
         go_wp2_with fail
         refine hU.out.mono ?_
         rintro e W2 ⟨rfl, t2⟩
         have R2 := hZ (R1.out.fresh t2)
         clear t2
         go_wp2_with fail
         have hE := hZ (show (othersB others item : Bool) = false from by unfold othersB; rw [hol.out, h4d.out, hu'.out]; rfl)
         have F := RgtRel2.step (c := 111) hpl htk.out hx.out (v := .bool false) (by rw [hok'.out, ← hE.out]; rfl) R2.out
         exact ⟨F.1, by rw [hmu.out, F.2]; omega⟩
        | true =>
         rw [hu] at hU
         have hu' := hZ hu
         clear hu
         by_cases hO0 : On = 0
         ·subst hO0
          obtain rfl : others = [] := List.length_eq_zero_iff.1 hol.out
          go_wp2_with fail
          refine hU.out.mono ?_
          rintro e W2 ⟨rfl, t2⟩
          have R2 := hZ (R1.out.fresh t2)
          clear t2 a0
          have a1 : W2.cell? ⟨ba, 10, none⟩ = some (.slice OA 0 Oc) := R2.out.aa.cell 10
          have a2 : W2.cell? ⟨ba, 2, none⟩ = some (.string ⟨item.toArray⟩) := R2.out.aa.cell 2
          go_wp2_with fail
          refine (contains_none OA Oc item W2).mono ?_
          rintro e W3 ⟨rfl, rfl⟩
          go_wp2_with fail
          have hE := hZ (show (othersB [] item : Bool) = true from by unfold othersB; rw [hol.out, h4d.out, hu'.out]; rfl)
          have F := RgtRel2.step (c := 111) hpl htk.out hx.out (v := .bool true) (by rw [hok'.out, ← hE.out]; rfl) R2.out
          exact ⟨F.1, by rw [hmu.out, F.2]; omega⟩
         ·obtain ⟨b, off, hA, hcell⟩ := hOt.out.cells (show 0 < On by omega)
          simp only at hA
          subst hA
          have hC := hZ (fun (w2 : World) (t2 : Turned (fun _ => False) W1 w2) => contains_any b off On Oc others item w2 (by rw [hol.out]; exact Nat.le_refl _) (by omega) (fun i hi => cell_turned t2 (hcell i (by rw [hol.out] at hi; exact hi)) (fun e => e)))
          have htk2 : others.take On = others := List.take_of_length_le (by rw [hol.out]; exact Nat.le_refl _)
          rw [htk2] at hC
          clear htk2 hcell
          generalize hct : others.contains item = ct at hC
          have hct' := hZ hct
          clear hct
          go_wp2_with fail
          refine hU.out.mono ?_
          rintro e W2 ⟨rfl, t2⟩
          have R2 := hZ (R1.out.fresh t2)
          have hC2 := hZ (hC.out W2 t2)
          clear t2 a0 hC
          have a1 : W2.cell? ⟨ba, 10, none⟩ = some (.slice (some ⟨b, off, none⟩) On Oc) := R2.out.aa.cell 10
          have a2 : W2.cell? ⟨ba, 2, none⟩ = some (.string ⟨item.toArray⟩) := R2.out.aa.cell 2
          go_wp2_with fail
          refine hC2.out.mono ?_
          rintro e W3 ⟨rfl, rfl⟩
          go_wp2_with fail
          have hE := hZ (show (othersB others item : Bool) = (!ct) from by unfold othersB; rw [hol.out, h4d.out, hu'.out, hct'.out]; rfl)
          have F := RgtRel2.step (c := 111) hpl htk.out hx.out (v := .bool (!ct)) (by rw [hok'.out, ← hE.out]; rfl) R2.out
          exact ⟨F.1, by rw [hmu.out, F.2]; omega⟩
       ·have h4d := hZ (decide_eq_false h4)
        have h4i : (4 : Int) < (On : Int) := by omega
        go_wp2_with fail
        have hE := hZ (show (othersB others item : Bool) = false from by unfold othersB; rw [hol.out, h4d.out]; rfl)
        have F := RgtRel2.step (c := 111) hpl htk.out hx.out (v := .bool false) (by rw [hok'.out, ← hE.out]; rfl) R1.out
        exact ⟨F.1, by rw [hmu.out, F.2]; omega⟩
    ·have hnext : ∀ ty, (Instr.next (.pointer (some ⟨bi, 0, none⟩)) true ty).run Tryz.prog wr = _ := fun ty => Lib.run_next_end_at wr bi (fBA f) pos ty hk hp
     have hpe : pos = f.length := by rw [fBA_size] at hp; omega
     have htf : f.take pos = f := List.take_of_length_le (by omega)
     rw [htf] at hx ⊢
     have hx' := hZ hx
     clear hk hR htf
     generalize hok : okTo ⟨kind, request, item, qty, day, days, rank, lot, line, parts, others⟩ f = ok
     generalize hc1 : f.contains 112 = c1
     generalize hc2 : f.contains 111 = c2
     have hH1 := hZ (hH.out 112 (by decide))
     have hH2 := hZ (hH.out 111 (by decide))
     rw [hc1] at hH1
     rw [hc2] at hH2
     have hp1 : (decide (parts = []) : Bool) = decide (Pn = 0) := by rw [← hPl]; simp only [decide_eq_decide, List.length_eq_zero_iff]
     have hp2 : (decide (others = []) : Bool) = decide (On = 0) := by rw [← hOl]; simp only [decide_eq_decide, List.length_eq_zero_iff]
     have hE3 := hZ (show rightA ⟨kind, request, item, qty, day, days, rank, lot, line, parts, others⟩ = (ok && ((decide (Pn = 0) || c1) && ((decide (On = 0) || c2) && plainB ⟨kind, request, item, qty, day, days, rank, lot, line, parts, others⟩ x))) from by rw [hE2.out, hok, hc1, hc2, hx.out]; (try simp only); rw [hp1, hp2])
     clear hok hc1 hc2 hp1 hp2 hx hE2 hH
     have a9 : wr.cell? ⟨ba, 9, none⟩ = some (.slice PA Pn Pc) := hR'.out.aa.cell 9
     have a10 : wr.cell? ⟨ba, 10, none⟩ = some (.slice OA On Oc) := hR'.out.aa.cell 10
     obtain ⟨xk, xr, xi, xq, xd, xl, xa, xt, xn, xp, xo⟩ := x
     have hXA := hZ hR'.out
     obtain ⟨n1, hn1⟩ : ∃ n1 : Bool, n1 = (decide (Pn = 0) || c1) := ⟨_, rfl⟩
     obtain ⟨n2, hn2⟩ : ∃ n2 : Bool, n2 = (decide (On = 0) || c2) := ⟨_, rfl⟩
     rw [← hn1, ← hn2] at hE3
     have hn1' := hZ hn1
     have hn2' := hZ hn2
     clear hn1 hn2
     go_upto_region 34 with fail
     go_cut [8] from 10 (fun u8 wc => u8 = .bool n1 ∧ wc = wr)
     case first =>
      by_cases h1 : Pn = 0
      ·have hn : n1 = true := by rw [hn1'.out, decide_eq_true h1]; rfl
       subst h1 hn
       clear hn1'
       go_wp2_with fail
       go_meet
       exact ⟨rfl, rfl⟩
      ·have hP1 : ((Pn : Int) == 0) = false := by rw [beq_eq_false_iff_ne]; omega
       have hn : n1 = c1 := by rw [hn1'.out, decide_eq_false h1]; rfl
       subst hn
       clear hn1'
       go_wp2_with fail
       refine (hH1.out _).mono ?_
       rintro e w2 ⟨rfl, rfl⟩
       go_wp2_with fail
       go_meet
       exact ⟨rfl, rfl⟩
     case rest =>
      obtain ⟨rfl, hw⟩ := hcut
      obtain rfl : wr = wc := hw.symm
      go_upto_region 35 with fail
      go_cut [9] from 10 (fun u9 wc => u9 = .bool n2 ∧ wc = wr)
      case first =>
       by_cases h2 : On = 0
       ·have hn : n2 = true := by rw [hn2'.out, decide_eq_true h2]; rfl
        subst h2 hn
        clear hn2'
        go_wp2_with fail
        go_meet
        exact ⟨rfl, rfl⟩
       ·have hO1 : ((On : Int) == 0) = false := by rw [beq_eq_false_iff_ne]; omega
        have hn : n2 = c2 := by rw [hn2'.out, decide_eq_false h2]; rfl
        subst hn
        clear hn2'
        go_wp2_with fail
        refine (hH2.out _).mono ?_
        rintro e w2 ⟨rfl, rfl⟩
        go_wp2_with fail
        go_meet
        exact ⟨rfl, rfl⟩
      case rest =>
       obtain ⟨rfl, hw⟩ := hcut
       obtain rfl : wr = wc := hw.symm
       clear hn1' hn2' hH1 hH2 a9 a10
       cases ok with
       | false =>
        go_wp2_with fail
        refine wp_region_segs (fun w' => AskAt w' ba ⟨kind, request, item, qty, day, days, rank, lot, line, parts, others⟩ ⟨⟨PA, Pn, Pc⟩, ⟨OA, On, Oc⟩⟩ ∧ AskAt w' bb ⟨xk, xr, xi, xq, xd, xl, xa, xt, xn, xp, xo⟩ AskS.nil) (segT [0, 1, 2, 3, 4, 5, 6, 7, 8, 10] ++ segF [9, 11] ++ segT [12, 13, 14]) mixed (by kernel_rfl) (fun _ _ _ _ _ h => h) ?_
        simp only [segT, segF, pickSegs, zF, List.map_nil, zG, zH, List.filterMap_cons, List.filterMap_nil, zI, zJ, Option.map_some]
        have hS := And.intro (hXA.out.aa.fresh ((Turned.refl (fun _ => False) wr).drew)) (hXA.out.bare.fresh ((Turned.refl (fun _ => False) wr).drew))
        iterate 2 (refine wpSegs_take (v := ?_) hS rfl (fun w' hw => ?_) ?_; rotate_left; (obtain ⟨hA, hB⟩ := hw; obtain ⟨c0, c1, c2, c3, c4, c5, c6, c7, c8, c9, c10⟩ := hA.cells; obtain ⟨d0, d1, d2, d3, d4, d5, d6, d7, d8, d9, d10⟩ := hB.cells; simp only [AskS.nil, Sl.nil] at c0 c1 c2 c3 c4 c5 c6 c7 c8 c9 c10 d0 d1 d2 d3 d4 d5 d6 d7 d8 d9 d10; go_simp; try with_reducible rfl); (try simp only [Act.put, zA, zB, zC]))
        (refine wpSegs_skip hS rfl ?_; (try simp only [Act.put, zA, zB, zC]))
        iterate 2 (refine wpSegs_take (v := ?_) hS rfl (fun w' hw => ?_) ?_; rotate_left; (obtain ⟨hA, hB⟩ := hw; obtain ⟨c0, c1, c2, c3, c4, c5, c6, c7, c8, c9, c10⟩ := hA.cells; obtain ⟨d0, d1, d2, d3, d4, d5, d6, d7, d8, d9, d10⟩ := hB.cells; simp only [AskS.nil, Sl.nil] at c0 c1 c2 c3 c4 c5 c6 c7 c8 c9 c10 d0 d1 d2 d3 d4 d5 d6 d7 d8 d9 d10; go_simp; try with_reducible rfl); (try simp only [Act.put, zA, zB, zC]))
        (refine wpSegs_skip hS rfl ?_; (try simp only [Act.put, zA, zB, zC]))
        iterate 2 (refine wpSegs_take (v := ?_) hS rfl (fun w' hw => ?_) ?_; rotate_left; (obtain ⟨hA, hB⟩ := hw; obtain ⟨c0, c1, c2, c3, c4, c5, c6, c7, c8, c9, c10⟩ := hA.cells; obtain ⟨d0, d1, d2, d3, d4, d5, d6, d7, d8, d9, d10⟩ := hB.cells; simp only [AskS.nil, Sl.nil] at c0 c1 c2 c3 c4 c5 c6 c7 c8 c9 c10 d0 d1 d2 d3 d4 d5 d6 d7 d8 d9 d10; go_simp; try with_reducible rfl); (try simp only [Act.put, zA, zB, zC]))
        iterate 2 (refine wpSegs_skip hS rfl ?_; (try simp only [Act.put, zA, zB, zC]))
        iterate 2 (refine wpSegs_runSkip hS rfl ?_; (try simp only [Act.put, zA, zB, zC]))
        (refine wpSegs_skip hS rfl ?_; (try simp only [Act.put, zA, zB, zC]))
        iterate 2 (refine wpSegs_take (v := ?_) hS rfl (fun w' hw => ?_) ?_; rotate_left; (obtain ⟨hA, hB⟩ := hw; obtain ⟨c0, c1, c2, c3, c4, c5, c6, c7, c8, c9, c10⟩ := hA.cells; obtain ⟨d0, d1, d2, d3, d4, d5, d6, d7, d8, d9, d10⟩ := hB.cells; simp only [AskS.nil, Sl.nil] at c0 c1 c2 c3 c4 c5 c6 c7 c8 c9 c10 d0 d1 d2 d3 d4 d5 d6 d7 d8 d9 d10; go_simp; try with_reducible rfl); (try simp only [Act.put, zA, zB, zC]))
        refine wpSegs_nil ?_
        clear hS
        go_wp2_with fail
        go_ret
        refine ⟨ret_bool ?_, hXA.out.t.drew⟩
        rw [hE3.out]
        rfl
       | true =>
        cases n1 with
        | false =>
         go_wp2_with fail
         refine wp_region_segs (fun w' => AskAt w' ba ⟨kind, request, item, qty, day, days, rank, lot, line, parts, others⟩ ⟨⟨PA, Pn, Pc⟩, ⟨OA, On, Oc⟩⟩ ∧ AskAt w' bb ⟨xk, xr, xi, xq, xd, xl, xa, xt, xn, xp, xo⟩ AskS.nil) (segT [0, 1, 2, 3, 4, 5, 6, 7, 8, 10] ++ segF [9, 11] ++ segT [12, 13, 14]) mixed (by kernel_rfl) (fun _ _ _ _ _ h => h) ?_
         simp only [segT, segF, pickSegs, zF, List.map_nil, zG, zH, List.filterMap_cons, List.filterMap_nil, zI, zJ, Option.map_some]
         have hS := And.intro (hXA.out.aa.fresh ((Turned.refl (fun _ => False) wr).drew)) (hXA.out.bare.fresh ((Turned.refl (fun _ => False) wr).drew))
         iterate 5 (refine wpSegs_take (v := ?_) hS rfl (fun w' hw => ?_) ?_; rotate_left; (obtain ⟨hA, hB⟩ := hw; obtain ⟨c0, c1, c2, c3, c4, c5, c6, c7, c8, c9, c10⟩ := hA.cells; obtain ⟨d0, d1, d2, d3, d4, d5, d6, d7, d8, d9, d10⟩ := hB.cells; simp only [AskS.nil, Sl.nil] at c0 c1 c2 c3 c4 c5 c6 c7 c8 c9 c10 d0 d1 d2 d3 d4 d5 d6 d7 d8 d9 d10; go_simp; try with_reducible rfl); (try simp only [Act.put, zA, zB, zC]))
         (refine wpSegs_skip hS rfl ?_; (try simp only [Act.put, zA, zB, zC]))
         iterate 2 (refine wpSegs_take (v := ?_) hS rfl (fun w' hw => ?_) ?_; rotate_left; (obtain ⟨hA, hB⟩ := hw; obtain ⟨c0, c1, c2, c3, c4, c5, c6, c7, c8, c9, c10⟩ := hA.cells; obtain ⟨d0, d1, d2, d3, d4, d5, d6, d7, d8, d9, d10⟩ := hB.cells; simp only [AskS.nil, Sl.nil] at c0 c1 c2 c3 c4 c5 c6 c7 c8 c9 c10 d0 d1 d2 d3 d4 d5 d6 d7 d8 d9 d10; go_simp; try with_reducible rfl); (try simp only [Act.put, zA, zB, zC]))
         iterate 2 (refine wpSegs_skip hS rfl ?_; (try simp only [Act.put, zA, zB, zC]))
         iterate 2 (refine wpSegs_runSkip hS rfl ?_; (try simp only [Act.put, zA, zB, zC]))
         (refine wpSegs_skip hS rfl ?_; (try simp only [Act.put, zA, zB, zC]))
         iterate 2 (refine wpSegs_take (v := ?_) hS rfl (fun w' hw => ?_) ?_; rotate_left; (obtain ⟨hA, hB⟩ := hw; obtain ⟨c0, c1, c2, c3, c4, c5, c6, c7, c8, c9, c10⟩ := hA.cells; obtain ⟨d0, d1, d2, d3, d4, d5, d6, d7, d8, d9, d10⟩ := hB.cells; simp only [AskS.nil, Sl.nil] at c0 c1 c2 c3 c4 c5 c6 c7 c8 c9 c10 d0 d1 d2 d3 d4 d5 d6 d7 d8 d9 d10; go_simp; try with_reducible rfl); (try simp only [Act.put, zA, zB, zC]))
         refine wpSegs_nil ?_
         clear hS
         go_wp2_with fail
         go_ret
         refine ⟨ret_bool ?_, hXA.out.t.drew⟩
         rw [hE3.out]
         simp
        | true =>
         cases n2 with
         | false =>
          go_wp2_with fail
          refine wp_region_segs (fun w' => AskAt w' ba ⟨kind, request, item, qty, day, days, rank, lot, line, parts, others⟩ ⟨⟨PA, Pn, Pc⟩, ⟨OA, On, Oc⟩⟩ ∧ AskAt w' bb ⟨xk, xr, xi, xq, xd, xl, xa, xt, xn, xp, xo⟩ AskS.nil) (segT [0, 1, 2, 3, 4, 5, 6, 7, 8, 10] ++ segF [9, 11] ++ segT [12, 13, 14]) mixed (by kernel_rfl) (fun _ _ _ _ _ h => h) ?_
          simp only [segT, segF, pickSegs, zF, List.map_nil, zG, zH, List.filterMap_cons, List.filterMap_nil, zI, zJ, Option.map_some]
          have hS := And.intro (hXA.out.aa.fresh ((Turned.refl (fun _ => False) wr).drew)) (hXA.out.bare.fresh ((Turned.refl (fun _ => False) wr).drew))
          iterate 8 (refine wpSegs_take (v := ?_) hS rfl (fun w' hw => ?_) ?_; rotate_left; (obtain ⟨hA, hB⟩ := hw; obtain ⟨c0, c1, c2, c3, c4, c5, c6, c7, c8, c9, c10⟩ := hA.cells; obtain ⟨d0, d1, d2, d3, d4, d5, d6, d7, d8, d9, d10⟩ := hB.cells; simp only [AskS.nil, Sl.nil] at c0 c1 c2 c3 c4 c5 c6 c7 c8 c9 c10 d0 d1 d2 d3 d4 d5 d6 d7 d8 d9 d10; go_simp; try with_reducible rfl); (try simp only [Act.put, zA, zB, zC]))
          iterate 2 (refine wpSegs_skip hS rfl ?_; (try simp only [Act.put, zA, zB, zC]))
          iterate 2 (refine wpSegs_runSkip hS rfl ?_; (try simp only [Act.put, zA, zB, zC]))
          (refine wpSegs_skip hS rfl ?_; (try simp only [Act.put, zA, zB, zC]))
          iterate 2 (refine wpSegs_take (v := ?_) hS rfl (fun w' hw => ?_) ?_; rotate_left; (obtain ⟨hA, hB⟩ := hw; obtain ⟨c0, c1, c2, c3, c4, c5, c6, c7, c8, c9, c10⟩ := hA.cells; obtain ⟨d0, d1, d2, d3, d4, d5, d6, d7, d8, d9, d10⟩ := hB.cells; simp only [AskS.nil, Sl.nil] at c0 c1 c2 c3 c4 c5 c6 c7 c8 c9 c10 d0 d1 d2 d3 d4 d5 d6 d7 d8 d9 d10; go_simp; try with_reducible rfl); (try simp only [Act.put, zA, zB, zC]))
          refine wpSegs_nil ?_
          clear hS
          go_wp2_with fail
          go_ret
          refine ⟨ret_bool ?_, hXA.out.t.drew⟩
          rw [hE3.out]
          simp
         | true =>
          go_wp2_with fail
          refine wp_region_segs (fun w' => AskAt w' ba ⟨kind, request, item, qty, day, days, rank, lot, line, parts, others⟩ ⟨⟨PA, Pn, Pc⟩, ⟨OA, On, Oc⟩⟩ ∧ AskAt w' bb ⟨xk, xr, xi, xq, xd, xl, xa, xt, xn, xp, xo⟩ AskS.nil) (segT [0, 1, 2, 3, 4, 5, 6, 7, 8, 10] ++ segF [9, 11] ++ segT [12, 13, 14]) mixed (by kernel_rfl) (fun _ _ _ _ _ h => h) ?_
          simp only [segT, segF, pickSegs, zF, List.map_nil, zG, zH, List.filterMap_cons, List.filterMap_nil, zI, zJ, Option.map_some]
          have hS := And.intro (hXA.out.aa.fresh ((Turned.refl (fun _ => False) wr).drew)) (hXA.out.bare.fresh ((Turned.refl (fun _ => False) wr).drew))
          iterate 10 (refine wpSegs_take (v := ?_) hS rfl (fun w' hw => ?_) ?_; rotate_left; (obtain ⟨hA, hB⟩ := hw; obtain ⟨c0, c1, c2, c3, c4, c5, c6, c7, c8, c9, c10⟩ := hA.cells; obtain ⟨d0, d1, d2, d3, d4, d5, d6, d7, d8, d9, d10⟩ := hB.cells; simp only [AskS.nil, Sl.nil] at c0 c1 c2 c3 c4 c5 c6 c7 c8 c9 c10 d0 d1 d2 d3 d4 d5 d6 d7 d8 d9 d10; go_simp; try with_reducible rfl); (try simp only [Act.put, zA, zB, zC]))
          refine wpSegs_run rfl (fun K hK => ?_)
          go_simp
          refine (plain_any ⟨kind, request, item, qty, day, days, rank, lot, line, parts, others⟩ ⟨⟨PA, Pn, Pc⟩, ⟨OA, On, Oc⟩⟩ _).mono ?_
          rintro e w3 ⟨rfl, t3⟩
          have hS2 := And.intro (hS.1.fresh t3) (hS.2.fresh t3)
          have T3 := hZ ((hXA.out.t.drew.and_ t3))
          refine hK.out _ _ hS2 ?_
          clear hK K t3 hS
          refine wpSegs_run rfl (fun K hK => ?_)
          go_simp
          refine (plain_any ⟨xk, xr, xi, xq, xd, xl, xa, xt, xn, xp, xo⟩ AskS.nil _).mono ?_
          rintro e w4 ⟨rfl, t4⟩
          have hS := And.intro (hS2.1.fresh t4) (hS2.2.fresh t4)
          have T4 := hZ ((T3.out.and_ t4))
          refine hK.out _ _ hS ?_
          clear hK K t4 hS2 T3
          (refine wpSegs_take (v := .bool (plainB ⟨kind, request, item, qty, day, days, rank, lot, line, parts, others⟩ ⟨xk, xr, xi, xq, xd, xl, xa, xt, xn, xp, xo⟩)) hS rfl (fun w' hw => key_run ⟨kind, request, item, qty, day, days, rank, lot, line, parts, others⟩ ⟨xk, xr, xi, xq, xd, xl, xa, xt, xn, xp, xo⟩ _ _ _ _ rfl rfl rfl w') ?_; (try simp only [Act.put, zA, zB, zC]))
          iterate 2 (refine wpSegs_take (v := ?_) hS rfl (fun w' hw => ?_) ?_; rotate_left; (obtain ⟨hA, hB⟩ := hw; obtain ⟨c0, c1, c2, c3, c4, c5, c6, c7, c8, c9, c10⟩ := hA.cells; obtain ⟨d0, d1, d2, d3, d4, d5, d6, d7, d8, d9, d10⟩ := hB.cells; simp only [AskS.nil, Sl.nil] at c0 c1 c2 c3 c4 c5 c6 c7 c8 c9 c10 d0 d1 d2 d3 d4 d5 d6 d7 d8 d9 d10; go_simp; try with_reducible rfl); (try simp only [Act.put, zA, zB, zC]))
          refine wpSegs_nil ?_
          clear hS
          go_wp2_with fail
          go_ret
          refine ⟨ret_bool ?_, T4.out⟩
          rw [hE3.out]
          simp
end Go.Proofs.YtglojnmcbochaaaGreatDoor

