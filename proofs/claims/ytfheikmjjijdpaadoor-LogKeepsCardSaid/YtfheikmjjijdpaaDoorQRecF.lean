/-
  record.Put: a record's bytes. No condition but numbers.
-/
import Derived.Test.YtfheikmjjijdpaaDoorQRecC
import Derived.Test.YtfheikmjjijdpaaDoorQRecE
import Derived.Test.YtfheikmjjijdpaaDoorQBeP
namespace Go.Proofs.YtfheikmjjijdpaaDoor
open Go.RowKit Go.Maps
set_option linter.unusedVariables false
set_option linter.unusedSimpArgs false

/-- New bytes and an error's number. -/
def RPut (R : Rec) (w : World) (e : Ending) (w' : World) : Prop :=
  ∃ A c, e = .returned (.tuple #[.slice A (putR R).length c, .int .i64 (if rightR R = true then 0 else 2)]) ∧ OwnV w' A (putR R).length c (putR R) ∧ (∀ g, A = some ⟨g, 0, none⟩ → w.heap.size ≤ g) ∧ Turned (fun _ => False) w w'
/-- A record's cells, one by one. -/
structure RecAt (w : World) (b : Nat) (R : Rec) (S : RecS) : Prop where
  c0 : w.cell? ⟨b, 0, none⟩ = some (.int .i64 R.lsn)
  c1 : w.cell? ⟨b, 1, none⟩ = some (.int .i64 R.work)
  c2 : w.cell? ⟨b, 2, none⟩ = some (.int .i64 R.prev)
  c3 : w.cell? ⟨b, 3, none⟩ = some (.int .i64 R.next)
  c4 : w.cell? ⟨b, 4, none⟩ = some (.int .u8 R.kind)
  c5 : w.cell? ⟨b, 5, none⟩ = some (.int .i64 R.page)
  c6 : w.cell? ⟨b, 6, none⟩ = some (.slice S.K.A S.K.n S.K.c)
  c7 : w.cell? ⟨b, 7, none⟩ = some (.slice S.O.A S.O.n S.O.c)
  c8 : w.cell? ⟨b, 8, none⟩ = some (.slice S.N.A S.N.n S.N.c)
  c9 : w.cell? ⟨b, 9, none⟩ = some (.slice S.D.A S.D.n S.D.c)
  c10 : w.cell? ⟨b, 10, none⟩ = some (.slice S.P.A S.P.n S.P.c)
theorem RecAt.of_blk {w : World} {b : Nat} {T : TypeId} {R : Rec} {S : RecS} (h : Blk w b T (recC R S)) : RecAt w b R S := ⟨h.cell 0, h.cell 1, h.cell 2, h.cell 3, h.cell 4, h.cell 5, h.cell 6, h.cell 7, h.cell 8, h.cell 9, h.cell 10⟩
theorem RecAt.below {w w' : World} {b B : Nat} {R : Rec} {S : RecS} (h : RecAt w b R S) (hb : Below B w w') (hlt : b < B) : RecAt w' b R S :=
  ⟨(hb.cell (p := ⟨b, 0, none⟩) hlt).trans h.c0, (hb.cell (p := ⟨b, 1, none⟩) hlt).trans h.c1, (hb.cell (p := ⟨b, 2, none⟩) hlt).trans h.c2, (hb.cell (p := ⟨b, 3, none⟩) hlt).trans h.c3, (hb.cell (p := ⟨b, 4, none⟩) hlt).trans h.c4, (hb.cell (p := ⟨b, 5, none⟩) hlt).trans h.c5,
    (hb.cell (p := ⟨b, 6, none⟩) hlt).trans h.c6, (hb.cell (p := ⟨b, 7, none⟩) hlt).trans h.c7, (hb.cell (p := ⟨b, 8, none⟩) hlt).trans h.c8, (hb.cell (p := ⟨b, 9, none⟩) hlt).trans h.c9, (hb.cell (p := ⟨b, 10, none⟩) hlt).trans h.c10⟩
theorem news_newB (w : World) (zs : List Int) : ∀ j u, (u8s zs)[j]? = some u → (w.alloc (.cells (u8s zs).toArray 5)).cell? ((⟨w.heap.size, 0, none⟩ : Addr).add j) = some u := by
  intro j u hu
  rw [Addr.add_mid, Nat.zero_add, (Blk.new w 5 (u8s zs).toArray).cell]
  simpa using hu
theorem rput_no {R : Rec} (h : rightR R = false) : putR R = [] := by unfold putR; rw [h]; rfl
theorem rput_yes {R : Rec} (h : rightR R = true) : putR R = be 2 (bodyL R).length ++ bodyL R := by unfold putR; rw [if_pos h]
theorem be2_eq (n : Nat) : be 2 (n : Int) = [(n : Int) / 256 % 256, (n : Int) % 256] := by
  unfold be beTo beAt
  simp [List.range_succ]
set_option maxRecDepth 100000 in
set_option maxHeartbeats 1000000 in
theorem put_no (R : Rec) (S : RecS) (w : World) (h : RecIs w R S) (hr : rightR R = false) : Calls Tryd.prog 12 #[.agg (recC R S)] w (RPut R w) := by
  have mixed : Tryd.prog.follows .mixedOrders = true := by kernel_rfl
  have hRt := Lib.hid (fun (w' : World) (t : Turned (fun _ => False) w w') => right_any R S w' (h.fresh t))
  rw [hr] at hRt
  have hI := Lib.hid h
  have hr' := Lib.hid hr
  clear h hr
  obtain ⟨lsn, work, prev, next, kind, page, key, old, new, dirty, opn⟩ := R
  obtain ⟨⟨KA, Kn, Kc⟩, ⟨OA, On, Oc⟩, ⟨NA, Nn, Nc⟩, ⟨DA, Dn, Dc⟩, ⟨PA, Pn, Pc⟩⟩ := S
  have hB0 := Blk.new w 39 (recC ⟨lsn, work, prev, next, kind, page, key, old, new, dirty, opn⟩ ⟨⟨KA, Kn, Kc⟩, ⟨OA, On, Oc⟩, ⟨NA, Nn, Nc⟩, ⟨DA, Dn, Dc⟩, ⟨PA, Pn, Pc⟩⟩)
  have hT0 := Lib.hid ((Turned.refl (fun _ => False) w).alloc (.cells (recC ⟨lsn, work, prev, next, kind, page, key, old, new, dirty, opn⟩ ⟨⟨KA, Kn, Kc⟩, ⟨OA, On, Oc⟩, ⟨NA, Nn, Nc⟩, ⟨DA, Dn, Dc⟩, ⟨PA, Pn, Pc⟩⟩) 39))
  have hsz0 : (w.alloc (.cells (recC ⟨lsn, work, prev, next, kind, page, key, old, new, dirty, opn⟩ ⟨⟨KA, Kn, Kc⟩, ⟨OA, On, Oc⟩, ⟨NA, Nn, Nc⟩, ⟨DA, Dn, Dc⟩, ⟨PA, Pn, Pc⟩⟩) 39)).heap.size = w.heap.size + 1 := by simp
  unfold recC at *
  simp only at hRt hB0 hT0 hsz0 ⊢
  have hA0 := Lib.hid (RecAt.of_blk (R := ⟨lsn, work, prev, next, kind, page, key, old, new, dirty, opn⟩) (S := ⟨⟨KA, Kn, Kc⟩, ⟨OA, On, Oc⟩, ⟨NA, Nn, Nc⟩, ⟨DA, Dn, Dc⟩, ⟨PA, Pn, Pc⟩⟩) hB0)
  clear hB0
  go_enter Tryd.func12, Tryd.ntmps12
  go_wp2_with fail
  generalize w.alloc (.cells #[.int .i64 lsn, .int .i64 work, .int .i64 prev, .int .i64 next, .int .u8 kind, .int .i64 page, .slice KA Kn Kc, .slice OA On Oc, .slice NA Nn Nc, .slice DA Dn Dc, .slice PA Pn Pc] 39) = w0 at *
  generalize hB : w.heap.size + 1 = B at *
  refine (hRt.out w0 hT0.out).mono ?_
  rintro e w1 ⟨rfl, t1⟩
  have T1 := Lib.hid (hT0.out.and_ t1)
  clear t1
  go_wp2_with fail
  go_ret2
  unfold RPut
  rw [rput_no hr'.out, hr'.out]
  exact ⟨none, 0, rfl, OwnV.nil _, (fun g e => by cases e), T1.out⟩
theorem SlB.far {w : World} {s : Sl} {zs : List Int} {B : Nat} (h : SlB w s zs) (hB : w.heap.size ≤ B) : 0 < s.n → ∀ g o, s.A = some ⟨g, o, none⟩ → g < B := by
  intro h0 g o e
  obtain ⟨b, off, e2, hc⟩ := h.bytS.cell h0
  rw [e] at e2
  injection e2 with e2
  injection e2 with e3 e4
  subst e3 e4
  have := World.block_lt_of_cell? w ⟨g, o + 0, none⟩ (hc 0 h0)
  exact Nat.lt_of_lt_of_le this hB
def PutRel (B b : Nat) (w0 : World) (z : List Int) (a : Nat) (l : List (Int × Int)) (n : Nat) (i : Value) (wr : World) : Prop :=
  ∃ j : Nat, j ≤ n ∧ i = .int .i64 j ∧ BufW B b (z ++ (l.take j).flatMap (pairL a)) wr ∧ Below B w0 wr
theorem take_getD_succ (l : List (Int × Int)) (j : Nat) (h : j < l.length) : l.take (j + 1) = l.take j ++ [(fstAt l j, sndAt l j)] := by
  have e : (fstAt l j, sndAt l j) = l[j] := by
    unfold fstAt sndAt
    simp [List.getD_eq_getElem?_getD, h]
  rw [List.take_succ_eq_append_getElem h, e]
theorem PutRel.next {B b a n j : Nat} {w0 w' : World} {z : List Int} {l : List (Int × Int)} (hj : j < n) (hl : l.length = n) (hb : BufW B b (z ++ (l.take j).flatMap (pairL a) ++ be a (fstAt l j) ++ be 8 (sndAt l j)) w') (hbel : Below B w0 w') : PutRel B b w0 z a l n (.int .i64 ((j + 1 : Nat) : Int)) w' :=
  ⟨j + 1, hj, rfl, by
    rw [take_getD_succ l j (by omega), List.flatMap_append]
    simp only [List.flatMap_cons, List.flatMap_nil, List.append_nil, pairL]
    rw [← List.append_assoc, ← List.append_assoc]
    exact hb, hbel⟩
theorem take_flat_le (a : Nat) (l : List (Int × Int)) (j n : Nat) (hl : l.length ≤ n) : ((l.take j).flatMap (pairL a)).length ≤ (a + 8) * n := by
  rw [flat_le]
  exact Nat.mul_le_mul_left _ (by rw [List.length_take]; omega)
/-- What stands in the buffer in the end, its first two bytes told. -/
theorem fin_put {R : Rec} {z : List Int} (hr : rightR R = true) (hz : z = 0 :: 0 :: bodyL R) (m : Nat) (hm : z.length = m) (hm1 : 2 ≤ m) (hm2 : m ≤ 1000) : (z.set 0 (((m : Int) - 2) / 256)).set 1 (((m : Int) - 2) % 256) = putR R := by
  rw [show ((m : Int) - 2) / 256 = ((m : Int) - 2) / 256 % 256 by omega]
  subst hz
  rw [rput_yes hr, be2_eq]
  rw [← hm, List.length_cons, List.length_cons]
  rw [show (((bodyL R).length + 1 + 1 : Nat) : Int) - 2 = ((bodyL R).length : Int) by omega]
  rfl
set_option maxRecDepth 100000 in
set_option maxHeartbeats 4000000 in
theorem put_3 (R : Rec) (S : RecS) (w : World) (h : RecIs w R S) (hr : rightR R = true) (hk : R.kind = 3) : Calls Tryd.prog 12 #[.agg (recC R S)] w (RPut R w) := by
  have mixed : Tryd.prog.follows .mixedOrders = true := by kernel_rfl
  have hRt := Lib.hid (fun (w' : World) (t : Turned (fun _ => False) w w') => right_any R S w' (h.fresh t))
  rw [hr] at hRt
  have hI := Lib.hid h
  have hr' := Lib.hid hr
  clear h hr
  obtain ⟨lsn, work, prev, next, kind, page, key, old, new, dirty, opn⟩ := R
  obtain ⟨⟨KA, Kn, Kc⟩, ⟨OA, On, Oc⟩, ⟨NA, Nn, Nc⟩, ⟨DA, Dn, Dc⟩, ⟨PA, Pn, Pc⟩⟩ := S
  simp only at hk
  subst hk
  have hB0 := Blk.new w 39 (recC ⟨lsn, work, prev, next, 3, page, key, old, new, dirty, opn⟩ ⟨⟨KA, Kn, Kc⟩, ⟨OA, On, Oc⟩, ⟨NA, Nn, Nc⟩, ⟨DA, Dn, Dc⟩, ⟨PA, Pn, Pc⟩⟩)
  have hT0 := Lib.hid ((Turned.refl (fun _ => False) w).alloc (.cells (recC ⟨lsn, work, prev, next, 3, page, key, old, new, dirty, opn⟩ ⟨⟨KA, Kn, Kc⟩, ⟨OA, On, Oc⟩, ⟨NA, Nn, Nc⟩, ⟨DA, Dn, Dc⟩, ⟨PA, Pn, Pc⟩⟩) 39))
  have hsz0 : (w.alloc (.cells (recC ⟨lsn, work, prev, next, 3, page, key, old, new, dirty, opn⟩ ⟨⟨KA, Kn, Kc⟩, ⟨OA, On, Oc⟩, ⟨NA, Nn, Nc⟩, ⟨DA, Dn, Dc⟩, ⟨PA, Pn, Pc⟩⟩) 39)).heap.size = w.heap.size + 1 := by simp
  unfold recC at *
  simp only at hRt hB0 hT0 hsz0 ⊢
  have hA0 := Lib.hid (RecAt.of_blk (R := ⟨lsn, work, prev, next, 3, page, key, old, new, dirty, opn⟩) (S := ⟨⟨KA, Kn, Kc⟩, ⟨OA, On, Oc⟩, ⟨NA, Nn, Nc⟩, ⟨DA, Dn, Dc⟩, ⟨PA, Pn, Pc⟩⟩) hB0)
  clear hB0
  go_enter Tryd.func12, Tryd.ntmps12
  go_wp2_with fail
  generalize w.alloc (.cells #[.int .i64 lsn, .int .i64 work, .int .i64 prev, .int .i64 next, .int .u8 3, .int .i64 page, .slice KA Kn Kc, .slice OA On Oc, .slice NA Nn Nc, .slice DA Dn Dc, .slice PA Pn Pc] 39) = w0 at *
  generalize hB : w.heap.size + 1 = B at *
  refine (hRt.out w0 hT0.out).mono ?_
  rintro e w1 ⟨rfl, t1⟩
  have hTB := Lib.hid (fun (w' : World) (h : Below B w0 w') => (show Turned (fun _ => False) w0 w' from Turned.of_below (by rw [hsz0]; exact h) _))
  have hkz : Kn = 0 := by
    have hb : bareB ⟨lsn, work, prev, next, 3, page, key, old, new, dirty, opn⟩ = true := by
      have := hr'.out
      unfold rightR kindB at this
      simp [bareB] at this
      simp [bareB, this]
    have hkl := hI.out.key.len
    rw [(bareB_nil hb).1] at hkl
    simp at hkl
    omega
  have hkz1 : decide ((0 : Int) < (Kn : Int)) = false := by simp; omega
  have hkz2 : decide (0 < Kn) = false := by simp; omega
  clear hkz
  have L1 := Lib.hid (show Below B w0 w1 from hsz0 ▸ t1.below (fun _ e => e.elim))
  have hs1 : B ≤ w1.heap.size := by have := t1.size; omega
  clear t1 hRt
  have hrB : w.heap.size < B := by omega
  obtain ⟨c0, c1, c2, c3, c4, c5, c6, c7, c8, c9, c10⟩ := hA0.out.below L1.out hrB
  simp only at c0 c1 c2 c3 c4 c5 c6 c7 c8 c9 c10
  go_wp2_with fail
  refine wp_region_segs (fun w' => w'.cell? ⟨w.heap.size, 4, none⟩ = some (.int .u8 3)) (segT [0, 1, 2, 3, 4] ++ segF [5, 6]) mixed (by kernel_rfl) (fun _ _ _ _ _ h => h) ?_
  simp only [segT, segF, pickSegs, List.map_cons, List.map_nil, List.cons_append, List.nil_append, List.filterMap_cons, List.filterMap_nil, List.getElem?_cons_zero, List.getElem?_cons_succ, Option.map_some]
  have tA := (Turned.refl (fun _ => False) w1).alloc (.cells #[.slice none 0 0, .int .i64 0, .int .i8 0] 88)
  have tB := tA.alloc (.cells #[.int .u8 0, .int .u8 0, .int .u8 3] 5)
  have c4n := cell_turned tA c4 (fun e => e)
  have c4m := cell_turned tB c4 (fun e => e)
  iterate 5 (refine wpSegs_take (v := ?_) c4n rfl (fun w' hw => ?_) ?_; rotate_left; (go_simp; try with_reducible rfl); try simp only [Act.put, List.setIfInBounds_toArray, List.set_cons_zero, List.set_cons_succ])
  refine wpSegs_run rfl (fun K hK => ?_)
  go_simp
  refine hK.out _ _ c4m ?_
  clear hK K
  refine wpSegs_run rfl (fun K hK => ?_)
  go_simp
  have hbf : BufW B w1.heap.size [] ((w1.alloc (.cells #[.slice none 0 0, .int .i64 0, .int .i8 0] 88)).alloc (.cells #[.int .u8 0, .int .u8 0, .int .u8 3] 5)) := ((BufW.new w1).base hs1).alloc _
  have hnw := news_newB (w1.alloc (.cells #[.slice none 0 0, .int .i64 0, .int .i8 0] 88)) [0, 0, 3]
  have hsx : (w1.alloc (.cells #[.slice none 0 0, .int .i64 0, .int .i8 0] 88)).heap.size = w1.heap.size + 1 := by simp
  rw [hsx] at hnw
  refine (write_any B w1.heap.size [] [0, 0, 3] ⟨w1.heap.size + 1, 0, none⟩ 3 3 _ (hbf.drewN 1) (by simp; omega) (by decide) rfl (by omega) (by show w1.heap.size + 1 ≠ w1.heap.size; omega) hnw).mono ?_
  rintro e w2 ⟨rfl, b2, l2, o2⟩
  have l2b : Below B w1 w2 := (((Below.refl B w1).alloc hs1 (.cells #[.slice none 0 0, .int .i64 0, .int .i8 0] 88)).alloc (by rw [hsx]; omega) (.cells #[.int .u8 0, .int .u8 0, .int .u8 3] 5)).trans (⟨l2.os, l2.tape, l2.output, l2.size, l2.block⟩)
  have L2 := Lib.hid (L1.out.trans l2b)
  have B2 := Lib.hid b2
  have hs2 := Nat.le_trans hs1 l2b.size
  have hb1 : B ≤ w1.heap.size := hs1
  clear b2 l2 o2 l2b hbf hnw hsx tA tB c4n c4m
  clear c0 c1 c2 c3 c4 c5 c6 c7 c8 c9 c10
  obtain ⟨c0, c1, c2, c3, c4, c5, c6, c7, c8, c9, c10⟩ := hA0.out.below L2.out hrB
  simp only at c0 c1 c2 c3 c4 c5 c6 c7 c8 c9 c10
  refine hK.out _ _ c4 ?_
  clear hK K
  refine wpSegs_nil ?_
  go_wp2_with fail
  have hz2 : ([(0 : Int), 0, 3]).length ≤ 3 := by simp only [List.length_append, be_length, List.length_cons, List.length_nil]; omega
  refine (wnumber_any B w1.heap.size ([(0 : Int), 0, 3]) _ 8 _ B2.out hs2 (by omega) (by omega)).mono ?_
  rintro e w3 ⟨rfl, b3, l3, o3⟩
  have L3 := Lib.hid (L2.out.trans l3)
  have B3 := Lib.hid b3
  have hs3 := Nat.le_trans hs2 l3.size
  clear b3 l3 o3 B2 L2 hz2
  clear c0 c1 c2 c3 c4 c5 c6 c7 c8 c9 c10
  obtain ⟨c0, c1, c2, c3, c4, c5, c6, c7, c8, c9, c10⟩ := hA0.out.below L3.out hrB
  simp only at c0 c1 c2 c3 c4 c5 c6 c7 c8 c9 c10
  go_wp2_with fail
  have hz3 : ([(0 : Int), 0, 3] ++ be 8 work).length ≤ 11 := by simp only [List.length_append, be_length, List.length_cons, List.length_nil]; omega
  refine (wnumber_any B w1.heap.size ([(0 : Int), 0, 3] ++ be 8 work) _ 8 _ B3.out hs3 (by omega) (by omega)).mono ?_
  rintro e w4 ⟨rfl, b4, l4, o4⟩
  have L4 := Lib.hid (L3.out.trans l4)
  have B4 := Lib.hid b4
  have hs4 := Nat.le_trans hs3 l4.size
  clear b4 l4 o4 B3 L3 hz3
  clear c0 c1 c2 c3 c4 c5 c6 c7 c8 c9 c10
  obtain ⟨c0, c1, c2, c3, c4, c5, c6, c7, c8, c9, c10⟩ := hA0.out.below L4.out hrB
  simp only at c0 c1 c2 c3 c4 c5 c6 c7 c8 c9 c10
  go_wp2_with fail
  have hzz : ([(0 : Int), 0, 3] ++ be 8 work ++ be 8 prev) = 0 :: 0 :: bodyL ⟨lsn, work, prev, next, 3, page, key, old, new, dirty, opn⟩ := by simp [bodyL, restL, turnL, listL]
  have hzl : ([(0 : Int), 0, 3] ++ be 8 work ++ be 8 prev).length ≤ 19 := by simp only [List.length_append, be_length, List.length_cons, List.length_nil, rowL_length]; omega
  generalize hzg : ([(0 : Int), 0, 3] ++ be 8 work ++ be 8 prev) = z at *
  clear hzg
  refine (bytes_any B w1.heap.size z _ B4.out (by rw [hzz]; simp)).mono ?_
  rintro e wk ⟨g, cap, rfl, hrow, hBg, hgb, nq, rfl⟩
  have hm2 : 2 ≤ z.length := by rw [hzz]; simp
  have hfp := Lib.hid (fun (m : Nat) (hm : z.length = m) => fin_put hr'.out hzz m hm)
  have hz01 : z.getD 0 0 = 0 ∧ z.getD 1 0 = 0 := by rw [hzz]; exact ⟨rfl, rfl⟩
  obtain ⟨m, hm⟩ : ∃ m, m = z.length := ⟨_, rfl⟩
  rw [← hm] at hrow hm2 hzl ⊢
  have hfp' := Lib.hid (hfp.out m hm.symm hm2 (by omega))
  have hm' := Lib.hid hm
  have q0 := hrow.cell (i := 0) (by omega)
  have q1 := hrow.cell (i := 1) (by omega)
  rw [hz01.1] at q0
  rw [hz01.2] at q1
  have f0 := hrow.frozen 0
  have f1 := hrow.frozen 1
  have hmi : (2 : Int) ≤ (m : Int) := by omega
  have hmi2 : (m : Int) ≤ 1000 := by omega
  have hm1k : m ≤ 1000 := by omega
  clear hzl
  have hle := hrow.le
  have hrow' := Lib.hid hrow
  have HB := Lib.hid hBg
  have T4 := Lib.hid (hT0.out.and_ (hTB.out _ L4.out))
  clear hrow hz01 hm hzz hfp hBg B4 hgb
  clear c0 c1 c2 c3 c4 c5 c6 c7 c8 c9 c10
  go_wp2_with fail
  have hR2 := ((hrow'.out.turned ((Turned.refl (fun _ => False) w4).drewN nq) (fun e => e)).set 0 (((m : Int) - 2) / 256)).set 1 (((m : Int) - 2) % 256)
  rw [hfp'.out] at hR2
  have tS := (((Turned.refl (fun k => k = g) w4).drewN nq).setCell (p := ⟨g, 0, none⟩) (.inl rfl) (.int .u8 (((m : Int) - 2) / 256))).setCell (p := ⟨g, 1, none⟩) (.inl rfl) (.int .u8 (((m : Int) - 2) % 256))
  have T4s := Lib.hid (T4.out.trans (W := fun _ => False) tS (fun _ e => e) (fun k e => .inr (by have := HB.out; omega)))
  have hR2' := Lib.hid hR2
  clear hR2 tS q0 q1 f0 f1
  refine (clone_any (some ⟨g, 0, none⟩) m cap (putR _) _ (hR2'.out.bytS cap) (by omega)).mono ?_
  rintro e wl ⟨A, c, rfl, oL, gL, tL⟩
  have FL := Lib.hid (And.intro oL (And.intro gL (T4s.out.and_ tL)))
  have hsL := T4s.out.size
  clear oL gL tL
  go_wp2_with fail
  go_ret2
  unfold RPut
  rw [hr'.out]
  exact ⟨A, c, rfl, FL.out.1, fun g' e => Nat.le_trans hsL (FL.out.2.1 g' e), FL.out.2.2⟩
set_option maxRecDepth 100000 in
set_option maxHeartbeats 4000000 in
theorem put_4 (R : Rec) (S : RecS) (w : World) (h : RecIs w R S) (hr : rightR R = true) (hk : R.kind = 4) : Calls Tryd.prog 12 #[.agg (recC R S)] w (RPut R w) := by
  have mixed : Tryd.prog.follows .mixedOrders = true := by kernel_rfl
  have hRt := Lib.hid (fun (w' : World) (t : Turned (fun _ => False) w w') => right_any R S w' (h.fresh t))
  rw [hr] at hRt
  have hI := Lib.hid h
  have hr' := Lib.hid hr
  clear h hr
  obtain ⟨lsn, work, prev, next, kind, page, key, old, new, dirty, opn⟩ := R
  obtain ⟨⟨KA, Kn, Kc⟩, ⟨OA, On, Oc⟩, ⟨NA, Nn, Nc⟩, ⟨DA, Dn, Dc⟩, ⟨PA, Pn, Pc⟩⟩ := S
  simp only at hk
  subst hk
  have hB0 := Blk.new w 39 (recC ⟨lsn, work, prev, next, 4, page, key, old, new, dirty, opn⟩ ⟨⟨KA, Kn, Kc⟩, ⟨OA, On, Oc⟩, ⟨NA, Nn, Nc⟩, ⟨DA, Dn, Dc⟩, ⟨PA, Pn, Pc⟩⟩)
  have hT0 := Lib.hid ((Turned.refl (fun _ => False) w).alloc (.cells (recC ⟨lsn, work, prev, next, 4, page, key, old, new, dirty, opn⟩ ⟨⟨KA, Kn, Kc⟩, ⟨OA, On, Oc⟩, ⟨NA, Nn, Nc⟩, ⟨DA, Dn, Dc⟩, ⟨PA, Pn, Pc⟩⟩) 39))
  have hsz0 : (w.alloc (.cells (recC ⟨lsn, work, prev, next, 4, page, key, old, new, dirty, opn⟩ ⟨⟨KA, Kn, Kc⟩, ⟨OA, On, Oc⟩, ⟨NA, Nn, Nc⟩, ⟨DA, Dn, Dc⟩, ⟨PA, Pn, Pc⟩⟩) 39)).heap.size = w.heap.size + 1 := by simp
  unfold recC at *
  simp only at hRt hB0 hT0 hsz0 ⊢
  have hA0 := Lib.hid (RecAt.of_blk (R := ⟨lsn, work, prev, next, 4, page, key, old, new, dirty, opn⟩) (S := ⟨⟨KA, Kn, Kc⟩, ⟨OA, On, Oc⟩, ⟨NA, Nn, Nc⟩, ⟨DA, Dn, Dc⟩, ⟨PA, Pn, Pc⟩⟩) hB0)
  clear hB0
  go_enter Tryd.func12, Tryd.ntmps12
  go_wp2_with fail
  generalize w.alloc (.cells #[.int .i64 lsn, .int .i64 work, .int .i64 prev, .int .i64 next, .int .u8 4, .int .i64 page, .slice KA Kn Kc, .slice OA On Oc, .slice NA Nn Nc, .slice DA Dn Dc, .slice PA Pn Pc] 39) = w0 at *
  generalize hB : w.heap.size + 1 = B at *
  refine (hRt.out w0 hT0.out).mono ?_
  rintro e w1 ⟨rfl, t1⟩
  have hTB := Lib.hid (fun (w' : World) (h : Below B w0 w') => (show Turned (fun _ => False) w0 w' from Turned.of_below (by rw [hsz0]; exact h) _))
  have hkz : Kn = 0 := by
    have hb : bareB ⟨lsn, work, prev, next, 4, page, key, old, new, dirty, opn⟩ = true := by
      have := hr'.out
      unfold rightR kindB at this
      simp [bareB] at this
      simp [bareB, this]
    have hkl := hI.out.key.len
    rw [(bareB_nil hb).1] at hkl
    simp at hkl
    omega
  have hkz1 : decide ((0 : Int) < (Kn : Int)) = false := by simp; omega
  have hkz2 : decide (0 < Kn) = false := by simp; omega
  clear hkz
  have L1 := Lib.hid (show Below B w0 w1 from hsz0 ▸ t1.below (fun _ e => e.elim))
  have hs1 : B ≤ w1.heap.size := by have := t1.size; omega
  clear t1 hRt
  have hrB : w.heap.size < B := by omega
  obtain ⟨c0, c1, c2, c3, c4, c5, c6, c7, c8, c9, c10⟩ := hA0.out.below L1.out hrB
  simp only at c0 c1 c2 c3 c4 c5 c6 c7 c8 c9 c10
  go_wp2_with fail
  refine wp_region_segs (fun w' => w'.cell? ⟨w.heap.size, 4, none⟩ = some (.int .u8 4)) (segT [0, 1, 2, 3, 4] ++ segF [5, 6]) mixed (by kernel_rfl) (fun _ _ _ _ _ h => h) ?_
  simp only [segT, segF, pickSegs, List.map_cons, List.map_nil, List.cons_append, List.nil_append, List.filterMap_cons, List.filterMap_nil, List.getElem?_cons_zero, List.getElem?_cons_succ, Option.map_some]
  have tA := (Turned.refl (fun _ => False) w1).alloc (.cells #[.slice none 0 0, .int .i64 0, .int .i8 0] 88)
  have tB := tA.alloc (.cells #[.int .u8 0, .int .u8 0, .int .u8 4] 5)
  have c4n := cell_turned tA c4 (fun e => e)
  have c4m := cell_turned tB c4 (fun e => e)
  iterate 5 (refine wpSegs_take (v := ?_) c4n rfl (fun w' hw => ?_) ?_; rotate_left; (go_simp; try with_reducible rfl); try simp only [Act.put, List.setIfInBounds_toArray, List.set_cons_zero, List.set_cons_succ])
  refine wpSegs_run rfl (fun K hK => ?_)
  go_simp
  refine hK.out _ _ c4m ?_
  clear hK K
  refine wpSegs_run rfl (fun K hK => ?_)
  go_simp
  have hbf : BufW B w1.heap.size [] ((w1.alloc (.cells #[.slice none 0 0, .int .i64 0, .int .i8 0] 88)).alloc (.cells #[.int .u8 0, .int .u8 0, .int .u8 4] 5)) := ((BufW.new w1).base hs1).alloc _
  have hnw := news_newB (w1.alloc (.cells #[.slice none 0 0, .int .i64 0, .int .i8 0] 88)) [0, 0, 4]
  have hsx : (w1.alloc (.cells #[.slice none 0 0, .int .i64 0, .int .i8 0] 88)).heap.size = w1.heap.size + 1 := by simp
  rw [hsx] at hnw
  refine (write_any B w1.heap.size [] [0, 0, 4] ⟨w1.heap.size + 1, 0, none⟩ 3 3 _ (hbf.drewN 1) (by simp; omega) (by decide) rfl (by omega) (by show w1.heap.size + 1 ≠ w1.heap.size; omega) hnw).mono ?_
  rintro e w2 ⟨rfl, b2, l2, o2⟩
  have l2b : Below B w1 w2 := (((Below.refl B w1).alloc hs1 (.cells #[.slice none 0 0, .int .i64 0, .int .i8 0] 88)).alloc (by rw [hsx]; omega) (.cells #[.int .u8 0, .int .u8 0, .int .u8 4] 5)).trans (⟨l2.os, l2.tape, l2.output, l2.size, l2.block⟩)
  have L2 := Lib.hid (L1.out.trans l2b)
  have B2 := Lib.hid b2
  have hs2 := Nat.le_trans hs1 l2b.size
  have hb1 : B ≤ w1.heap.size := hs1
  clear b2 l2 o2 l2b hbf hnw hsx tA tB c4n c4m
  clear c0 c1 c2 c3 c4 c5 c6 c7 c8 c9 c10
  obtain ⟨c0, c1, c2, c3, c4, c5, c6, c7, c8, c9, c10⟩ := hA0.out.below L2.out hrB
  simp only at c0 c1 c2 c3 c4 c5 c6 c7 c8 c9 c10
  refine hK.out _ _ c4 ?_
  clear hK K
  refine wpSegs_nil ?_
  go_wp2_with fail
  have hz2 : ([(0 : Int), 0, 4]).length ≤ 3 := by simp only [List.length_append, be_length, List.length_cons, List.length_nil]; omega
  refine (wnumber_any B w1.heap.size ([(0 : Int), 0, 4]) _ 8 _ B2.out hs2 (by omega) (by omega)).mono ?_
  rintro e w3 ⟨rfl, b3, l3, o3⟩
  have L3 := Lib.hid (L2.out.trans l3)
  have B3 := Lib.hid b3
  have hs3 := Nat.le_trans hs2 l3.size
  clear b3 l3 o3 B2 L2 hz2
  clear c0 c1 c2 c3 c4 c5 c6 c7 c8 c9 c10
  obtain ⟨c0, c1, c2, c3, c4, c5, c6, c7, c8, c9, c10⟩ := hA0.out.below L3.out hrB
  simp only at c0 c1 c2 c3 c4 c5 c6 c7 c8 c9 c10
  go_wp2_with fail
  have hz3 : ([(0 : Int), 0, 4] ++ be 8 work).length ≤ 11 := by simp only [List.length_append, be_length, List.length_cons, List.length_nil]; omega
  refine (wnumber_any B w1.heap.size ([(0 : Int), 0, 4] ++ be 8 work) _ 8 _ B3.out hs3 (by omega) (by omega)).mono ?_
  rintro e w4 ⟨rfl, b4, l4, o4⟩
  have L4 := Lib.hid (L3.out.trans l4)
  have B4 := Lib.hid b4
  have hs4 := Nat.le_trans hs3 l4.size
  clear b4 l4 o4 B3 L3 hz3
  clear c0 c1 c2 c3 c4 c5 c6 c7 c8 c9 c10
  obtain ⟨c0, c1, c2, c3, c4, c5, c6, c7, c8, c9, c10⟩ := hA0.out.below L4.out hrB
  simp only at c0 c1 c2 c3 c4 c5 c6 c7 c8 c9 c10
  go_wp2_with fail
  have hzz : ([(0 : Int), 0, 4] ++ be 8 work ++ be 8 prev) = 0 :: 0 :: bodyL ⟨lsn, work, prev, next, 4, page, key, old, new, dirty, opn⟩ := by simp [bodyL, restL, turnL, listL]
  have hzl : ([(0 : Int), 0, 4] ++ be 8 work ++ be 8 prev).length ≤ 19 := by simp only [List.length_append, be_length, List.length_cons, List.length_nil, rowL_length]; omega
  generalize hzg : ([(0 : Int), 0, 4] ++ be 8 work ++ be 8 prev) = z at *
  clear hzg
  refine (bytes_any B w1.heap.size z _ B4.out (by rw [hzz]; simp)).mono ?_
  rintro e wk ⟨g, cap, rfl, hrow, hBg, hgb, nq, rfl⟩
  have hm2 : 2 ≤ z.length := by rw [hzz]; simp
  have hfp := Lib.hid (fun (m : Nat) (hm : z.length = m) => fin_put hr'.out hzz m hm)
  have hz01 : z.getD 0 0 = 0 ∧ z.getD 1 0 = 0 := by rw [hzz]; exact ⟨rfl, rfl⟩
  obtain ⟨m, hm⟩ : ∃ m, m = z.length := ⟨_, rfl⟩
  rw [← hm] at hrow hm2 hzl ⊢
  have hfp' := Lib.hid (hfp.out m hm.symm hm2 (by omega))
  have hm' := Lib.hid hm
  have q0 := hrow.cell (i := 0) (by omega)
  have q1 := hrow.cell (i := 1) (by omega)
  rw [hz01.1] at q0
  rw [hz01.2] at q1
  have f0 := hrow.frozen 0
  have f1 := hrow.frozen 1
  have hmi : (2 : Int) ≤ (m : Int) := by omega
  have hmi2 : (m : Int) ≤ 1000 := by omega
  have hm1k : m ≤ 1000 := by omega
  clear hzl
  have hle := hrow.le
  have hrow' := Lib.hid hrow
  have HB := Lib.hid hBg
  have T4 := Lib.hid (hT0.out.and_ (hTB.out _ L4.out))
  clear hrow hz01 hm hzz hfp hBg B4 hgb
  clear c0 c1 c2 c3 c4 c5 c6 c7 c8 c9 c10
  go_wp2_with fail
  have hR2 := ((hrow'.out.turned ((Turned.refl (fun _ => False) w4).drewN nq) (fun e => e)).set 0 (((m : Int) - 2) / 256)).set 1 (((m : Int) - 2) % 256)
  rw [hfp'.out] at hR2
  have tS := (((Turned.refl (fun k => k = g) w4).drewN nq).setCell (p := ⟨g, 0, none⟩) (.inl rfl) (.int .u8 (((m : Int) - 2) / 256))).setCell (p := ⟨g, 1, none⟩) (.inl rfl) (.int .u8 (((m : Int) - 2) % 256))
  have T4s := Lib.hid (T4.out.trans (W := fun _ => False) tS (fun _ e => e) (fun k e => .inr (by have := HB.out; omega)))
  have hR2' := Lib.hid hR2
  clear hR2 tS q0 q1 f0 f1
  refine (clone_any (some ⟨g, 0, none⟩) m cap (putR _) _ (hR2'.out.bytS cap) (by omega)).mono ?_
  rintro e wl ⟨A, c, rfl, oL, gL, tL⟩
  have FL := Lib.hid (And.intro oL (And.intro gL (T4s.out.and_ tL)))
  have hsL := T4s.out.size
  clear oL gL tL
  go_wp2_with fail
  go_ret2
  unfold RPut
  rw [hr'.out]
  exact ⟨A, c, rfl, FL.out.1, fun g' e => Nat.le_trans hsL (FL.out.2.1 g' e), FL.out.2.2⟩
set_option maxRecDepth 100000 in
set_option maxHeartbeats 4000000 in
theorem put_6 (R : Rec) (S : RecS) (w : World) (h : RecIs w R S) (hr : rightR R = true) (hk : R.kind = 6) : Calls Tryd.prog 12 #[.agg (recC R S)] w (RPut R w) := by
  have mixed : Tryd.prog.follows .mixedOrders = true := by kernel_rfl
  have hRt := Lib.hid (fun (w' : World) (t : Turned (fun _ => False) w w') => right_any R S w' (h.fresh t))
  rw [hr] at hRt
  have hI := Lib.hid h
  have hr' := Lib.hid hr
  clear h hr
  obtain ⟨lsn, work, prev, next, kind, page, key, old, new, dirty, opn⟩ := R
  obtain ⟨⟨KA, Kn, Kc⟩, ⟨OA, On, Oc⟩, ⟨NA, Nn, Nc⟩, ⟨DA, Dn, Dc⟩, ⟨PA, Pn, Pc⟩⟩ := S
  simp only at hk
  subst hk
  have hB0 := Blk.new w 39 (recC ⟨lsn, work, prev, next, 6, page, key, old, new, dirty, opn⟩ ⟨⟨KA, Kn, Kc⟩, ⟨OA, On, Oc⟩, ⟨NA, Nn, Nc⟩, ⟨DA, Dn, Dc⟩, ⟨PA, Pn, Pc⟩⟩)
  have hT0 := Lib.hid ((Turned.refl (fun _ => False) w).alloc (.cells (recC ⟨lsn, work, prev, next, 6, page, key, old, new, dirty, opn⟩ ⟨⟨KA, Kn, Kc⟩, ⟨OA, On, Oc⟩, ⟨NA, Nn, Nc⟩, ⟨DA, Dn, Dc⟩, ⟨PA, Pn, Pc⟩⟩) 39))
  have hsz0 : (w.alloc (.cells (recC ⟨lsn, work, prev, next, 6, page, key, old, new, dirty, opn⟩ ⟨⟨KA, Kn, Kc⟩, ⟨OA, On, Oc⟩, ⟨NA, Nn, Nc⟩, ⟨DA, Dn, Dc⟩, ⟨PA, Pn, Pc⟩⟩) 39)).heap.size = w.heap.size + 1 := by simp
  unfold recC at *
  simp only at hRt hB0 hT0 hsz0 ⊢
  have hA0 := Lib.hid (RecAt.of_blk (R := ⟨lsn, work, prev, next, 6, page, key, old, new, dirty, opn⟩) (S := ⟨⟨KA, Kn, Kc⟩, ⟨OA, On, Oc⟩, ⟨NA, Nn, Nc⟩, ⟨DA, Dn, Dc⟩, ⟨PA, Pn, Pc⟩⟩) hB0)
  clear hB0
  go_enter Tryd.func12, Tryd.ntmps12
  go_wp2_with fail
  generalize w.alloc (.cells #[.int .i64 lsn, .int .i64 work, .int .i64 prev, .int .i64 next, .int .u8 6, .int .i64 page, .slice KA Kn Kc, .slice OA On Oc, .slice NA Nn Nc, .slice DA Dn Dc, .slice PA Pn Pc] 39) = w0 at *
  generalize hB : w.heap.size + 1 = B at *
  refine (hRt.out w0 hT0.out).mono ?_
  rintro e w1 ⟨rfl, t1⟩
  have hTB := Lib.hid (fun (w' : World) (h : Below B w0 w') => (show Turned (fun _ => False) w0 w' from Turned.of_below (by rw [hsz0]; exact h) _))
  have hkz : Kn = 0 := by
    have hb : bareB ⟨lsn, work, prev, next, 6, page, key, old, new, dirty, opn⟩ = true := by
      have := hr'.out
      unfold rightR kindB at this
      simp [bareB] at this
      simp [bareB, this]
    have hkl := hI.out.key.len
    rw [(bareB_nil hb).1] at hkl
    simp at hkl
    omega
  have hkz1 : decide ((0 : Int) < (Kn : Int)) = false := by simp; omega
  have hkz2 : decide (0 < Kn) = false := by simp; omega
  clear hkz
  have L1 := Lib.hid (show Below B w0 w1 from hsz0 ▸ t1.below (fun _ e => e.elim))
  have hs1 : B ≤ w1.heap.size := by have := t1.size; omega
  clear t1 hRt
  have hrB : w.heap.size < B := by omega
  obtain ⟨c0, c1, c2, c3, c4, c5, c6, c7, c8, c9, c10⟩ := hA0.out.below L1.out hrB
  simp only at c0 c1 c2 c3 c4 c5 c6 c7 c8 c9 c10
  go_wp2_with fail
  refine wp_region_segs (fun w' => w'.cell? ⟨w.heap.size, 4, none⟩ = some (.int .u8 6)) (segT [0, 1, 2, 3, 4] ++ segF [5, 6]) mixed (by kernel_rfl) (fun _ _ _ _ _ h => h) ?_
  simp only [segT, segF, pickSegs, List.map_cons, List.map_nil, List.cons_append, List.nil_append, List.filterMap_cons, List.filterMap_nil, List.getElem?_cons_zero, List.getElem?_cons_succ, Option.map_some]
  have tA := (Turned.refl (fun _ => False) w1).alloc (.cells #[.slice none 0 0, .int .i64 0, .int .i8 0] 88)
  have tB := tA.alloc (.cells #[.int .u8 0, .int .u8 0, .int .u8 6] 5)
  have c4n := cell_turned tA c4 (fun e => e)
  have c4m := cell_turned tB c4 (fun e => e)
  iterate 5 (refine wpSegs_take (v := ?_) c4n rfl (fun w' hw => ?_) ?_; rotate_left; (go_simp; try with_reducible rfl); try simp only [Act.put, List.setIfInBounds_toArray, List.set_cons_zero, List.set_cons_succ])
  refine wpSegs_run rfl (fun K hK => ?_)
  go_simp
  refine hK.out _ _ c4m ?_
  clear hK K
  refine wpSegs_run rfl (fun K hK => ?_)
  go_simp
  have hbf : BufW B w1.heap.size [] ((w1.alloc (.cells #[.slice none 0 0, .int .i64 0, .int .i8 0] 88)).alloc (.cells #[.int .u8 0, .int .u8 0, .int .u8 6] 5)) := ((BufW.new w1).base hs1).alloc _
  have hnw := news_newB (w1.alloc (.cells #[.slice none 0 0, .int .i64 0, .int .i8 0] 88)) [0, 0, 6]
  have hsx : (w1.alloc (.cells #[.slice none 0 0, .int .i64 0, .int .i8 0] 88)).heap.size = w1.heap.size + 1 := by simp
  rw [hsx] at hnw
  refine (write_any B w1.heap.size [] [0, 0, 6] ⟨w1.heap.size + 1, 0, none⟩ 3 3 _ (hbf.drewN 1) (by simp; omega) (by decide) rfl (by omega) (by show w1.heap.size + 1 ≠ w1.heap.size; omega) hnw).mono ?_
  rintro e w2 ⟨rfl, b2, l2, o2⟩
  have l2b : Below B w1 w2 := (((Below.refl B w1).alloc hs1 (.cells #[.slice none 0 0, .int .i64 0, .int .i8 0] 88)).alloc (by rw [hsx]; omega) (.cells #[.int .u8 0, .int .u8 0, .int .u8 6] 5)).trans (⟨l2.os, l2.tape, l2.output, l2.size, l2.block⟩)
  have L2 := Lib.hid (L1.out.trans l2b)
  have B2 := Lib.hid b2
  have hs2 := Nat.le_trans hs1 l2b.size
  have hb1 : B ≤ w1.heap.size := hs1
  clear b2 l2 o2 l2b hbf hnw hsx tA tB c4n c4m
  clear c0 c1 c2 c3 c4 c5 c6 c7 c8 c9 c10
  obtain ⟨c0, c1, c2, c3, c4, c5, c6, c7, c8, c9, c10⟩ := hA0.out.below L2.out hrB
  simp only at c0 c1 c2 c3 c4 c5 c6 c7 c8 c9 c10
  refine hK.out _ _ c4 ?_
  clear hK K
  refine wpSegs_nil ?_
  go_wp2_with fail
  have hz2 : ([(0 : Int), 0, 6]).length ≤ 3 := by simp only [List.length_append, be_length, List.length_cons, List.length_nil]; omega
  refine (wnumber_any B w1.heap.size ([(0 : Int), 0, 6]) _ 8 _ B2.out hs2 (by omega) (by omega)).mono ?_
  rintro e w3 ⟨rfl, b3, l3, o3⟩
  have L3 := Lib.hid (L2.out.trans l3)
  have B3 := Lib.hid b3
  have hs3 := Nat.le_trans hs2 l3.size
  clear b3 l3 o3 B2 L2 hz2
  clear c0 c1 c2 c3 c4 c5 c6 c7 c8 c9 c10
  obtain ⟨c0, c1, c2, c3, c4, c5, c6, c7, c8, c9, c10⟩ := hA0.out.below L3.out hrB
  simp only at c0 c1 c2 c3 c4 c5 c6 c7 c8 c9 c10
  go_wp2_with fail
  have hz3 : ([(0 : Int), 0, 6] ++ be 8 work).length ≤ 11 := by simp only [List.length_append, be_length, List.length_cons, List.length_nil]; omega
  refine (wnumber_any B w1.heap.size ([(0 : Int), 0, 6] ++ be 8 work) _ 8 _ B3.out hs3 (by omega) (by omega)).mono ?_
  rintro e w4 ⟨rfl, b4, l4, o4⟩
  have L4 := Lib.hid (L3.out.trans l4)
  have B4 := Lib.hid b4
  have hs4 := Nat.le_trans hs3 l4.size
  clear b4 l4 o4 B3 L3 hz3
  clear c0 c1 c2 c3 c4 c5 c6 c7 c8 c9 c10
  obtain ⟨c0, c1, c2, c3, c4, c5, c6, c7, c8, c9, c10⟩ := hA0.out.below L4.out hrB
  simp only at c0 c1 c2 c3 c4 c5 c6 c7 c8 c9 c10
  go_wp2_with fail
  have hz4 : ([(0 : Int), 0, 6] ++ be 8 work ++ be 8 prev).length ≤ 19 := by simp only [List.length_append, be_length, List.length_cons, List.length_nil]; omega
  refine (wnumber_any B w1.heap.size ([(0 : Int), 0, 6] ++ be 8 work ++ be 8 prev) _ 2 _ B4.out hs4 (by omega) (by omega)).mono ?_
  rintro e w5 ⟨rfl, b5, l5, o5⟩
  have L5 := Lib.hid (L4.out.trans l5)
  have B5 := Lib.hid b5
  have hs5 := Nat.le_trans hs4 l5.size
  clear b5 l5 o5 B4 L4 hz4
  clear c0 c1 c2 c3 c4 c5 c6 c7 c8 c9 c10
  obtain ⟨c0, c1, c2, c3, c4, c5, c6, c7, c8, c9, c10⟩ := hA0.out.below L5.out hrB
  simp only at c0 c1 c2 c3 c4 c5 c6 c7 c8 c9 c10
  go_wp2_with fail
  have hz5 : ([(0 : Int), 0, 6] ++ be 8 work ++ be 8 prev ++ be 2 page).length ≤ 21 := by simp only [List.length_append, be_length, List.length_cons, List.length_nil]; omega
  refine (wnumber_any B w1.heap.size ([(0 : Int), 0, 6] ++ be 8 work ++ be 8 prev ++ be 2 page) _ 2 _ B5.out hs5 (by omega) (by omega)).mono ?_
  rintro e w6 ⟨rfl, b6, l6, o6⟩
  have L6 := Lib.hid (L5.out.trans l6)
  have B6 := Lib.hid b6
  have hs6 := Nat.le_trans hs5 l6.size
  clear b6 l6 o6 B5 L5 hz5
  clear c0 c1 c2 c3 c4 c5 c6 c7 c8 c9 c10
  obtain ⟨c0, c1, c2, c3, c4, c5, c6, c7, c8, c9, c10⟩ := hA0.out.below L6.out hrB
  simp only at c0 c1 c2 c3 c4 c5 c6 c7 c8 c9 c10
  go_wp2_with fail
  have hzz : ([(0 : Int), 0, 6] ++ be 8 work ++ be 8 prev ++ be 2 page ++ be 2 next) = 0 :: 0 :: bodyL ⟨lsn, work, prev, next, 6, page, key, old, new, dirty, opn⟩ := by simp [bodyL, restL, turnL, listL]
  have hzl : ([(0 : Int), 0, 6] ++ be 8 work ++ be 8 prev ++ be 2 page ++ be 2 next).length ≤ 23 := by simp only [List.length_append, be_length, List.length_cons, List.length_nil, rowL_length]; omega
  generalize hzg : ([(0 : Int), 0, 6] ++ be 8 work ++ be 8 prev ++ be 2 page ++ be 2 next) = z at *
  clear hzg
  refine (bytes_any B w1.heap.size z _ B6.out (by rw [hzz]; simp)).mono ?_
  rintro e wk ⟨g, cap, rfl, hrow, hBg, hgb, nq, rfl⟩
  have hm2 : 2 ≤ z.length := by rw [hzz]; simp
  have hfp := Lib.hid (fun (m : Nat) (hm : z.length = m) => fin_put hr'.out hzz m hm)
  have hz01 : z.getD 0 0 = 0 ∧ z.getD 1 0 = 0 := by rw [hzz]; exact ⟨rfl, rfl⟩
  obtain ⟨m, hm⟩ : ∃ m, m = z.length := ⟨_, rfl⟩
  rw [← hm] at hrow hm2 hzl ⊢
  have hfp' := Lib.hid (hfp.out m hm.symm hm2 (by omega))
  have hm' := Lib.hid hm
  have q0 := hrow.cell (i := 0) (by omega)
  have q1 := hrow.cell (i := 1) (by omega)
  rw [hz01.1] at q0
  rw [hz01.2] at q1
  have f0 := hrow.frozen 0
  have f1 := hrow.frozen 1
  have hmi : (2 : Int) ≤ (m : Int) := by omega
  have hmi2 : (m : Int) ≤ 1000 := by omega
  have hm1k : m ≤ 1000 := by omega
  clear hzl
  have hle := hrow.le
  have hrow' := Lib.hid hrow
  have HB := Lib.hid hBg
  have T6 := Lib.hid (hT0.out.and_ (hTB.out _ L6.out))
  clear hrow hz01 hm hzz hfp hBg B6 hgb
  clear c0 c1 c2 c3 c4 c5 c6 c7 c8 c9 c10
  go_wp2_with fail
  have hR2 := ((hrow'.out.turned ((Turned.refl (fun _ => False) w6).drewN nq) (fun e => e)).set 0 (((m : Int) - 2) / 256)).set 1 (((m : Int) - 2) % 256)
  rw [hfp'.out] at hR2
  have tS := (((Turned.refl (fun k => k = g) w6).drewN nq).setCell (p := ⟨g, 0, none⟩) (.inl rfl) (.int .u8 (((m : Int) - 2) / 256))).setCell (p := ⟨g, 1, none⟩) (.inl rfl) (.int .u8 (((m : Int) - 2) % 256))
  have T6s := Lib.hid (T6.out.trans (W := fun _ => False) tS (fun _ e => e) (fun k e => .inr (by have := HB.out; omega)))
  have hR2' := Lib.hid hR2
  clear hR2 tS q0 q1 f0 f1
  refine (clone_any (some ⟨g, 0, none⟩) m cap (putR _) _ (hR2'.out.bytS cap) (by omega)).mono ?_
  rintro e wl ⟨A, c, rfl, oL, gL, tL⟩
  have FL := Lib.hid (And.intro oL (And.intro gL (T6s.out.and_ tL)))
  have hsL := T6s.out.size
  clear oL gL tL
  go_wp2_with fail
  go_ret2
  unfold RPut
  rw [hr'.out]
  exact ⟨A, c, rfl, FL.out.1, fun g' e => Nat.le_trans hsL (FL.out.2.1 g' e), FL.out.2.2⟩
set_option maxRecDepth 100000 in
set_option maxHeartbeats 4000000 in
theorem put_1 (R : Rec) (S : RecS) (w : World) (h : RecIs w R S) (hr : rightR R = true) (hk : R.kind = 1) : Calls Tryd.prog 12 #[.agg (recC R S)] w (RPut R w) := by
  have mixed : Tryd.prog.follows .mixedOrders = true := by kernel_rfl
  have hRt := Lib.hid (fun (w' : World) (t : Turned (fun _ => False) w w') => right_any R S w' (h.fresh t))
  rw [hr] at hRt
  have hI := Lib.hid h
  have hr' := Lib.hid hr
  clear h hr
  obtain ⟨lsn, work, prev, next, kind, page, key, old, new, dirty, opn⟩ := R
  obtain ⟨⟨KA, Kn, Kc⟩, ⟨OA, On, Oc⟩, ⟨NA, Nn, Nc⟩, ⟨DA, Dn, Dc⟩, ⟨PA, Pn, Pc⟩⟩ := S
  simp only at hk
  subst hk
  have hB0 := Blk.new w 39 (recC ⟨lsn, work, prev, next, 1, page, key, old, new, dirty, opn⟩ ⟨⟨KA, Kn, Kc⟩, ⟨OA, On, Oc⟩, ⟨NA, Nn, Nc⟩, ⟨DA, Dn, Dc⟩, ⟨PA, Pn, Pc⟩⟩)
  have hT0 := Lib.hid ((Turned.refl (fun _ => False) w).alloc (.cells (recC ⟨lsn, work, prev, next, 1, page, key, old, new, dirty, opn⟩ ⟨⟨KA, Kn, Kc⟩, ⟨OA, On, Oc⟩, ⟨NA, Nn, Nc⟩, ⟨DA, Dn, Dc⟩, ⟨PA, Pn, Pc⟩⟩) 39))
  have hsz0 : (w.alloc (.cells (recC ⟨lsn, work, prev, next, 1, page, key, old, new, dirty, opn⟩ ⟨⟨KA, Kn, Kc⟩, ⟨OA, On, Oc⟩, ⟨NA, Nn, Nc⟩, ⟨DA, Dn, Dc⟩, ⟨PA, Pn, Pc⟩⟩) 39)).heap.size = w.heap.size + 1 := by simp
  unfold recC at *
  simp only at hRt hB0 hT0 hsz0 ⊢
  have hA0 := Lib.hid (RecAt.of_blk (R := ⟨lsn, work, prev, next, 1, page, key, old, new, dirty, opn⟩) (S := ⟨⟨KA, Kn, Kc⟩, ⟨OA, On, Oc⟩, ⟨NA, Nn, Nc⟩, ⟨DA, Dn, Dc⟩, ⟨PA, Pn, Pc⟩⟩) hB0)
  clear hB0
  go_enter Tryd.func12, Tryd.ntmps12
  go_wp2_with fail
  generalize w.alloc (.cells #[.int .i64 lsn, .int .i64 work, .int .i64 prev, .int .i64 next, .int .u8 1, .int .i64 page, .slice KA Kn Kc, .slice OA On Oc, .slice NA Nn Nc, .slice DA Dn Dc, .slice PA Pn Pc] 39) = w0 at *
  generalize hB : w.heap.size + 1 = B at *
  refine (hRt.out w0 hT0.out).mono ?_
  rintro e w1 ⟨rfl, t1⟩
  have hTB := Lib.hid (fun (w' : World) (h : Below B w0 w') => (show Turned (fun _ => False) w0 w' from Turned.of_below (by rw [hsz0]; exact h) _))
  have hkl := hI.out.key.len
  have hol := hI.out.old.len
  have hnl := hI.out.new.len
  simp only at hkl hol hnl
  have htb := turnB_len (R := ⟨lsn, work, prev, next, 1, page, key, old, new, dirty, opn⟩) (by
    have := hr'.out
    unfold rightR kindB at this
    simp only [Bool.and_eq_true] at this
    simp at this
    exact this.2.2)
  simp only at htb
  rw [hkl, hol, hnl] at htb
  have hkpos : (0 : Int) < (Kn : Int) := by omega
  have hkpos2 : 0 < Kn := by omega
  have hkn : Kn ≤ 40 := by omega
  have hon : On ≤ 220 := by omega
  have hnn : Nn ≤ 220 := by omega
  clear htb
  have L1 := Lib.hid (show Below B w0 w1 from hsz0 ▸ t1.below (fun _ e => e.elim))
  have hs1 : B ≤ w1.heap.size := by have := t1.size; omega
  clear t1 hRt
  have hrB : w.heap.size < B := by omega
  obtain ⟨c0, c1, c2, c3, c4, c5, c6, c7, c8, c9, c10⟩ := hA0.out.below L1.out hrB
  simp only at c0 c1 c2 c3 c4 c5 c6 c7 c8 c9 c10
  go_wp2_with fail
  refine wp_region_segs (fun w' => w'.cell? ⟨w.heap.size, 4, none⟩ = some (.int .u8 1)) (segT [0, 1, 2, 3, 4] ++ segF [5, 6]) mixed (by kernel_rfl) (fun _ _ _ _ _ h => h) ?_
  simp only [segT, segF, pickSegs, List.map_cons, List.map_nil, List.cons_append, List.nil_append, List.filterMap_cons, List.filterMap_nil, List.getElem?_cons_zero, List.getElem?_cons_succ, Option.map_some]
  have tA := (Turned.refl (fun _ => False) w1).alloc (.cells #[.slice none 0 0, .int .i64 0, .int .i8 0] 88)
  have tB := tA.alloc (.cells #[.int .u8 0, .int .u8 0, .int .u8 1] 5)
  have c4n := cell_turned tA c4 (fun e => e)
  have c4m := cell_turned tB c4 (fun e => e)
  iterate 5 (refine wpSegs_take (v := ?_) c4n rfl (fun w' hw => ?_) ?_; rotate_left; (go_simp; try with_reducible rfl); try simp only [Act.put, List.setIfInBounds_toArray, List.set_cons_zero, List.set_cons_succ])
  refine wpSegs_run rfl (fun K hK => ?_)
  go_simp
  refine hK.out _ _ c4m ?_
  clear hK K
  refine wpSegs_run rfl (fun K hK => ?_)
  go_simp
  have hbf : BufW B w1.heap.size [] ((w1.alloc (.cells #[.slice none 0 0, .int .i64 0, .int .i8 0] 88)).alloc (.cells #[.int .u8 0, .int .u8 0, .int .u8 1] 5)) := ((BufW.new w1).base hs1).alloc _
  have hnw := news_newB (w1.alloc (.cells #[.slice none 0 0, .int .i64 0, .int .i8 0] 88)) [0, 0, 1]
  have hsx : (w1.alloc (.cells #[.slice none 0 0, .int .i64 0, .int .i8 0] 88)).heap.size = w1.heap.size + 1 := by simp
  rw [hsx] at hnw
  refine (write_any B w1.heap.size [] [0, 0, 1] ⟨w1.heap.size + 1, 0, none⟩ 3 3 _ (hbf.drewN 1) (by simp; omega) (by decide) rfl (by omega) (by show w1.heap.size + 1 ≠ w1.heap.size; omega) hnw).mono ?_
  rintro e w2 ⟨rfl, b2, l2, o2⟩
  have l2b : Below B w1 w2 := (((Below.refl B w1).alloc hs1 (.cells #[.slice none 0 0, .int .i64 0, .int .i8 0] 88)).alloc (by rw [hsx]; omega) (.cells #[.int .u8 0, .int .u8 0, .int .u8 1] 5)).trans (⟨l2.os, l2.tape, l2.output, l2.size, l2.block⟩)
  have L2 := Lib.hid (L1.out.trans l2b)
  have B2 := Lib.hid b2
  have hs2 := Nat.le_trans hs1 l2b.size
  have hb1 : B ≤ w1.heap.size := hs1
  clear b2 l2 o2 l2b hbf hnw hsx tA tB c4n c4m
  clear c0 c1 c2 c3 c4 c5 c6 c7 c8 c9 c10
  obtain ⟨c0, c1, c2, c3, c4, c5, c6, c7, c8, c9, c10⟩ := hA0.out.below L2.out hrB
  simp only at c0 c1 c2 c3 c4 c5 c6 c7 c8 c9 c10
  refine hK.out _ _ c4 ?_
  clear hK K
  refine wpSegs_nil ?_
  go_wp2_with fail
  have hz2 : ([(0 : Int), 0, 1]).length ≤ 3 := by simp only [List.length_append, be_length, List.length_cons, List.length_nil]; omega
  refine (wnumber_any B w1.heap.size ([(0 : Int), 0, 1]) _ 8 _ B2.out hs2 (by omega) (by omega)).mono ?_
  rintro e w3 ⟨rfl, b3, l3, o3⟩
  have L3 := Lib.hid (L2.out.trans l3)
  have B3 := Lib.hid b3
  have hs3 := Nat.le_trans hs2 l3.size
  clear b3 l3 o3 B2 L2 hz2
  clear c0 c1 c2 c3 c4 c5 c6 c7 c8 c9 c10
  obtain ⟨c0, c1, c2, c3, c4, c5, c6, c7, c8, c9, c10⟩ := hA0.out.below L3.out hrB
  simp only at c0 c1 c2 c3 c4 c5 c6 c7 c8 c9 c10
  go_wp2_with fail
  have hz3 : ([(0 : Int), 0, 1] ++ be 8 work).length ≤ 11 := by simp only [List.length_append, be_length, List.length_cons, List.length_nil]; omega
  refine (wnumber_any B w1.heap.size ([(0 : Int), 0, 1] ++ be 8 work) _ 8 _ B3.out hs3 (by omega) (by omega)).mono ?_
  rintro e w4 ⟨rfl, b4, l4, o4⟩
  have L4 := Lib.hid (L3.out.trans l4)
  have B4 := Lib.hid b4
  have hs4 := Nat.le_trans hs3 l4.size
  clear b4 l4 o4 B3 L3 hz3
  clear c0 c1 c2 c3 c4 c5 c6 c7 c8 c9 c10
  obtain ⟨c0, c1, c2, c3, c4, c5, c6, c7, c8, c9, c10⟩ := hA0.out.below L4.out hrB
  simp only at c0 c1 c2 c3 c4 c5 c6 c7 c8 c9 c10
  go_wp2_with fail
  have hz4 : ([(0 : Int), 0, 1] ++ be 8 work ++ be 8 prev).length ≤ 19 := by simp only [List.length_append, be_length, List.length_cons, List.length_nil]; omega
  refine (wnumber_any B w1.heap.size ([(0 : Int), 0, 1] ++ be 8 work ++ be 8 prev) _ 2 _ B4.out hs4 (by omega) (by omega)).mono ?_
  rintro e w5 ⟨rfl, b5, l5, o5⟩
  have L5 := Lib.hid (L4.out.trans l5)
  have B5 := Lib.hid b5
  have hs5 := Nat.le_trans hs4 l5.size
  clear b5 l5 o5 B4 L4 hz4
  clear c0 c1 c2 c3 c4 c5 c6 c7 c8 c9 c10
  obtain ⟨c0, c1, c2, c3, c4, c5, c6, c7, c8, c9, c10⟩ := hA0.out.below L5.out hrB
  simp only at c0 c1 c2 c3 c4 c5 c6 c7 c8 c9 c10
  go_wp2_with fail
  have hz5 : ([(0 : Int), 0, 1] ++ be 8 work ++ be 8 prev ++ be 2 page).length ≤ 21 := by simp only [List.length_append, be_length, List.length_cons, List.length_nil, rowL_length]; omega
  refine (wrow_any B w1.heap.size ([(0 : Int), 0, 1] ++ be 8 work ++ be 8 prev ++ be 2 page) key ⟨KA, Kn, Kc⟩ _ B5.out hs5 (hI.out.key.fresh (hT0.out.and_ (hTB.out _ L5.out))) (by show Kn ≤ 255; omega) (hI.out.key.far (by omega)) (by omega)).mono ?_
  rintro e w6 ⟨rfl, b6, l6, o6⟩
  have L6 := Lib.hid (L5.out.trans l6)
  have B6 := Lib.hid b6
  have hs6 := Nat.le_trans hs5 l6.size
  clear b6 l6 o6 B5 L5 hz5
  clear c0 c1 c2 c3 c4 c5 c6 c7 c8 c9 c10
  obtain ⟨c0, c1, c2, c3, c4, c5, c6, c7, c8, c9, c10⟩ := hA0.out.below L6.out hrB
  simp only at c0 c1 c2 c3 c4 c5 c6 c7 c8 c9 c10
  go_wp2_with fail
  have hz6 : ([(0 : Int), 0, 1] ++ be 8 work ++ be 8 prev ++ be 2 page ++ rowL key).length ≤ 62 := by simp only [List.length_append, be_length, List.length_cons, List.length_nil, rowL_length]; omega
  refine (wrow_any B w1.heap.size ([(0 : Int), 0, 1] ++ be 8 work ++ be 8 prev ++ be 2 page ++ rowL key) old ⟨OA, On, Oc⟩ _ B6.out hs6 (hI.out.old.fresh (hT0.out.and_ (hTB.out _ L6.out))) (by show On ≤ 255; omega) (hI.out.old.far (by omega)) (by omega)).mono ?_
  rintro e w7 ⟨rfl, b7, l7, o7⟩
  have L7 := Lib.hid (L6.out.trans l7)
  have B7 := Lib.hid b7
  have hs7 := Nat.le_trans hs6 l7.size
  clear b7 l7 o7 B6 L6 hz6
  clear c0 c1 c2 c3 c4 c5 c6 c7 c8 c9 c10
  obtain ⟨c0, c1, c2, c3, c4, c5, c6, c7, c8, c9, c10⟩ := hA0.out.below L7.out hrB
  simp only at c0 c1 c2 c3 c4 c5 c6 c7 c8 c9 c10
  go_wp2_with fail
  have hz7 : ([(0 : Int), 0, 1] ++ be 8 work ++ be 8 prev ++ be 2 page ++ rowL key ++ rowL old).length ≤ 283 := by simp only [List.length_append, be_length, List.length_cons, List.length_nil, rowL_length]; omega
  refine (wrow_any B w1.heap.size ([(0 : Int), 0, 1] ++ be 8 work ++ be 8 prev ++ be 2 page ++ rowL key ++ rowL old) new ⟨NA, Nn, Nc⟩ _ B7.out hs7 (hI.out.new.fresh (hT0.out.and_ (hTB.out _ L7.out))) (by show Nn ≤ 255; omega) (hI.out.new.far (by omega)) (by omega)).mono ?_
  rintro e w8 ⟨rfl, b8, l8, o8⟩
  have L8 := Lib.hid (L7.out.trans l8)
  have B8 := Lib.hid b8
  have hs8 := Nat.le_trans hs7 l8.size
  clear b8 l8 o8 B7 L7 hz7
  clear c0 c1 c2 c3 c4 c5 c6 c7 c8 c9 c10
  obtain ⟨c0, c1, c2, c3, c4, c5, c6, c7, c8, c9, c10⟩ := hA0.out.below L8.out hrB
  simp only at c0 c1 c2 c3 c4 c5 c6 c7 c8 c9 c10
  go_wp2_with fail
  have hzz : ([(0 : Int), 0, 1] ++ be 8 work ++ be 8 prev ++ be 2 page ++ rowL key ++ rowL old ++ rowL new) = 0 :: 0 :: bodyL ⟨lsn, work, prev, next, 1, page, key, old, new, dirty, opn⟩ := by simp [bodyL, restL, turnL, listL]
  have hzl : ([(0 : Int), 0, 1] ++ be 8 work ++ be 8 prev ++ be 2 page ++ rowL key ++ rowL old ++ rowL new).length ≤ 504 := by simp only [List.length_append, be_length, List.length_cons, List.length_nil, rowL_length]; omega
  generalize hzg : ([(0 : Int), 0, 1] ++ be 8 work ++ be 8 prev ++ be 2 page ++ rowL key ++ rowL old ++ rowL new) = z at *
  clear hzg
  refine (bytes_any B w1.heap.size z _ B8.out (by rw [hzz]; simp)).mono ?_
  rintro e wk ⟨g, cap, rfl, hrow, hBg, hgb, nq, rfl⟩
  have hm2 : 2 ≤ z.length := by rw [hzz]; simp
  have hfp := Lib.hid (fun (m : Nat) (hm : z.length = m) => fin_put hr'.out hzz m hm)
  have hz01 : z.getD 0 0 = 0 ∧ z.getD 1 0 = 0 := by rw [hzz]; exact ⟨rfl, rfl⟩
  obtain ⟨m, hm⟩ : ∃ m, m = z.length := ⟨_, rfl⟩
  rw [← hm] at hrow hm2 hzl ⊢
  have hfp' := Lib.hid (hfp.out m hm.symm hm2 (by omega))
  have hm' := Lib.hid hm
  have q0 := hrow.cell (i := 0) (by omega)
  have q1 := hrow.cell (i := 1) (by omega)
  rw [hz01.1] at q0
  rw [hz01.2] at q1
  have f0 := hrow.frozen 0
  have f1 := hrow.frozen 1
  have hmi : (2 : Int) ≤ (m : Int) := by omega
  have hmi2 : (m : Int) ≤ 1000 := by omega
  have hm1k : m ≤ 1000 := by omega
  clear hzl
  have hle := hrow.le
  have hrow' := Lib.hid hrow
  have HB := Lib.hid hBg
  have T8 := Lib.hid (hT0.out.and_ (hTB.out _ L8.out))
  clear hrow hz01 hm hzz hfp hBg B8 hgb
  clear c0 c1 c2 c3 c4 c5 c6 c7 c8 c9 c10
  go_wp2_with fail
  have hR2 := ((hrow'.out.turned ((Turned.refl (fun _ => False) w8).drewN nq) (fun e => e)).set 0 (((m : Int) - 2) / 256)).set 1 (((m : Int) - 2) % 256)
  rw [hfp'.out] at hR2
  have tS := (((Turned.refl (fun k => k = g) w8).drewN nq).setCell (p := ⟨g, 0, none⟩) (.inl rfl) (.int .u8 (((m : Int) - 2) / 256))).setCell (p := ⟨g, 1, none⟩) (.inl rfl) (.int .u8 (((m : Int) - 2) % 256))
  have T8s := Lib.hid (T8.out.trans (W := fun _ => False) tS (fun _ e => e) (fun k e => .inr (by have := HB.out; omega)))
  have hR2' := Lib.hid hR2
  clear hR2 tS q0 q1 f0 f1
  refine (clone_any (some ⟨g, 0, none⟩) m cap (putR _) _ (hR2'.out.bytS cap) (by omega)).mono ?_
  rintro e wl ⟨A, c, rfl, oL, gL, tL⟩
  have FL := Lib.hid (And.intro oL (And.intro gL (T8s.out.and_ tL)))
  have hsL := T8s.out.size
  clear oL gL tL
  go_wp2_with fail
  go_ret2
  unfold RPut
  rw [hr'.out]
  exact ⟨A, c, rfl, FL.out.1, fun g' e => Nat.le_trans hsL (FL.out.2.1 g' e), FL.out.2.2⟩
set_option maxRecDepth 100000 in
set_option maxHeartbeats 4000000 in
theorem put_2 (R : Rec) (S : RecS) (w : World) (h : RecIs w R S) (hr : rightR R = true) (hk : R.kind = 2) : Calls Tryd.prog 12 #[.agg (recC R S)] w (RPut R w) := by
  have mixed : Tryd.prog.follows .mixedOrders = true := by kernel_rfl
  have hRt := Lib.hid (fun (w' : World) (t : Turned (fun _ => False) w w') => right_any R S w' (h.fresh t))
  rw [hr] at hRt
  have hI := Lib.hid h
  have hr' := Lib.hid hr
  clear h hr
  obtain ⟨lsn, work, prev, next, kind, page, key, old, new, dirty, opn⟩ := R
  obtain ⟨⟨KA, Kn, Kc⟩, ⟨OA, On, Oc⟩, ⟨NA, Nn, Nc⟩, ⟨DA, Dn, Dc⟩, ⟨PA, Pn, Pc⟩⟩ := S
  simp only at hk
  subst hk
  have hB0 := Blk.new w 39 (recC ⟨lsn, work, prev, next, 2, page, key, old, new, dirty, opn⟩ ⟨⟨KA, Kn, Kc⟩, ⟨OA, On, Oc⟩, ⟨NA, Nn, Nc⟩, ⟨DA, Dn, Dc⟩, ⟨PA, Pn, Pc⟩⟩)
  have hT0 := Lib.hid ((Turned.refl (fun _ => False) w).alloc (.cells (recC ⟨lsn, work, prev, next, 2, page, key, old, new, dirty, opn⟩ ⟨⟨KA, Kn, Kc⟩, ⟨OA, On, Oc⟩, ⟨NA, Nn, Nc⟩, ⟨DA, Dn, Dc⟩, ⟨PA, Pn, Pc⟩⟩) 39))
  have hsz0 : (w.alloc (.cells (recC ⟨lsn, work, prev, next, 2, page, key, old, new, dirty, opn⟩ ⟨⟨KA, Kn, Kc⟩, ⟨OA, On, Oc⟩, ⟨NA, Nn, Nc⟩, ⟨DA, Dn, Dc⟩, ⟨PA, Pn, Pc⟩⟩) 39)).heap.size = w.heap.size + 1 := by simp
  unfold recC at *
  simp only at hRt hB0 hT0 hsz0 ⊢
  have hA0 := Lib.hid (RecAt.of_blk (R := ⟨lsn, work, prev, next, 2, page, key, old, new, dirty, opn⟩) (S := ⟨⟨KA, Kn, Kc⟩, ⟨OA, On, Oc⟩, ⟨NA, Nn, Nc⟩, ⟨DA, Dn, Dc⟩, ⟨PA, Pn, Pc⟩⟩) hB0)
  clear hB0
  go_enter Tryd.func12, Tryd.ntmps12
  go_wp2_with fail
  generalize w.alloc (.cells #[.int .i64 lsn, .int .i64 work, .int .i64 prev, .int .i64 next, .int .u8 2, .int .i64 page, .slice KA Kn Kc, .slice OA On Oc, .slice NA Nn Nc, .slice DA Dn Dc, .slice PA Pn Pc] 39) = w0 at *
  generalize hB : w.heap.size + 1 = B at *
  refine (hRt.out w0 hT0.out).mono ?_
  rintro e w1 ⟨rfl, t1⟩
  have hTB := Lib.hid (fun (w' : World) (h : Below B w0 w') => (show Turned (fun _ => False) w0 w' from Turned.of_below (by rw [hsz0]; exact h) _))
  have hkl := hI.out.key.len
  have hol := hI.out.old.len
  have hnl := hI.out.new.len
  simp only at hkl hol hnl
  have htb := turnB_len (R := ⟨lsn, work, prev, next, 2, page, key, old, new, dirty, opn⟩) (by
    have := hr'.out
    unfold rightR kindB at this
    simp only [Bool.and_eq_true] at this
    simp at this
    exact this.2.2)
  simp only at htb
  rw [hkl, hol, hnl] at htb
  have hkpos : (0 : Int) < (Kn : Int) := by omega
  have hkpos2 : 0 < Kn := by omega
  have hkn : Kn ≤ 40 := by omega
  have hon : On ≤ 220 := by omega
  have hnn : Nn ≤ 220 := by omega
  clear htb
  have L1 := Lib.hid (show Below B w0 w1 from hsz0 ▸ t1.below (fun _ e => e.elim))
  have hs1 : B ≤ w1.heap.size := by have := t1.size; omega
  clear t1 hRt
  have hrB : w.heap.size < B := by omega
  obtain ⟨c0, c1, c2, c3, c4, c5, c6, c7, c8, c9, c10⟩ := hA0.out.below L1.out hrB
  simp only at c0 c1 c2 c3 c4 c5 c6 c7 c8 c9 c10
  go_wp2_with fail
  refine wp_region_segs (fun w' => w'.cell? ⟨w.heap.size, 4, none⟩ = some (.int .u8 2)) (segT [0, 1, 2, 3, 4] ++ segF [5, 6]) mixed (by kernel_rfl) (fun _ _ _ _ _ h => h) ?_
  simp only [segT, segF, pickSegs, List.map_cons, List.map_nil, List.cons_append, List.nil_append, List.filterMap_cons, List.filterMap_nil, List.getElem?_cons_zero, List.getElem?_cons_succ, Option.map_some]
  have tA := (Turned.refl (fun _ => False) w1).alloc (.cells #[.slice none 0 0, .int .i64 0, .int .i8 0] 88)
  have tB := tA.alloc (.cells #[.int .u8 0, .int .u8 0, .int .u8 2] 5)
  have c4n := cell_turned tA c4 (fun e => e)
  have c4m := cell_turned tB c4 (fun e => e)
  iterate 5 (refine wpSegs_take (v := ?_) c4n rfl (fun w' hw => ?_) ?_; rotate_left; (go_simp; try with_reducible rfl); try simp only [Act.put, List.setIfInBounds_toArray, List.set_cons_zero, List.set_cons_succ])
  refine wpSegs_run rfl (fun K hK => ?_)
  go_simp
  refine hK.out _ _ c4m ?_
  clear hK K
  refine wpSegs_run rfl (fun K hK => ?_)
  go_simp
  have hbf : BufW B w1.heap.size [] ((w1.alloc (.cells #[.slice none 0 0, .int .i64 0, .int .i8 0] 88)).alloc (.cells #[.int .u8 0, .int .u8 0, .int .u8 2] 5)) := ((BufW.new w1).base hs1).alloc _
  have hnw := news_newB (w1.alloc (.cells #[.slice none 0 0, .int .i64 0, .int .i8 0] 88)) [0, 0, 2]
  have hsx : (w1.alloc (.cells #[.slice none 0 0, .int .i64 0, .int .i8 0] 88)).heap.size = w1.heap.size + 1 := by simp
  rw [hsx] at hnw
  refine (write_any B w1.heap.size [] [0, 0, 2] ⟨w1.heap.size + 1, 0, none⟩ 3 3 _ (hbf.drewN 1) (by simp; omega) (by decide) rfl (by omega) (by show w1.heap.size + 1 ≠ w1.heap.size; omega) hnw).mono ?_
  rintro e w2 ⟨rfl, b2, l2, o2⟩
  have l2b : Below B w1 w2 := (((Below.refl B w1).alloc hs1 (.cells #[.slice none 0 0, .int .i64 0, .int .i8 0] 88)).alloc (by rw [hsx]; omega) (.cells #[.int .u8 0, .int .u8 0, .int .u8 2] 5)).trans (⟨l2.os, l2.tape, l2.output, l2.size, l2.block⟩)
  have L2 := Lib.hid (L1.out.trans l2b)
  have B2 := Lib.hid b2
  have hs2 := Nat.le_trans hs1 l2b.size
  have hb1 : B ≤ w1.heap.size := hs1
  clear b2 l2 o2 l2b hbf hnw hsx tA tB c4n c4m
  clear c0 c1 c2 c3 c4 c5 c6 c7 c8 c9 c10
  obtain ⟨c0, c1, c2, c3, c4, c5, c6, c7, c8, c9, c10⟩ := hA0.out.below L2.out hrB
  simp only at c0 c1 c2 c3 c4 c5 c6 c7 c8 c9 c10
  refine hK.out _ _ c4 ?_
  clear hK K
  refine wpSegs_nil ?_
  go_wp2_with fail
  have hz2 : ([(0 : Int), 0, 2]).length ≤ 3 := by simp only [List.length_append, be_length, List.length_cons, List.length_nil]; omega
  refine (wnumber_any B w1.heap.size ([(0 : Int), 0, 2]) _ 8 _ B2.out hs2 (by omega) (by omega)).mono ?_
  rintro e w3 ⟨rfl, b3, l3, o3⟩
  have L3 := Lib.hid (L2.out.trans l3)
  have B3 := Lib.hid b3
  have hs3 := Nat.le_trans hs2 l3.size
  clear b3 l3 o3 B2 L2 hz2
  clear c0 c1 c2 c3 c4 c5 c6 c7 c8 c9 c10
  obtain ⟨c0, c1, c2, c3, c4, c5, c6, c7, c8, c9, c10⟩ := hA0.out.below L3.out hrB
  simp only at c0 c1 c2 c3 c4 c5 c6 c7 c8 c9 c10
  go_wp2_with fail
  have hz3 : ([(0 : Int), 0, 2] ++ be 8 work).length ≤ 11 := by simp only [List.length_append, be_length, List.length_cons, List.length_nil]; omega
  refine (wnumber_any B w1.heap.size ([(0 : Int), 0, 2] ++ be 8 work) _ 8 _ B3.out hs3 (by omega) (by omega)).mono ?_
  rintro e w4 ⟨rfl, b4, l4, o4⟩
  have L4 := Lib.hid (L3.out.trans l4)
  have B4 := Lib.hid b4
  have hs4 := Nat.le_trans hs3 l4.size
  clear b4 l4 o4 B3 L3 hz3
  clear c0 c1 c2 c3 c4 c5 c6 c7 c8 c9 c10
  obtain ⟨c0, c1, c2, c3, c4, c5, c6, c7, c8, c9, c10⟩ := hA0.out.below L4.out hrB
  simp only at c0 c1 c2 c3 c4 c5 c6 c7 c8 c9 c10
  go_wp2_with fail
  have hz4 : ([(0 : Int), 0, 2] ++ be 8 work ++ be 8 prev).length ≤ 19 := by simp only [List.length_append, be_length, List.length_cons, List.length_nil]; omega
  refine (wnumber_any B w1.heap.size ([(0 : Int), 0, 2] ++ be 8 work ++ be 8 prev) _ 8 _ B4.out hs4 (by omega) (by omega)).mono ?_
  rintro e w5 ⟨rfl, b5, l5, o5⟩
  have L5 := Lib.hid (L4.out.trans l5)
  have B5 := Lib.hid b5
  have hs5 := Nat.le_trans hs4 l5.size
  clear b5 l5 o5 B4 L4 hz4
  clear c0 c1 c2 c3 c4 c5 c6 c7 c8 c9 c10
  obtain ⟨c0, c1, c2, c3, c4, c5, c6, c7, c8, c9, c10⟩ := hA0.out.below L5.out hrB
  simp only at c0 c1 c2 c3 c4 c5 c6 c7 c8 c9 c10
  go_wp2_with fail
  have hz5 : ([(0 : Int), 0, 2] ++ be 8 work ++ be 8 prev ++ be 8 next).length ≤ 27 := by simp only [List.length_append, be_length, List.length_cons, List.length_nil]; omega
  refine (wnumber_any B w1.heap.size ([(0 : Int), 0, 2] ++ be 8 work ++ be 8 prev ++ be 8 next) _ 2 _ B5.out hs5 (by omega) (by omega)).mono ?_
  rintro e w6 ⟨rfl, b6, l6, o6⟩
  have L6 := Lib.hid (L5.out.trans l6)
  have B6 := Lib.hid b6
  have hs6 := Nat.le_trans hs5 l6.size
  clear b6 l6 o6 B5 L5 hz5
  clear c0 c1 c2 c3 c4 c5 c6 c7 c8 c9 c10
  obtain ⟨c0, c1, c2, c3, c4, c5, c6, c7, c8, c9, c10⟩ := hA0.out.below L6.out hrB
  simp only at c0 c1 c2 c3 c4 c5 c6 c7 c8 c9 c10
  go_wp2_with fail
  have hz6 : ([(0 : Int), 0, 2] ++ be 8 work ++ be 8 prev ++ be 8 next ++ be 2 page).length ≤ 29 := by simp only [List.length_append, be_length, List.length_cons, List.length_nil, rowL_length]; omega
  refine (wrow_any B w1.heap.size ([(0 : Int), 0, 2] ++ be 8 work ++ be 8 prev ++ be 8 next ++ be 2 page) key ⟨KA, Kn, Kc⟩ _ B6.out hs6 (hI.out.key.fresh (hT0.out.and_ (hTB.out _ L6.out))) (by show Kn ≤ 255; omega) (hI.out.key.far (by omega)) (by omega)).mono ?_
  rintro e w7 ⟨rfl, b7, l7, o7⟩
  have L7 := Lib.hid (L6.out.trans l7)
  have B7 := Lib.hid b7
  have hs7 := Nat.le_trans hs6 l7.size
  clear b7 l7 o7 B6 L6 hz6
  clear c0 c1 c2 c3 c4 c5 c6 c7 c8 c9 c10
  obtain ⟨c0, c1, c2, c3, c4, c5, c6, c7, c8, c9, c10⟩ := hA0.out.below L7.out hrB
  simp only at c0 c1 c2 c3 c4 c5 c6 c7 c8 c9 c10
  go_wp2_with fail
  have hz7 : ([(0 : Int), 0, 2] ++ be 8 work ++ be 8 prev ++ be 8 next ++ be 2 page ++ rowL key).length ≤ 70 := by simp only [List.length_append, be_length, List.length_cons, List.length_nil, rowL_length]; omega
  refine (wrow_any B w1.heap.size ([(0 : Int), 0, 2] ++ be 8 work ++ be 8 prev ++ be 8 next ++ be 2 page ++ rowL key) old ⟨OA, On, Oc⟩ _ B7.out hs7 (hI.out.old.fresh (hT0.out.and_ (hTB.out _ L7.out))) (by show On ≤ 255; omega) (hI.out.old.far (by omega)) (by omega)).mono ?_
  rintro e w8 ⟨rfl, b8, l8, o8⟩
  have L8 := Lib.hid (L7.out.trans l8)
  have B8 := Lib.hid b8
  have hs8 := Nat.le_trans hs7 l8.size
  clear b8 l8 o8 B7 L7 hz7
  clear c0 c1 c2 c3 c4 c5 c6 c7 c8 c9 c10
  obtain ⟨c0, c1, c2, c3, c4, c5, c6, c7, c8, c9, c10⟩ := hA0.out.below L8.out hrB
  simp only at c0 c1 c2 c3 c4 c5 c6 c7 c8 c9 c10
  go_wp2_with fail
  have hz8 : ([(0 : Int), 0, 2] ++ be 8 work ++ be 8 prev ++ be 8 next ++ be 2 page ++ rowL key ++ rowL old).length ≤ 291 := by simp only [List.length_append, be_length, List.length_cons, List.length_nil, rowL_length]; omega
  refine (wrow_any B w1.heap.size ([(0 : Int), 0, 2] ++ be 8 work ++ be 8 prev ++ be 8 next ++ be 2 page ++ rowL key ++ rowL old) new ⟨NA, Nn, Nc⟩ _ B8.out hs8 (hI.out.new.fresh (hT0.out.and_ (hTB.out _ L8.out))) (by show Nn ≤ 255; omega) (hI.out.new.far (by omega)) (by omega)).mono ?_
  rintro e w9 ⟨rfl, b9, l9, o9⟩
  have L9 := Lib.hid (L8.out.trans l9)
  have B9 := Lib.hid b9
  have hs9 := Nat.le_trans hs8 l9.size
  clear b9 l9 o9 B8 L8 hz8
  clear c0 c1 c2 c3 c4 c5 c6 c7 c8 c9 c10
  obtain ⟨c0, c1, c2, c3, c4, c5, c6, c7, c8, c9, c10⟩ := hA0.out.below L9.out hrB
  simp only at c0 c1 c2 c3 c4 c5 c6 c7 c8 c9 c10
  go_wp2_with fail
  have hzz : ([(0 : Int), 0, 2] ++ be 8 work ++ be 8 prev ++ be 8 next ++ be 2 page ++ rowL key ++ rowL old ++ rowL new) = 0 :: 0 :: bodyL ⟨lsn, work, prev, next, 2, page, key, old, new, dirty, opn⟩ := by simp [bodyL, restL, turnL, listL]
  have hzl : ([(0 : Int), 0, 2] ++ be 8 work ++ be 8 prev ++ be 8 next ++ be 2 page ++ rowL key ++ rowL old ++ rowL new).length ≤ 512 := by simp only [List.length_append, be_length, List.length_cons, List.length_nil, rowL_length]; omega
  generalize hzg : ([(0 : Int), 0, 2] ++ be 8 work ++ be 8 prev ++ be 8 next ++ be 2 page ++ rowL key ++ rowL old ++ rowL new) = z at *
  clear hzg
  refine (bytes_any B w1.heap.size z _ B9.out (by rw [hzz]; simp)).mono ?_
  rintro e wk ⟨g, cap, rfl, hrow, hBg, hgb, nq, rfl⟩
  have hm2 : 2 ≤ z.length := by rw [hzz]; simp
  have hfp := Lib.hid (fun (m : Nat) (hm : z.length = m) => fin_put hr'.out hzz m hm)
  have hz01 : z.getD 0 0 = 0 ∧ z.getD 1 0 = 0 := by rw [hzz]; exact ⟨rfl, rfl⟩
  obtain ⟨m, hm⟩ : ∃ m, m = z.length := ⟨_, rfl⟩
  rw [← hm] at hrow hm2 hzl ⊢
  have hfp' := Lib.hid (hfp.out m hm.symm hm2 (by omega))
  have hm' := Lib.hid hm
  have q0 := hrow.cell (i := 0) (by omega)
  have q1 := hrow.cell (i := 1) (by omega)
  rw [hz01.1] at q0
  rw [hz01.2] at q1
  have f0 := hrow.frozen 0
  have f1 := hrow.frozen 1
  have hmi : (2 : Int) ≤ (m : Int) := by omega
  have hmi2 : (m : Int) ≤ 1000 := by omega
  have hm1k : m ≤ 1000 := by omega
  clear hzl
  have hle := hrow.le
  have hrow' := Lib.hid hrow
  have HB := Lib.hid hBg
  have T9 := Lib.hid (hT0.out.and_ (hTB.out _ L9.out))
  clear hrow hz01 hm hzz hfp hBg B9 hgb
  clear c0 c1 c2 c3 c4 c5 c6 c7 c8 c9 c10
  go_wp2_with fail
  have hR2 := ((hrow'.out.turned ((Turned.refl (fun _ => False) w9).drewN nq) (fun e => e)).set 0 (((m : Int) - 2) / 256)).set 1 (((m : Int) - 2) % 256)
  rw [hfp'.out] at hR2
  have tS := (((Turned.refl (fun k => k = g) w9).drewN nq).setCell (p := ⟨g, 0, none⟩) (.inl rfl) (.int .u8 (((m : Int) - 2) / 256))).setCell (p := ⟨g, 1, none⟩) (.inl rfl) (.int .u8 (((m : Int) - 2) % 256))
  have T9s := Lib.hid (T9.out.trans (W := fun _ => False) tS (fun _ e => e) (fun k e => .inr (by have := HB.out; omega)))
  have hR2' := Lib.hid hR2
  clear hR2 tS q0 q1 f0 f1
  refine (clone_any (some ⟨g, 0, none⟩) m cap (putR _) _ (hR2'.out.bytS cap) (by omega)).mono ?_
  rintro e wl ⟨A, c, rfl, oL, gL, tL⟩
  have FL := Lib.hid (And.intro oL (And.intro gL (T9s.out.and_ tL)))
  have hsL := T9s.out.size
  clear oL gL tL
  go_wp2_with fail
  go_ret2
  unfold RPut
  rw [hr'.out]
  exact ⟨A, c, rfl, FL.out.1, fun g' e => Nat.le_trans hsL (FL.out.2.1 g' e), FL.out.2.2⟩
set_option maxRecDepth 100000 in
set_option maxHeartbeats 4000000 in
theorem put_5 (R : Rec) (S : RecS) (w : World) (h : RecIs w R S) (hr : rightR R = true) (hk : R.kind = 5) : Calls Tryd.prog 12 #[.agg (recC R S)] w (RPut R w) := by
  have mixed : Tryd.prog.follows .mixedOrders = true := by kernel_rfl
  have hRt := Lib.hid (fun (w' : World) (t : Turned (fun _ => False) w w') => right_any R S w' (h.fresh t))
  rw [hr] at hRt
  have hI := Lib.hid h
  have hr' := Lib.hid hr
  clear h hr
  obtain ⟨lsn, work, prev, next, kind, page, key, old, new, dirty, opn⟩ := R
  obtain ⟨⟨KA, Kn, Kc⟩, ⟨OA, On, Oc⟩, ⟨NA, Nn, Nc⟩, ⟨DA, Dn, Dc⟩, ⟨PA, Pn, Pc⟩⟩ := S
  simp only at hk
  subst hk
  have hB0 := Blk.new w 39 (recC ⟨lsn, work, prev, next, 5, page, key, old, new, dirty, opn⟩ ⟨⟨KA, Kn, Kc⟩, ⟨OA, On, Oc⟩, ⟨NA, Nn, Nc⟩, ⟨DA, Dn, Dc⟩, ⟨PA, Pn, Pc⟩⟩)
  have hT0 := Lib.hid ((Turned.refl (fun _ => False) w).alloc (.cells (recC ⟨lsn, work, prev, next, 5, page, key, old, new, dirty, opn⟩ ⟨⟨KA, Kn, Kc⟩, ⟨OA, On, Oc⟩, ⟨NA, Nn, Nc⟩, ⟨DA, Dn, Dc⟩, ⟨PA, Pn, Pc⟩⟩) 39))
  have hsz0 : (w.alloc (.cells (recC ⟨lsn, work, prev, next, 5, page, key, old, new, dirty, opn⟩ ⟨⟨KA, Kn, Kc⟩, ⟨OA, On, Oc⟩, ⟨NA, Nn, Nc⟩, ⟨DA, Dn, Dc⟩, ⟨PA, Pn, Pc⟩⟩) 39)).heap.size = w.heap.size + 1 := by simp
  unfold recC at *
  simp only at hRt hB0 hT0 hsz0 ⊢
  have hA0 := Lib.hid (RecAt.of_blk (R := ⟨lsn, work, prev, next, 5, page, key, old, new, dirty, opn⟩) (S := ⟨⟨KA, Kn, Kc⟩, ⟨OA, On, Oc⟩, ⟨NA, Nn, Nc⟩, ⟨DA, Dn, Dc⟩, ⟨PA, Pn, Pc⟩⟩) hB0)
  clear hB0
  go_enter Tryd.func12, Tryd.ntmps12
  go_wp2_with fail
  generalize w.alloc (.cells #[.int .i64 lsn, .int .i64 work, .int .i64 prev, .int .i64 next, .int .u8 5, .int .i64 page, .slice KA Kn Kc, .slice OA On Oc, .slice NA Nn Nc, .slice DA Dn Dc, .slice PA Pn Pc] 39) = w0 at *
  generalize hB : w.heap.size + 1 = B at *
  refine (hRt.out w0 hT0.out).mono ?_
  rintro e w1 ⟨rfl, t1⟩
  have hTB := Lib.hid (fun (w' : World) (h : Below B w0 w') => (show Turned (fun _ => False) w0 w' from Turned.of_below (by rw [hsz0]; exact h) _))
  have hmk : markB ⟨lsn, work, prev, next, 5, page, key, old, new, dirty, opn⟩ = true ∧ bareB ⟨lsn, work, prev, next, 5, page, key, old, new, dirty, opn⟩ = true := by
    have := hr'.out
    unfold rightR at this
    simp only [if_true, Bool.and_eq_true] at this
    exact ⟨this.2, this.1.2⟩
  have dirtyl := Lib.hid hI.out.dirty.len
  have opnl := Lib.hid hI.out.opn.len
  simp only at dirtyl opnl
  have hlens : dirty.length ≤ 32 ∧ opn.length ≤ 8 := by
    have := hmk.1
    unfold markB at this
    simp only [Bool.and_eq_true, decide_eq_true_eq] at this
    exact ⟨this.2.1.2, this.2.2.2⟩
  have hdn : Dn ≤ 32 := by rw [← dirtyl.out]; exact hlens.1
  have hpn : Pn ≤ 8 := by rw [← opnl.out]; exact hlens.2
  have hd32 := hlens.1
  have ho8 := hlens.2
  have hkz : Kn = 0 := by
    have hkl := hI.out.key.len
    rw [(bareB_nil hmk.2).1] at hkl
    simp at hkl
    omega
  have hkz1 : decide ((0 : Int) < (Kn : Int)) = false := by simp; omega
  have hkz2 : decide (0 < Kn) = false := by simp; omega
  clear hkz hlens hmk
  have L1 := Lib.hid (show Below B w0 w1 from hsz0 ▸ t1.below (fun _ e => e.elim))
  have hs1 : B ≤ w1.heap.size := by have := t1.size; omega
  clear t1 hRt
  have hrB : w.heap.size < B := by omega
  obtain ⟨c0, c1, c2, c3, c4, c5, c6, c7, c8, c9, c10⟩ := hA0.out.below L1.out hrB
  simp only at c0 c1 c2 c3 c4 c5 c6 c7 c8 c9 c10
  go_wp2_with fail
  refine wp_region_segs (fun w' => w'.cell? ⟨w.heap.size, 4, none⟩ = some (.int .u8 5)) (segT [0, 1, 2, 3, 4] ++ segF [5, 6]) mixed (by kernel_rfl) (fun _ _ _ _ _ h => h) ?_
  simp only [segT, segF, pickSegs, List.map_cons, List.map_nil, List.cons_append, List.nil_append, List.filterMap_cons, List.filterMap_nil, List.getElem?_cons_zero, List.getElem?_cons_succ, Option.map_some]
  have tA := (Turned.refl (fun _ => False) w1).alloc (.cells #[.slice none 0 0, .int .i64 0, .int .i8 0] 88)
  have tB := tA.alloc (.cells #[.int .u8 0, .int .u8 0, .int .u8 5] 5)
  have c4n := cell_turned tA c4 (fun e => e)
  have c4m := cell_turned tB c4 (fun e => e)
  iterate 5 (refine wpSegs_take (v := ?_) c4n rfl (fun w' hw => ?_) ?_; rotate_left; (go_simp; try with_reducible rfl); try simp only [Act.put, List.setIfInBounds_toArray, List.set_cons_zero, List.set_cons_succ])
  refine wpSegs_run rfl (fun K hK => ?_)
  go_simp
  refine hK.out _ _ c4m ?_
  clear hK K
  refine wpSegs_run rfl (fun K hK => ?_)
  go_simp
  have hbf : BufW B w1.heap.size [] ((w1.alloc (.cells #[.slice none 0 0, .int .i64 0, .int .i8 0] 88)).alloc (.cells #[.int .u8 0, .int .u8 0, .int .u8 5] 5)) := ((BufW.new w1).base hs1).alloc _
  have hnw := news_newB (w1.alloc (.cells #[.slice none 0 0, .int .i64 0, .int .i8 0] 88)) [0, 0, 5]
  have hsx : (w1.alloc (.cells #[.slice none 0 0, .int .i64 0, .int .i8 0] 88)).heap.size = w1.heap.size + 1 := by simp
  rw [hsx] at hnw
  refine (write_any B w1.heap.size [] [0, 0, 5] ⟨w1.heap.size + 1, 0, none⟩ 3 3 _ (hbf.drewN 1) (by simp; omega) (by decide) rfl (by omega) (by show w1.heap.size + 1 ≠ w1.heap.size; omega) hnw).mono ?_
  rintro e w2 ⟨rfl, b2, l2, o2⟩
  have l2b : Below B w1 w2 := (((Below.refl B w1).alloc hs1 (.cells #[.slice none 0 0, .int .i64 0, .int .i8 0] 88)).alloc (by rw [hsx]; omega) (.cells #[.int .u8 0, .int .u8 0, .int .u8 5] 5)).trans (⟨l2.os, l2.tape, l2.output, l2.size, l2.block⟩)
  have L2 := Lib.hid (L1.out.trans l2b)
  have B2 := Lib.hid b2
  have hs2 := Nat.le_trans hs1 l2b.size
  have hb1 : B ≤ w1.heap.size := hs1
  clear b2 l2 o2 l2b hbf hnw hsx tA tB c4n c4m
  clear c0 c1 c2 c3 c4 c5 c6 c7 c8 c9 c10
  obtain ⟨c0, c1, c2, c3, c4, c5, c6, c7, c8, c9, c10⟩ := hA0.out.below L2.out hrB
  simp only at c0 c1 c2 c3 c4 c5 c6 c7 c8 c9 c10
  refine hK.out _ _ c4 ?_
  clear hK K
  refine wpSegs_nil ?_
  go_wp2_with fail
  have hz2 : ([(0 : Int), 0, 5]).length ≤ 3 := by simp only [List.length_append, be_length, List.length_cons, List.length_nil]; omega
  refine (wnumber_any B w1.heap.size ([(0 : Int), 0, 5]) _ 2 _ B2.out hs2 (by omega) (by omega)).mono ?_
  rintro e w3 ⟨rfl, b3, l3, o3⟩
  have L3 := Lib.hid (L2.out.trans l3)
  have B3 := Lib.hid b3
  have hs3 := Nat.le_trans hs2 l3.size
  clear b3 l3 o3 B2 L2 hz2
  clear c0 c1 c2 c3 c4 c5 c6 c7 c8 c9 c10
  obtain ⟨c0, c1, c2, c3, c4, c5, c6, c7, c8, c9, c10⟩ := hA0.out.below L3.out hrB
  simp only at c0 c1 c2 c3 c4 c5 c6 c7 c8 c9 c10
  go_wp2_with fail
  have hst3 := Lib.hid (show PutRel B w1.heap.size w0 ([(0 : Int), 0, 5] ++ be 2 (Dn : Int)) 2 dirty Dn (.int .i64 0) w3 from ⟨0, by omega, rfl, by simpa using B3.out, L3.out⟩)
  clear c0 c1 c2 c3 c4 c5 c6 c7 c8 c9 c10 B3 L3
  go_loopw [34] (fun i wr => PutRel B w1.heap.size w0 ([(0 : Int), 0, 5] ++ be 2 (Dn : Int)) 2 dirty Dn i wr) (fun i _ => Dn - (intOf i).toNat)
  case atStart => exact hst3.out
  case round =>
    obtain ⟨j, hj, rfl, hb, hL⟩ := hrel
    clear hst3
    have hsr : B ≤ wr.heap.size := by have := hL.size; omega
    have hzl : ([(0 : Int), 0, 5] ++ be 2 (Dn : Int) ++ (dirty.take j).flatMap (pairL 2)).length ≤ 1000 := by
      have h1 := take_flat_le 2 dirty j 32 (by omega)
      simp only [List.length_append, be_length, List.length_cons, List.length_nil, flat_le] at *
      omega
    have hbr := hb.lt
    have hb' := Lib.hid hb
    have hL' := Lib.hid hL
    clear hb hL
    by_cases hlt : j < Dn
    · have hji : (j : Int) < (Dn : Int) := by omega
      obtain ⟨gb, off, hA, hc⟩ := (hI.out.dirty.fresh (hT0.out.and_ (hTB.out _ hL'.out))).cells (by show 0 < Dn; omega)
      simp only at hA
      obtain ⟨q1, q2⟩ := hc j hlt
      clear hc
      rw [hA]
      have hnx := Lib.hid (fun (w' : World) (h1 : BufW B w1.heap.size ([(0 : Int), 0, 5] ++ be 2 (Dn : Int) ++ (dirty.take j).flatMap (pairL 2) ++ be 2 (fstAt dirty j) ++ be 8 (sndAt dirty j)) w') (h2 : Below B w0 w') => PutRel.next hlt dirtyl.out h1 h2)
      generalize fstAt dirty j = f at *
      generalize sndAt dirty j = g at *
      go_wp2_with fail
      refine (wnumber_any B w1.heap.size ([(0 : Int), 0, 5] ++ be 2 (Dn : Int) ++ (dirty.take j).flatMap (pairL 2)) f 2 _ (hb'.out.alloc (.cells #[.int .i64 f, .int .i64 g] 95)) (by simp; omega) (by omega) (by omega)).mono ?_
      rintro e w5 ⟨rfl, b5, l5, o5⟩
      have hbx := o5 wr.heap.size _ (heap_alloc_new wr (.cells #[.int .i64 f, .int .i64 g] 95)) (fun e => by injection e with e; omega) (fun c fz e => by injection e with _ e2; exact absurd e2 (by decide))
      have d1 : w5.cell? ⟨wr.heap.size, 1, none⟩ = some (.int .i64 g) := cell_of_row w5 wr.heap.size 1 _ 95 (0, 0) hbx
      have l5b : Below B wr w5 := ((Below.refl B wr).alloc hsr (.cells #[.int .i64 f, .int .i64 g] 95)).trans l5
      have L5 := Lib.hid (hL'.out.trans l5b)
      have B5 := Lib.hid b5
      have hs5 := Nat.le_trans hsr l5b.size
      clear b5 l5 o5 l5b hbx
      go_wp2_with fail
      refine (wnumber_any B w1.heap.size ([(0 : Int), 0, 5] ++ be 2 (Dn : Int) ++ (dirty.take j).flatMap (pairL 2) ++ be 2 f) g 8 _ B5.out hs5 (by omega) (by rw [List.length_append, be_length]; omega)).mono ?_
      rintro e w6 ⟨rfl, b6, l6, o6⟩
      have hR := Lib.hid (hnx.out w6 b6 (L5.out.trans l6))
      clear b6 l6 o6 B5 d1
      go_wp2_with fail
      go_roundw
      case rel =>
        have hz : Value.int .i64 ((j : Int) + 1) = .int .i64 ((j + 1 : Nat) : Int) := by go_num
        first
        | (rw [hz]; exact hR.out)
        | ((repeat apply Exists.intro); exact ⟨by rw [hz]; exact hR.out, rfl⟩)
      case measure => simp [intOf] <;> omega
    · obtain rfl : Dn = j := by omega
      have hge : (Dn : Int) ≤ (Dn : Int) := Int.le_refl _
      obtain ⟨w4, hwx⟩ : ∃ w4 : World, w4 = wr := ⟨_, rfl⟩
      subst hwx
      have L4 := hL'
      have B4 := hb'
      rw [List.take_of_length_le (by rw [dirtyl.out]; exact Nat.le_refl _)] at B4
      have hs4 := hsr
      clear hL' hb' hzl hbr
      obtain ⟨c0, c1, c2, c3, c4, c5, c6, c7, c8, c9, c10⟩ := hA0.out.below L4.out hrB
      simp only at c0 c1 c2 c3 c4 c5 c6 c7 c8 c9 c10
      go_wp2_with fail
      have hz4 : ([(0 : Int), 0, 5] ++ be 2 (Dn : Int) ++ dirty.flatMap (pairL 2)).length ≤ 325 := by simp only [List.length_append, be_length, List.length_cons, List.length_nil, flat_le]; omega
      refine (wnumber_any B w1.heap.size ([(0 : Int), 0, 5] ++ be 2 (Dn : Int) ++ dirty.flatMap (pairL 2)) _ 2 _ B4.out hs4 (by omega) (by omega)).mono ?_
      rintro e w5 ⟨rfl, b5, l5, o5⟩
      have L5 := Lib.hid (L4.out.trans l5)
      have B5 := Lib.hid b5
      have hs5 := Nat.le_trans hs4 l5.size
      clear b5 l5 o5 B4 L4 hz4
      clear c0 c1 c2 c3 c4 c5 c6 c7 c8 c9 c10
      obtain ⟨c0, c1, c2, c3, c4, c5, c6, c7, c8, c9, c10⟩ := hA0.out.below L5.out hrB
      simp only at c0 c1 c2 c3 c4 c5 c6 c7 c8 c9 c10
      go_wp2_with fail
      have hst5 := Lib.hid (show PutRel B w1.heap.size w0 ([(0 : Int), 0, 5] ++ be 2 (Dn : Int) ++ dirty.flatMap (pairL 2) ++ be 2 (Pn : Int)) 8 opn Pn (.int .i64 0) w5 from ⟨0, by omega, rfl, by simpa using B5.out, L5.out⟩)
      clear c0 c1 c2 c3 c4 c5 c6 c7 c8 c9 c10 B5 L5
      go_loopw [55] (fun i wr => PutRel B w1.heap.size w0 ([(0 : Int), 0, 5] ++ be 2 (Dn : Int) ++ dirty.flatMap (pairL 2) ++ be 2 (Pn : Int)) 8 opn Pn i wr) (fun i _ => Pn - (intOf i).toNat)
      case atStart => exact hst5.out
      case round =>
        obtain ⟨j, hj, rfl, hb, hL⟩ := hrel
        clear hst5
        have hsr : B ≤ wr.heap.size := by have := hL.size; omega
        have hzl : ([(0 : Int), 0, 5] ++ be 2 (Dn : Int) ++ dirty.flatMap (pairL 2) ++ be 2 (Pn : Int) ++ (opn.take j).flatMap (pairL 8)).length ≤ 1000 := by
          have h1 := take_flat_le 8 opn j 8 (by omega)
          simp only [List.length_append, be_length, List.length_cons, List.length_nil, flat_le] at *
          omega
        have hbr := hb.lt
        have hb' := Lib.hid hb
        have hL' := Lib.hid hL
        clear hb hL
        by_cases hlt : j < Pn
        · have hji : (j : Int) < (Pn : Int) := by omega
          obtain ⟨gb, off, hA, hc⟩ := (hI.out.opn.fresh (hT0.out.and_ (hTB.out _ hL'.out))).cells (by show 0 < Pn; omega)
          simp only at hA
          obtain ⟨q1, q2⟩ := hc j hlt
          clear hc
          rw [hA]
          have hnx := Lib.hid (fun (w' : World) (h1 : BufW B w1.heap.size ([(0 : Int), 0, 5] ++ be 2 (Dn : Int) ++ dirty.flatMap (pairL 2) ++ be 2 (Pn : Int) ++ (opn.take j).flatMap (pairL 8) ++ be 8 (fstAt opn j) ++ be 8 (sndAt opn j)) w') (h2 : Below B w0 w') => PutRel.next hlt opnl.out h1 h2)
          generalize fstAt opn j = f at *
          generalize sndAt opn j = g at *
          go_wp2_with fail
          refine (wnumber_any B w1.heap.size ([(0 : Int), 0, 5] ++ be 2 (Dn : Int) ++ dirty.flatMap (pairL 2) ++ be 2 (Pn : Int) ++ (opn.take j).flatMap (pairL 8)) f 8 _ (hb'.out.alloc (.cells #[.int .i64 f, .int .i64 g] 97)) (by simp; omega) (by omega) (by omega)).mono ?_
          rintro e w5 ⟨rfl, b5, l5, o5⟩
          have hbx := o5 wr.heap.size _ (heap_alloc_new wr (.cells #[.int .i64 f, .int .i64 g] 97)) (fun e => by injection e with e; omega) (fun c fz e => by injection e with _ e2; exact absurd e2 (by decide))
          have d1 : w5.cell? ⟨wr.heap.size, 1, none⟩ = some (.int .i64 g) := cell_of_row w5 wr.heap.size 1 _ 97 (0, 0) hbx
          have l5b : Below B wr w5 := ((Below.refl B wr).alloc hsr (.cells #[.int .i64 f, .int .i64 g] 97)).trans l5
          have L5 := Lib.hid (hL'.out.trans l5b)
          have B5 := Lib.hid b5
          have hs5 := Nat.le_trans hsr l5b.size
          clear b5 l5 o5 l5b hbx
          go_wp2_with fail
          refine (wnumber_any B w1.heap.size ([(0 : Int), 0, 5] ++ be 2 (Dn : Int) ++ dirty.flatMap (pairL 2) ++ be 2 (Pn : Int) ++ (opn.take j).flatMap (pairL 8) ++ be 8 f) g 8 _ B5.out hs5 (by omega) (by rw [List.length_append, be_length]; omega)).mono ?_
          rintro e w6 ⟨rfl, b6, l6, o6⟩
          have hR := Lib.hid (hnx.out w6 b6 (L5.out.trans l6))
          clear b6 l6 o6 B5 d1
          go_wp2_with fail
          go_roundw
          case rel =>
            have hz : Value.int .i64 ((j : Int) + 1) = .int .i64 ((j + 1 : Nat) : Int) := by go_num
            first
            | (rw [hz]; exact hR.out)
            | ((repeat apply Exists.intro); exact ⟨by rw [hz]; exact hR.out, rfl⟩)
          case measure => simp [intOf] <;> omega
        · obtain rfl : Pn = j := by omega
          have hge : (Pn : Int) ≤ (Pn : Int) := Int.le_refl _
          obtain ⟨w6, hwx⟩ : ∃ w6 : World, w6 = wr := ⟨_, rfl⟩
          subst hwx
          have L6 := hL'
          have B6 := hb'
          rw [List.take_of_length_le (by rw [opnl.out]; exact Nat.le_refl _)] at B6
          have hs6 := hsr
          clear hL' hb' hzl hbr
          obtain ⟨c0, c1, c2, c3, c4, c5, c6, c7, c8, c9, c10⟩ := hA0.out.below L6.out hrB
          simp only at c0 c1 c2 c3 c4 c5 c6 c7 c8 c9 c10
          go_wp2_with fail
          have hzz : ([(0 : Int), 0, 5] ++ be 2 (Dn : Int) ++ dirty.flatMap (pairL 2) ++ be 2 (Pn : Int) ++ opn.flatMap (pairL 8)) = 0 :: 0 :: bodyL ⟨lsn, work, prev, next, 5, page, key, old, new, dirty, opn⟩ := by simp [bodyL, restL, turnL, listL, dirtyl.out, opnl.out]
          have hzl : ([(0 : Int), 0, 5] ++ be 2 (Dn : Int) ++ dirty.flatMap (pairL 2) ++ be 2 (Pn : Int) ++ opn.flatMap (pairL 8)).length ≤ 455 := by simp only [List.length_append, be_length, List.length_cons, List.length_nil, flat_le]; omega
          generalize hzg : ([(0 : Int), 0, 5] ++ be 2 (Dn : Int) ++ dirty.flatMap (pairL 2) ++ be 2 (Pn : Int) ++ opn.flatMap (pairL 8)) = z at *
          clear hzg
          refine (bytes_any B w1.heap.size z _ B6.out (by rw [hzz]; simp)).mono ?_
          rintro e wk ⟨g, cap, rfl, hrow, hBg, hgb, nq, rfl⟩
          have hm2 : 2 ≤ z.length := by rw [hzz]; simp
          have hfp := Lib.hid (fun (m : Nat) (hm : z.length = m) => fin_put hr'.out hzz m hm)
          have hz01 : z.getD 0 0 = 0 ∧ z.getD 1 0 = 0 := by rw [hzz]; exact ⟨rfl, rfl⟩
          obtain ⟨m, hm⟩ : ∃ m, m = z.length := ⟨_, rfl⟩
          rw [← hm] at hrow hm2 hzl ⊢
          have hfp' := Lib.hid (hfp.out m hm.symm hm2 (by omega))
          have hm' := Lib.hid hm
          have q0 := hrow.cell (i := 0) (by omega)
          have q1 := hrow.cell (i := 1) (by omega)
          rw [hz01.1] at q0
          rw [hz01.2] at q1
          have f0 := hrow.frozen 0
          have f1 := hrow.frozen 1
          have hmi : (2 : Int) ≤ (m : Int) := by omega
          have hmi2 : (m : Int) ≤ 1000 := by omega
          have hm1k : m ≤ 1000 := by omega
          clear hzl
          have hle := hrow.le
          have hrow' := Lib.hid hrow
          have HB := Lib.hid hBg
          have T6 := Lib.hid (hT0.out.and_ (hTB.out _ L6.out))
          clear hrow hz01 hm hzz hfp hBg B6 hgb
          clear c0 c1 c2 c3 c4 c5 c6 c7 c8 c9 c10
          go_wp2_with fail
          have hR2 := ((hrow'.out.turned ((Turned.refl (fun _ => False) w6).drewN nq) (fun e => e)).set 0 (((m : Int) - 2) / 256)).set 1 (((m : Int) - 2) % 256)
          rw [hfp'.out] at hR2
          have tS := (((Turned.refl (fun k => k = g) w6).drewN nq).setCell (p := ⟨g, 0, none⟩) (.inl rfl) (.int .u8 (((m : Int) - 2) / 256))).setCell (p := ⟨g, 1, none⟩) (.inl rfl) (.int .u8 (((m : Int) - 2) % 256))
          have T6s := Lib.hid (T6.out.trans (W := fun _ => False) tS (fun _ e => e) (fun k e => .inr (by have := HB.out; omega)))
          have hR2' := Lib.hid hR2
          clear hR2 tS q0 q1 f0 f1
          refine (clone_any (some ⟨g, 0, none⟩) m cap (putR _) _ (hR2'.out.bytS cap) (by omega)).mono ?_
          rintro e wl ⟨A, c, rfl, oL, gL, tL⟩
          have FL := Lib.hid (And.intro oL (And.intro gL (T6s.out.and_ tL)))
          have hsL := T6s.out.size
          clear oL gL tL
          go_wp2_with fail
          go_ret2
          unfold RPut
          rw [hr'.out]
          exact ⟨A, c, rfl, FL.out.1, fun g' e => Nat.le_trans hsL (FL.out.2.1 g' e), FL.out.2.2⟩
theorem rput_any (R : Rec) (S : RecS) (w : World) (h : RecIs w R S) : Calls Tryd.prog 12 #[.agg (recC R S)] w (RPut R w) := by
  cases hr : rightR R with
  | false => exact put_no R S w h hr
  | true =>
    by_cases h1 : R.kind = 1
    · exact put_1 R S w h hr h1
    · by_cases h2 : R.kind = 2
      · exact put_2 R S w h hr h2
      · by_cases h3 : R.kind = 3
        · exact put_3 R S w h hr h3
        · by_cases h4 : R.kind = 4
          · exact put_4 R S w h hr h4
          · by_cases h5 : R.kind = 5
            · exact put_5 R S w h hr h5
            · by_cases h6 : R.kind = 6
              · exact put_6 R S w h hr h6
              · exfalso
                unfold rightR kindB at hr
                rw [if_neg h5, if_neg h1, if_neg h2, if_neg (by omega), if_neg h6] at hr
                simp at hr
end Go.Proofs.YtfheikmjjijdpaaDoor

