/-
  storemanref19.Put: a record's bytes, as the document says. No condition but numbers.
-/
import Derived.Test.YtohajofkflibjaaGreatDoorRfC
namespace Go.Proofs.YtohajofkflibjaaGreatDoor
open Go.RowKit Go.Maps
set_option linter.unusedVariables false
set_option linter.unusedSimpArgs false

def FpRel (w0 : World) (z : List Int) (a : Nat) (l : List (Int × Int)) (n : Nat) (v i : Value) (wr : World) : Prop :=
  ∃ (j : Nat) (A : Option Addr) (c : Nat), j ≤ n ∧ i = .int .i64 j ∧ v = .slice A (z ++ (l.take j).flatMap (pairL a)).length c ∧ OwnV wr A (z ++ (l.take j).flatMap (pairL a)).length c (z ++ (l.take j).flatMap (pairL a)) ∧ (∀ g, A = some ⟨g, 0, none⟩ → w0.heap.size ≤ g) ∧ Turned (fun _ => False) w0 wr
theorem FpRel.next {w0 w4 : World} {z : List Int} {a : Nat} {l : List (Int × Int)} {n j m c : Nat} {A : Option Addr} (hj : j < n) (hl : l.length = n) (hm : m = (z ++ (l.take j).flatMap (pairL a)).length + a + 8) (ho : OwnV w4 A m c (((z ++ (l.take j).flatMap (pairL a)) ++ be a (fstAt l j)) ++ be 8 (sndAt l j))) (hg : ∀ g, A = some ⟨g, 0, none⟩ → w0.heap.size ≤ g) (ht : Turned (fun _ => False) w0 w4) :
    FpRel w0 z a l n (.slice A m c) (.int .i64 ((j + 1 : Nat) : Int)) w4 := by
  have e : z ++ (l.take (j + 1)).flatMap (pairL a) = ((z ++ (l.take j).flatMap (pairL a)) ++ be a (fstAt l j)) ++ be 8 (sndAt l j) := by
    rw [take_getD_succ l j (by omega)]
    simp [pairL]
  have el : (z ++ (l.take (j + 1)).flatMap (pairL a)).length = m := by
    rw [e, List.length_append, List.length_append, be_length, be_length]
    omega
  exact ⟨j + 1, A, c, hj, rfl, by rw [el], by rw [el, e]; exact ho, hg, ht⟩
theorem pair_i64 {l : List (Int × Int)} {j : Nat} (h : ∀ p ∈ l, I64 p.1 ∧ I64 p.2) (hj : j < l.length) : I64 (fstAt l j) ∧ I64 (sndAt l j) := by
  unfold fstAt sndAt
  rw [List.getD_eq_getElem?_getD, List.getElem?_eq_getElem hj]
  exact h _ (List.getElem_mem hj)
theorem SlP.at_ {w : World} {s : Sl} {l : List (Int × Int)} {b off i : Nat} (h : SlP w s l) (e : s.A = some ⟨b, off, none⟩) (hi : i < s.n) : w.cell? ⟨b, off + i * 2, none⟩ = some (.int .i64 (fstAt l i)) ∧ w.cell? ⟨b, off + i * 2 + 1, none⟩ = some (.int .i64 (sndAt l i)) := by
  obtain ⟨b2, o2, e2, hc⟩ := h.cells (by omega)
  rw [e] at e2
  injection e2 with e2
  injection e2 with e3 e4
  subst e3 e4
  exact hc i hi
theorem row_len {w : World} {s : Sl} {zs : List Int} (h : SlB w s zs) : (rowL zs).length = s.n + 1 := by rw [rowL_length, h.len]
set_option maxRecDepth 100000 in
set_option maxHeartbeats 1000000 in
theorem fput_no (R : Rec) (S : RecS) (w : World) (h : RecIs w R S) (hr : rightR R = false) : Calls Tryz.prog 13 #[.agg (recC R S)] w (RPut R w) := by
  have hRt := Lib.hid (fun (w' : World) (t : Turned (fun _ => False) w w') => fright_any R S w' (h.fresh t))
  rw [hr] at hRt
  have hr' := Lib.hid hr
  clear h hr
  obtain ⟨lsn, work, prev, next, kind, page, key, old, new, dirty, opn⟩ := R
  obtain ⟨⟨KA, Kn, Kc⟩, ⟨OA, On, Oc⟩, ⟨NA, Nn, Nc⟩, ⟨DA, Dn, Dc⟩, ⟨PA, Pn, Pc⟩⟩ := S
  have hT0 := Lib.hid ((Turned.refl (fun _ => False) w).alloc (.cells #[.int .i64 lsn, .int .i64 work, .int .i64 prev, .int .i64 next, .int .u8 kind, .int .i64 page, .slice KA Kn Kc, .slice OA On Oc, .slice NA Nn Nc, .slice DA Dn Dc, .slice PA Pn Pc] 29))
  unfold recC at *
  simp only at hRt ⊢
  go_enter Tryz.func13, Tryz.ntmps13
  go_wp2_with fail
  refine (hRt.out _ hT0.out).mono ?_
  rintro e w1 ⟨rfl, t1⟩
  have T1 := Lib.hid (hT0.out.and_ t1)
  clear t1
  go_wp2_with fail
  go_ret2
  unfold RPut
  rw [rput_no hr'.out, hr'.out]
  exact ⟨none, 0, rfl, OwnV.nil _, (fun g e => by cases e), T1.out⟩
set_option maxRecDepth 100000 in
set_option maxHeartbeats 4000000 in
theorem fput_3 (R : Rec) (S : RecS) (w : World) (h : RecIs w R S) (hk : R.Ok) (hr : rightR R = true) (hkd : R.kind = 3) : Calls Tryz.prog 13 #[.agg (recC R S)] w (RPut R w) := by
  have hRt := Lib.hid (fun (w' : World) (t : Turned (fun _ => False) w w') => fright_any R S w' (h.fresh t))
  rw [hr] at hRt
  have hyes := Lib.hid (rput_yes hr)
  have hbl := body_len hr
  have hr' := Lib.hid hr
  have hK := Lib.hid hk
  have I0 := Lib.hid h
  clear h hr hk
  obtain ⟨lsn, work, prev, next, kind, page, key, old, new, dirty, opn⟩ := R
  obtain ⟨⟨KA, Kn, Kc⟩, ⟨OA, On, Oc⟩, ⟨NA, Nn, Nc⟩, ⟨DA, Dn, Dc⟩, ⟨PA, Pn, Pc⟩⟩ := S
  simp only at hkd
  subst hkd

  have XB := Lib.hid (Blk.new w 29 #[.int .i64 lsn, .int .i64 work, .int .i64 prev, .int .i64 next, .int .u8 3, .int .i64 page, .slice KA Kn Kc, .slice OA On Oc, .slice NA Nn Nc, .slice DA Dn Dc, .slice PA Pn Pc])
  have t0 := Lib.hid ((Turned.refl (fun _ => False) w).alloc (.cells #[.int .i64 lsn, .int .i64 work, .int .i64 prev, .int .i64 next, .int .u8 3, .int .i64 page, .slice KA Kn Kc, .slice OA On Oc, .slice NA Nn Nc, .slice DA Dn Dc, .slice PA Pn Pc] 29))
  have I := Lib.hid (I0.out.fresh t0.out)
  clear I0
  unfold recC at *
  simp only at hRt I ⊢
  go_enter Tryz.func13, Tryz.ntmps13
  go_wp2_with fail
  refine (hRt.out _ t0.out).mono ?_
  rintro e w1 ⟨rfl, t1⟩
  have hsz0 := Lib.hid t0.out.size
  generalize hw0 : w.alloc (.cells #[.int .i64 lsn, .int .i64 work, .int .i64 prev, .int .i64 next, .int .u8 3, .int .i64 page, .slice KA Kn Kc, .slice OA On Oc, .slice NA Nn Nc, .slice DA Dn Dc, .slice PA Pn Pc] 29) = w0 at *
  clear hw0
  have T1 := Lib.hid t1
  clear t1 hRt
  obtain ⟨x0, x1, x2, x3, x4, x5, x6, x7, x8, x9, x10⟩ := (RecAt.of_blk (R := ⟨lsn, work, prev, next, 3, page, key, old, new, dirty, opn⟩) (S := ⟨⟨KA, Kn, Kc⟩, ⟨OA, On, Oc⟩, ⟨NA, Nn, Nc⟩, ⟨DA, Dn, Dc⟩, ⟨PA, Pn, Pc⟩⟩) XB.out).fresh T1.out
  simp only at x0 x1 x2 x3 x4 x5 x6 x7 x8 x9 x10
  have R2 := Lib.hid (RowE1.new w1 3)
  have T2 := Lib.hid (T1.out.alloc (.cells #[.int .u8 3] 5))
  have G2 := Lib.hid (fun g (e : (some ⟨w1.heap.size, 0, none⟩ : Option Addr) = some ⟨g, 0, none⟩) => (show w0.heap.size ≤ g by injection e with e; injection e with e; have := T1.out.size; omega))
  have O2 := Lib.hid (OwnV.of_row R2.out)
  clear R2
  obtain ⟨y0, y1, y2, y3, y4, y5, y6, y7, y8, y9, y10⟩ := (RecAt.of_blk (R := ⟨lsn, work, prev, next, 3, page, key, old, new, dirty, opn⟩) (S := ⟨⟨KA, Kn, Kc⟩, ⟨OA, On, Oc⟩, ⟨NA, Nn, Nc⟩, ⟨DA, Dn, Dc⟩, ⟨PA, Pn, Pc⟩⟩) XB.out).fresh T2.out
  simp only at y0 y1 y2 y3 y4 y5 y6 y7 y8 y9 y10
  go_wp2_with fail
  clear y0 y1 y2 y3 y4 y5 y6 y7 y8 y9 y10
  clear x0 x1 x2 x3 x4 x5 x6 x7 x8 x9 x10
  refine (fnumber_any (work) 8 _ (by omega) hK.out.work).mono ?_
  rintro e v3 ⟨B3, d3, rfl, p3, _, t3⟩
  rw [show (be 8 (work)).length = 8 from be_length _ _] at p3 ⊢
  obtain ⟨gb3, rfl, _⟩ := p3.some_ (by omega)
  have P3 := Lib.hid p3
  have U3 := Lib.hid t3
  clear p3 t3
  go_wp2_with (at_builtin; refine wpList_app2 bytT rfl (.tmp 83) (.tmp 86) rfl (O2.out.turned U3.out (fun _ _ e => e)) ⟨gb3, 0, none⟩ (8) d3 (be 8 (work)) (by rw [show (be 8 (work)).length = 8 from be_length _ _]) (P3.out.bytS'.news _ rfl) (by omega) (by omega) rfl rfl ?_; intro A3 c3 w3 ho3 hor3; obtain ⟨TT3, GG3⟩ := app_step T2.out G2.out U3.out hor3; obtain ⟨x0, x1, x2, x3, x4, x5, x6, x7, x8, x9, x10⟩ := (RecAt.of_blk (R := ⟨lsn, work, prev, next, 3, page, key, old, new, dirty, opn⟩) (S := ⟨⟨KA, Kn, Kc⟩, ⟨OA, On, Oc⟩, ⟨NA, Nn, Nc⟩, ⟨DA, Dn, Dc⟩, ⟨PA, Pn, Pc⟩⟩) XB.out).fresh TT3; simp only at x0 x1 x2 x3 x4 x5 x6 x7 x8 x9 x10)
  have T3 := Lib.hid TT3
  have G3 := Lib.hid GG3
  have O3 := Lib.hid ho3
  clear TT3 GG3 ho3 hor3 P3 U3 O2 G2 T2
  clear x0 x1 x2 x3 x4 x5 x6 x7 x8 x9 x10
  refine (fnumber_any (prev) 8 _ (by omega) hK.out.prev).mono ?_
  rintro e v4 ⟨B4, d4, rfl, p4, _, t4⟩
  rw [show (be 8 (prev)).length = 8 from be_length _ _] at p4 ⊢
  obtain ⟨gb4, rfl, _⟩ := p4.some_ (by omega)
  have P4 := Lib.hid p4
  have U4 := Lib.hid t4
  clear p4 t4
  go_wp2_with (at_builtin; refine wpList_app2 bytT rfl (.tmp 88) (.tmp 91) rfl (O3.out.turned U4.out (fun _ _ e => e)) ⟨gb4, 0, none⟩ (8) d4 (be 8 (prev)) (by rw [show (be 8 (prev)).length = 8 from be_length _ _]) (P4.out.bytS'.news _ rfl) (by omega) (by omega) rfl rfl ?_; intro A4 c4 w4 ho4 hor4; obtain ⟨TT4, GG4⟩ := app_step T3.out G3.out U4.out hor4; obtain ⟨x0, x1, x2, x3, x4, x5, x6, x7, x8, x9, x10⟩ := (RecAt.of_blk (R := ⟨lsn, work, prev, next, 3, page, key, old, new, dirty, opn⟩) (S := ⟨⟨KA, Kn, Kc⟩, ⟨OA, On, Oc⟩, ⟨NA, Nn, Nc⟩, ⟨DA, Dn, Dc⟩, ⟨PA, Pn, Pc⟩⟩) XB.out).fresh TT4; simp only at x0 x1 x2 x3 x4 x5 x6 x7 x8 x9 x10)
  have T4 := Lib.hid TT4
  have G4 := Lib.hid GG4
  have O4 := Lib.hid ho4
  clear TT4 GG4 ho4 hor4 P4 U4 O3 G3 T3
  clear x0 x1 x2 x3 x4 x5 x6 x7 x8 x9 x10
  refine (fnumber_any (((1 + 8 + 8 : Nat) : Int)) 2 _ (by omega) (by unfold I64; omega)).mono ?_
  rintro e v5 ⟨B5, d5, rfl, p5, h5, t5⟩
  rw [be_length] at p5 ⊢
  obtain ⟨gb5, rfl, _⟩ := p5.some_ (by omega)
  have P5 := Lib.hid p5
  have T5 := Lib.hid (T4.out.and_ t5)
  have G5 := Lib.hid (fun g (e : (some ⟨gb5, 0, none⟩ : Option Addr) = some ⟨g, 0, none⟩) => Nat.le_trans T4.out.size (h5 g e))
  have Q5 := Lib.hid (O4.out.turned t5 (fun _ _ e => e))
  clear p5 t5 h5 O4 T4 G4
  go_wp2_with (at_builtin; refine wpList_app4 bytT rfl (.tmp 150) (.tmp 151) rfl P5.out Q5.out.bytS' (by omega) rfl rfl ?_; intro A6 c6 w6 ho hor)
  obtain ⟨TZ, GZ⟩ := app_step T5.out G5.out (Turned.refl _ _) hor
  have TZ := Lib.hid TZ
  have GZ := Lib.hid GZ
  have OZ := Lib.hid ho
  clear ho hor
  go_ret2
  have hbody : bodyL ⟨lsn, work, prev, next, 3, page, key, old, new, dirty, opn⟩ = [(3 : Int)] ++ be 8 work ++ be 8 prev := by simp [bodyL, restL, turnL, listL]
  have hbl2 : (bodyL ⟨lsn, work, prev, next, 3, page, key, old, new, dirty, opn⟩).length = 1 + 8 + 8 := by rw [hbody]; simp [be_length, rowL_length, flat_le]
  unfold RPut
  rw [hyes.out, hr'.out, hbl2, List.length_append, be_length, hbl2, hbody]
  exact ⟨A6, c6, rfl, OZ.out, fun g e => Nat.le_trans (by have := hsz0.out; omega) (GZ.out g e), t0.out.and_ TZ.out⟩
set_option maxRecDepth 100000 in
set_option maxHeartbeats 4000000 in
theorem fput_4 (R : Rec) (S : RecS) (w : World) (h : RecIs w R S) (hk : R.Ok) (hr : rightR R = true) (hkd : R.kind = 4) : Calls Tryz.prog 13 #[.agg (recC R S)] w (RPut R w) := by
  have hRt := Lib.hid (fun (w' : World) (t : Turned (fun _ => False) w w') => fright_any R S w' (h.fresh t))
  rw [hr] at hRt
  have hyes := Lib.hid (rput_yes hr)
  have hbl := body_len hr
  have hr' := Lib.hid hr
  have hK := Lib.hid hk
  have I0 := Lib.hid h
  clear h hr hk
  obtain ⟨lsn, work, prev, next, kind, page, key, old, new, dirty, opn⟩ := R
  obtain ⟨⟨KA, Kn, Kc⟩, ⟨OA, On, Oc⟩, ⟨NA, Nn, Nc⟩, ⟨DA, Dn, Dc⟩, ⟨PA, Pn, Pc⟩⟩ := S
  simp only at hkd
  subst hkd

  have XB := Lib.hid (Blk.new w 29 #[.int .i64 lsn, .int .i64 work, .int .i64 prev, .int .i64 next, .int .u8 4, .int .i64 page, .slice KA Kn Kc, .slice OA On Oc, .slice NA Nn Nc, .slice DA Dn Dc, .slice PA Pn Pc])
  have t0 := Lib.hid ((Turned.refl (fun _ => False) w).alloc (.cells #[.int .i64 lsn, .int .i64 work, .int .i64 prev, .int .i64 next, .int .u8 4, .int .i64 page, .slice KA Kn Kc, .slice OA On Oc, .slice NA Nn Nc, .slice DA Dn Dc, .slice PA Pn Pc] 29))
  have I := Lib.hid (I0.out.fresh t0.out)
  clear I0
  unfold recC at *
  simp only at hRt I ⊢
  go_enter Tryz.func13, Tryz.ntmps13
  go_wp2_with fail
  refine (hRt.out _ t0.out).mono ?_
  rintro e w1 ⟨rfl, t1⟩
  have hsz0 := Lib.hid t0.out.size
  generalize hw0 : w.alloc (.cells #[.int .i64 lsn, .int .i64 work, .int .i64 prev, .int .i64 next, .int .u8 4, .int .i64 page, .slice KA Kn Kc, .slice OA On Oc, .slice NA Nn Nc, .slice DA Dn Dc, .slice PA Pn Pc] 29) = w0 at *
  clear hw0
  have T1 := Lib.hid t1
  clear t1 hRt
  obtain ⟨x0, x1, x2, x3, x4, x5, x6, x7, x8, x9, x10⟩ := (RecAt.of_blk (R := ⟨lsn, work, prev, next, 4, page, key, old, new, dirty, opn⟩) (S := ⟨⟨KA, Kn, Kc⟩, ⟨OA, On, Oc⟩, ⟨NA, Nn, Nc⟩, ⟨DA, Dn, Dc⟩, ⟨PA, Pn, Pc⟩⟩) XB.out).fresh T1.out
  simp only at x0 x1 x2 x3 x4 x5 x6 x7 x8 x9 x10
  have R2 := Lib.hid (RowE1.new w1 4)
  have T2 := Lib.hid (T1.out.alloc (.cells #[.int .u8 4] 5))
  have G2 := Lib.hid (fun g (e : (some ⟨w1.heap.size, 0, none⟩ : Option Addr) = some ⟨g, 0, none⟩) => (show w0.heap.size ≤ g by injection e with e; injection e with e; have := T1.out.size; omega))
  have O2 := Lib.hid (OwnV.of_row R2.out)
  clear R2
  obtain ⟨y0, y1, y2, y3, y4, y5, y6, y7, y8, y9, y10⟩ := (RecAt.of_blk (R := ⟨lsn, work, prev, next, 4, page, key, old, new, dirty, opn⟩) (S := ⟨⟨KA, Kn, Kc⟩, ⟨OA, On, Oc⟩, ⟨NA, Nn, Nc⟩, ⟨DA, Dn, Dc⟩, ⟨PA, Pn, Pc⟩⟩) XB.out).fresh T2.out
  simp only at y0 y1 y2 y3 y4 y5 y6 y7 y8 y9 y10
  go_wp2_with fail
  clear y0 y1 y2 y3 y4 y5 y6 y7 y8 y9 y10
  clear x0 x1 x2 x3 x4 x5 x6 x7 x8 x9 x10
  refine (fnumber_any (work) 8 _ (by omega) hK.out.work).mono ?_
  rintro e v3 ⟨B3, d3, rfl, p3, _, t3⟩
  rw [show (be 8 (work)).length = 8 from be_length _ _] at p3 ⊢
  obtain ⟨gb3, rfl, _⟩ := p3.some_ (by omega)
  have P3 := Lib.hid p3
  have U3 := Lib.hid t3
  clear p3 t3
  go_wp2_with (at_builtin; refine wpList_app2 bytT rfl (.tmp 83) (.tmp 86) rfl (O2.out.turned U3.out (fun _ _ e => e)) ⟨gb3, 0, none⟩ (8) d3 (be 8 (work)) (by rw [show (be 8 (work)).length = 8 from be_length _ _]) (P3.out.bytS'.news _ rfl) (by omega) (by omega) rfl rfl ?_; intro A3 c3 w3 ho3 hor3; obtain ⟨TT3, GG3⟩ := app_step T2.out G2.out U3.out hor3; obtain ⟨x0, x1, x2, x3, x4, x5, x6, x7, x8, x9, x10⟩ := (RecAt.of_blk (R := ⟨lsn, work, prev, next, 4, page, key, old, new, dirty, opn⟩) (S := ⟨⟨KA, Kn, Kc⟩, ⟨OA, On, Oc⟩, ⟨NA, Nn, Nc⟩, ⟨DA, Dn, Dc⟩, ⟨PA, Pn, Pc⟩⟩) XB.out).fresh TT3; simp only at x0 x1 x2 x3 x4 x5 x6 x7 x8 x9 x10)
  have T3 := Lib.hid TT3
  have G3 := Lib.hid GG3
  have O3 := Lib.hid ho3
  clear TT3 GG3 ho3 hor3 P3 U3 O2 G2 T2
  clear x0 x1 x2 x3 x4 x5 x6 x7 x8 x9 x10
  refine (fnumber_any (prev) 8 _ (by omega) hK.out.prev).mono ?_
  rintro e v4 ⟨B4, d4, rfl, p4, _, t4⟩
  rw [show (be 8 (prev)).length = 8 from be_length _ _] at p4 ⊢
  obtain ⟨gb4, rfl, _⟩ := p4.some_ (by omega)
  have P4 := Lib.hid p4
  have U4 := Lib.hid t4
  clear p4 t4
  go_wp2_with (at_builtin; refine wpList_app2 bytT rfl (.tmp 88) (.tmp 91) rfl (O3.out.turned U4.out (fun _ _ e => e)) ⟨gb4, 0, none⟩ (8) d4 (be 8 (prev)) (by rw [show (be 8 (prev)).length = 8 from be_length _ _]) (P4.out.bytS'.news _ rfl) (by omega) (by omega) rfl rfl ?_; intro A4 c4 w4 ho4 hor4; obtain ⟨TT4, GG4⟩ := app_step T3.out G3.out U4.out hor4; obtain ⟨x0, x1, x2, x3, x4, x5, x6, x7, x8, x9, x10⟩ := (RecAt.of_blk (R := ⟨lsn, work, prev, next, 4, page, key, old, new, dirty, opn⟩) (S := ⟨⟨KA, Kn, Kc⟩, ⟨OA, On, Oc⟩, ⟨NA, Nn, Nc⟩, ⟨DA, Dn, Dc⟩, ⟨PA, Pn, Pc⟩⟩) XB.out).fresh TT4; simp only at x0 x1 x2 x3 x4 x5 x6 x7 x8 x9 x10)
  have T4 := Lib.hid TT4
  have G4 := Lib.hid GG4
  have O4 := Lib.hid ho4
  clear TT4 GG4 ho4 hor4 P4 U4 O3 G3 T3
  clear x0 x1 x2 x3 x4 x5 x6 x7 x8 x9 x10
  refine (fnumber_any (((1 + 8 + 8 : Nat) : Int)) 2 _ (by omega) (by unfold I64; omega)).mono ?_
  rintro e v5 ⟨B5, d5, rfl, p5, h5, t5⟩
  rw [be_length] at p5 ⊢
  obtain ⟨gb5, rfl, _⟩ := p5.some_ (by omega)
  have P5 := Lib.hid p5
  have T5 := Lib.hid (T4.out.and_ t5)
  have G5 := Lib.hid (fun g (e : (some ⟨gb5, 0, none⟩ : Option Addr) = some ⟨g, 0, none⟩) => Nat.le_trans T4.out.size (h5 g e))
  have Q5 := Lib.hid (O4.out.turned t5 (fun _ _ e => e))
  clear p5 t5 h5 O4 T4 G4
  go_wp2_with (at_builtin; refine wpList_app4 bytT rfl (.tmp 150) (.tmp 151) rfl P5.out Q5.out.bytS' (by omega) rfl rfl ?_; intro A6 c6 w6 ho hor)
  obtain ⟨TZ, GZ⟩ := app_step T5.out G5.out (Turned.refl _ _) hor
  have TZ := Lib.hid TZ
  have GZ := Lib.hid GZ
  have OZ := Lib.hid ho
  clear ho hor
  go_ret2
  have hbody : bodyL ⟨lsn, work, prev, next, 4, page, key, old, new, dirty, opn⟩ = [(4 : Int)] ++ be 8 work ++ be 8 prev := by simp [bodyL, restL, turnL, listL]
  have hbl2 : (bodyL ⟨lsn, work, prev, next, 4, page, key, old, new, dirty, opn⟩).length = 1 + 8 + 8 := by rw [hbody]; simp [be_length, rowL_length, flat_le]
  unfold RPut
  rw [hyes.out, hr'.out, hbl2, List.length_append, be_length, hbl2, hbody]
  exact ⟨A6, c6, rfl, OZ.out, fun g e => Nat.le_trans (by have := hsz0.out; omega) (GZ.out g e), t0.out.and_ TZ.out⟩
set_option maxRecDepth 100000 in
set_option maxHeartbeats 4000000 in
theorem fput_6 (R : Rec) (S : RecS) (w : World) (h : RecIs w R S) (hk : R.Ok) (hr : rightR R = true) (hkd : R.kind = 6) : Calls Tryz.prog 13 #[.agg (recC R S)] w (RPut R w) := by
  have hRt := Lib.hid (fun (w' : World) (t : Turned (fun _ => False) w w') => fright_any R S w' (h.fresh t))
  rw [hr] at hRt
  have hyes := Lib.hid (rput_yes hr)
  have hbl := body_len hr
  have hr' := Lib.hid hr
  have hK := Lib.hid hk
  have I0 := Lib.hid h
  clear h hr hk
  obtain ⟨lsn, work, prev, next, kind, page, key, old, new, dirty, opn⟩ := R
  obtain ⟨⟨KA, Kn, Kc⟩, ⟨OA, On, Oc⟩, ⟨NA, Nn, Nc⟩, ⟨DA, Dn, Dc⟩, ⟨PA, Pn, Pc⟩⟩ := S
  simp only at hkd
  subst hkd

  have XB := Lib.hid (Blk.new w 29 #[.int .i64 lsn, .int .i64 work, .int .i64 prev, .int .i64 next, .int .u8 6, .int .i64 page, .slice KA Kn Kc, .slice OA On Oc, .slice NA Nn Nc, .slice DA Dn Dc, .slice PA Pn Pc])
  have t0 := Lib.hid ((Turned.refl (fun _ => False) w).alloc (.cells #[.int .i64 lsn, .int .i64 work, .int .i64 prev, .int .i64 next, .int .u8 6, .int .i64 page, .slice KA Kn Kc, .slice OA On Oc, .slice NA Nn Nc, .slice DA Dn Dc, .slice PA Pn Pc] 29))
  have I := Lib.hid (I0.out.fresh t0.out)
  clear I0
  unfold recC at *
  simp only at hRt I ⊢
  go_enter Tryz.func13, Tryz.ntmps13
  go_wp2_with fail
  refine (hRt.out _ t0.out).mono ?_
  rintro e w1 ⟨rfl, t1⟩
  have hsz0 := Lib.hid t0.out.size
  generalize hw0 : w.alloc (.cells #[.int .i64 lsn, .int .i64 work, .int .i64 prev, .int .i64 next, .int .u8 6, .int .i64 page, .slice KA Kn Kc, .slice OA On Oc, .slice NA Nn Nc, .slice DA Dn Dc, .slice PA Pn Pc] 29) = w0 at *
  clear hw0
  have T1 := Lib.hid t1
  clear t1 hRt
  obtain ⟨x0, x1, x2, x3, x4, x5, x6, x7, x8, x9, x10⟩ := (RecAt.of_blk (R := ⟨lsn, work, prev, next, 6, page, key, old, new, dirty, opn⟩) (S := ⟨⟨KA, Kn, Kc⟩, ⟨OA, On, Oc⟩, ⟨NA, Nn, Nc⟩, ⟨DA, Dn, Dc⟩, ⟨PA, Pn, Pc⟩⟩) XB.out).fresh T1.out
  simp only at x0 x1 x2 x3 x4 x5 x6 x7 x8 x9 x10
  have R2 := Lib.hid (RowE1.new w1 6)
  have T2 := Lib.hid (T1.out.alloc (.cells #[.int .u8 6] 5))
  have G2 := Lib.hid (fun g (e : (some ⟨w1.heap.size, 0, none⟩ : Option Addr) = some ⟨g, 0, none⟩) => (show w0.heap.size ≤ g by injection e with e; injection e with e; have := T1.out.size; omega))
  have O2 := Lib.hid (OwnV.of_row R2.out)
  clear R2
  obtain ⟨y0, y1, y2, y3, y4, y5, y6, y7, y8, y9, y10⟩ := (RecAt.of_blk (R := ⟨lsn, work, prev, next, 6, page, key, old, new, dirty, opn⟩) (S := ⟨⟨KA, Kn, Kc⟩, ⟨OA, On, Oc⟩, ⟨NA, Nn, Nc⟩, ⟨DA, Dn, Dc⟩, ⟨PA, Pn, Pc⟩⟩) XB.out).fresh T2.out
  simp only at y0 y1 y2 y3 y4 y5 y6 y7 y8 y9 y10
  go_wp2_with fail
  clear y0 y1 y2 y3 y4 y5 y6 y7 y8 y9 y10
  clear x0 x1 x2 x3 x4 x5 x6 x7 x8 x9 x10
  refine (fnumber_any (work) 8 _ (by omega) hK.out.work).mono ?_
  rintro e v3 ⟨B3, d3, rfl, p3, _, t3⟩
  rw [show (be 8 (work)).length = 8 from be_length _ _] at p3 ⊢
  obtain ⟨gb3, rfl, _⟩ := p3.some_ (by omega)
  have P3 := Lib.hid p3
  have U3 := Lib.hid t3
  clear p3 t3
  go_wp2_with (at_builtin; refine wpList_app2 bytT rfl (.tmp 83) (.tmp 86) rfl (O2.out.turned U3.out (fun _ _ e => e)) ⟨gb3, 0, none⟩ (8) d3 (be 8 (work)) (by rw [show (be 8 (work)).length = 8 from be_length _ _]) (P3.out.bytS'.news _ rfl) (by omega) (by omega) rfl rfl ?_; intro A3 c3 w3 ho3 hor3; obtain ⟨TT3, GG3⟩ := app_step T2.out G2.out U3.out hor3; obtain ⟨x0, x1, x2, x3, x4, x5, x6, x7, x8, x9, x10⟩ := (RecAt.of_blk (R := ⟨lsn, work, prev, next, 6, page, key, old, new, dirty, opn⟩) (S := ⟨⟨KA, Kn, Kc⟩, ⟨OA, On, Oc⟩, ⟨NA, Nn, Nc⟩, ⟨DA, Dn, Dc⟩, ⟨PA, Pn, Pc⟩⟩) XB.out).fresh TT3; simp only at x0 x1 x2 x3 x4 x5 x6 x7 x8 x9 x10)
  have T3 := Lib.hid TT3
  have G3 := Lib.hid GG3
  have O3 := Lib.hid ho3
  clear TT3 GG3 ho3 hor3 P3 U3 O2 G2 T2
  clear x0 x1 x2 x3 x4 x5 x6 x7 x8 x9 x10
  refine (fnumber_any (prev) 8 _ (by omega) hK.out.prev).mono ?_
  rintro e v4 ⟨B4, d4, rfl, p4, _, t4⟩
  rw [show (be 8 (prev)).length = 8 from be_length _ _] at p4 ⊢
  obtain ⟨gb4, rfl, _⟩ := p4.some_ (by omega)
  have P4 := Lib.hid p4
  have U4 := Lib.hid t4
  clear p4 t4
  go_wp2_with (at_builtin; refine wpList_app2 bytT rfl (.tmp 88) (.tmp 91) rfl (O3.out.turned U4.out (fun _ _ e => e)) ⟨gb4, 0, none⟩ (8) d4 (be 8 (prev)) (by rw [show (be 8 (prev)).length = 8 from be_length _ _]) (P4.out.bytS'.news _ rfl) (by omega) (by omega) rfl rfl ?_; intro A4 c4 w4 ho4 hor4; obtain ⟨TT4, GG4⟩ := app_step T3.out G3.out U4.out hor4; obtain ⟨x0, x1, x2, x3, x4, x5, x6, x7, x8, x9, x10⟩ := (RecAt.of_blk (R := ⟨lsn, work, prev, next, 6, page, key, old, new, dirty, opn⟩) (S := ⟨⟨KA, Kn, Kc⟩, ⟨OA, On, Oc⟩, ⟨NA, Nn, Nc⟩, ⟨DA, Dn, Dc⟩, ⟨PA, Pn, Pc⟩⟩) XB.out).fresh TT4; simp only at x0 x1 x2 x3 x4 x5 x6 x7 x8 x9 x10)
  have T4 := Lib.hid TT4
  have G4 := Lib.hid GG4
  have O4 := Lib.hid ho4
  clear TT4 GG4 ho4 hor4 P4 U4 O3 G3 T3
  clear x0 x1 x2 x3 x4 x5 x6 x7 x8 x9 x10
  refine (fnumber_any (page) 2 _ (by omega) hK.out.page).mono ?_
  rintro e v5 ⟨B5, d5, rfl, p5, _, t5⟩
  rw [show (be 2 (page)).length = 2 from be_length _ _] at p5 ⊢
  obtain ⟨gb5, rfl, _⟩ := p5.some_ (by omega)
  have P5 := Lib.hid p5
  have U5 := Lib.hid t5
  clear p5 t5
  go_wp2_with (at_builtin; refine wpList_app2 bytT rfl (.tmp 109) (.tmp 112) rfl (O4.out.turned U5.out (fun _ _ e => e)) ⟨gb5, 0, none⟩ (2) d5 (be 2 (page)) (by rw [show (be 2 (page)).length = 2 from be_length _ _]) (P5.out.bytS'.news _ rfl) (by omega) (by omega) rfl rfl ?_; intro A5 c5 w5 ho5 hor5; obtain ⟨TT5, GG5⟩ := app_step T4.out G4.out U5.out hor5; obtain ⟨x0, x1, x2, x3, x4, x5, x6, x7, x8, x9, x10⟩ := (RecAt.of_blk (R := ⟨lsn, work, prev, next, 6, page, key, old, new, dirty, opn⟩) (S := ⟨⟨KA, Kn, Kc⟩, ⟨OA, On, Oc⟩, ⟨NA, Nn, Nc⟩, ⟨DA, Dn, Dc⟩, ⟨PA, Pn, Pc⟩⟩) XB.out).fresh TT5; simp only at x0 x1 x2 x3 x4 x5 x6 x7 x8 x9 x10)
  have T5 := Lib.hid TT5
  have G5 := Lib.hid GG5
  have O5 := Lib.hid ho5
  clear TT5 GG5 ho5 hor5 P5 U5 O4 G4 T4
  clear x0 x1 x2 x3 x4 x5 x6 x7 x8 x9 x10
  refine (fnumber_any (next) 2 _ (by omega) hK.out.next).mono ?_
  rintro e v6 ⟨B6, d6, rfl, p6, _, t6⟩
  rw [show (be 2 (next)).length = 2 from be_length _ _] at p6 ⊢
  obtain ⟨gb6, rfl, _⟩ := p6.some_ (by omega)
  have P6 := Lib.hid p6
  have U6 := Lib.hid t6
  clear p6 t6
  go_wp2_with (at_builtin; refine wpList_app2 bytT rfl (.tmp 117) (.tmp 120) rfl (O5.out.turned U6.out (fun _ _ e => e)) ⟨gb6, 0, none⟩ (2) d6 (be 2 (next)) (by rw [show (be 2 (next)).length = 2 from be_length _ _]) (P6.out.bytS'.news _ rfl) (by omega) (by omega) rfl rfl ?_; intro A6 c6 w6 ho6 hor6; obtain ⟨TT6, GG6⟩ := app_step T5.out G5.out U6.out hor6; obtain ⟨x0, x1, x2, x3, x4, x5, x6, x7, x8, x9, x10⟩ := (RecAt.of_blk (R := ⟨lsn, work, prev, next, 6, page, key, old, new, dirty, opn⟩) (S := ⟨⟨KA, Kn, Kc⟩, ⟨OA, On, Oc⟩, ⟨NA, Nn, Nc⟩, ⟨DA, Dn, Dc⟩, ⟨PA, Pn, Pc⟩⟩) XB.out).fresh TT6; simp only at x0 x1 x2 x3 x4 x5 x6 x7 x8 x9 x10)
  have T6 := Lib.hid TT6
  have G6 := Lib.hid GG6
  have O6 := Lib.hid ho6
  clear TT6 GG6 ho6 hor6 P6 U6 O5 G5 T5
  clear x0 x1 x2 x3 x4 x5 x6 x7 x8 x9 x10
  refine (fnumber_any (((1 + 8 + 8 + 2 + 2 : Nat) : Int)) 2 _ (by omega) (by unfold I64; omega)).mono ?_
  rintro e v7 ⟨B7, d7, rfl, p7, h7, t7⟩
  rw [be_length] at p7 ⊢
  obtain ⟨gb7, rfl, _⟩ := p7.some_ (by omega)
  have P7 := Lib.hid p7
  have T7 := Lib.hid (T6.out.and_ t7)
  have G7 := Lib.hid (fun g (e : (some ⟨gb7, 0, none⟩ : Option Addr) = some ⟨g, 0, none⟩) => Nat.le_trans T6.out.size (h7 g e))
  have Q7 := Lib.hid (O6.out.turned t7 (fun _ _ e => e))
  clear p7 t7 h7 O6 T6 G6
  go_wp2_with (at_builtin; refine wpList_app4 bytT rfl (.tmp 150) (.tmp 151) rfl P7.out Q7.out.bytS' (by omega) rfl rfl ?_; intro A8 c8 w8 ho hor)
  obtain ⟨TZ, GZ⟩ := app_step T7.out G7.out (Turned.refl _ _) hor
  have TZ := Lib.hid TZ
  have GZ := Lib.hid GZ
  have OZ := Lib.hid ho
  clear ho hor
  go_ret2
  have hbody : bodyL ⟨lsn, work, prev, next, 6, page, key, old, new, dirty, opn⟩ = [(6 : Int)] ++ be 8 work ++ be 8 prev ++ be 2 page ++ be 2 next := by simp [bodyL, restL, turnL, listL]
  have hbl2 : (bodyL ⟨lsn, work, prev, next, 6, page, key, old, new, dirty, opn⟩).length = 1 + 8 + 8 + 2 + 2 := by rw [hbody]; simp [be_length, rowL_length, flat_le]
  unfold RPut
  rw [hyes.out, hr'.out, hbl2, List.length_append, be_length, hbl2, hbody]
  exact ⟨A8, c8, rfl, OZ.out, fun g e => Nat.le_trans (by have := hsz0.out; omega) (GZ.out g e), t0.out.and_ TZ.out⟩
set_option maxRecDepth 100000 in
set_option maxHeartbeats 4000000 in
theorem fput_1 (R : Rec) (S : RecS) (w : World) (h : RecIs w R S) (hk : R.Ok) (hr : rightR R = true) (hkd : R.kind = 1) : Calls Tryz.prog 13 #[.agg (recC R S)] w (RPut R w) := by
  have hRt := Lib.hid (fun (w' : World) (t : Turned (fun _ => False) w w') => fright_any R S w' (h.fresh t))
  rw [hr] at hRt
  have hyes := Lib.hid (rput_yes hr)
  have hbl := body_len hr
  have hr' := Lib.hid hr
  have hK := Lib.hid hk
  have I0 := Lib.hid h
  clear h hr hk
  obtain ⟨lsn, work, prev, next, kind, page, key, old, new, dirty, opn⟩ := R
  obtain ⟨⟨KA, Kn, Kc⟩, ⟨OA, On, Oc⟩, ⟨NA, Nn, Nc⟩, ⟨DA, Dn, Dc⟩, ⟨PA, Pn, Pc⟩⟩ := S
  simp only at hkd
  subst hkd
  have ht : turnB ⟨lsn, work, prev, next, 1, page, key, old, new, dirty, opn⟩ = true := by
    have h := hr'.out
    unfold rightR kindB at h
    simp only [Int.reduceEq, if_false, if_true, Bool.and_eq_true] at h
    exact h.2.2
  have htl := turnB_len ht
  simp only at htl
  have hKl := I0.out.key.len
  have hOl := I0.out.old.len
  have hNl := I0.out.new.len
  simp only at hKl hOl hNl
  rw [hKl, hOl, hNl] at htl
  clear ht
  have XB := Lib.hid (Blk.new w 29 #[.int .i64 lsn, .int .i64 work, .int .i64 prev, .int .i64 next, .int .u8 1, .int .i64 page, .slice KA Kn Kc, .slice OA On Oc, .slice NA Nn Nc, .slice DA Dn Dc, .slice PA Pn Pc])
  have t0 := Lib.hid ((Turned.refl (fun _ => False) w).alloc (.cells #[.int .i64 lsn, .int .i64 work, .int .i64 prev, .int .i64 next, .int .u8 1, .int .i64 page, .slice KA Kn Kc, .slice OA On Oc, .slice NA Nn Nc, .slice DA Dn Dc, .slice PA Pn Pc] 29))
  have I := Lib.hid (I0.out.fresh t0.out)
  clear I0
  unfold recC at *
  simp only at hRt I ⊢
  go_enter Tryz.func13, Tryz.ntmps13
  go_wp2_with fail
  refine (hRt.out _ t0.out).mono ?_
  rintro e w1 ⟨rfl, t1⟩
  have hsz0 := Lib.hid t0.out.size
  generalize hw0 : w.alloc (.cells #[.int .i64 lsn, .int .i64 work, .int .i64 prev, .int .i64 next, .int .u8 1, .int .i64 page, .slice KA Kn Kc, .slice OA On Oc, .slice NA Nn Nc, .slice DA Dn Dc, .slice PA Pn Pc] 29) = w0 at *
  clear hw0
  have T1 := Lib.hid t1
  clear t1 hRt
  obtain ⟨x0, x1, x2, x3, x4, x5, x6, x7, x8, x9, x10⟩ := (RecAt.of_blk (R := ⟨lsn, work, prev, next, 1, page, key, old, new, dirty, opn⟩) (S := ⟨⟨KA, Kn, Kc⟩, ⟨OA, On, Oc⟩, ⟨NA, Nn, Nc⟩, ⟨DA, Dn, Dc⟩, ⟨PA, Pn, Pc⟩⟩) XB.out).fresh T1.out
  simp only at x0 x1 x2 x3 x4 x5 x6 x7 x8 x9 x10
  have R2 := Lib.hid (RowE1.new w1 1)
  have T2 := Lib.hid (T1.out.alloc (.cells #[.int .u8 1] 5))
  have G2 := Lib.hid (fun g (e : (some ⟨w1.heap.size, 0, none⟩ : Option Addr) = some ⟨g, 0, none⟩) => (show w0.heap.size ≤ g by injection e with e; injection e with e; have := T1.out.size; omega))
  have O2 := Lib.hid (OwnV.of_row R2.out)
  clear R2
  obtain ⟨y0, y1, y2, y3, y4, y5, y6, y7, y8, y9, y10⟩ := (RecAt.of_blk (R := ⟨lsn, work, prev, next, 1, page, key, old, new, dirty, opn⟩) (S := ⟨⟨KA, Kn, Kc⟩, ⟨OA, On, Oc⟩, ⟨NA, Nn, Nc⟩, ⟨DA, Dn, Dc⟩, ⟨PA, Pn, Pc⟩⟩) XB.out).fresh T2.out
  simp only at y0 y1 y2 y3 y4 y5 y6 y7 y8 y9 y10
  go_wp2_with fail
  clear y0 y1 y2 y3 y4 y5 y6 y7 y8 y9 y10
  clear x0 x1 x2 x3 x4 x5 x6 x7 x8 x9 x10
  refine (fnumber_any (work) 8 _ (by omega) hK.out.work).mono ?_
  rintro e v3 ⟨B3, d3, rfl, p3, _, t3⟩
  rw [show (be 8 (work)).length = 8 from be_length _ _] at p3 ⊢
  obtain ⟨gb3, rfl, _⟩ := p3.some_ (by omega)
  have P3 := Lib.hid p3
  have U3 := Lib.hid t3
  clear p3 t3
  go_wp2_with (at_builtin; refine wpList_app2 bytT rfl (.tmp 83) (.tmp 86) rfl (O2.out.turned U3.out (fun _ _ e => e)) ⟨gb3, 0, none⟩ (8) d3 (be 8 (work)) (by rw [show (be 8 (work)).length = 8 from be_length _ _]) (P3.out.bytS'.news _ rfl) (by omega) (by omega) rfl rfl ?_; intro A3 c3 w3 ho3 hor3; obtain ⟨TT3, GG3⟩ := app_step T2.out G2.out U3.out hor3; obtain ⟨x0, x1, x2, x3, x4, x5, x6, x7, x8, x9, x10⟩ := (RecAt.of_blk (R := ⟨lsn, work, prev, next, 1, page, key, old, new, dirty, opn⟩) (S := ⟨⟨KA, Kn, Kc⟩, ⟨OA, On, Oc⟩, ⟨NA, Nn, Nc⟩, ⟨DA, Dn, Dc⟩, ⟨PA, Pn, Pc⟩⟩) XB.out).fresh TT3; simp only at x0 x1 x2 x3 x4 x5 x6 x7 x8 x9 x10)
  have T3 := Lib.hid TT3
  have G3 := Lib.hid GG3
  have O3 := Lib.hid ho3
  clear TT3 GG3 ho3 hor3 P3 U3 O2 G2 T2
  clear x0 x1 x2 x3 x4 x5 x6 x7 x8 x9 x10
  refine (fnumber_any (prev) 8 _ (by omega) hK.out.prev).mono ?_
  rintro e v4 ⟨B4, d4, rfl, p4, _, t4⟩
  rw [show (be 8 (prev)).length = 8 from be_length _ _] at p4 ⊢
  obtain ⟨gb4, rfl, _⟩ := p4.some_ (by omega)
  have P4 := Lib.hid p4
  have U4 := Lib.hid t4
  clear p4 t4
  go_wp2_with (at_builtin; refine wpList_app2 bytT rfl (.tmp 88) (.tmp 91) rfl (O3.out.turned U4.out (fun _ _ e => e)) ⟨gb4, 0, none⟩ (8) d4 (be 8 (prev)) (by rw [show (be 8 (prev)).length = 8 from be_length _ _]) (P4.out.bytS'.news _ rfl) (by omega) (by omega) rfl rfl ?_; intro A4 c4 w4 ho4 hor4; obtain ⟨TT4, GG4⟩ := app_step T3.out G3.out U4.out hor4; obtain ⟨x0, x1, x2, x3, x4, x5, x6, x7, x8, x9, x10⟩ := (RecAt.of_blk (R := ⟨lsn, work, prev, next, 1, page, key, old, new, dirty, opn⟩) (S := ⟨⟨KA, Kn, Kc⟩, ⟨OA, On, Oc⟩, ⟨NA, Nn, Nc⟩, ⟨DA, Dn, Dc⟩, ⟨PA, Pn, Pc⟩⟩) XB.out).fresh TT4; simp only at x0 x1 x2 x3 x4 x5 x6 x7 x8 x9 x10)
  have T4 := Lib.hid TT4
  have G4 := Lib.hid GG4
  have O4 := Lib.hid ho4
  clear TT4 GG4 ho4 hor4 P4 U4 O3 G3 T3
  clear x0 x1 x2 x3 x4 x5 x6 x7 x8 x9 x10
  refine (fnumber_any (page) 2 _ (by omega) hK.out.page).mono ?_
  rintro e v5 ⟨B5, d5, rfl, p5, _, t5⟩
  rw [show (be 2 (page)).length = 2 from be_length _ _] at p5 ⊢
  obtain ⟨gb5, rfl, _⟩ := p5.some_ (by omega)
  have P5 := Lib.hid p5
  have U5 := Lib.hid t5
  clear p5 t5
  go_wp2_with (at_builtin; refine wpList_app2 bytT rfl (.tmp 109) (.tmp 112) rfl (O4.out.turned U5.out (fun _ _ e => e)) ⟨gb5, 0, none⟩ (2) d5 (be 2 (page)) (by rw [show (be 2 (page)).length = 2 from be_length _ _]) (P5.out.bytS'.news _ rfl) (by omega) (by omega) rfl rfl ?_; intro A5 c5 w5 ho5 hor5; obtain ⟨TT5, GG5⟩ := app_step T4.out G4.out U5.out hor5; obtain ⟨x0, x1, x2, x3, x4, x5, x6, x7, x8, x9, x10⟩ := (RecAt.of_blk (R := ⟨lsn, work, prev, next, 1, page, key, old, new, dirty, opn⟩) (S := ⟨⟨KA, Kn, Kc⟩, ⟨OA, On, Oc⟩, ⟨NA, Nn, Nc⟩, ⟨DA, Dn, Dc⟩, ⟨PA, Pn, Pc⟩⟩) XB.out).fresh TT5; simp only at x0 x1 x2 x3 x4 x5 x6 x7 x8 x9 x10)
  have T5 := Lib.hid TT5
  have G5 := Lib.hid GG5
  have O5 := Lib.hid ho5
  clear TT5 GG5 ho5 hor5 P5 U5 O4 G4 T4
  clear x0 x1 x2 x3 x4 x5 x6 x7 x8 x9 x10
  refine (frow_any KA Kn Kc key _ (I.out.key.fresh T5.out).bytS (by omega)).mono ?_
  rintro e v6 ⟨B6, d6, rfl, p6, _, t6⟩
  rw [show (rowL key).length = Kn + 1 from row_len I.out.key] at p6 ⊢
  obtain ⟨gb6, rfl, _⟩ := p6.some_ (by omega)
  have P6 := Lib.hid p6
  have U6 := Lib.hid t6
  clear p6 t6
  go_wp2_with (at_builtin; refine wpList_app2 bytT rfl (.tmp 130) (.tmp 134) rfl (O5.out.turned U6.out (fun _ _ e => e)) ⟨gb6, 0, none⟩ (Kn + 1) d6 (rowL key) (by rw [show (rowL key).length = Kn + 1 from row_len I.out.key]) (P6.out.bytS'.news _ rfl) (by omega) (by omega) rfl rfl ?_; intro A6 c6 w6 ho6 hor6; obtain ⟨TT6, GG6⟩ := app_step T5.out G5.out U6.out hor6; obtain ⟨x0, x1, x2, x3, x4, x5, x6, x7, x8, x9, x10⟩ := (RecAt.of_blk (R := ⟨lsn, work, prev, next, 1, page, key, old, new, dirty, opn⟩) (S := ⟨⟨KA, Kn, Kc⟩, ⟨OA, On, Oc⟩, ⟨NA, Nn, Nc⟩, ⟨DA, Dn, Dc⟩, ⟨PA, Pn, Pc⟩⟩) XB.out).fresh TT6; simp only at x0 x1 x2 x3 x4 x5 x6 x7 x8 x9 x10)
  have T6 := Lib.hid TT6
  have G6 := Lib.hid GG6
  have O6 := Lib.hid ho6
  clear TT6 GG6 ho6 hor6 P6 U6 O5 G5 T5
  clear x0 x1 x2 x3 x4 x5 x6 x7 x8 x9 x10
  refine (frow_any OA On Oc old _ (I.out.old.fresh T6.out).bytS (by omega)).mono ?_
  rintro e v7 ⟨B7, d7, rfl, p7, _, t7⟩
  rw [show (rowL old).length = On + 1 from row_len I.out.old] at p7 ⊢
  obtain ⟨gb7, rfl, _⟩ := p7.some_ (by omega)
  have P7 := Lib.hid p7
  have U7 := Lib.hid t7
  clear p7 t7
  go_wp2_with (at_builtin; refine wpList_app2 bytT rfl (.tmp 136) (.tmp 140) rfl (O6.out.turned U7.out (fun _ _ e => e)) ⟨gb7, 0, none⟩ (On + 1) d7 (rowL old) (by rw [show (rowL old).length = On + 1 from row_len I.out.old]) (P7.out.bytS'.news _ rfl) (by omega) (by omega) rfl rfl ?_; intro A7 c7 w7 ho7 hor7; obtain ⟨TT7, GG7⟩ := app_step T6.out G6.out U7.out hor7; obtain ⟨x0, x1, x2, x3, x4, x5, x6, x7, x8, x9, x10⟩ := (RecAt.of_blk (R := ⟨lsn, work, prev, next, 1, page, key, old, new, dirty, opn⟩) (S := ⟨⟨KA, Kn, Kc⟩, ⟨OA, On, Oc⟩, ⟨NA, Nn, Nc⟩, ⟨DA, Dn, Dc⟩, ⟨PA, Pn, Pc⟩⟩) XB.out).fresh TT7; simp only at x0 x1 x2 x3 x4 x5 x6 x7 x8 x9 x10)
  have T7 := Lib.hid TT7
  have G7 := Lib.hid GG7
  have O7 := Lib.hid ho7
  clear TT7 GG7 ho7 hor7 P7 U7 O6 G6 T6
  clear x0 x1 x2 x3 x4 x5 x6 x7 x8 x9 x10
  refine (frow_any NA Nn Nc new _ (I.out.new.fresh T7.out).bytS (by omega)).mono ?_
  rintro e v8 ⟨B8, d8, rfl, p8, _, t8⟩
  rw [show (rowL new).length = Nn + 1 from row_len I.out.new] at p8 ⊢
  obtain ⟨gb8, rfl, _⟩ := p8.some_ (by omega)
  have P8 := Lib.hid p8
  have U8 := Lib.hid t8
  clear p8 t8
  go_wp2_with (at_builtin; refine wpList_app2 bytT rfl (.tmp 142) (.tmp 146) rfl (O7.out.turned U8.out (fun _ _ e => e)) ⟨gb8, 0, none⟩ (Nn + 1) d8 (rowL new) (by rw [show (rowL new).length = Nn + 1 from row_len I.out.new]) (P8.out.bytS'.news _ rfl) (by omega) (by omega) rfl rfl ?_; intro A8 c8 w8 ho8 hor8; obtain ⟨TT8, GG8⟩ := app_step T7.out G7.out U8.out hor8; obtain ⟨x0, x1, x2, x3, x4, x5, x6, x7, x8, x9, x10⟩ := (RecAt.of_blk (R := ⟨lsn, work, prev, next, 1, page, key, old, new, dirty, opn⟩) (S := ⟨⟨KA, Kn, Kc⟩, ⟨OA, On, Oc⟩, ⟨NA, Nn, Nc⟩, ⟨DA, Dn, Dc⟩, ⟨PA, Pn, Pc⟩⟩) XB.out).fresh TT8; simp only at x0 x1 x2 x3 x4 x5 x6 x7 x8 x9 x10)
  have T8 := Lib.hid TT8
  have G8 := Lib.hid GG8
  have O8 := Lib.hid ho8
  clear TT8 GG8 ho8 hor8 P8 U8 O7 G7 T7
  clear x0 x1 x2 x3 x4 x5 x6 x7 x8 x9 x10
  refine (fnumber_any (((1 + 8 + 8 + 2 + (Kn + 1) + (On + 1) + (Nn + 1) : Nat) : Int)) 2 _ (by omega) (by unfold I64; omega)).mono ?_
  rintro e v9 ⟨B9, d9, rfl, p9, h9, t9⟩
  rw [be_length] at p9 ⊢
  obtain ⟨gb9, rfl, _⟩ := p9.some_ (by omega)
  have P9 := Lib.hid p9
  have T9 := Lib.hid (T8.out.and_ t9)
  have G9 := Lib.hid (fun g (e : (some ⟨gb9, 0, none⟩ : Option Addr) = some ⟨g, 0, none⟩) => Nat.le_trans T8.out.size (h9 g e))
  have Q9 := Lib.hid (O8.out.turned t9 (fun _ _ e => e))
  clear p9 t9 h9 O8 T8 G8
  go_wp2_with (at_builtin; refine wpList_app4 bytT rfl (.tmp 150) (.tmp 151) rfl P9.out Q9.out.bytS' (by omega) rfl rfl ?_; intro A10 c10 w10 ho hor)
  obtain ⟨TZ, GZ⟩ := app_step T9.out G9.out (Turned.refl _ _) hor
  have TZ := Lib.hid TZ
  have GZ := Lib.hid GZ
  have OZ := Lib.hid ho
  clear ho hor
  go_ret2
  have hbody : bodyL ⟨lsn, work, prev, next, 1, page, key, old, new, dirty, opn⟩ = [(1 : Int)] ++ be 8 work ++ be 8 prev ++ be 2 page ++ rowL key ++ rowL old ++ rowL new := by simp [bodyL, restL, turnL, listL]
  have hbl2 : (bodyL ⟨lsn, work, prev, next, 1, page, key, old, new, dirty, opn⟩).length = 1 + 8 + 8 + 2 + (Kn + 1) + (On + 1) + (Nn + 1) := by rw [hbody]; simp [be_length, rowL_length, flat_le]; omega
  unfold RPut
  rw [hyes.out, hr'.out, hbl2, List.length_append, be_length, hbl2, hbody]
  exact ⟨A10, c10, rfl, OZ.out, fun g e => Nat.le_trans (by have := hsz0.out; omega) (GZ.out g e), t0.out.and_ TZ.out⟩
set_option maxRecDepth 100000 in
set_option maxHeartbeats 4000000 in
theorem fput_2 (R : Rec) (S : RecS) (w : World) (h : RecIs w R S) (hk : R.Ok) (hr : rightR R = true) (hkd : R.kind = 2) : Calls Tryz.prog 13 #[.agg (recC R S)] w (RPut R w) := by
  have hRt := Lib.hid (fun (w' : World) (t : Turned (fun _ => False) w w') => fright_any R S w' (h.fresh t))
  rw [hr] at hRt
  have hyes := Lib.hid (rput_yes hr)
  have hbl := body_len hr
  have hr' := Lib.hid hr
  have hK := Lib.hid hk
  have I0 := Lib.hid h
  clear h hr hk
  obtain ⟨lsn, work, prev, next, kind, page, key, old, new, dirty, opn⟩ := R
  obtain ⟨⟨KA, Kn, Kc⟩, ⟨OA, On, Oc⟩, ⟨NA, Nn, Nc⟩, ⟨DA, Dn, Dc⟩, ⟨PA, Pn, Pc⟩⟩ := S
  simp only at hkd
  subst hkd
  have ht : turnB ⟨lsn, work, prev, next, 2, page, key, old, new, dirty, opn⟩ = true := by
    have h := hr'.out
    unfold rightR kindB at h
    simp only [Int.reduceEq, if_false, if_true, Bool.and_eq_true] at h
    exact h.2.2
  have htl := turnB_len ht
  simp only at htl
  have hKl := I0.out.key.len
  have hOl := I0.out.old.len
  have hNl := I0.out.new.len
  simp only at hKl hOl hNl
  rw [hKl, hOl, hNl] at htl
  clear ht
  have XB := Lib.hid (Blk.new w 29 #[.int .i64 lsn, .int .i64 work, .int .i64 prev, .int .i64 next, .int .u8 2, .int .i64 page, .slice KA Kn Kc, .slice OA On Oc, .slice NA Nn Nc, .slice DA Dn Dc, .slice PA Pn Pc])
  have t0 := Lib.hid ((Turned.refl (fun _ => False) w).alloc (.cells #[.int .i64 lsn, .int .i64 work, .int .i64 prev, .int .i64 next, .int .u8 2, .int .i64 page, .slice KA Kn Kc, .slice OA On Oc, .slice NA Nn Nc, .slice DA Dn Dc, .slice PA Pn Pc] 29))
  have I := Lib.hid (I0.out.fresh t0.out)
  clear I0
  unfold recC at *
  simp only at hRt I ⊢
  go_enter Tryz.func13, Tryz.ntmps13
  go_wp2_with fail
  refine (hRt.out _ t0.out).mono ?_
  rintro e w1 ⟨rfl, t1⟩
  have hsz0 := Lib.hid t0.out.size
  generalize hw0 : w.alloc (.cells #[.int .i64 lsn, .int .i64 work, .int .i64 prev, .int .i64 next, .int .u8 2, .int .i64 page, .slice KA Kn Kc, .slice OA On Oc, .slice NA Nn Nc, .slice DA Dn Dc, .slice PA Pn Pc] 29) = w0 at *
  clear hw0
  have T1 := Lib.hid t1
  clear t1 hRt
  obtain ⟨x0, x1, x2, x3, x4, x5, x6, x7, x8, x9, x10⟩ := (RecAt.of_blk (R := ⟨lsn, work, prev, next, 2, page, key, old, new, dirty, opn⟩) (S := ⟨⟨KA, Kn, Kc⟩, ⟨OA, On, Oc⟩, ⟨NA, Nn, Nc⟩, ⟨DA, Dn, Dc⟩, ⟨PA, Pn, Pc⟩⟩) XB.out).fresh T1.out
  simp only at x0 x1 x2 x3 x4 x5 x6 x7 x8 x9 x10
  have R2 := Lib.hid (RowE1.new w1 2)
  have T2 := Lib.hid (T1.out.alloc (.cells #[.int .u8 2] 5))
  have G2 := Lib.hid (fun g (e : (some ⟨w1.heap.size, 0, none⟩ : Option Addr) = some ⟨g, 0, none⟩) => (show w0.heap.size ≤ g by injection e with e; injection e with e; have := T1.out.size; omega))
  have O2 := Lib.hid (OwnV.of_row R2.out)
  clear R2
  obtain ⟨y0, y1, y2, y3, y4, y5, y6, y7, y8, y9, y10⟩ := (RecAt.of_blk (R := ⟨lsn, work, prev, next, 2, page, key, old, new, dirty, opn⟩) (S := ⟨⟨KA, Kn, Kc⟩, ⟨OA, On, Oc⟩, ⟨NA, Nn, Nc⟩, ⟨DA, Dn, Dc⟩, ⟨PA, Pn, Pc⟩⟩) XB.out).fresh T2.out
  simp only at y0 y1 y2 y3 y4 y5 y6 y7 y8 y9 y10
  go_wp2_with fail
  clear y0 y1 y2 y3 y4 y5 y6 y7 y8 y9 y10
  clear x0 x1 x2 x3 x4 x5 x6 x7 x8 x9 x10
  refine (fnumber_any (work) 8 _ (by omega) hK.out.work).mono ?_
  rintro e v3 ⟨B3, d3, rfl, p3, _, t3⟩
  rw [show (be 8 (work)).length = 8 from be_length _ _] at p3 ⊢
  obtain ⟨gb3, rfl, _⟩ := p3.some_ (by omega)
  have P3 := Lib.hid p3
  have U3 := Lib.hid t3
  clear p3 t3
  go_wp2_with (at_builtin; refine wpList_app2 bytT rfl (.tmp 83) (.tmp 86) rfl (O2.out.turned U3.out (fun _ _ e => e)) ⟨gb3, 0, none⟩ (8) d3 (be 8 (work)) (by rw [show (be 8 (work)).length = 8 from be_length _ _]) (P3.out.bytS'.news _ rfl) (by omega) (by omega) rfl rfl ?_; intro A3 c3 w3 ho3 hor3; obtain ⟨TT3, GG3⟩ := app_step T2.out G2.out U3.out hor3; obtain ⟨x0, x1, x2, x3, x4, x5, x6, x7, x8, x9, x10⟩ := (RecAt.of_blk (R := ⟨lsn, work, prev, next, 2, page, key, old, new, dirty, opn⟩) (S := ⟨⟨KA, Kn, Kc⟩, ⟨OA, On, Oc⟩, ⟨NA, Nn, Nc⟩, ⟨DA, Dn, Dc⟩, ⟨PA, Pn, Pc⟩⟩) XB.out).fresh TT3; simp only at x0 x1 x2 x3 x4 x5 x6 x7 x8 x9 x10)
  have T3 := Lib.hid TT3
  have G3 := Lib.hid GG3
  have O3 := Lib.hid ho3
  clear TT3 GG3 ho3 hor3 P3 U3 O2 G2 T2
  clear x0 x1 x2 x3 x4 x5 x6 x7 x8 x9 x10
  refine (fnumber_any (prev) 8 _ (by omega) hK.out.prev).mono ?_
  rintro e v4 ⟨B4, d4, rfl, p4, _, t4⟩
  rw [show (be 8 (prev)).length = 8 from be_length _ _] at p4 ⊢
  obtain ⟨gb4, rfl, _⟩ := p4.some_ (by omega)
  have P4 := Lib.hid p4
  have U4 := Lib.hid t4
  clear p4 t4
  go_wp2_with (at_builtin; refine wpList_app2 bytT rfl (.tmp 88) (.tmp 91) rfl (O3.out.turned U4.out (fun _ _ e => e)) ⟨gb4, 0, none⟩ (8) d4 (be 8 (prev)) (by rw [show (be 8 (prev)).length = 8 from be_length _ _]) (P4.out.bytS'.news _ rfl) (by omega) (by omega) rfl rfl ?_; intro A4 c4 w4 ho4 hor4; obtain ⟨TT4, GG4⟩ := app_step T3.out G3.out U4.out hor4; obtain ⟨x0, x1, x2, x3, x4, x5, x6, x7, x8, x9, x10⟩ := (RecAt.of_blk (R := ⟨lsn, work, prev, next, 2, page, key, old, new, dirty, opn⟩) (S := ⟨⟨KA, Kn, Kc⟩, ⟨OA, On, Oc⟩, ⟨NA, Nn, Nc⟩, ⟨DA, Dn, Dc⟩, ⟨PA, Pn, Pc⟩⟩) XB.out).fresh TT4; simp only at x0 x1 x2 x3 x4 x5 x6 x7 x8 x9 x10)
  have T4 := Lib.hid TT4
  have G4 := Lib.hid GG4
  have O4 := Lib.hid ho4
  clear TT4 GG4 ho4 hor4 P4 U4 O3 G3 T3
  clear x0 x1 x2 x3 x4 x5 x6 x7 x8 x9 x10
  refine (fnumber_any (next) 8 _ (by omega) hK.out.next).mono ?_
  rintro e v5 ⟨B5, d5, rfl, p5, _, t5⟩
  rw [show (be 8 (next)).length = 8 from be_length _ _] at p5 ⊢
  obtain ⟨gb5, rfl, _⟩ := p5.some_ (by omega)
  have P5 := Lib.hid p5
  have U5 := Lib.hid t5
  clear p5 t5
  go_wp2_with (at_builtin; refine wpList_app2 bytT rfl (.tmp 96) (.tmp 99) rfl (O4.out.turned U5.out (fun _ _ e => e)) ⟨gb5, 0, none⟩ (8) d5 (be 8 (next)) (by rw [show (be 8 (next)).length = 8 from be_length _ _]) (P5.out.bytS'.news _ rfl) (by omega) (by omega) rfl rfl ?_; intro A5 c5 w5 ho5 hor5; obtain ⟨TT5, GG5⟩ := app_step T4.out G4.out U5.out hor5; obtain ⟨x0, x1, x2, x3, x4, x5, x6, x7, x8, x9, x10⟩ := (RecAt.of_blk (R := ⟨lsn, work, prev, next, 2, page, key, old, new, dirty, opn⟩) (S := ⟨⟨KA, Kn, Kc⟩, ⟨OA, On, Oc⟩, ⟨NA, Nn, Nc⟩, ⟨DA, Dn, Dc⟩, ⟨PA, Pn, Pc⟩⟩) XB.out).fresh TT5; simp only at x0 x1 x2 x3 x4 x5 x6 x7 x8 x9 x10)
  have T5 := Lib.hid TT5
  have G5 := Lib.hid GG5
  have O5 := Lib.hid ho5
  clear TT5 GG5 ho5 hor5 P5 U5 O4 G4 T4
  clear x0 x1 x2 x3 x4 x5 x6 x7 x8 x9 x10
  refine (fnumber_any (page) 2 _ (by omega) hK.out.page).mono ?_
  rintro e v6 ⟨B6, d6, rfl, p6, _, t6⟩
  rw [show (be 2 (page)).length = 2 from be_length _ _] at p6 ⊢
  obtain ⟨gb6, rfl, _⟩ := p6.some_ (by omega)
  have P6 := Lib.hid p6
  have U6 := Lib.hid t6
  clear p6 t6
  go_wp2_with (at_builtin; refine wpList_app2 bytT rfl (.tmp 109) (.tmp 112) rfl (O5.out.turned U6.out (fun _ _ e => e)) ⟨gb6, 0, none⟩ (2) d6 (be 2 (page)) (by rw [show (be 2 (page)).length = 2 from be_length _ _]) (P6.out.bytS'.news _ rfl) (by omega) (by omega) rfl rfl ?_; intro A6 c6 w6 ho6 hor6; obtain ⟨TT6, GG6⟩ := app_step T5.out G5.out U6.out hor6; obtain ⟨x0, x1, x2, x3, x4, x5, x6, x7, x8, x9, x10⟩ := (RecAt.of_blk (R := ⟨lsn, work, prev, next, 2, page, key, old, new, dirty, opn⟩) (S := ⟨⟨KA, Kn, Kc⟩, ⟨OA, On, Oc⟩, ⟨NA, Nn, Nc⟩, ⟨DA, Dn, Dc⟩, ⟨PA, Pn, Pc⟩⟩) XB.out).fresh TT6; simp only at x0 x1 x2 x3 x4 x5 x6 x7 x8 x9 x10)
  have T6 := Lib.hid TT6
  have G6 := Lib.hid GG6
  have O6 := Lib.hid ho6
  clear TT6 GG6 ho6 hor6 P6 U6 O5 G5 T5
  clear x0 x1 x2 x3 x4 x5 x6 x7 x8 x9 x10
  refine (frow_any KA Kn Kc key _ (I.out.key.fresh T6.out).bytS (by omega)).mono ?_
  rintro e v7 ⟨B7, d7, rfl, p7, _, t7⟩
  rw [show (rowL key).length = Kn + 1 from row_len I.out.key] at p7 ⊢
  obtain ⟨gb7, rfl, _⟩ := p7.some_ (by omega)
  have P7 := Lib.hid p7
  have U7 := Lib.hid t7
  clear p7 t7
  go_wp2_with (at_builtin; refine wpList_app2 bytT rfl (.tmp 130) (.tmp 134) rfl (O6.out.turned U7.out (fun _ _ e => e)) ⟨gb7, 0, none⟩ (Kn + 1) d7 (rowL key) (by rw [show (rowL key).length = Kn + 1 from row_len I.out.key]) (P7.out.bytS'.news _ rfl) (by omega) (by omega) rfl rfl ?_; intro A7 c7 w7 ho7 hor7; obtain ⟨TT7, GG7⟩ := app_step T6.out G6.out U7.out hor7; obtain ⟨x0, x1, x2, x3, x4, x5, x6, x7, x8, x9, x10⟩ := (RecAt.of_blk (R := ⟨lsn, work, prev, next, 2, page, key, old, new, dirty, opn⟩) (S := ⟨⟨KA, Kn, Kc⟩, ⟨OA, On, Oc⟩, ⟨NA, Nn, Nc⟩, ⟨DA, Dn, Dc⟩, ⟨PA, Pn, Pc⟩⟩) XB.out).fresh TT7; simp only at x0 x1 x2 x3 x4 x5 x6 x7 x8 x9 x10)
  have T7 := Lib.hid TT7
  have G7 := Lib.hid GG7
  have O7 := Lib.hid ho7
  clear TT7 GG7 ho7 hor7 P7 U7 O6 G6 T6
  clear x0 x1 x2 x3 x4 x5 x6 x7 x8 x9 x10
  refine (frow_any OA On Oc old _ (I.out.old.fresh T7.out).bytS (by omega)).mono ?_
  rintro e v8 ⟨B8, d8, rfl, p8, _, t8⟩
  rw [show (rowL old).length = On + 1 from row_len I.out.old] at p8 ⊢
  obtain ⟨gb8, rfl, _⟩ := p8.some_ (by omega)
  have P8 := Lib.hid p8
  have U8 := Lib.hid t8
  clear p8 t8
  go_wp2_with (at_builtin; refine wpList_app2 bytT rfl (.tmp 136) (.tmp 140) rfl (O7.out.turned U8.out (fun _ _ e => e)) ⟨gb8, 0, none⟩ (On + 1) d8 (rowL old) (by rw [show (rowL old).length = On + 1 from row_len I.out.old]) (P8.out.bytS'.news _ rfl) (by omega) (by omega) rfl rfl ?_; intro A8 c8 w8 ho8 hor8; obtain ⟨TT8, GG8⟩ := app_step T7.out G7.out U8.out hor8; obtain ⟨x0, x1, x2, x3, x4, x5, x6, x7, x8, x9, x10⟩ := (RecAt.of_blk (R := ⟨lsn, work, prev, next, 2, page, key, old, new, dirty, opn⟩) (S := ⟨⟨KA, Kn, Kc⟩, ⟨OA, On, Oc⟩, ⟨NA, Nn, Nc⟩, ⟨DA, Dn, Dc⟩, ⟨PA, Pn, Pc⟩⟩) XB.out).fresh TT8; simp only at x0 x1 x2 x3 x4 x5 x6 x7 x8 x9 x10)
  have T8 := Lib.hid TT8
  have G8 := Lib.hid GG8
  have O8 := Lib.hid ho8
  clear TT8 GG8 ho8 hor8 P8 U8 O7 G7 T7
  clear x0 x1 x2 x3 x4 x5 x6 x7 x8 x9 x10
  refine (frow_any NA Nn Nc new _ (I.out.new.fresh T8.out).bytS (by omega)).mono ?_
  rintro e v9 ⟨B9, d9, rfl, p9, _, t9⟩
  rw [show (rowL new).length = Nn + 1 from row_len I.out.new] at p9 ⊢
  obtain ⟨gb9, rfl, _⟩ := p9.some_ (by omega)
  have P9 := Lib.hid p9
  have U9 := Lib.hid t9
  clear p9 t9
  go_wp2_with (at_builtin; refine wpList_app2 bytT rfl (.tmp 142) (.tmp 146) rfl (O8.out.turned U9.out (fun _ _ e => e)) ⟨gb9, 0, none⟩ (Nn + 1) d9 (rowL new) (by rw [show (rowL new).length = Nn + 1 from row_len I.out.new]) (P9.out.bytS'.news _ rfl) (by omega) (by omega) rfl rfl ?_; intro A9 c9 w9 ho9 hor9; obtain ⟨TT9, GG9⟩ := app_step T8.out G8.out U9.out hor9; obtain ⟨x0, x1, x2, x3, x4, x5, x6, x7, x8, x9, x10⟩ := (RecAt.of_blk (R := ⟨lsn, work, prev, next, 2, page, key, old, new, dirty, opn⟩) (S := ⟨⟨KA, Kn, Kc⟩, ⟨OA, On, Oc⟩, ⟨NA, Nn, Nc⟩, ⟨DA, Dn, Dc⟩, ⟨PA, Pn, Pc⟩⟩) XB.out).fresh TT9; simp only at x0 x1 x2 x3 x4 x5 x6 x7 x8 x9 x10)
  have T9 := Lib.hid TT9
  have G9 := Lib.hid GG9
  have O9 := Lib.hid ho9
  clear TT9 GG9 ho9 hor9 P9 U9 O8 G8 T8
  clear x0 x1 x2 x3 x4 x5 x6 x7 x8 x9 x10
  refine (fnumber_any (((1 + 8 + 8 + 8 + 2 + (Kn + 1) + (On + 1) + (Nn + 1) : Nat) : Int)) 2 _ (by omega) (by unfold I64; omega)).mono ?_
  rintro e v10 ⟨B10, d10, rfl, p10, h10, t10⟩
  rw [be_length] at p10 ⊢
  obtain ⟨gb10, rfl, _⟩ := p10.some_ (by omega)
  have P10 := Lib.hid p10
  have T10 := Lib.hid (T9.out.and_ t10)
  have G10 := Lib.hid (fun g (e : (some ⟨gb10, 0, none⟩ : Option Addr) = some ⟨g, 0, none⟩) => Nat.le_trans T9.out.size (h10 g e))
  have Q10 := Lib.hid (O9.out.turned t10 (fun _ _ e => e))
  clear p10 t10 h10 O9 T9 G9
  go_wp2_with (at_builtin; refine wpList_app4 bytT rfl (.tmp 150) (.tmp 151) rfl P10.out Q10.out.bytS' (by omega) rfl rfl ?_; intro A11 c11 w11 ho hor)
  obtain ⟨TZ, GZ⟩ := app_step T10.out G10.out (Turned.refl _ _) hor
  have TZ := Lib.hid TZ
  have GZ := Lib.hid GZ
  have OZ := Lib.hid ho
  clear ho hor
  go_ret2
  have hbody : bodyL ⟨lsn, work, prev, next, 2, page, key, old, new, dirty, opn⟩ = [(2 : Int)] ++ be 8 work ++ be 8 prev ++ be 8 next ++ be 2 page ++ rowL key ++ rowL old ++ rowL new := by simp [bodyL, restL, turnL, listL]
  have hbl2 : (bodyL ⟨lsn, work, prev, next, 2, page, key, old, new, dirty, opn⟩).length = 1 + 8 + 8 + 8 + 2 + (Kn + 1) + (On + 1) + (Nn + 1) := by rw [hbody]; simp [be_length, rowL_length, flat_le]; omega
  unfold RPut
  rw [hyes.out, hr'.out, hbl2, List.length_append, be_length, hbl2, hbody]
  exact ⟨A11, c11, rfl, OZ.out, fun g e => Nat.le_trans (by have := hsz0.out; omega) (GZ.out g e), t0.out.and_ TZ.out⟩
set_option maxRecDepth 100000 in
set_option maxHeartbeats 4000000 in
theorem fput_5 (R : Rec) (S : RecS) (w : World) (h : RecIs w R S) (hk : R.Ok) (hr : rightR R = true) (hkd : R.kind = 5) : Calls Tryz.prog 13 #[.agg (recC R S)] w (RPut R w) := by
  have hRt := Lib.hid (fun (w' : World) (t : Turned (fun _ => False) w w') => fright_any R S w' (h.fresh t))
  rw [hr] at hRt
  have hyes := Lib.hid (rput_yes hr)
  have hbl := body_len hr
  have hr' := Lib.hid hr
  have hK := Lib.hid hk
  have I0 := Lib.hid h
  clear h hr hk
  obtain ⟨lsn, work, prev, next, kind, page, key, old, new, dirty, opn⟩ := R
  obtain ⟨⟨KA, Kn, Kc⟩, ⟨OA, On, Oc⟩, ⟨NA, Nn, Nc⟩, ⟨DA, Dn, Dc⟩, ⟨PA, Pn, Pc⟩⟩ := S
  simp only at hkd
  subst hkd
  have hm : dirty.length ≤ 32 ∧ opn.length ≤ 8 := by
    have h := hr'.out
    unfold rightR markB at h
    simp only [Int.reduceEq, if_false, if_true, Bool.and_eq_true, decide_eq_true_eq] at h
    exact ⟨h.2.2.1.2, h.2.2.2.2⟩
  have hdl := Lib.hid I0.out.dirty.len
  have hpl := Lib.hid I0.out.opn.len
  simp only at hdl hpl
  have hd32 : Dn ≤ 32 := by rw [← hdl.out]; exact hm.1
  have hp8 : Pn ≤ 8 := by rw [← hpl.out]; exact hm.2
  clear hm
  have XB := Lib.hid (Blk.new w 29 #[.int .i64 lsn, .int .i64 work, .int .i64 prev, .int .i64 next, .int .u8 5, .int .i64 page, .slice KA Kn Kc, .slice OA On Oc, .slice NA Nn Nc, .slice DA Dn Dc, .slice PA Pn Pc])
  have t0 := Lib.hid ((Turned.refl (fun _ => False) w).alloc (.cells #[.int .i64 lsn, .int .i64 work, .int .i64 prev, .int .i64 next, .int .u8 5, .int .i64 page, .slice KA Kn Kc, .slice OA On Oc, .slice NA Nn Nc, .slice DA Dn Dc, .slice PA Pn Pc] 29))
  have I := Lib.hid (I0.out.fresh t0.out)
  clear I0
  unfold recC at *
  simp only at hRt I ⊢
  go_enter Tryz.func13, Tryz.ntmps13
  go_wp2_with fail
  refine (hRt.out _ t0.out).mono ?_
  rintro e w1 ⟨rfl, t1⟩
  have hsz0 := Lib.hid t0.out.size
  generalize hw0 : w.alloc (.cells #[.int .i64 lsn, .int .i64 work, .int .i64 prev, .int .i64 next, .int .u8 5, .int .i64 page, .slice KA Kn Kc, .slice OA On Oc, .slice NA Nn Nc, .slice DA Dn Dc, .slice PA Pn Pc] 29) = w0 at *
  clear hw0
  have T1 := Lib.hid t1
  clear t1 hRt
  obtain ⟨x0, x1, x2, x3, x4, x5, x6, x7, x8, x9, x10⟩ := (RecAt.of_blk (R := ⟨lsn, work, prev, next, 5, page, key, old, new, dirty, opn⟩) (S := ⟨⟨KA, Kn, Kc⟩, ⟨OA, On, Oc⟩, ⟨NA, Nn, Nc⟩, ⟨DA, Dn, Dc⟩, ⟨PA, Pn, Pc⟩⟩) XB.out).fresh T1.out
  simp only at x0 x1 x2 x3 x4 x5 x6 x7 x8 x9 x10
  have R2 := Lib.hid (RowE1.new w1 5)
  have T2 := Lib.hid (T1.out.alloc (.cells #[.int .u8 5] 5))
  have G2 := Lib.hid (fun g (e : (some ⟨w1.heap.size, 0, none⟩ : Option Addr) = some ⟨g, 0, none⟩) => (show w0.heap.size ≤ g by injection e with e; injection e with e; have := T1.out.size; omega))
  have O2 := Lib.hid (OwnV.of_row R2.out)
  clear R2
  obtain ⟨y0, y1, y2, y3, y4, y5, y6, y7, y8, y9, y10⟩ := (RecAt.of_blk (R := ⟨lsn, work, prev, next, 5, page, key, old, new, dirty, opn⟩) (S := ⟨⟨KA, Kn, Kc⟩, ⟨OA, On, Oc⟩, ⟨NA, Nn, Nc⟩, ⟨DA, Dn, Dc⟩, ⟨PA, Pn, Pc⟩⟩) XB.out).fresh T2.out
  simp only at y0 y1 y2 y3 y4 y5 y6 y7 y8 y9 y10
  go_wp2_with fail
  clear y0 y1 y2 y3 y4 y5 y6 y7 y8 y9 y10
  clear x0 x1 x2 x3 x4 x5 x6 x7 x8 x9 x10
  refine (fnumber_any ((Dn : Int)) 2 _ (by omega) (by unfold I64; omega)).mono ?_
  rintro e v3 ⟨B3, d3, rfl, p3, _, t3⟩
  rw [show (be 2 ((Dn : Int))).length = 2 from be_length _ _] at p3 ⊢
  obtain ⟨gb3, rfl, _⟩ := p3.some_ (by omega)
  have P3 := Lib.hid p3
  have U3 := Lib.hid t3
  clear p3 t3
  go_wp2_with (at_builtin; refine wpList_app2 bytT rfl (.tmp 16) (.tmp 20) rfl (O2.out.turned U3.out (fun _ _ e => e)) ⟨gb3, 0, none⟩ (2) d3 (be 2 ((Dn : Int))) (by rw [show (be 2 ((Dn : Int))).length = 2 from be_length _ _]) (P3.out.bytS'.news _ rfl) (by omega) (by omega) rfl rfl ?_; intro A3 c3 w3 ho3 hor3; obtain ⟨TT3, GG3⟩ := app_step T2.out G2.out U3.out hor3; obtain ⟨x0, x1, x2, x3, x4, x5, x6, x7, x8, x9, x10⟩ := (RecAt.of_blk (R := ⟨lsn, work, prev, next, 5, page, key, old, new, dirty, opn⟩) (S := ⟨⟨KA, Kn, Kc⟩, ⟨OA, On, Oc⟩, ⟨NA, Nn, Nc⟩, ⟨DA, Dn, Dc⟩, ⟨PA, Pn, Pc⟩⟩) XB.out).fresh TT3; simp only at x0 x1 x2 x3 x4 x5 x6 x7 x8 x9 x10)
  have T3 := Lib.hid TT3
  have G3 := Lib.hid GG3
  have O3 := Lib.hid ho3
  clear TT3 GG3 ho3 hor3 P3 U3 O2 G2 T2
  clear x0 x1 x2 x3 x4 x5 x6 x7 x8 x9 x10
  have hz1 : [(5 : Int)] ++ be 2 (Dn : Int) ++ (dirty.take 0).flatMap (pairL 2) = [(5 : Int)] ++ be 2 (Dn : Int) := by rw [List.take_zero, List.flatMap_nil, List.append_nil]
  have hz0 : ([(5 : Int)] ++ be 2 (Dn : Int) ++ (dirty.take 0).flatMap (pairL 2)).length = (1 + 2) := by rw [hz1]; simp only [List.length_append, List.length_singleton, be_length, flat_le, List.length_take, hdl.out, hpl.out] <;> omega
  have hst := Lib.hid (show FpRel w0 ([(5 : Int)] ++ be 2 (Dn : Int)) 2 dirty Dn (.slice A3 (1 + 2) c3) (.int .i64 0) w3 from ⟨0, A3, c3, Nat.zero_le _, rfl, by rw [hz0], by rw [hz0, hz1]; exact O3.out, G3.out, T3.out⟩)
  clear O3 G3 T3 hz0 hz1
  go_loopw [4, 5] (fun v i wr => FpRel w0 ([(5 : Int)] ++ be 2 (Dn : Int)) 2 dirty Dn v i wr) (fun _ i _ => Dn - (intOf i).toNat)
  case atStart => exact hst.out
  case round =>
    obtain ⟨j, A4, c4, hj, rfl, rfl, ho, hg, hT⟩ := hrel
    have T4 := Lib.hid hT
    have G4 := Lib.hid hg
    have hll : ([(5 : Int)] ++ be 2 (Dn : Int) ++ (dirty.take j).flatMap (pairL 2)).length ≤ 2000 := by simp only [List.length_append, List.length_singleton, be_length, flat_le, List.length_take, hdl.out, hpl.out] <;> omega
    clear hst hT hg
    by_cases hlt : j < Dn
    · have hji : (j : Int) < (Dn : Int) := by omega
      obtain ⟨b, off, hA, hc⟩ := (I.out.dirty.fresh T4.out).cells (by show 0 < Dn; omega)
      simp only at hA
      subst hA
      obtain ⟨q1, q2⟩ := hc j hlt
      clear hc
      obtain ⟨i1, i2⟩ := pair_i64 hK.out.dirty (show j < dirty.length by rw [hdl.out]; exact hlt)
      simp only at i1 i2
      have i1 := Lib.hid i1
      have i2 := Lib.hid i2
      have hnx := Lib.hid (fun (w4 : World) (m c : Nat) (A : Option Addr) (hm) (ho) (hg) (ht) => FpRel.next (w0 := w0) (w4 := w4) (z := [(5 : Int)] ++ be 2 (Dn : Int)) (a := 2) (l := dirty) (n := Dn) (j := j) (m := m) (c := c) (A := A) hlt hdl.out hm ho hg ht)
      generalize hzz : [(5 : Int)] ++ be 2 (Dn : Int) ++ (dirty.take j).flatMap (pairL 2) = zz at *
      clear hzz
      generalize hLL : zz.length = LL at *
      have hLL := Lib.hid hLL
      have O4 := Lib.hid ho
      clear ho
      generalize hf : fstAt dirty j = fs at *
      generalize hs : sndAt dirty j = sn at *
      have hsn := Lib.hid hs
      clear hf hs
      obtain ⟨x0, x1, x2, x3, x4, x5, x6, x7, x8, x9, x10⟩ := (RecAt.of_blk (R := ⟨lsn, work, prev, next, 5, page, key, old, new, dirty, opn⟩) (S := ⟨⟨KA, Kn, Kc⟩, ⟨OA, On, Oc⟩, ⟨NA, Nn, Nc⟩, ⟨some ⟨b, off, none⟩, Dn, Dc⟩, ⟨PA, Pn, Pc⟩⟩) XB.out).fresh T4.out
      simp only at x0 x1 x2 x3 x4 x5 x6 x7 x8 x9 x10
      go_wp2_with fail
      clear q1 q2
      clear x0 x1 x2 x3 x4 x5 x6 x7 x8 x9 x10
      refine (fnumber_any (fs) 2 _ (by omega) i1.out).mono ?_
      rintro e v5 ⟨B5, d5, rfl, p5, _, t5⟩
      rw [show (be 2 (fs)).length = 2 from be_length _ _] at p5 ⊢
      obtain ⟨gb5, rfl, _⟩ := p5.some_ (by omega)
      have P5 := Lib.hid p5
      have U5 := Lib.hid t5
      clear p5 t5
      go_wp2_with (at_builtin; refine wpList_app2 bytT rfl (.tmp 29) (.tmp 36) rfl (O4.out.turned U5.out (fun _ _ e => e)) ⟨gb5, 0, none⟩ (2) d5 (be 2 (fs)) (by rw [show (be 2 (fs)).length = 2 from be_length _ _]) (P5.out.bytS'.news _ rfl) (by omega) (by omega) rfl rfl ?_; intro A5 c5 w5 ho5 hor5; obtain ⟨TT5, GG5⟩ := app_step T4.out G4.out U5.out hor5; obtain ⟨x0, x1, x2, x3, x4, x5, x6, x7, x8, x9, x10⟩ := (RecAt.of_blk (R := ⟨lsn, work, prev, next, 5, page, key, old, new, dirty, opn⟩) (S := ⟨⟨KA, Kn, Kc⟩, ⟨OA, On, Oc⟩, ⟨NA, Nn, Nc⟩, ⟨some ⟨b, off, none⟩, Dn, Dc⟩, ⟨PA, Pn, Pc⟩⟩) XB.out).fresh TT5; simp only at x0 x1 x2 x3 x4 x5 x6 x7 x8 x9 x10; have q2 := ((I.out.dirty.fresh TT5).at_ (i := j) rfl (by show j < Dn; exact hlt)).2; rw [hsn.out] at q2)
      have T5 := Lib.hid TT5
      have G5 := Lib.hid GG5
      have O5 := Lib.hid ho5
      clear TT5 GG5 ho5 hor5 P5 U5 O4 G4 T4
      clear q2
      clear x0 x1 x2 x3 x4 x5 x6 x7 x8 x9 x10
      refine (fnumber_any (sn) 8 _ (by omega) i2.out).mono ?_
      rintro e v6 ⟨B6, d6, rfl, p6, _, t6⟩
      rw [show (be 8 (sn)).length = 8 from be_length _ _] at p6 ⊢
      obtain ⟨gb6, rfl, _⟩ := p6.some_ (by omega)
      have P6 := Lib.hid p6
      have U6 := Lib.hid t6
      clear p6 t6
      go_wp2_with (at_builtin; refine wpList_app2 bytT rfl (.tmp 38) (.tmp 45) rfl (O5.out.turned U6.out (fun _ _ e => e)) ⟨gb6, 0, none⟩ (8) d6 (be 8 (sn)) (by rw [show (be 8 (sn)).length = 8 from be_length _ _]) (P6.out.bytS'.news _ rfl) (by omega) (by omega) rfl rfl ?_; intro A6 c6 w6 ho6 hor6; obtain ⟨TT6, GG6⟩ := app_step T5.out G5.out U6.out hor6; obtain ⟨x0, x1, x2, x3, x4, x5, x6, x7, x8, x9, x10⟩ := (RecAt.of_blk (R := ⟨lsn, work, prev, next, 5, page, key, old, new, dirty, opn⟩) (S := ⟨⟨KA, Kn, Kc⟩, ⟨OA, On, Oc⟩, ⟨NA, Nn, Nc⟩, ⟨some ⟨b, off, none⟩, Dn, Dc⟩, ⟨PA, Pn, Pc⟩⟩) XB.out).fresh TT6; simp only at x0 x1 x2 x3 x4 x5 x6 x7 x8 x9 x10)
      have T6 := Lib.hid TT6
      have G6 := Lib.hid GG6
      have O6 := Lib.hid ho6
      clear TT6 GG6 ho6 hor6 P6 U6 O5 G5 T5
      have hz : Value.int .i64 ((j : Int) + 1) = .int .i64 ((j + 1 : Nat) : Int) := by go_num
      have hR := Lib.hid (hnx.out w6 _ c6 A6 rfl O6.out G6.out T6.out)
      clear hnx O6 G6 T6
      clear x0 x1 x2 x3 x4 x5 x6 x7 x8 x9 x10
      go_roundw
      case rel =>
        first
        | (rw [hz]; exact hR.out)
        | ((repeat apply Exists.intro); exact ⟨by rw [hz]; exact hR.out, rfl⟩)
      case measure => simp [intOf]; omega
    · obtain rfl : Dn = j := by omega
      have hge : (Dn : Int) ≤ (Dn : Int) := Int.le_refl _
      rw [List.take_of_length_le (by rw [hdl.out]; exact Nat.le_refl _)] at ho ⊢
      rw [show ([(5 : Int)] ++ be 2 (Dn : Int) ++ dirty.flatMap (pairL 2)).length = 1 + 2 + 10 * Dn by simp only [List.length_append, List.length_singleton, be_length, flat_le, List.length_take, hdl.out, hpl.out] <;> omega] at ho ⊢
      have O4 := Lib.hid ho
      clear ho hll
      obtain ⟨x0, x1, x2, x3, x4, x5, x6, x7, x8, x9, x10⟩ := (RecAt.of_blk (R := ⟨lsn, work, prev, next, 5, page, key, old, new, dirty, opn⟩) (S := ⟨⟨KA, Kn, Kc⟩, ⟨OA, On, Oc⟩, ⟨NA, Nn, Nc⟩, ⟨DA, Dn, Dc⟩, ⟨PA, Pn, Pc⟩⟩) XB.out).fresh T4.out
      simp only at x0 x1 x2 x3 x4 x5 x6 x7 x8 x9 x10
      go_wp2_with fail
      clear x0 x1 x2 x3 x4 x5 x6 x7 x8 x9 x10
      refine (fnumber_any ((Pn : Int)) 2 _ (by omega) (by unfold I64; omega)).mono ?_
      rintro e v5 ⟨B5, d5, rfl, p5, _, t5⟩
      rw [show (be 2 ((Pn : Int))).length = 2 from be_length _ _] at p5 ⊢
      obtain ⟨gb5, rfl, _⟩ := p5.some_ (by omega)
      have P5 := Lib.hid p5
      have U5 := Lib.hid t5
      clear p5 t5
      go_wp2_with (at_builtin; refine wpList_app2 bytT rfl (.tmp 47) (.tmp 51) rfl (O4.out.turned U5.out (fun _ _ e => e)) ⟨gb5, 0, none⟩ (2) d5 (be 2 ((Pn : Int))) (by rw [show (be 2 ((Pn : Int))).length = 2 from be_length _ _]) (P5.out.bytS'.news _ rfl) (by omega) (by omega) rfl rfl ?_; intro A5 c5 w5 ho5 hor5; obtain ⟨TT5, GG5⟩ := app_step T4.out G4.out U5.out hor5; obtain ⟨x0, x1, x2, x3, x4, x5, x6, x7, x8, x9, x10⟩ := (RecAt.of_blk (R := ⟨lsn, work, prev, next, 5, page, key, old, new, dirty, opn⟩) (S := ⟨⟨KA, Kn, Kc⟩, ⟨OA, On, Oc⟩, ⟨NA, Nn, Nc⟩, ⟨DA, Dn, Dc⟩, ⟨PA, Pn, Pc⟩⟩) XB.out).fresh TT5; simp only at x0 x1 x2 x3 x4 x5 x6 x7 x8 x9 x10)
      have T5 := Lib.hid TT5
      have G5 := Lib.hid GG5
      have O5 := Lib.hid ho5
      clear TT5 GG5 ho5 hor5 P5 U5 O4 G4 T4
      clear x0 x1 x2 x3 x4 x5 x6 x7 x8 x9 x10
      have hz1 : [(5 : Int)] ++ be 2 (Dn : Int) ++ dirty.flatMap (pairL 2) ++ be 2 (Pn : Int) ++ (opn.take 0).flatMap (pairL 8) = [(5 : Int)] ++ be 2 (Dn : Int) ++ dirty.flatMap (pairL 2) ++ be 2 (Pn : Int) := by rw [List.take_zero, List.flatMap_nil, List.append_nil]
      have hz0 : ([(5 : Int)] ++ be 2 (Dn : Int) ++ dirty.flatMap (pairL 2) ++ be 2 (Pn : Int) ++ (opn.take 0).flatMap (pairL 8)).length = (1 + 2 + 10 * Dn + 2) := by rw [hz1]; simp only [List.length_append, List.length_singleton, be_length, flat_le, List.length_take, hdl.out, hpl.out] <;> omega
      have hst := Lib.hid (show FpRel w0 ([(5 : Int)] ++ be 2 (Dn : Int) ++ dirty.flatMap (pairL 2) ++ be 2 (Pn : Int)) 8 opn Pn (.slice A5 (1 + 2 + 10 * Dn + 2) c5) (.int .i64 0) w5 from ⟨0, A5, c5, Nat.zero_le _, rfl, by rw [hz0], by rw [hz0, hz1]; exact O5.out, G5.out, T5.out⟩)
      clear O5 G5 T5 hz0 hz1
      go_loopw [4, 6] (fun v i wr => FpRel w0 ([(5 : Int)] ++ be 2 (Dn : Int) ++ dirty.flatMap (pairL 2) ++ be 2 (Pn : Int)) 8 opn Pn v i wr) (fun _ i _ => Pn - (intOf i).toNat)
      case atStart => exact hst.out
      case round =>
        obtain ⟨j, A6, c6, hj, rfl, rfl, ho, hg, hT⟩ := hrel
        have T6 := Lib.hid hT
        have G6 := Lib.hid hg
        have hll : ([(5 : Int)] ++ be 2 (Dn : Int) ++ dirty.flatMap (pairL 2) ++ be 2 (Pn : Int) ++ (opn.take j).flatMap (pairL 8)).length ≤ 2000 := by simp only [List.length_append, List.length_singleton, be_length, flat_le, List.length_take, hdl.out, hpl.out] <;> omega
        clear hst hT hg
        by_cases hlt : j < Pn
        · have hji : (j : Int) < (Pn : Int) := by omega
          obtain ⟨b, off, hA, hc⟩ := (I.out.opn.fresh T6.out).cells (by show 0 < Pn; omega)
          simp only at hA
          subst hA
          obtain ⟨q1, q2⟩ := hc j hlt
          clear hc
          obtain ⟨i1, i2⟩ := pair_i64 hK.out.opn (show j < opn.length by rw [hpl.out]; exact hlt)
          simp only at i1 i2
          have i1 := Lib.hid i1
          have i2 := Lib.hid i2
          have hnx := Lib.hid (fun (w4 : World) (m c : Nat) (A : Option Addr) (hm) (ho) (hg) (ht) => FpRel.next (w0 := w0) (w4 := w4) (z := [(5 : Int)] ++ be 2 (Dn : Int) ++ dirty.flatMap (pairL 2) ++ be 2 (Pn : Int)) (a := 8) (l := opn) (n := Pn) (j := j) (m := m) (c := c) (A := A) hlt hpl.out hm ho hg ht)
          generalize hzz : [(5 : Int)] ++ be 2 (Dn : Int) ++ dirty.flatMap (pairL 2) ++ be 2 (Pn : Int) ++ (opn.take j).flatMap (pairL 8) = zz at *
          clear hzz
          generalize hLL : zz.length = LL at *
          have hLL := Lib.hid hLL
          have O6 := Lib.hid ho
          clear ho
          generalize hf : fstAt opn j = fs at *
          generalize hs : sndAt opn j = sn at *
          have hsn := Lib.hid hs
          clear hf hs
          obtain ⟨x0, x1, x2, x3, x4, x5, x6, x7, x8, x9, x10⟩ := (RecAt.of_blk (R := ⟨lsn, work, prev, next, 5, page, key, old, new, dirty, opn⟩) (S := ⟨⟨KA, Kn, Kc⟩, ⟨OA, On, Oc⟩, ⟨NA, Nn, Nc⟩, ⟨DA, Dn, Dc⟩, ⟨some ⟨b, off, none⟩, Pn, Pc⟩⟩) XB.out).fresh T6.out
          simp only at x0 x1 x2 x3 x4 x5 x6 x7 x8 x9 x10
          go_wp2_with fail
          clear q1 q2
          clear x0 x1 x2 x3 x4 x5 x6 x7 x8 x9 x10
          refine (fnumber_any (fs) 8 _ (by omega) i1.out).mono ?_
          rintro e v7 ⟨B7, d7, rfl, p7, _, t7⟩
          rw [show (be 8 (fs)).length = 8 from be_length _ _] at p7 ⊢
          obtain ⟨gb7, rfl, _⟩ := p7.some_ (by omega)
          have P7 := Lib.hid p7
          have U7 := Lib.hid t7
          clear p7 t7
          go_wp2_with (at_builtin; refine wpList_app2 bytT rfl (.tmp 60) (.tmp 67) rfl (O6.out.turned U7.out (fun _ _ e => e)) ⟨gb7, 0, none⟩ (8) d7 (be 8 (fs)) (by rw [show (be 8 (fs)).length = 8 from be_length _ _]) (P7.out.bytS'.news _ rfl) (by omega) (by omega) rfl rfl ?_; intro A7 c7 w7 ho7 hor7; obtain ⟨TT7, GG7⟩ := app_step T6.out G6.out U7.out hor7; obtain ⟨x0, x1, x2, x3, x4, x5, x6, x7, x8, x9, x10⟩ := (RecAt.of_blk (R := ⟨lsn, work, prev, next, 5, page, key, old, new, dirty, opn⟩) (S := ⟨⟨KA, Kn, Kc⟩, ⟨OA, On, Oc⟩, ⟨NA, Nn, Nc⟩, ⟨DA, Dn, Dc⟩, ⟨some ⟨b, off, none⟩, Pn, Pc⟩⟩) XB.out).fresh TT7; simp only at x0 x1 x2 x3 x4 x5 x6 x7 x8 x9 x10; have q2 := ((I.out.opn.fresh TT7).at_ (i := j) rfl (by show j < Pn; exact hlt)).2; rw [hsn.out] at q2)
          have T7 := Lib.hid TT7
          have G7 := Lib.hid GG7
          have O7 := Lib.hid ho7
          clear TT7 GG7 ho7 hor7 P7 U7 O6 G6 T6
          clear q2
          clear x0 x1 x2 x3 x4 x5 x6 x7 x8 x9 x10
          refine (fnumber_any (sn) 8 _ (by omega) i2.out).mono ?_
          rintro e v8 ⟨B8, d8, rfl, p8, _, t8⟩
          rw [show (be 8 (sn)).length = 8 from be_length _ _] at p8 ⊢
          obtain ⟨gb8, rfl, _⟩ := p8.some_ (by omega)
          have P8 := Lib.hid p8
          have U8 := Lib.hid t8
          clear p8 t8
          go_wp2_with (at_builtin; refine wpList_app2 bytT rfl (.tmp 69) (.tmp 76) rfl (O7.out.turned U8.out (fun _ _ e => e)) ⟨gb8, 0, none⟩ (8) d8 (be 8 (sn)) (by rw [show (be 8 (sn)).length = 8 from be_length _ _]) (P8.out.bytS'.news _ rfl) (by omega) (by omega) rfl rfl ?_; intro A8 c8 w8 ho8 hor8; obtain ⟨TT8, GG8⟩ := app_step T7.out G7.out U8.out hor8; obtain ⟨x0, x1, x2, x3, x4, x5, x6, x7, x8, x9, x10⟩ := (RecAt.of_blk (R := ⟨lsn, work, prev, next, 5, page, key, old, new, dirty, opn⟩) (S := ⟨⟨KA, Kn, Kc⟩, ⟨OA, On, Oc⟩, ⟨NA, Nn, Nc⟩, ⟨DA, Dn, Dc⟩, ⟨some ⟨b, off, none⟩, Pn, Pc⟩⟩) XB.out).fresh TT8; simp only at x0 x1 x2 x3 x4 x5 x6 x7 x8 x9 x10)
          have T8 := Lib.hid TT8
          have G8 := Lib.hid GG8
          have O8 := Lib.hid ho8
          clear TT8 GG8 ho8 hor8 P8 U8 O7 G7 T7
          have hz : Value.int .i64 ((j : Int) + 1) = .int .i64 ((j + 1 : Nat) : Int) := by go_num
          have hR := Lib.hid (hnx.out w8 _ c8 A8 rfl O8.out G8.out T8.out)
          clear hnx O8 G8 T8
          clear x0 x1 x2 x3 x4 x5 x6 x7 x8 x9 x10
          go_roundw
          case rel =>
            first
            | (rw [hz]; exact hR.out)
            | ((repeat apply Exists.intro); exact ⟨by rw [hz]; exact hR.out, rfl⟩)
          case measure => simp [intOf]; omega
        · obtain rfl : Pn = j := by omega
          have hge : (Pn : Int) ≤ (Pn : Int) := Int.le_refl _
          rw [List.take_of_length_le (by rw [hpl.out]; exact Nat.le_refl _)] at ho ⊢
          rw [show ([(5 : Int)] ++ be 2 (Dn : Int) ++ dirty.flatMap (pairL 2) ++ be 2 (Pn : Int) ++ opn.flatMap (pairL 8)).length = 1 + 2 + 10 * Dn + 2 + 16 * Pn by simp only [List.length_append, List.length_singleton, be_length, flat_le, List.length_take, hdl.out, hpl.out] <;> omega] at ho ⊢
          have O6 := Lib.hid ho
          clear ho hll
          obtain ⟨x0, x1, x2, x3, x4, x5, x6, x7, x8, x9, x10⟩ := (RecAt.of_blk (R := ⟨lsn, work, prev, next, 5, page, key, old, new, dirty, opn⟩) (S := ⟨⟨KA, Kn, Kc⟩, ⟨OA, On, Oc⟩, ⟨NA, Nn, Nc⟩, ⟨DA, Dn, Dc⟩, ⟨PA, Pn, Pc⟩⟩) XB.out).fresh T6.out
          simp only at x0 x1 x2 x3 x4 x5 x6 x7 x8 x9 x10
          go_wp2_with fail
          clear x0 x1 x2 x3 x4 x5 x6 x7 x8 x9 x10
          refine (fnumber_any (((1 + 2 + 10 * Dn + 2 + 16 * Pn : Nat) : Int)) 2 _ (by omega) (by unfold I64; omega)).mono ?_
          rintro e v7 ⟨B7, d7, rfl, p7, h7, t7⟩
          rw [be_length] at p7 ⊢
          obtain ⟨gb7, rfl, _⟩ := p7.some_ (by omega)
          have P7 := Lib.hid p7
          have T7 := Lib.hid (T6.out.and_ t7)
          have G7 := Lib.hid (fun g (e : (some ⟨gb7, 0, none⟩ : Option Addr) = some ⟨g, 0, none⟩) => Nat.le_trans T6.out.size (h7 g e))
          have Q7 := Lib.hid (O6.out.turned t7 (fun _ _ e => e))
          clear p7 t7 h7 O6 T6 G6
          go_wp2_with (at_builtin; refine wpList_app4 bytT rfl (.tmp 80) (.tmp 81) rfl P7.out Q7.out.bytS' (by omega) rfl rfl ?_; intro A8 c8 w8 ho hor)
          obtain ⟨TZ, GZ⟩ := app_step T7.out G7.out (Turned.refl _ _) hor
          have TZ := Lib.hid TZ
          have GZ := Lib.hid GZ
          have OZ := Lib.hid ho
          clear ho hor
          go_ret2
          have hbody : bodyL ⟨lsn, work, prev, next, 5, page, key, old, new, dirty, opn⟩ = [(5 : Int)] ++ be 2 (Dn : Int) ++ dirty.flatMap (pairL 2) ++ be 2 (Pn : Int) ++ opn.flatMap (pairL 8) := by simp [bodyL, restL, turnL, listL, hdl.out, hpl.out]
          have hbl2 : (bodyL ⟨lsn, work, prev, next, 5, page, key, old, new, dirty, opn⟩).length = 1 + 2 + 10 * Dn + 2 + 16 * Pn := by rw [hbody]; simp only [List.length_append, List.length_singleton, be_length, flat_le, List.length_take, hdl.out, hpl.out] <;> omega
          unfold RPut
          rw [hyes.out, hr'.out, hbl2, List.length_append, be_length, hbl2, hbody]
          exact ⟨A8, c8, rfl, OZ.out, fun g e => Nat.le_trans (by have := hsz0.out; omega) (GZ.out g e), t0.out.and_ TZ.out⟩
theorem fput_any (R : Rec) (S : RecS) (w : World) (h : RecIs w R S) (hk : R.Ok) : Calls Tryz.prog 13 #[.agg (recC R S)] w (RPut R w) := by
  cases hr : rightR R with
  | false => exact fput_no R S w h hr
  | true =>
    by_cases h1 : R.kind = 1
    · exact fput_1 R S w h hk hr h1
    · by_cases h2 : R.kind = 2
      · exact fput_2 R S w h hk hr h2
      · by_cases h3 : R.kind = 3
        · exact fput_3 R S w h hk hr h3
        · by_cases h4 : R.kind = 4
          · exact fput_4 R S w h hk hr h4
          · by_cases h5 : R.kind = 5
            · exact fput_5 R S w h hk hr h5
            · by_cases h6 : R.kind = 6
              · exact fput_6 R S w h hk hr h6
              · exfalso
                unfold rightR kindB at hr
                rw [if_neg h5, if_neg h1, if_neg h2, if_neg (by omega), if_neg h6] at hr
                simp at hr
end Go.Proofs.YtohajofkflibjaaGreatDoor

