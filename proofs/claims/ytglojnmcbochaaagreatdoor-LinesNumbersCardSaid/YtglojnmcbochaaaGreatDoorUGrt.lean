/-
 ytglojnmcbochaaagreatdoor: laws and walks on the road to LinesNumbers, joined: RfT RfU Open OpB OpT Grt. Conditions stand at each theorem.
-/
import Derived.Test.YtglojnmcbochaaaGreatDoorURfT1
import Derived.Test.YtglojnmcbochaaaGreatDoorURfT2
import Derived.Test.YtglojnmcbochaaaGreatDoorURfT3
import Derived.Test.YtglojnmcbochaaaGreatDoorURfT4
import Derived.Test.YtglojnmcbochaaaGreatDoorURfT5
import Derived.Test.YtglojnmcbochaaaGreatDoorUAskEh
import Derived.Test.YtglojnmcbochaaaGreatDoorUNmP
import Derived.Test.YtglojnmcbochaaaGreatDoorProg
import Derived.Test.YtglojnmcbochaaaGreatDoorUCodN
import Derived.ProofKit
import Derived.Deep.Slices
import Derived.Deep.MidRow
import Derived.Test.YtglojnmcbochaaaGreatDoorUCodQ
import Derived.OpenShut
import Derived.ChangeSlices
import Derived.SizedLaws
import Derived.Test.YtglojnmcbochaaaGreatDoorUWrD
import Derived.SliceStrings
namespace Go.Proofs.YtglojnmcbochaaaGreatDoor
open Go.RowKit Go.Maps
set_option linter.unusedVariables false
set_option linter.unusedSimpArgs false

theorem rstep_main (b off n c : Nat) (wd : List UInt8) (rs : WS) (w : World) (h : SlT w ⟨some ⟨b, off, none⟩, n, c⟩ (wd :: rs)) (hm : ∀ x ∈ wd :: rs, lenOk x) (hN : rs.length + 1 ≤ 1000000) : Calls Tryz.prog 27 #[.slice (some ⟨b, off, none⟩) n c] w (RtPost (wd :: rs) w) := by
 by_cases h_fl : wd = [102, 108, 117, 115, 104]
 ·exact rstep_fl b off n c wd rs w h hm hN h_fl
 by_cases h_mk : wd = [109, 97, 114, 107]
 ·exact rstep_mk b off n c wd rs w h hm hN h_mk
 by_cases h_op : wd = [111, 112, 101, 110]
 ·exact rstep_op b off n c wd rs w h hm hN h_op
 by_cases h_cr : wd = [99, 114, 97, 115, 104]
 ·exact rstep_cr b off n c wd rs w h hm hN h_cr
 by_cases hr : rs = []
 ·exact rstep_ni b off n c wd rs w h hm hN ⟨h_fl, h_mk, h_op, h_cr, hr⟩
 by_cases h_ar : wd = [97, 114, 109]
 ·exact rstep_ar b off n c wd rs w h hm hN ⟨h_ar, hr⟩
 by_cases h_ru : wd = [114, 117, 110]
 ·exact rstep_ru b off n c wd rs w h hm hN ⟨h_ru, hr⟩
 by_cases h_as : wd = [97, 115, 107]
 ·exact rstep_as b off n c wd rs w h hm hN ⟨h_fl, h_mk, h_op, h_cr, h_ar, h_ru, hr, h_as⟩
 exact rstep_no b off n c wd rs w h hm hN ⟨h_fl, h_mk, h_op, h_cr, h_ar, h_ru, hr, h_as⟩
end Go.Proofs.YtglojnmcbochaaaGreatDoor

namespace Go.Proofs.YtglojnmcbochaaaGreatDoor
open Go.RowKit Go.Maps
set_option linter.unusedVariables false
set_option linter.unusedSimpArgs false

theorem rstep_any (s : Sl) (ws : WS) (w : World) (h : SlT w s ws) (hm : ∀ x ∈ ws, lenOk x) (hN : ws.length ≤ 1000000) : Calls Tryz.prog 27 #[.slice s.A s.n s.c] w (RtPost ws w) := by
 match ws, h, hm, hN with
 | [], h, hm, hN => exact rstep_nil s w h.len.symm
 | x :: t, h, hm, hN =>
  have hl := h.len
  simp only [List.length_cons] at hl
  obtain ⟨b, off, hA, _⟩ := h.cells (by omega)
  obtain ⟨A, n, c⟩ := s
  simp only at hA hl
  subst hA
  exact rstep_main b off n c x t w h hm (by simpa using hN)
set_option maxRecDepth 100000 in
set_option maxHeartbeats 4000000 in
theorem rline_any (s : ByteArray) (w : World) (hs : s.size ≤ 20000) : Calls Tryz.prog 10 #[.string s] w (LnPost s.data.toList w) := by
 have TZ := hZ ((Turned.refl (fun _ => False) w).alloc (.cells #[.int .u8 0, .int .i64 0, .int .i64 0, .int .u8 0, .int .i64 0, .string ⟨#[]⟩, .int .i64 0, .int .i64 0, .int .i64 0, .int .i64 0, .int .i64 0, .int .i64 0, .slice none 0 0, .slice none 0 0, .slice none 0 0] 31))
 have XZ0 := hZ (Blk.new w 31 #[.int .u8 0, .int .i64 0, .int .i64 0, .int .u8 0, .int .i64 0, .string ⟨#[]⟩, .int .i64 0, .int .i64 0, .int .i64 0, .int .i64 0, .int .i64 0, .int .i64 0, .slice none 0 0, .slice none 0 0, .slice none 0 0])
 go_enter Tryz.func10, Tryz.ntmps10
 go_upto_region 1 with fail
 obtain ⟨wa, hwa⟩ : ∃ wa, wa = w.alloc (.cells #[.int .u8 0, .int .i64 0, .int .i64 0, .int .u8 0, .int .i64 0, .string ⟨#[]⟩, .int .i64 0, .int .i64 0, .int .i64 0, .int .i64 0, .int .i64 0, .int .i64 0, .slice none 0 0, .slice none 0 0, .slice none 0 0] 31) := ⟨_, rfl⟩
 rw [← hwa] at TZ XZ0 ⊢
 clear hwa
 obtain ⟨br, hbr⟩ : ∃ br, w.heap.size = br := ⟨_, rfl⟩
 rw [hbr] at XZ0 ⊢
 have hwb : w.heap.size ≤ br := by omega
 clear hbr
 have hns : ¬ (1048576 : Int) < (s.size : Int) := by omega
 go_wp2_with fail
 refine (rwords_any s _ (by omega)).mono ?_
 rintro e w1 ⟨A, c, rfl, ho, hb, t1⟩
 have O1 := hZ ho
 have T1 := hZ (TZ.out.and_ t1)
 have XR1 := hZ (XZ0.out.turned t1 (fun e => e))
 clear ho hb t1 TZ XZ0
 have hwl := hZ (words_few s.data.toList)
 have hst := hZ (rstep_any ⟨A, (wordsL s.data.toList).length, c⟩ (wordsL s.data.toList) w1 O1.out.slT (fun x hx => by
  have := (words_mem hx).2.1
  rw [← Lib.size_eq] at this
  unfold lenOk
  omega) (by have := hwl.out; rw [← Lib.size_eq] at this; omega))
 have hres := hZ (show lineRes s.data.toList = (match stepW (wordsL s.data.toList) with
  | some x => (x, 0)
  | none => (StepV.zero, 310)) from by unfold lineRes stepL; rw [if_neg (by rw [← Lib.size_eq]; omega)]; cases stepW (wordsL s.data.toList) <;> rfl)
 generalize (wordsL s.data.toList).length = nw at *
 clear O1 hwl
 go_wp2_with fail
 refine hst.out.mono ?_
 rintro e w2 ⟨x2, S2, F2, b2, rfl, ho2, hok2, heq2, t2⟩
 have O2 := hZ ho2
 have K2 := hZ hok2
 have T2 := hZ (T1.out.and_ t2)
 have XR2 := hZ (XR1.out.turned t2 (fun e => e))
 have B2 := hZ (show w.heap.size ≤ w1.heap.size from T1.out.size)
 have hres2 := hZ (show lineRes s.data.toList = (if b2 then (x2, 0) else (StepV.zero, 310)) from by rw [hres.out, heq2]; cases b2 <;> rfl)
 clear ho2 hok2 heq2 t2 T1 XR1 hst hres
 obtain ⟨kd, ss, nm, ⟨kind, request, item, qty, day, days, rank, lot, line, parts, others⟩, fates⟩ := x2
 obtain ⟨⟨PA, Pn, Pc⟩, ⟨OA, On, Oc⟩⟩ := S2
 obtain ⟨FA, Fn, Fc⟩ := F2
 unfold stpC strV
 simp only
 go_upto_region 4 with fail
 have t3 := (Turned.refl (fun _ => False) w2).alloc (.cells #[.int .u8 kd, .int .i64 ss, .int .i64 nm, .int .u8 kind, .int .i64 request, .string ⟨item.toArray⟩, .int .i64 qty, .int .i64 day, .int .i64 days, .int .i64 rank, .int .i64 lot, .int .i64 line, .slice PA Pn Pc, .slice OA On Oc, .slice FA Fn Fc] 31)
 have BX := hZ (Blk.new w2 31 #[.int .u8 kd, .int .i64 ss, .int .i64 nm, .int .u8 kind, .int .i64 request, .string ⟨item.toArray⟩, .int .i64 qty, .int .i64 day, .int .i64 days, .int .i64 rank, .int .i64 lot, .int .i64 line, .slice PA Pn Pc, .slice OA On Oc, .slice FA Fn Fc])
 obtain ⟨w3, hw3⟩ : ∃ w3, w3 = w2.alloc (.cells #[.int .u8 kd, .int .i64 ss, .int .i64 nm, .int .u8 kind, .int .i64 request, .string ⟨item.toArray⟩, .int .i64 qty, .int .i64 day, .int .i64 days, .int .i64 rank, .int .i64 lot, .int .i64 line, .slice PA Pn Pc, .slice OA On Oc, .slice FA Fn Fc] 31) := ⟨_, rfl⟩
 rw [← hw3] at BX t3 ⊢
 clear hw3
 have T3 := hZ (T2.out.and_ t3)
 have XR := hZ (XR2.out.turned t3 (fun e => e))
 have O3 := hZ (O2.out.fresh t3)
 have hbx : br < w2.heap.size := XR2.out.lt
 clear t3 T2 XR2 O2
 generalize w2.heap.size = bx at *
 obtain ⟨y0, y1, y2, y3, y4, y5, y6, y7, y8, y9, y10, y11, y12, y13, y14⟩ := XR.out.cells15
 have yf := XR.out.frozen
 obtain ⟨c0, c1, c2, c3, c4, c5, c6, c7, c8, c9, c10, c11, c12, c13, c14⟩ := BX.out.cells15
 cases b2 with
 | false =>
  have hr := hZ (show lineRes s.data.toList = (StepV.zero, 310) from hres2.out)
  go_wp2_with fail
  obtain ⟨wz, hwz, XZ, tZ⟩ := fin15 (.int .u8 0) (.int .i64 0) (.int .i64 0) (.int .u8 0) (.int .i64 0) (.string ⟨#[]⟩) (.int .i64 0) (.int .i64 0) (.int .i64 0) (.int .i64 0) (.int .i64 0) (.int .i64 0) (.slice none 0 0) (.slice none 0 0) (.slice none 0 0) XR.out
  rw [hwz]
  clear hwz
  obtain ⟨e0, e1, e2, e3, e4, e5, e6, e7, e8, e9, e10, e11, e12, e13, e14⟩ := XZ.cells15
  refine bodyPost_ret (v := .tuple #[.agg #[.int .u8 0, .int .i64 0, .int .i64 0, .int .u8 0, .int .i64 0, .string ⟨#[]⟩, .int .i64 0, .int .i64 0, .int .i64 0, .int .i64 0, .int .i64 0, .int .i64 0, .slice none 0 0, .slice none 0 0, .slice none 0 0], .int .i64 310]) (by simp [results, Tryz.results10, go_sem, e0, e1, e2, e3, e4, e5, e6, e7, e8, e9, e10, e11, e12, e13, e14]) rfl ?_
  unfold LnPost
  rw [hr.out]
  exact ⟨AskS.nil, Sl.nil, rfl, StpOwn.nil _ _ _ rfl rfl rfl, stp_zero_ok, T3.out.trans tZ (fun _ e => e) (fun i e => .inr (by subst e; omega))⟩
 | true =>
  have hr := hZ (show lineRes s.data.toList = (⟨kd, ss, nm, ⟨kind, request, item, qty, day, days, rank, lot, line, parts, others⟩, fates⟩, 0) from hres2.out)
  go_wp2_with fail
  obtain ⟨wz, hwz, XZ, tZ⟩ := fin15 (.int .u8 kd) (.int .i64 ss) (.int .i64 nm) (.int .u8 kind) (.int .i64 request) (.string ⟨item.toArray⟩) (.int .i64 qty) (.int .i64 day) (.int .i64 days) (.int .i64 rank) (.int .i64 lot) (.int .i64 line) (.slice PA Pn Pc) (.slice OA On Oc) (.slice FA Fn Fc) XR.out
  rw [hwz]
  clear hwz
  obtain ⟨e0, e1, e2, e3, e4, e5, e6, e7, e8, e9, e10, e11, e12, e13, e14⟩ := XZ.cells15
  refine bodyPost_ret (v := .tuple #[.agg #[.int .u8 kd, .int .i64 ss, .int .i64 nm, .int .u8 kind, .int .i64 request, .string ⟨item.toArray⟩, .int .i64 qty, .int .i64 day, .int .i64 days, .int .i64 rank, .int .i64 lot, .int .i64 line, .slice PA Pn Pc, .slice OA On Oc, .slice FA Fn Fc], .int .i64 0]) (by simp [results, Tryz.results10, go_sem, e0, e1, e2, e3, e4, e5, e6, e7, e8, e9, e10, e11, e12, e13, e14]) rfl ?_
  unfold LnPost
  rw [hr.out]
  exact ⟨⟨⟨PA, Pn, Pc⟩, ⟨OA, On, Oc⟩⟩, ⟨FA, Fn, Fc⟩, rfl, (by
   have h7 := O3.out.blk XR.out tZ (fun i e => e)
   have h8 := B2.out
   exact ⟨⟨h7.ask.parts, h7.ask.others, fun i e => by have := h7.ask.pB i e; omega, fun i e => by have := h7.ask.oB i e; omega⟩, h7.fates, fun i e => by have := h7.fB i e; omega⟩), K2.out, T3.out.trans tZ (fun _ e => e) (fun i e => .inr (by subst e; omega))⟩
set_option maxRecDepth 100000 in
set_option maxHeartbeats 4000000 in
theorem linesSteps_any (s : ByteArray) (w : World) (h : LnVars w) : Calls Tryz.prog 3 #[.string s] w (OkNew w) := by
 have hA := hZ (fun (W : World) (d : Turned (fun _ => False) w W) => awake31_any W (h.vars.turned d) (h.kinds.fresh d) (h.verbs.fresh d))
 have hl := hZ (fun (w' : World) (hz : s.size ≤ 9223372036854775807) (t : Turned (fun _ => False) w w') => line_any s w' (h.vars.turned t) (h.kinds.fresh t) (h.verbs.fresh t) hz)
 clear h
 go_enter Tryz.func3, Tryz.ntmps3
 by_cases hbig : 20000 < s.size
 ·have hbi : (20000 : Int) < (s.size : Int) := by omega
  go_wp2_with fail
  refine (hA.out w (Turned.refl _ w)).mono ?_
  rintro e w1 ⟨rfl, t1⟩
  have T1 := hZ t1
  clear t1 hA
  go_wp2_with fail
  go_ret
  exact ⟨rfl, T1.out⟩
 have hbi : ¬ (20000 : Int) < (s.size : Int) := by omega
 have hb2 : s.size ≤ 20000 := by omega
 clear hbig
 obtain ⟨LR, hLR0⟩ : ∃ LR, lineRes s.data.toList = LR := ⟨_, rfl⟩
 have hLR := hZ hLR0
 clear hLR0
 obtain ⟨⟨kd, ss, nm, ⟨kind, request, item, qty, day, days, rank, lot, line, parts, others⟩, fates⟩, er⟩ := LR
 have T0 := hZ (Turned.refl (fun _ => False) w)
 go_wp2_with fail
 refine (hl.out w (by omega) T0.out).mono ?_
 rintro e w1 ⟨S2, F2, rfl, ho, hok, t1⟩
 have T1 := hZ t1
 have I2 := hZ ho.is
 rw [hLR.out] at I2 ⊢
 clear ho hok t1 T0
 obtain ⟨⟨PA, Pn, Pc⟩, ⟨OA, On, Oc⟩⟩ := S2
 obtain ⟨FA, Fn, Fc⟩ := F2
 unfold stpC strV
 simp only
 go_upto_region 4 with fail
 have t2 := (Turned.refl (fun _ => False) w1).alloc (.cells #[.int .u8 kd, .int .i64 ss, .int .i64 nm, .int .u8 kind, .int .i64 request, .string ⟨item.toArray⟩, .int .i64 qty, .int .i64 day, .int .i64 days, .int .i64 rank, .int .i64 lot, .int .i64 line, .slice PA Pn Pc, .slice OA On Oc, .slice FA Fn Fc] 31)
 have BX := hZ (Blk.new w1 31 #[.int .u8 kd, .int .i64 ss, .int .i64 nm, .int .u8 kind, .int .i64 request, .string ⟨item.toArray⟩, .int .i64 qty, .int .i64 day, .int .i64 days, .int .i64 rank, .int .i64 lot, .int .i64 line, .slice PA Pn Pc, .slice OA On Oc, .slice FA Fn Fc])
 have T2 := hZ (T1.out.and_ t2)
 obtain ⟨w2, hw2⟩ : ∃ w2, w2 = w1.alloc (.cells #[.int .u8 kd, .int .i64 ss, .int .i64 nm, .int .u8 kind, .int .i64 request, .string ⟨item.toArray⟩, .int .i64 qty, .int .i64 day, .int .i64 days, .int .i64 rank, .int .i64 lot, .int .i64 line, .slice PA Pn Pc, .slice OA On Oc, .slice FA Fn Fc] 31) := ⟨_, rfl⟩
 rw [← hw2] at BX T2 t2 ⊢
 clear hw2 T1
 generalize w1.heap.size = b1 at *
 have I3 := hZ (I2.out.fresh t2)
 clear I2 t2
 go_wp2_with fail
 refine (rline_any s _ hb2).mono ?_
 rintro e w3 ⟨S4, F4, rfl, ho, hok, t3⟩
 have T3 := hZ (T2.out.and_ t3)
 have I4 := hZ ho.is
 rw [hLR.out] at I4 ⊢
 have I3 := hZ (I3.out.fresh t3)
 have BX := hZ (BX.out.turned t3 (fun e => e))
 clear ho hok t3 T2
 obtain ⟨⟨UA, Un, Uc⟩, ⟨VA, Vn, Vc⟩⟩ := S4
 obtain ⟨GA, Gn, Gc⟩ := F4
 unfold stpC strV
 simp only
 go_upto_region 5 with fail
 have t4 := (Turned.refl (fun _ => False) w3).alloc (.cells #[.int .u8 kd, .int .i64 ss, .int .i64 nm, .int .u8 kind, .int .i64 request, .string ⟨item.toArray⟩, .int .i64 qty, .int .i64 day, .int .i64 days, .int .i64 rank, .int .i64 lot, .int .i64 line, .slice UA Un Uc, .slice VA Vn Vc, .slice GA Gn Gc] 31)
 have BY := hZ (Blk.new w3 31 #[.int .u8 kd, .int .i64 ss, .int .i64 nm, .int .u8 kind, .int .i64 request, .string ⟨item.toArray⟩, .int .i64 qty, .int .i64 day, .int .i64 days, .int .i64 rank, .int .i64 lot, .int .i64 line, .slice UA Un Uc, .slice VA Vn Vc, .slice GA Gn Gc])
 have T4 := hZ (T3.out.and_ t4)
 obtain ⟨w4, hw4⟩ : ∃ w4, w4 = w3.alloc (.cells #[.int .u8 kd, .int .i64 ss, .int .i64 nm, .int .u8 kind, .int .i64 request, .string ⟨item.toArray⟩, .int .i64 qty, .int .i64 day, .int .i64 days, .int .i64 rank, .int .i64 lot, .int .i64 line, .slice UA Un Uc, .slice VA Vn Vc, .slice GA Gn Gc] 31) := ⟨_, rfl⟩
 rw [← hw4] at BY T4 t4 ⊢
 clear hw4 T3
 generalize w3.heap.size = b3 at *
 have I3 := hZ (I3.out.fresh t4)
 have I5 := hZ (I4.out.fresh t4)
 have BX := hZ (BX.out.turned t4 (fun e => e))
 clear I4 t4
 obtain ⟨c0, c1, c2, c3, c4, c5, c6, c7, c8, c9, c10, c11, c12, c13, c14⟩ := BX.out.cells15
 obtain ⟨d0, d1, d2, d3, d4, d5, d6, d7, d8, d9, d10, d11, d12, d13, d14⟩ := BY.out.cells15
 have HS := hZ (sameS_any ⟨kd, ss, nm, ⟨kind, request, item, qty, day, days, rank, lot, line, parts, others⟩, fates⟩ ⟨⟨PA, Pn, Pc⟩, ⟨OA, On, Oc⟩⟩ ⟨⟨UA, Un, Uc⟩, ⟨VA, Vn, Vc⟩⟩ ⟨FA, Fn, Fc⟩ ⟨GA, Gn, Gc⟩ w4 I3.out I5.out)
 unfold stpC strV at HS
 simp only at HS
 have hee : (er == er) = true := by simp
 go_wp2_with fail
 refine HS.out.mono ?_
 rintro e w5 ⟨rfl, t5⟩
 have T5 := hZ (T4.out.and_ t5)
 clear t5 HS BX BY I3 I5 T4 c0 c1 c2 c3 c4 c5 c6 c7 c8 c9 c10 c11 c12 c13 c14 d0 d1 d2 d3 d4 d5 d6 d7 d8 d9 d10 d11 d12 d13 d14
 go_wp2_with fail
 refine (hA.out _ T5.out).mono ?_
 rintro e w6 ⟨rfl, t6⟩
 have T6 := hZ (T5.out.and_ t6)
 clear t6 T5 hA hl
 go_wp2_with fail
 go_ret
 exact ⟨rfl, T6.out⟩
end Go.Proofs.YtglojnmcbochaaaGreatDoor

namespace Go.Proofs.YtglojnmcbochaaaGreatDoor
open Go.RowKit Go.ChangeShapes Go.WideShapes Go.Deep

section
variable {H : Type} {enc : TypeId × Value → H} {P : Program} {w : World} {base : Nat} {spare : Nat → Bool} {held : Bool}

end

structure FatesR (w : World) (B : Nat) (F : Option Addr) (n : Nat) (fs : List Int) : Prop where
 len : fs.length = n
 max : n ≤ 9223372036854775807
 wf : ∀ f ∈ fs, (Lit.int .i64 f).wf = true
 cell : 0 < n → ∃ b off, F = some ⟨b, off, none⟩ ∧ b < B ∧ ∀ j, j < n → w.cell? ⟨b, off + j, none⟩ = some (.int .i64 (fs.getD j 0))
theorem FatesR.none_ (w : World) (B : Nat) : FatesR w B none 0 [] := ⟨rfl, by omega, by simp, fun h => absurd h (by omega)⟩
theorem FatesR.below {w w' : World} {B n : Nat} {F : Option Addr} {fs : List Int} (h : FatesR w B F n fs) (hb : Below B w w') : FatesR w' B F n fs :=
 ⟨h.len, h.max, h.wf, fun hn => by
  obtain ⟨b, off, e, hlt, hc⟩ := h.cell hn
  exact ⟨b, off, e, hlt, fun j hj => (hb.cell (p := ⟨b, off + j, none⟩) hlt).trans (hc j hj)⟩⟩

end Go.Proofs.YtglojnmcbochaaaGreatDoor

namespace Go.Proofs.YtglojnmcbochaaaGreatDoor
open Go.RowKit Go.ChangeShapes Go.WideShapes Go.Deep

end Go.Proofs.YtglojnmcbochaaaGreatDoor

namespace Go.Proofs.YtglojnmcbochaaaGreatDoor
open Go.RowKit Go.ChangeShapes Go.WideShapes Go.Deep
set_option linter.unusedVariables false
set_option linter.unusedSimpArgs false

section
variable {H : Type} {enc : TypeId × Value → H} {w : World} {base : Nat} {spare : Nat → Bool} {held : Bool} {fuel : Nat}
def AskFew (a : AskV) : Prop := a.item.length ≤ 140737488355328 ∧ a.parts.length ≤ 140737488355328 ∧ a.others.length ≤ 140737488355328
def TellFew (t : TellV) : Prop := t.code.length ≤ 140737488355328 ∧ t.lots.length ≤ 140737488355328 ∧ t.uses.length ≤ 140737488355328
end
end Go.Proofs.YtglojnmcbochaaaGreatDoor

namespace Go.Proofs.YtglojnmcbochaaaGreatDoor
open Go.RowKit Go.Maps
set_option linter.unusedVariables false
set_option linter.unusedSimpArgs false

def greatT (t : TaleV) : Bool := decide (1000 < t.ask.item.length + t.ask.parts.length + t.ask.others.length) || (decide (310 < t.tell.lots.length) || (decide (400 < t.tell.uses.length) || decide (1000 < t.tell.code.length)))
theorem TellV.Ok.zero : TellV.zero.Ok := ⟨I64_zero, I64_zero, I64_zero, (by unfold strOk; decide), (by unfold isByte; decide), (by simp [TellV.zero]), (by simp [TellV.zero])⟩
set_option maxRecDepth 100000 in
set_option maxHeartbeats 2000000 in
theorem great31_any (t : TaleV) (SA : AskS) (ST : TellS) (w : World) (hA : AskIs w t.ask SA) (hT : TellIs w t.tell ST) (hf : AskFew t.ask) (hf2 : TellFew t.tell) : Calls Tryz.prog 12 #[.agg (taleC t SA ST)] w (RetNew (.bool (greatT t)) w) := by
 have hg : greatT t = (decide (1000 < (⟨t.ask.item.toArray⟩ : ByteArray).size + SA.P.n + SA.O.n) || (decide (310 < ST.L.n) || (decide (400 < ST.U.n) || decide (1000 < (⟨t.tell.code.toArray⟩ : ByteArray).size)))) := by
  unfold greatT
  rw [hA.parts.len, hA.others.len, SlL.len hT.lots, SlU.len hT.uses]
  rfl
 obtain ⟨f1, f2, f3⟩ := hf
 obtain ⟨f4, f5, f6⟩ := hf2
 have h1 : (⟨t.ask.item.toArray⟩ : ByteArray).size ≤ 140737488355328 := f1
 have h2 : SA.P.n ≤ 140737488355328 := by rw [← hA.parts.len]; exact f2
 have h3 : SA.O.n ≤ 140737488355328 := by rw [← hA.others.len]; exact f3
 have h4 : (⟨t.tell.code.toArray⟩ : ByteArray).size ≤ 140737488355328 := f4
 have h5 : ST.L.n ≤ 140737488355328 := by rw [← SlL.len hT.lots]; exact f5
 have h6 : ST.U.n ≤ 140737488355328 := by rw [← SlU.len hT.uses]; exact f6
 have hg' := hZ hg
 clear hA hT hg f1 f2 f3 f4 f5 f6
 obtain ⟨tk, at_, ses, ⟨yk, yr, yi, yq, yd, yl, ya, yt, yn, yp, yo⟩, ⟨er, id, ty, cd, st, lots, uses⟩⟩ := t
 obtain ⟨⟨MA, Mn, Mc⟩, ⟨NA, Nn, Nc⟩⟩ := SA
 obtain ⟨⟨LA, Ln, Lc⟩, ⟨UA, Un, Uc⟩⟩ := ST
 simp only at h1 h2 h3 h4 h5 h6 hg'
 unfold taleC strV
 simp only
 generalize (⟨yi.toArray⟩ : ByteArray) = str at *
 generalize (⟨cd.toArray⟩ : ByteArray) = str2 at *
 go_enter Tryz.func12, Tryz.ntmps12
 go_wp2
 all_goals
  go_ret
  refine ⟨ret_bool ?_, (Turned.refl _ w).alloc _⟩
  rw [hg'.out, Bool.eq_iff_iff]
  simp only [Bool.or_eq_true, zE, Bool.true_eq, Bool.false_eq_true]
  first
  | exact ⟨fun hh => by omega, fun hh => by omega⟩
  | exact ⟨fun _ => by omega, fun _ => trivial⟩
  | omega
end Go.Proofs.YtglojnmcbochaaaGreatDoor

