/-
  The document's Step, and LinesSteps: the walks. Conditions: the library's variables, ask.kinds and lines.verbs hold what their initialisers lay.
-/
import Derived.Test.YtglojnmcbochaaaGreatDoorSRfT
import Derived.Test.YtglojnmcbochaaaGreatDoorSRfW
import Derived.Test.YtglojnmcbochaaaGreatDoorSAw3
namespace Go.Proofs.YtglojnmcbochaaaGreatDoor
open Go.RowKit Go.Maps
set_option linter.unusedVariables false
set_option linter.unusedSimpArgs false

theorem rstep_any (s : Sl) (ws : WS) (w : World) (h : SlT w s ws) (hm : ∀ x ∈ ws, lenOk x) (hN : ws.length ≤ 1000000) : Calls Tryz.prog 27 #[.slice s.A s.n s.c] w (RtPost ws w) := by
  match ws, h, hm, hN with
  | [], h, hm, hN => exact rstep_nil s w h.len.symm
  | x :: t, h, hm, hN =>
    have hl := h.len
    simp only [List.length_cons] at hl
    obtain ⟨b, off, hA, _⟩ := h.cells (by omega)
    obtain ⟨A, n, c⟩ := s
    simp only at hA hl
    subst hA
    exact rstep_main b off n c x t w h hm (by simpa using hN)
set_option maxRecDepth 100000 in
set_option maxHeartbeats 4000000 in
theorem rline_any (s : ByteArray) (w : World) (hs : s.size ≤ 20000) : Calls Tryz.prog 10 #[.string s] w (LnPost s.data.toList w) := by
  have TZ := Lib.hid ((Turned.refl (fun _ => False) w).alloc (.cells #[.int .u8 0, .int .i64 0, .int .i64 0, .int .u8 0, .int .i64 0, .string ⟨#[]⟩, .int .i64 0, .int .i64 0, .int .i64 0, .int .i64 0, .int .i64 0, .int .i64 0, .slice none 0 0, .slice none 0 0, .slice none 0 0] 31))
  have XZ0 := Lib.hid (Blk.new w 31 #[.int .u8 0, .int .i64 0, .int .i64 0, .int .u8 0, .int .i64 0, .string ⟨#[]⟩, .int .i64 0, .int .i64 0, .int .i64 0, .int .i64 0, .int .i64 0, .int .i64 0, .slice none 0 0, .slice none 0 0, .slice none 0 0])
  go_enter Tryz.func10, Tryz.ntmps10
  go_upto_region 1 with fail
  obtain ⟨wa, hwa⟩ : ∃ wa, wa = w.alloc (.cells #[.int .u8 0, .int .i64 0, .int .i64 0, .int .u8 0, .int .i64 0, .string ⟨#[]⟩, .int .i64 0, .int .i64 0, .int .i64 0, .int .i64 0, .int .i64 0, .int .i64 0, .slice none 0 0, .slice none 0 0, .slice none 0 0] 31) := ⟨_, rfl⟩
  rw [← hwa] at TZ XZ0 ⊢
  clear hwa
  obtain ⟨br, hbr⟩ : ∃ br, w.heap.size = br := ⟨_, rfl⟩
  rw [hbr] at XZ0 ⊢
  have hwb : w.heap.size ≤ br := by omega
  clear hbr
  have hns : ¬ (1048576 : Int) < (s.size : Int) := by omega
  go_wp2_with fail
  refine (rwords_any s _ (by omega)).mono ?_
  rintro e w1 ⟨A, c, rfl, ho, hb, t1⟩
  have O1 := Lib.hid ho
  have T1 := Lib.hid (TZ.out.and_ t1)
  have XR1 := Lib.hid (XZ0.out.turned t1 (fun e => e))
  clear ho hb t1 TZ XZ0
  have hwl := Lib.hid (words_few s.data.toList)
  have hst := Lib.hid (rstep_any ⟨A, (wordsL s.data.toList).length, c⟩ (wordsL s.data.toList) w1 O1.out.slT (fun x hx => by
    have := (words_mem hx).2.1
    rw [← Lib.size_eq] at this
    unfold lenOk
    omega) (by have := hwl.out; rw [← Lib.size_eq] at this; omega))
  have hres := Lib.hid (show lineRes s.data.toList = (match stepW (wordsL s.data.toList) with
    | some x => (x, 0)
    | none => (StepV.zero, 310)) from by unfold lineRes stepL; rw [if_neg (by rw [← Lib.size_eq]; omega)]; cases stepW (wordsL s.data.toList) <;> rfl)
  generalize (wordsL s.data.toList).length = nw at *
  clear O1 hwl
  go_wp2_with fail
  refine hst.out.mono ?_
  rintro e w2 ⟨x2, S2, F2, b2, rfl, ho2, hok2, heq2, t2⟩
  have O2 := Lib.hid ho2
  have K2 := Lib.hid hok2
  have T2 := Lib.hid (T1.out.and_ t2)
  have XR2 := Lib.hid (XR1.out.turned t2 (fun e => e))
  have B2 := Lib.hid (show w.heap.size ≤ w1.heap.size from T1.out.size)
  have hres2 := Lib.hid (show lineRes s.data.toList = (if b2 then (x2, 0) else (StepV.zero, 310)) from by rw [hres.out, heq2]; cases b2 <;> rfl)
  clear ho2 hok2 heq2 t2 T1 XR1 hst hres
  obtain ⟨kd, ss, nm, ⟨kind, request, item, qty, day, days, rank, lot, line, parts, others⟩, fates⟩ := x2
  obtain ⟨⟨PA, Pn, Pc⟩, ⟨OA, On, Oc⟩⟩ := S2
  obtain ⟨FA, Fn, Fc⟩ := F2
  unfold stpC strV
  simp only
  go_upto_region 4 with fail
  have t3 := (Turned.refl (fun _ => False) w2).alloc (.cells #[.int .u8 kd, .int .i64 ss, .int .i64 nm, .int .u8 kind, .int .i64 request, .string ⟨item.toArray⟩, .int .i64 qty, .int .i64 day, .int .i64 days, .int .i64 rank, .int .i64 lot, .int .i64 line, .slice PA Pn Pc, .slice OA On Oc, .slice FA Fn Fc] 31)
  have BX := Lib.hid (Blk.new w2 31 #[.int .u8 kd, .int .i64 ss, .int .i64 nm, .int .u8 kind, .int .i64 request, .string ⟨item.toArray⟩, .int .i64 qty, .int .i64 day, .int .i64 days, .int .i64 rank, .int .i64 lot, .int .i64 line, .slice PA Pn Pc, .slice OA On Oc, .slice FA Fn Fc])
  obtain ⟨w3, hw3⟩ : ∃ w3, w3 = w2.alloc (.cells #[.int .u8 kd, .int .i64 ss, .int .i64 nm, .int .u8 kind, .int .i64 request, .string ⟨item.toArray⟩, .int .i64 qty, .int .i64 day, .int .i64 days, .int .i64 rank, .int .i64 lot, .int .i64 line, .slice PA Pn Pc, .slice OA On Oc, .slice FA Fn Fc] 31) := ⟨_, rfl⟩
  rw [← hw3] at BX t3 ⊢
  clear hw3
  have T3 := Lib.hid (T2.out.and_ t3)
  have XR := Lib.hid (XR2.out.turned t3 (fun e => e))
  have O3 := Lib.hid (O2.out.fresh t3)
  have hbx : br < w2.heap.size := XR2.out.lt
  clear t3 T2 XR2 O2
  generalize w2.heap.size = bx at *
  obtain ⟨y0, y1, y2, y3, y4, y5, y6, y7, y8, y9, y10, y11, y12, y13, y14⟩ := XR.out.cells15
  have yf := XR.out.frozen
  obtain ⟨c0, c1, c2, c3, c4, c5, c6, c7, c8, c9, c10, c11, c12, c13, c14⟩ := BX.out.cells15
  cases b2 with
  | false =>
    have hr := Lib.hid (show lineRes s.data.toList = (StepV.zero, 310) from hres2.out)
    go_wp2_with fail
    obtain ⟨wz, hwz, XZ, tZ⟩ := fin15 (.int .u8 0) (.int .i64 0) (.int .i64 0) (.int .u8 0) (.int .i64 0) (.string ⟨#[]⟩) (.int .i64 0) (.int .i64 0) (.int .i64 0) (.int .i64 0) (.int .i64 0) (.int .i64 0) (.slice none 0 0) (.slice none 0 0) (.slice none 0 0) XR.out
    rw [hwz]
    clear hwz
    obtain ⟨e0, e1, e2, e3, e4, e5, e6, e7, e8, e9, e10, e11, e12, e13, e14⟩ := XZ.cells15
    refine bodyPost_ret (v := .tuple #[.agg #[.int .u8 0, .int .i64 0, .int .i64 0, .int .u8 0, .int .i64 0, .string ⟨#[]⟩, .int .i64 0, .int .i64 0, .int .i64 0, .int .i64 0, .int .i64 0, .int .i64 0, .slice none 0 0, .slice none 0 0, .slice none 0 0], .int .i64 310]) (by simp [results, Tryz.results10, go_sem, e0, e1, e2, e3, e4, e5, e6, e7, e8, e9, e10, e11, e12, e13, e14]) rfl ?_
    unfold LnPost
    rw [hr.out]
    exact ⟨AskS.nil, Sl.nil, rfl, StpOwn.nil _ _ _ rfl rfl rfl, stp_zero_ok, T3.out.trans tZ (fun _ e => e) (fun i e => .inr (by subst e; omega))⟩
  | true =>
    have hr := Lib.hid (show lineRes s.data.toList = (⟨kd, ss, nm, ⟨kind, request, item, qty, day, days, rank, lot, line, parts, others⟩, fates⟩, 0) from hres2.out)
    go_wp2_with fail
    obtain ⟨wz, hwz, XZ, tZ⟩ := fin15 (.int .u8 kd) (.int .i64 ss) (.int .i64 nm) (.int .u8 kind) (.int .i64 request) (.string ⟨item.toArray⟩) (.int .i64 qty) (.int .i64 day) (.int .i64 days) (.int .i64 rank) (.int .i64 lot) (.int .i64 line) (.slice PA Pn Pc) (.slice OA On Oc) (.slice FA Fn Fc) XR.out
    rw [hwz]
    clear hwz
    obtain ⟨e0, e1, e2, e3, e4, e5, e6, e7, e8, e9, e10, e11, e12, e13, e14⟩ := XZ.cells15
    refine bodyPost_ret (v := .tuple #[.agg #[.int .u8 kd, .int .i64 ss, .int .i64 nm, .int .u8 kind, .int .i64 request, .string ⟨item.toArray⟩, .int .i64 qty, .int .i64 day, .int .i64 days, .int .i64 rank, .int .i64 lot, .int .i64 line, .slice PA Pn Pc, .slice OA On Oc, .slice FA Fn Fc], .int .i64 0]) (by simp [results, Tryz.results10, go_sem, e0, e1, e2, e3, e4, e5, e6, e7, e8, e9, e10, e11, e12, e13, e14]) rfl ?_
    unfold LnPost
    rw [hr.out]
    exact ⟨⟨⟨PA, Pn, Pc⟩, ⟨OA, On, Oc⟩⟩, ⟨FA, Fn, Fc⟩, rfl, (by
      have h7 := O3.out.blk XR.out tZ (fun i e => e)
      have h8 := B2.out
      exact ⟨⟨h7.ask.parts, h7.ask.others, fun i e => by have := h7.ask.pB i e; omega, fun i e => by have := h7.ask.oB i e; omega⟩, h7.fates, fun i e => by have := h7.fB i e; omega⟩), K2.out, T3.out.trans tZ (fun _ e => e) (fun i e => .inr (by subst e; omega))⟩
set_option maxRecDepth 100000 in
set_option maxHeartbeats 4000000 in
theorem linesSteps_any (s : ByteArray) (w : World) (h : LnVars w) : Calls Tryz.prog 3 #[.string s] w (OkNew w) := by
  have hA := Lib.hid (fun (W : World) (d : Turned (fun _ => False) w W) => awake31_any W (h.vars.turned d) (h.kinds.fresh d) (h.verbs.fresh d))
  have hl := Lib.hid (fun (w' : World) (hz : s.size ≤ 9223372036854775807) (t : Turned (fun _ => False) w w') => line_any s w' (h.vars.turned t) (h.kinds.fresh t) (h.verbs.fresh t) hz)
  clear h
  go_enter Tryz.func3, Tryz.ntmps3
  by_cases hbig : 20000 < s.size
  · have hbi : (20000 : Int) < (s.size : Int) := by omega
    go_wp2_with fail
    refine (hA.out w (Turned.refl _ w)).mono ?_
    rintro e w1 ⟨rfl, t1⟩
    have T1 := Lib.hid t1
    clear t1 hA
    go_wp2_with fail
    go_ret
    exact ⟨rfl, T1.out⟩
  have hbi : ¬ (20000 : Int) < (s.size : Int) := by omega
  have hb2 : s.size ≤ 20000 := by omega
  clear hbig
  obtain ⟨LR, hLR0⟩ : ∃ LR, lineRes s.data.toList = LR := ⟨_, rfl⟩
  have hLR := Lib.hid hLR0
  clear hLR0
  obtain ⟨⟨kd, ss, nm, ⟨kind, request, item, qty, day, days, rank, lot, line, parts, others⟩, fates⟩, er⟩ := LR
  have T0 := Lib.hid (Turned.refl (fun _ => False) w)
  go_wp2_with fail
  refine (hl.out w (by omega) T0.out).mono ?_
  rintro e w1 ⟨S2, F2, rfl, ho, hok, t1⟩
  have T1 := Lib.hid t1
  have I2 := Lib.hid ho.is
  rw [hLR.out] at I2 ⊢
  clear ho hok t1 T0
  obtain ⟨⟨PA, Pn, Pc⟩, ⟨OA, On, Oc⟩⟩ := S2
  obtain ⟨FA, Fn, Fc⟩ := F2
  unfold stpC strV
  simp only
  go_upto_region 4 with fail
  have t2 := (Turned.refl (fun _ => False) w1).alloc (.cells #[.int .u8 kd, .int .i64 ss, .int .i64 nm, .int .u8 kind, .int .i64 request, .string ⟨item.toArray⟩, .int .i64 qty, .int .i64 day, .int .i64 days, .int .i64 rank, .int .i64 lot, .int .i64 line, .slice PA Pn Pc, .slice OA On Oc, .slice FA Fn Fc] 31)
  have BX := Lib.hid (Blk.new w1 31 #[.int .u8 kd, .int .i64 ss, .int .i64 nm, .int .u8 kind, .int .i64 request, .string ⟨item.toArray⟩, .int .i64 qty, .int .i64 day, .int .i64 days, .int .i64 rank, .int .i64 lot, .int .i64 line, .slice PA Pn Pc, .slice OA On Oc, .slice FA Fn Fc])
  have T2 := Lib.hid (T1.out.and_ t2)
  obtain ⟨w2, hw2⟩ : ∃ w2, w2 = w1.alloc (.cells #[.int .u8 kd, .int .i64 ss, .int .i64 nm, .int .u8 kind, .int .i64 request, .string ⟨item.toArray⟩, .int .i64 qty, .int .i64 day, .int .i64 days, .int .i64 rank, .int .i64 lot, .int .i64 line, .slice PA Pn Pc, .slice OA On Oc, .slice FA Fn Fc] 31) := ⟨_, rfl⟩
  rw [← hw2] at BX T2 t2 ⊢
  clear hw2 T1
  generalize w1.heap.size = b1 at *
  have I3 := Lib.hid (I2.out.fresh t2)
  clear I2 t2
  go_wp2_with fail
  refine (rline_any s _ hb2).mono ?_
  rintro e w3 ⟨S4, F4, rfl, ho, hok, t3⟩
  have T3 := Lib.hid (T2.out.and_ t3)
  have I4 := Lib.hid ho.is
  rw [hLR.out] at I4 ⊢
  have I3 := Lib.hid (I3.out.fresh t3)
  have BX := Lib.hid (BX.out.turned t3 (fun e => e))
  clear ho hok t3 T2
  obtain ⟨⟨UA, Un, Uc⟩, ⟨VA, Vn, Vc⟩⟩ := S4
  obtain ⟨GA, Gn, Gc⟩ := F4
  unfold stpC strV
  simp only
  go_upto_region 5 with fail
  have t4 := (Turned.refl (fun _ => False) w3).alloc (.cells #[.int .u8 kd, .int .i64 ss, .int .i64 nm, .int .u8 kind, .int .i64 request, .string ⟨item.toArray⟩, .int .i64 qty, .int .i64 day, .int .i64 days, .int .i64 rank, .int .i64 lot, .int .i64 line, .slice UA Un Uc, .slice VA Vn Vc, .slice GA Gn Gc] 31)
  have BY := Lib.hid (Blk.new w3 31 #[.int .u8 kd, .int .i64 ss, .int .i64 nm, .int .u8 kind, .int .i64 request, .string ⟨item.toArray⟩, .int .i64 qty, .int .i64 day, .int .i64 days, .int .i64 rank, .int .i64 lot, .int .i64 line, .slice UA Un Uc, .slice VA Vn Vc, .slice GA Gn Gc])
  have T4 := Lib.hid (T3.out.and_ t4)
  obtain ⟨w4, hw4⟩ : ∃ w4, w4 = w3.alloc (.cells #[.int .u8 kd, .int .i64 ss, .int .i64 nm, .int .u8 kind, .int .i64 request, .string ⟨item.toArray⟩, .int .i64 qty, .int .i64 day, .int .i64 days, .int .i64 rank, .int .i64 lot, .int .i64 line, .slice UA Un Uc, .slice VA Vn Vc, .slice GA Gn Gc] 31) := ⟨_, rfl⟩
  rw [← hw4] at BY T4 t4 ⊢
  clear hw4 T3
  generalize w3.heap.size = b3 at *
  have I3 := Lib.hid (I3.out.fresh t4)
  have I5 := Lib.hid (I4.out.fresh t4)
  have BX := Lib.hid (BX.out.turned t4 (fun e => e))
  clear I4 t4
  obtain ⟨c0, c1, c2, c3, c4, c5, c6, c7, c8, c9, c10, c11, c12, c13, c14⟩ := BX.out.cells15
  obtain ⟨d0, d1, d2, d3, d4, d5, d6, d7, d8, d9, d10, d11, d12, d13, d14⟩ := BY.out.cells15
  have HS := Lib.hid (sameS_any ⟨kd, ss, nm, ⟨kind, request, item, qty, day, days, rank, lot, line, parts, others⟩, fates⟩ ⟨⟨PA, Pn, Pc⟩, ⟨OA, On, Oc⟩⟩ ⟨⟨UA, Un, Uc⟩, ⟨VA, Vn, Vc⟩⟩ ⟨FA, Fn, Fc⟩ ⟨GA, Gn, Gc⟩ w4 I3.out I5.out)
  unfold stpC strV at HS
  simp only at HS
  have hee : (er == er) = true := by simp
  go_wp2_with fail
  refine HS.out.mono ?_
  rintro e w5 ⟨rfl, t5⟩
  have T5 := Lib.hid (T4.out.and_ t5)
  clear t5 HS BX BY I3 I5 T4 c0 c1 c2 c3 c4 c5 c6 c7 c8 c9 c10 c11 c12 c13 c14 d0 d1 d2 d3 d4 d5 d6 d7 d8 d9 d10 d11 d12 d13 d14
  go_wp2_with fail
  refine (hA.out _ T5.out).mono ?_
  rintro e w6 ⟨rfl, t6⟩
  have T6 := Lib.hid (T5.out.and_ t6)
  clear t6 T5 hA hl
  go_wp2_with fail
  go_ret
  exact ⟨rfl, T6.out⟩
end Go.Proofs.YtglojnmcbochaaaGreatDoor

