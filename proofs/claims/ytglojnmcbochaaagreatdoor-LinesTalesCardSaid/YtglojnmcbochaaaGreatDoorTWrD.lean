/-
  lines.Tell: a tale's line. Conditions: the library's variables, ask.kinds and lines.verbs hold what their initialisers lay; at most 1000000 parts.
-/
import Derived.Test.YtglojnmcbochaaaGreatDoorTJn
namespace Go.Proofs.YtglojnmcbochaaaGreatDoor
open Go.RowKit Go.Maps
set_option linter.unusedVariables false
set_option linter.unusedSimpArgs false

/-- A tale's cells. -/
def taleC (t : TaleV) (SA : AskS) (ST : TellS) : Array Value :=
  #[.int .u8 t.kind, .int .i64 t.at_, .int .i64 t.session, .int .u8 t.ask.kind, .int .i64 t.ask.request, strV t.ask.item, .int .i64 t.ask.qty, .int .i64 t.ask.day, .int .i64 t.ask.days, .int .i64 t.ask.rank, .int .i64 t.ask.lot, .int .i64 t.ask.line, .slice SA.P.A SA.P.n SA.P.c, .slice SA.O.A SA.O.n SA.O.c, .int .i64 t.tell.err, .int .i64 t.tell.id, .int .i64 t.tell.day, strV t.tell.code, .int .u8 t.tell.state, .slice ST.L.A ST.L.n ST.L.c, .slice ST.U.A ST.U.n ST.U.c]
theorem Blk.cells21 {w : World} {g : Nat} {t : TypeId} {a0 a1 a2 a3 a4 a5 a6 a7 a8 a9 a10 a11 a12 a13 a14 a15 a16 a17 a18 a19 a20 : Value} (h : Blk w g t #[a0, a1, a2, a3, a4, a5, a6, a7, a8, a9, a10, a11, a12, a13, a14, a15, a16, a17, a18, a19, a20]) : w.cell? ⟨g, 0, none⟩ = some a0 ∧ w.cell? ⟨g, 1, none⟩ = some a1 ∧ w.cell? ⟨g, 2, none⟩ = some a2 ∧ w.cell? ⟨g, 3, none⟩ = some a3 ∧ w.cell? ⟨g, 4, none⟩ = some a4 ∧ w.cell? ⟨g, 5, none⟩ = some a5 ∧ w.cell? ⟨g, 6, none⟩ = some a6 ∧ w.cell? ⟨g, 7, none⟩ = some a7 ∧ w.cell? ⟨g, 8, none⟩ = some a8 ∧ w.cell? ⟨g, 9, none⟩ = some a9 ∧ w.cell? ⟨g, 10, none⟩ = some a10 ∧ w.cell? ⟨g, 11, none⟩ = some a11 ∧ w.cell? ⟨g, 12, none⟩ = some a12 ∧ w.cell? ⟨g, 13, none⟩ = some a13 ∧ w.cell? ⟨g, 14, none⟩ = some a14 ∧ w.cell? ⟨g, 15, none⟩ = some a15 ∧ w.cell? ⟨g, 16, none⟩ = some a16 ∧ w.cell? ⟨g, 17, none⟩ = some a17 ∧ w.cell? ⟨g, 18, none⟩ = some a18 ∧ w.cell? ⟨g, 19, none⟩ = some a19 ∧ w.cell? ⟨g, 20, none⟩ = some a20 :=
  ⟨h.cell 0, h.cell 1, h.cell 2, h.cell 3, h.cell 4, h.cell 5, h.cell 6, h.cell 7, h.cell 8, h.cell 9, h.cell 10, h.cell 11, h.cell 12, h.cell 13, h.cell 14, h.cell 15, h.cell 16, h.cell 17, h.cell 18, h.cell 19, h.cell 20⟩
set_option maxRecDepth 100000 in
set_option maxHeartbeats 8000000 in
theorem ltell_any (t : TaleV) (SA : AskS) (ST : TellS) (w : World) (hv0 : VarsOk w) (hK0 : KindsOk w) (hV0 : VerbsOk w) (hA0 : AskIs w t.ask SA) (hT0 : TellIs w t.tell ST) (hok : t.Ok) (hP : t.ask.parts.length ≤ 1000000) :
    Calls Tryz.prog 14 #[.agg (taleC t SA ST)] w (StrNew (toldL t) w) := by
  have hsh := Lib.hid (told_short hok)
  have hln := Lib.hid (told_len hok)
  obtain ⟨tk, at_, ses, ⟨kd, rq, it, qt, dy, dz, rk, lo, ln, parts, others⟩, ⟨er, id, ty, cd, st, lots, uses⟩⟩ := t
  obtain ⟨⟨PA, Pn, Pc⟩, ⟨QA, On, Oc⟩⟩ := SA
  obtain ⟨⟨LA, Ln, Lc⟩, ⟨UA, Un, Uc⟩⟩ := ST
  have hA := Lib.hid hA0
  have hT := Lib.hid hT0
  have hAo := Lib.hid hok.ask
  have hTo := Lib.hid hok.tell
  have hOs := hok.session
  have hOa := hok.at_
  have hkb := hok.kind
  unfold isByte at hkb
  simp only at hkb hOs hOa hP
  have hv := Lib.hid hv0
  have hK := Lib.hid hK0
  have hV := Lib.hid hV0
  clear hA0 hT0 hok hv0 hK0 hV0
  unfold taleC strV
  simp only
  go_enter Tryz.func14, Tryz.ntmps14
  go_upto_region 2 with fail
  have tb := (Turned.refl (fun _ => False) w).alloc (.cells #[.int .u8 tk, .int .i64 at_, .int .i64 ses, .int .u8 kd, .int .i64 rq, .string ⟨it.toArray⟩, .int .i64 qt, .int .i64 dy, .int .i64 dz, .int .i64 rk, .int .i64 lo, .int .i64 ln, .slice PA Pn Pc, .slice QA On Oc, .int .i64 er, .int .i64 id, .int .i64 ty, .string ⟨cd.toArray⟩, .int .u8 st, .slice LA Ln Lc, .slice UA Un Uc] 44)
  have BT0 := Blk.new w 44 #[.int .u8 tk, .int .i64 at_, .int .i64 ses, .int .u8 kd, .int .i64 rq, .string ⟨it.toArray⟩, .int .i64 qt, .int .i64 dy, .int .i64 dz, .int .i64 rk, .int .i64 lo, .int .i64 ln, .slice PA Pn Pc, .slice QA On Oc, .int .i64 er, .int .i64 id, .int .i64 ty, .string ⟨cd.toArray⟩, .int .u8 st, .slice LA Ln Lc, .slice UA Un Uc]
  have tc := (Turned.refl (fun _ => False) (w.alloc (.cells #[.int .u8 tk, .int .i64 at_, .int .i64 ses, .int .u8 kd, .int .i64 rq, .string ⟨it.toArray⟩, .int .i64 qt, .int .i64 dy, .int .i64 dz, .int .i64 rk, .int .i64 lo, .int .i64 ln, .slice PA Pn Pc, .slice QA On Oc, .int .i64 er, .int .i64 id, .int .i64 ty, .string ⟨cd.toArray⟩, .int .u8 st, .slice LA Ln Lc, .slice UA Un Uc] 44))).alloc (.cells #[.slice none 0 0] 82)
  have HB0 : Blk _ (w.heap.size + 1) 82 #[.slice none 0 0] := Blk.new_at (w.alloc (.cells #[.int .u8 tk, .int .i64 at_, .int .i64 ses, .int .u8 kd, .int .i64 rq, .string ⟨it.toArray⟩, .int .i64 qt, .int .i64 dy, .int .i64 dz, .int .i64 rk, .int .i64 lo, .int .i64 ln, .slice PA Pn Pc, .slice QA On Oc, .int .i64 er, .int .i64 id, .int .i64 ty, .string ⟨cd.toArray⟩, .int .u8 st, .slice LA Ln Lc, .slice UA Un Uc] 44)) 82 #[.slice none 0 0] (by simp)
  have t01 := Lib.hid (tb.and_ tc)
  have BT1 := Lib.hid (BT0.turned tc (fun e => e))
  have HW1 := Lib.hid (show WrW _ w.heap.size (w.heap.size + 1) [] from ⟨none, 0, HB0, OwnE.nil _ _ _, fun i e => by cases e⟩)
  have TT1 := Lib.hid (WrT.of t01.out : WrT w.heap.size (w.heap.size + 1) _ _)
  have hz1 := Lib.hid t01.out.size
  obtain ⟨W1, hW1⟩ : ∃ W1, W1 = (w.alloc (.cells #[.int .u8 tk, .int .i64 at_, .int .i64 ses, .int .u8 kd, .int .i64 rq, .string ⟨it.toArray⟩, .int .i64 qt, .int .i64 dy, .int .i64 dz, .int .i64 rk, .int .i64 lo, .int .i64 ln, .slice PA Pn Pc, .slice QA On Oc, .int .i64 er, .int .i64 id, .int .i64 ty, .string ⟨cd.toArray⟩, .int .u8 st, .slice LA Ln Lc, .slice UA Un Uc] 44)).alloc (.cells #[.slice none 0 0] 82) := ⟨_, rfl⟩
  rw [← hW1] at t01 BT1 HW1 TT1 hz1 ⊢
  clear hW1 tb tc HB0 BT0
  obtain ⟨bt, hbt⟩ : ∃ bt, w.heap.size = bt := ⟨_, rfl⟩
  obtain ⟨g, hgg⟩ : ∃ g, bt + 1 = g := ⟨_, rfl⟩
  have hg : w.heap.size ≤ g := by omega
  have hbg : bt ≠ g := by omega
  have e1 : w.heap.size + 1 = g := by omega
  rw [e1] at HW1 TT1
  have BT1 := Lib.hid (show Blk W1 bt _ _ from by rw [← hbt]; exact BT1.out)
  simp only [hbt, hgg]
  clear e1 hbt hgg
  obtain ⟨x0, x1, x2, x3, x4, x5, x6, x7, x8, x9, x10, x11, x12, x13, x14, x15, x16, x17, x18, x19, x20⟩ := BT1.out.cells21
  go_wp2_with fail
  refine (wr_num1 (ws := []) at_ hv.out t01.out hg HW1.out hOa (by simp)).mono ?_
  rintro e W2 ⟨rfl, hw2, tw2⟩
  have HW2 := Lib.hid hw2
  have TT2 := Lib.hid (TT1.out.trans tw2)
  have t02 := Lib.hid (tw2.all t01.out hg)
  have hz2 := Lib.hid (Nat.le_trans hz1.out tw2.size)
  have BT2 := Lib.hid (tw2.blk BT1.out (by decide) hbg)
  clear hw2 tw2 HW1 TT1 t01 hz1 BT1 x0 x1 x2 x3 x4 x5 x6 x7 x8 x9 x10 x11 x12 x13 x14 x15 x16 x17 x18 x19 x20
  obtain ⟨x0, x1, x2, x3, x4, x5, x6, x7, x8, x9, x10, x11, x12, x13, x14, x15, x16, x17, x18, x19, x20⟩ := BT2.out.cells21
  go_upto_region 3 with fail
  have HW2 := Lib.hid (show WrW W2 w.heap.size g [Lib.itoa at_] from HW2.out)
  by_cases n1 : tk = 1
  · subst n1
    go_wp2_with fail
    refine (itoa_any ses _ (hv.out.turned t02.out) hOs).mono ?_
    rintro e W3 ⟨rfl, t3⟩
    have HW3 := Lib.hid (HW2.out.fresh t3)
    have TT3 := Lib.hid (TT2.out.trans (WrT.of t3))
    have t03 := Lib.hid (t02.out.and_ t3)
    have hz3 := Lib.hid (Nat.le_trans hz2.out t3.size)
    have BT3 := Lib.hid (BT2.out.turned t3 (fun e => e))
    clear HW2 TT2 t02 hz2 BT2 x0 x1 x2 x3 x4 x5 x6 x7 x8 x9 x10 x11 x12 x13 x14 x15 x16 x17 x18 x19 x20 t3
    obtain ⟨x0, x1, x2, x3, x4, x5, x6, x7, x8, x9, x10, x11, x12, x13, x14, x15, x16, x17, x18, x19, x20⟩ := BT3.out.cells21
    go_wp2_with fail
    refine (wr_word2 [97, 115, 107, 115] (Lib.itoa ses) HW3.out hz3.out (by (try simp only [List.length_append, List.length_cons, List.length_nil]); omega)).mono ?_
    rintro e W4 ⟨rfl, hw4, tw4⟩
    have HW4 := Lib.hid hw4
    have TT4 := Lib.hid (TT3.out.trans tw4)
    have t04 := Lib.hid (tw4.all t03.out hg)
    have hz4 := Lib.hid (Nat.le_trans hz3.out tw4.size)
    have BT4 := Lib.hid (tw4.blk BT3.out (by decide) hbg)
    clear hw4 tw4 HW3 TT3 t03 hz3 BT3 x0 x1 x2 x3 x4 x5 x6 x7 x8 x9 x10 x11 x12 x13 x14 x15 x16 x17 x18 x19 x20
    obtain ⟨x0, x1, x2, x3, x4, x5, x6, x7, x8, x9, x10, x11, x12, x13, x14, x15, x16, x17, x18, x19, x20⟩ := BT4.out.cells21
    go_wp2_with fail
    refine (wr_asks w g ([Lib.itoa at_] ++ [[97, 115, 107, 115], (Lib.itoa ses)]) ⟨kd, rq, it, qt, dy, dz, rk, lo, ln, parts, others⟩ ⟨⟨PA, Pn, Pc⟩, ⟨QA, On, Oc⟩⟩ W4 hv.out hK.out hV.out t04.out hg HW4.out hA.out hAo.out hP (by simp)).mono ?_
    rintro e W5 ⟨rfl, hw5, tw5⟩
    have HW5 := Lib.hid hw5
    have TT5 := Lib.hid (TT4.out.trans tw5)
    have t05 := Lib.hid (tw5.all t04.out hg)
    have hz5 := Lib.hid (Nat.le_trans hz4.out tw5.size)
    have BT5 := Lib.hid (tw5.blk BT4.out (by decide) hbg)
    clear hw5 tw5 HW4 TT4 t04 hz4 BT4 x0 x1 x2 x3 x4 x5 x6 x7 x8 x9 x10 x11 x12 x13 x14 x15 x16 x17 x18 x19 x20
    obtain ⟨x0, x1, x2, x3, x4, x5, x6, x7, x8, x9, x10, x11, x12, x13, x14, x15, x16, x17, x18, x19, x20⟩ := BT5.out.cells21
    skip
    have hws := Lib.hid (show [Lib.itoa at_] ++ [[97, 115, 107, 115], (Lib.itoa ses)] ++ asksW ⟨kd, rq, it, qt, dy, dz, rk, lo, ln, parts, others⟩ = toldW ⟨1, at_, ses, ⟨kd, rq, it, qt, dy, dz, rk, lo, ln, parts, others⟩, ⟨er, id, ty, cd, st, lots, uses⟩⟩ from by unfold toldW; rw [if_pos rfl]; simp)
    have HX := Lib.hid (show WrW W5 w.heap.size g (toldW ⟨1, at_, ses, ⟨kd, rq, it, qt, dy, dz, rk, lo, ln, parts, others⟩, ⟨er, id, ty, cd, st, lots, uses⟩⟩) from by have := HW5.out; rw [hws.out] at this; exact this)
    clear HW5
    obtain ⟨rA, rc, r1, r2, r3⟩ := HX.out
    obtain ⟨rb, hrA, r4⟩ := r2.some_ (show 0 < (toldW ⟨1, at_, ses, ⟨kd, rq, it, qt, dy, dz, rk, lo, ln, parts, others⟩, ⟨er, id, ty, cd, st, lots, uses⟩⟩).length from by have := hsh.out.2.1; omega)
    subst hrA
    have hst9 := Lib.hid r2.slT
    have y0 : W5.cell? ⟨g, 0, none⟩ = some (.slice (some ⟨rb, 0, none⟩) (toldW ⟨1, at_, ses, ⟨kd, rq, it, qt, dy, dz, rk, lo, ln, parts, others⟩, ⟨er, id, ty, cd, st, lots, uses⟩⟩).length rc) := r1.cell 0
    have hJ := Lib.hid (join_any rb 0 _ rc _ _ hst9.out hsh.out.2.1 (by have := hsh.out.1; omega) (by have := hln.out; omega))
    clear r1 r2 r3 r4 hst9 HX
    generalize (toldW ⟨1, at_, ses, ⟨kd, rq, it, qt, dy, dz, rk, lo, ln, parts, others⟩, ⟨er, id, ty, cd, st, lots, uses⟩⟩).length = nn at *
    go_wp2_with fail
    refine hJ.out.mono ?_
    rintro e W99 ⟨rfl, t99⟩
    have t99h := Lib.hid t99
    clear t99 hJ
    go_wp2_with fail
    go_ret
    exact ⟨rfl, t05.out.and_ t99h.out⟩
  by_cases n2 : tk = 2
  · subst n2
    go_wp2_with fail
    refine (itoa_any ses _ (hv.out.turned t02.out) hOs).mono ?_
    rintro e W3 ⟨rfl, t3⟩
    have HW3 := Lib.hid (HW2.out.fresh t3)
    have TT3 := Lib.hid (TT2.out.trans (WrT.of t3))
    have t03 := Lib.hid (t02.out.and_ t3)
    have hz3 := Lib.hid (Nat.le_trans hz2.out t3.size)
    have BT3 := Lib.hid (BT2.out.turned t3 (fun e => e))
    clear HW2 TT2 t02 hz2 BT2 x0 x1 x2 x3 x4 x5 x6 x7 x8 x9 x10 x11 x12 x13 x14 x15 x16 x17 x18 x19 x20 t3
    obtain ⟨x0, x1, x2, x3, x4, x5, x6, x7, x8, x9, x10, x11, x12, x13, x14, x15, x16, x17, x18, x19, x20⟩ := BT3.out.cells21
    go_wp2_with fail
    refine (wr_word2 [116, 101, 108, 108, 115] (Lib.itoa ses) HW3.out hz3.out (by (try simp only [List.length_append, List.length_cons, List.length_nil]); omega)).mono ?_
    rintro e W4 ⟨rfl, hw4, tw4⟩
    have HW4 := Lib.hid hw4
    have TT4 := Lib.hid (TT3.out.trans tw4)
    have t04 := Lib.hid (tw4.all t03.out hg)
    have hz4 := Lib.hid (Nat.le_trans hz3.out tw4.size)
    have BT4 := Lib.hid (tw4.blk BT3.out (by decide) hbg)
    clear hw4 tw4 HW3 TT3 t03 hz3 BT3 x0 x1 x2 x3 x4 x5 x6 x7 x8 x9 x10 x11 x12 x13 x14 x15 x16 x17 x18 x19 x20
    obtain ⟨x0, x1, x2, x3, x4, x5, x6, x7, x8, x9, x10, x11, x12, x13, x14, x15, x16, x17, x18, x19, x20⟩ := BT4.out.cells21
    go_wp2_with fail
    refine (wr_tells w g ([Lib.itoa at_] ++ [[116, 101, 108, 108, 115], (Lib.itoa ses)]) ⟨er, id, ty, cd, st, lots, uses⟩ ⟨⟨LA, Ln, Lc⟩, ⟨UA, Un, Uc⟩⟩ W4 hv.out t04.out hg HW4.out hT.out hTo.out (by simp)).mono ?_
    rintro e W5 ⟨rfl, hw5, tw5⟩
    have HW5 := Lib.hid hw5
    have TT5 := Lib.hid (TT4.out.trans tw5)
    have t05 := Lib.hid (tw5.all t04.out hg)
    have hz5 := Lib.hid (Nat.le_trans hz4.out tw5.size)
    have BT5 := Lib.hid (tw5.blk BT4.out (by decide) hbg)
    clear hw5 tw5 HW4 TT4 t04 hz4 BT4 x0 x1 x2 x3 x4 x5 x6 x7 x8 x9 x10 x11 x12 x13 x14 x15 x16 x17 x18 x19 x20
    obtain ⟨x0, x1, x2, x3, x4, x5, x6, x7, x8, x9, x10, x11, x12, x13, x14, x15, x16, x17, x18, x19, x20⟩ := BT5.out.cells21
    skip
    have hws := Lib.hid (show [Lib.itoa at_] ++ [[116, 101, 108, 108, 115], (Lib.itoa ses)] ++ tellsW ⟨er, id, ty, cd, st, lots, uses⟩ = toldW ⟨2, at_, ses, ⟨kd, rq, it, qt, dy, dz, rk, lo, ln, parts, others⟩, ⟨er, id, ty, cd, st, lots, uses⟩⟩ from by unfold toldW; rw [if_neg (by simp), if_pos rfl]; simp)
    have HX := Lib.hid (show WrW W5 w.heap.size g (toldW ⟨2, at_, ses, ⟨kd, rq, it, qt, dy, dz, rk, lo, ln, parts, others⟩, ⟨er, id, ty, cd, st, lots, uses⟩⟩) from by have := HW5.out; rw [hws.out] at this; exact this)
    clear HW5
    obtain ⟨rA, rc, r1, r2, r3⟩ := HX.out
    obtain ⟨rb, hrA, r4⟩ := r2.some_ (show 0 < (toldW ⟨2, at_, ses, ⟨kd, rq, it, qt, dy, dz, rk, lo, ln, parts, others⟩, ⟨er, id, ty, cd, st, lots, uses⟩⟩).length from by have := hsh.out.2.1; omega)
    subst hrA
    have hst9 := Lib.hid r2.slT
    have y0 : W5.cell? ⟨g, 0, none⟩ = some (.slice (some ⟨rb, 0, none⟩) (toldW ⟨2, at_, ses, ⟨kd, rq, it, qt, dy, dz, rk, lo, ln, parts, others⟩, ⟨er, id, ty, cd, st, lots, uses⟩⟩).length rc) := r1.cell 0
    have hJ := Lib.hid (join_any rb 0 _ rc _ _ hst9.out hsh.out.2.1 (by have := hsh.out.1; omega) (by have := hln.out; omega))
    clear r1 r2 r3 r4 hst9 HX
    generalize (toldW ⟨2, at_, ses, ⟨kd, rq, it, qt, dy, dz, rk, lo, ln, parts, others⟩, ⟨er, id, ty, cd, st, lots, uses⟩⟩).length = nn at *
    go_wp2_with fail
    refine hJ.out.mono ?_
    rintro e W99 ⟨rfl, t99⟩
    have t99h := Lib.hid t99
    clear t99 hJ
    go_wp2_with fail
    go_ret
    exact ⟨rfl, t05.out.and_ t99h.out⟩
  by_cases n3 : tk = 3
  · subst n3
    go_wp2_with fail
    refine (wr_word1 [100, 111, 119, 110] HW2.out hz2.out (by (try simp only [List.length_append, List.length_cons, List.length_nil]); omega)).mono ?_
    rintro e W3 ⟨rfl, hw3, tw3⟩
    have HW3 := Lib.hid hw3
    have TT3 := Lib.hid (TT2.out.trans tw3)
    have t03 := Lib.hid (tw3.all t02.out hg)
    have hz3 := Lib.hid (Nat.le_trans hz2.out tw3.size)
    have BT3 := Lib.hid (tw3.blk BT2.out (by decide) hbg)
    clear hw3 tw3 HW2 TT2 t02 hz2 BT2 x0 x1 x2 x3 x4 x5 x6 x7 x8 x9 x10 x11 x12 x13 x14 x15 x16 x17 x18 x19 x20
    obtain ⟨x0, x1, x2, x3, x4, x5, x6, x7, x8, x9, x10, x11, x12, x13, x14, x15, x16, x17, x18, x19, x20⟩ := BT3.out.cells21
    skip
    have hws := Lib.hid (show [Lib.itoa at_] ++ [[100, 111, 119, 110]] = toldW ⟨3, at_, ses, ⟨kd, rq, it, qt, dy, dz, rk, lo, ln, parts, others⟩, ⟨er, id, ty, cd, st, lots, uses⟩⟩ from by unfold toldW; rw [if_neg (by simp), if_neg (by simp), if_pos rfl]; simp)
    have HX := Lib.hid (show WrW W3 w.heap.size g (toldW ⟨3, at_, ses, ⟨kd, rq, it, qt, dy, dz, rk, lo, ln, parts, others⟩, ⟨er, id, ty, cd, st, lots, uses⟩⟩) from by have := HW3.out; rw [hws.out] at this; exact this)
    clear HW3
    obtain ⟨rA, rc, r1, r2, r3⟩ := HX.out
    obtain ⟨rb, hrA, r4⟩ := r2.some_ (show 0 < (toldW ⟨3, at_, ses, ⟨kd, rq, it, qt, dy, dz, rk, lo, ln, parts, others⟩, ⟨er, id, ty, cd, st, lots, uses⟩⟩).length from by have := hsh.out.2.1; omega)
    subst hrA
    have hst9 := Lib.hid r2.slT
    have y0 : W3.cell? ⟨g, 0, none⟩ = some (.slice (some ⟨rb, 0, none⟩) (toldW ⟨3, at_, ses, ⟨kd, rq, it, qt, dy, dz, rk, lo, ln, parts, others⟩, ⟨er, id, ty, cd, st, lots, uses⟩⟩).length rc) := r1.cell 0
    have hJ := Lib.hid (join_any rb 0 _ rc _ _ hst9.out hsh.out.2.1 (by have := hsh.out.1; omega) (by have := hln.out; omega))
    clear r1 r2 r3 r4 hst9 HX
    generalize (toldW ⟨3, at_, ses, ⟨kd, rq, it, qt, dy, dz, rk, lo, ln, parts, others⟩, ⟨er, id, ty, cd, st, lots, uses⟩⟩).length = nn at *
    go_wp2_with fail
    refine hJ.out.mono ?_
    rintro e W99 ⟨rfl, t99⟩
    have t99h := Lib.hid t99
    clear t99 hJ
    go_wp2_with fail
    go_ret
    exact ⟨rfl, t03.out.and_ t99h.out⟩
  by_cases n4 : tk = 4
  · subst n4
    go_wp2_with fail
    refine (wr_word1 [111, 112, 101, 110] HW2.out hz2.out (by (try simp only [List.length_append, List.length_cons, List.length_nil]); omega)).mono ?_
    rintro e W3 ⟨rfl, hw3, tw3⟩
    have HW3 := Lib.hid hw3
    have TT3 := Lib.hid (TT2.out.trans tw3)
    have t03 := Lib.hid (tw3.all t02.out hg)
    have hz3 := Lib.hid (Nat.le_trans hz2.out tw3.size)
    have BT3 := Lib.hid (tw3.blk BT2.out (by decide) hbg)
    clear hw3 tw3 HW2 TT2 t02 hz2 BT2 x0 x1 x2 x3 x4 x5 x6 x7 x8 x9 x10 x11 x12 x13 x14 x15 x16 x17 x18 x19 x20
    obtain ⟨x0, x1, x2, x3, x4, x5, x6, x7, x8, x9, x10, x11, x12, x13, x14, x15, x16, x17, x18, x19, x20⟩ := BT3.out.cells21
    skip
    have hws := Lib.hid (show [Lib.itoa at_] ++ [[111, 112, 101, 110]] = toldW ⟨4, at_, ses, ⟨kd, rq, it, qt, dy, dz, rk, lo, ln, parts, others⟩, ⟨er, id, ty, cd, st, lots, uses⟩⟩ from by unfold toldW; rw [if_neg (by simp), if_neg (by simp), if_neg (by simp), if_pos rfl]; simp)
    have HX := Lib.hid (show WrW W3 w.heap.size g (toldW ⟨4, at_, ses, ⟨kd, rq, it, qt, dy, dz, rk, lo, ln, parts, others⟩, ⟨er, id, ty, cd, st, lots, uses⟩⟩) from by have := HW3.out; rw [hws.out] at this; exact this)
    clear HW3
    obtain ⟨rA, rc, r1, r2, r3⟩ := HX.out
    obtain ⟨rb, hrA, r4⟩ := r2.some_ (show 0 < (toldW ⟨4, at_, ses, ⟨kd, rq, it, qt, dy, dz, rk, lo, ln, parts, others⟩, ⟨er, id, ty, cd, st, lots, uses⟩⟩).length from by have := hsh.out.2.1; omega)
    subst hrA
    have hst9 := Lib.hid r2.slT
    have y0 : W3.cell? ⟨g, 0, none⟩ = some (.slice (some ⟨rb, 0, none⟩) (toldW ⟨4, at_, ses, ⟨kd, rq, it, qt, dy, dz, rk, lo, ln, parts, others⟩, ⟨er, id, ty, cd, st, lots, uses⟩⟩).length rc) := r1.cell 0
    have hJ := Lib.hid (join_any rb 0 _ rc _ _ hst9.out hsh.out.2.1 (by have := hsh.out.1; omega) (by have := hln.out; omega))
    clear r1 r2 r3 r4 hst9 HX
    generalize (toldW ⟨4, at_, ses, ⟨kd, rq, it, qt, dy, dz, rk, lo, ln, parts, others⟩, ⟨er, id, ty, cd, st, lots, uses⟩⟩).length = nn at *
    go_wp2_with fail
    refine hJ.out.mono ?_
    rintro e W99 ⟨rfl, t99⟩
    have t99h := Lib.hid t99
    clear t99 hJ
    go_wp2_with fail
    go_ret
    exact ⟨rfl, t03.out.and_ t99h.out⟩
  have g1 : (tk == 1) = false := by simp [n1]
  have g2 : (tk == 2) = false := by simp [n2]
  have g3 : (tk == 3) = false := by simp [n3]
  have g4 : (tk == 4) = false := by simp [n4]
  go_wp2_with fail
  refine (wr_word1 [110, 111, 110, 101] HW2.out hz2.out (by (try simp only [List.length_append, List.length_cons, List.length_nil]); omega)).mono ?_
  rintro e W3 ⟨rfl, hw3, tw3⟩
  have HW3 := Lib.hid hw3
  have TT3 := Lib.hid (TT2.out.trans tw3)
  have t03 := Lib.hid (tw3.all t02.out hg)
  have hz3 := Lib.hid (Nat.le_trans hz2.out tw3.size)
  have BT3 := Lib.hid (tw3.blk BT2.out (by decide) hbg)
  clear hw3 tw3 HW2 TT2 t02 hz2 BT2 x0 x1 x2 x3 x4 x5 x6 x7 x8 x9 x10 x11 x12 x13 x14 x15 x16 x17 x18 x19 x20
  obtain ⟨x0, x1, x2, x3, x4, x5, x6, x7, x8, x9, x10, x11, x12, x13, x14, x15, x16, x17, x18, x19, x20⟩ := BT3.out.cells21
  skip
  have hws := Lib.hid (show [Lib.itoa at_] ++ [[110, 111, 110, 101]] = toldW ⟨tk, at_, ses, ⟨kd, rq, it, qt, dy, dz, rk, lo, ln, parts, others⟩, ⟨er, id, ty, cd, st, lots, uses⟩⟩ from by unfold toldW; simp only; rw [if_neg n1, if_neg n2, if_neg n3, if_neg n4]; simp)
  have HX := Lib.hid (show WrW W3 w.heap.size g (toldW ⟨tk, at_, ses, ⟨kd, rq, it, qt, dy, dz, rk, lo, ln, parts, others⟩, ⟨er, id, ty, cd, st, lots, uses⟩⟩) from by have := HW3.out; rw [hws.out] at this; exact this)
  clear HW3
  obtain ⟨rA, rc, r1, r2, r3⟩ := HX.out
  obtain ⟨rb, hrA, r4⟩ := r2.some_ (show 0 < (toldW ⟨tk, at_, ses, ⟨kd, rq, it, qt, dy, dz, rk, lo, ln, parts, others⟩, ⟨er, id, ty, cd, st, lots, uses⟩⟩).length from by have := hsh.out.2.1; omega)
  subst hrA
  have hst9 := Lib.hid r2.slT
  have y0 : W3.cell? ⟨g, 0, none⟩ = some (.slice (some ⟨rb, 0, none⟩) (toldW ⟨tk, at_, ses, ⟨kd, rq, it, qt, dy, dz, rk, lo, ln, parts, others⟩, ⟨er, id, ty, cd, st, lots, uses⟩⟩).length rc) := r1.cell 0
  have hJ := Lib.hid (join_any rb 0 _ rc _ _ hst9.out hsh.out.2.1 (by have := hsh.out.1; omega) (by have := hln.out; omega))
  clear r1 r2 r3 r4 hst9 HX
  generalize (toldW ⟨tk, at_, ses, ⟨kd, rq, it, qt, dy, dz, rk, lo, ln, parts, others⟩, ⟨er, id, ty, cd, st, lots, uses⟩⟩).length = nn at *
  go_wp2_with fail
  refine hJ.out.mono ?_
  rintro e W99 ⟨rfl, t99⟩
  have t99h := Lib.hid t99
  clear t99 hJ
  go_wp2_with fail
  go_ret
  exact ⟨rfl, t03.out.and_ t99h.out⟩
end Go.Proofs.YtglojnmcbochaaaGreatDoor

