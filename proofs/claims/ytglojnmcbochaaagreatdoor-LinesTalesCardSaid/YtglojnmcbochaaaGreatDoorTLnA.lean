/-
  What the statements share: a command that is lent, with marks behind the end of each of its lists. Conditions: at most 1000000 of each.
-/
import Derived.Test.YtglojnmcbochaaaGreatDoorTLnQ
import Derived.Test.YtglojnmcbochaaaGreatDoorTAskI
namespace Go.Proofs.YtglojnmcbochaaaGreatDoor
open Go.RowKit Go.Maps
set_option linter.unusedVariables false
set_option linter.unusedSimpArgs false

/-- The slices of a command that is lent. -/
def lentS (S : AskS) (gq gx : Nat) : AskS := ⟨⟨some ⟨gq, 0, none⟩, S.P.n, S.P.n + 12⟩, ⟨some ⟨gx, 0, none⟩, S.O.n, S.O.n + 12⟩⟩
structure LentIs (w : World) (B : Nat) (a : AskV) (S : AskS) (gq gx : Nat) : Prop where
  q : RowE w 62 2 gq (S.P.n + 12) (S.P.n + 12) (partC (a.parts ++ marksQ 1 12))
  x : RowE w 9 1 gx (S.O.n + 12) (S.O.n + 12) (textC (a.others ++ marksX 1 12))
  b0 : B ≤ gq
  b1 : gq < gx
theorem LentIs.fresh {w w' : World} {B : Nat} {a : AskV} {S : AskS} {gq gx : Nat} (h : LentIs w B a S gq gx) (ht : Turned (fun _ => False) w w') : LentIs w' B a S gq gx :=
  ⟨h.q.fresh ht, h.x.fresh ht, h.b0, h.b1⟩
theorem RowE.slQ {w : World} {T g n m : Nat} {l ms : List (List UInt8 × Int)} (h : RowE w T 2 g m m (partC (l ++ ms))) (hl : l.length = n) (hn : n ≤ m) (hm : m ≤ 1000100) : SlQ w ⟨some ⟨g, 0, none⟩, n, m⟩ l := by
  have hc := h.cut hn
  rw [partC_append, List.take_left' (by rw [partC_length, hl])] at hc
  exact ⟨hc.celR, hl, (fun e => by cases e), hn, by unfold maxLen; show m ≤ _; omega⟩
theorem RowE.slX {w : World} {T g n m : Nat} {l ms : List (List UInt8)} (h : RowE w T 1 g m m (textC (l ++ ms))) (hl : l.length = n) (hn : n ≤ m) (hm : m ≤ 1000100) : SlT w ⟨some ⟨g, 0, none⟩, n, m⟩ l := by
  have hc := h.cut hn
  rw [textC_append, List.take_left' (by rw [textC_length, hl, Nat.mul_one])] at hc
  have hc2 := hc.celR
  rw [Nat.mul_one] at hc2
  exact ⟨hc2, hl, (fun e => by cases e), hn, by unfold maxLen; show m ≤ _; omega⟩
structure SmallS (S : AskS) : Prop where
  p : S.P.n ≤ 1000000
  o : S.O.n ≤ 1000000
theorem LentIs.is {w w0 : World} {B : Nat} {a : AskV} {S : AskS} {gq gx : Nat} (h : LentIs w B a S gq gx) (h0 : AskIs w0 a S) (hs : SmallS S) : AskIs w a (lentS S gq gx) := by
  have a := hs.p; have b := hs.o
  exact ⟨h.q.slQ h0.parts.len (by omega) (by omega), h.x.slX h0.others.len (by omega) (by omega)⟩
def LentAP (a : AskV) (S : AskS) (w : World) (e : Ending) (w' : World) : Prop :=
  ∃ gq gx, e = .returned (.agg (askC a (lentS S gq gx))) ∧ LentIs w' w.heap.size a S gq gx ∧ Turned (fun _ => False) w w'
set_option maxRecDepth 100000 in
set_option maxHeartbeats 4000000 in
theorem lentA_any (a : AskV) (S : AskS) (w : World) (h : AskIs w a S) (hs : SmallS S) : Calls Tryz.prog 31 #[.agg (askC a S)] w (LentAP a S w) := by
  have a1 := hs.p; have a2 := hs.o
  have H := Lib.hid h
  clear h hs
  obtain ⟨kind, request, item, qty, day, days, rank, lot, line, parts, others⟩ := a
  obtain ⟨⟨PA, Pn, Pc⟩, ⟨QA, On, Oc⟩⟩ := S
  simp only at a1 a2
  unfold askC strV
  simp only
  have XB2 := Lib.hid ((Blk.new w 28 #[.int .u8 kind, .int .i64 request, .string ⟨item.toArray⟩, .int .i64 qty, .int .i64 day, .int .i64 days, .int .i64 rank, .int .i64 lot, .int .i64 line, .slice PA Pn Pc, .slice QA On Oc]).alloc (.cells #[.int .u8 0, .int .i64 0, .string ⟨#[]⟩, .int .i64 0, .int .i64 0, .int .i64 0, .int .i64 0, .int .i64 0, .int .i64 0, .slice none 0 0, .slice none 0 0] 28))
  have ZB2 := Lib.hid (Blk.new_at (k := w.heap.size + 1) (w.alloc (.cells #[.int .u8 kind, .int .i64 request, .string ⟨item.toArray⟩, .int .i64 qty, .int .i64 day, .int .i64 days, .int .i64 rank, .int .i64 lot, .int .i64 line, .slice PA Pn Pc, .slice QA On Oc] 28)) 28 #[.int .u8 0, .int .i64 0, .string ⟨#[]⟩, .int .i64 0, .int .i64 0, .int .i64 0, .int .i64 0, .int .i64 0, .int .i64 0, .slice none 0 0, .slice none 0 0] (by simp))
  have T2 := Lib.hid (((Turned.refl (fun _ => False) w).alloc (.cells #[.int .u8 kind, .int .i64 request, .string ⟨item.toArray⟩, .int .i64 qty, .int .i64 day, .int .i64 days, .int .i64 rank, .int .i64 lot, .int .i64 line, .slice PA Pn Pc, .slice QA On Oc] 28)).alloc (.cells #[.int .u8 0, .int .i64 0, .string ⟨#[]⟩, .int .i64 0, .int .i64 0, .int .i64 0, .int .i64 0, .int .i64 0, .int .i64 0, .slice none 0 0, .slice none 0 0] 28))
  go_enter Tryz.func31, Tryz.ntmps31
  go_wp2_with fail
  generalize (w.alloc (.cells #[.int .u8 kind, .int .i64 request, .string ⟨item.toArray⟩, .int .i64 qty, .int .i64 day, .int .i64 days, .int .i64 rank, .int .i64 lot, .int .i64 line, .slice PA Pn Pc, .slice QA On Oc] 28)).alloc (.cells #[.int .u8 0, .int .i64 0, .string ⟨#[]⟩, .int .i64 0, .int .i64 0, .int .i64 0, .int .i64 0, .int .i64 0, .int .i64 0, .slice none 0 0, .slice none 0 0] 28) = w2 at *
  obtain ⟨bx, hbx⟩ : ∃ bx, bx = w.heap.size := ⟨_, rfl⟩
  obtain ⟨bz, hbz⟩ : ∃ bz, bz = w.heap.size + 1 := ⟨_, rfl⟩
  rw [← hbz] at ZB2 ⊢
  rw [← hbx] at XB2 ⊢
  have hne : ¬ bx = bz := by omega
  have hne2 : ¬ bz = bx := by omega
  have hbx0 := hbx
  have hbz0 := hbz
  clear hbx hbz
  have hbx := Lib.hid hbx0
  have hbz := Lib.hid hbz0
  clear hbx0 hbz0
  have s2 : bz < w2.heap.size := ZB2.out.lt
  have hbb : bx < bz := by have := hbx.out; have := hbz.out; omega
  refine (lentQ_any PA Pn Pc parts w2 (H.out.parts.fresh T2.out) a1).mono ?_
  rintro e w3 ⟨gq, rfl, rq, hq, t3⟩
  have T3 := Lib.hid (T2.out.and_ t3)
  have XB3 := XB2.out.turned t3 (fun e => e)
  have ZB3 := ZB2.out.turned t3 (fun e => e)
  have s3 := Nat.lt_of_lt_of_le s2 t3.size
  have rqN : bz < gq := by omega
  have rq := Lib.hid rq
  obtain ⟨x0, x1, x2, x3, x4, x5, x6, x7, x8, x9, x10⟩ := XB3.cells11
  have xf := XB3.frozen
  have tS := ((Turned.refl (fun i => i = bx) w3).setCell (p := ⟨bx, 9, none⟩) (.inl rfl) (.slice (some ⟨gq, 0, none⟩) Pn (Pn + 12)))
  have XB4 : Blk (w3.setCell ⟨bx, 9, none⟩ (.slice (some ⟨gq, 0, none⟩) Pn (Pn + 12))) bx 28 #[.int .u8 kind, .int .i64 request, .string ⟨item.toArray⟩, .int .i64 qty, .int .i64 day, .int .i64 days, .int .i64 rank, .int .i64 lot, .int .i64 line, .slice (some ⟨gq, 0, none⟩) Pn (Pn + 12), .slice QA On Oc] := by
    have h := (XB3.set_ 9 (.slice (some ⟨gq, 0, none⟩) Pn (Pn + 12)))
    simp only [List.setIfInBounds_toArray, List.set_cons_zero, List.set_cons_succ] at h
    exact h
  have ZB4 := ZB3.turned tS (fun e => hne2 e)
  have T4 := Lib.hid (T3.out.trans (W := fun _ => False) tS (fun _ e => e) (fun i e => .inr (by have := hbx.out; omega)))
  obtain ⟨y0, y1, y2, y3, y4, y5, y6, y7, y8, y9, y10⟩ := XB4.cells11
  go_wp2_with fail
  have rq := Lib.hid (rq.out.turned tS (fun e => by have := rqN; omega))
  have s4 := Nat.lt_of_lt_of_le s3 tS.size
  generalize (w3.setCell ⟨bx, 9, none⟩ (.slice (some ⟨gq, 0, none⟩) Pn (Pn + 12))) = w4 at *
  clear x0 x1 x2 x3 x4 x5 x6 x7 x8 x9 x10 y0 y1 y2 y3 y4 y5 y6 y7 y8 y9 y10 xf
  clear XB3 ZB3 tS t3 T3 XB2 ZB2 T2
  have XB4 := Lib.hid XB4
  have ZB4 := Lib.hid ZB4
  refine (lentX_any QA On Oc others w4 (H.out.others.fresh T4.out) a2).mono ?_
  rintro e w5 ⟨gx, rfl, rx, hx, t5⟩
  have T5 := Lib.hid (T4.out.and_ t5)
  have XB5 := XB4.out.turned t5 (fun e => e)
  have ZB5 := ZB4.out.turned t5 (fun e => e)
  have s5 := Nat.lt_of_lt_of_le s4 t5.size
  have rxN : bz < gx := by omega
  have hqx : gq < gx := by have := rq.out.lt; omega
  have rq := Lib.hid (rq.out.fresh t5)
  have rx := Lib.hid rx
  obtain ⟨x0, x1, x2, x3, x4, x5, x6, x7, x8, x9, x10⟩ := XB5.cells11
  have xf := XB5.frozen
  have tS := ((Turned.refl (fun i => i = bx) w5).setCell (p := ⟨bx, 10, none⟩) (.inl rfl) (.slice (some ⟨gx, 0, none⟩) On (On + 12)))
  have XB6 : Blk (w5.setCell ⟨bx, 10, none⟩ (.slice (some ⟨gx, 0, none⟩) On (On + 12))) bx 28 #[.int .u8 kind, .int .i64 request, .string ⟨item.toArray⟩, .int .i64 qty, .int .i64 day, .int .i64 days, .int .i64 rank, .int .i64 lot, .int .i64 line, .slice (some ⟨gq, 0, none⟩) Pn (Pn + 12), .slice (some ⟨gx, 0, none⟩) On (On + 12)] := by
    have h := (XB5.set_ 10 (.slice (some ⟨gx, 0, none⟩) On (On + 12)))
    simp only [List.setIfInBounds_toArray, List.set_cons_zero, List.set_cons_succ] at h
    exact h
  have ZB6 := ZB5.turned tS (fun e => hne2 e)
  have T6 := Lib.hid (T5.out.trans (W := fun _ => False) tS (fun _ e => e) (fun i e => .inr (by have := hbx.out; omega)))
  obtain ⟨y0, y1, y2, y3, y4, y5, y6, y7, y8, y9, y10⟩ := XB6.cells11
  obtain ⟨z0, z1, z2, z3, z4, z5, z6, z7, z8, z9, z10⟩ := ZB6.cells11
  have zf := ZB6.frozen
  go_wp2_with fail
  have rq := Lib.hid (rq.out.turned tS (fun e => by have := rqN; omega))
  have rx := Lib.hid (rx.out.turned tS (fun e => by have := rxN; omega))
  generalize (w5.setCell ⟨bx, 10, none⟩ (.slice (some ⟨gx, 0, none⟩) On (On + 12))) = w6 at *
  clear x0 x1 x2 x3 x4 x5 x6 x7 x8 x9 x10 y0 y1 y2 y3 y4 y5 y6 y7 y8 y9 y10 xf
  clear z0 z1 z2 z3 z4 z5 z6 z7 z8 z9 z10 zf tS XB5 ZB5 t5
  have tZ := ((((((((((((Turned.refl (fun i => i = bz) w6).setCell (p := ⟨bz, 0, none⟩) (.inl rfl) (.int .u8 kind)).setCell (p := ⟨bz, 1, none⟩) (.inl rfl) (.int .i64 request)).setCell (p := ⟨bz, 2, none⟩) (.inl rfl) (.string ⟨item.toArray⟩)).setCell (p := ⟨bz, 3, none⟩) (.inl rfl) (.int .i64 qty)).setCell (p := ⟨bz, 4, none⟩) (.inl rfl) (.int .i64 day)).setCell (p := ⟨bz, 5, none⟩) (.inl rfl) (.int .i64 days)).setCell (p := ⟨bz, 6, none⟩) (.inl rfl) (.int .i64 rank)).setCell (p := ⟨bz, 7, none⟩) (.inl rfl) (.int .i64 lot)).setCell (p := ⟨bz, 8, none⟩) (.inl rfl) (.int .i64 line)).setCell (p := ⟨bz, 9, none⟩) (.inl rfl) (.slice (some ⟨gq, 0, none⟩) Pn (Pn + 12))).setCell (p := ⟨bz, 10, none⟩) (.inl rfl) (.slice (some ⟨gx, 0, none⟩) On (On + 12)))
  have XZ := Blk.set11 (.int .u8 kind) (.int .i64 request) (.string ⟨item.toArray⟩) (.int .i64 qty) (.int .i64 day) (.int .i64 days) (.int .i64 rank) (.int .i64 lot) (.int .i64 line) (.slice (some ⟨gq, 0, none⟩) Pn (Pn + 12)) (.slice (some ⟨gx, 0, none⟩) On (On + 12)) ZB6
  have TZ := T6.out.trans (W := fun _ => False) tZ (fun _ e => e) (fun i e => .inr (by have := hbz.out; omega))
  have rq := rq.out.turned tZ (fun e => by have := rqN; omega)
  have rx := rx.out.turned tZ (fun e => by have := rxN; omega)
  generalize (((((((((((w6.setCell ⟨bz, 0, none⟩ (.int .u8 kind)).setCell ⟨bz, 1, none⟩ (.int .i64 request)).setCell ⟨bz, 2, none⟩ (.string ⟨item.toArray⟩)).setCell ⟨bz, 3, none⟩ (.int .i64 qty)).setCell ⟨bz, 4, none⟩ (.int .i64 day)).setCell ⟨bz, 5, none⟩ (.int .i64 days)).setCell ⟨bz, 6, none⟩ (.int .i64 rank)).setCell ⟨bz, 7, none⟩ (.int .i64 lot)).setCell ⟨bz, 8, none⟩ (.int .i64 line)).setCell ⟨bz, 9, none⟩ (.slice (some ⟨gq, 0, none⟩) Pn (Pn + 12))).setCell ⟨bz, 10, none⟩ (.slice (some ⟨gx, 0, none⟩) On (On + 12))) = wz at *
  obtain ⟨e0, e1, e2, e3, e4, e5, e6, e7, e8, e9, e10⟩ := XZ.cells11
  refine bodyPost_ret (v := .agg #[.int .u8 kind, .int .i64 request, .string ⟨item.toArray⟩, .int .i64 qty, .int .i64 day, .int .i64 days, .int .i64 rank, .int .i64 lot, .int .i64 line, .slice (some ⟨gq, 0, none⟩) Pn (Pn + 12), .slice (some ⟨gx, 0, none⟩) On (On + 12)]) (by simp [results, Tryz.results31, go_sem, e0, e1, e2, e3, e4, e5, e6, e7, e8, e9, e10]) rfl ?_
  exact ⟨gq, gx, rfl, ⟨rq, rx, by have := hbz.out; omega, hqx⟩, TZ⟩
set_option maxRecDepth 100000 in
set_option maxHeartbeats 4000000 in
theorem keptA_any (a : AskV) (S : AskS) (gq gx B : Nat) (w : World) (h : AskIs w a S) (hl : LentIs w B a S gq gx) (hs : SmallS S) :
    Calls Tryz.prog 43 #[.agg (askC a (lentS S gq gx)), .agg (askC a S)] w (RetNew (.bool true) w) := by
  have a1 := hs.p; have a2 := hs.o
  have HS := Lib.hid (fun (w' : World) (t : Turned (fun _ => False) w w') => sameA_any a (lentS S gq gx) S w' ((hl.fresh t).is h hs) (h.fresh t))
  have HD := Lib.hid (fun (w' : World) (t : Turned (fun _ => False) w w') => keptQ_any S.P.A S.P.n S.P.c gq (S.P.n + 12) a.parts w' (hl.fresh t).q (h.parts.fresh t) a1)
  have HP := Lib.hid (fun (w' : World) (t : Turned (fun _ => False) w w') => keptX_any S.O.A S.O.n S.O.c gx (S.O.n + 12) a.others w' (hl.fresh t).x (h.others.fresh t) a2)
  clear h hl hs
  obtain ⟨kind, request, item, qty, day, days, rank, lot, line, parts, others⟩ := a
  obtain ⟨⟨PA, Pn, Pc⟩, ⟨QA, On, Oc⟩⟩ := S
  unfold askC lentS strV at *
  simp only at HS HD HP ⊢
  have A0 := Lib.hid ((Blk.new w 28 #[.int .u8 kind, .int .i64 request, .string ⟨item.toArray⟩, .int .i64 qty, .int .i64 day, .int .i64 days, .int .i64 rank, .int .i64 lot, .int .i64 line, .slice (some ⟨gq, 0, none⟩) Pn (Pn + 12), .slice (some ⟨gx, 0, none⟩) On (On + 12)]).alloc (.cells #[.int .u8 kind, .int .i64 request, .string ⟨item.toArray⟩, .int .i64 qty, .int .i64 day, .int .i64 days, .int .i64 rank, .int .i64 lot, .int .i64 line, .slice PA Pn Pc, .slice QA On Oc] 28))
  have B0 := Lib.hid (Blk.new_at (k := w.heap.size + 1) (w.alloc (.cells #[.int .u8 kind, .int .i64 request, .string ⟨item.toArray⟩, .int .i64 qty, .int .i64 day, .int .i64 days, .int .i64 rank, .int .i64 lot, .int .i64 line, .slice (some ⟨gq, 0, none⟩) Pn (Pn + 12), .slice (some ⟨gx, 0, none⟩) On (On + 12)] 28)) 28 #[.int .u8 kind, .int .i64 request, .string ⟨item.toArray⟩, .int .i64 qty, .int .i64 day, .int .i64 days, .int .i64 rank, .int .i64 lot, .int .i64 line, .slice PA Pn Pc, .slice QA On Oc] (by simp))
  have t0 := Lib.hid (((Turned.refl (fun _ => False) w).alloc (.cells #[.int .u8 kind, .int .i64 request, .string ⟨item.toArray⟩, .int .i64 qty, .int .i64 day, .int .i64 days, .int .i64 rank, .int .i64 lot, .int .i64 line, .slice (some ⟨gq, 0, none⟩) Pn (Pn + 12), .slice (some ⟨gx, 0, none⟩) On (On + 12)] 28)).alloc (.cells #[.int .u8 kind, .int .i64 request, .string ⟨item.toArray⟩, .int .i64 qty, .int .i64 day, .int .i64 days, .int .i64 rank, .int .i64 lot, .int .i64 line, .slice PA Pn Pc, .slice QA On Oc] 28))
  go_enter Tryz.func43, Tryz.ntmps43
  go_wp2_with fail
  generalize (w.alloc (.cells #[.int .u8 kind, .int .i64 request, .string ⟨item.toArray⟩, .int .i64 qty, .int .i64 day, .int .i64 days, .int .i64 rank, .int .i64 lot, .int .i64 line, .slice (some ⟨gq, 0, none⟩) Pn (Pn + 12), .slice (some ⟨gx, 0, none⟩) On (On + 12)] 28)).alloc (.cells #[.int .u8 kind, .int .i64 request, .string ⟨item.toArray⟩, .int .i64 qty, .int .i64 day, .int .i64 days, .int .i64 rank, .int .i64 lot, .int .i64 line, .slice PA Pn Pc, .slice QA On Oc] 28) = w0 at *
  refine (HS.out w0 t0.out).mono ?_
  rintro e w1 ⟨rfl, t1⟩
  have T1 := Lib.hid (t0.out.and_ t1)
  have A1 := A0.out.turned t1 (fun e => e)
  have B1 := B0.out.turned t1 (fun e => e)
  obtain ⟨c0, c1, c2, c3, c4, c5, c6, c7, c8, c9, c10⟩ := A1.cells11
  obtain ⟨d0, d1, d2, d3, d4, d5, d6, d7, d8, d9, d10⟩ := B1.cells11
  have A1 := Lib.hid A1
  have B1 := Lib.hid B1
  clear A0 B0 t0 t1 HS
  go_wp2_with fail
  refine (HD.out _ T1.out).mono ?_
  rintro e w2 ⟨rfl, t2⟩
  have T2 := Lib.hid (T1.out.and_ t2)
  have A2 := A1.out.turned t2 (fun e => e)
  have B2 := B1.out.turned t2 (fun e => e)
  clear c0 d0 c1 d1 c2 d2 c3 d3 c4 d4 c5 d5 c6 d6 c7 d7 c8 d8 c9 d9 c10 d10 A1 B1 T1 t2 HD
  obtain ⟨c0, c1, c2, c3, c4, c5, c6, c7, c8, c9, c10⟩ := A2.cells11
  obtain ⟨d0, d1, d2, d3, d4, d5, d6, d7, d8, d9, d10⟩ := B2.cells11
  clear A2 B2
  go_wp2_with fail
  refine (HP.out _ T2.out).mono ?_
  rintro e w4 ⟨rfl, t4⟩
  have T4 := Lib.hid (T2.out.and_ t4)
  clear t4 T2
  go_wp2_with fail
  go_ret
  exact ⟨rfl, T4.out⟩
end Go.Proofs.YtglojnmcbochaaaGreatDoor

