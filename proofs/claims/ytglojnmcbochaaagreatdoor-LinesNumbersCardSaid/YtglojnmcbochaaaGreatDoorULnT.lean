/-
 ytglojnmcbochaaagreatdoor: laws and walks on the road to LinesNumbers, joined: LnA LnT. Conditions stand at each theorem.
-/
import Derived.Test.YtglojnmcbochaaaGreatDoorULnQ
import Derived.Test.YtglojnmcbochaaaGreatDoorUAskI
import Derived.Test.YtglojnmcbochaaaGreatDoorULnL
namespace Go.Proofs.YtglojnmcbochaaaGreatDoor
open Go.RowKit Go.Maps
set_option linter.unusedVariables false
set_option linter.unusedSimpArgs false

def lentS (S : AskS) (gq gx : Nat) : AskS := ⟨⟨some ⟨gq, 0, none⟩, S.P.n, S.P.n + 12⟩, ⟨some ⟨gx, 0, none⟩, S.O.n, S.O.n + 12⟩⟩
structure LentIs (w : World) (B : Nat) (a : AskV) (S : AskS) (gq gx : Nat) : Prop where
 q : RowE w 62 2 gq (S.P.n + 12) (S.P.n + 12) (partC (a.parts ++ marksQ 1 12))
 x : RowE w 9 1 gx (S.O.n + 12) (S.O.n + 12) (textC (a.others ++ marksX 1 12))
 b0 : B ≤ gq
 b1 : gq < gx
theorem LentIs.fresh {w w' : World} {B : Nat} {a : AskV} {S : AskS} {gq gx : Nat} (h : LentIs w B a S gq gx) (ht : Turned (fun _ => False) w w') : LentIs w' B a S gq gx :=
 ⟨h.q.fresh ht, h.x.fresh ht, h.b0, h.b1⟩
theorem RowE.slQ {w : World} {T g n m : Nat} {l ms : List (List UInt8 × Int)} (h : RowE w T 2 g m m (partC (l ++ ms))) (hl : l.length = n) (hn : n ≤ m) (hm : m ≤ 1000100) : SlQ w ⟨some ⟨g, 0, none⟩, n, m⟩ l := by
 have hc := h.cut hn
 rw [partC_append, List.take_left' (by rw [partC_length, hl])] at hc
 exact ⟨hc.celR, hl, (fun e => by cases e), hn, by unfold maxLen; show m ≤ _; omega⟩
theorem RowE.slX {w : World} {T g n m : Nat} {l ms : List (List UInt8)} (h : RowE w T 1 g m m (textC (l ++ ms))) (hl : l.length = n) (hn : n ≤ m) (hm : m ≤ 1000100) : SlT w ⟨some ⟨g, 0, none⟩, n, m⟩ l := by
 have hc := h.cut hn
 rw [textC_append, List.take_left' (by rw [textC_length, hl, Nat.mul_one])] at hc
 have hc2 := hc.celR
 rw [Nat.mul_one] at hc2
 exact ⟨hc2, hl, (fun e => by cases e), hn, by unfold maxLen; show m ≤ _; omega⟩
structure SmallS (S : AskS) : Prop where
 p : S.P.n ≤ 1000000
 o : S.O.n ≤ 1000000
theorem LentIs.is {w w0 : World} {B : Nat} {a : AskV} {S : AskS} {gq gx : Nat} (h : LentIs w B a S gq gx) (h0 : AskIs w0 a S) (hs : SmallS S) : AskIs w a (lentS S gq gx) := by
 have a := hs.p; have b := hs.o
 exact ⟨h.q.slQ h0.parts.len (by omega) (by omega), h.x.slX h0.others.len (by omega) (by omega)⟩
def LentAP (a : AskV) (S : AskS) (w : World) (e : Ending) (w' : World) : Prop :=
 ∃ gq gx, e = .returned (.agg (askC a (lentS S gq gx))) ∧ LentIs w' w.heap.size a S gq gx ∧ Turned (fun _ => False) w w'
set_option maxRecDepth 100000 in
set_option maxHeartbeats 4000000 in
theorem lentA_any (a : AskV) (S : AskS) (w : World) (h : AskIs w a S) (hs : SmallS S) : Calls Tryz.prog 31 #[.agg (askC a S)] w (LentAP a S w) := by
 have a1 := hs.p; have a2 := hs.o
 have H := hZ h
 clear h hs
 obtain ⟨kind, request, item, qty, day, days, rank, lot, line, parts, others⟩ := a
 obtain ⟨⟨PA, Pn, Pc⟩, ⟨QA, On, Oc⟩⟩ := S
 simp only at a1 a2
 unfold askC strV
 simp only
 have XB2 := hZ ((Blk.new w 28 #[.int .u8 kind, .int .i64 request, .string ⟨item.toArray⟩, .int .i64 qty, .int .i64 day, .int .i64 days, .int .i64 rank, .int .i64 lot, .int .i64 line, .slice PA Pn Pc, .slice QA On Oc]).alloc (.cells #[.int .u8 0, .int .i64 0, .string ⟨#[]⟩, .int .i64 0, .int .i64 0, .int .i64 0, .int .i64 0, .int .i64 0, .int .i64 0, .slice none 0 0, .slice none 0 0] 28))
 have ZB2 := hZ (Blk.new_at (k := w.heap.size + 1) (w.alloc (.cells #[.int .u8 kind, .int .i64 request, .string ⟨item.toArray⟩, .int .i64 qty, .int .i64 day, .int .i64 days, .int .i64 rank, .int .i64 lot, .int .i64 line, .slice PA Pn Pc, .slice QA On Oc] 28)) 28 #[.int .u8 0, .int .i64 0, .string ⟨#[]⟩, .int .i64 0, .int .i64 0, .int .i64 0, .int .i64 0, .int .i64 0, .int .i64 0, .slice none 0 0, .slice none 0 0] (by simp))
 have T2 := hZ (((Turned.refl (fun _ => False) w).alloc (.cells #[.int .u8 kind, .int .i64 request, .string ⟨item.toArray⟩, .int .i64 qty, .int .i64 day, .int .i64 days, .int .i64 rank, .int .i64 lot, .int .i64 line, .slice PA Pn Pc, .slice QA On Oc] 28)).alloc (.cells #[.int .u8 0, .int .i64 0, .string ⟨#[]⟩, .int .i64 0, .int .i64 0, .int .i64 0, .int .i64 0, .int .i64 0, .int .i64 0, .slice none 0 0, .slice none 0 0] 28))
 go_enter Tryz.func31, Tryz.ntmps31
 go_wp2_with fail
 generalize (w.alloc (.cells #[.int .u8 kind, .int .i64 request, .string ⟨item.toArray⟩, .int .i64 qty, .int .i64 day, .int .i64 days, .int .i64 rank, .int .i64 lot, .int .i64 line, .slice PA Pn Pc, .slice QA On Oc] 28)).alloc (.cells #[.int .u8 0, .int .i64 0, .string ⟨#[]⟩, .int .i64 0, .int .i64 0, .int .i64 0, .int .i64 0, .int .i64 0, .int .i64 0, .slice none 0 0, .slice none 0 0] 28) = w2 at *
 obtain ⟨bx, hbx⟩ : ∃ bx, bx = w.heap.size := ⟨_, rfl⟩
 obtain ⟨bz, hbz⟩ : ∃ bz, bz = w.heap.size + 1 := ⟨_, rfl⟩
 rw [← hbz] at ZB2 ⊢
 rw [← hbx] at XB2 ⊢
 have hne : ¬ bx = bz := by omega
 have hne2 : ¬ bz = bx := by omega
 have hbx0 := hbx
 have hbz0 := hbz
 clear hbx hbz
 have hbx := hZ hbx0
 have hbz := hZ hbz0
 clear hbx0 hbz0
 have s2 : bz < w2.heap.size := ZB2.out.lt
 have hbb : bx < bz := by have := hbx.out; have := hbz.out; omega
 refine (lentQ_any PA Pn Pc parts w2 (H.out.parts.fresh T2.out) a1).mono ?_
 rintro e w3 ⟨gq, rfl, rq, hq, t3⟩
 have T3 := hZ (T2.out.and_ t3)
 have XB3 := XB2.out.turned t3 (fun e => e)
 have ZB3 := ZB2.out.turned t3 (fun e => e)
 have s3 := Nat.lt_of_lt_of_le s2 t3.size
 have rqN : bz < gq := by omega
 have rq := hZ rq
 obtain ⟨x0, x1, x2, x3, x4, x5, x6, x7, x8, x9, x10⟩ := XB3.cells11
 have xf := XB3.frozen
 have tS := ((Turned.refl (fun i => i = bx) w3).setCell (p := ⟨bx, 9, none⟩) (.inl rfl) (.slice (some ⟨gq, 0, none⟩) Pn (Pn + 12)))
 have XB4 : Blk (w3.setCell ⟨bx, 9, none⟩ (.slice (some ⟨gq, 0, none⟩) Pn (Pn + 12))) bx 28 #[.int .u8 kind, .int .i64 request, .string ⟨item.toArray⟩, .int .i64 qty, .int .i64 day, .int .i64 days, .int .i64 rank, .int .i64 lot, .int .i64 line, .slice (some ⟨gq, 0, none⟩) Pn (Pn + 12), .slice QA On Oc] := by
  have h := (XB3.set_ 9 (.slice (some ⟨gq, 0, none⟩) Pn (Pn + 12)))
  simp only [zA, zB, zC] at h
  exact h
 have ZB4 := ZB3.turned tS (fun e => hne2 e)
 have T4 := hZ (T3.out.trans (W := fun _ => False) tS (fun _ e => e) (fun i e => .inr (by have := hbx.out; omega)))
 obtain ⟨y0, y1, y2, y3, y4, y5, y6, y7, y8, y9, y10⟩ := XB4.cells11
 go_wp2_with fail
 have rq := hZ (rq.out.turned tS (fun e => by have := rqN; omega))
 have s4 := Nat.lt_of_lt_of_le s3 tS.size
 generalize (w3.setCell ⟨bx, 9, none⟩ (.slice (some ⟨gq, 0, none⟩) Pn (Pn + 12))) = w4 at *
 clear x0 x1 x2 x3 x4 x5 x6 x7 x8 x9 x10 y0 y1 y2 y3 y4 y5 y6 y7 y8 y9 y10 xf
 clear XB3 ZB3 tS t3 T3 XB2 ZB2 T2
 have XB4 := hZ XB4
 have ZB4 := hZ ZB4
 refine (lentX_any QA On Oc others w4 (H.out.others.fresh T4.out) a2).mono ?_
 rintro e w5 ⟨gx, rfl, rx, hx, t5⟩
 have T5 := hZ (T4.out.and_ t5)
 have XB5 := XB4.out.turned t5 (fun e => e)
 have ZB5 := ZB4.out.turned t5 (fun e => e)
 have s5 := Nat.lt_of_lt_of_le s4 t5.size
 have rxN : bz < gx := by omega
 have hqx : gq < gx := by have := rq.out.lt; omega
 have rq := hZ (rq.out.fresh t5)
 have rx := hZ rx
 obtain ⟨x0, x1, x2, x3, x4, x5, x6, x7, x8, x9, x10⟩ := XB5.cells11
 have xf := XB5.frozen
 have tS := ((Turned.refl (fun i => i = bx) w5).setCell (p := ⟨bx, 10, none⟩) (.inl rfl) (.slice (some ⟨gx, 0, none⟩) On (On + 12)))
 have XB6 : Blk (w5.setCell ⟨bx, 10, none⟩ (.slice (some ⟨gx, 0, none⟩) On (On + 12))) bx 28 #[.int .u8 kind, .int .i64 request, .string ⟨item.toArray⟩, .int .i64 qty, .int .i64 day, .int .i64 days, .int .i64 rank, .int .i64 lot, .int .i64 line, .slice (some ⟨gq, 0, none⟩) Pn (Pn + 12), .slice (some ⟨gx, 0, none⟩) On (On + 12)] := by
  have h := (XB5.set_ 10 (.slice (some ⟨gx, 0, none⟩) On (On + 12)))
  simp only [zA, zB, zC] at h
  exact h
 have ZB6 := ZB5.turned tS (fun e => hne2 e)
 have T6 := hZ (T5.out.trans (W := fun _ => False) tS (fun _ e => e) (fun i e => .inr (by have := hbx.out; omega)))
 obtain ⟨y0, y1, y2, y3, y4, y5, y6, y7, y8, y9, y10⟩ := XB6.cells11
 obtain ⟨z0, z1, z2, z3, z4, z5, z6, z7, z8, z9, z10⟩ := ZB6.cells11
 have zf := ZB6.frozen
 go_wp2_with fail
 have rq := hZ (rq.out.turned tS (fun e => by have := rqN; omega))
 have rx := hZ (rx.out.turned tS (fun e => by have := rxN; omega))
 generalize (w5.setCell ⟨bx, 10, none⟩ (.slice (some ⟨gx, 0, none⟩) On (On + 12))) = w6 at *
 clear x0 x1 x2 x3 x4 x5 x6 x7 x8 x9 x10 y0 y1 y2 y3 y4 y5 y6 y7 y8 y9 y10 xf
 clear z0 z1 z2 z3 z4 z5 z6 z7 z8 z9 z10 zf tS XB5 ZB5 t5
 have tZ := ((((((((((((Turned.refl (fun i => i = bz) w6).setCell (p := ⟨bz, 0, none⟩) (.inl rfl) (.int .u8 kind)).setCell (p := ⟨bz, 1, none⟩) (.inl rfl) (.int .i64 request)).setCell (p := ⟨bz, 2, none⟩) (.inl rfl) (.string ⟨item.toArray⟩)).setCell (p := ⟨bz, 3, none⟩) (.inl rfl) (.int .i64 qty)).setCell (p := ⟨bz, 4, none⟩) (.inl rfl) (.int .i64 day)).setCell (p := ⟨bz, 5, none⟩) (.inl rfl) (.int .i64 days)).setCell (p := ⟨bz, 6, none⟩) (.inl rfl) (.int .i64 rank)).setCell (p := ⟨bz, 7, none⟩) (.inl rfl) (.int .i64 lot)).setCell (p := ⟨bz, 8, none⟩) (.inl rfl) (.int .i64 line)).setCell (p := ⟨bz, 9, none⟩) (.inl rfl) (.slice (some ⟨gq, 0, none⟩) Pn (Pn + 12))).setCell (p := ⟨bz, 10, none⟩) (.inl rfl) (.slice (some ⟨gx, 0, none⟩) On (On + 12)))
 have XZ := Blk.set11 (.int .u8 kind) (.int .i64 request) (.string ⟨item.toArray⟩) (.int .i64 qty) (.int .i64 day) (.int .i64 days) (.int .i64 rank) (.int .i64 lot) (.int .i64 line) (.slice (some ⟨gq, 0, none⟩) Pn (Pn + 12)) (.slice (some ⟨gx, 0, none⟩) On (On + 12)) ZB6
 have TZ := T6.out.trans (W := fun _ => False) tZ (fun _ e => e) (fun i e => .inr (by have := hbz.out; omega))
 have rq := rq.out.turned tZ (fun e => by have := rqN; omega)
 have rx := rx.out.turned tZ (fun e => by have := rxN; omega)
 generalize (((((((((((w6.setCell ⟨bz, 0, none⟩ (.int .u8 kind)).setCell ⟨bz, 1, none⟩ (.int .i64 request)).setCell ⟨bz, 2, none⟩ (.string ⟨item.toArray⟩)).setCell ⟨bz, 3, none⟩ (.int .i64 qty)).setCell ⟨bz, 4, none⟩ (.int .i64 day)).setCell ⟨bz, 5, none⟩ (.int .i64 days)).setCell ⟨bz, 6, none⟩ (.int .i64 rank)).setCell ⟨bz, 7, none⟩ (.int .i64 lot)).setCell ⟨bz, 8, none⟩ (.int .i64 line)).setCell ⟨bz, 9, none⟩ (.slice (some ⟨gq, 0, none⟩) Pn (Pn + 12))).setCell ⟨bz, 10, none⟩ (.slice (some ⟨gx, 0, none⟩) On (On + 12))) = wz at *
 obtain ⟨e0, e1, e2, e3, e4, e5, e6, e7, e8, e9, e10⟩ := XZ.cells11
 refine bodyPost_ret (v := .agg #[.int .u8 kind, .int .i64 request, .string ⟨item.toArray⟩, .int .i64 qty, .int .i64 day, .int .i64 days, .int .i64 rank, .int .i64 lot, .int .i64 line, .slice (some ⟨gq, 0, none⟩) Pn (Pn + 12), .slice (some ⟨gx, 0, none⟩) On (On + 12)]) (by simp [results, Tryz.results31, go_sem, e0, e1, e2, e3, e4, e5, e6, e7, e8, e9, e10]) rfl ?_
 exact ⟨gq, gx, rfl, ⟨rq, rx, by have := hbz.out; omega, hqx⟩, TZ⟩
set_option maxRecDepth 100000 in
set_option maxHeartbeats 4000000 in
theorem keptA_any (a : AskV) (S : AskS) (gq gx B : Nat) (w : World) (h : AskIs w a S) (hl : LentIs w B a S gq gx) (hs : SmallS S) :
  Calls Tryz.prog 43 #[.agg (askC a (lentS S gq gx)), .agg (askC a S)] w (RetNew (.bool true) w) := by
 have a1 := hs.p; have a2 := hs.o
 have HS := hZ (fun (w' : World) (t : Turned (fun _ => False) w w') => sameA_any a (lentS S gq gx) S w' ((hl.fresh t).is h hs) (h.fresh t))
 have HD := hZ (fun (w' : World) (t : Turned (fun _ => False) w w') => keptQ_any S.P.A S.P.n S.P.c gq (S.P.n + 12) a.parts w' (hl.fresh t).q (h.parts.fresh t) a1)
 have HP := hZ (fun (w' : World) (t : Turned (fun _ => False) w w') => keptX_any S.O.A S.O.n S.O.c gx (S.O.n + 12) a.others w' (hl.fresh t).x (h.others.fresh t) a2)
 clear h hl hs
 obtain ⟨kind, request, item, qty, day, days, rank, lot, line, parts, others⟩ := a
 obtain ⟨⟨PA, Pn, Pc⟩, ⟨QA, On, Oc⟩⟩ := S
 unfold askC lentS strV at *
 simp only at HS HD HP ⊢
 have A0 := hZ ((Blk.new w 28 #[.int .u8 kind, .int .i64 request, .string ⟨item.toArray⟩, .int .i64 qty, .int .i64 day, .int .i64 days, .int .i64 rank, .int .i64 lot, .int .i64 line, .slice (some ⟨gq, 0, none⟩) Pn (Pn + 12), .slice (some ⟨gx, 0, none⟩) On (On + 12)]).alloc (.cells #[.int .u8 kind, .int .i64 request, .string ⟨item.toArray⟩, .int .i64 qty, .int .i64 day, .int .i64 days, .int .i64 rank, .int .i64 lot, .int .i64 line, .slice PA Pn Pc, .slice QA On Oc] 28))
 have B0 := hZ (Blk.new_at (k := w.heap.size + 1) (w.alloc (.cells #[.int .u8 kind, .int .i64 request, .string ⟨item.toArray⟩, .int .i64 qty, .int .i64 day, .int .i64 days, .int .i64 rank, .int .i64 lot, .int .i64 line, .slice (some ⟨gq, 0, none⟩) Pn (Pn + 12), .slice (some ⟨gx, 0, none⟩) On (On + 12)] 28)) 28 #[.int .u8 kind, .int .i64 request, .string ⟨item.toArray⟩, .int .i64 qty, .int .i64 day, .int .i64 days, .int .i64 rank, .int .i64 lot, .int .i64 line, .slice PA Pn Pc, .slice QA On Oc] (by simp))
 have t0 := hZ (((Turned.refl (fun _ => False) w).alloc (.cells #[.int .u8 kind, .int .i64 request, .string ⟨item.toArray⟩, .int .i64 qty, .int .i64 day, .int .i64 days, .int .i64 rank, .int .i64 lot, .int .i64 line, .slice (some ⟨gq, 0, none⟩) Pn (Pn + 12), .slice (some ⟨gx, 0, none⟩) On (On + 12)] 28)).alloc (.cells #[.int .u8 kind, .int .i64 request, .string ⟨item.toArray⟩, .int .i64 qty, .int .i64 day, .int .i64 days, .int .i64 rank, .int .i64 lot, .int .i64 line, .slice PA Pn Pc, .slice QA On Oc] 28))
 go_enter Tryz.func43, Tryz.ntmps43
 go_wp2_with fail
 generalize (w.alloc (.cells #[.int .u8 kind, .int .i64 request, .string ⟨item.toArray⟩, .int .i64 qty, .int .i64 day, .int .i64 days, .int .i64 rank, .int .i64 lot, .int .i64 line, .slice (some ⟨gq, 0, none⟩) Pn (Pn + 12), .slice (some ⟨gx, 0, none⟩) On (On + 12)] 28)).alloc (.cells #[.int .u8 kind, .int .i64 request, .string ⟨item.toArray⟩, .int .i64 qty, .int .i64 day, .int .i64 days, .int .i64 rank, .int .i64 lot, .int .i64 line, .slice PA Pn Pc, .slice QA On Oc] 28) = w0 at *
 refine (HS.out w0 t0.out).mono ?_
 rintro e w1 ⟨rfl, t1⟩
 have T1 := hZ (t0.out.and_ t1)
 have A1 := A0.out.turned t1 (fun e => e)
 have B1 := B0.out.turned t1 (fun e => e)
 obtain ⟨c0, c1, c2, c3, c4, c5, c6, c7, c8, c9, c10⟩ := A1.cells11
 obtain ⟨d0, d1, d2, d3, d4, d5, d6, d7, d8, d9, d10⟩ := B1.cells11
 have A1 := hZ A1
 have B1 := hZ B1
 clear A0 B0 t0 t1 HS
 go_wp2_with fail
 refine (HD.out _ T1.out).mono ?_
 rintro e w2 ⟨rfl, t2⟩
 have T2 := hZ (T1.out.and_ t2)
 have A2 := A1.out.turned t2 (fun e => e)
 have B2 := B1.out.turned t2 (fun e => e)
 clear c0 d0 c1 d1 c2 d2 c3 d3 c4 d4 c5 d5 c6 d6 c7 d7 c8 d8 c9 d9 c10 d10 A1 B1 T1 t2 HD
 obtain ⟨c0, c1, c2, c3, c4, c5, c6, c7, c8, c9, c10⟩ := A2.cells11
 obtain ⟨d0, d1, d2, d3, d4, d5, d6, d7, d8, d9, d10⟩ := B2.cells11
 clear A2 B2
 go_wp2_with fail
 refine (HP.out _ T2.out).mono ?_
 rintro e w4 ⟨rfl, t4⟩
 have T4 := hZ (T2.out.and_ t4)
 clear t4 T2
 go_wp2_with fail
 go_ret
 exact ⟨rfl, T4.out⟩
end Go.Proofs.YtglojnmcbochaaaGreatDoor

namespace Go.Proofs.YtglojnmcbochaaaGreatDoor
open Go.RowKit Go.Maps
set_option linter.unusedVariables false
set_option linter.unusedSimpArgs false

theorem Blk.set7 {w : World} {g : Nat} {T : TypeId} {a0 a1 a2 a3 a4 a5 a6 : Value} (v0 v1 v2 v3 v4 v5 v6 : Value) (h : Blk w g T #[a0, a1, a2, a3, a4, a5, a6]) : Blk (((((((w.setCell ⟨g, 0, none⟩ v0).setCell ⟨g, 1, none⟩ v1).setCell ⟨g, 2, none⟩ v2).setCell ⟨g, 3, none⟩ v3).setCell ⟨g, 4, none⟩ v4).setCell ⟨g, 5, none⟩ v5).setCell ⟨g, 6, none⟩ v6) g T #[v0, v1, v2, v3, v4, v5, v6] := by
 have h1 := (((((((h.set_ 0 v0).set_ 1 v1).set_ 2 v2).set_ 3 v3).set_ 4 v4).set_ 5 v5).set_ 6 v6)
 simp only [zA, zB, zC] at h1
 exact h1
def lentT (S : TellS) (gl gu : Nat) : TellS := ⟨⟨some ⟨gl, 0, none⟩, S.L.n, S.L.n + 12⟩, ⟨some ⟨gu, 0, none⟩, S.U.n, S.U.n + 12⟩⟩
structure LentTI (w : World) (B : Nat) (t : TellV) (S : TellS) (gl gu : Nat) : Prop where
 l : RowE w 60 6 gl (S.L.n + 12) (S.L.n + 12) (lotC (t.lots ++ marksL 1 12))
 u : RowE w 64 3 gu (S.U.n + 12) (S.U.n + 12) (useC (t.uses ++ marksU 1 12))
 b0 : B ≤ gl
 b1 : gl < gu
theorem LentTI.fresh {w w' : World} {B : Nat} {t : TellV} {S : TellS} {gl gu : Nat} (h : LentTI w B t S gl gu) (ht : Turned (fun _ => False) w w') : LentTI w' B t S gl gu :=
 ⟨h.l.fresh ht, h.u.fresh ht, h.b0, h.b1⟩
theorem RowE.slL {w : World} {T g n m : Nat} {l ms : List LotV} (h : RowE w T 6 g m m (lotC (l ++ ms))) (hl : l.length = n) (hn : n ≤ m) (hm : m ≤ 1000100) : SlL w ⟨some ⟨g, 0, none⟩, n, m⟩ l := by
 have hc := h.cut hn
 rw [lotC_append, List.take_left' (by rw [lotC_length, hl])] at hc
 exact ⟨hc.celR, (fun e => by cases e), hn, by unfold maxLen; show m ≤ _; omega⟩
theorem RowE.slU {w : World} {T g n m : Nat} {l ms : List UseV} (h : RowE w T 3 g m m (useC (l ++ ms))) (hl : l.length = n) (hn : n ≤ m) (hm : m ≤ 1000100) : SlU w ⟨some ⟨g, 0, none⟩, n, m⟩ l := by
 have hc := h.cut hn
 rw [useC_append, List.take_left' (by rw [useC_length, hl])] at hc
 exact ⟨hc.celR, (fun e => by cases e), hn, by unfold maxLen; show m ≤ _; omega⟩
structure SmallT (S : TellS) : Prop where
 l : S.L.n ≤ 1000000
 u : S.U.n ≤ 1000000
theorem LentTI.is {w w0 : World} {B : Nat} {t : TellV} {S : TellS} {gl gu : Nat} (h : LentTI w B t S gl gu) (h0 : TellIs w0 t S) (hs : SmallT S) : TellIs w t (lentT S gl gu) := by
 have a := hs.l; have b := hs.u
 exact ⟨h.l.slL (SlL.len h0.lots) (by omega) (by omega), h.u.slU (SlU.len h0.uses) (by omega) (by omega)⟩
def LentTeP (t : TellV) (S : TellS) (w : World) (e : Ending) (w' : World) : Prop :=
 ∃ gl gu, e = .returned (.agg (tellC t (lentT S gl gu))) ∧ LentTI w' w.heap.size t S gl gu ∧ Turned (fun _ => False) w w'
set_option maxRecDepth 100000 in
set_option maxHeartbeats 4000000 in
theorem lentTell_any (t : TellV) (S : TellS) (w : World) (h : TellIs w t S) (hs : SmallT S) : Calls Tryz.prog 32 #[.agg (tellC t S)] w (LentTeP t S w) := by
 have a1 := hs.l; have a2 := hs.u
 have H := hZ h
 clear h hs
 obtain ⟨er, id, dy, cd, st, lots, uses⟩ := t
 obtain ⟨⟨LA, Ln, Lc⟩, ⟨UA, Un, Uc⟩⟩ := S
 simp only at a1 a2
 unfold tellC strV
 simp only
 have XB2 := hZ ((Blk.new w 42 #[.int .i64 er, .int .i64 id, .int .i64 dy, .string ⟨cd.toArray⟩, .int .u8 st, .slice LA Ln Lc, .slice UA Un Uc]).alloc (.cells #[.int .i64 0, .int .i64 0, .int .i64 0, .string ⟨#[]⟩, .int .u8 0, .slice none 0 0, .slice none 0 0] 42))
 have ZB2 := hZ (Blk.new_at (k := w.heap.size + 1) (w.alloc (.cells #[.int .i64 er, .int .i64 id, .int .i64 dy, .string ⟨cd.toArray⟩, .int .u8 st, .slice LA Ln Lc, .slice UA Un Uc] 42)) 42 #[.int .i64 0, .int .i64 0, .int .i64 0, .string ⟨#[]⟩, .int .u8 0, .slice none 0 0, .slice none 0 0] (by simp))
 have T2 := hZ (((Turned.refl (fun _ => False) w).alloc (.cells #[.int .i64 er, .int .i64 id, .int .i64 dy, .string ⟨cd.toArray⟩, .int .u8 st, .slice LA Ln Lc, .slice UA Un Uc] 42)).alloc (.cells #[.int .i64 0, .int .i64 0, .int .i64 0, .string ⟨#[]⟩, .int .u8 0, .slice none 0 0, .slice none 0 0] 42))
 go_enter Tryz.func32, Tryz.ntmps32
 go_wp2_with fail
 generalize (w.alloc (.cells #[.int .i64 er, .int .i64 id, .int .i64 dy, .string ⟨cd.toArray⟩, .int .u8 st, .slice LA Ln Lc, .slice UA Un Uc] 42)).alloc (.cells #[.int .i64 0, .int .i64 0, .int .i64 0, .string ⟨#[]⟩, .int .u8 0, .slice none 0 0, .slice none 0 0] 42) = w2 at *
 obtain ⟨bx, hbx⟩ : ∃ bx, bx = w.heap.size := ⟨_, rfl⟩
 obtain ⟨bz, hbz⟩ : ∃ bz, bz = w.heap.size + 1 := ⟨_, rfl⟩
 rw [← hbz] at ZB2 ⊢
 rw [← hbx] at XB2 ⊢
 have hne : ¬ bx = bz := by omega
 have hne2 : ¬ bz = bx := by omega
 have hbx0 := hbx
 have hbz0 := hbz
 clear hbx hbz
 have hbx := hZ hbx0
 have hbz := hZ hbz0
 clear hbx0 hbz0
 have s2 : bz < w2.heap.size := ZB2.out.lt
 have hbb : bx < bz := by have := hbx.out; have := hbz.out; omega
 refine (lentL_any LA Ln Lc lots w2 (SlE.fresh H.out.lots T2.out) a1).mono ?_
 rintro e w3 ⟨gl, rfl, rl, hl, t3⟩
 have T3 := hZ (T2.out.and_ t3)
 have XB3 := XB2.out.turned t3 (fun e => e)
 have ZB3 := ZB2.out.turned t3 (fun e => e)
 have s3 := Nat.lt_of_lt_of_le s2 t3.size
 have rlN : bz < gl := by omega
 have rl := hZ rl
 have x0 : w3.cell? ⟨bx, 0, none⟩ = some (.int .i64 er) := XB3.cell 0
 have x1 : w3.cell? ⟨bx, 1, none⟩ = some (.int .i64 id) := XB3.cell 1
 have x2 : w3.cell? ⟨bx, 2, none⟩ = some (.int .i64 dy) := XB3.cell 2
 have x3 : w3.cell? ⟨bx, 3, none⟩ = some (.string ⟨cd.toArray⟩) := XB3.cell 3
 have x4 : w3.cell? ⟨bx, 4, none⟩ = some (.int .u8 st) := XB3.cell 4
 have x5 : w3.cell? ⟨bx, 5, none⟩ = some (.slice LA Ln Lc) := XB3.cell 5
 have x6 : w3.cell? ⟨bx, 6, none⟩ = some (.slice UA Un Uc) := XB3.cell 6
 have xf := XB3.frozen
 have tS := ((Turned.refl (fun i => i = bx) w3).setCell (p := ⟨bx, 5, none⟩) (.inl rfl) (.slice (some ⟨gl, 0, none⟩) Ln (Ln + 12)))
 have XB4 : Blk (w3.setCell ⟨bx, 5, none⟩ (.slice (some ⟨gl, 0, none⟩) Ln (Ln + 12))) bx 42 #[.int .i64 er, .int .i64 id, .int .i64 dy, .string ⟨cd.toArray⟩, .int .u8 st, .slice (some ⟨gl, 0, none⟩) Ln (Ln + 12), .slice UA Un Uc] := by
  have h := (XB3.set_ 5 (.slice (some ⟨gl, 0, none⟩) Ln (Ln + 12)))
  simp only [zA, zB, zC] at h
  exact h
 have ZB4 := ZB3.turned tS (fun e => hne2 e)
 have T4 := hZ (T3.out.trans (W := fun _ => False) tS (fun _ e => e) (fun i e => .inr (by have := hbx.out; omega)))
 have y0 : (w3.setCell ⟨bx, 5, none⟩ (.slice (some ⟨gl, 0, none⟩) Ln (Ln + 12))).cell? ⟨bx, 0, none⟩ = some (.int .i64 er) := XB4.cell 0
 have y1 : (w3.setCell ⟨bx, 5, none⟩ (.slice (some ⟨gl, 0, none⟩) Ln (Ln + 12))).cell? ⟨bx, 1, none⟩ = some (.int .i64 id) := XB4.cell 1
 have y2 : (w3.setCell ⟨bx, 5, none⟩ (.slice (some ⟨gl, 0, none⟩) Ln (Ln + 12))).cell? ⟨bx, 2, none⟩ = some (.int .i64 dy) := XB4.cell 2
 have y3 : (w3.setCell ⟨bx, 5, none⟩ (.slice (some ⟨gl, 0, none⟩) Ln (Ln + 12))).cell? ⟨bx, 3, none⟩ = some (.string ⟨cd.toArray⟩) := XB4.cell 3
 have y4 : (w3.setCell ⟨bx, 5, none⟩ (.slice (some ⟨gl, 0, none⟩) Ln (Ln + 12))).cell? ⟨bx, 4, none⟩ = some (.int .u8 st) := XB4.cell 4
 have y5 : (w3.setCell ⟨bx, 5, none⟩ (.slice (some ⟨gl, 0, none⟩) Ln (Ln + 12))).cell? ⟨bx, 5, none⟩ = some (.slice (some ⟨gl, 0, none⟩) Ln (Ln + 12)) := XB4.cell 5
 have y6 : (w3.setCell ⟨bx, 5, none⟩ (.slice (some ⟨gl, 0, none⟩) Ln (Ln + 12))).cell? ⟨bx, 6, none⟩ = some (.slice UA Un Uc) := XB4.cell 6
 go_wp2_with fail
 have rl := hZ (rl.out.turned tS (fun e => by have := rlN; omega))
 have s4 := Nat.lt_of_lt_of_le s3 tS.size
 generalize (w3.setCell ⟨bx, 5, none⟩ (.slice (some ⟨gl, 0, none⟩) Ln (Ln + 12))) = w4 at *
 clear x0 x1 x2 x3 x4 x5 x6 y0 y1 y2 y3 y4 y5 y6 xf
 clear XB3 ZB3 tS t3 T3 XB2 ZB2 T2
 have XB4 := hZ XB4
 have ZB4 := hZ ZB4
 refine (lentU_any UA Un Uc uses w4 (SlE.fresh H.out.uses T4.out) a2).mono ?_
 rintro e w5 ⟨gu, rfl, ru, hu, t5⟩
 have T5 := hZ (T4.out.and_ t5)
 have XB5 := XB4.out.turned t5 (fun e => e)
 have ZB5 := ZB4.out.turned t5 (fun e => e)
 have s5 := Nat.lt_of_lt_of_le s4 t5.size
 have ruN : bz < gu := by omega
 have hlu : gl < gu := by have := rl.out.lt; omega
 have rl := hZ (rl.out.fresh t5)
 have ru := hZ ru
 have x0 : w5.cell? ⟨bx, 0, none⟩ = some (.int .i64 er) := XB5.cell 0
 have x1 : w5.cell? ⟨bx, 1, none⟩ = some (.int .i64 id) := XB5.cell 1
 have x2 : w5.cell? ⟨bx, 2, none⟩ = some (.int .i64 dy) := XB5.cell 2
 have x3 : w5.cell? ⟨bx, 3, none⟩ = some (.string ⟨cd.toArray⟩) := XB5.cell 3
 have x4 : w5.cell? ⟨bx, 4, none⟩ = some (.int .u8 st) := XB5.cell 4
 have x5 : w5.cell? ⟨bx, 5, none⟩ = some (.slice (some ⟨gl, 0, none⟩) Ln (Ln + 12)) := XB5.cell 5
 have x6 : w5.cell? ⟨bx, 6, none⟩ = some (.slice UA Un Uc) := XB5.cell 6
 have xf := XB5.frozen
 have tS := ((Turned.refl (fun i => i = bx) w5).setCell (p := ⟨bx, 6, none⟩) (.inl rfl) (.slice (some ⟨gu, 0, none⟩) Un (Un + 12)))
 have XB6 : Blk (w5.setCell ⟨bx, 6, none⟩ (.slice (some ⟨gu, 0, none⟩) Un (Un + 12))) bx 42 #[.int .i64 er, .int .i64 id, .int .i64 dy, .string ⟨cd.toArray⟩, .int .u8 st, .slice (some ⟨gl, 0, none⟩) Ln (Ln + 12), .slice (some ⟨gu, 0, none⟩) Un (Un + 12)] := by
  have h := (XB5.set_ 6 (.slice (some ⟨gu, 0, none⟩) Un (Un + 12)))
  simp only [zA, zB, zC] at h
  exact h
 have ZB6 := ZB5.turned tS (fun e => hne2 e)
 have T6 := hZ (T5.out.trans (W := fun _ => False) tS (fun _ e => e) (fun i e => .inr (by have := hbx.out; omega)))
 have y0 : (w5.setCell ⟨bx, 6, none⟩ (.slice (some ⟨gu, 0, none⟩) Un (Un + 12))).cell? ⟨bx, 0, none⟩ = some (.int .i64 er) := XB6.cell 0
 have y1 : (w5.setCell ⟨bx, 6, none⟩ (.slice (some ⟨gu, 0, none⟩) Un (Un + 12))).cell? ⟨bx, 1, none⟩ = some (.int .i64 id) := XB6.cell 1
 have y2 : (w5.setCell ⟨bx, 6, none⟩ (.slice (some ⟨gu, 0, none⟩) Un (Un + 12))).cell? ⟨bx, 2, none⟩ = some (.int .i64 dy) := XB6.cell 2
 have y3 : (w5.setCell ⟨bx, 6, none⟩ (.slice (some ⟨gu, 0, none⟩) Un (Un + 12))).cell? ⟨bx, 3, none⟩ = some (.string ⟨cd.toArray⟩) := XB6.cell 3
 have y4 : (w5.setCell ⟨bx, 6, none⟩ (.slice (some ⟨gu, 0, none⟩) Un (Un + 12))).cell? ⟨bx, 4, none⟩ = some (.int .u8 st) := XB6.cell 4
 have y5 : (w5.setCell ⟨bx, 6, none⟩ (.slice (some ⟨gu, 0, none⟩) Un (Un + 12))).cell? ⟨bx, 5, none⟩ = some (.slice (some ⟨gl, 0, none⟩) Ln (Ln + 12)) := XB6.cell 5
 have y6 : (w5.setCell ⟨bx, 6, none⟩ (.slice (some ⟨gu, 0, none⟩) Un (Un + 12))).cell? ⟨bx, 6, none⟩ = some (.slice (some ⟨gu, 0, none⟩) Un (Un + 12)) := XB6.cell 6
 have z0 : (w5.setCell ⟨bx, 6, none⟩ (.slice (some ⟨gu, 0, none⟩) Un (Un + 12))).cell? ⟨bz, 0, none⟩ = some (.int .i64 0) := ZB6.cell 0
 have z1 : (w5.setCell ⟨bx, 6, none⟩ (.slice (some ⟨gu, 0, none⟩) Un (Un + 12))).cell? ⟨bz, 1, none⟩ = some (.int .i64 0) := ZB6.cell 1
 have z2 : (w5.setCell ⟨bx, 6, none⟩ (.slice (some ⟨gu, 0, none⟩) Un (Un + 12))).cell? ⟨bz, 2, none⟩ = some (.int .i64 0) := ZB6.cell 2
 have z3 : (w5.setCell ⟨bx, 6, none⟩ (.slice (some ⟨gu, 0, none⟩) Un (Un + 12))).cell? ⟨bz, 3, none⟩ = some (.string ⟨#[]⟩) := ZB6.cell 3
 have z4 : (w5.setCell ⟨bx, 6, none⟩ (.slice (some ⟨gu, 0, none⟩) Un (Un + 12))).cell? ⟨bz, 4, none⟩ = some (.int .u8 0) := ZB6.cell 4
 have z5 : (w5.setCell ⟨bx, 6, none⟩ (.slice (some ⟨gu, 0, none⟩) Un (Un + 12))).cell? ⟨bz, 5, none⟩ = some (.slice none 0 0) := ZB6.cell 5
 have z6 : (w5.setCell ⟨bx, 6, none⟩ (.slice (some ⟨gu, 0, none⟩) Un (Un + 12))).cell? ⟨bz, 6, none⟩ = some (.slice none 0 0) := ZB6.cell 6
 have zf := ZB6.frozen
 go_wp2_with fail
 have rl := hZ (rl.out.turned tS (fun e => by have := rlN; omega))
 have ru := hZ (ru.out.turned tS (fun e => by have := ruN; omega))
 generalize (w5.setCell ⟨bx, 6, none⟩ (.slice (some ⟨gu, 0, none⟩) Un (Un + 12))) = w6 at *
 clear x0 x1 x2 x3 x4 x5 x6 y0 y1 y2 y3 y4 y5 y6 xf
 clear z0 z1 z2 z3 z4 z5 z6 zf tS XB5 ZB5 t5
 have tZ := ((((((((Turned.refl (fun i => i = bz) w6).setCell (p := ⟨bz, 0, none⟩) (.inl rfl) (.int .i64 er)).setCell (p := ⟨bz, 1, none⟩) (.inl rfl) (.int .i64 id)).setCell (p := ⟨bz, 2, none⟩) (.inl rfl) (.int .i64 dy)).setCell (p := ⟨bz, 3, none⟩) (.inl rfl) (.string ⟨cd.toArray⟩)).setCell (p := ⟨bz, 4, none⟩) (.inl rfl) (.int .u8 st)).setCell (p := ⟨bz, 5, none⟩) (.inl rfl) (.slice (some ⟨gl, 0, none⟩) Ln (Ln + 12))).setCell (p := ⟨bz, 6, none⟩) (.inl rfl) (.slice (some ⟨gu, 0, none⟩) Un (Un + 12)))
 have XZ := Blk.set7 (.int .i64 er) (.int .i64 id) (.int .i64 dy) (.string ⟨cd.toArray⟩) (.int .u8 st) (.slice (some ⟨gl, 0, none⟩) Ln (Ln + 12)) (.slice (some ⟨gu, 0, none⟩) Un (Un + 12)) ZB6
 have TZ := T6.out.trans (W := fun _ => False) tZ (fun _ e => e) (fun i e => .inr (by have := hbz.out; omega))
 have rl := rl.out.turned tZ (fun e => by have := rlN; omega)
 have ru := ru.out.turned tZ (fun e => by have := ruN; omega)
 generalize (((((((w6.setCell ⟨bz, 0, none⟩ (.int .i64 er)).setCell ⟨bz, 1, none⟩ (.int .i64 id)).setCell ⟨bz, 2, none⟩ (.int .i64 dy)).setCell ⟨bz, 3, none⟩ (.string ⟨cd.toArray⟩)).setCell ⟨bz, 4, none⟩ (.int .u8 st)).setCell ⟨bz, 5, none⟩ (.slice (some ⟨gl, 0, none⟩) Ln (Ln + 12))).setCell ⟨bz, 6, none⟩ (.slice (some ⟨gu, 0, none⟩) Un (Un + 12))) = wz at *
 have e0 : wz.cell? ⟨bz, 0, none⟩ = some (.int .i64 er) := XZ.cell 0
 have e1 : wz.cell? ⟨bz, 1, none⟩ = some (.int .i64 id) := XZ.cell 1
 have e2 : wz.cell? ⟨bz, 2, none⟩ = some (.int .i64 dy) := XZ.cell 2
 have e3 : wz.cell? ⟨bz, 3, none⟩ = some (.string ⟨cd.toArray⟩) := XZ.cell 3
 have e4 : wz.cell? ⟨bz, 4, none⟩ = some (.int .u8 st) := XZ.cell 4
 have e5 : wz.cell? ⟨bz, 5, none⟩ = some (.slice (some ⟨gl, 0, none⟩) Ln (Ln + 12)) := XZ.cell 5
 have e6 : wz.cell? ⟨bz, 6, none⟩ = some (.slice (some ⟨gu, 0, none⟩) Un (Un + 12)) := XZ.cell 6
 refine bodyPost_ret (v := .agg #[.int .i64 er, .int .i64 id, .int .i64 dy, .string ⟨cd.toArray⟩, .int .u8 st, .slice (some ⟨gl, 0, none⟩) Ln (Ln + 12), .slice (some ⟨gu, 0, none⟩) Un (Un + 12)]) (by simp [results, Tryz.results32, go_sem, e0, e1, e2, e3, e4, e5, e6]) rfl ?_
 exact ⟨gl, gu, rfl, ⟨rl, ru, by have := hbz.out; omega, hlu⟩, TZ⟩
set_option maxRecDepth 100000 in
set_option maxHeartbeats 4000000 in
theorem keptTell_any (t : TellV) (S : TellS) (gl gu B : Nat) (w : World) (h : TellIs w t S) (hl : LentTI w B t S gl gu) (hs : SmallT S) :
  Calls Tryz.prog 44 #[.agg (tellC t (lentT S gl gu)), .agg (tellC t S)] w (RetNew (.bool true) w) := by
 have a1 := hs.l; have a2 := hs.u
 have HS := hZ (fun (w' : World) (x : Turned (fun _ => False) w w') => sameTell_any t (lentT S gl gu) S w' ((hl.fresh x).is h hs) (h.fresh x))
 have HD := hZ (fun (w' : World) (x : Turned (fun _ => False) w w') => keptL_any S.L.A S.L.n S.L.c gl (S.L.n + 12) t.lots w' (hl.fresh x).l (SlE.fresh h.lots x) a1)
 have HP := hZ (fun (w' : World) (x : Turned (fun _ => False) w w') => keptU_any S.U.A S.U.n S.U.c gu (S.U.n + 12) t.uses w' (hl.fresh x).u (SlE.fresh h.uses x) a2)
 clear h hl hs
 obtain ⟨er, id, dy, cd, st, lots, uses⟩ := t
 obtain ⟨⟨LA, Ln, Lc⟩, ⟨UA, Un, Uc⟩⟩ := S
 unfold tellC lentT strV at *
 simp only at HS HD HP ⊢
 have A0 := hZ ((Blk.new w 42 #[.int .i64 er, .int .i64 id, .int .i64 dy, .string ⟨cd.toArray⟩, .int .u8 st, .slice (some ⟨gl, 0, none⟩) Ln (Ln + 12), .slice (some ⟨gu, 0, none⟩) Un (Un + 12)]).alloc (.cells #[.int .i64 er, .int .i64 id, .int .i64 dy, .string ⟨cd.toArray⟩, .int .u8 st, .slice LA Ln Lc, .slice UA Un Uc] 42))
 have B0 := hZ (Blk.new_at (k := w.heap.size + 1) (w.alloc (.cells #[.int .i64 er, .int .i64 id, .int .i64 dy, .string ⟨cd.toArray⟩, .int .u8 st, .slice (some ⟨gl, 0, none⟩) Ln (Ln + 12), .slice (some ⟨gu, 0, none⟩) Un (Un + 12)] 42)) 42 #[.int .i64 er, .int .i64 id, .int .i64 dy, .string ⟨cd.toArray⟩, .int .u8 st, .slice LA Ln Lc, .slice UA Un Uc] (by simp))
 have t0 := hZ (((Turned.refl (fun _ => False) w).alloc (.cells #[.int .i64 er, .int .i64 id, .int .i64 dy, .string ⟨cd.toArray⟩, .int .u8 st, .slice (some ⟨gl, 0, none⟩) Ln (Ln + 12), .slice (some ⟨gu, 0, none⟩) Un (Un + 12)] 42)).alloc (.cells #[.int .i64 er, .int .i64 id, .int .i64 dy, .string ⟨cd.toArray⟩, .int .u8 st, .slice LA Ln Lc, .slice UA Un Uc] 42))
 go_enter Tryz.func44, Tryz.ntmps44
 go_wp2_with fail
 generalize (w.alloc (.cells #[.int .i64 er, .int .i64 id, .int .i64 dy, .string ⟨cd.toArray⟩, .int .u8 st, .slice (some ⟨gl, 0, none⟩) Ln (Ln + 12), .slice (some ⟨gu, 0, none⟩) Un (Un + 12)] 42)).alloc (.cells #[.int .i64 er, .int .i64 id, .int .i64 dy, .string ⟨cd.toArray⟩, .int .u8 st, .slice LA Ln Lc, .slice UA Un Uc] 42) = w0 at *
 refine (HS.out w0 t0.out).mono ?_
 rintro e w1 ⟨rfl, t1⟩
 have T1 := hZ (t0.out.and_ t1)
 have A1 := A0.out.turned t1 (fun e => e)
 have B1 := B0.out.turned t1 (fun e => e)
 have c0 : w1.cell? ⟨w.heap.size, 0, none⟩ = some (.int .i64 er) := A1.cell 0
 have c1 : w1.cell? ⟨w.heap.size, 1, none⟩ = some (.int .i64 id) := A1.cell 1
 have c2 : w1.cell? ⟨w.heap.size, 2, none⟩ = some (.int .i64 dy) := A1.cell 2
 have c3 : w1.cell? ⟨w.heap.size, 3, none⟩ = some (.string ⟨cd.toArray⟩) := A1.cell 3
 have c4 : w1.cell? ⟨w.heap.size, 4, none⟩ = some (.int .u8 st) := A1.cell 4
 have c5 : w1.cell? ⟨w.heap.size, 5, none⟩ = some (.slice (some ⟨gl, 0, none⟩) Ln (Ln + 12)) := A1.cell 5
 have c6 : w1.cell? ⟨w.heap.size, 6, none⟩ = some (.slice (some ⟨gu, 0, none⟩) Un (Un + 12)) := A1.cell 6
 have d0 : w1.cell? ⟨w.heap.size + 1, 0, none⟩ = some (.int .i64 er) := B1.cell 0
 have d1 : w1.cell? ⟨w.heap.size + 1, 1, none⟩ = some (.int .i64 id) := B1.cell 1
 have d2 : w1.cell? ⟨w.heap.size + 1, 2, none⟩ = some (.int .i64 dy) := B1.cell 2
 have d3 : w1.cell? ⟨w.heap.size + 1, 3, none⟩ = some (.string ⟨cd.toArray⟩) := B1.cell 3
 have d4 : w1.cell? ⟨w.heap.size + 1, 4, none⟩ = some (.int .u8 st) := B1.cell 4
 have d5 : w1.cell? ⟨w.heap.size + 1, 5, none⟩ = some (.slice LA Ln Lc) := B1.cell 5
 have d6 : w1.cell? ⟨w.heap.size + 1, 6, none⟩ = some (.slice UA Un Uc) := B1.cell 6
 have A1 := hZ A1
 have B1 := hZ B1
 clear A0 B0 t0 t1 HS
 go_wp2_with fail
 refine (HD.out _ T1.out).mono ?_
 rintro e w2 ⟨rfl, t2⟩
 have T2 := hZ (T1.out.and_ t2)
 have A2 := A1.out.turned t2 (fun e => e)
 have B2 := B1.out.turned t2 (fun e => e)
 clear c0 d0 c1 d1 c2 d2 c3 d3 c4 d4 c5 d5 c6 d6 A1 B1 T1 t2 HD
 have c0 : w2.cell? ⟨w.heap.size, 0, none⟩ = some (.int .i64 er) := A2.cell 0
 have c1 : w2.cell? ⟨w.heap.size, 1, none⟩ = some (.int .i64 id) := A2.cell 1
 have c2 : w2.cell? ⟨w.heap.size, 2, none⟩ = some (.int .i64 dy) := A2.cell 2
 have c3 : w2.cell? ⟨w.heap.size, 3, none⟩ = some (.string ⟨cd.toArray⟩) := A2.cell 3
 have c4 : w2.cell? ⟨w.heap.size, 4, none⟩ = some (.int .u8 st) := A2.cell 4
 have c5 : w2.cell? ⟨w.heap.size, 5, none⟩ = some (.slice (some ⟨gl, 0, none⟩) Ln (Ln + 12)) := A2.cell 5
 have c6 : w2.cell? ⟨w.heap.size, 6, none⟩ = some (.slice (some ⟨gu, 0, none⟩) Un (Un + 12)) := A2.cell 6
 have d0 : w2.cell? ⟨w.heap.size + 1, 0, none⟩ = some (.int .i64 er) := B2.cell 0
 have d1 : w2.cell? ⟨w.heap.size + 1, 1, none⟩ = some (.int .i64 id) := B2.cell 1
 have d2 : w2.cell? ⟨w.heap.size + 1, 2, none⟩ = some (.int .i64 dy) := B2.cell 2
 have d3 : w2.cell? ⟨w.heap.size + 1, 3, none⟩ = some (.string ⟨cd.toArray⟩) := B2.cell 3
 have d4 : w2.cell? ⟨w.heap.size + 1, 4, none⟩ = some (.int .u8 st) := B2.cell 4
 have d5 : w2.cell? ⟨w.heap.size + 1, 5, none⟩ = some (.slice LA Ln Lc) := B2.cell 5
 have d6 : w2.cell? ⟨w.heap.size + 1, 6, none⟩ = some (.slice UA Un Uc) := B2.cell 6
 clear A2 B2
 go_wp2_with fail
 refine (HP.out _ T2.out).mono ?_
 rintro e w4 ⟨rfl, t4⟩
 have T4 := hZ (T2.out.and_ t4)
 clear t4 T2
 go_wp2_with fail
 go_ret
 exact ⟨rfl, T4.out⟩
end Go.Proofs.YtglojnmcbochaaaGreatDoor

