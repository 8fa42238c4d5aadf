/-
 The program's reader takes a field of a command: the letters of one word. Conditions: the library's variables hold what their initialisers lay; at most 1000000 words.
-/
import Derived.Test.YtglojnmcbochaaaGreatDoorURdFh
namespace Go.Proofs.YtglojnmcbochaaaGreatDoor
open Go.RowKit Go.Maps
set_option linter.unusedVariables false
set_option linter.unusedSimpArgs false

set_option maxRecDepth 100000 in
set_option maxHeartbeats 4000000 in
theorem field_105 (w0 : World) (B g bx : Nat) (x : AskV) (S : AskS) (ws : WS) (bad : Bool) (W : World) (h : FldW w0 B g bx x S ws bad W) : Calls Tryz.prog 98 #[.pointer (some ⟨g, 0, none⟩), .pointer (some ⟨bx, 0, none⟩), .int .i32 105] W (FldPost w0 B g bx x S ws bad 105 W) := by
 obtain ⟨xk, xr, xi, xq, xd, xl, xa, xt, xn, xp, xo⟩ := x
 obtain ⟨⟨PA, Pn, Pc⟩, ⟨QA, On, Oc⟩⟩ := S
 replace h := hZ h
 have h' := h
 clear h
 have h := h'
 clear h'
 have hd := hZ (show fieldP (⟨xk, xr, xi, xq, xd, xl, xa, xt, xn, xp, xo⟩, ws, bad) 105 = (⟨xk, xr, ws.headD [], xq, xd, xl, xa, xt, xn, xp, xo⟩, ws.tail, bad || ws.isEmpty) from rfl)
 have hv := headD_ok h.out.rd
 have hn := word_any B g ws bad W h.out.rd
 unfold wordPost at hn
 generalize ws.headD [] = hw at *
 have hn := hZ hn
 go_enter Tryz.func98, Tryz.ntmps98
 go_wp2_with fail
 refine hn.out.mono ?_
 rintro e W2 ⟨rfl, R2, t2⟩
 have D2 := hZ (h.out.tk R2 t2 (tail_le ws))
 have t2 := hZ t2
 have e0 := R2
 clear e0 R2
 have b0 : W2.cell? ⟨bx, 2, none⟩ = some (.string ⟨xi.toArray⟩) := D2.out.aa.cell 2
 have f0 := D2.out.aa.frozen 2
 have FI := hZ (D2.out.store (x' := ⟨xk, xr, hw, xq, xd, xl, xa, xt, xn, xp, xo⟩) (S' := ⟨⟨PA, Pn, Pc⟩, ⟨QA, On, Oc⟩⟩) 2 (.string ⟨hw.toArray⟩) rfl ⟨D2.out.own.parts, D2.out.own.others, D2.out.own.pB, D2.out.own.oB⟩ ⟨D2.out.ok.kind, D2.out.ok.request, hv, D2.out.ok.qty, D2.out.ok.day, D2.out.ok.days, D2.out.ok.rank, D2.out.ok.lot, D2.out.ok.line, D2.out.ok.parts, D2.out.ok.others⟩ D2.out.pN D2.out.oN)
 have TI := hZ (turned_gx (bx := bx) ⟨⟨PA, Pn, Pc⟩, ⟨QA, On, Oc⟩⟩ t2.out 2 (.string ⟨hw.toArray⟩))
 clear hn
 go_wp2_with fail
 go_end0
 exact ⟨rfl, FldPost.of hd.out FI.out TI.out (FldM.refl _ _)⟩
set_option maxRecDepth 100000 in
set_option maxHeartbeats 4000000 in
theorem field_113 (w0 : World) (B g bx : Nat) (x : AskV) (S : AskS) (ws : WS) (bad : Bool) (W : World) (h : FldW w0 B g bx x S ws bad W) : Calls Tryz.prog 98 #[.pointer (some ⟨g, 0, none⟩), .pointer (some ⟨bx, 0, none⟩), .int .i32 113] W (FldPost w0 B g bx x S ws bad 113 W) := by
 obtain ⟨xk, xr, xi, xq, xd, xl, xa, xt, xn, xp, xo⟩ := x
 obtain ⟨⟨PA, Pn, Pc⟩, ⟨QA, On, Oc⟩⟩ := S
 replace h := hZ h
 have h' := h
 clear h
 have h := h'
 clear h'
 have hd := hZ (show fieldP (⟨xk, xr, xi, xq, xd, xl, xa, xt, xn, xp, xo⟩, ws, bad) 113 = (⟨xk, xr, xi, numV ws, xd, xl, xa, xt, xn, xp, xo⟩, ws.tail, nullB ws bad) from rfl)
 have hv := numV_64 ws
 have hn := hZ (number_b B g ws bad w0 W h.out.rd h.out.base)
 go_enter Tryz.func98, Tryz.ntmps98
 go_wp2_with fail
 refine hn.out.mono ?_
 rintro e W2 ⟨rfl, R2, t2⟩
 have D2 := hZ (h.out.tk R2 t2 (tail_le ws))
 have t2 := hZ t2
 have e0 := R2
 clear e0 R2
 have b0 : W2.cell? ⟨bx, 3, none⟩ = some (.int .i64 xq) := D2.out.aa.cell 3
 have f0 := D2.out.aa.frozen 3
 have FI := hZ (D2.out.store (x' := ⟨xk, xr, xi, (numV ws), xd, xl, xa, xt, xn, xp, xo⟩) (S' := ⟨⟨PA, Pn, Pc⟩, ⟨QA, On, Oc⟩⟩) 3 (.int .i64 (numV ws)) rfl ⟨D2.out.own.parts, D2.out.own.others, D2.out.own.pB, D2.out.own.oB⟩ ⟨D2.out.ok.kind, D2.out.ok.request, D2.out.ok.item, hv, D2.out.ok.day, D2.out.ok.days, D2.out.ok.rank, D2.out.ok.lot, D2.out.ok.line, D2.out.ok.parts, D2.out.ok.others⟩ D2.out.pN D2.out.oN)
 have TI := hZ (turned_gx (bx := bx) ⟨⟨PA, Pn, Pc⟩, ⟨QA, On, Oc⟩⟩ t2.out 3 (.int .i64 (numV ws)))
 clear hn
 go_wp2_with fail
 go_end0
 exact ⟨rfl, FldPost.of hd.out FI.out TI.out (FldM.refl _ _)⟩
set_option maxRecDepth 100000 in
set_option maxHeartbeats 4000000 in
theorem field_100 (w0 : World) (B g bx : Nat) (x : AskV) (S : AskS) (ws : WS) (bad : Bool) (W : World) (h : FldW w0 B g bx x S ws bad W) : Calls Tryz.prog 98 #[.pointer (some ⟨g, 0, none⟩), .pointer (some ⟨bx, 0, none⟩), .int .i32 100] W (FldPost w0 B g bx x S ws bad 100 W) := by
 obtain ⟨xk, xr, xi, xq, xd, xl, xa, xt, xn, xp, xo⟩ := x
 obtain ⟨⟨PA, Pn, Pc⟩, ⟨QA, On, Oc⟩⟩ := S
 replace h := hZ h
 have h' := h
 clear h
 have h := h'
 clear h'
 have hd := hZ (show fieldP (⟨xk, xr, xi, xq, xd, xl, xa, xt, xn, xp, xo⟩, ws, bad) 100 = (⟨xk, xr, xi, xq, numV ws, xl, xa, xt, xn, xp, xo⟩, ws.tail, nullB ws bad) from rfl)
 have hv := numV_64 ws
 have hn := hZ (number_b B g ws bad w0 W h.out.rd h.out.base)
 go_enter Tryz.func98, Tryz.ntmps98
 go_wp2_with fail
 refine hn.out.mono ?_
 rintro e W2 ⟨rfl, R2, t2⟩
 have D2 := hZ (h.out.tk R2 t2 (tail_le ws))
 have t2 := hZ t2
 have e0 := R2
 clear e0 R2
 have b0 : W2.cell? ⟨bx, 4, none⟩ = some (.int .i64 xd) := D2.out.aa.cell 4
 have f0 := D2.out.aa.frozen 4
 have FI := hZ (D2.out.store (x' := ⟨xk, xr, xi, xq, (numV ws), xl, xa, xt, xn, xp, xo⟩) (S' := ⟨⟨PA, Pn, Pc⟩, ⟨QA, On, Oc⟩⟩) 4 (.int .i64 (numV ws)) rfl ⟨D2.out.own.parts, D2.out.own.others, D2.out.own.pB, D2.out.own.oB⟩ ⟨D2.out.ok.kind, D2.out.ok.request, D2.out.ok.item, D2.out.ok.qty, hv, D2.out.ok.days, D2.out.ok.rank, D2.out.ok.lot, D2.out.ok.line, D2.out.ok.parts, D2.out.ok.others⟩ D2.out.pN D2.out.oN)
 have TI := hZ (turned_gx (bx := bx) ⟨⟨PA, Pn, Pc⟩, ⟨QA, On, Oc⟩⟩ t2.out 4 (.int .i64 (numV ws)))
 clear hn
 go_wp2_with fail
 go_end0
 exact ⟨rfl, FldPost.of hd.out FI.out TI.out (FldM.refl _ _)⟩
set_option maxRecDepth 100000 in
set_option maxHeartbeats 4000000 in
theorem field_108 (w0 : World) (B g bx : Nat) (x : AskV) (S : AskS) (ws : WS) (bad : Bool) (W : World) (h : FldW w0 B g bx x S ws bad W) : Calls Tryz.prog 98 #[.pointer (some ⟨g, 0, none⟩), .pointer (some ⟨bx, 0, none⟩), .int .i32 108] W (FldPost w0 B g bx x S ws bad 108 W) := by
 obtain ⟨xk, xr, xi, xq, xd, xl, xa, xt, xn, xp, xo⟩ := x
 obtain ⟨⟨PA, Pn, Pc⟩, ⟨QA, On, Oc⟩⟩ := S
 replace h := hZ h
 have h' := h
 clear h
 have h := h'
 clear h'
 have hd := hZ (show fieldP (⟨xk, xr, xi, xq, xd, xl, xa, xt, xn, xp, xo⟩, ws, bad) 108 = (⟨xk, xr, xi, xq, xd, numV ws, xa, xt, xn, xp, xo⟩, ws.tail, nullB ws bad) from rfl)
 have hv := numV_64 ws
 have hn := hZ (number_b B g ws bad w0 W h.out.rd h.out.base)
 go_enter Tryz.func98, Tryz.ntmps98
 go_wp2_with fail
 refine hn.out.mono ?_
 rintro e W2 ⟨rfl, R2, t2⟩
 have D2 := hZ (h.out.tk R2 t2 (tail_le ws))
 have t2 := hZ t2
 have e0 := R2
 clear e0 R2
 have b0 : W2.cell? ⟨bx, 5, none⟩ = some (.int .i64 xl) := D2.out.aa.cell 5
 have f0 := D2.out.aa.frozen 5
 have FI := hZ (D2.out.store (x' := ⟨xk, xr, xi, xq, xd, (numV ws), xa, xt, xn, xp, xo⟩) (S' := ⟨⟨PA, Pn, Pc⟩, ⟨QA, On, Oc⟩⟩) 5 (.int .i64 (numV ws)) rfl ⟨D2.out.own.parts, D2.out.own.others, D2.out.own.pB, D2.out.own.oB⟩ ⟨D2.out.ok.kind, D2.out.ok.request, D2.out.ok.item, D2.out.ok.qty, D2.out.ok.day, hv, D2.out.ok.rank, D2.out.ok.lot, D2.out.ok.line, D2.out.ok.parts, D2.out.ok.others⟩ D2.out.pN D2.out.oN)
 have TI := hZ (turned_gx (bx := bx) ⟨⟨PA, Pn, Pc⟩, ⟨QA, On, Oc⟩⟩ t2.out 5 (.int .i64 (numV ws)))
 clear hn
 go_wp2_with fail
 go_end0
 exact ⟨rfl, FldPost.of hd.out FI.out TI.out (FldM.refl _ _)⟩
set_option maxRecDepth 100000 in
set_option maxHeartbeats 4000000 in
theorem field_114 (w0 : World) (B g bx : Nat) (x : AskV) (S : AskS) (ws : WS) (bad : Bool) (W : World) (h : FldW w0 B g bx x S ws bad W) : Calls Tryz.prog 98 #[.pointer (some ⟨g, 0, none⟩), .pointer (some ⟨bx, 0, none⟩), .int .i32 114] W (FldPost w0 B g bx x S ws bad 114 W) := by
 obtain ⟨xk, xr, xi, xq, xd, xl, xa, xt, xn, xp, xo⟩ := x
 obtain ⟨⟨PA, Pn, Pc⟩, ⟨QA, On, Oc⟩⟩ := S
 replace h := hZ h
 have h' := h
 clear h
 have h := h'
 clear h'
 have hd := hZ (show fieldP (⟨xk, xr, xi, xq, xd, xl, xa, xt, xn, xp, xo⟩, ws, bad) 114 = (⟨xk, xr, xi, xq, xd, xl, numV ws, xt, xn, xp, xo⟩, ws.tail, nullB ws bad) from rfl)
 have hv := numV_64 ws
 have hn := hZ (number_b B g ws bad w0 W h.out.rd h.out.base)
 go_enter Tryz.func98, Tryz.ntmps98
 go_wp2_with fail
 refine hn.out.mono ?_
 rintro e W2 ⟨rfl, R2, t2⟩
 have D2 := hZ (h.out.tk R2 t2 (tail_le ws))
 have t2 := hZ t2
 have e0 := R2
 clear e0 R2
 have b0 : W2.cell? ⟨bx, 6, none⟩ = some (.int .i64 xa) := D2.out.aa.cell 6
 have f0 := D2.out.aa.frozen 6
 have FI := hZ (D2.out.store (x' := ⟨xk, xr, xi, xq, xd, xl, (numV ws), xt, xn, xp, xo⟩) (S' := ⟨⟨PA, Pn, Pc⟩, ⟨QA, On, Oc⟩⟩) 6 (.int .i64 (numV ws)) rfl ⟨D2.out.own.parts, D2.out.own.others, D2.out.own.pB, D2.out.own.oB⟩ ⟨D2.out.ok.kind, D2.out.ok.request, D2.out.ok.item, D2.out.ok.qty, D2.out.ok.day, D2.out.ok.days, hv, D2.out.ok.lot, D2.out.ok.line, D2.out.ok.parts, D2.out.ok.others⟩ D2.out.pN D2.out.oN)
 have TI := hZ (turned_gx (bx := bx) ⟨⟨PA, Pn, Pc⟩, ⟨QA, On, Oc⟩⟩ t2.out 6 (.int .i64 (numV ws)))
 clear hn
 go_wp2_with fail
 go_end0
 exact ⟨rfl, FldPost.of hd.out FI.out TI.out (FldM.refl _ _)⟩
set_option maxRecDepth 100000 in
set_option maxHeartbeats 4000000 in
theorem field_116 (w0 : World) (B g bx : Nat) (x : AskV) (S : AskS) (ws : WS) (bad : Bool) (W : World) (h : FldW w0 B g bx x S ws bad W) : Calls Tryz.prog 98 #[.pointer (some ⟨g, 0, none⟩), .pointer (some ⟨bx, 0, none⟩), .int .i32 116] W (FldPost w0 B g bx x S ws bad 116 W) := by
 obtain ⟨xk, xr, xi, xq, xd, xl, xa, xt, xn, xp, xo⟩ := x
 obtain ⟨⟨PA, Pn, Pc⟩, ⟨QA, On, Oc⟩⟩ := S
 replace h := hZ h
 have h' := h
 clear h
 have h := h'
 clear h'
 have hd := hZ (show fieldP (⟨xk, xr, xi, xq, xd, xl, xa, xt, xn, xp, xo⟩, ws, bad) 116 = (⟨xk, xr, xi, xq, xd, xl, xa, numV ws, xn, xp, xo⟩, ws.tail, nullB ws bad) from rfl)
 have hv := numV_64 ws
 have hn := hZ (number_b B g ws bad w0 W h.out.rd h.out.base)
 go_enter Tryz.func98, Tryz.ntmps98
 go_wp2_with fail
 refine hn.out.mono ?_
 rintro e W2 ⟨rfl, R2, t2⟩
 have D2 := hZ (h.out.tk R2 t2 (tail_le ws))
 have t2 := hZ t2
 have e0 := R2
 clear e0 R2
 have b0 : W2.cell? ⟨bx, 7, none⟩ = some (.int .i64 xt) := D2.out.aa.cell 7
 have f0 := D2.out.aa.frozen 7
 have FI := hZ (D2.out.store (x' := ⟨xk, xr, xi, xq, xd, xl, xa, (numV ws), xn, xp, xo⟩) (S' := ⟨⟨PA, Pn, Pc⟩, ⟨QA, On, Oc⟩⟩) 7 (.int .i64 (numV ws)) rfl ⟨D2.out.own.parts, D2.out.own.others, D2.out.own.pB, D2.out.own.oB⟩ ⟨D2.out.ok.kind, D2.out.ok.request, D2.out.ok.item, D2.out.ok.qty, D2.out.ok.day, D2.out.ok.days, D2.out.ok.rank, hv, D2.out.ok.line, D2.out.ok.parts, D2.out.ok.others⟩ D2.out.pN D2.out.oN)
 have TI := hZ (turned_gx (bx := bx) ⟨⟨PA, Pn, Pc⟩, ⟨QA, On, Oc⟩⟩ t2.out 7 (.int .i64 (numV ws)))
 clear hn
 go_wp2_with fail
 go_end0
 exact ⟨rfl, FldPost.of hd.out FI.out TI.out (FldM.refl _ _)⟩
set_option maxRecDepth 100000 in
set_option maxHeartbeats 4000000 in
theorem field_110 (w0 : World) (B g bx : Nat) (x : AskV) (S : AskS) (ws : WS) (bad : Bool) (W : World) (h : FldW w0 B g bx x S ws bad W) : Calls Tryz.prog 98 #[.pointer (some ⟨g, 0, none⟩), .pointer (some ⟨bx, 0, none⟩), .int .i32 110] W (FldPost w0 B g bx x S ws bad 110 W) := by
 obtain ⟨xk, xr, xi, xq, xd, xl, xa, xt, xn, xp, xo⟩ := x
 obtain ⟨⟨PA, Pn, Pc⟩, ⟨QA, On, Oc⟩⟩ := S
 replace h := hZ h
 have h' := h
 clear h
 have h := h'
 clear h'
 have hd := hZ (show fieldP (⟨xk, xr, xi, xq, xd, xl, xa, xt, xn, xp, xo⟩, ws, bad) 110 = (⟨xk, xr, xi, xq, xd, xl, xa, xt, numV ws, xp, xo⟩, ws.tail, nullB ws bad) from rfl)
 have hv := numV_64 ws
 have hn := hZ (number_b B g ws bad w0 W h.out.rd h.out.base)
 go_enter Tryz.func98, Tryz.ntmps98
 go_wp2_with fail
 refine hn.out.mono ?_
 rintro e W2 ⟨rfl, R2, t2⟩
 have D2 := hZ (h.out.tk R2 t2 (tail_le ws))
 have t2 := hZ t2
 have e0 := R2
 clear e0 R2
 have b0 : W2.cell? ⟨bx, 8, none⟩ = some (.int .i64 xn) := D2.out.aa.cell 8
 have f0 := D2.out.aa.frozen 8
 have FI := hZ (D2.out.store (x' := ⟨xk, xr, xi, xq, xd, xl, xa, xt, (numV ws), xp, xo⟩) (S' := ⟨⟨PA, Pn, Pc⟩, ⟨QA, On, Oc⟩⟩) 8 (.int .i64 (numV ws)) rfl ⟨D2.out.own.parts, D2.out.own.others, D2.out.own.pB, D2.out.own.oB⟩ ⟨D2.out.ok.kind, D2.out.ok.request, D2.out.ok.item, D2.out.ok.qty, D2.out.ok.day, D2.out.ok.days, D2.out.ok.rank, D2.out.ok.lot, hv, D2.out.ok.parts, D2.out.ok.others⟩ D2.out.pN D2.out.oN)
 have TI := hZ (turned_gx (bx := bx) ⟨⟨PA, Pn, Pc⟩, ⟨QA, On, Oc⟩⟩ t2.out 8 (.int .i64 (numV ws)))
 clear hn
 go_wp2_with fail
 go_end0
 exact ⟨rfl, FldPost.of hd.out FI.out TI.out (FldM.refl _ _)⟩
end Go.Proofs.YtglojnmcbochaaaGreatDoor

