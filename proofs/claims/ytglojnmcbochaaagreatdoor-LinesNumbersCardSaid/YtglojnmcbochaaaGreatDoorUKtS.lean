/-
 ytglojnmcbochaaagreatdoor: laws and walks on the road to LinesNumbers, joined: AskK KtS. Conditions stand at each theorem.
-/
import Derived.Test.YtglojnmcbochaaaGreatDoorURdFh
import Derived.Test.YtglojnmcbochaaaGreatDoorUCodQ
import Derived.Deep.QuietTactic
import Derived.BigQuiet
import Derived.Test.YtglojnmcbochaaaGreatDoorUStL
namespace Go.Proofs.YtglojnmcbochaaaGreatDoor
open Go.RowKit Go.Maps
set_option linter.unusedVariables false
set_option linter.unusedSimpArgs false

def DrwRel (n : Nat) (w : World) (i : Value) (wr : World) : Prop := ∃ j k : Nat, j ≤ n ∧ i = .int .i64 j ∧ wr = w.drewN k
theorem SlT.drewN {w : World} {s : Sl} {l : List (List UInt8)} (h : SlT w s l) (k : Nat) : SlT (w.drewN k) s l := h.fresh ((Turned.refl _ w).drewN k)
theorem SlQ.drewN {w : World} {s : Sl} {l : List (List UInt8 × Int)} (h : SlQ w s l) (k : Nat) : SlQ (w.drewN k) s l := h.fresh ((Turned.refl _ w).drewN k)
set_option maxRecDepth 100000 in
set_option maxHeartbeats 1000000 in
theorem sameT_any (a b : Sl) (l : List (List UInt8)) (w : World) (ha : SlT w a l) (hb : SlT w b l) : Calls Tryz.prog 71 #[.slice a.A a.n a.c, .slice b.A b.n b.c] w (RetDraw (.bool true) w) := by
 obtain ⟨A, n, c⟩ := a
 obtain ⟨B, m, d⟩ := b
 have h1 := ha.len
 have h2 := hb.len
 have hn := Nat.le_trans ha.le ha.max
 simp only at h1 h2 hn ⊢
 unfold maxLen at hn
 obtain rfl : n = m := by omega
 have ha' := hZ ha
 have hb' := hZ hb
 clear ha hb h1 h2
 go_enter Tryz.func71, Tryz.ntmps71
 go_wp2
 go_loopw [5] (fun i wr => DrwRel n w i wr) (fun i _ => n - (intOf i).toNat)
 case atStart => exact ⟨0, 0, by omega, rfl, rfl⟩
 case round =>
  obtain ⟨j, k, hj, rfl, hwr⟩ := hrel
  by_cases hlt : j < n
  ·have hji : (j : Int) < (n : Int) := by omega
   obtain ⟨ba, oa, hA, hca⟩ := (ha'.out.drewN k).cells (show 0 < n by omega)
   obtain ⟨bb, ob, hB, hcb⟩ := (hb'.out.drewN k).cells (show 0 < n by omega)
   simp only at hA hB
   subst hA hB
   have q1 := hca j hlt
   have q3 := hcb j hlt
   rw [← hwr] at q1 q3
   unfold strV at q1 q3
   have hwr' := hZ hwr
   clear hca hcb hwr
   generalize (⟨(l.getD j []).toArray⟩ : ByteArray) = x at *
   go_wp2
   go_quiet (fail)
   go_wp2
   go_roundw
   case rel =>
    first
    | exact ⟨j + 1, k + nq, by omega, by go_num, by rw [hwr'.out, World.drewN_drewN]⟩
    | ((repeat apply Exists.intro); exact ⟨⟨j + 1, k + nq, by omega, by go_num, by rw [hwr'.out, World.drewN_drewN]⟩, rfl⟩)
   case measure => simp [intOf] <;> omega
  ·have hge : (n : Int) ≤ (j : Int) := by omega
   have hwr' := hZ hwr
   clear hwr
   go_wp2
   go_ret
   exact ⟨rfl, k, hwr'.out⟩
set_option maxRecDepth 100000 in
set_option maxHeartbeats 1000000 in
theorem sameQ_any (a b : Sl) (l : List (List UInt8 × Int)) (w : World) (ha : SlQ w a l) (hb : SlQ w b l) : Calls Tryz.prog 70 #[.slice a.A a.n a.c, .slice b.A b.n b.c] w (RetDraw (.bool true) w) := by
 obtain ⟨A, n, c⟩ := a
 obtain ⟨B, m, d⟩ := b
 have h1 := ha.len
 have h2 := hb.len
 have hn := Nat.le_trans ha.le ha.max
 simp only at h1 h2 hn ⊢
 unfold maxLen at hn
 obtain rfl : n = m := by omega
 have ha' := hZ ha
 have hb' := hZ hb
 clear ha hb h1 h2
 go_enter Tryz.func70, Tryz.ntmps70
 go_wp2
 go_loopw [5] (fun i wr => DrwRel n w i wr) (fun i _ => n - (intOf i).toNat)
 case atStart => exact ⟨0, 0, by omega, rfl, rfl⟩
 case round =>
  obtain ⟨j, k, hj, rfl, hwr⟩ := hrel
  by_cases hlt : j < n
  ·have hji : (j : Int) < (n : Int) := by omega
   obtain ⟨ba, oa, hA, hca⟩ := (ha'.out.drewN k).cells (show 0 < n by omega)
   obtain ⟨bb, ob, hB, hcb⟩ := (hb'.out.drewN k).cells (show 0 < n by omega)
   simp only at hA hB
   subst hA hB
   obtain ⟨q1, q2⟩ := hca j hlt
   obtain ⟨q3, q4⟩ := hcb j hlt
   rw [← hwr] at q1 q2 q3 q4
   unfold strV at q1 q3
   have hwr' := hZ hwr
   clear hca hcb hwr
   generalize (⟨(itemAt l j).toArray⟩ : ByteArray) = x at *
   generalize qtyAt l j = y at *
   go_wp2
   go_quiet (fail)
   go_wp2
   go_roundw
   case rel =>
    first
    | exact ⟨j + 1, k + nq, by omega, by go_num, by rw [hwr'.out, World.drewN_drewN]⟩
    | ((repeat apply Exists.intro); exact ⟨⟨j + 1, k + nq, by omega, by go_num, by rw [hwr'.out, World.drewN_drewN]⟩, rfl⟩)
   case measure => simp [intOf] <;> omega
  ·have hge : (n : Int) ≤ (j : Int) := by omega
   have hwr' := hZ hwr
   clear hwr
   go_wp2
   go_ret
   exact ⟨rfl, k, hwr'.out⟩
set_option maxRecDepth 100000 in
set_option maxHeartbeats 2000000 in
theorem sameA_any (a : AskV) (S1 S2 : AskS) (w : World) (h1 : AskIs w a S1) (h2 : AskIs w a S2) : Calls Tryz.prog 29 #[.agg (askC a S1), .agg (askC a S2)] w (RetNew (.bool true) w) := by
 have HT := hZ (fun (w' : World) (t : Turned (fun _ => False) w w') => sameT_any S1.O S2.O a.others w' (h1.others.fresh t) (h2.others.fresh t))
 have HQ := hZ (fun (w' : World) (t : Turned (fun _ => False) w w') => sameQ_any S1.P S2.P a.parts w' (h1.parts.fresh t) (h2.parts.fresh t))
 clear h1 h2
 obtain ⟨kind, request, item, qty, day, days, rank, lot, line, parts, others⟩ := a
 obtain ⟨⟨PA, Pn, Pc⟩, ⟨OA, On, Oc⟩⟩ := S1
 obtain ⟨⟨UA, Un, Uc⟩, ⟨VA, Vn, Vc⟩⟩ := S2
 have B1 := Blk.new w 28 (askC ⟨kind, request, item, qty, day, days, rank, lot, line, parts, others⟩ ⟨⟨PA, Pn, Pc⟩, ⟨OA, On, Oc⟩⟩)
 have t1 := (Turned.refl (fun _ => False) w).alloc (.cells (askC ⟨kind, request, item, qty, day, days, rank, lot, line, parts, others⟩ ⟨⟨PA, Pn, Pc⟩, ⟨OA, On, Oc⟩⟩) 28)
 have B2 := Blk.new_at (k := w.heap.size + 1) (w.alloc (.cells (askC ⟨kind, request, item, qty, day, days, rank, lot, line, parts, others⟩ ⟨⟨PA, Pn, Pc⟩, ⟨OA, On, Oc⟩⟩) 28)) 28 (askC ⟨kind, request, item, qty, day, days, rank, lot, line, parts, others⟩ ⟨⟨UA, Un, Uc⟩, ⟨VA, Vn, Vc⟩⟩) (by simp)
 have t2 := (Turned.refl (fun _ => False) (w.alloc (.cells (askC ⟨kind, request, item, qty, day, days, rank, lot, line, parts, others⟩ ⟨⟨PA, Pn, Pc⟩, ⟨OA, On, Oc⟩⟩) 28))).alloc (.cells (askC ⟨kind, request, item, qty, day, days, rank, lot, line, parts, others⟩ ⟨⟨UA, Un, Uc⟩, ⟨VA, Vn, Vc⟩⟩) 28)
 have A1 := hZ (AskAt.fresh (a := ⟨kind, request, item, qty, day, days, rank, lot, line, parts, others⟩) (S := ⟨⟨PA, Pn, Pc⟩, ⟨OA, On, Oc⟩⟩) B1 t2)
 have A2 := hZ (show AskAt _ _ ⟨kind, request, item, qty, day, days, rank, lot, line, parts, others⟩ ⟨⟨UA, Un, Uc⟩, ⟨VA, Vn, Vc⟩⟩ from B2)
 have T0 := hZ (t1.and_ t2)
 clear B1 B2 t1 t2
 unfold askC strV at *
 simp only at HT HQ A1 A2 T0 ⊢
 go_enter Tryz.func29, Tryz.ntmps29
 go_wp2_with fail
 generalize (w.alloc (.cells #[.int .u8 kind, .int .i64 request, .string ⟨item.toArray⟩, .int .i64 qty, .int .i64 day, .int .i64 days, .int .i64 rank, .int .i64 lot, .int .i64 line, .slice PA Pn Pc, .slice OA On Oc] 28)).alloc (.cells #[.int .u8 kind, .int .i64 request, .string ⟨item.toArray⟩, .int .i64 qty, .int .i64 day, .int .i64 days, .int .i64 rank, .int .i64 lot, .int .i64 line, .slice UA Un Uc, .slice VA Vn Vc] 28) = w0 at *
 generalize w.heap.size + 1 = b2 at *
 generalize w.heap.size = b1 at *
 obtain ⟨c0, c1, c2, c3, c4, c5, c6, c7, c8, c9, c10⟩ := A1.out.cells
 simp only at c0 c1 c2 c3 c4 c5 c6 c7 c8 c9 c10
 obtain ⟨d0, d1, d2, d3, d4, d5, d6, d7, d8, d9, d10⟩ := A2.out.cells
 simp only at d0 d1 d2 d3 d4 d5 d6 d7 d8 d9 d10
 refine (HQ.out w0 T0.out).mono ?_
 rintro e w2 ⟨rfl, n2, rfl⟩
 clear c0 c1 c2 c3 c4 c5 c6 c7 c8 c9 c10 d0 d1 d2 d3 d4 d5 d6 d7 d8 d9 d10
 obtain ⟨c0, c1, c2, c3, c4, c5, c6, c7, c8, c9, c10⟩ := (A1.out.fresh ((Turned.refl (fun _ => False) w0).drewN n2)).cells
 simp only at c0 c1 c2 c3 c4 c5 c6 c7 c8 c9 c10
 obtain ⟨d0, d1, d2, d3, d4, d5, d6, d7, d8, d9, d10⟩ := (A2.out.fresh ((Turned.refl (fun _ => False) w0).drewN n2)).cells
 simp only at d0 d1 d2 d3 d4 d5 d6 d7 d8 d9 d10
 go_wp2_with fail
 refine (HT.out _ (T0.out.drewN n2)).mono ?_
 rintro e w3 ⟨rfl, n3, rfl⟩
 go_wp2_with fail
 go_ret
 exact ⟨rfl, T0.out.drewN _⟩
end Go.Proofs.YtglojnmcbochaaaGreatDoor

namespace Go.Proofs.YtglojnmcbochaaaGreatDoor
open Go.RowKit Go.Maps
set_option linter.unusedVariables false
set_option linter.unusedSimpArgs false

theorem SlF.cells {w : World} {s : Sl} {l : List Int} (h : SlF w s l) (hn : 0 < s.n) : ∃ b off, s.A = some ⟨b, off, none⟩ ∧ ∀ i, i < s.n → w.cell? ⟨b, off + i, none⟩ = some (.int .i64 (l.getD i 0)) := by
 obtain ⟨b, off, e, hc⟩ := h.cel.cell hn
 refine ⟨b, off, e, fun i hi => ?_⟩
 have hl := h.len
 rw [hc i hi]
 simp [fateC, List.getD_eq_getElem?_getD, show i < l.length by omega]
theorem OwnE.slF {w : World} {T : TypeId} {A : Option Addr} {n c : Nat} {l : List Int} (h : OwnE w T 1 A n c (fateC l)) : SlF w ⟨A, n, c⟩ l := by
 have hl := h.len
 rw [fateC_length, Nat.mul_one] at hl
 refine ⟨by have := h.celR; rw [Nat.mul_one] at this; exact this, hl, fun e => ?_, h.max.1, h.max.2⟩
 rcases h.row_or with ⟨_, e2, e3, _⟩ | ⟨g, e1, hr⟩
 ·exact ⟨e2, e3⟩
 ·simp only at e; rw [e1] at e; cases e
set_option maxRecDepth 100000 in
set_option maxHeartbeats 1000000 in
theorem sameF_any (a b : Sl) (l : List Int) (w : World) (ha : SlF w a l) (hb : SlF w b l) : Calls Tryz.prog 30 #[.slice a.A a.n a.c, .slice b.A b.n b.c] w (RetDraw (.bool true) w) := by
 obtain ⟨A, n, c⟩ := a
 obtain ⟨B, m, d⟩ := b
 have h1 := ha.len
 have h2 := hb.len
 have hn := Nat.le_trans ha.le ha.max
 simp only at h1 h2 hn ⊢
 unfold maxLen at hn
 obtain rfl : n = m := by omega
 have ha' := hZ ha
 have hb' := hZ hb
 clear ha hb h1 h2
 go_enter Tryz.func30, Tryz.ntmps30
 go_wp2
 go_loopw [5] (fun i wr => DrwRel n w i wr) (fun i _ => n - (intOf i).toNat)
 case atStart => exact ⟨0, 0, by omega, rfl, rfl⟩
 case round =>
  obtain ⟨j, k, hj, rfl, hwr⟩ := hrel
  by_cases hlt : j < n
  ·have hji : (j : Int) < (n : Int) := by omega
   obtain ⟨ba, oa, hA, hca⟩ := (ha'.out.fresh ((Turned.refl (fun _ => False) w).drewN k)).cells (show 0 < n by omega)
   obtain ⟨bb, ob, hB, hcb⟩ := (hb'.out.fresh ((Turned.refl (fun _ => False) w).drewN k)).cells (show 0 < n by omega)
   simp only at hA hB
   subst hA hB
   have q1 := hca j hlt
   have q3 := hcb j hlt
   rw [← hwr] at q1 q3
   have hwr' := hZ hwr
   clear hca hcb hwr
   generalize l.getD j 0 = x at *
   go_wp2
   go_quiet (fail)
   go_wp2
   go_roundw
   case rel =>
    first
    | exact ⟨j + 1, k + nq, by omega, by go_num, by rw [hwr'.out, World.drewN_drewN]⟩
    | ((repeat apply Exists.intro); exact ⟨⟨j + 1, k + nq, by omega, by go_num, by rw [hwr'.out, World.drewN_drewN]⟩, rfl⟩)
   case measure => simp [intOf] <;> omega
  ·have hge : (n : Int) ≤ (j : Int) := by omega
   have hwr' := hZ hwr
   clear hwr
   go_wp2
   go_ret
   exact ⟨rfl, k, hwr'.out⟩
structure StpIs (w : World) (x : StepV) (S : AskS) (Fs : Sl) : Prop where
 ask : AskIs w x.ask S
 fates : SlF w Fs x.fates
theorem StpIs.fresh {w w' : World} {x : StepV} {S : AskS} {Fs : Sl} (h : StpIs w x S Fs) (ht : Turned (fun _ => False) w w') : StpIs w' x S Fs := ⟨h.ask.fresh ht, h.fates.fresh ht⟩
theorem StpOwn.is {w : World} {B : Nat} {x : StepV} {S : AskS} {Fs : Sl} (h : StpOwn w B x S Fs) : StpIs w x S Fs := ⟨h.ask.is, h.fates.slF⟩
theorem StpIs.nil (w : World) (x : StepV) (h0 : x.fates = []) (h1 : x.ask.parts = []) (h2 : x.ask.others = []) : StpIs w x AskS.nil Sl.nil := (StpOwn.nil w 0 x h0 h1 h2).is
set_option maxRecDepth 100000 in
set_option maxHeartbeats 2000000 in
theorem sameS_any (x : StepV) (S1 S2 : AskS) (F1 F2 : Sl) (w : World) (h1 : StpIs w x S1 F1) (h2 : StpIs w x S2 F2) : Calls Tryz.prog 11 #[.agg (stpC x S1 F1), .agg (stpC x S2 F2)] w (RetNew (.bool true) w) := by
 have HA := hZ (fun (w' : World) (t : Turned (fun _ => False) w w') => sameA_any x.ask S1 S2 w' (h1.ask.fresh t) (h2.ask.fresh t))
 have HF := hZ (fun (w' : World) (t : Turned (fun _ => False) w w') => sameF_any F1 F2 x.fates w' (h1.fates.fresh t) (h2.fates.fresh t))
 clear h1 h2
 obtain ⟨kd, ss, nm, ⟨kind, request, item, qty, day, days, rank, lot, line, parts, others⟩, fates⟩ := x
 obtain ⟨⟨PA, Pn, Pc⟩, ⟨OA, On, Oc⟩⟩ := S1
 obtain ⟨⟨UA, Un, Uc⟩, ⟨VA, Vn, Vc⟩⟩ := S2
 obtain ⟨FA, Fn, Fc⟩ := F1
 obtain ⟨GA, Gn, Gc⟩ := F2
 have t1 := (Turned.refl (fun _ => False) w).alloc (.cells #[.int .u8 kd, .int .i64 ss, .int .i64 nm, .int .u8 kind, .int .i64 request, .string ⟨item.toArray⟩, .int .i64 qty, .int .i64 day, .int .i64 days, .int .i64 rank, .int .i64 lot, .int .i64 line, .slice PA Pn Pc, .slice OA On Oc, .slice FA Fn Fc] 31)
 have B1 := Blk.new w 31 #[.int .u8 kd, .int .i64 ss, .int .i64 nm, .int .u8 kind, .int .i64 request, .string ⟨item.toArray⟩, .int .i64 qty, .int .i64 day, .int .i64 days, .int .i64 rank, .int .i64 lot, .int .i64 line, .slice PA Pn Pc, .slice OA On Oc, .slice FA Fn Fc]
 have t2 := (Turned.refl (fun _ => False) (w.alloc (.cells #[.int .u8 kd, .int .i64 ss, .int .i64 nm, .int .u8 kind, .int .i64 request, .string ⟨item.toArray⟩, .int .i64 qty, .int .i64 day, .int .i64 days, .int .i64 rank, .int .i64 lot, .int .i64 line, .slice PA Pn Pc, .slice OA On Oc, .slice FA Fn Fc] 31))).alloc (.cells #[.int .u8 kd, .int .i64 ss, .int .i64 nm, .int .u8 kind, .int .i64 request, .string ⟨item.toArray⟩, .int .i64 qty, .int .i64 day, .int .i64 days, .int .i64 rank, .int .i64 lot, .int .i64 line, .slice UA Un Uc, .slice VA Vn Vc, .slice GA Gn Gc] 31)
 have B2 := Blk.new_at (k := w.heap.size + 1) (w.alloc (.cells #[.int .u8 kd, .int .i64 ss, .int .i64 nm, .int .u8 kind, .int .i64 request, .string ⟨item.toArray⟩, .int .i64 qty, .int .i64 day, .int .i64 days, .int .i64 rank, .int .i64 lot, .int .i64 line, .slice PA Pn Pc, .slice OA On Oc, .slice FA Fn Fc] 31)) 31 #[.int .u8 kd, .int .i64 ss, .int .i64 nm, .int .u8 kind, .int .i64 request, .string ⟨item.toArray⟩, .int .i64 qty, .int .i64 day, .int .i64 days, .int .i64 rank, .int .i64 lot, .int .i64 line, .slice UA Un Uc, .slice VA Vn Vc, .slice GA Gn Gc] (by simp)
 have A1 := hZ (B1.turned t2 (fun e => e))
 have A2 := hZ B2
 have T0 := hZ (t1.and_ t2)
 clear B1 B2 t1 t2
 unfold stpC askC strV at *
 simp only at HA HF A1 A2 T0 ⊢
 go_enter Tryz.func11, Tryz.ntmps11
 go_upto_region 1 with fail
 obtain ⟨w0, hw0⟩ : ∃ w0, w0 = (w.alloc (.cells #[.int .u8 kd, .int .i64 ss, .int .i64 nm, .int .u8 kind, .int .i64 request, .string ⟨item.toArray⟩, .int .i64 qty, .int .i64 day, .int .i64 days, .int .i64 rank, .int .i64 lot, .int .i64 line, .slice PA Pn Pc, .slice OA On Oc, .slice FA Fn Fc] 31)).alloc (.cells #[.int .u8 kd, .int .i64 ss, .int .i64 nm, .int .u8 kind, .int .i64 request, .string ⟨item.toArray⟩, .int .i64 qty, .int .i64 day, .int .i64 days, .int .i64 rank, .int .i64 lot, .int .i64 line, .slice UA Un Uc, .slice VA Vn Vc, .slice GA Gn Gc] 31) := ⟨_, rfl⟩
 rw [← hw0] at A1 A2 T0 ⊢
 clear hw0
 generalize w.heap.size + 1 = b2 at *
 generalize w.heap.size = b1 at *
 obtain ⟨c0, c1, c2, c3, c4, c5, c6, c7, c8, c9, c10, c11, c12, c13, c14⟩ := A1.out.cells15
 obtain ⟨d0, d1, d2, d3, d4, d5, d6, d7, d8, d9, d10, d11, d12, d13, d14⟩ := A2.out.cells15
 go_wp2_with fail
 refine (HA.out w0 T0.out).mono ?_
 rintro e w2 ⟨rfl, t2⟩
 clear c0 c1 c2 c3 c4 c5 c6 c7 c8 c9 c10 c11 c12 c13 c14 d0 d1 d2 d3 d4 d5 d6 d7 d8 d9 d10 d11 d12 d13 d14
 have T2 := hZ (T0.out.and_ t2)
 obtain ⟨c0, c1, c2, c3, c4, c5, c6, c7, c8, c9, c10, c11, c12, c13, c14⟩ := (A1.out.turned t2 (fun e => e)).cells15
 obtain ⟨d0, d1, d2, d3, d4, d5, d6, d7, d8, d9, d10, d11, d12, d13, d14⟩ := (A2.out.turned t2 (fun e => e)).cells15
 clear t2 T0 HA
 go_wp2_with fail
 refine (HF.out _ T2.out).mono ?_
 rintro e w3 ⟨rfl, n3, rfl⟩
 go_wp2_with fail
 go_ret
 exact ⟨rfl, T2.out.drewN _⟩
set_option maxRecDepth 100000 in
set_option maxHeartbeats 2000000 in
theorem is_any (s : ByteArray) (x : StepV) (S : AskS) (Fs : Sl) (w : World) (hv : VarsOk w) (hK : KindsOk w) (hV : VerbsOk w) (hs : s.size ≤ 9223372036854775807) (h : StpIs w x S Fs) (hr : lineRes s.data.toList = (x, 0)) :
  Calls Tryz.prog 24 #[.string s, .agg (stpC x S Fs)] w (RetNew (.bool true) w) := by
 have hl := hZ (fun (w' : World) (t : Turned (fun _ => False) w w') => line_any s w' (hv.turned t) (hK.fresh t) (hV.fresh t) hs)
 have hr' := hZ hr
 have h' := hZ h
 clear h hr hv hK hV
 have HS := hZ (fun (w' : World) (S1 : AskS) (F1 : Sl) (hi : StpIs w' x S1 F1) (t : Turned (fun _ => False) w w') => sameS_any x S1 S F1 Fs w' hi (h'.out.fresh t))
 obtain ⟨kd, ss, nm, ⟨kind, request, item, qty, day, days, rank, lot, line, parts, others⟩, fates⟩ := x
 obtain ⟨⟨UA, Un, Uc⟩, ⟨VA, Vn, Vc⟩⟩ := S
 obtain ⟨GA, Gn, Gc⟩ := Fs
 have t1 := hZ ((Turned.refl (fun _ => False) w).alloc (.cells #[.int .u8 kd, .int .i64 ss, .int .i64 nm, .int .u8 kind, .int .i64 request, .string ⟨item.toArray⟩, .int .i64 qty, .int .i64 day, .int .i64 days, .int .i64 rank, .int .i64 lot, .int .i64 line, .slice UA Un Uc, .slice VA Vn Vc, .slice GA Gn Gc] 31))
 have B1 := hZ (Blk.new w 31 #[.int .u8 kd, .int .i64 ss, .int .i64 nm, .int .u8 kind, .int .i64 request, .string ⟨item.toArray⟩, .int .i64 qty, .int .i64 day, .int .i64 days, .int .i64 rank, .int .i64 lot, .int .i64 line, .slice UA Un Uc, .slice VA Vn Vc, .slice GA Gn Gc])
 unfold stpC strV at HS ⊢
 simp only at HS ⊢
 go_enter Tryz.func24, Tryz.ntmps24
 go_upto_region 1 with fail
 obtain ⟨w1, hw1⟩ : ∃ w1, w1 = w.alloc (.cells #[.int .u8 kd, .int .i64 ss, .int .i64 nm, .int .u8 kind, .int .i64 request, .string ⟨item.toArray⟩, .int .i64 qty, .int .i64 day, .int .i64 days, .int .i64 rank, .int .i64 lot, .int .i64 line, .slice UA Un Uc, .slice VA Vn Vc, .slice GA Gn Gc] 31) := ⟨_, rfl⟩
 rw [← hw1] at B1 t1 ⊢
 clear hw1
 generalize w.heap.size = b1 at *
 go_wp2_with fail
 refine (hl.out _ t1.out).mono ?_
 rintro e w2 ⟨S2, F2, rfl, ho, hok, t2⟩
 have T2 := hZ (t1.out.and_ t2)
 have B2 := hZ (B1.out.turned t2 (fun e => e))
 have ho' := hZ ho.is
 rw [hr'.out] at ho' ⊢
 clear ho hok t2 t1 B1 hl
 obtain ⟨⟨PA, Pn, Pc⟩, ⟨OA, On, Oc⟩⟩ := S2
 obtain ⟨FA, Fn, Fc⟩ := F2
 unfold stpC strV
 simp only
 go_upto_region 2 with fail
 have t3 := (Turned.refl (fun _ => False) w2).alloc (.cells #[.int .u8 kd, .int .i64 ss, .int .i64 nm, .int .u8 kind, .int .i64 request, .string ⟨item.toArray⟩, .int .i64 qty, .int .i64 day, .int .i64 days, .int .i64 rank, .int .i64 lot, .int .i64 line, .slice PA Pn Pc, .slice OA On Oc, .slice FA Fn Fc] 31)
 have B3 := hZ (Blk.new w2 31 #[.int .u8 kd, .int .i64 ss, .int .i64 nm, .int .u8 kind, .int .i64 request, .string ⟨item.toArray⟩, .int .i64 qty, .int .i64 day, .int .i64 days, .int .i64 rank, .int .i64 lot, .int .i64 line, .slice PA Pn Pc, .slice OA On Oc, .slice FA Fn Fc])
 have B2 := hZ (B2.out.turned t3 (fun e => e))
 have T3 := hZ (T2.out.and_ t3)
 have ho' := hZ (ho'.out.fresh t3)
 obtain ⟨w3, hw3⟩ : ∃ w3, w3 = w2.alloc (.cells #[.int .u8 kd, .int .i64 ss, .int .i64 nm, .int .u8 kind, .int .i64 request, .string ⟨item.toArray⟩, .int .i64 qty, .int .i64 day, .int .i64 days, .int .i64 rank, .int .i64 lot, .int .i64 line, .slice PA Pn Pc, .slice OA On Oc, .slice FA Fn Fc] 31) := ⟨_, rfl⟩
 rw [← hw3] at B3 B2 T3 ho' ⊢
 clear hw3 t3 T2
 generalize w2.heap.size = b3 at *
 obtain ⟨c0, c1, c2, c3, c4, c5, c6, c7, c8, c9, c10, c11, c12, c13, c14⟩ := B3.out.cells15
 obtain ⟨d0, d1, d2, d3, d4, d5, d6, d7, d8, d9, d10, d11, d12, d13, d14⟩ := B2.out.cells15
 go_wp2_with fail
 refine (HS.out _ _ _ ho'.out T3.out).mono ?_
 rintro e w4 ⟨rfl, t4⟩
 have T4 := hZ (T3.out.and_ t4)
 clear t4 c0 c1 c2 c3 c4 c5 c6 c7 c8 c9 c10 c11 c12 c13 c14 d0 d1 d2 d3 d4 d5 d6 d7 d8 d9 d10 d11 d12 d13 d14
 go_wp2_with fail
 go_ret
 exact ⟨rfl, T4.out⟩
set_option maxRecDepth 100000 in
set_option maxHeartbeats 2000000 in
theorem refused_any (s : ByteArray) (w : World) (hv : VarsOk w) (hK : KindsOk w) (hV : VerbsOk w) (hs : s.size ≤ 9223372036854775807) (hr : lineRes s.data.toList = (StepV.zero, 310)) :
  Calls Tryz.prog 20 #[.string s] w (RetNew (.bool true) w) := by
 have hl := hZ (line_any s w hv hK hV hs)
 have hr' := hZ hr
 clear hr hv hK hV
 go_enter Tryz.func20, Tryz.ntmps20
 go_wp2_with fail
 refine hl.out.mono ?_
 rintro e w2 ⟨S2, F2, rfl, ho, hok, t2⟩
 have T2 := hZ t2
 have ho' := hZ ho.is
 rw [hr'.out] at ho' ⊢
 clear ho hok t2 hl
 obtain ⟨⟨PA, Pn, Pc⟩, ⟨OA, On, Oc⟩⟩ := S2
 obtain ⟨FA, Fn, Fc⟩ := F2
 unfold stpC strV StepV.zero AskV.zero
 simp only
 go_upto_region 2 with fail
 have t3 := (Turned.refl (fun _ => False) w2).alloc (.cells #[.int .u8 0, .int .i64 0, .int .i64 0, .int .u8 0, .int .i64 0, .string ⟨[].toArray⟩, .int .i64 0, .int .i64 0, .int .i64 0, .int .i64 0, .int .i64 0, .int .i64 0, .slice PA Pn Pc, .slice OA On Oc, .slice FA Fn Fc] 31)
 have B3 := hZ (Blk.new w2 31 #[.int .u8 0, .int .i64 0, .int .i64 0, .int .u8 0, .int .i64 0, .string ⟨[].toArray⟩, .int .i64 0, .int .i64 0, .int .i64 0, .int .i64 0, .int .i64 0, .int .i64 0, .slice PA Pn Pc, .slice OA On Oc, .slice FA Fn Fc])
 have T3 := hZ (T2.out.and_ t3)
 have ho' := hZ (ho'.out.fresh t3)
 obtain ⟨w3, hw3⟩ : ∃ w3, w3 = w2.alloc (.cells #[.int .u8 0, .int .i64 0, .int .i64 0, .int .u8 0, .int .i64 0, .string ⟨[].toArray⟩, .int .i64 0, .int .i64 0, .int .i64 0, .int .i64 0, .int .i64 0, .int .i64 0, .slice PA Pn Pc, .slice OA On Oc, .slice FA Fn Fc] 31) := ⟨_, rfl⟩
 rw [← hw3] at B3 T3 ho' ⊢
 clear hw3 t3 T2
 generalize w2.heap.size = b3 at *
 obtain ⟨c0, c1, c2, c3, c4, c5, c6, c7, c8, c9, c10, c11, c12, c13, c14⟩ := B3.out.cells15
 have HS := hZ (sameS_any StepV.zero _ AskS.nil _ Sl.nil w3 ho'.out (StpIs.nil w3 StepV.zero rfl rfl rfl))
 unfold stpC strV StepV.zero AskV.zero AskS.nil Sl.nil at HS
 simp only at HS
 go_wp2_with fail
 refine HS.out.mono ?_
 rintro e w4 ⟨rfl, t4⟩
 have T4 := hZ (T3.out.and_ t4)
 clear t4 c0 c1 c2 c3 c4 c5 c6 c7 c8 c9 c10 c11 c12 c13 c14 HS
 go_wp2_with fail
 go_ret
 exact ⟨rfl, T4.out⟩
end Go.Proofs.YtglojnmcbochaaaGreatDoor

