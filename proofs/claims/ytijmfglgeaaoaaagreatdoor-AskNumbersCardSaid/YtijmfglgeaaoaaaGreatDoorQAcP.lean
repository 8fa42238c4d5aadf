/-
  storemanlaw13.AskPuts: of any command it is told whether it is right, and its bytes, as the document says; it stays, and is not kept. Conditions: ask.kinds holds what its initialiser lays.
-/
import Derived.Test.YtijmfglgeaaoaaaGreatDoorQAskJ
import Derived.Test.YtijmfglgeaaoaaaGreatDoorQLnA
import Derived.Test.YtijmfglgeaaoaaaGreatDoorQAskL
import Derived.Test.YtijmfglgeaaoaaaGreatDoorQAp2
namespace Go.Proofs.YtijmfglgeaaoaaaGreatDoor
open Go.RowKit Go.Maps
set_option linter.unusedVariables false
set_option linter.unusedSimpArgs false

theorem great_small {a : AskV} {S : AskS} {w : World} (h : AskIs w a S) (hg : greatB a = false) : SmallS S ∧ a.parts.length ≤ 1000000 := by
  unfold greatB at hg
  simp only [Bool.or_eq_false_iff, decide_eq_false_iff_not] at hg
  have h1 := h.parts.len; have h2 := h.others.len
  exact ⟨⟨by omega, by omega⟩, by omega⟩
theorem putA_most (a : AskV) : (putA a).length ≤ 1000 := by
  cases hr : rightA a with
  | false => unfold putA; rw [hr]; simp
  | true => exact (putA_len hr).2
theorem APut.one {a : AskV} {w w' : World} {e : Ending} (h : APut a w e w') : ∃ A c, e = .returned (.tuple #[.slice A (putA a).length c, .int .i64 (if rightA a = true then 0 else 2)]) ∧ OwnV w' A (putA a).length c (putA a) ∧ (∀ g, A = some ⟨g, 0, none⟩ → w.heap.size ≤ g) ∧ Turned (fun _ => False) w w' := by
  unfold APut at h
  cases hr : rightA a with
  | true =>
    rw [hr, if_pos rfl] at h
    rw [if_pos rfl]
    exact h
  | false =>
    rw [hr, if_neg (by simp)] at h
    rw [if_neg (by simp)]
    have e0 : putA a = [] := by unfold putA; rw [hr]; rfl
    rw [e0]
    exact ⟨none, 0, h.1, OwnV.nil _, (fun g e => by cases e), h.2⟩
set_option maxRecDepth 100000 in
set_option maxHeartbeats 4000000 in
theorem askPuts_any (a : AskV) (S : AskS) (w : World) (hKs : KindsOk w) (h : AskIs w a S) (hk : a.Ok) : Calls Tryz.prog 14 #[.agg (askC a S)] w (OkNew w) := by
  have hpl := putA_most a
  have KS := Lib.hid hKs
  have HS := Lib.hid (fun (hg : greatB a = false) => great_small h hg)
  have B1 := Lib.hid (Blk.new w 29 (askC a S))
  have T0 := Lib.hid ((Turned.refl (fun _ => False) w).alloc (.cells (askC a S) 29))
  have H := Lib.hid h
  have HK := Lib.hid hk
  clear h hk hKs
  obtain ⟨kind, request, item, qty, day, days, rank, lot, line, parts, others⟩ := a
  obtain ⟨⟨PA, Pn, Pc⟩, ⟨QA, On, Oc⟩⟩ := S
  unfold askC strV at *
  simp only at B1 T0 ⊢
  go_enter Tryz.func14, Tryz.ntmps14
  go_wp2_with fail
  generalize w.alloc (.cells #[.int .u8 kind, .int .i64 request, .string ⟨item.toArray⟩, .int .i64 qty, .int .i64 day, .int .i64 days, .int .i64 rank, .int .i64 lot, .int .i64 line, .slice PA Pn Pc, .slice QA On Oc] 29) = w0 at *
  obtain ⟨bx, hbx⟩ : ∃ bx, bx = w.heap.size := ⟨_, rfl⟩
  rw [← hbx] at B1 ⊢
  have hbx0 := hbx
  clear hbx
  have hbx := Lib.hid hbx0
  clear hbx0
  have hg := great_any ⟨kind, request, item, qty, day, days, rank, lot, line, parts, others⟩ ⟨⟨PA, Pn, Pc⟩, ⟨QA, On, Oc⟩⟩ w0 (H.out.fresh T0.out)
  unfold askC strV at hg
  simp only at hg
  cases hgb : greatB ⟨kind, request, item, qty, day, days, rank, lot, line, parts, others⟩ with
  | true =>
    rw [hgb] at hg
    refine hg.mono ?_
    clear hg
    rintro e w1 ⟨rfl, t1⟩
    have T1 := Lib.hid (T0.out.and_ t1)
    clear t1
    go_wp2_with fail
    refine (awake13_any _ (KS.out.fresh T1.out)).mono ?_
    rintro e w2 ⟨rfl, t2⟩
    have T2 := Lib.hid (T1.out.and_ t2)
    clear t2
    go_wp2_with fail
    go_ret
    exact ⟨rfl, T2.out⟩
  | false =>
    rw [hgb] at hg
    have hs := HS.out hgb
    have hsm := Lib.hid hs.1
    have hpm := Lib.hid hs.2
    clear HS hs
    refine hg.mono ?_
    clear hg hgb
    rintro e w1 ⟨rfl, t1⟩
    have T1 := Lib.hid (T0.out.and_ t1)
    have B1 := Lib.hid (B1.out.turned t1 (fun e => e))
    clear t1 T0
    obtain ⟨x0, x1, x2, x3, x4, x5, x6, x7, x8, x9, x10⟩ := B1.out.cells11
    go_wp2_with fail
    clear x0 x1 x2 x3 x4 x5 x6 x7 x8 x9 x10
    have hb1 := Lib.hid B1.out.lt
    have hl := lentA_any ⟨kind, request, item, qty, day, days, rank, lot, line, parts, others⟩ ⟨⟨PA, Pn, Pc⟩, ⟨QA, On, Oc⟩⟩ w1 (H.out.fresh T1.out) hsm.out
    unfold askC strV at hl
    simp only at hl
    refine hl.mono ?_
    clear hl
    rintro e w2 ⟨gq, gx, rfl, hli, t2⟩
    have T2 := Lib.hid (T1.out.and_ t2)
    have B1 := Lib.hid (B1.out.turned t2 (fun e => e))
    have hgB := Lib.hid (Nat.lt_of_lt_of_le hb1.out hli.b0)
    have hgp := Lib.hid hli.x.lt
    have hbk := Lib.hid hli
    clear hli
    obtain ⟨bz, hbz⟩ : ∃ bz, bz = w2.heap.size := ⟨_, rfl⟩
    have B3 := Lib.hid (Blk.new_at (k := bz) w2 29 #[.int .u8 kind, .int .i64 request, .string ⟨item.toArray⟩, .int .i64 qty, .int .i64 day, .int .i64 days, .int .i64 rank, .int .i64 lot, .int .i64 line, .slice (some ⟨gq, 0, none⟩) Pn (Pn + 12), .slice (some ⟨gx, 0, none⟩) On (On + 12)] hbz.symm)
    have t3 := (Turned.refl (fun _ => False) w2).alloc (.cells #[.int .u8 kind, .int .i64 request, .string ⟨item.toArray⟩, .int .i64 qty, .int .i64 day, .int .i64 days, .int .i64 rank, .int .i64 lot, .int .i64 line, .slice (some ⟨gq, 0, none⟩) Pn (Pn + 12), .slice (some ⟨gx, 0, none⟩) On (On + 12)] 29)
    have T3 := Lib.hid (T2.out.and_ t3)
    have B1 := Lib.hid (B1.out.turned t3 (fun e => e))
    have LI := Lib.hid (hbk.out.fresh t3)
    have hord := Lib.hid (And.intro hbk.out.b0 hbk.out.b1)
    unfold askC lentS strV
    simp only
    obtain ⟨x0, x1, x2, x3, x4, x5, x6, x7, x8, x9, x10⟩ := B1.out.cells11
    have z0 : (w2.alloc (.cells #[.int .u8 kind, .int .i64 request, .string ⟨item.toArray⟩, .int .i64 qty, .int .i64 day, .int .i64 days, .int .i64 rank, .int .i64 lot, .int .i64 line, .slice (some ⟨gq, 0, none⟩) Pn (Pn + 12), .slice (some ⟨gx, 0, none⟩) On (On + 12)] 29)).cell? ⟨w2.heap.size, 0, none⟩ = some (.int .u8 kind) := by rw [← hbz]; exact B3.out.cell 0
    have z1 : (w2.alloc (.cells #[.int .u8 kind, .int .i64 request, .string ⟨item.toArray⟩, .int .i64 qty, .int .i64 day, .int .i64 days, .int .i64 rank, .int .i64 lot, .int .i64 line, .slice (some ⟨gq, 0, none⟩) Pn (Pn + 12), .slice (some ⟨gx, 0, none⟩) On (On + 12)] 29)).cell? ⟨w2.heap.size, 1, none⟩ = some (.int .i64 request) := by rw [← hbz]; exact B3.out.cell 1
    have z2 : (w2.alloc (.cells #[.int .u8 kind, .int .i64 request, .string ⟨item.toArray⟩, .int .i64 qty, .int .i64 day, .int .i64 days, .int .i64 rank, .int .i64 lot, .int .i64 line, .slice (some ⟨gq, 0, none⟩) Pn (Pn + 12), .slice (some ⟨gx, 0, none⟩) On (On + 12)] 29)).cell? ⟨w2.heap.size, 2, none⟩ = some (.string ⟨item.toArray⟩) := by rw [← hbz]; exact B3.out.cell 2
    have z3 : (w2.alloc (.cells #[.int .u8 kind, .int .i64 request, .string ⟨item.toArray⟩, .int .i64 qty, .int .i64 day, .int .i64 days, .int .i64 rank, .int .i64 lot, .int .i64 line, .slice (some ⟨gq, 0, none⟩) Pn (Pn + 12), .slice (some ⟨gx, 0, none⟩) On (On + 12)] 29)).cell? ⟨w2.heap.size, 3, none⟩ = some (.int .i64 qty) := by rw [← hbz]; exact B3.out.cell 3
    have z4 : (w2.alloc (.cells #[.int .u8 kind, .int .i64 request, .string ⟨item.toArray⟩, .int .i64 qty, .int .i64 day, .int .i64 days, .int .i64 rank, .int .i64 lot, .int .i64 line, .slice (some ⟨gq, 0, none⟩) Pn (Pn + 12), .slice (some ⟨gx, 0, none⟩) On (On + 12)] 29)).cell? ⟨w2.heap.size, 4, none⟩ = some (.int .i64 day) := by rw [← hbz]; exact B3.out.cell 4
    have z5 : (w2.alloc (.cells #[.int .u8 kind, .int .i64 request, .string ⟨item.toArray⟩, .int .i64 qty, .int .i64 day, .int .i64 days, .int .i64 rank, .int .i64 lot, .int .i64 line, .slice (some ⟨gq, 0, none⟩) Pn (Pn + 12), .slice (some ⟨gx, 0, none⟩) On (On + 12)] 29)).cell? ⟨w2.heap.size, 5, none⟩ = some (.int .i64 days) := by rw [← hbz]; exact B3.out.cell 5
    have z6 : (w2.alloc (.cells #[.int .u8 kind, .int .i64 request, .string ⟨item.toArray⟩, .int .i64 qty, .int .i64 day, .int .i64 days, .int .i64 rank, .int .i64 lot, .int .i64 line, .slice (some ⟨gq, 0, none⟩) Pn (Pn + 12), .slice (some ⟨gx, 0, none⟩) On (On + 12)] 29)).cell? ⟨w2.heap.size, 6, none⟩ = some (.int .i64 rank) := by rw [← hbz]; exact B3.out.cell 6
    have z7 : (w2.alloc (.cells #[.int .u8 kind, .int .i64 request, .string ⟨item.toArray⟩, .int .i64 qty, .int .i64 day, .int .i64 days, .int .i64 rank, .int .i64 lot, .int .i64 line, .slice (some ⟨gq, 0, none⟩) Pn (Pn + 12), .slice (some ⟨gx, 0, none⟩) On (On + 12)] 29)).cell? ⟨w2.heap.size, 7, none⟩ = some (.int .i64 lot) := by rw [← hbz]; exact B3.out.cell 7
    have z8 : (w2.alloc (.cells #[.int .u8 kind, .int .i64 request, .string ⟨item.toArray⟩, .int .i64 qty, .int .i64 day, .int .i64 days, .int .i64 rank, .int .i64 lot, .int .i64 line, .slice (some ⟨gq, 0, none⟩) Pn (Pn + 12), .slice (some ⟨gx, 0, none⟩) On (On + 12)] 29)).cell? ⟨w2.heap.size, 8, none⟩ = some (.int .i64 line) := by rw [← hbz]; exact B3.out.cell 8
    have z9 : (w2.alloc (.cells #[.int .u8 kind, .int .i64 request, .string ⟨item.toArray⟩, .int .i64 qty, .int .i64 day, .int .i64 days, .int .i64 rank, .int .i64 lot, .int .i64 line, .slice (some ⟨gq, 0, none⟩) Pn (Pn + 12), .slice (some ⟨gx, 0, none⟩) On (On + 12)] 29)).cell? ⟨w2.heap.size, 9, none⟩ = some (.slice (some ⟨gq, 0, none⟩) Pn (Pn + 12)) := by rw [← hbz]; exact B3.out.cell 9
    have z10 : (w2.alloc (.cells #[.int .u8 kind, .int .i64 request, .string ⟨item.toArray⟩, .int .i64 qty, .int .i64 day, .int .i64 days, .int .i64 rank, .int .i64 lot, .int .i64 line, .slice (some ⟨gq, 0, none⟩) Pn (Pn + 12), .slice (some ⟨gx, 0, none⟩) On (On + 12)] 29)).cell? ⟨w2.heap.size, 10, none⟩ = some (.slice (some ⟨gx, 0, none⟩) On (On + 12)) := by rw [← hbz]; exact B3.out.cell 10
    clear t3 hbk T2
    go_wp2_with fail
    clear x0 x1 x2 x3 x4 x5 x6 x7 x8 x9 x10 z0 z1 z2 z3 z4 z5 z6 z7 z8 z9 z10
    have hbz0 := hbz
    rw [← hbz0]
    clear hbz
    have hbz := Lib.hid hbz0
    clear hbz0
    generalize w2.alloc (.cells #[.int .u8 kind, .int .i64 request, .string ⟨item.toArray⟩, .int .i64 qty, .int .i64 day, .int .i64 days, .int .i64 rank, .int .i64 lot, .int .i64 line, .slice (some ⟨gq, 0, none⟩) Pn (Pn + 12), .slice (some ⟨gx, 0, none⟩) On (On + 12)] 29) = w3 at *
    have hs3 := Lib.hid (show gx < w3.heap.size from LI.out.x.lt)
    have T3s := Lib.hid T3.out.size
    have IL := Lib.hid (fun (w' : World) (t : Turned (fun _ => False) w3 w') => (LI.out.fresh t).is H.out hsm.out)
    generalize hps : putA ⟨kind, request, item, qty, day, days, rank, lot, line, parts, others⟩ = ps at hpl
    obtain ⟨rr, hrr⟩ : ∃ rr, rightA ⟨kind, request, item, qty, day, days, rank, lot, line, parts, others⟩ = rr := ⟨_, rfl⟩
    obtain ⟨ec, hec⟩ : ∃ ec : Int, (if rr = true then (0 : Int) else 2) = ec := ⟨_, rfl⟩
    have hp := ask_put_any ⟨kind, request, item, qty, day, days, rank, lot, line, parts, others⟩ (lentS ⟨⟨PA, Pn, Pc⟩, ⟨QA, On, Oc⟩⟩ gq gx) w3 (IL.out _ (Turned.refl _ _)) HK.out (KS.out.fresh T3.out) hpm.out
    unfold askC lentS strV at hp
    simp only at hp
    refine hp.mono ?_
    clear hp
    intro e w4 hp
    have hp := hp.one
    rw [hps, hrr, hec] at hp
    obtain ⟨A4, c4, rfl, o4, g4, t4⟩ := hp
    have T4 := Lib.hid (T3.out.and_ t4)
    have U4 := Lib.hid t4
    have O4 := Lib.hid o4
    have G4 := Lib.hid g4
    have B1 := Lib.hid (B1.out.turned t4 (fun e => by exact e))
    have B3 := Lib.hid (B3.out.turned t4 (fun e => by exact e))
    clear t4 o4 g4 T3
    obtain ⟨x0, x1, x2, x3, x4, x5, x6, x7, x8, x9, x10⟩ := B1.out.cells11
    obtain ⟨z0, z1, z2, z3, z4, z5, z6, z7, z8, z9, z10⟩ := B3.out.cells11
    go_wp2_with fail
    clear x0 x1 x2 x3 x4 x5 x6 x7 x8 x9 x10 z0 z1 z2 z3 z4 z5 z6 z7 z8 z9 z10
    have hp := ask_put_any ⟨kind, request, item, qty, day, days, rank, lot, line, parts, others⟩ (lentS ⟨⟨PA, Pn, Pc⟩, ⟨QA, On, Oc⟩⟩ gq gx) w4 (IL.out _ U4.out) HK.out (KS.out.fresh T4.out) hpm.out
    unfold askC lentS strV at hp
    simp only at hp
    refine hp.mono ?_
    clear hp
    intro e w5 hp
    have hp := hp.one
    rw [hps, hrr, hec] at hp
    obtain ⟨A5, c5, rfl, o5, g5, t5⟩ := hp
    have T5 := Lib.hid (T4.out.and_ t5)
    have U5 := Lib.hid (U4.out.and_ t5)
    have O4lt := Lib.hid (fun g (e : A4 = some ⟨g, 0, none⟩) => O4.out.lt e)
    have O4 := Lib.hid (O4.out.turned t5 (fun _ _ e => e))
    have O5 := Lib.hid o5
    have N5 := Lib.hid (show ∀ g, A4 = some ⟨g, 0, none⟩ → A5 ≠ some ⟨g, 0, none⟩ from fun g e e' => by have := O4lt.out g e; have := g5 g e'; omega)
    have G5 := Lib.hid (fun g e => Nat.le_trans U4.out.size (g5 g e))
    have B1 := Lib.hid (B1.out.turned t5 (fun e => by exact e))
    have B3 := Lib.hid (B3.out.turned t5 (fun e => by exact e))
    clear t5 o5 g5 T4 U4
    obtain ⟨x0, x1, x2, x3, x4, x5, x6, x7, x8, x9, x10⟩ := B1.out.cells11
    obtain ⟨z0, z1, z2, z3, z4, z5, z6, z7, z8, z9, z10⟩ := B3.out.cells11
    go_wp2_with fail
    clear x0 x1 x2 x3 x4 x5 x6 x7 x8 x9 x10 z0 z1 z2 z3 z4 z5 z6 z7 z8 z9 z10
    have hr := ask_right_any ⟨kind, request, item, qty, day, days, rank, lot, line, parts, others⟩ (lentS ⟨⟨PA, Pn, Pc⟩, ⟨QA, On, Oc⟩⟩ gq gx) w5 (IL.out _ U5.out) HK.out (KS.out.fresh T5.out) hpm.out
    unfold askC lentS strV at hr
    simp only at hr
    rw [hrr] at hr
    refine hr.mono ?_
    clear hr
    rintro e w6 ⟨rfl, t6⟩
    have T6 := Lib.hid (T5.out.and_ t6)
    have U6 := Lib.hid (U5.out.and_ t6)
    have O4 := Lib.hid (O4.out.turned t6 (fun _ _ e => e))
    have O5 := Lib.hid (O5.out.turned t6 (fun _ _ e => e))
    have B1 := Lib.hid (B1.out.turned t6 (fun e => by exact e))
    have B3 := Lib.hid (B3.out.turned t6 (fun e => by exact e))
    clear t6 T5 U5
    obtain ⟨x0, x1, x2, x3, x4, x5, x6, x7, x8, x9, x10⟩ := B1.out.cells11
    obtain ⟨z0, z1, z2, z3, z4, z5, z6, z7, z8, z9, z10⟩ := B3.out.cells11
    go_wp2_with fail
    clear x0 x1 x2 x3 x4 x5 x6 x7 x8 x9 x10 z0 z1 z2 z3 z4 z5 z6 z7 z8 z9 z10
    have hq := keptA_any ⟨kind, request, item, qty, day, days, rank, lot, line, parts, others⟩ ⟨⟨PA, Pn, Pc⟩, ⟨QA, On, Oc⟩⟩ gq gx _ w6 (H.out.fresh T6.out) (LI.out.fresh U6.out) hsm.out
    unfold askC lentS strV at hq
    simp only at hq
    refine hq.mono ?_
    clear hq
    rintro e w7 ⟨rfl, t7⟩
    have T7 := Lib.hid (T6.out.and_ t7)
    have U7 := Lib.hid (U6.out.and_ t7)
    have O4 := Lib.hid (O4.out.turned t7 (fun _ _ e => e))
    have O5 := Lib.hid (O5.out.turned t7 (fun _ _ e => e))
    have B1 := Lib.hid (B1.out.turned t7 (fun e => by exact e))
    have B3 := Lib.hid (B3.out.turned t7 (fun e => by exact e))
    clear t7 T6 U6
    obtain ⟨x0, x1, x2, x3, x4, x5, x6, x7, x8, x9, x10⟩ := B1.out.cells11
    obtain ⟨z0, z1, z2, z3, z4, z5, z6, z7, z8, z9, z10⟩ := B3.out.cells11
    go_wp2_with fail
    clear x0 x1 x2 x3 x4 x5 x6 x7 x8 x9 x10 z0 z1 z2 z3 z4 z5 z6 z7 z8 z9 z10
    have hv := overA_any ⟨kind, request, item, qty, day, days, rank, lot, line, parts, others⟩ ⟨⟨PA, Pn, Pc⟩, ⟨QA, On, Oc⟩⟩ gq gx _ w7 (LI.out.fresh U7.out) hsm.out
    unfold askC lentS strV at hv
    simp only at hv
    refine hv.mono ?_
    clear hv
    rintro e w8 ⟨rfl, t8⟩
    obtain ⟨p0, p1⟩ := hord.out
    have p5 := hgp.out
    have p6 := hgB.out
    have p7 := hbz.out
    have p8 := T1.out.size
    have p9 := hbx.out
    have p10 := hb1.out
    have p11 := hs3.out
    have T8 := Lib.hid (T7.out.trans (W := fun _ => False) t8 (fun _ e => e) (fun i e => .inr (by omega)))
    have O4 := Lib.hid (O4.out.turned t8 (fun g e e2 => by have := G4.out g e; omega))
    have O5 := Lib.hid (O5.out.turned t8 (fun g e e2 => by have := G5.out g e; omega))
    have B1 := Lib.hid (B1.out.turned t8 (fun e => by omega))
    have B3 := Lib.hid (B3.out.turned t8 (fun e => by omega))
    clear t8 T7 U7 p0 p1 p5 p6 p7 p8 p9 p10 p11
    obtain ⟨x0, x1, x2, x3, x4, x5, x6, x7, x8, x9, x10⟩ := B1.out.cells11
    go_wp2_with fail
    clear x0 x1 x2 x3 x4 x5 x6 x7 x8 x9 x10
    have hf := rask_put_any ⟨kind, request, item, qty, day, days, rank, lot, line, parts, others⟩ ⟨⟨PA, Pn, Pc⟩, ⟨QA, On, Oc⟩⟩ w8 (H.out.fresh T8.out) HK.out
    unfold askC strV at hf
    simp only at hf
    refine hf.mono ?_
    clear hf
    intro e w9 hf
    have hf := hf.one
    rw [hps, hrr, hec] at hf
    obtain ⟨A9, c9, rfl, o9, g9, t9⟩ := hf
    have T9 := Lib.hid (T8.out.and_ t9)
    have O4 := Lib.hid (O4.out.turned t9 (fun _ _ e => e))
    have O5 := Lib.hid (O5.out.turned t9 (fun _ _ e => e))
    have O9 := Lib.hid o9
    have B1 := Lib.hid (B1.out.turned t9 (fun e => e))
    clear t9 o9 g9 T8 B3
    obtain ⟨x0, x1, x2, x3, x4, x5, x6, x7, x8, x9, x10⟩ := B1.out.cells11
    go_wp2_with fail
    clear x0 x1 x2 x3 x4 x5 x6 x7 x8 x9 x10
    have hh := rright13_any ⟨kind, request, item, qty, day, days, rank, lot, line, parts, others⟩ ⟨⟨PA, Pn, Pc⟩, ⟨QA, On, Oc⟩⟩ w9 (H.out.fresh T9.out) HK.out
    unfold askC strV at hh
    simp only at hh
    rw [hrr] at hh
    refine hh.mono ?_
    clear hh
    rintro e w10 ⟨rfl, t10⟩
    have T10 := Lib.hid (T9.out.and_ t10)
    have O4 := Lib.hid (O4.out.turned t10 (fun _ _ e => e))
    have O5 := Lib.hid (O5.out.turned t10 (fun _ _ e => e))
    have O9 := Lib.hid (O9.out.turned t10 (fun _ _ e => e))
    clear t10 T9 B1
    have hbb : (rr == rr) = true := by cases rr <;> rfl
    go_wp2_with fail
    refine (same_yes A4 A9 ps.length ps.length c4 c9 ps ps w10 O4.out.bytS'.toBytR O9.out.bytS'.toBytR rfl).mono ?_
    rintro e w11 ⟨rfl, nq, rfl⟩
    go_wp2_with fail
    have hL := heap_alloc_new (w10.drewN nq) (.cells #[.slice A4 ps.length c4, .slice A5 ps.length c5] 22)
    have tq := ((Turned.refl (fun _ => False) w10).drewN nq).alloc (.cells #[.slice A4 ps.length c4, .slice A5 ps.length c5] 22)
    refine (apart_two (w0 := w) hL (O4.out.turned tq (fun _ _ e => e)) (O5.out.turned tq (fun _ _ e => e)) N5.out (by omega) (by omega) (fun g e => Nat.le_trans T3s.out (G4.out g e)) (fun g e => Nat.le_trans T3s.out (G5.out g e)) (T10.out.and_ tq)).mono ?_
    rintro e w12 ⟨rfl, t12⟩
    clear hL tq
    have T12 := Lib.hid t12
    clear t12
    go_wp2_with fail
    refine (awake13_any _ (KS.out.fresh T12.out)).mono ?_
    rintro e w13 ⟨rfl, t13⟩
    have T13 := Lib.hid (T12.out.and_ t13)
    clear t13
    go_wp2_with fail
    go_ret
    exact ⟨rfl, T13.out⟩
end Go.Proofs.YtijmfglgeaaoaaaGreatDoor

