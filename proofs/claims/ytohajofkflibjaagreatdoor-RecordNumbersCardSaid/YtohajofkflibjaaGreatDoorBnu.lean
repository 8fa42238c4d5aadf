/-
  storemanlaw19.bent, the other fourteen of its cases.
-/
import Derived.Test.YtohajofkflibjaaGreatDoorBnA
namespace Go.Proofs.YtohajofkflibjaaGreatDoor
open Go.RowKit Go.Maps
set_option linter.unusedVariables false
set_option linter.unusedSimpArgs false

set_option maxRecDepth 100000 in
set_option maxHeartbeats 1000000 in
theorem bent_14 (R : Rec) (S : RecS) (w : World) (h : RecIs w R S) (hk : R.Ok) : Calls Tryz.prog 25 #[.agg (recC R S), .int .i64 14] w (BentP w) := by
  have H := Lib.hid h
  clear h
  have m201 := run201
  obtain ⟨lsn, work, prev, next, kind, page, key, old, new, dirty, opn⟩ := R
  obtain ⟨⟨KA, Kn, Kc⟩, ⟨OA, On, Oc⟩, ⟨NA, Nn, Nc⟩, ⟨DA, Dn, Dc⟩, ⟨PA, Pn, Pc⟩⟩ := S
  unfold recC
  simp only
  go_enter Tryz.func25, Tryz.ntmps25
  go_wp2
  refine bodyPost_ret (v := .agg #[.int .i64 lsn, .int .i64 work, .int .i64 prev, .int .i64 next, .int .u8 kind, .int .i64 page, .slice KA Kn Kc, .slice none 0 0, .slice none 0 0, .slice DA Dn Dc, .slice PA Pn Pc]) (by simp [results, Tryz.results25, go_sem]) rfl ?_
  exact bent_fin ⟨lsn, work, prev, next, kind, page, key, [], [], dirty, opn⟩ ⟨⟨KA, Kn, Kc⟩, ⟨none, 0, 0⟩, ⟨none, 0, 0⟩, ⟨DA, Dn, Dc⟩, ⟨PA, Pn, Pc⟩⟩ H.out ((((Turned.refl (fun _ => False) w).alloc _).alloc _).alloc _) rfl (fun H' => ⟨H'.key, SlB.none0 _, SlB.none0 _, H'.dirty, H'.opn⟩) ⟨hk.lsn, hk.work, hk.prev, hk.next, hk.kind, hk.page, hk.key, (fun z hz => absurd hz (by simp)), (fun z hz => absurd hz (by simp)), hk.dirty, hk.opn⟩
set_option maxRecDepth 100000 in
set_option maxHeartbeats 1000000 in
theorem bent_15 (R : Rec) (S : RecS) (w : World) (h : RecIs w R S) (hk : R.Ok) : Calls Tryz.prog 25 #[.agg (recC R S), .int .i64 15] w (BentP w) := by
  have H := Lib.hid h
  clear h
  have m201 := run201
  obtain ⟨lsn, work, prev, next, kind, page, key, old, new, dirty, opn⟩ := R
  obtain ⟨⟨KA, Kn, Kc⟩, ⟨OA, On, Oc⟩, ⟨NA, Nn, Nc⟩, ⟨DA, Dn, Dc⟩, ⟨PA, Pn, Pc⟩⟩ := S
  unfold recC
  simp only
  go_enter Tryz.func25, Tryz.ntmps25
  go_wp2
  refine bodyPost_ret (v := .agg #[.int .i64 lsn, .int .i64 work, .int .i64 prev, .int .i64 next, .int .u8 kind, .int .i64 page, .slice KA Kn Kc, .slice OA On Oc, .slice NA Nn Nc, .slice (some ⟨w.heap.size + 1 + 1 + 1, 0, none⟩) 2 2, .slice PA Pn Pc]) (by simp [results, Tryz.results25, go_sem]) rfl ?_
  exact bent_fin ⟨lsn, work, prev, next, kind, page, key, old, new, [(1, 1), (1, 1)], opn⟩ ⟨⟨KA, Kn, Kc⟩, ⟨OA, On, Oc⟩, ⟨NA, Nn, Nc⟩, ⟨some ⟨w.heap.size + 1 + 1 + 1, 0, none⟩, 2, 2⟩, ⟨PA, Pn, Pc⟩⟩ H.out (((((Turned.refl (fun _ => False) w).alloc _).alloc _).alloc _).alloc _) rfl (fun H' => ⟨H'.key, H'.old, H'.new, RowE.slP0 (T := 52) ⟨rfl, Nat.le_refl _, by decide, _, Blk.new_at _ _ _ (by simp), rfl, rfl⟩ (by decide), H'.opn⟩) ⟨hk.lsn, hk.work, hk.prev, hk.next, hk.kind, hk.page, hk.key, hk.old, hk.new, (show ∀ p ∈ ([(1, 1), (1, 1)] : List (Int × Int)), I64 p.1 ∧ I64 p.2 by unfold I64; decide), hk.opn⟩
set_option maxRecDepth 100000 in
set_option maxHeartbeats 1000000 in
theorem bent_16 (R : Rec) (S : RecS) (w : World) (h : RecIs w R S) (hk : R.Ok) : Calls Tryz.prog 25 #[.agg (recC R S), .int .i64 16] w (BentP w) := by
  have H := Lib.hid h
  clear h
  have m201 := run201
  obtain ⟨lsn, work, prev, next, kind, page, key, old, new, dirty, opn⟩ := R
  obtain ⟨⟨KA, Kn, Kc⟩, ⟨OA, On, Oc⟩, ⟨NA, Nn, Nc⟩, ⟨DA, Dn, Dc⟩, ⟨PA, Pn, Pc⟩⟩ := S
  unfold recC
  simp only
  go_enter Tryz.func25, Tryz.ntmps25
  go_wp2
  refine bodyPost_ret (v := .agg #[.int .i64 lsn, .int .i64 work, .int .i64 prev, .int .i64 next, .int .u8 kind, .int .i64 page, .slice KA Kn Kc, .slice OA On Oc, .slice NA Nn Nc, .slice (some ⟨w.heap.size + 1 + 1 + 1, 0, none⟩) 1 1, .slice PA Pn Pc]) (by simp [results, Tryz.results25, go_sem]) rfl ?_
  exact bent_fin ⟨lsn, work, prev, next, kind, page, key, old, new, [(8192, 1)], opn⟩ ⟨⟨KA, Kn, Kc⟩, ⟨OA, On, Oc⟩, ⟨NA, Nn, Nc⟩, ⟨some ⟨w.heap.size + 1 + 1 + 1, 0, none⟩, 1, 1⟩, ⟨PA, Pn, Pc⟩⟩ H.out (((((Turned.refl (fun _ => False) w).alloc _).alloc _).alloc _).alloc _) rfl (fun H' => ⟨H'.key, H'.old, H'.new, RowE.slP0 (T := 52) ⟨rfl, Nat.le_refl _, by decide, _, Blk.new_at _ _ _ (by simp), rfl, rfl⟩ (by decide), H'.opn⟩) ⟨hk.lsn, hk.work, hk.prev, hk.next, hk.kind, hk.page, hk.key, hk.old, hk.new, (show ∀ p ∈ ([(8192, 1)] : List (Int × Int)), I64 p.1 ∧ I64 p.2 by unfold I64; decide), hk.opn⟩
set_option maxRecDepth 100000 in
set_option maxHeartbeats 1000000 in
theorem bent_17 (R : Rec) (S : RecS) (w : World) (h : RecIs w R S) (hk : R.Ok) : Calls Tryz.prog 25 #[.agg (recC R S), .int .i64 17] w (BentP w) := by
  have H := Lib.hid h
  clear h
  have m201 := run201
  obtain ⟨lsn, work, prev, next, kind, page, key, old, new, dirty, opn⟩ := R
  obtain ⟨⟨KA, Kn, Kc⟩, ⟨OA, On, Oc⟩, ⟨NA, Nn, Nc⟩, ⟨DA, Dn, Dc⟩, ⟨PA, Pn, Pc⟩⟩ := S
  unfold recC
  simp only
  go_enter Tryz.func25, Tryz.ntmps25
  go_wp2
  refine bodyPost_ret (v := .agg #[.int .i64 lsn, .int .i64 work, .int .i64 prev, .int .i64 next, .int .u8 kind, .int .i64 page, .slice KA Kn Kc, .slice OA On Oc, .slice NA Nn Nc, .slice (some ⟨w.heap.size + 1 + 1 + 1, 0, none⟩) 1 1, .slice PA Pn Pc]) (by simp [results, Tryz.results25, go_sem]) rfl ?_
  exact bent_fin ⟨lsn, work, prev, next, kind, page, key, old, new, [(1, 0)], opn⟩ ⟨⟨KA, Kn, Kc⟩, ⟨OA, On, Oc⟩, ⟨NA, Nn, Nc⟩, ⟨some ⟨w.heap.size + 1 + 1 + 1, 0, none⟩, 1, 1⟩, ⟨PA, Pn, Pc⟩⟩ H.out (((((Turned.refl (fun _ => False) w).alloc _).alloc _).alloc _).alloc _) rfl (fun H' => ⟨H'.key, H'.old, H'.new, RowE.slP0 (T := 52) ⟨rfl, Nat.le_refl _, by decide, _, Blk.new_at _ _ _ (by simp), rfl, rfl⟩ (by decide), H'.opn⟩) ⟨hk.lsn, hk.work, hk.prev, hk.next, hk.kind, hk.page, hk.key, hk.old, hk.new, (show ∀ p ∈ ([(1, 0)] : List (Int × Int)), I64 p.1 ∧ I64 p.2 by unfold I64; decide), hk.opn⟩
set_option maxRecDepth 100000 in
set_option maxHeartbeats 1000000 in
theorem bent_18 (R : Rec) (S : RecS) (w : World) (h : RecIs w R S) (hk : R.Ok) : Calls Tryz.prog 25 #[.agg (recC R S), .int .i64 18] w (BentP w) := by
  have H := Lib.hid h
  clear h
  have m201 := run201
  obtain ⟨lsn, work, prev, next, kind, page, key, old, new, dirty, opn⟩ := R
  obtain ⟨⟨KA, Kn, Kc⟩, ⟨OA, On, Oc⟩, ⟨NA, Nn, Nc⟩, ⟨DA, Dn, Dc⟩, ⟨PA, Pn, Pc⟩⟩ := S
  unfold recC
  simp only
  go_enter Tryz.func25, Tryz.ntmps25
  go_wp2
  refine bodyPost_ret (v := .agg #[.int .i64 lsn, .int .i64 work, .int .i64 prev, .int .i64 next, .int .u8 kind, .int .i64 page, .slice KA Kn Kc, .slice OA On Oc, .slice NA Nn Nc, .slice DA Dn Dc, .slice (some ⟨w.heap.size + 1 + 1 + 1, 0, none⟩) 2 2]) (by simp [results, Tryz.results25, go_sem]) rfl ?_
  exact bent_fin ⟨lsn, work, prev, next, kind, page, key, old, new, dirty, [(2, 1), (1, 1)]⟩ ⟨⟨KA, Kn, Kc⟩, ⟨OA, On, Oc⟩, ⟨NA, Nn, Nc⟩, ⟨DA, Dn, Dc⟩, ⟨some ⟨w.heap.size + 1 + 1 + 1, 0, none⟩, 2, 2⟩⟩ H.out (((((Turned.refl (fun _ => False) w).alloc _).alloc _).alloc _).alloc _) rfl (fun H' => ⟨H'.key, H'.old, H'.new, H'.dirty, RowE.slP0 (T := 54) ⟨rfl, Nat.le_refl _, by decide, _, Blk.new_at _ _ _ (by simp), rfl, rfl⟩ (by decide)⟩) ⟨hk.lsn, hk.work, hk.prev, hk.next, hk.kind, hk.page, hk.key, hk.old, hk.new, hk.dirty, (show ∀ p ∈ ([(2, 1), (1, 1)] : List (Int × Int)), I64 p.1 ∧ I64 p.2 by unfold I64; decide)⟩
set_option maxRecDepth 100000 in
set_option maxHeartbeats 1000000 in
theorem bent_19 (R : Rec) (S : RecS) (w : World) (h : RecIs w R S) (hk : R.Ok) : Calls Tryz.prog 25 #[.agg (recC R S), .int .i64 19] w (BentP w) := by
  have H := Lib.hid h
  clear h
  have m201 := run201
  obtain ⟨lsn, work, prev, next, kind, page, key, old, new, dirty, opn⟩ := R
  obtain ⟨⟨KA, Kn, Kc⟩, ⟨OA, On, Oc⟩, ⟨NA, Nn, Nc⟩, ⟨DA, Dn, Dc⟩, ⟨PA, Pn, Pc⟩⟩ := S
  unfold recC
  simp only
  go_enter Tryz.func25, Tryz.ntmps25
  go_wp2
  refine bodyPost_ret (v := .agg #[.int .i64 lsn, .int .i64 work, .int .i64 prev, .int .i64 next, .int .u8 kind, .int .i64 page, .slice KA Kn Kc, .slice OA On Oc, .slice NA Nn Nc, .slice DA Dn Dc, .slice (some ⟨w.heap.size + 1 + 1 + 1, 0, none⟩) 1 1]) (by simp [results, Tryz.results25, go_sem]) rfl ?_
  exact bent_fin ⟨lsn, work, prev, next, kind, page, key, old, new, dirty, [(0, 1)]⟩ ⟨⟨KA, Kn, Kc⟩, ⟨OA, On, Oc⟩, ⟨NA, Nn, Nc⟩, ⟨DA, Dn, Dc⟩, ⟨some ⟨w.heap.size + 1 + 1 + 1, 0, none⟩, 1, 1⟩⟩ H.out (((((Turned.refl (fun _ => False) w).alloc _).alloc _).alloc _).alloc _) rfl (fun H' => ⟨H'.key, H'.old, H'.new, H'.dirty, RowE.slP0 (T := 54) ⟨rfl, Nat.le_refl _, by decide, _, Blk.new_at _ _ _ (by simp), rfl, rfl⟩ (by decide)⟩) ⟨hk.lsn, hk.work, hk.prev, hk.next, hk.kind, hk.page, hk.key, hk.old, hk.new, hk.dirty, (show ∀ p ∈ ([(0, 1)] : List (Int × Int)), I64 p.1 ∧ I64 p.2 by unfold I64; decide)⟩
set_option maxRecDepth 100000 in
set_option maxHeartbeats 1000000 in
theorem bent_20 (R : Rec) (S : RecS) (w : World) (h : RecIs w R S) (hk : R.Ok) : Calls Tryz.prog 25 #[.agg (recC R S), .int .i64 20] w (BentP w) := by
  have H := Lib.hid h
  clear h
  have m201 := run201
  obtain ⟨lsn, work, prev, next, kind, page, key, old, new, dirty, opn⟩ := R
  obtain ⟨⟨KA, Kn, Kc⟩, ⟨OA, On, Oc⟩, ⟨NA, Nn, Nc⟩, ⟨DA, Dn, Dc⟩, ⟨PA, Pn, Pc⟩⟩ := S
  unfold recC
  simp only
  go_enter Tryz.func25, Tryz.ntmps25
  go_wp2
  refine bodyPost_ret (v := .agg #[.int .i64 lsn, .int .i64 work, .int .i64 prev, .int .i64 next, .int .u8 kind, .int .i64 page, .slice KA Kn Kc, .slice OA On Oc, .slice NA Nn Nc, .slice DA Dn Dc, .slice (some ⟨w.heap.size + 1 + 1 + 1, 0, none⟩) 1 1]) (by simp [results, Tryz.results25, go_sem]) rfl ?_
  exact bent_fin ⟨lsn, work, prev, next, kind, page, key, old, new, dirty, [(1, 0)]⟩ ⟨⟨KA, Kn, Kc⟩, ⟨OA, On, Oc⟩, ⟨NA, Nn, Nc⟩, ⟨DA, Dn, Dc⟩, ⟨some ⟨w.heap.size + 1 + 1 + 1, 0, none⟩, 1, 1⟩⟩ H.out (((((Turned.refl (fun _ => False) w).alloc _).alloc _).alloc _).alloc _) rfl (fun H' => ⟨H'.key, H'.old, H'.new, H'.dirty, RowE.slP0 (T := 54) ⟨rfl, Nat.le_refl _, by decide, _, Blk.new_at _ _ _ (by simp), rfl, rfl⟩ (by decide)⟩) ⟨hk.lsn, hk.work, hk.prev, hk.next, hk.kind, hk.page, hk.key, hk.old, hk.new, hk.dirty, (show ∀ p ∈ ([(1, 0)] : List (Int × Int)), I64 p.1 ∧ I64 p.2 by unfold I64; decide)⟩
set_option maxRecDepth 100000 in
set_option maxHeartbeats 1000000 in
theorem bent_21 (R : Rec) (S : RecS) (w : World) (h : RecIs w R S) (hk : R.Ok) : Calls Tryz.prog 25 #[.agg (recC R S), .int .i64 21] w (BentP w) := by
  have H := Lib.hid h
  clear h
  have m201 := run201
  obtain ⟨lsn, work, prev, next, kind, page, key, old, new, dirty, opn⟩ := R
  obtain ⟨⟨KA, Kn, Kc⟩, ⟨OA, On, Oc⟩, ⟨NA, Nn, Nc⟩, ⟨DA, Dn, Dc⟩, ⟨PA, Pn, Pc⟩⟩ := S
  unfold recC
  simp only
  go_enter Tryz.func25, Tryz.ntmps25
  go_wp2
  refine bodyPost_ret (v := .agg #[.int .i64 (-5), .int .i64 work, .int .i64 prev, .int .i64 next, .int .u8 kind, .int .i64 page, .slice KA Kn Kc, .slice OA On Oc, .slice NA Nn Nc, .slice DA Dn Dc, .slice PA Pn Pc]) (by simp [results, Tryz.results25, go_sem]) rfl ?_
  exact bent_fin ⟨(-5), work, prev, next, kind, page, key, old, new, dirty, opn⟩ ⟨⟨KA, Kn, Kc⟩, ⟨OA, On, Oc⟩, ⟨NA, Nn, Nc⟩, ⟨DA, Dn, Dc⟩, ⟨PA, Pn, Pc⟩⟩ H.out ((((Turned.refl (fun _ => False) w).alloc _).alloc _).alloc _) rfl (fun H' => ⟨H'.key, H'.old, H'.new, H'.dirty, H'.opn⟩) ⟨(show I64 (-5) from ⟨by decide, by decide⟩), hk.work, hk.prev, hk.next, hk.kind, hk.page, hk.key, hk.old, hk.new, hk.dirty, hk.opn⟩
set_option maxRecDepth 100000 in
set_option maxHeartbeats 1000000 in
theorem bent_22 (R : Rec) (S : RecS) (w : World) (h : RecIs w R S) (hk : R.Ok) : Calls Tryz.prog 25 #[.agg (recC R S), .int .i64 22] w (BentP w) := by
  have H := Lib.hid h
  clear h
  have m201 := run201
  obtain ⟨lsn, work, prev, next, kind, page, key, old, new, dirty, opn⟩ := R
  obtain ⟨⟨KA, Kn, Kc⟩, ⟨OA, On, Oc⟩, ⟨NA, Nn, Nc⟩, ⟨DA, Dn, Dc⟩, ⟨PA, Pn, Pc⟩⟩ := S
  unfold recC
  simp only
  go_enter Tryz.func25, Tryz.ntmps25
  go_wp2
  refine bodyPost_ret (v := .agg #[.int .i64 lsn, .int .i64 work, .int .i64 prev, .int .i64 next, .int .u8 kind, .int .i64 1, .slice KA Kn Kc, .slice OA On Oc, .slice NA Nn Nc, .slice DA Dn Dc, .slice PA Pn Pc]) (by simp [results, Tryz.results25, go_sem]) rfl ?_
  exact bent_fin ⟨lsn, work, prev, next, kind, 1, key, old, new, dirty, opn⟩ ⟨⟨KA, Kn, Kc⟩, ⟨OA, On, Oc⟩, ⟨NA, Nn, Nc⟩, ⟨DA, Dn, Dc⟩, ⟨PA, Pn, Pc⟩⟩ H.out ((((Turned.refl (fun _ => False) w).alloc _).alloc _).alloc _) rfl (fun H' => ⟨H'.key, H'.old, H'.new, H'.dirty, H'.opn⟩) ⟨hk.lsn, hk.work, hk.prev, hk.next, hk.kind, (show I64 1 from ⟨by decide, by decide⟩), hk.key, hk.old, hk.new, hk.dirty, hk.opn⟩
set_option maxRecDepth 100000 in
set_option maxHeartbeats 1000000 in
theorem bent_23 (R : Rec) (S : RecS) (w : World) (h : RecIs w R S) (hk : R.Ok) : Calls Tryz.prog 25 #[.agg (recC R S), .int .i64 23] w (BentP w) := by
  have H := Lib.hid h
  clear h
  have m201 := run201
  obtain ⟨lsn, work, prev, next, kind, page, key, old, new, dirty, opn⟩ := R
  obtain ⟨⟨KA, Kn, Kc⟩, ⟨OA, On, Oc⟩, ⟨NA, Nn, Nc⟩, ⟨DA, Dn, Dc⟩, ⟨PA, Pn, Pc⟩⟩ := S
  unfold recC
  simp only
  go_enter Tryz.func25, Tryz.ntmps25
  go_wp2
  refine bodyPost_ret (v := .agg #[.int .i64 lsn, .int .i64 1, .int .i64 prev, .int .i64 next, .int .u8 kind, .int .i64 page, .slice KA Kn Kc, .slice OA On Oc, .slice NA Nn Nc, .slice DA Dn Dc, .slice PA Pn Pc]) (by simp [results, Tryz.results25, go_sem]) rfl ?_
  exact bent_fin ⟨lsn, 1, prev, next, kind, page, key, old, new, dirty, opn⟩ ⟨⟨KA, Kn, Kc⟩, ⟨OA, On, Oc⟩, ⟨NA, Nn, Nc⟩, ⟨DA, Dn, Dc⟩, ⟨PA, Pn, Pc⟩⟩ H.out ((((Turned.refl (fun _ => False) w).alloc _).alloc _).alloc _) rfl (fun H' => ⟨H'.key, H'.old, H'.new, H'.dirty, H'.opn⟩) ⟨hk.lsn, (show I64 1 from ⟨by decide, by decide⟩), hk.prev, hk.next, hk.kind, hk.page, hk.key, hk.old, hk.new, hk.dirty, hk.opn⟩
set_option maxRecDepth 100000 in
set_option maxHeartbeats 1000000 in
theorem bent_24 (R : Rec) (S : RecS) (w : World) (h : RecIs w R S) (hk : R.Ok) : Calls Tryz.prog 25 #[.agg (recC R S), .int .i64 24] w (BentP w) := by
  have H := Lib.hid h
  clear h
  have m201 := run201
  have kc := fun (w : World) (C : Array Value) (n c : Nat) => Lib.run_convert_bytes_const (P := Tryz.prog) w 23 5 C n c Tryz.underlying23 Tryz.underlying5
  obtain ⟨lsn, work, prev, next, kind, page, key, old, new, dirty, opn⟩ := R
  obtain ⟨⟨KA, Kn, Kc⟩, ⟨OA, On, Oc⟩, ⟨NA, Nn, Nc⟩, ⟨DA, Dn, Dc⟩, ⟨PA, Pn, Pc⟩⟩ := S
  unfold recC
  simp only
  go_enter Tryz.func25, Tryz.ntmps25
  have kc1 := kc (((w.alloc (.cells #[.int .i64 lsn, .int .i64 work, .int .i64 prev, .int .i64 next, .int .u8 kind, .int .i64 page, .slice KA Kn Kc, .slice OA On Oc, .slice NA Nn Nc, .slice DA Dn Dc, .slice PA Pn Pc] 29)).alloc (.cells #[.int .i64 0, .int .i64 0, .int .i64 0, .int .i64 0, .int .u8 0, .int .i64 0, .slice none 0 0, .slice none 0 0, .slice none 0 0, .slice none 0 0, .slice none 0 0] 29)).alloc (.cells (madeCells #[.int .u8 0] 201) 5)) #[.int .u8 107] 1 1
  have e3 : (((w.alloc (.cells #[.int .i64 lsn, .int .i64 work, .int .i64 prev, .int .i64 next, .int .u8 kind, .int .i64 page, .slice KA Kn Kc, .slice OA On Oc, .slice NA Nn Nc, .slice DA Dn Dc, .slice PA Pn Pc] 29)).alloc (.cells #[.int .i64 0, .int .i64 0, .int .i64 0, .int .i64 0, .int .u8 0, .int .i64 0, .slice none 0 0, .slice none 0 0, .slice none 0 0, .slice none 0 0, .slice none 0 0] 29)).alloc (.cells (madeCells #[.int .u8 0] 201) 5)).heap.size = w.heap.size + 1 + 1 + 1 := by simp
  rw [e3] at kc1
  clear kc e3
  go_wp2
  refine bodyPost_ret (v := .agg #[.int .i64 lsn, .int .i64 work, .int .i64 prev, .int .i64 next, .int .u8 kind, .int .i64 page, .slice (some ⟨w.heap.size + 1 + 1 + 1, 0, none⟩) 1 1, .slice OA On Oc, .slice NA Nn Nc, .slice DA Dn Dc, .slice PA Pn Pc]) (by simp [results, Tryz.results25, go_sem]) rfl ?_
  exact bent_fin ⟨lsn, work, prev, next, kind, page, [107], old, new, dirty, opn⟩ ⟨⟨some ⟨w.heap.size + 1 + 1 + 1, 0, none⟩, 1, 1⟩, ⟨OA, On, Oc⟩, ⟨NA, Nn, Nc⟩, ⟨DA, Dn, Dc⟩, ⟨PA, Pn, Pc⟩⟩ H.out (((((Turned.refl (fun _ => False) w).alloc _).alloc _).alloc _).alloc _) rfl (fun H' => ⟨key_sl (by simp), H'.old, H'.new, H'.dirty, H'.opn⟩) ⟨hk.lsn, hk.work, hk.prev, hk.next, hk.kind, hk.page, (show ∀ z ∈ ([107] : List Int), isByte z by unfold isByte; decide), hk.old, hk.new, hk.dirty, hk.opn⟩
set_option maxRecDepth 100000 in
set_option maxHeartbeats 1000000 in
theorem bent_25 (R : Rec) (S : RecS) (w : World) (h : RecIs w R S) (hk : R.Ok) : Calls Tryz.prog 25 #[.agg (recC R S), .int .i64 25] w (BentP w) := by
  have H := Lib.hid h
  clear h
  have m201 := run201
  obtain ⟨lsn, work, prev, next, kind, page, key, old, new, dirty, opn⟩ := R
  obtain ⟨⟨KA, Kn, Kc⟩, ⟨OA, On, Oc⟩, ⟨NA, Nn, Nc⟩, ⟨DA, Dn, Dc⟩, ⟨PA, Pn, Pc⟩⟩ := S
  unfold recC
  simp only
  go_enter Tryz.func25, Tryz.ntmps25
  have m33 : ∀ w : World, (Instr.makeSlice 26 (.int .i64 33) (.int .i64 33)).run Tryz.prog w = .ok (.slice (some ⟨w.heap.size, 0, none⟩) 33 33) (w.alloc (.cells (madeCells #[.int .i64 0, .int .i64 0] (33 * 2)) 52)) := made33
  go_wp2
  refine bodyPost_ret (v := .agg #[.int .i64 lsn, .int .i64 work, .int .i64 prev, .int .i64 next, .int .u8 kind, .int .i64 page, .slice KA Kn Kc, .slice OA On Oc, .slice NA Nn Nc, .slice (some ⟨w.heap.size + 1 + 1 + 1, 0, none⟩) 33 33, .slice PA Pn Pc]) (by simp [results, Tryz.results25, go_sem]) rfl ?_
  exact bent_fin ⟨lsn, work, prev, next, kind, page, key, old, new, List.replicate 33 (0, 0), opn⟩ ⟨⟨KA, Kn, Kc⟩, ⟨OA, On, Oc⟩, ⟨NA, Nn, Nc⟩, ⟨some ⟨w.heap.size + 1 + 1 + 1, 0, none⟩, 33, 33⟩, ⟨PA, Pn, Pc⟩⟩ H.out (((((Turned.refl (fun _ => False) w).alloc _).alloc _).alloc _).alloc _) rfl (fun H' => ⟨H'.key, H'.old, H'.new, RowE.slP0 (T := 52) (made_pairs (n := 33) (g := w.heap.size + 1 + 1 + 1) (by simp) (by decide)) (by decide), H'.opn⟩) ⟨hk.lsn, hk.work, hk.prev, hk.next, hk.kind, hk.page, hk.key, hk.old, hk.new, (fun p hp => by rw [(List.mem_replicate.1 hp).2]; exact ⟨(show I64 0 from ⟨by decide, by decide⟩), (show I64 0 from ⟨by decide, by decide⟩)⟩), hk.opn⟩
set_option maxRecDepth 100000 in
set_option maxHeartbeats 1000000 in
theorem bent_26 (R : Rec) (S : RecS) (w : World) (h : RecIs w R S) (hk : R.Ok) : Calls Tryz.prog 25 #[.agg (recC R S), .int .i64 26] w (BentP w) := by
  have H := Lib.hid h
  clear h
  have m201 := run201
  have m40 := run40
  have m181 := run181
  obtain ⟨lsn, work, prev, next, kind, page, key, old, new, dirty, opn⟩ := R
  obtain ⟨⟨KA, Kn, Kc⟩, ⟨OA, On, Oc⟩, ⟨NA, Nn, Nc⟩, ⟨DA, Dn, Dc⟩, ⟨PA, Pn, Pc⟩⟩ := S
  unfold recC
  simp only
  go_enter Tryz.func25, Tryz.ntmps25
  go_wp2
  go_region
  all_goals go_wp2
  · skip
    refine bodyPost_ret (v := .agg #[.int .i64 lsn, .int .i64 work, .int .i64 prev, .int .i64 next, .int .u8 kind, .int .i64 page, .slice (some ⟨w.heap.size + 1 + 1 + 1, 0, none⟩) 40 40, .slice OA On Oc, .slice (some ⟨w.heap.size + 1 + 1 + 1 + 1, 0, none⟩) 181 181, .slice DA Dn Dc, .slice PA Pn Pc]) (by simp [results, Tryz.results25, go_sem]) rfl ?_
    exact bent_fin ⟨lsn, work, prev, next, kind, page, List.replicate 40 0, old, List.replicate 181 0, dirty, opn⟩ ⟨⟨some ⟨w.heap.size + 1 + 1 + 1, 0, none⟩, 40, 40⟩, ⟨OA, On, Oc⟩, ⟨some ⟨w.heap.size + 1 + 1 + 1 + 1, 0, none⟩, 181, 181⟩, ⟨DA, Dn, Dc⟩, ⟨PA, Pn, Pc⟩⟩ H.out ((((((Turned.refl (fun _ => False) w).alloc _).alloc _).alloc _).alloc _).alloc _).drew rfl (fun H' => ⟨RowB.slB0 ((made_row (by simp) (by decide)).turned (((Turned.refl (fun _ => False) _).alloc _).drew) (fun e => e)) (by decide), H'.old, RowB.slB0 ((made_row (by simp) (by decide)).turned ((Turned.refl (fun _ => False) _).drew) (fun e => e)) (by decide), H'.dirty, H'.opn⟩) ⟨hk.lsn, hk.work, hk.prev, hk.next, hk.kind, hk.page, reps_byte 40, hk.old, reps_byte 181, hk.dirty, hk.opn⟩
  · skip
    refine bodyPost_ret (v := .agg #[.int .i64 lsn, .int .i64 work, .int .i64 prev, .int .i64 next, .int .u8 kind, .int .i64 page, .slice (some ⟨w.heap.size + 1 + 1 + 1 + 1, 0, none⟩) 40 40, .slice OA On Oc, .slice (some ⟨w.heap.size + 1 + 1 + 1, 0, none⟩) 181 181, .slice DA Dn Dc, .slice PA Pn Pc]) (by simp [results, Tryz.results25, go_sem]) rfl ?_
    exact bent_fin ⟨lsn, work, prev, next, kind, page, List.replicate 40 0, old, List.replicate 181 0, dirty, opn⟩ ⟨⟨some ⟨w.heap.size + 1 + 1 + 1 + 1, 0, none⟩, 40, 40⟩, ⟨OA, On, Oc⟩, ⟨some ⟨w.heap.size + 1 + 1 + 1, 0, none⟩, 181, 181⟩, ⟨DA, Dn, Dc⟩, ⟨PA, Pn, Pc⟩⟩ H.out ((((((Turned.refl (fun _ => False) w).alloc _).alloc _).alloc _).alloc _).alloc _).drew rfl (fun H' => ⟨RowB.slB0 ((made_row (by simp) (by decide)).turned ((Turned.refl (fun _ => False) _).drew) (fun e => e)) (by decide), H'.old, RowB.slB0 ((made_row (by simp) (by decide)).turned (((Turned.refl (fun _ => False) _).alloc _).drew) (fun e => e)) (by decide), H'.dirty, H'.opn⟩) ⟨hk.lsn, hk.work, hk.prev, hk.next, hk.kind, hk.page, reps_byte 40, hk.old, reps_byte 181, hk.dirty, hk.opn⟩
set_option maxRecDepth 100000 in
set_option maxHeartbeats 1000000 in
theorem bent_27 (R : Rec) (S : RecS) (w : World) (h : RecIs w R S) (hk : R.Ok) : Calls Tryz.prog 25 #[.agg (recC R S), .int .i64 27] w (BentP w) := by
  have H := Lib.hid h
  clear h
  have m201 := run201
  have m39 := run39
  have m182 := run182
  obtain ⟨lsn, work, prev, next, kind, page, key, old, new, dirty, opn⟩ := R
  obtain ⟨⟨KA, Kn, Kc⟩, ⟨OA, On, Oc⟩, ⟨NA, Nn, Nc⟩, ⟨DA, Dn, Dc⟩, ⟨PA, Pn, Pc⟩⟩ := S
  unfold recC
  simp only
  go_enter Tryz.func25, Tryz.ntmps25
  go_wp2
  go_region
  all_goals go_wp2
  · skip
    refine bodyPost_ret (v := .agg #[.int .i64 lsn, .int .i64 work, .int .i64 prev, .int .i64 next, .int .u8 kind, .int .i64 page, .slice (some ⟨w.heap.size + 1 + 1 + 1, 0, none⟩) 39 39, .slice (some ⟨w.heap.size + 1 + 1 + 1 + 1, 0, none⟩) 182 182, .slice NA Nn Nc, .slice DA Dn Dc, .slice PA Pn Pc]) (by simp [results, Tryz.results25, go_sem]) rfl ?_
    exact bent_fin ⟨lsn, work, prev, next, kind, page, List.replicate 39 0, List.replicate 182 0, new, dirty, opn⟩ ⟨⟨some ⟨w.heap.size + 1 + 1 + 1, 0, none⟩, 39, 39⟩, ⟨some ⟨w.heap.size + 1 + 1 + 1 + 1, 0, none⟩, 182, 182⟩, ⟨NA, Nn, Nc⟩, ⟨DA, Dn, Dc⟩, ⟨PA, Pn, Pc⟩⟩ H.out ((((((Turned.refl (fun _ => False) w).alloc _).alloc _).alloc _).alloc _).alloc _).drew rfl (fun H' => ⟨RowB.slB0 ((made_row (by simp) (by decide)).turned (((Turned.refl (fun _ => False) _).alloc _).drew) (fun e => e)) (by decide), RowB.slB0 ((made_row (by simp) (by decide)).turned ((Turned.refl (fun _ => False) _).drew) (fun e => e)) (by decide), H'.new, H'.dirty, H'.opn⟩) ⟨hk.lsn, hk.work, hk.prev, hk.next, hk.kind, hk.page, reps_byte 39, reps_byte 182, hk.new, hk.dirty, hk.opn⟩
  · skip
    refine bodyPost_ret (v := .agg #[.int .i64 lsn, .int .i64 work, .int .i64 prev, .int .i64 next, .int .u8 kind, .int .i64 page, .slice (some ⟨w.heap.size + 1 + 1 + 1 + 1, 0, none⟩) 39 39, .slice (some ⟨w.heap.size + 1 + 1 + 1, 0, none⟩) 182 182, .slice NA Nn Nc, .slice DA Dn Dc, .slice PA Pn Pc]) (by simp [results, Tryz.results25, go_sem]) rfl ?_
    exact bent_fin ⟨lsn, work, prev, next, kind, page, List.replicate 39 0, List.replicate 182 0, new, dirty, opn⟩ ⟨⟨some ⟨w.heap.size + 1 + 1 + 1 + 1, 0, none⟩, 39, 39⟩, ⟨some ⟨w.heap.size + 1 + 1 + 1, 0, none⟩, 182, 182⟩, ⟨NA, Nn, Nc⟩, ⟨DA, Dn, Dc⟩, ⟨PA, Pn, Pc⟩⟩ H.out ((((((Turned.refl (fun _ => False) w).alloc _).alloc _).alloc _).alloc _).alloc _).drew rfl (fun H' => ⟨RowB.slB0 ((made_row (by simp) (by decide)).turned ((Turned.refl (fun _ => False) _).drew) (fun e => e)) (by decide), RowB.slB0 ((made_row (by simp) (by decide)).turned (((Turned.refl (fun _ => False) _).alloc _).drew) (fun e => e)) (by decide), H'.new, H'.dirty, H'.opn⟩) ⟨hk.lsn, hk.work, hk.prev, hk.next, hk.kind, hk.page, reps_byte 39, reps_byte 182, hk.new, hk.dirty, hk.opn⟩
end Go.Proofs.YtohajofkflibjaaGreatDoor

