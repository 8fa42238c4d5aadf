/-
  storemanlaw13.bent: a command comes back, whatever is turned in it; the lists of the one that was handed in stand. Conditions: those lists lie in memory of their own.
-/
import Derived.Test.YtijmfglgeaaoaaaGreatDoorQAskI
import Derived.Test.YtijmfglgeaaoaaaGreatDoorQAcG
import Derived.Deep.CutRange
namespace Go.Proofs.YtijmfglgeaaoaaaGreatDoor
open Go.RowKit Go.Maps
set_option linter.unusedVariables false
set_option linter.unusedSimpArgs false

/-- The blocks of a command's lists. -/
def LisW (S : AskS) (g : Nat) : Prop := S.P.A = some ⟨g, 0, none⟩ ∨ S.O.A = some ⟨g, 0, none⟩
/-- What bent tells: a command; the one that was handed in stands. -/
def BentP (B : Nat) (a : AskV) (S : AskS) (w : World) (e : Ending) (w' : World) : Prop := ∃ a' S', e = .returned (.agg (askC a' S')) ∧ AskIs w' a' S' ∧ a'.Ok ∧ AskOwn w' B a S ∧ Turned (LisW S) w w'
theorem bent_fin {w w' : World} {e : Ending} {B : Nat} {a : AskV} {S : AskS} (a' : AskV) (S' : AskS) (H : AskOwn w B a S) (ht : Turned (fun _ => False) w w') (he : e = .returned (.agg (askC a' S'))) (hr : AskIs w' a S → AskIs w' a' S') (hk : a'.Ok) : BentP B a S w e w' := ⟨a', S', he, hr (H.fresh ht).is, hk, H.fresh ht, ht.mono (fun _ e => e.elim)⟩
theorem RowE.slQ0 {w : World} {g n : Nat} {l : List (List UInt8 × Int)} (h : RowE w 55 2 g n n (partC l)) : SlQ w ⟨some ⟨g, 0, none⟩, n, n⟩ l := ⟨h.celR, by have := h.len; rw [partC_length] at this; show l.length = n; omega, fun e => (by cases e), Nat.le_refl _, h.max⟩
theorem RowE.slX0 {w : World} {g n : Nat} {l : List (List UInt8)} (h : RowE w 9 1 g n n (textC l)) : SlT w ⟨some ⟨g, 0, none⟩, n, n⟩ l := ⟨by have := h.celR; rw [Nat.mul_one] at this; exact this, by have := h.len; rw [textC_length] at this; show l.length = n; omega, fun e => (by cases e), Nat.le_refl _, h.max⟩
theorem slQ_none (w : World) : SlQ w ⟨none, 0, 0⟩ [] := ⟨CelR.none_ w, rfl, fun _ => ⟨rfl, rfl⟩, Nat.le_refl _, Nat.zero_le _⟩
theorem strOk_few {l : List UInt8} (h : l.length ≤ 100) : strOk l := by unfold strOk; omega
theorem hold0 {p : Prop} (h : p ∧ True) : p := h.1
set_option maxRecDepth 100000 in
set_option maxHeartbeats 1000000 in
theorem bent_0 (B : Nat) (a : AskV) (S : AskS) (w : World) (h : AskOwn w B a S) (hk : a.Ok) (hB : B ≤ w.heap.size) (hn : S.P.n ≤ 1000 ∧ S.O.n ≤ 1000) : Calls Tryz.prog 15 #[.agg (askC a S), .int .i64 0] w (BentP B a S w) := by
  have H := Lib.hid h
  clear h
  obtain ⟨kind, request, item, qty, day, days, rank, lot, line, parts, others⟩ := a
  obtain ⟨⟨PA, Pn, Pc⟩, ⟨QA, On, Oc⟩⟩ := S
  unfold askC strV
  simp only at hn ⊢
  go_enter Tryz.func15, Tryz.ntmps15
  go_wp2
  refine bodyPost_ret (v := .agg #[.int .u8 0, .int .i64 request, .string ⟨item.toArray⟩, .int .i64 qty, .int .i64 day, .int .i64 days, .int .i64 rank, .int .i64 lot, .int .i64 line, .slice PA Pn Pc, .slice QA On Oc]) (by simp [results, Tryz.results15, go_sem]) rfl ?_
  exact bent_fin ⟨0, request, item, qty, day, days, rank, lot, line, parts, others⟩ ⟨⟨PA, Pn, Pc⟩, ⟨QA, On, Oc⟩⟩ H.out (((Turned.refl (fun _ => False) w).alloc _).alloc _) rfl (fun H' => ⟨H'.parts, H'.others⟩) ⟨(show isByte 0 from ⟨by decide, by decide⟩), hk.request, hk.item, hk.qty, hk.day, hk.days, hk.rank, hk.lot, hk.line, hk.parts, hk.others⟩
set_option maxRecDepth 100000 in
set_option maxHeartbeats 1000000 in
theorem bent_1 (B : Nat) (a : AskV) (S : AskS) (w : World) (h : AskOwn w B a S) (hk : a.Ok) (hB : B ≤ w.heap.size) (hn : S.P.n ≤ 1000 ∧ S.O.n ≤ 1000) : Calls Tryz.prog 15 #[.agg (askC a S), .int .i64 1] w (BentP B a S w) := by
  have H := Lib.hid h
  clear h
  obtain ⟨kind, request, item, qty, day, days, rank, lot, line, parts, others⟩ := a
  obtain ⟨⟨PA, Pn, Pc⟩, ⟨QA, On, Oc⟩⟩ := S
  unfold askC strV
  simp only at hn ⊢
  go_enter Tryz.func15, Tryz.ntmps15
  go_wp2
  refine bodyPost_ret (v := .agg #[.int .u8 16, .int .i64 request, .string ⟨item.toArray⟩, .int .i64 qty, .int .i64 day, .int .i64 days, .int .i64 rank, .int .i64 lot, .int .i64 line, .slice PA Pn Pc, .slice QA On Oc]) (by simp [results, Tryz.results15, go_sem]) rfl ?_
  exact bent_fin ⟨16, request, item, qty, day, days, rank, lot, line, parts, others⟩ ⟨⟨PA, Pn, Pc⟩, ⟨QA, On, Oc⟩⟩ H.out (((Turned.refl (fun _ => False) w).alloc _).alloc _) rfl (fun H' => ⟨H'.parts, H'.others⟩) ⟨(show isByte 16 from ⟨by decide, by decide⟩), hk.request, hk.item, hk.qty, hk.day, hk.days, hk.rank, hk.lot, hk.line, hk.parts, hk.others⟩
set_option maxRecDepth 100000 in
set_option maxHeartbeats 1000000 in
theorem bent_2 (B : Nat) (a : AskV) (S : AskS) (w : World) (h : AskOwn w B a S) (hk : a.Ok) (hB : B ≤ w.heap.size) (hn : S.P.n ≤ 1000 ∧ S.O.n ≤ 1000) : Calls Tryz.prog 15 #[.agg (askC a S), .int .i64 2] w (BentP B a S w) := by
  have H := Lib.hid h
  clear h
  obtain ⟨kind, request, item, qty, day, days, rank, lot, line, parts, others⟩ := a
  obtain ⟨⟨PA, Pn, Pc⟩, ⟨QA, On, Oc⟩⟩ := S
  unfold askC strV
  simp only at hn ⊢
  go_enter Tryz.func15, Tryz.ntmps15
  go_wp2
  refine bodyPost_ret (v := .agg #[.int .u8 kind, .int .i64 (-1), .string ⟨item.toArray⟩, .int .i64 qty, .int .i64 day, .int .i64 days, .int .i64 rank, .int .i64 lot, .int .i64 line, .slice PA Pn Pc, .slice QA On Oc]) (by simp [results, Tryz.results15, go_sem]) rfl ?_
  exact bent_fin ⟨kind, (-1), item, qty, day, days, rank, lot, line, parts, others⟩ ⟨⟨PA, Pn, Pc⟩, ⟨QA, On, Oc⟩⟩ H.out (((Turned.refl (fun _ => False) w).alloc _).alloc _) rfl (fun H' => ⟨H'.parts, H'.others⟩) ⟨hk.kind, (show I64 (-1) from ⟨by decide, by decide⟩), hk.item, hk.qty, hk.day, hk.days, hk.rank, hk.lot, hk.line, hk.parts, hk.others⟩
set_option maxRecDepth 100000 in
set_option maxHeartbeats 1000000 in
theorem bent_3 (B : Nat) (a : AskV) (S : AskS) (w : World) (h : AskOwn w B a S) (hk : a.Ok) (hB : B ≤ w.heap.size) (hn : S.P.n ≤ 1000 ∧ S.O.n ≤ 1000) : Calls Tryz.prog 15 #[.agg (askC a S), .int .i64 3] w (BentP B a S w) := by
  have H := Lib.hid h
  clear h
  obtain ⟨kind, request, item, qty, day, days, rank, lot, line, parts, others⟩ := a
  obtain ⟨⟨PA, Pn, Pc⟩, ⟨QA, On, Oc⟩⟩ := S
  unfold askC strV
  simp only at hn ⊢
  go_enter Tryz.func15, Tryz.ntmps15
  go_wp2
  refine bodyPost_ret (v := .agg #[.int .u8 kind, .int .i64 4611686018427387905, .string ⟨item.toArray⟩, .int .i64 qty, .int .i64 day, .int .i64 days, .int .i64 rank, .int .i64 lot, .int .i64 line, .slice PA Pn Pc, .slice QA On Oc]) (by simp [results, Tryz.results15, go_sem]) rfl ?_
  exact bent_fin ⟨kind, 4611686018427387905, item, qty, day, days, rank, lot, line, parts, others⟩ ⟨⟨PA, Pn, Pc⟩, ⟨QA, On, Oc⟩⟩ H.out (((Turned.refl (fun _ => False) w).alloc _).alloc _) rfl (fun H' => ⟨H'.parts, H'.others⟩) ⟨hk.kind, (show I64 4611686018427387905 from ⟨by decide, by decide⟩), hk.item, hk.qty, hk.day, hk.days, hk.rank, hk.lot, hk.line, hk.parts, hk.others⟩
set_option maxRecDepth 100000 in
set_option maxHeartbeats 1000000 in
theorem bent_4 (B : Nat) (a : AskV) (S : AskS) (w : World) (h : AskOwn w B a S) (hk : a.Ok) (hB : B ≤ w.heap.size) (hn : S.P.n ≤ 1000 ∧ S.O.n ≤ 1000) : Calls Tryz.prog 15 #[.agg (askC a S), .int .i64 4] w (BentP B a S w) := by
  have H := Lib.hid h
  clear h
  obtain ⟨kind, request, item, qty, day, days, rank, lot, line, parts, others⟩ := a
  obtain ⟨⟨PA, Pn, Pc⟩, ⟨QA, On, Oc⟩⟩ := S
  unfold askC strV
  simp only at hn ⊢
  go_enter Tryz.func15, Tryz.ntmps15
  go_wp2
  refine bodyPost_ret (v := .agg #[.int .u8 kind, .int .i64 request, .string ⟨#[]⟩, .int .i64 qty, .int .i64 day, .int .i64 days, .int .i64 rank, .int .i64 lot, .int .i64 line, .slice PA Pn Pc, .slice QA On Oc]) (by simp [results, Tryz.results15, go_sem]) rfl ?_
  exact bent_fin ⟨kind, request, [], qty, day, days, rank, lot, line, parts, others⟩ ⟨⟨PA, Pn, Pc⟩, ⟨QA, On, Oc⟩⟩ H.out (((Turned.refl (fun _ => False) w).alloc _).alloc _) rfl (fun H' => ⟨H'.parts, H'.others⟩) ⟨hk.kind, hk.request, (show strOk ([] : List UInt8) from strOk_few (by decide)), hk.qty, hk.day, hk.days, hk.rank, hk.lot, hk.line, hk.parts, hk.others⟩
set_option maxRecDepth 100000 in
set_option maxHeartbeats 1000000 in
theorem bent_5 (B : Nat) (a : AskV) (S : AskS) (w : World) (h : AskOwn w B a S) (hk : a.Ok) (hB : B ≤ w.heap.size) (hn : S.P.n ≤ 1000 ∧ S.O.n ≤ 1000) : Calls Tryz.prog 15 #[.agg (askC a S), .int .i64 5] w (BentP B a S w) := by
  have H := Lib.hid h
  clear h
  obtain ⟨kind, request, item, qty, day, days, rank, lot, line, parts, others⟩ := a
  obtain ⟨⟨PA, Pn, Pc⟩, ⟨QA, On, Oc⟩⟩ := S
  unfold askC strV
  simp only at hn ⊢
  go_enter Tryz.func15, Tryz.ntmps15
  go_wp2
  refine bodyPost_ret (v := .agg #[.int .u8 kind, .int .i64 request, .string ⟨#[97]⟩, .int .i64 qty, .int .i64 day, .int .i64 days, .int .i64 rank, .int .i64 lot, .int .i64 line, .slice PA Pn Pc, .slice QA On Oc]) (by simp [results, Tryz.results15, go_sem]) rfl ?_
  exact bent_fin ⟨kind, request, [97], qty, day, days, rank, lot, line, parts, others⟩ ⟨⟨PA, Pn, Pc⟩, ⟨QA, On, Oc⟩⟩ H.out (((Turned.refl (fun _ => False) w).alloc _).alloc _) rfl (fun H' => ⟨H'.parts, H'.others⟩) ⟨hk.kind, hk.request, (show strOk ([97] : List UInt8) from strOk_few (by decide)), hk.qty, hk.day, hk.days, hk.rank, hk.lot, hk.line, hk.parts, hk.others⟩
set_option maxRecDepth 100000 in
set_option maxHeartbeats 1000000 in
theorem bent_6 (B : Nat) (a : AskV) (S : AskS) (w : World) (h : AskOwn w B a S) (hk : a.Ok) (hB : B ≤ w.heap.size) (hn : S.P.n ≤ 1000 ∧ S.O.n ≤ 1000) : Calls Tryz.prog 15 #[.agg (askC a S), .int .i64 6] w (BentP B a S w) := by
  have H := Lib.hid h
  clear h
  obtain ⟨kind, request, item, qty, day, days, rank, lot, line, parts, others⟩ := a
  obtain ⟨⟨PA, Pn, Pc⟩, ⟨QA, On, Oc⟩⟩ := S
  unfold askC strV
  simp only at hn ⊢
  go_enter Tryz.func15, Tryz.ntmps15
  go_wp2
  refine bodyPost_ret (v := .agg #[.int .u8 kind, .int .i64 request, .string ⟨item.toArray⟩, .int .i64 0, .int .i64 day, .int .i64 days, .int .i64 rank, .int .i64 lot, .int .i64 line, .slice PA Pn Pc, .slice QA On Oc]) (by simp [results, Tryz.results15, go_sem]) rfl ?_
  exact bent_fin ⟨kind, request, item, 0, day, days, rank, lot, line, parts, others⟩ ⟨⟨PA, Pn, Pc⟩, ⟨QA, On, Oc⟩⟩ H.out (((Turned.refl (fun _ => False) w).alloc _).alloc _) rfl (fun H' => ⟨H'.parts, H'.others⟩) ⟨hk.kind, hk.request, hk.item, (show I64 0 from ⟨by decide, by decide⟩), hk.day, hk.days, hk.rank, hk.lot, hk.line, hk.parts, hk.others⟩
set_option maxRecDepth 100000 in
set_option maxHeartbeats 1000000 in
theorem bent_7 (B : Nat) (a : AskV) (S : AskS) (w : World) (h : AskOwn w B a S) (hk : a.Ok) (hB : B ≤ w.heap.size) (hn : S.P.n ≤ 1000 ∧ S.O.n ≤ 1000) : Calls Tryz.prog 15 #[.agg (askC a S), .int .i64 7] w (BentP B a S w) := by
  have H := Lib.hid h
  clear h
  obtain ⟨kind, request, item, qty, day, days, rank, lot, line, parts, others⟩ := a
  obtain ⟨⟨PA, Pn, Pc⟩, ⟨QA, On, Oc⟩⟩ := S
  unfold askC strV
  simp only at hn ⊢
  go_enter Tryz.func15, Tryz.ntmps15
  go_wp2
  refine bodyPost_ret (v := .agg #[.int .u8 kind, .int .i64 request, .string ⟨item.toArray⟩, .int .i64 1073741825, .int .i64 day, .int .i64 days, .int .i64 rank, .int .i64 lot, .int .i64 line, .slice PA Pn Pc, .slice QA On Oc]) (by simp [results, Tryz.results15, go_sem]) rfl ?_
  exact bent_fin ⟨kind, request, item, 1073741825, day, days, rank, lot, line, parts, others⟩ ⟨⟨PA, Pn, Pc⟩, ⟨QA, On, Oc⟩⟩ H.out (((Turned.refl (fun _ => False) w).alloc _).alloc _) rfl (fun H' => ⟨H'.parts, H'.others⟩) ⟨hk.kind, hk.request, hk.item, (show I64 1073741825 from ⟨by decide, by decide⟩), hk.day, hk.days, hk.rank, hk.lot, hk.line, hk.parts, hk.others⟩
set_option maxRecDepth 100000 in
set_option maxHeartbeats 1000000 in
theorem bent_8 (B : Nat) (a : AskV) (S : AskS) (w : World) (h : AskOwn w B a S) (hk : a.Ok) (hB : B ≤ w.heap.size) (hn : S.P.n ≤ 1000 ∧ S.O.n ≤ 1000) : Calls Tryz.prog 15 #[.agg (askC a S), .int .i64 8] w (BentP B a S w) := by
  have H := Lib.hid h
  clear h
  obtain ⟨kind, request, item, qty, day, days, rank, lot, line, parts, others⟩ := a
  obtain ⟨⟨PA, Pn, Pc⟩, ⟨QA, On, Oc⟩⟩ := S
  unfold askC strV
  simp only at hn ⊢
  go_enter Tryz.func15, Tryz.ntmps15
  go_wp2
  refine bodyPost_ret (v := .agg #[.int .u8 kind, .int .i64 request, .string ⟨item.toArray⟩, .int .i64 (-1), .int .i64 day, .int .i64 days, .int .i64 rank, .int .i64 lot, .int .i64 line, .slice PA Pn Pc, .slice QA On Oc]) (by simp [results, Tryz.results15, go_sem]) rfl ?_
  exact bent_fin ⟨kind, request, item, (-1), day, days, rank, lot, line, parts, others⟩ ⟨⟨PA, Pn, Pc⟩, ⟨QA, On, Oc⟩⟩ H.out (((Turned.refl (fun _ => False) w).alloc _).alloc _) rfl (fun H' => ⟨H'.parts, H'.others⟩) ⟨hk.kind, hk.request, hk.item, (show I64 (-1) from ⟨by decide, by decide⟩), hk.day, hk.days, hk.rank, hk.lot, hk.line, hk.parts, hk.others⟩
set_option maxRecDepth 100000 in
set_option maxHeartbeats 1000000 in
theorem bent_9 (B : Nat) (a : AskV) (S : AskS) (w : World) (h : AskOwn w B a S) (hk : a.Ok) (hB : B ≤ w.heap.size) (hn : S.P.n ≤ 1000 ∧ S.O.n ≤ 1000) : Calls Tryz.prog 15 #[.agg (askC a S), .int .i64 9] w (BentP B a S w) := by
  have H := Lib.hid h
  clear h
  obtain ⟨kind, request, item, qty, day, days, rank, lot, line, parts, others⟩ := a
  obtain ⟨⟨PA, Pn, Pc⟩, ⟨QA, On, Oc⟩⟩ := S
  unfold askC strV
  simp only at hn ⊢
  go_enter Tryz.func15, Tryz.ntmps15
  go_wp2
  refine bodyPost_ret (v := .agg #[.int .u8 kind, .int .i64 request, .string ⟨item.toArray⟩, .int .i64 qty, .int .i64 (-1), .int .i64 days, .int .i64 rank, .int .i64 lot, .int .i64 line, .slice PA Pn Pc, .slice QA On Oc]) (by simp [results, Tryz.results15, go_sem]) rfl ?_
  exact bent_fin ⟨kind, request, item, qty, (-1), days, rank, lot, line, parts, others⟩ ⟨⟨PA, Pn, Pc⟩, ⟨QA, On, Oc⟩⟩ H.out (((Turned.refl (fun _ => False) w).alloc _).alloc _) rfl (fun H' => ⟨H'.parts, H'.others⟩) ⟨hk.kind, hk.request, hk.item, hk.qty, (show I64 (-1) from ⟨by decide, by decide⟩), hk.days, hk.rank, hk.lot, hk.line, hk.parts, hk.others⟩
set_option maxRecDepth 100000 in
set_option maxHeartbeats 1000000 in
theorem bent_10 (B : Nat) (a : AskV) (S : AskS) (w : World) (h : AskOwn w B a S) (hk : a.Ok) (hB : B ≤ w.heap.size) (hn : S.P.n ≤ 1000 ∧ S.O.n ≤ 1000) : Calls Tryz.prog 15 #[.agg (askC a S), .int .i64 10] w (BentP B a S w) := by
  have H := Lib.hid h
  clear h
  obtain ⟨kind, request, item, qty, day, days, rank, lot, line, parts, others⟩ := a
  obtain ⟨⟨PA, Pn, Pc⟩, ⟨QA, On, Oc⟩⟩ := S
  unfold askC strV
  simp only at hn ⊢
  go_enter Tryz.func15, Tryz.ntmps15
  go_wp2
  refine bodyPost_ret (v := .agg #[.int .u8 kind, .int .i64 request, .string ⟨item.toArray⟩, .int .i64 qty, .int .i64 4001, .int .i64 days, .int .i64 rank, .int .i64 lot, .int .i64 line, .slice PA Pn Pc, .slice QA On Oc]) (by simp [results, Tryz.results15, go_sem]) rfl ?_
  exact bent_fin ⟨kind, request, item, qty, 4001, days, rank, lot, line, parts, others⟩ ⟨⟨PA, Pn, Pc⟩, ⟨QA, On, Oc⟩⟩ H.out (((Turned.refl (fun _ => False) w).alloc _).alloc _) rfl (fun H' => ⟨H'.parts, H'.others⟩) ⟨hk.kind, hk.request, hk.item, hk.qty, (show I64 4001 from ⟨by decide, by decide⟩), hk.days, hk.rank, hk.lot, hk.line, hk.parts, hk.others⟩
set_option maxRecDepth 100000 in
set_option maxHeartbeats 1000000 in
theorem bent_11 (B : Nat) (a : AskV) (S : AskS) (w : World) (h : AskOwn w B a S) (hk : a.Ok) (hB : B ≤ w.heap.size) (hn : S.P.n ≤ 1000 ∧ S.O.n ≤ 1000) : Calls Tryz.prog 15 #[.agg (askC a S), .int .i64 11] w (BentP B a S w) := by
  have H := Lib.hid h
  clear h
  obtain ⟨kind, request, item, qty, day, days, rank, lot, line, parts, others⟩ := a
  obtain ⟨⟨PA, Pn, Pc⟩, ⟨QA, On, Oc⟩⟩ := S
  unfold askC strV
  simp only at hn ⊢
  go_enter Tryz.func15, Tryz.ntmps15
  go_wp2
  refine bodyPost_ret (v := .agg #[.int .u8 kind, .int .i64 request, .string ⟨item.toArray⟩, .int .i64 qty, .int .i64 day, .int .i64 0, .int .i64 rank, .int .i64 lot, .int .i64 line, .slice PA Pn Pc, .slice QA On Oc]) (by simp [results, Tryz.results15, go_sem]) rfl ?_
  exact bent_fin ⟨kind, request, item, qty, day, 0, rank, lot, line, parts, others⟩ ⟨⟨PA, Pn, Pc⟩, ⟨QA, On, Oc⟩⟩ H.out (((Turned.refl (fun _ => False) w).alloc _).alloc _) rfl (fun H' => ⟨H'.parts, H'.others⟩) ⟨hk.kind, hk.request, hk.item, hk.qty, hk.day, (show I64 0 from ⟨by decide, by decide⟩), hk.rank, hk.lot, hk.line, hk.parts, hk.others⟩
set_option maxRecDepth 100000 in
set_option maxHeartbeats 1000000 in
theorem bent_12 (B : Nat) (a : AskV) (S : AskS) (w : World) (h : AskOwn w B a S) (hk : a.Ok) (hB : B ≤ w.heap.size) (hn : S.P.n ≤ 1000 ∧ S.O.n ≤ 1000) : Calls Tryz.prog 15 #[.agg (askC a S), .int .i64 12] w (BentP B a S w) := by
  have H := Lib.hid h
  clear h
  obtain ⟨kind, request, item, qty, day, days, rank, lot, line, parts, others⟩ := a
  obtain ⟨⟨PA, Pn, Pc⟩, ⟨QA, On, Oc⟩⟩ := S
  unfold askC strV
  simp only at hn ⊢
  go_enter Tryz.func15, Tryz.ntmps15
  go_wp2
  refine bodyPost_ret (v := .agg #[.int .u8 kind, .int .i64 request, .string ⟨item.toArray⟩, .int .i64 qty, .int .i64 day, .int .i64 2001, .int .i64 rank, .int .i64 lot, .int .i64 line, .slice PA Pn Pc, .slice QA On Oc]) (by simp [results, Tryz.results15, go_sem]) rfl ?_
  exact bent_fin ⟨kind, request, item, qty, day, 2001, rank, lot, line, parts, others⟩ ⟨⟨PA, Pn, Pc⟩, ⟨QA, On, Oc⟩⟩ H.out (((Turned.refl (fun _ => False) w).alloc _).alloc _) rfl (fun H' => ⟨H'.parts, H'.others⟩) ⟨hk.kind, hk.request, hk.item, hk.qty, hk.day, (show I64 2001 from ⟨by decide, by decide⟩), hk.rank, hk.lot, hk.line, hk.parts, hk.others⟩
set_option maxRecDepth 100000 in
set_option maxHeartbeats 1000000 in
theorem bent_13 (B : Nat) (a : AskV) (S : AskS) (w : World) (h : AskOwn w B a S) (hk : a.Ok) (hB : B ≤ w.heap.size) (hn : S.P.n ≤ 1000 ∧ S.O.n ≤ 1000) : Calls Tryz.prog 15 #[.agg (askC a S), .int .i64 13] w (BentP B a S w) := by
  have H := Lib.hid h
  clear h
  obtain ⟨kind, request, item, qty, day, days, rank, lot, line, parts, others⟩ := a
  obtain ⟨⟨PA, Pn, Pc⟩, ⟨QA, On, Oc⟩⟩ := S
  unfold askC strV
  simp only at hn ⊢
  go_enter Tryz.func15, Tryz.ntmps15
  go_wp2
  refine bodyPost_ret (v := .agg #[.int .u8 kind, .int .i64 request, .string ⟨item.toArray⟩, .int .i64 qty, .int .i64 day, .int .i64 days, .int .i64 100, .int .i64 lot, .int .i64 line, .slice PA Pn Pc, .slice QA On Oc]) (by simp [results, Tryz.results15, go_sem]) rfl ?_
  exact bent_fin ⟨kind, request, item, qty, day, days, 100, lot, line, parts, others⟩ ⟨⟨PA, Pn, Pc⟩, ⟨QA, On, Oc⟩⟩ H.out (((Turned.refl (fun _ => False) w).alloc _).alloc _) rfl (fun H' => ⟨H'.parts, H'.others⟩) ⟨hk.kind, hk.request, hk.item, hk.qty, hk.day, hk.days, (show I64 100 from ⟨by decide, by decide⟩), hk.lot, hk.line, hk.parts, hk.others⟩
set_option maxRecDepth 100000 in
set_option maxHeartbeats 1000000 in
theorem bent_14 (B : Nat) (a : AskV) (S : AskS) (w : World) (h : AskOwn w B a S) (hk : a.Ok) (hB : B ≤ w.heap.size) (hn : S.P.n ≤ 1000 ∧ S.O.n ≤ 1000) : Calls Tryz.prog 15 #[.agg (askC a S), .int .i64 14] w (BentP B a S w) := by
  have H := Lib.hid h
  clear h
  obtain ⟨kind, request, item, qty, day, days, rank, lot, line, parts, others⟩ := a
  obtain ⟨⟨PA, Pn, Pc⟩, ⟨QA, On, Oc⟩⟩ := S
  unfold askC strV
  simp only at hn ⊢
  go_enter Tryz.func15, Tryz.ntmps15
  go_wp2
  refine bodyPost_ret (v := .agg #[.int .u8 kind, .int .i64 request, .string ⟨item.toArray⟩, .int .i64 qty, .int .i64 day, .int .i64 days, .int .i64 (-1), .int .i64 lot, .int .i64 line, .slice PA Pn Pc, .slice QA On Oc]) (by simp [results, Tryz.results15, go_sem]) rfl ?_
  exact bent_fin ⟨kind, request, item, qty, day, days, (-1), lot, line, parts, others⟩ ⟨⟨PA, Pn, Pc⟩, ⟨QA, On, Oc⟩⟩ H.out (((Turned.refl (fun _ => False) w).alloc _).alloc _) rfl (fun H' => ⟨H'.parts, H'.others⟩) ⟨hk.kind, hk.request, hk.item, hk.qty, hk.day, hk.days, (show I64 (-1) from ⟨by decide, by decide⟩), hk.lot, hk.line, hk.parts, hk.others⟩
set_option maxRecDepth 100000 in
set_option maxHeartbeats 1000000 in
theorem bent_15 (B : Nat) (a : AskV) (S : AskS) (w : World) (h : AskOwn w B a S) (hk : a.Ok) (hB : B ≤ w.heap.size) (hn : S.P.n ≤ 1000 ∧ S.O.n ≤ 1000) : Calls Tryz.prog 15 #[.agg (askC a S), .int .i64 15] w (BentP B a S w) := by
  have H := Lib.hid h
  clear h
  obtain ⟨kind, request, item, qty, day, days, rank, lot, line, parts, others⟩ := a
  obtain ⟨⟨PA, Pn, Pc⟩, ⟨QA, On, Oc⟩⟩ := S
  unfold askC strV
  simp only at hn ⊢
  go_enter Tryz.func15, Tryz.ntmps15
  go_wp2
  refine bodyPost_ret (v := .agg #[.int .u8 kind, .int .i64 request, .string ⟨item.toArray⟩, .int .i64 qty, .int .i64 day, .int .i64 days, .int .i64 rank, .int .i64 0, .int .i64 line, .slice PA Pn Pc, .slice QA On Oc]) (by simp [results, Tryz.results15, go_sem]) rfl ?_
  exact bent_fin ⟨kind, request, item, qty, day, days, rank, 0, line, parts, others⟩ ⟨⟨PA, Pn, Pc⟩, ⟨QA, On, Oc⟩⟩ H.out (((Turned.refl (fun _ => False) w).alloc _).alloc _) rfl (fun H' => ⟨H'.parts, H'.others⟩) ⟨hk.kind, hk.request, hk.item, hk.qty, hk.day, hk.days, hk.rank, (show I64 0 from ⟨by decide, by decide⟩), hk.line, hk.parts, hk.others⟩
set_option maxRecDepth 100000 in
set_option maxHeartbeats 1000000 in
theorem bent_16 (B : Nat) (a : AskV) (S : AskS) (w : World) (h : AskOwn w B a S) (hk : a.Ok) (hB : B ≤ w.heap.size) (hn : S.P.n ≤ 1000 ∧ S.O.n ≤ 1000) : Calls Tryz.prog 15 #[.agg (askC a S), .int .i64 16] w (BentP B a S w) := by
  have H := Lib.hid h
  clear h
  obtain ⟨kind, request, item, qty, day, days, rank, lot, line, parts, others⟩ := a
  obtain ⟨⟨PA, Pn, Pc⟩, ⟨QA, On, Oc⟩⟩ := S
  unfold askC strV
  simp only at hn ⊢
  go_enter Tryz.func15, Tryz.ntmps15
  go_wp2
  refine bodyPost_ret (v := .agg #[.int .u8 kind, .int .i64 request, .string ⟨item.toArray⟩, .int .i64 qty, .int .i64 day, .int .i64 days, .int .i64 rank, .int .i64 (-1), .int .i64 line, .slice PA Pn Pc, .slice QA On Oc]) (by simp [results, Tryz.results15, go_sem]) rfl ?_
  exact bent_fin ⟨kind, request, item, qty, day, days, rank, (-1), line, parts, others⟩ ⟨⟨PA, Pn, Pc⟩, ⟨QA, On, Oc⟩⟩ H.out (((Turned.refl (fun _ => False) w).alloc _).alloc _) rfl (fun H' => ⟨H'.parts, H'.others⟩) ⟨hk.kind, hk.request, hk.item, hk.qty, hk.day, hk.days, hk.rank, (show I64 (-1) from ⟨by decide, by decide⟩), hk.line, hk.parts, hk.others⟩
set_option maxRecDepth 100000 in
set_option maxHeartbeats 1000000 in
theorem bent_17 (B : Nat) (a : AskV) (S : AskS) (w : World) (h : AskOwn w B a S) (hk : a.Ok) (hB : B ≤ w.heap.size) (hn : S.P.n ≤ 1000 ∧ S.O.n ≤ 1000) : Calls Tryz.prog 15 #[.agg (askC a S), .int .i64 17] w (BentP B a S w) := by
  have H := Lib.hid h
  clear h
  obtain ⟨kind, request, item, qty, day, days, rank, lot, line, parts, others⟩ := a
  obtain ⟨⟨PA, Pn, Pc⟩, ⟨QA, On, Oc⟩⟩ := S
  unfold askC strV
  simp only at hn ⊢
  go_enter Tryz.func15, Tryz.ntmps15
  go_wp2
  refine bodyPost_ret (v := .agg #[.int .u8 kind, .int .i64 request, .string ⟨item.toArray⟩, .int .i64 qty, .int .i64 day, .int .i64 days, .int .i64 rank, .int .i64 lot, .int .i64 0, .slice PA Pn Pc, .slice QA On Oc]) (by simp [results, Tryz.results15, go_sem]) rfl ?_
  exact bent_fin ⟨kind, request, item, qty, day, days, rank, lot, 0, parts, others⟩ ⟨⟨PA, Pn, Pc⟩, ⟨QA, On, Oc⟩⟩ H.out (((Turned.refl (fun _ => False) w).alloc _).alloc _) rfl (fun H' => ⟨H'.parts, H'.others⟩) ⟨hk.kind, hk.request, hk.item, hk.qty, hk.day, hk.days, hk.rank, hk.lot, (show I64 0 from ⟨by decide, by decide⟩), hk.parts, hk.others⟩
set_option maxRecDepth 100000 in
set_option maxHeartbeats 1000000 in
theorem bent_18 (B : Nat) (a : AskV) (S : AskS) (w : World) (h : AskOwn w B a S) (hk : a.Ok) (hB : B ≤ w.heap.size) (hn : S.P.n ≤ 1000 ∧ S.O.n ≤ 1000) : Calls Tryz.prog 15 #[.agg (askC a S), .int .i64 18] w (BentP B a S w) := by
  have H := Lib.hid h
  clear h
  obtain ⟨kind, request, item, qty, day, days, rank, lot, line, parts, others⟩ := a
  obtain ⟨⟨PA, Pn, Pc⟩, ⟨QA, On, Oc⟩⟩ := S
  unfold askC strV
  simp only at hn ⊢
  go_enter Tryz.func15, Tryz.ntmps15
  go_wp2
  refine bodyPost_ret (v := .agg #[.int .u8 kind, .int .i64 request, .string ⟨item.toArray⟩, .int .i64 qty, .int .i64 day, .int .i64 days, .int .i64 rank, .int .i64 lot, .int .i64 (-1), .slice PA Pn Pc, .slice QA On Oc]) (by simp [results, Tryz.results15, go_sem]) rfl ?_
  exact bent_fin ⟨kind, request, item, qty, day, days, rank, lot, (-1), parts, others⟩ ⟨⟨PA, Pn, Pc⟩, ⟨QA, On, Oc⟩⟩ H.out (((Turned.refl (fun _ => False) w).alloc _).alloc _) rfl (fun H' => ⟨H'.parts, H'.others⟩) ⟨hk.kind, hk.request, hk.item, hk.qty, hk.day, hk.days, hk.rank, hk.lot, (show I64 (-1) from ⟨by decide, by decide⟩), hk.parts, hk.others⟩
set_option maxRecDepth 100000 in
set_option maxHeartbeats 1000000 in
theorem bent_19 (B : Nat) (a : AskV) (S : AskS) (w : World) (h : AskOwn w B a S) (hk : a.Ok) (hB : B ≤ w.heap.size) (hn : S.P.n ≤ 1000 ∧ S.O.n ≤ 1000) : Calls Tryz.prog 15 #[.agg (askC a S), .int .i64 19] w (BentP B a S w) := by
  have H := Lib.hid h
  clear h
  obtain ⟨kind, request, item, qty, day, days, rank, lot, line, parts, others⟩ := a
  obtain ⟨⟨PA, Pn, Pc⟩, ⟨QA, On, Oc⟩⟩ := S
  unfold askC strV
  simp only at hn ⊢
  go_enter Tryz.func15, Tryz.ntmps15
  go_wp2
  refine bodyPost_ret (v := .agg #[.int .u8 kind, .int .i64 request, .string ⟨item.toArray⟩, .int .i64 qty, .int .i64 day, .int .i64 days, .int .i64 rank, .int .i64 lot, .int .i64 line, .slice none 0 0, .slice QA On Oc]) (by simp [results, Tryz.results15, go_sem]) rfl ?_
  exact bent_fin ⟨kind, request, item, qty, day, days, rank, lot, line, [], others⟩ ⟨⟨none, 0, 0⟩, ⟨QA, On, Oc⟩⟩ H.out (((Turned.refl (fun _ => False) w).alloc _).alloc _) rfl (fun H' => ⟨slQ_none _, H'.others⟩) ⟨hk.kind, hk.request, hk.item, hk.qty, hk.day, hk.days, hk.rank, hk.lot, hk.line, (by simp), hk.others⟩
set_option maxRecDepth 100000 in
set_option maxHeartbeats 1000000 in
theorem bent_20 (B : Nat) (a : AskV) (S : AskS) (w : World) (h : AskOwn w B a S) (hk : a.Ok) (hB : B ≤ w.heap.size) (hn : S.P.n ≤ 1000 ∧ S.O.n ≤ 1000) : Calls Tryz.prog 15 #[.agg (askC a S), .int .i64 20] w (BentP B a S w) := by
  have H := Lib.hid h
  clear h
  obtain ⟨kind, request, item, qty, day, days, rank, lot, line, parts, others⟩ := a
  obtain ⟨⟨PA, Pn, Pc⟩, ⟨QA, On, Oc⟩⟩ := S
  unfold askC strV
  simp only at hn ⊢
  have BX := Lib.hid ((Blk.new w 29 #[.int .u8 kind, .int .i64 request, .string ⟨item.toArray⟩, .int .i64 qty, .int .i64 day, .int .i64 days, .int .i64 rank, .int .i64 lot, .int .i64 line, .slice PA Pn Pc, .slice QA On Oc]).alloc (.cells #[.int .u8 0, .int .i64 0, .string ⟨#[]⟩, .int .i64 0, .int .i64 0, .int .i64 0, .int .i64 0, .int .i64 0, .int .i64 0, .slice none 0 0, .slice none 0 0] 29))
  have BZ := Lib.hid (Blk.new_at (k := w.heap.size + 1) (w.alloc (.cells #[.int .u8 kind, .int .i64 request, .string ⟨item.toArray⟩, .int .i64 qty, .int .i64 day, .int .i64 days, .int .i64 rank, .int .i64 lot, .int .i64 line, .slice PA Pn Pc, .slice QA On Oc] 29)) 29 #[.int .u8 0, .int .i64 0, .string ⟨#[]⟩, .int .i64 0, .int .i64 0, .int .i64 0, .int .i64 0, .int .i64 0, .int .i64 0, .slice none 0 0, .slice none 0 0] (by simp))
  have T0 := Lib.hid (((Turned.refl (fun _ => False) w).alloc (.cells #[.int .u8 kind, .int .i64 request, .string ⟨item.toArray⟩, .int .i64 qty, .int .i64 day, .int .i64 days, .int .i64 rank, .int .i64 lot, .int .i64 line, .slice PA Pn Pc, .slice QA On Oc] 29)).alloc (.cells #[.int .u8 0, .int .i64 0, .string ⟨#[]⟩, .int .i64 0, .int .i64 0, .int .i64 0, .int .i64 0, .int .i64 0, .int .i64 0, .slice none 0 0, .slice none 0 0] 29))
  have e2 : ((w.alloc (.cells #[.int .u8 kind, .int .i64 request, .string ⟨item.toArray⟩, .int .i64 qty, .int .i64 day, .int .i64 days, .int .i64 rank, .int .i64 lot, .int .i64 line, .slice PA Pn Pc, .slice QA On Oc] 29)).alloc (.cells #[.int .u8 0, .int .i64 0, .string ⟨#[]⟩, .int .i64 0, .int .i64 0, .int .i64 0, .int .i64 0, .int .i64 0, .int .i64 0, .slice none 0 0, .slice none 0 0] 29)).heap.size = w.heap.size + 1 + 1 := by simp
  go_enter Tryz.func15, Tryz.ntmps15
  go_wp2_with (at_builtin; refine hold0 ?_)
  refine ⟨?_, trivial⟩
  generalize ((w.alloc (.cells #[.int .u8 kind, .int .i64 request, .string ⟨item.toArray⟩, .int .i64 qty, .int .i64 day, .int .i64 days, .int .i64 rank, .int .i64 lot, .int .i64 line, .slice PA Pn Pc, .slice QA On Oc] 29)).alloc (.cells #[.int .u8 0, .int .i64 0, .string ⟨#[]⟩, .int .i64 0, .int .i64 0, .int .i64 0, .int .i64 0, .int .i64 0, .int .i64 0, .slice none 0 0, .slice none 0 0] 29)) = w0 at *
  rw [← e2]
  have hbx := Lib.hid (show w.heap.size ≠ w.heap.size + 1 ∧ w.heap.size + 1 < w0.heap.size ∧ w.heap.size ≤ w.heap.size + 1 from by omega)
  generalize w.heap.size + 1 = bz at *
  obtain ⟨bx, hbxe⟩ : ∃ bx, bx = w.heap.size := ⟨_, rfl⟩
  have D0 := Lib.hid (H.out.fresh T0.out)
  have tq := Lib.hid ((Turned.refl (fun _ => False) w0).alloc (.cells #[.string ⟨#[90]⟩, .int .i64 1] 55))
  have hn1 := hn.1
  refine wpList_appE partT rfl (.tmp 69) (.tmp 71) rfl (show OwnE _ 55 2 PA Pn Pc (partC parts) from D0.out.parts.fresh tq.out) ⟨w0.heap.size, 0, none⟩ 1 1 [.string ⟨#[90]⟩, .int .i64 1] rfl (news_new2 w0 55 _ _) (by simp [Value.oneCell']) (by omega) (by unfold maxLen; omega) (by omega) rfl rfl ?_
  intro A4 c4 w4 o4 a4
  have D1 := Lib.hid (D0.out.fresh tq.out)
  have old := Lib.hid (D1.out.parts.old o4 a4)
  have BX4 := (BX.out.turned tq.out (fun e => e)).turned a4.turned (fun e => D1.out.parts.blk (BX.out.turned tq.out (fun e => e)) (by decide) e rfl)
  have BZ4 := (BZ.out.turned tq.out (fun e => e)).turned a4.turned (fun e => D1.out.parts.blk (BZ.out.turned tq.out (fun e => e)) (by decide) e rfl)
  have oth := D1.out.others.turned a4.turned (fun g e e2 => by
    obtain ⟨b1, r1⟩ := (e ▸ D1.out.others : OwnE _ 9 1 (some ⟨g, 0, none⟩) On Oc _).row.row
    exact D1.out.parts.blk r1.1 (by decide) e2 rfl)
  have oth := Lib.hid oth
  have t4 := Lib.hid (((T0.out.and_ tq.out).mono (fun _ e => e.elim)).trans (W := LisW ⟨⟨PA, Pn, Pc⟩, ⟨QA, On, Oc⟩⟩) a4.turned (fun _ e => e) (fun _ e => .inl (.inl e)))
  have O4 := Lib.hid o4
  clear a4 o4
  have q0 : w4.cell? ⟨w.heap.size, 9, none⟩ = some (.slice PA Pn Pc) := BX4.cell 9
  have f0 := BX4.frozen 9
  have tS := (Turned.refl (fun g => g = w.heap.size) w4).setCell (p := ⟨w.heap.size, 9, none⟩) (.inl rfl) (.slice A4 (Pn + 1) c4)
  have BX5 := BX4.set_ 9 (.slice A4 (Pn + 1) c4)
  simp only [List.setIfInBounds_toArray, List.set_cons_zero, List.set_cons_succ] at BX5
  have BZ5 := Lib.hid (BZ4.turned tS (fun e => hbx.out.1 e.symm))
  obtain ⟨y0, y1, y2, y3, y4, y5, y6, y7, y8, y9, y10⟩ := BX5.cells11
  obtain ⟨z0, z1, z2, z3, z4, z5, z6, z7, z8, z9, z10⟩ := BZ5.out.cells11
  have zf := BZ5.out.frozen
  have O5 := Lib.hid (O4.out.turned tS (fun g e e2 => O4.out.blk BX4 (by decide) e e2))
  have old5 := Lib.hid (old.out.turned tS (fun g e e2 => old.out.blk BX4 (by decide) e e2))
  have oth5 := Lib.hid (oth.out.turned tS (fun g e e2 => oth.out.blk BX4 (by decide) e e2))
  have t5 := Lib.hid (t4.out.setCell (p := ⟨w.heap.size, 9, none⟩) (.inr (Nat.le_refl _)) (.slice A4 (Pn + 1) c4))
  clear BX4 BZ4 BX5 tS old oth O4 t4 BX BZ T0 D0 D1 tq
  go_wp2_with fail
  obtain ⟨wz, hwz, XZ, tZ⟩ := fin11 (.int .u8 kind) (.int .i64 request) (.string ⟨item.toArray⟩) (.int .i64 qty) (.int .i64 day) (.int .i64 days) (.int .i64 rank) (.int .i64 lot) (.int .i64 line) (.slice A4 (Pn + 1) c4) (.slice QA On Oc) BZ5.out
  rw [hwz]
  clear hwz
  obtain ⟨e0, e1, e2, e3, e4, e5, e6, e7, e8, e9, e10⟩ := XZ.cells11
  refine bodyPost_ret (v := .agg #[.int .u8 kind, .int .i64 request, .string ⟨item.toArray⟩, .int .i64 qty, .int .i64 day, .int .i64 days, .int .i64 rank, .int .i64 lot, .int .i64 line, .slice A4 (Pn + 1) c4, .slice QA On Oc]) (by simp [results, Tryz.results15, go_sem, e0, e1, e2, e3, e4, e5, e6, e7, e8, e9, e10]) rfl ?_
  have O6 := O5.out.turned tZ (fun g e e2 => O5.out.blk BZ5.out (by decide) e e2)
  have old6 := old5.out.turned tZ (fun g e e2 => old5.out.blk BZ5.out (by decide) e e2)
  have oth6 := oth5.out.turned tZ (fun g e e2 => oth5.out.blk BZ5.out (by decide) e e2)
  exact ⟨⟨kind, request, item, qty, day, days, rank, lot, line, parts ++ [([90], 1)], others⟩, ⟨⟨A4, Pn + 1, c4⟩, ⟨QA, On, Oc⟩⟩, rfl, ⟨OwnE.slQ (show OwnE wz 55 2 A4 (Pn + 1) c4 (partC (parts ++ [([90], 1)])) from by rw [partC_append]; exact O6), OwnE.slT oth6⟩, ⟨hk.kind, hk.request, hk.item, hk.qty, hk.day, hk.days, hk.rank, hk.lot, hk.line, (fun p hp => by
      rcases List.mem_append.1 hp with hp | hp
      · exact hk.parts p hp
      · simp only [List.mem_singleton] at hp
        subst hp
        exact ⟨strOk_few (by decide), by unfold I64; decide⟩), hk.others⟩, ⟨old6, oth6, H.out.pB, H.out.oB⟩, t5.out.trans (W := LisW ⟨⟨PA, Pn, Pc⟩, ⟨QA, On, Oc⟩⟩) tZ (fun _ e => e) (fun g e => .inr (by have := hbx.out.2.2; omega))⟩
set_option maxRecDepth 100000 in
set_option maxHeartbeats 1000000 in
theorem bent_21 (B : Nat) (a : AskV) (S : AskS) (w : World) (h : AskOwn w B a S) (hk : a.Ok) (hB : B ≤ w.heap.size) (hn : S.P.n ≤ 1000 ∧ S.O.n ≤ 1000) : Calls Tryz.prog 15 #[.agg (askC a S), .int .i64 21] w (BentP B a S w) := by
  have H := Lib.hid h
  clear h
  obtain ⟨kind, request, item, qty, day, days, rank, lot, line, parts, others⟩ := a
  obtain ⟨⟨PA, Pn, Pc⟩, ⟨QA, On, Oc⟩⟩ := S
  unfold askC strV
  simp only at hn ⊢
  go_enter Tryz.func15, Tryz.ntmps15
  go_wp2
  refine bodyPost_ret (v := .agg #[.int .u8 kind, .int .i64 request, .string ⟨item.toArray⟩, .int .i64 qty, .int .i64 day, .int .i64 days, .int .i64 rank, .int .i64 lot, .int .i64 line, .slice (some ⟨w.heap.size + 1 + 1, 0, none⟩) 2 2, .slice QA On Oc]) (by simp [results, Tryz.results15, go_sem]) rfl ?_
  exact bent_fin ⟨kind, request, item, qty, day, days, rank, lot, line, [([66], 1), ([66], 1)], others⟩ ⟨⟨some ⟨w.heap.size + 1 + 1, 0, none⟩, 2, 2⟩, ⟨QA, On, Oc⟩⟩ H.out ((((Turned.refl (fun _ => False) w).alloc _).alloc _).alloc _) rfl (fun H' => ⟨RowE.slQ0 ⟨rfl, Nat.le_refl _, by decide, _, Blk.new_at _ _ _ (by simp), rfl, rfl⟩, H'.others⟩) ⟨hk.kind, hk.request, hk.item, hk.qty, hk.day, hk.days, hk.rank, hk.lot, hk.line, (show ∀ p ∈ ([([66], 1), ([66], 1)] : List (List UInt8 × Int)), strOk p.1 ∧ I64 p.2 by unfold strOk I64; decide), hk.others⟩
set_option maxRecDepth 100000 in
set_option maxHeartbeats 1000000 in
theorem bent_22 (B : Nat) (a : AskV) (S : AskS) (w : World) (h : AskOwn w B a S) (hk : a.Ok) (hB : B ≤ w.heap.size) (hn : S.P.n ≤ 1000 ∧ S.O.n ≤ 1000) : Calls Tryz.prog 15 #[.agg (askC a S), .int .i64 22] w (BentP B a S w) := by
  have H := Lib.hid h
  clear h
  obtain ⟨kind, request, item, qty, day, days, rank, lot, line, parts, others⟩ := a
  obtain ⟨⟨PA, Pn, Pc⟩, ⟨QA, On, Oc⟩⟩ := S
  unfold askC strV
  simp only at hn ⊢
  go_enter Tryz.func15, Tryz.ntmps15
  go_wp2
  refine bodyPost_ret (v := .agg #[.int .u8 kind, .int .i64 request, .string ⟨item.toArray⟩, .int .i64 qty, .int .i64 day, .int .i64 days, .int .i64 rank, .int .i64 lot, .int .i64 line, .slice (some ⟨w.heap.size + 1 + 1, 0, none⟩) 1 1, .slice QA On Oc]) (by simp [results, Tryz.results15, go_sem]) rfl ?_
  exact bent_fin ⟨kind, request, item, qty, day, days, rank, lot, line, [([66], 0)], others⟩ ⟨⟨some ⟨w.heap.size + 1 + 1, 0, none⟩, 1, 1⟩, ⟨QA, On, Oc⟩⟩ H.out ((((Turned.refl (fun _ => False) w).alloc _).alloc _).alloc _) rfl (fun H' => ⟨RowE.slQ0 ⟨rfl, Nat.le_refl _, by decide, _, Blk.new_at _ _ _ (by simp), rfl, rfl⟩, H'.others⟩) ⟨hk.kind, hk.request, hk.item, hk.qty, hk.day, hk.days, hk.rank, hk.lot, hk.line, (show ∀ p ∈ ([([66], 0)] : List (List UInt8 × Int)), strOk p.1 ∧ I64 p.2 by unfold strOk I64; decide), hk.others⟩
set_option maxRecDepth 100000 in
set_option maxHeartbeats 1000000 in
theorem bent_23 (B : Nat) (a : AskV) (S : AskS) (w : World) (h : AskOwn w B a S) (hk : a.Ok) (hB : B ≤ w.heap.size) (hn : S.P.n ≤ 1000 ∧ S.O.n ≤ 1000) : Calls Tryz.prog 15 #[.agg (askC a S), .int .i64 23] w (BentP B a S w) := by
  have H := Lib.hid h
  clear h
  obtain ⟨kind, request, item, qty, day, days, rank, lot, line, parts, others⟩ := a
  obtain ⟨⟨PA, Pn, Pc⟩, ⟨QA, On, Oc⟩⟩ := S
  unfold askC strV
  simp only at hn ⊢
  go_enter Tryz.func15, Tryz.ntmps15
  go_wp2
  refine bodyPost_ret (v := .agg #[.int .u8 kind, .int .i64 request, .string ⟨item.toArray⟩, .int .i64 qty, .int .i64 day, .int .i64 days, .int .i64 rank, .int .i64 lot, .int .i64 line, .slice (some ⟨w.heap.size + 1 + 1, 0, none⟩) 1 1, .slice QA On Oc]) (by simp [results, Tryz.results15, go_sem]) rfl ?_
  exact bent_fin ⟨kind, request, item, qty, day, days, rank, lot, line, [([98], 1)], others⟩ ⟨⟨some ⟨w.heap.size + 1 + 1, 0, none⟩, 1, 1⟩, ⟨QA, On, Oc⟩⟩ H.out ((((Turned.refl (fun _ => False) w).alloc _).alloc _).alloc _) rfl (fun H' => ⟨RowE.slQ0 ⟨rfl, Nat.le_refl _, by decide, _, Blk.new_at _ _ _ (by simp), rfl, rfl⟩, H'.others⟩) ⟨hk.kind, hk.request, hk.item, hk.qty, hk.day, hk.days, hk.rank, hk.lot, hk.line, (show ∀ p ∈ ([([98], 1)] : List (List UInt8 × Int)), strOk p.1 ∧ I64 p.2 by unfold strOk I64; decide), hk.others⟩
set_option maxRecDepth 100000 in
set_option maxHeartbeats 1000000 in
theorem bent_24 (B : Nat) (a : AskV) (S : AskS) (w : World) (h : AskOwn w B a S) (hk : a.Ok) (hB : B ≤ w.heap.size) (hn : S.P.n ≤ 1000 ∧ S.O.n ≤ 1000) : Calls Tryz.prog 15 #[.agg (askC a S), .int .i64 24] w (BentP B a S w) := by
  have H := Lib.hid h
  clear h
  obtain ⟨kind, request, item, qty, day, days, rank, lot, line, parts, others⟩ := a
  obtain ⟨⟨PA, Pn, Pc⟩, ⟨QA, On, Oc⟩⟩ := S
  unfold askC strV
  simp only at hn ⊢
  have BX := Lib.hid ((Blk.new w 29 #[.int .u8 kind, .int .i64 request, .string ⟨item.toArray⟩, .int .i64 qty, .int .i64 day, .int .i64 days, .int .i64 rank, .int .i64 lot, .int .i64 line, .slice PA Pn Pc, .slice QA On Oc]).alloc (.cells #[.int .u8 0, .int .i64 0, .string ⟨#[]⟩, .int .i64 0, .int .i64 0, .int .i64 0, .int .i64 0, .int .i64 0, .int .i64 0, .slice none 0 0, .slice none 0 0] 29))
  have BZ := Lib.hid (Blk.new_at (k := w.heap.size + 1) (w.alloc (.cells #[.int .u8 kind, .int .i64 request, .string ⟨item.toArray⟩, .int .i64 qty, .int .i64 day, .int .i64 days, .int .i64 rank, .int .i64 lot, .int .i64 line, .slice PA Pn Pc, .slice QA On Oc] 29)) 29 #[.int .u8 0, .int .i64 0, .string ⟨#[]⟩, .int .i64 0, .int .i64 0, .int .i64 0, .int .i64 0, .int .i64 0, .int .i64 0, .slice none 0 0, .slice none 0 0] (by simp))
  have T0 := Lib.hid (((Turned.refl (fun _ => False) w).alloc (.cells #[.int .u8 kind, .int .i64 request, .string ⟨item.toArray⟩, .int .i64 qty, .int .i64 day, .int .i64 days, .int .i64 rank, .int .i64 lot, .int .i64 line, .slice PA Pn Pc, .slice QA On Oc] 29)).alloc (.cells #[.int .u8 0, .int .i64 0, .string ⟨#[]⟩, .int .i64 0, .int .i64 0, .int .i64 0, .int .i64 0, .int .i64 0, .int .i64 0, .slice none 0 0, .slice none 0 0] 29))
  have e2 : ((w.alloc (.cells #[.int .u8 kind, .int .i64 request, .string ⟨item.toArray⟩, .int .i64 qty, .int .i64 day, .int .i64 days, .int .i64 rank, .int .i64 lot, .int .i64 line, .slice PA Pn Pc, .slice QA On Oc] 29)).alloc (.cells #[.int .u8 0, .int .i64 0, .string ⟨#[]⟩, .int .i64 0, .int .i64 0, .int .i64 0, .int .i64 0, .int .i64 0, .int .i64 0, .slice none 0 0, .slice none 0 0] 29)).heap.size = w.heap.size + 1 + 1 := by simp
  go_enter Tryz.func15, Tryz.ntmps15
  go_wp2_with (at_builtin; refine hold0 ?_)
  refine ⟨?_, trivial⟩
  generalize ((w.alloc (.cells #[.int .u8 kind, .int .i64 request, .string ⟨item.toArray⟩, .int .i64 qty, .int .i64 day, .int .i64 days, .int .i64 rank, .int .i64 lot, .int .i64 line, .slice PA Pn Pc, .slice QA On Oc] 29)).alloc (.cells #[.int .u8 0, .int .i64 0, .string ⟨#[]⟩, .int .i64 0, .int .i64 0, .int .i64 0, .int .i64 0, .int .i64 0, .int .i64 0, .slice none 0 0, .slice none 0 0] 29)) = w0 at *
  rw [← e2]
  have hbx := Lib.hid (show w.heap.size ≠ w.heap.size + 1 ∧ w.heap.size + 1 < w0.heap.size ∧ w.heap.size ≤ w.heap.size + 1 from by omega)
  generalize w.heap.size + 1 = bz at *
  obtain ⟨bx, hbxe⟩ : ∃ bx, bx = w.heap.size := ⟨_, rfl⟩
  have D0 := Lib.hid (H.out.fresh T0.out)
  have tq := Lib.hid ((Turned.refl (fun _ => False) w0).alloc (.cells #[.string ⟨#[90]⟩] 9))
  have hn1 := hn.2
  refine wpList_appE textT rfl (.tmp 93) (.tmp 94) rfl (show OwnE _ 9 1 QA On Oc (textC others) from D0.out.others.fresh tq.out) ⟨w0.heap.size, 0, none⟩ 1 1 [.string ⟨#[90]⟩] rfl (news_new1 w0 9 _) (by simp [Value.oneCell']) (by omega) (by unfold maxLen; omega) (by omega) rfl rfl ?_
  intro A4 c4 w4 o4 a4
  have D1 := Lib.hid (D0.out.fresh tq.out)
  have old := Lib.hid (D1.out.others.old o4 a4)
  have BX4 := (BX.out.turned tq.out (fun e => e)).turned a4.turned (fun e => D1.out.others.blk (BX.out.turned tq.out (fun e => e)) (by decide) e rfl)
  have BZ4 := (BZ.out.turned tq.out (fun e => e)).turned a4.turned (fun e => D1.out.others.blk (BZ.out.turned tq.out (fun e => e)) (by decide) e rfl)
  have oth := D1.out.parts.turned a4.turned (fun g e e2 => by
    obtain ⟨b1, r1⟩ := (e ▸ D1.out.parts : OwnE _ 55 2 (some ⟨g, 0, none⟩) Pn Pc _).row.row
    exact D1.out.others.blk r1.1 (by decide) e2 rfl)
  have oth := Lib.hid oth
  have t4 := Lib.hid (((T0.out.and_ tq.out).mono (fun _ e => e.elim)).trans (W := LisW ⟨⟨PA, Pn, Pc⟩, ⟨QA, On, Oc⟩⟩) a4.turned (fun _ e => e) (fun _ e => .inl (.inr e)))
  have O4 := Lib.hid o4
  clear a4 o4
  have q0 : w4.cell? ⟨w.heap.size, 10, none⟩ = some (.slice QA On Oc) := BX4.cell 10
  have f0 := BX4.frozen 10
  have tS := (Turned.refl (fun g => g = w.heap.size) w4).setCell (p := ⟨w.heap.size, 10, none⟩) (.inl rfl) (.slice A4 (On + 1) c4)
  have BX5 := BX4.set_ 10 (.slice A4 (On + 1) c4)
  simp only [List.setIfInBounds_toArray, List.set_cons_zero, List.set_cons_succ] at BX5
  have BZ5 := Lib.hid (BZ4.turned tS (fun e => hbx.out.1 e.symm))
  obtain ⟨y0, y1, y2, y3, y4, y5, y6, y7, y8, y9, y10⟩ := BX5.cells11
  obtain ⟨z0, z1, z2, z3, z4, z5, z6, z7, z8, z9, z10⟩ := BZ5.out.cells11
  have zf := BZ5.out.frozen
  have O5 := Lib.hid (O4.out.turned tS (fun g e e2 => O4.out.blk BX4 (by decide) e e2))
  have old5 := Lib.hid (old.out.turned tS (fun g e e2 => old.out.blk BX4 (by decide) e e2))
  have oth5 := Lib.hid (oth.out.turned tS (fun g e e2 => oth.out.blk BX4 (by decide) e e2))
  have t5 := Lib.hid (t4.out.setCell (p := ⟨w.heap.size, 10, none⟩) (.inr (Nat.le_refl _)) (.slice A4 (On + 1) c4))
  clear BX4 BZ4 BX5 tS old oth O4 t4 BX BZ T0 D0 D1 tq
  go_wp2_with fail
  obtain ⟨wz, hwz, XZ, tZ⟩ := fin11 (.int .u8 kind) (.int .i64 request) (.string ⟨item.toArray⟩) (.int .i64 qty) (.int .i64 day) (.int .i64 days) (.int .i64 rank) (.int .i64 lot) (.int .i64 line) (.slice PA Pn Pc) (.slice A4 (On + 1) c4) BZ5.out
  rw [hwz]
  clear hwz
  obtain ⟨e0, e1, e2, e3, e4, e5, e6, e7, e8, e9, e10⟩ := XZ.cells11
  refine bodyPost_ret (v := .agg #[.int .u8 kind, .int .i64 request, .string ⟨item.toArray⟩, .int .i64 qty, .int .i64 day, .int .i64 days, .int .i64 rank, .int .i64 lot, .int .i64 line, .slice PA Pn Pc, .slice A4 (On + 1) c4]) (by simp [results, Tryz.results15, go_sem, e0, e1, e2, e3, e4, e5, e6, e7, e8, e9, e10]) rfl ?_
  have O6 := O5.out.turned tZ (fun g e e2 => O5.out.blk BZ5.out (by decide) e e2)
  have old6 := old5.out.turned tZ (fun g e e2 => old5.out.blk BZ5.out (by decide) e e2)
  have oth6 := oth5.out.turned tZ (fun g e e2 => oth5.out.blk BZ5.out (by decide) e e2)
  exact ⟨⟨kind, request, item, qty, day, days, rank, lot, line, parts, others ++ [[90]]⟩, ⟨⟨PA, Pn, Pc⟩, ⟨A4, On + 1, c4⟩⟩, rfl, ⟨OwnE.slQ oth6, OwnE.slT (show OwnE wz 9 1 A4 (On + 1) c4 (textC (others ++ [[90]])) from by rw [textC_append]; exact O6)⟩, ⟨hk.kind, hk.request, hk.item, hk.qty, hk.day, hk.days, hk.rank, hk.lot, hk.line, hk.parts, (fun p hp => by
      rcases List.mem_append.1 hp with hp | hp
      · exact hk.others p hp
      · simp only [List.mem_singleton] at hp
        subst hp
        exact strOk_few (by decide))⟩, ⟨oth6, old6, H.out.pB, H.out.oB⟩, t5.out.trans (W := LisW ⟨⟨PA, Pn, Pc⟩, ⟨QA, On, Oc⟩⟩) tZ (fun _ e => e) (fun g e => .inr (by have := hbx.out.2.2; omega))⟩
set_option maxRecDepth 100000 in
set_option maxHeartbeats 1000000 in
theorem bent_25 (B : Nat) (a : AskV) (S : AskS) (w : World) (h : AskOwn w B a S) (hk : a.Ok) (hB : B ≤ w.heap.size) (hn : S.P.n ≤ 1000 ∧ S.O.n ≤ 1000) : Calls Tryz.prog 15 #[.agg (askC a S), .int .i64 25] w (BentP B a S w) := by
  have H := Lib.hid h
  clear h
  obtain ⟨kind, request, item, qty, day, days, rank, lot, line, parts, others⟩ := a
  obtain ⟨⟨PA, Pn, Pc⟩, ⟨QA, On, Oc⟩⟩ := S
  unfold askC strV
  simp only at hn ⊢
  go_enter Tryz.func15, Tryz.ntmps15
  go_wp2
  refine bodyPost_ret (v := .agg #[.int .u8 kind, .int .i64 request, .string ⟨item.toArray⟩, .int .i64 qty, .int .i64 day, .int .i64 days, .int .i64 rank, .int .i64 lot, .int .i64 line, .slice PA Pn Pc, .slice (some ⟨w.heap.size + 1 + 1, 0, none⟩) 2 2]) (by simp [results, Tryz.results15, go_sem]) rfl ?_
  exact bent_fin ⟨kind, request, item, qty, day, days, rank, lot, line, parts, [[66], [66]]⟩ ⟨⟨PA, Pn, Pc⟩, ⟨some ⟨w.heap.size + 1 + 1, 0, none⟩, 2, 2⟩⟩ H.out ((((Turned.refl (fun _ => False) w).alloc _).alloc _).alloc _) rfl (fun H' => ⟨H'.parts, RowE.slX0 ⟨rfl, Nat.le_refl _, by decide, _, Blk.new_at _ _ _ (by simp), rfl, rfl⟩⟩) ⟨hk.kind, hk.request, hk.item, hk.qty, hk.day, hk.days, hk.rank, hk.lot, hk.line, hk.parts, (fun s hs => by simp only [List.mem_cons, List.not_mem_nil, or_false] at hs; rcases hs with rfl | rfl <;> exact strOk_few (by decide))⟩
set_option maxRecDepth 100000 in
set_option maxHeartbeats 1000000 in
theorem bent_26 (B : Nat) (a : AskV) (S : AskS) (w : World) (h : AskOwn w B a S) (hk : a.Ok) (hB : B ≤ w.heap.size) (hn : S.P.n ≤ 1000 ∧ S.O.n ≤ 1000) : Calls Tryz.prog 15 #[.agg (askC a S), .int .i64 26] w (BentP B a S w) := by
  have H := Lib.hid h
  clear h
  obtain ⟨kind, request, item, qty, day, days, rank, lot, line, parts, others⟩ := a
  obtain ⟨⟨PA, Pn, Pc⟩, ⟨QA, On, Oc⟩⟩ := S
  unfold askC strV
  simp only at hn ⊢
  go_enter Tryz.func15, Tryz.ntmps15
  go_wp2
  refine bodyPost_ret (v := .agg #[.int .u8 kind, .int .i64 request, .string ⟨item.toArray⟩, .int .i64 qty, .int .i64 day, .int .i64 days, .int .i64 rank, .int .i64 lot, .int .i64 line, .slice PA Pn Pc, .slice (some ⟨w.heap.size + 1 + 1, 0, none⟩) 1 1]) (by simp [results, Tryz.results15, go_sem]) rfl ?_
  exact bent_fin ⟨kind, request, item, qty, day, days, rank, lot, line, parts, [item]⟩ ⟨⟨PA, Pn, Pc⟩, ⟨some ⟨w.heap.size + 1 + 1, 0, none⟩, 1, 1⟩⟩ H.out ((((Turned.refl (fun _ => False) w).alloc _).alloc _).alloc _) rfl (fun H' => ⟨H'.parts, RowE.slX0 ⟨rfl, Nat.le_refl _, by decide, _, Blk.new_at _ _ _ (by simp), rfl, rfl⟩⟩) ⟨hk.kind, hk.request, hk.item, hk.qty, hk.day, hk.days, hk.rank, hk.lot, hk.line, hk.parts, (fun s hs => by simp only [List.mem_cons, List.not_mem_nil, or_false] at hs; subst hs; exact hk.item)⟩
set_option maxRecDepth 100000 in
set_option maxHeartbeats 1000000 in
theorem bent_27 (B : Nat) (a : AskV) (S : AskS) (w : World) (h : AskOwn w B a S) (hk : a.Ok) (hB : B ≤ w.heap.size) (hn : S.P.n ≤ 1000 ∧ S.O.n ≤ 1000) : Calls Tryz.prog 15 #[.agg (askC a S), .int .i64 27] w (BentP B a S w) := by
  have H := Lib.hid h
  clear h
  obtain ⟨kind, request, item, qty, day, days, rank, lot, line, parts, others⟩ := a
  obtain ⟨⟨PA, Pn, Pc⟩, ⟨QA, On, Oc⟩⟩ := S
  unfold askC strV
  simp only at hn ⊢
  go_enter Tryz.func15, Tryz.ntmps15
  go_wp2
  refine bodyPost_ret (v := .agg #[.int .u8 kind, .int .i64 request, .string ⟨item.toArray⟩, .int .i64 qty, .int .i64 day, .int .i64 days, .int .i64 rank, .int .i64 lot, .int .i64 line, .slice PA Pn Pc, .slice (some ⟨w.heap.size + 1 + 1, 0, none⟩) 1 1]) (by simp [results, Tryz.results15, go_sem]) rfl ?_
  exact bent_fin ⟨kind, request, item, qty, day, days, rank, lot, line, parts, [[]]⟩ ⟨⟨PA, Pn, Pc⟩, ⟨some ⟨w.heap.size + 1 + 1, 0, none⟩, 1, 1⟩⟩ H.out ((((Turned.refl (fun _ => False) w).alloc _).alloc _).alloc _) rfl (fun H' => ⟨H'.parts, RowE.slX0 ⟨rfl, Nat.le_refl _, by decide, _, Blk.new_at _ _ _ (by simp), rfl, rfl⟩⟩) ⟨hk.kind, hk.request, hk.item, hk.qty, hk.day, hk.days, hk.rank, hk.lot, hk.line, hk.parts, (fun s hs => by simp only [List.mem_cons, List.not_mem_nil, or_false] at hs; subst hs; exact strOk_few (by decide))⟩
set_option maxRecDepth 100000 in
set_option maxHeartbeats 1000000 in
theorem bent_28 (B : Nat) (a : AskV) (S : AskS) (w : World) (h : AskOwn w B a S) (hk : a.Ok) (hB : B ≤ w.heap.size) (hn : S.P.n ≤ 1000 ∧ S.O.n ≤ 1000) : Calls Tryz.prog 15 #[.agg (askC a S), .int .i64 28] w (BentP B a S w) := by
  have H := Lib.hid h
  clear h
  obtain ⟨kind, request, item, qty, day, days, rank, lot, line, parts, others⟩ := a
  obtain ⟨⟨PA, Pn, Pc⟩, ⟨QA, On, Oc⟩⟩ := S
  unfold askC strV
  simp only at hn ⊢
  go_enter Tryz.func15, Tryz.ntmps15
  go_wp2
  refine bodyPost_ret (v := .agg #[.int .u8 kind, .int .i64 request, .string ⟨#[65]⟩, .int .i64 1, .int .i64 1, .int .i64 1, .int .i64 1, .int .i64 1, .int .i64 1, .slice PA Pn Pc, .slice QA On Oc]) (by simp [results, Tryz.results15, go_sem]) rfl ?_
  exact bent_fin ⟨kind, request, [65], 1, 1, 1, 1, 1, 1, parts, others⟩ ⟨⟨PA, Pn, Pc⟩, ⟨QA, On, Oc⟩⟩ H.out (((Turned.refl (fun _ => False) w).alloc _).alloc _) rfl (fun H' => ⟨H'.parts, H'.others⟩) ⟨hk.kind, hk.request, (show strOk ([65] : List UInt8) from strOk_few (by decide)), (show I64 1 from ⟨by decide, by decide⟩), (show I64 1 from ⟨by decide, by decide⟩), (show I64 1 from ⟨by decide, by decide⟩), (show I64 1 from ⟨by decide, by decide⟩), (show I64 1 from ⟨by decide, by decide⟩), (show I64 1 from ⟨by decide, by decide⟩), hk.parts, hk.others⟩
theorem bent_any (B : Nat) (a : AskV) (S : AskS) (w : World) (h : AskOwn w B a S) (hk : a.Ok) (hB : B ≤ w.heap.size) (hn : S.P.n ≤ 1000 ∧ S.O.n ≤ 1000) (n : Nat) (hlt : n < 29) : Calls Tryz.prog 15 #[.agg (askC a S), .int .i64 (n : Int)] w (BentP B a S w) := by
  rcases (show n = 0 ∨ n = 1 ∨ n = 2 ∨ n = 3 ∨ n = 4 ∨ n = 5 ∨ n = 6 ∨ n = 7 ∨ n = 8 ∨ n = 9 ∨ n = 10 ∨ n = 11 ∨ n = 12 ∨ n = 13 ∨ n = 14 ∨ n = 15 ∨ n = 16 ∨ n = 17 ∨ n = 18 ∨ n = 19 ∨ n = 20 ∨ n = 21 ∨ n = 22 ∨ n = 23 ∨ n = 24 ∨ n = 25 ∨ n = 26 ∨ n = 27 ∨ n = 28 by omega) with rfl | rfl | rfl | rfl | rfl | rfl | rfl | rfl | rfl | rfl | rfl | rfl | rfl | rfl | rfl | rfl | rfl | rfl | rfl | rfl | rfl | rfl | rfl | rfl | rfl | rfl | rfl | rfl | rfl
  · exact bent_0 B a S w h hk hB hn
  · exact bent_1 B a S w h hk hB hn
  · exact bent_2 B a S w h hk hB hn
  · exact bent_3 B a S w h hk hB hn
  · exact bent_4 B a S w h hk hB hn
  · exact bent_5 B a S w h hk hB hn
  · exact bent_6 B a S w h hk hB hn
  · exact bent_7 B a S w h hk hB hn
  · exact bent_8 B a S w h hk hB hn
  · exact bent_9 B a S w h hk hB hn
  · exact bent_10 B a S w h hk hB hn
  · exact bent_11 B a S w h hk hB hn
  · exact bent_12 B a S w h hk hB hn
  · exact bent_13 B a S w h hk hB hn
  · exact bent_14 B a S w h hk hB hn
  · exact bent_15 B a S w h hk hB hn
  · exact bent_16 B a S w h hk hB hn
  · exact bent_17 B a S w h hk hB hn
  · exact bent_18 B a S w h hk hB hn
  · exact bent_19 B a S w h hk hB hn
  · exact bent_20 B a S w h hk hB hn
  · exact bent_21 B a S w h hk hB hn
  · exact bent_22 B a S w h hk hB hn
  · exact bent_23 B a S w h hk hB hn
  · exact bent_24 B a S w h hk hB hn
  · exact bent_25 B a S w h hk hB hn
  · exact bent_26 B a S w h hk hB hn
  · exact bent_27 B a S w h hk hB hn
  · exact bent_28 B a S w h hk hB hn
end Go.Proofs.YtijmfglgeaaoaaaGreatDoor

