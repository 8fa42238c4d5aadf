/-
  storemanlaw19.bent, the first fourteen of its cases. Conditions: the old and the new bytes have no room behind them.
-/
import Derived.Test.YtohajofkflibjaaGreatDoorBnA
namespace Go.Proofs.YtohajofkflibjaaGreatDoor
open Go.RowKit Go.Maps
set_option linter.unusedVariables false
set_option linter.unusedSimpArgs false


section
variable {P : Program} {w : World} {S : TypeId} {A : Option Addr} {n c : Nat} {zs : List Int}
/-- append where there is no room, to any row that can be read. -/
theorem run_appG (B : BytT P S 5) {ty : TypeId} (h : BytS w A n c zs) (ad : Addr) (m cc : Nat) (ys : List Int) (hl : ys.length = m) (hnews : ∀ j u, (u8s ys)[j]? = some u → w.cell? (ad.add j) = some u) (hg : c < n + m) (hb : n + m ≤ 140737488355328) :
    ∃ c' w', (Builtin.append_ #[S, S] ty #[.slice A n c, .slice (some ad) m cc]).run P w = .ok (.slice (some ⟨w.heap.size, 0, none⟩) (n + m) c') w' ∧ OwnV w' (some ⟨w.heap.size, 0, none⟩) (n + m) c' (zs ++ ys) ∧ Turned (fun _ => False) w w' := by
  obtain ⟨i, hi, hz0, hz1, hz2⟩ := info_parts B.info
  have hu : u8s (zs ++ ys) = u8s zs ++ u8s ys := by simp [u8s]
  cases A with
  | none =>
    obtain ⟨rfl, rfl⟩ := h.nil_ rfl
    have hz : zs = [] := List.length_eq_zero_iff.1 h.len
    subst hz
    obtain ⟨A', c', w', hrun, h1, h2⟩ := run_app2 (ty := ty) B (OwnV.nil w) ad m cc ys hl hnews (by omega) hb
    rcases h2 with ⟨_, _, h3, _⟩ | ⟨rfl, ht⟩
    · exact absurd rfl h3
    · exact ⟨c', w', hrun, h1, ht⟩
  | some b =>
    have hrun := run_append_grow (P := P) w S ty 5 i (.int .u8 0) B.und hi hz0 b n c (u8s zs) (by rw [u8s_length, h.len, hz1, Nat.mul_one]) (h.news _ rfl) ad m cc (u8s ys) (by rw [u8s_length, hl, hz1, Nat.mul_one]) hnews (by omega) (by omega) (by rw [hz2]; exact growslice_fits (by omega) (by omega))
    have hge := grownCap_ge w (n + m) c 5
    have hcm : grownCap w (n + m) c 5 ≤ maxLen := grownCap_le_maxLen w (n + m) c 5 (by unfold maxLen; omega)
    refine ⟨_, _, hrun, OwnV.of_row ⟨by rw [List.length_append, h.len, hl], hge, hcm, _, heap_alloc_new w.drew _, ?_, ?_⟩, (Turned.refl _ w).drew.alloc _⟩
    · simp only [Array.size_append, List.size_toArray, size_zeroCells, u8s_length, h.len, hl, Value.cells]
      simp [h.len, hl]
      omega
    · simp only [Array.toList_append]
      rw [hu, List.take_left' (by simp [u8s, h.len, hl])]
theorem wpList_appG {ops : Array Oper} {rest : List Oper} {o : Oper} {a : Act} {Q : Exit → Act → World → Prop} (B : BytT P S 5) (hgd : o.guard = none) (s x : Operand) (ho : o.op = .call { callee := .builtin .append, args := #[s, x], argTypes := #[S, S] })
    (h : BytS w A n c zs) (ad : Addr) (m cc : Nat) (ys : List Int) (hl : ys.length = m) (hnews : ∀ j u, (u8s ys)[j]? = some u → w.cell? (ad.add j) = some u) (hg : c < n + m) (hb : n + m ≤ 140737488355328) (hs : a.eval s = .slice A n c) (hx : a.eval x = .slice (some ad) m cc)
    (hC : ∀ c' w', OwnV w' (some ⟨w.heap.size, 0, none⟩) (n + m) c' (zs ++ ys) → Turned (fun _ => False) w w' → wpList P ops Q rest (a.put o.dst (.slice (some ⟨w.heap.size, 0, none⟩) (n + m) c')) w') : wpList P ops Q (o :: rest) a w := by
  obtain ⟨c', w', hrun, h1, h2⟩ := run_appG (ty := o.type) B h ad m cc ys hl hnews hg hb
  exact Lib.wpList_append_run w hgd s x S S ho _ _ hs hx _ _ hrun (hC c' w' h1 h2)
end
set_option maxRecDepth 100000 in
set_option maxHeartbeats 1000000 in
theorem bent_0 (R : Rec) (S : RecS) (w : World) (h : RecIs w R S) (hk : R.Ok) : Calls Tryz.prog 25 #[.agg (recC R S), .int .i64 0] w (BentP w) := by
  have H := Lib.hid h
  clear h
  have m201 := run201
  obtain ⟨lsn, work, prev, next, kind, page, key, old, new, dirty, opn⟩ := R
  obtain ⟨⟨KA, Kn, Kc⟩, ⟨OA, On, Oc⟩, ⟨NA, Nn, Nc⟩, ⟨DA, Dn, Dc⟩, ⟨PA, Pn, Pc⟩⟩ := S
  unfold recC
  simp only
  go_enter Tryz.func25, Tryz.ntmps25
  go_wp2
  refine bodyPost_ret (v := .agg #[.int .i64 lsn, .int .i64 work, .int .i64 prev, .int .i64 next, .int .u8 0, .int .i64 page, .slice KA Kn Kc, .slice OA On Oc, .slice NA Nn Nc, .slice DA Dn Dc, .slice PA Pn Pc]) (by simp [results, Tryz.results25, go_sem]) rfl ?_
  exact bent_fin ⟨lsn, work, prev, next, 0, page, key, old, new, dirty, opn⟩ ⟨⟨KA, Kn, Kc⟩, ⟨OA, On, Oc⟩, ⟨NA, Nn, Nc⟩, ⟨DA, Dn, Dc⟩, ⟨PA, Pn, Pc⟩⟩ H.out ((((Turned.refl (fun _ => False) w).alloc _).alloc _).alloc _) rfl (fun H' => ⟨H'.key, H'.old, H'.new, H'.dirty, H'.opn⟩) ⟨hk.lsn, hk.work, hk.prev, hk.next, (show isByte 0 from ⟨by decide, by decide⟩), hk.page, hk.key, hk.old, hk.new, hk.dirty, hk.opn⟩
set_option maxRecDepth 100000 in
set_option maxHeartbeats 1000000 in
theorem bent_1 (R : Rec) (S : RecS) (w : World) (h : RecIs w R S) (hk : R.Ok) : Calls Tryz.prog 25 #[.agg (recC R S), .int .i64 1] w (BentP w) := by
  have H := Lib.hid h
  clear h
  have m201 := run201
  obtain ⟨lsn, work, prev, next, kind, page, key, old, new, dirty, opn⟩ := R
  obtain ⟨⟨KA, Kn, Kc⟩, ⟨OA, On, Oc⟩, ⟨NA, Nn, Nc⟩, ⟨DA, Dn, Dc⟩, ⟨PA, Pn, Pc⟩⟩ := S
  unfold recC
  simp only
  go_enter Tryz.func25, Tryz.ntmps25
  go_wp2
  refine bodyPost_ret (v := .agg #[.int .i64 lsn, .int .i64 work, .int .i64 prev, .int .i64 next, .int .u8 7, .int .i64 page, .slice KA Kn Kc, .slice OA On Oc, .slice NA Nn Nc, .slice DA Dn Dc, .slice PA Pn Pc]) (by simp [results, Tryz.results25, go_sem]) rfl ?_
  exact bent_fin ⟨lsn, work, prev, next, 7, page, key, old, new, dirty, opn⟩ ⟨⟨KA, Kn, Kc⟩, ⟨OA, On, Oc⟩, ⟨NA, Nn, Nc⟩, ⟨DA, Dn, Dc⟩, ⟨PA, Pn, Pc⟩⟩ H.out ((((Turned.refl (fun _ => False) w).alloc _).alloc _).alloc _) rfl (fun H' => ⟨H'.key, H'.old, H'.new, H'.dirty, H'.opn⟩) ⟨hk.lsn, hk.work, hk.prev, hk.next, (show isByte 7 from ⟨by decide, by decide⟩), hk.page, hk.key, hk.old, hk.new, hk.dirty, hk.opn⟩
set_option maxRecDepth 100000 in
set_option maxHeartbeats 1000000 in
theorem bent_2 (R : Rec) (S : RecS) (w : World) (h : RecIs w R S) (hk : R.Ok) : Calls Tryz.prog 25 #[.agg (recC R S), .int .i64 2] w (BentP w) := by
  have H := Lib.hid h
  clear h
  have m201 := run201
  obtain ⟨lsn, work, prev, next, kind, page, key, old, new, dirty, opn⟩ := R
  obtain ⟨⟨KA, Kn, Kc⟩, ⟨OA, On, Oc⟩, ⟨NA, Nn, Nc⟩, ⟨DA, Dn, Dc⟩, ⟨PA, Pn, Pc⟩⟩ := S
  unfold recC
  simp only
  go_enter Tryz.func25, Tryz.ntmps25
  go_wp2
  refine bodyPost_ret (v := .agg #[.int .i64 lsn, .int .i64 0, .int .i64 prev, .int .i64 next, .int .u8 kind, .int .i64 page, .slice KA Kn Kc, .slice OA On Oc, .slice NA Nn Nc, .slice DA Dn Dc, .slice PA Pn Pc]) (by simp [results, Tryz.results25, go_sem]) rfl ?_
  exact bent_fin ⟨lsn, 0, prev, next, kind, page, key, old, new, dirty, opn⟩ ⟨⟨KA, Kn, Kc⟩, ⟨OA, On, Oc⟩, ⟨NA, Nn, Nc⟩, ⟨DA, Dn, Dc⟩, ⟨PA, Pn, Pc⟩⟩ H.out ((((Turned.refl (fun _ => False) w).alloc _).alloc _).alloc _) rfl (fun H' => ⟨H'.key, H'.old, H'.new, H'.dirty, H'.opn⟩) ⟨hk.lsn, (show I64 0 from ⟨by decide, by decide⟩), hk.prev, hk.next, hk.kind, hk.page, hk.key, hk.old, hk.new, hk.dirty, hk.opn⟩
set_option maxRecDepth 100000 in
set_option maxHeartbeats 1000000 in
theorem bent_3 (R : Rec) (S : RecS) (w : World) (h : RecIs w R S) (hk : R.Ok) : Calls Tryz.prog 25 #[.agg (recC R S), .int .i64 3] w (BentP w) := by
  have H := Lib.hid h
  clear h
  have m201 := run201
  obtain ⟨lsn, work, prev, next, kind, page, key, old, new, dirty, opn⟩ := R
  obtain ⟨⟨KA, Kn, Kc⟩, ⟨OA, On, Oc⟩, ⟨NA, Nn, Nc⟩, ⟨DA, Dn, Dc⟩, ⟨PA, Pn, Pc⟩⟩ := S
  unfold recC
  simp only
  go_enter Tryz.func25, Tryz.ntmps25
  go_wp2
  refine bodyPost_ret (v := .agg #[.int .i64 lsn, .int .i64 (-1), .int .i64 prev, .int .i64 next, .int .u8 kind, .int .i64 page, .slice KA Kn Kc, .slice OA On Oc, .slice NA Nn Nc, .slice DA Dn Dc, .slice PA Pn Pc]) (by simp [results, Tryz.results25, go_sem]) rfl ?_
  exact bent_fin ⟨lsn, (-1), prev, next, kind, page, key, old, new, dirty, opn⟩ ⟨⟨KA, Kn, Kc⟩, ⟨OA, On, Oc⟩, ⟨NA, Nn, Nc⟩, ⟨DA, Dn, Dc⟩, ⟨PA, Pn, Pc⟩⟩ H.out ((((Turned.refl (fun _ => False) w).alloc _).alloc _).alloc _) rfl (fun H' => ⟨H'.key, H'.old, H'.new, H'.dirty, H'.opn⟩) ⟨hk.lsn, (show I64 (-1) from ⟨by decide, by decide⟩), hk.prev, hk.next, hk.kind, hk.page, hk.key, hk.old, hk.new, hk.dirty, hk.opn⟩
set_option maxRecDepth 100000 in
set_option maxHeartbeats 1000000 in
theorem bent_4 (R : Rec) (S : RecS) (w : World) (h : RecIs w R S) (hk : R.Ok) : Calls Tryz.prog 25 #[.agg (recC R S), .int .i64 4] w (BentP w) := by
  have H := Lib.hid h
  clear h
  have m201 := run201
  obtain ⟨lsn, work, prev, next, kind, page, key, old, new, dirty, opn⟩ := R
  obtain ⟨⟨KA, Kn, Kc⟩, ⟨OA, On, Oc⟩, ⟨NA, Nn, Nc⟩, ⟨DA, Dn, Dc⟩, ⟨PA, Pn, Pc⟩⟩ := S
  unfold recC
  simp only
  go_enter Tryz.func25, Tryz.ntmps25
  go_wp2
  refine bodyPost_ret (v := .agg #[.int .i64 lsn, .int .i64 work, .int .i64 (-1), .int .i64 next, .int .u8 kind, .int .i64 page, .slice KA Kn Kc, .slice OA On Oc, .slice NA Nn Nc, .slice DA Dn Dc, .slice PA Pn Pc]) (by simp [results, Tryz.results25, go_sem]) rfl ?_
  exact bent_fin ⟨lsn, work, (-1), next, kind, page, key, old, new, dirty, opn⟩ ⟨⟨KA, Kn, Kc⟩, ⟨OA, On, Oc⟩, ⟨NA, Nn, Nc⟩, ⟨DA, Dn, Dc⟩, ⟨PA, Pn, Pc⟩⟩ H.out ((((Turned.refl (fun _ => False) w).alloc _).alloc _).alloc _) rfl (fun H' => ⟨H'.key, H'.old, H'.new, H'.dirty, H'.opn⟩) ⟨hk.lsn, hk.work, (show I64 (-1) from ⟨by decide, by decide⟩), hk.next, hk.kind, hk.page, hk.key, hk.old, hk.new, hk.dirty, hk.opn⟩
set_option maxRecDepth 100000 in
set_option maxHeartbeats 1000000 in
theorem bent_5 (R : Rec) (S : RecS) (w : World) (h : RecIs w R S) (hk : R.Ok) : Calls Tryz.prog 25 #[.agg (recC R S), .int .i64 5] w (BentP w) := by
  have H := Lib.hid h
  clear h
  have m201 := run201
  obtain ⟨lsn, work, prev, next, kind, page, key, old, new, dirty, opn⟩ := R
  obtain ⟨⟨KA, Kn, Kc⟩, ⟨OA, On, Oc⟩, ⟨NA, Nn, Nc⟩, ⟨DA, Dn, Dc⟩, ⟨PA, Pn, Pc⟩⟩ := S
  unfold recC
  simp only
  go_enter Tryz.func25, Tryz.ntmps25
  go_wp2
  refine bodyPost_ret (v := .agg #[.int .i64 lsn, .int .i64 work, .int .i64 prev, .int .i64 (-1), .int .u8 kind, .int .i64 page, .slice KA Kn Kc, .slice OA On Oc, .slice NA Nn Nc, .slice DA Dn Dc, .slice PA Pn Pc]) (by simp [results, Tryz.results25, go_sem]) rfl ?_
  exact bent_fin ⟨lsn, work, prev, (-1), kind, page, key, old, new, dirty, opn⟩ ⟨⟨KA, Kn, Kc⟩, ⟨OA, On, Oc⟩, ⟨NA, Nn, Nc⟩, ⟨DA, Dn, Dc⟩, ⟨PA, Pn, Pc⟩⟩ H.out ((((Turned.refl (fun _ => False) w).alloc _).alloc _).alloc _) rfl (fun H' => ⟨H'.key, H'.old, H'.new, H'.dirty, H'.opn⟩) ⟨hk.lsn, hk.work, hk.prev, (show I64 (-1) from ⟨by decide, by decide⟩), hk.kind, hk.page, hk.key, hk.old, hk.new, hk.dirty, hk.opn⟩
set_option maxRecDepth 100000 in
set_option maxHeartbeats 1000000 in
theorem bent_6 (R : Rec) (S : RecS) (w : World) (h : RecIs w R S) (hk : R.Ok) : Calls Tryz.prog 25 #[.agg (recC R S), .int .i64 6] w (BentP w) := by
  have H := Lib.hid h
  clear h
  have m201 := run201
  obtain ⟨lsn, work, prev, next, kind, page, key, old, new, dirty, opn⟩ := R
  obtain ⟨⟨KA, Kn, Kc⟩, ⟨OA, On, Oc⟩, ⟨NA, Nn, Nc⟩, ⟨DA, Dn, Dc⟩, ⟨PA, Pn, Pc⟩⟩ := S
  unfold recC
  simp only
  go_enter Tryz.func25, Tryz.ntmps25
  go_wp2
  refine bodyPost_ret (v := .agg #[.int .i64 lsn, .int .i64 work, .int .i64 prev, .int .i64 8192, .int .u8 kind, .int .i64 page, .slice KA Kn Kc, .slice OA On Oc, .slice NA Nn Nc, .slice DA Dn Dc, .slice PA Pn Pc]) (by simp [results, Tryz.results25, go_sem]) rfl ?_
  exact bent_fin ⟨lsn, work, prev, 8192, kind, page, key, old, new, dirty, opn⟩ ⟨⟨KA, Kn, Kc⟩, ⟨OA, On, Oc⟩, ⟨NA, Nn, Nc⟩, ⟨DA, Dn, Dc⟩, ⟨PA, Pn, Pc⟩⟩ H.out ((((Turned.refl (fun _ => False) w).alloc _).alloc _).alloc _) rfl (fun H' => ⟨H'.key, H'.old, H'.new, H'.dirty, H'.opn⟩) ⟨hk.lsn, hk.work, hk.prev, (show I64 8192 from ⟨by decide, by decide⟩), hk.kind, hk.page, hk.key, hk.old, hk.new, hk.dirty, hk.opn⟩
set_option maxRecDepth 100000 in
set_option maxHeartbeats 1000000 in
theorem bent_7 (R : Rec) (S : RecS) (w : World) (h : RecIs w R S) (hk : R.Ok) : Calls Tryz.prog 25 #[.agg (recC R S), .int .i64 7] w (BentP w) := by
  have H := Lib.hid h
  clear h
  have m201 := run201
  obtain ⟨lsn, work, prev, next, kind, page, key, old, new, dirty, opn⟩ := R
  obtain ⟨⟨KA, Kn, Kc⟩, ⟨OA, On, Oc⟩, ⟨NA, Nn, Nc⟩, ⟨DA, Dn, Dc⟩, ⟨PA, Pn, Pc⟩⟩ := S
  unfold recC
  simp only
  go_enter Tryz.func25, Tryz.ntmps25
  go_wp2
  refine bodyPost_ret (v := .agg #[.int .i64 lsn, .int .i64 work, .int .i64 prev, .int .i64 0, .int .u8 kind, .int .i64 page, .slice KA Kn Kc, .slice OA On Oc, .slice NA Nn Nc, .slice DA Dn Dc, .slice PA Pn Pc]) (by simp [results, Tryz.results25, go_sem]) rfl ?_
  exact bent_fin ⟨lsn, work, prev, 0, kind, page, key, old, new, dirty, opn⟩ ⟨⟨KA, Kn, Kc⟩, ⟨OA, On, Oc⟩, ⟨NA, Nn, Nc⟩, ⟨DA, Dn, Dc⟩, ⟨PA, Pn, Pc⟩⟩ H.out ((((Turned.refl (fun _ => False) w).alloc _).alloc _).alloc _) rfl (fun H' => ⟨H'.key, H'.old, H'.new, H'.dirty, H'.opn⟩) ⟨hk.lsn, hk.work, hk.prev, (show I64 0 from ⟨by decide, by decide⟩), hk.kind, hk.page, hk.key, hk.old, hk.new, hk.dirty, hk.opn⟩
set_option maxRecDepth 100000 in
set_option maxHeartbeats 1000000 in
theorem bent_8 (R : Rec) (S : RecS) (w : World) (h : RecIs w R S) (hk : R.Ok) : Calls Tryz.prog 25 #[.agg (recC R S), .int .i64 8] w (BentP w) := by
  have H := Lib.hid h
  clear h
  have m201 := run201
  obtain ⟨lsn, work, prev, next, kind, page, key, old, new, dirty, opn⟩ := R
  obtain ⟨⟨KA, Kn, Kc⟩, ⟨OA, On, Oc⟩, ⟨NA, Nn, Nc⟩, ⟨DA, Dn, Dc⟩, ⟨PA, Pn, Pc⟩⟩ := S
  unfold recC
  simp only
  go_enter Tryz.func25, Tryz.ntmps25
  go_wp2
  refine bodyPost_ret (v := .agg #[.int .i64 lsn, .int .i64 work, .int .i64 prev, .int .i64 next, .int .u8 kind, .int .i64 (-1), .slice KA Kn Kc, .slice OA On Oc, .slice NA Nn Nc, .slice DA Dn Dc, .slice PA Pn Pc]) (by simp [results, Tryz.results25, go_sem]) rfl ?_
  exact bent_fin ⟨lsn, work, prev, next, kind, (-1), key, old, new, dirty, opn⟩ ⟨⟨KA, Kn, Kc⟩, ⟨OA, On, Oc⟩, ⟨NA, Nn, Nc⟩, ⟨DA, Dn, Dc⟩, ⟨PA, Pn, Pc⟩⟩ H.out ((((Turned.refl (fun _ => False) w).alloc _).alloc _).alloc _) rfl (fun H' => ⟨H'.key, H'.old, H'.new, H'.dirty, H'.opn⟩) ⟨hk.lsn, hk.work, hk.prev, hk.next, hk.kind, (show I64 (-1) from ⟨by decide, by decide⟩), hk.key, hk.old, hk.new, hk.dirty, hk.opn⟩
set_option maxRecDepth 100000 in
set_option maxHeartbeats 1000000 in
theorem bent_9 (R : Rec) (S : RecS) (w : World) (h : RecIs w R S) (hk : R.Ok) : Calls Tryz.prog 25 #[.agg (recC R S), .int .i64 9] w (BentP w) := by
  have H := Lib.hid h
  clear h
  have m201 := run201
  obtain ⟨lsn, work, prev, next, kind, page, key, old, new, dirty, opn⟩ := R
  obtain ⟨⟨KA, Kn, Kc⟩, ⟨OA, On, Oc⟩, ⟨NA, Nn, Nc⟩, ⟨DA, Dn, Dc⟩, ⟨PA, Pn, Pc⟩⟩ := S
  unfold recC
  simp only
  go_enter Tryz.func25, Tryz.ntmps25
  go_wp2
  refine bodyPost_ret (v := .agg #[.int .i64 lsn, .int .i64 work, .int .i64 prev, .int .i64 next, .int .u8 kind, .int .i64 8192, .slice KA Kn Kc, .slice OA On Oc, .slice NA Nn Nc, .slice DA Dn Dc, .slice PA Pn Pc]) (by simp [results, Tryz.results25, go_sem]) rfl ?_
  exact bent_fin ⟨lsn, work, prev, next, kind, 8192, key, old, new, dirty, opn⟩ ⟨⟨KA, Kn, Kc⟩, ⟨OA, On, Oc⟩, ⟨NA, Nn, Nc⟩, ⟨DA, Dn, Dc⟩, ⟨PA, Pn, Pc⟩⟩ H.out ((((Turned.refl (fun _ => False) w).alloc _).alloc _).alloc _) rfl (fun H' => ⟨H'.key, H'.old, H'.new, H'.dirty, H'.opn⟩) ⟨hk.lsn, hk.work, hk.prev, hk.next, hk.kind, (show I64 8192 from ⟨by decide, by decide⟩), hk.key, hk.old, hk.new, hk.dirty, hk.opn⟩
set_option maxRecDepth 100000 in
set_option maxHeartbeats 1000000 in
theorem bent_10 (R : Rec) (S : RecS) (w : World) (h : RecIs w R S) (hk : R.Ok) : Calls Tryz.prog 25 #[.agg (recC R S), .int .i64 10] w (BentP w) := by
  have H := Lib.hid h
  clear h
  have m201 := run201
  obtain ⟨lsn, work, prev, next, kind, page, key, old, new, dirty, opn⟩ := R
  obtain ⟨⟨KA, Kn, Kc⟩, ⟨OA, On, Oc⟩, ⟨NA, Nn, Nc⟩, ⟨DA, Dn, Dc⟩, ⟨PA, Pn, Pc⟩⟩ := S
  unfold recC
  simp only
  go_enter Tryz.func25, Tryz.ntmps25
  go_wp2
  refine bodyPost_ret (v := .agg #[.int .i64 lsn, .int .i64 work, .int .i64 prev, .int .i64 next, .int .u8 kind, .int .i64 page, .slice none 0 0, .slice OA On Oc, .slice NA Nn Nc, .slice DA Dn Dc, .slice PA Pn Pc]) (by simp [results, Tryz.results25, go_sem]) rfl ?_
  exact bent_fin ⟨lsn, work, prev, next, kind, page, [], old, new, dirty, opn⟩ ⟨⟨none, 0, 0⟩, ⟨OA, On, Oc⟩, ⟨NA, Nn, Nc⟩, ⟨DA, Dn, Dc⟩, ⟨PA, Pn, Pc⟩⟩ H.out ((((Turned.refl (fun _ => False) w).alloc _).alloc _).alloc _) rfl (fun H' => ⟨SlB.none0 _, H'.old, H'.new, H'.dirty, H'.opn⟩) ⟨hk.lsn, hk.work, hk.prev, hk.next, hk.kind, hk.page, (fun z hz => absurd hz (by simp)), hk.old, hk.new, hk.dirty, hk.opn⟩
set_option maxRecDepth 100000 in
set_option maxHeartbeats 1000000 in
theorem bent_11 (R : Rec) (S : RecS) (w : World) (h : RecIs w R S) (hk : R.Ok) : Calls Tryz.prog 25 #[.agg (recC R S), .int .i64 11] w (BentP w) := by
  have H := Lib.hid h
  clear h
  have m201 := run201
  have m41 := run41
  obtain ⟨lsn, work, prev, next, kind, page, key, old, new, dirty, opn⟩ := R
  obtain ⟨⟨KA, Kn, Kc⟩, ⟨OA, On, Oc⟩, ⟨NA, Nn, Nc⟩, ⟨DA, Dn, Dc⟩, ⟨PA, Pn, Pc⟩⟩ := S
  unfold recC
  simp only
  go_enter Tryz.func25, Tryz.ntmps25
  go_wp2
  refine bodyPost_ret (v := .agg #[.int .i64 lsn, .int .i64 work, .int .i64 prev, .int .i64 next, .int .u8 kind, .int .i64 page, .slice (some ⟨w.heap.size + 1 + 1 + 1, 0, none⟩) 41 41, .slice OA On Oc, .slice NA Nn Nc, .slice DA Dn Dc, .slice PA Pn Pc]) (by simp [results, Tryz.results25, go_sem]) rfl ?_
  exact bent_fin ⟨lsn, work, prev, next, kind, page, List.replicate 41 0, old, new, dirty, opn⟩ ⟨⟨some ⟨w.heap.size + 1 + 1 + 1, 0, none⟩, 41, 41⟩, ⟨OA, On, Oc⟩, ⟨NA, Nn, Nc⟩, ⟨DA, Dn, Dc⟩, ⟨PA, Pn, Pc⟩⟩ H.out (((((Turned.refl (fun _ => False) w).alloc _).alloc _).alloc _).alloc _) rfl (fun H' => ⟨(made_row (by simp) (by decide)).slB0 (by decide), H'.old, H'.new, H'.dirty, H'.opn⟩) ⟨hk.lsn, hk.work, hk.prev, hk.next, hk.kind, hk.page, reps_byte 41, hk.old, hk.new, hk.dirty, hk.opn⟩
set_option maxRecDepth 100000 in
set_option maxHeartbeats 1000000 in
theorem bent_12 (R : Rec) (S : RecS) (w : World) (h : RecIs w R S) (hk : R.Ok) (hc : S.O.c < S.O.n + 201) (hn : S.O.n ≤ 100000) : Calls Tryz.prog 25 #[.agg (recC R S), .int .i64 12] w (BentP w) := by
  have H := Lib.hid h
  clear h
  have m201 := run201
  obtain ⟨lsn, work, prev, next, kind, page, key, old, new, dirty, opn⟩ := R
  obtain ⟨⟨KA, Kn, Kc⟩, ⟨OA, On, Oc⟩, ⟨NA, Nn, Nc⟩, ⟨DA, Dn, Dc⟩, ⟨PA, Pn, Pc⟩⟩ := S
  unfold recC
  simp only at hc hn ⊢
  have hc := Lib.hid hc
  go_enter Tryz.func25, Tryz.ntmps25
  have t3 := ((((Turned.refl (fun _ => False) w).alloc (.cells #[.int .i64 lsn, .int .i64 work, .int .i64 prev, .int .i64 next, .int .u8 kind, .int .i64 page, .slice KA Kn Kc, .slice OA On Oc, .slice NA Nn Nc, .slice DA Dn Dc, .slice PA Pn Pc] 29)).alloc (.cells #[.int .i64 0, .int .i64 0, .int .i64 0, .int .i64 0, .int .u8 0, .int .i64 0, .slice none 0 0, .slice none 0 0, .slice none 0 0, .slice none 0 0, .slice none 0 0] 29)).alloc (.cells (madeCells #[.int .u8 0] 201) 5))
  have o2 : BytS w OA On Oc old := H.out.old.bytS
  have o3 := Lib.hid (o2.turned t3 (fun _ _ _ e => e))
  clear o2
  have r3 := Lib.hid (made_row (w := (w.alloc (.cells #[.int .i64 lsn, .int .i64 work, .int .i64 prev, .int .i64 next, .int .u8 kind, .int .i64 page, .slice KA Kn Kc, .slice OA On Oc, .slice NA Nn Nc, .slice DA Dn Dc, .slice PA Pn Pc] 29)).alloc (.cells #[.int .i64 0, .int .i64 0, .int .i64 0, .int .i64 0, .int .u8 0, .int .i64 0, .slice none 0 0, .slice none 0 0, .slice none 0 0, .slice none 0 0, .slice none 0 0] 29)) (g := w.heap.size + 1 + 1) (n := 201) (by simp) (by decide))
  have B3 := Lib.hid (((Blk.new w 29 #[.int .i64 lsn, .int .i64 work, .int .i64 prev, .int .i64 next, .int .u8 kind, .int .i64 page, .slice KA Kn Kc, .slice OA On Oc, .slice NA Nn Nc, .slice DA Dn Dc, .slice PA Pn Pc]).alloc (.cells #[.int .i64 0, .int .i64 0, .int .i64 0, .int .i64 0, .int .u8 0, .int .i64 0, .slice none 0 0, .slice none 0 0, .slice none 0 0, .slice none 0 0, .slice none 0 0] 29)).alloc (.cells (madeCells #[.int .u8 0] 201) 5))
  have Z3 := Lib.hid ((Blk.new_at (k := w.heap.size + 1) (w.alloc (.cells #[.int .i64 lsn, .int .i64 work, .int .i64 prev, .int .i64 next, .int .u8 kind, .int .i64 page, .slice KA Kn Kc, .slice OA On Oc, .slice NA Nn Nc, .slice DA Dn Dc, .slice PA Pn Pc] 29)) 29 #[.int .i64 0, .int .i64 0, .int .i64 0, .int .i64 0, .int .u8 0, .int .i64 0, .slice none 0 0, .slice none 0 0, .slice none 0 0, .slice none 0 0, .slice none 0 0] (by simp)).alloc (.cells (madeCells #[.int .u8 0] 201) 5))
  have T3 := Lib.hid t3
  clear t3
  go_wp2_with (at_builtin; refine wpList_appG bytT rfl (.tmp 51) (.tmp 52) rfl o3.out ⟨w.heap.size + 1 + 1, 0, none⟩ 201 201 (List.replicate 201 0) (by simp) ((r3.out.bytS 201).news _ rfl) hc.out (by omega) rfl rfl ?_; intro c4 w4 o4 t4; have B4 := B3.out.turned t4 (fun e => e); have Z4 := Z3.out.turned t4 (fun e => e); have x0 : w4.cell? ⟨w.heap.size, 0, none⟩ = some (.int .i64 lsn) := B4.cell 0; have x1 : w4.cell? ⟨w.heap.size, 1, none⟩ = some (.int .i64 work) := B4.cell 1; have x2 : w4.cell? ⟨w.heap.size, 2, none⟩ = some (.int .i64 prev) := B4.cell 2; have x3 : w4.cell? ⟨w.heap.size, 3, none⟩ = some (.int .i64 next) := B4.cell 3; have x4 : w4.cell? ⟨w.heap.size, 4, none⟩ = some (.int .u8 kind) := B4.cell 4; have x5 : w4.cell? ⟨w.heap.size, 5, none⟩ = some (.int .i64 page) := B4.cell 5; have x6 : w4.cell? ⟨w.heap.size, 6, none⟩ = some (.slice KA Kn Kc) := B4.cell 6; have x7 : w4.cell? ⟨w.heap.size, 7, none⟩ = some (.slice OA On Oc) := B4.cell 7; have x8 : w4.cell? ⟨w.heap.size, 8, none⟩ = some (.slice NA Nn Nc) := B4.cell 8; have x9 : w4.cell? ⟨w.heap.size, 9, none⟩ = some (.slice DA Dn Dc) := B4.cell 9; have x10 : w4.cell? ⟨w.heap.size, 10, none⟩ = some (.slice PA Pn Pc) := B4.cell 10; have z0 : w4.cell? ⟨w.heap.size + 1, 0, none⟩ = some (.int .i64 0) := Z4.cell 0; have z1 : w4.cell? ⟨w.heap.size + 1, 1, none⟩ = some (.int .i64 0) := Z4.cell 1; have z2 : w4.cell? ⟨w.heap.size + 1, 2, none⟩ = some (.int .i64 0) := Z4.cell 2; have z3 : w4.cell? ⟨w.heap.size + 1, 3, none⟩ = some (.int .i64 0) := Z4.cell 3; have z4 : w4.cell? ⟨w.heap.size + 1, 4, none⟩ = some (.int .u8 0) := Z4.cell 4; have z5 : w4.cell? ⟨w.heap.size + 1, 5, none⟩ = some (.int .i64 0) := Z4.cell 5; have z6 : w4.cell? ⟨w.heap.size + 1, 6, none⟩ = some (.slice none 0 0) := Z4.cell 6; have z7 : w4.cell? ⟨w.heap.size + 1, 7, none⟩ = some (.slice none 0 0) := Z4.cell 7; have z8 : w4.cell? ⟨w.heap.size + 1, 8, none⟩ = some (.slice none 0 0) := Z4.cell 8; have z9 : w4.cell? ⟨w.heap.size + 1, 9, none⟩ = some (.slice none 0 0) := Z4.cell 9; have z10 : w4.cell? ⟨w.heap.size + 1, 10, none⟩ = some (.slice none 0 0) := Z4.cell 10; have xf := B4.frozen; have zf := Z4.frozen; have B4 := Lib.hid B4; have Z4 := Lib.hid Z4; have T4 := Lib.hid (T3.out.and_ t4); have O4 := Lib.hid (show OwnV w4 (some ⟨w.heap.size + 1 + 1 + 1, 0, none⟩) _ c4 _ by simpa using o4); clear t4 o4)
  have tZ := (((((((((((((Turned.refl (fun i => i = w.heap.size ∨ i = w.heap.size + 1) w4).setCell (p := ⟨w.heap.size, 7, none⟩) (.inl (.inl rfl)) (.slice (some ⟨w.heap.size + 1 + 1 + 1, 0, none⟩) (On + 201) c4)).setCell (p := ⟨w.heap.size + 1, 0, none⟩) (.inl (.inr rfl)) (.int .i64 lsn)).setCell (p := ⟨w.heap.size + 1, 1, none⟩) (.inl (.inr rfl)) (.int .i64 work)).setCell (p := ⟨w.heap.size + 1, 2, none⟩) (.inl (.inr rfl)) (.int .i64 prev)).setCell (p := ⟨w.heap.size + 1, 3, none⟩) (.inl (.inr rfl)) (.int .i64 next)).setCell (p := ⟨w.heap.size + 1, 4, none⟩) (.inl (.inr rfl)) (.int .u8 kind)).setCell (p := ⟨w.heap.size + 1, 5, none⟩) (.inl (.inr rfl)) (.int .i64 page)).setCell (p := ⟨w.heap.size + 1, 6, none⟩) (.inl (.inr rfl)) (.slice KA Kn Kc)).setCell (p := ⟨w.heap.size + 1, 7, none⟩) (.inl (.inr rfl)) (.slice (some ⟨w.heap.size + 1 + 1 + 1, 0, none⟩) (On + 201) c4)).setCell (p := ⟨w.heap.size + 1, 8, none⟩) (.inl (.inr rfl)) (.slice NA Nn Nc)).setCell (p := ⟨w.heap.size + 1, 9, none⟩) (.inl (.inr rfl)) (.slice DA Dn Dc)).setCell (p := ⟨w.heap.size + 1, 10, none⟩) (.inl (.inr rfl)) (.slice PA Pn Pc))
  have ZZ := Z4.out.far (p := ⟨w.heap.size, 7, none⟩) (by show w.heap.size + 1 ≠ w.heap.size; omega) (.slice (some ⟨w.heap.size + 1 + 1 + 1, 0, none⟩) (On + 201) c4)
  have XZ := Blk.set11 (.int .i64 lsn) (.int .i64 work) (.int .i64 prev) (.int .i64 next) (.int .u8 kind) (.int .i64 page) (.slice KA Kn Kc) (.slice (some ⟨w.heap.size + 1 + 1 + 1, 0, none⟩) (On + 201) c4) (.slice NA Nn Nc) (.slice DA Dn Dc) (.slice PA Pn Pc) ZZ
  have TZ := T4.out.trans (W := fun _ => False) tZ (fun _ e => e) (fun i e => .inr (by omega))
  have OZ := O4.out.turned tZ (fun g e e2 => by have e3 := O4.out.blk B4.out (by decide) e; have e4 := O4.out.blk Z4.out (by decide) e; omega)
  clear x0 z0 x1 z1 x2 z2 x3 z3 x4 z4 x5 z5 x6 z6 x7 z7 x8 z8 x9 z9 x10 z10 xf zf ZZ tZ T3 o3 r3 B3 Z3
  generalize ((((((((((((w4.setCell ⟨w.heap.size, 7, none⟩ (.slice (some ⟨w.heap.size + 1 + 1 + 1, 0, none⟩) (On + 201) c4)).setCell ⟨w.heap.size + 1, 0, none⟩ (.int .i64 lsn)).setCell ⟨w.heap.size + 1, 1, none⟩ (.int .i64 work)).setCell ⟨w.heap.size + 1, 2, none⟩ (.int .i64 prev)).setCell ⟨w.heap.size + 1, 3, none⟩ (.int .i64 next)).setCell ⟨w.heap.size + 1, 4, none⟩ (.int .u8 kind)).setCell ⟨w.heap.size + 1, 5, none⟩ (.int .i64 page)).setCell ⟨w.heap.size + 1, 6, none⟩ (.slice KA Kn Kc)).setCell ⟨w.heap.size + 1, 7, none⟩ (.slice (some ⟨w.heap.size + 1 + 1 + 1, 0, none⟩) (On + 201) c4)).setCell ⟨w.heap.size + 1, 8, none⟩ (.slice NA Nn Nc)).setCell ⟨w.heap.size + 1, 9, none⟩ (.slice DA Dn Dc)).setCell ⟨w.heap.size + 1, 10, none⟩ (.slice PA Pn Pc)) = wz at *
  obtain ⟨e0, e1, e2, e3, e4, e5, e6, e7, e8, e9, e10⟩ := XZ.cells11
  refine bodyPost_ret (v := .agg #[.int .i64 lsn, .int .i64 work, .int .i64 prev, .int .i64 next, .int .u8 kind, .int .i64 page, .slice KA Kn Kc, .slice (some ⟨w.heap.size + 1 + 1 + 1, 0, none⟩) (On + 201) c4, .slice NA Nn Nc, .slice DA Dn Dc, .slice PA Pn Pc]) (by simp [results, Tryz.results25, go_sem, e0, e1, e2, e3, e4, e5, e6, e7, e8, e9, e10]) rfl ?_
  exact bent_fin ⟨lsn, work, prev, next, kind, page, key, old ++ List.replicate 201 0, new, dirty, opn⟩ ⟨⟨KA, Kn, Kc⟩, ⟨some ⟨w.heap.size + 1 + 1 + 1, 0, none⟩, On + 201, c4⟩, ⟨NA, Nn, Nc⟩, ⟨DA, Dn, Dc⟩, ⟨PA, Pn, Pc⟩⟩ H.out TZ rfl (fun H' => ⟨H'.key, OwnV.slB (s := ⟨some ⟨w.heap.size + 1 + 1 + 1, 0, none⟩, On + 201, c4⟩) OZ (by show On + 201 ≤ 1000000; omega), H'.new, H'.dirty, H'.opn⟩) ⟨hk.lsn, hk.work, hk.prev, hk.next, hk.kind, hk.page, hk.key, (fun z hz => (List.mem_append.1 hz).elim (hk.old z) (reps_byte 201 z)), hk.new, hk.dirty, hk.opn⟩
set_option maxRecDepth 100000 in
set_option maxHeartbeats 1000000 in
theorem bent_13 (R : Rec) (S : RecS) (w : World) (h : RecIs w R S) (hk : R.Ok) (hc : S.N.c < S.N.n + 201) (hn : S.N.n ≤ 100000) : Calls Tryz.prog 25 #[.agg (recC R S), .int .i64 13] w (BentP w) := by
  have H := Lib.hid h
  clear h
  have m201 := run201
  obtain ⟨lsn, work, prev, next, kind, page, key, old, new, dirty, opn⟩ := R
  obtain ⟨⟨KA, Kn, Kc⟩, ⟨OA, On, Oc⟩, ⟨NA, Nn, Nc⟩, ⟨DA, Dn, Dc⟩, ⟨PA, Pn, Pc⟩⟩ := S
  unfold recC
  simp only at hc hn ⊢
  have hc := Lib.hid hc
  go_enter Tryz.func25, Tryz.ntmps25
  have t3 := ((((Turned.refl (fun _ => False) w).alloc (.cells #[.int .i64 lsn, .int .i64 work, .int .i64 prev, .int .i64 next, .int .u8 kind, .int .i64 page, .slice KA Kn Kc, .slice OA On Oc, .slice NA Nn Nc, .slice DA Dn Dc, .slice PA Pn Pc] 29)).alloc (.cells #[.int .i64 0, .int .i64 0, .int .i64 0, .int .i64 0, .int .u8 0, .int .i64 0, .slice none 0 0, .slice none 0 0, .slice none 0 0, .slice none 0 0, .slice none 0 0] 29)).alloc (.cells (madeCells #[.int .u8 0] 201) 5))
  have o2 : BytS w NA Nn Nc new := H.out.new.bytS
  have o3 := Lib.hid (o2.turned t3 (fun _ _ _ e => e))
  clear o2
  have r3 := Lib.hid (made_row (w := (w.alloc (.cells #[.int .i64 lsn, .int .i64 work, .int .i64 prev, .int .i64 next, .int .u8 kind, .int .i64 page, .slice KA Kn Kc, .slice OA On Oc, .slice NA Nn Nc, .slice DA Dn Dc, .slice PA Pn Pc] 29)).alloc (.cells #[.int .i64 0, .int .i64 0, .int .i64 0, .int .i64 0, .int .u8 0, .int .i64 0, .slice none 0 0, .slice none 0 0, .slice none 0 0, .slice none 0 0, .slice none 0 0] 29)) (g := w.heap.size + 1 + 1) (n := 201) (by simp) (by decide))
  have B3 := Lib.hid (((Blk.new w 29 #[.int .i64 lsn, .int .i64 work, .int .i64 prev, .int .i64 next, .int .u8 kind, .int .i64 page, .slice KA Kn Kc, .slice OA On Oc, .slice NA Nn Nc, .slice DA Dn Dc, .slice PA Pn Pc]).alloc (.cells #[.int .i64 0, .int .i64 0, .int .i64 0, .int .i64 0, .int .u8 0, .int .i64 0, .slice none 0 0, .slice none 0 0, .slice none 0 0, .slice none 0 0, .slice none 0 0] 29)).alloc (.cells (madeCells #[.int .u8 0] 201) 5))
  have Z3 := Lib.hid ((Blk.new_at (k := w.heap.size + 1) (w.alloc (.cells #[.int .i64 lsn, .int .i64 work, .int .i64 prev, .int .i64 next, .int .u8 kind, .int .i64 page, .slice KA Kn Kc, .slice OA On Oc, .slice NA Nn Nc, .slice DA Dn Dc, .slice PA Pn Pc] 29)) 29 #[.int .i64 0, .int .i64 0, .int .i64 0, .int .i64 0, .int .u8 0, .int .i64 0, .slice none 0 0, .slice none 0 0, .slice none 0 0, .slice none 0 0, .slice none 0 0] (by simp)).alloc (.cells (madeCells #[.int .u8 0] 201) 5))
  have T3 := Lib.hid t3
  clear t3
  go_wp2_with (at_builtin; refine wpList_appG bytT rfl (.tmp 60) (.tmp 61) rfl o3.out ⟨w.heap.size + 1 + 1, 0, none⟩ 201 201 (List.replicate 201 0) (by simp) ((r3.out.bytS 201).news _ rfl) hc.out (by omega) rfl rfl ?_; intro c4 w4 o4 t4; have B4 := B3.out.turned t4 (fun e => e); have Z4 := Z3.out.turned t4 (fun e => e); have x0 : w4.cell? ⟨w.heap.size, 0, none⟩ = some (.int .i64 lsn) := B4.cell 0; have x1 : w4.cell? ⟨w.heap.size, 1, none⟩ = some (.int .i64 work) := B4.cell 1; have x2 : w4.cell? ⟨w.heap.size, 2, none⟩ = some (.int .i64 prev) := B4.cell 2; have x3 : w4.cell? ⟨w.heap.size, 3, none⟩ = some (.int .i64 next) := B4.cell 3; have x4 : w4.cell? ⟨w.heap.size, 4, none⟩ = some (.int .u8 kind) := B4.cell 4; have x5 : w4.cell? ⟨w.heap.size, 5, none⟩ = some (.int .i64 page) := B4.cell 5; have x6 : w4.cell? ⟨w.heap.size, 6, none⟩ = some (.slice KA Kn Kc) := B4.cell 6; have x7 : w4.cell? ⟨w.heap.size, 7, none⟩ = some (.slice OA On Oc) := B4.cell 7; have x8 : w4.cell? ⟨w.heap.size, 8, none⟩ = some (.slice NA Nn Nc) := B4.cell 8; have x9 : w4.cell? ⟨w.heap.size, 9, none⟩ = some (.slice DA Dn Dc) := B4.cell 9; have x10 : w4.cell? ⟨w.heap.size, 10, none⟩ = some (.slice PA Pn Pc) := B4.cell 10; have z0 : w4.cell? ⟨w.heap.size + 1, 0, none⟩ = some (.int .i64 0) := Z4.cell 0; have z1 : w4.cell? ⟨w.heap.size + 1, 1, none⟩ = some (.int .i64 0) := Z4.cell 1; have z2 : w4.cell? ⟨w.heap.size + 1, 2, none⟩ = some (.int .i64 0) := Z4.cell 2; have z3 : w4.cell? ⟨w.heap.size + 1, 3, none⟩ = some (.int .i64 0) := Z4.cell 3; have z4 : w4.cell? ⟨w.heap.size + 1, 4, none⟩ = some (.int .u8 0) := Z4.cell 4; have z5 : w4.cell? ⟨w.heap.size + 1, 5, none⟩ = some (.int .i64 0) := Z4.cell 5; have z6 : w4.cell? ⟨w.heap.size + 1, 6, none⟩ = some (.slice none 0 0) := Z4.cell 6; have z7 : w4.cell? ⟨w.heap.size + 1, 7, none⟩ = some (.slice none 0 0) := Z4.cell 7; have z8 : w4.cell? ⟨w.heap.size + 1, 8, none⟩ = some (.slice none 0 0) := Z4.cell 8; have z9 : w4.cell? ⟨w.heap.size + 1, 9, none⟩ = some (.slice none 0 0) := Z4.cell 9; have z10 : w4.cell? ⟨w.heap.size + 1, 10, none⟩ = some (.slice none 0 0) := Z4.cell 10; have xf := B4.frozen; have zf := Z4.frozen; have B4 := Lib.hid B4; have Z4 := Lib.hid Z4; have T4 := Lib.hid (T3.out.and_ t4); have O4 := Lib.hid (show OwnV w4 (some ⟨w.heap.size + 1 + 1 + 1, 0, none⟩) _ c4 _ by simpa using o4); clear t4 o4)
  have tZ := (((((((((((((Turned.refl (fun i => i = w.heap.size ∨ i = w.heap.size + 1) w4).setCell (p := ⟨w.heap.size, 8, none⟩) (.inl (.inl rfl)) (.slice (some ⟨w.heap.size + 1 + 1 + 1, 0, none⟩) (Nn + 201) c4)).setCell (p := ⟨w.heap.size + 1, 0, none⟩) (.inl (.inr rfl)) (.int .i64 lsn)).setCell (p := ⟨w.heap.size + 1, 1, none⟩) (.inl (.inr rfl)) (.int .i64 work)).setCell (p := ⟨w.heap.size + 1, 2, none⟩) (.inl (.inr rfl)) (.int .i64 prev)).setCell (p := ⟨w.heap.size + 1, 3, none⟩) (.inl (.inr rfl)) (.int .i64 next)).setCell (p := ⟨w.heap.size + 1, 4, none⟩) (.inl (.inr rfl)) (.int .u8 kind)).setCell (p := ⟨w.heap.size + 1, 5, none⟩) (.inl (.inr rfl)) (.int .i64 page)).setCell (p := ⟨w.heap.size + 1, 6, none⟩) (.inl (.inr rfl)) (.slice KA Kn Kc)).setCell (p := ⟨w.heap.size + 1, 7, none⟩) (.inl (.inr rfl)) (.slice OA On Oc)).setCell (p := ⟨w.heap.size + 1, 8, none⟩) (.inl (.inr rfl)) (.slice (some ⟨w.heap.size + 1 + 1 + 1, 0, none⟩) (Nn + 201) c4)).setCell (p := ⟨w.heap.size + 1, 9, none⟩) (.inl (.inr rfl)) (.slice DA Dn Dc)).setCell (p := ⟨w.heap.size + 1, 10, none⟩) (.inl (.inr rfl)) (.slice PA Pn Pc))
  have ZZ := Z4.out.far (p := ⟨w.heap.size, 8, none⟩) (by show w.heap.size + 1 ≠ w.heap.size; omega) (.slice (some ⟨w.heap.size + 1 + 1 + 1, 0, none⟩) (Nn + 201) c4)
  have XZ := Blk.set11 (.int .i64 lsn) (.int .i64 work) (.int .i64 prev) (.int .i64 next) (.int .u8 kind) (.int .i64 page) (.slice KA Kn Kc) (.slice OA On Oc) (.slice (some ⟨w.heap.size + 1 + 1 + 1, 0, none⟩) (Nn + 201) c4) (.slice DA Dn Dc) (.slice PA Pn Pc) ZZ
  have TZ := T4.out.trans (W := fun _ => False) tZ (fun _ e => e) (fun i e => .inr (by omega))
  have OZ := O4.out.turned tZ (fun g e e2 => by have e3 := O4.out.blk B4.out (by decide) e; have e4 := O4.out.blk Z4.out (by decide) e; omega)
  clear x0 z0 x1 z1 x2 z2 x3 z3 x4 z4 x5 z5 x6 z6 x7 z7 x8 z8 x9 z9 x10 z10 xf zf ZZ tZ T3 o3 r3 B3 Z3
  generalize ((((((((((((w4.setCell ⟨w.heap.size, 8, none⟩ (.slice (some ⟨w.heap.size + 1 + 1 + 1, 0, none⟩) (Nn + 201) c4)).setCell ⟨w.heap.size + 1, 0, none⟩ (.int .i64 lsn)).setCell ⟨w.heap.size + 1, 1, none⟩ (.int .i64 work)).setCell ⟨w.heap.size + 1, 2, none⟩ (.int .i64 prev)).setCell ⟨w.heap.size + 1, 3, none⟩ (.int .i64 next)).setCell ⟨w.heap.size + 1, 4, none⟩ (.int .u8 kind)).setCell ⟨w.heap.size + 1, 5, none⟩ (.int .i64 page)).setCell ⟨w.heap.size + 1, 6, none⟩ (.slice KA Kn Kc)).setCell ⟨w.heap.size + 1, 7, none⟩ (.slice OA On Oc)).setCell ⟨w.heap.size + 1, 8, none⟩ (.slice (some ⟨w.heap.size + 1 + 1 + 1, 0, none⟩) (Nn + 201) c4)).setCell ⟨w.heap.size + 1, 9, none⟩ (.slice DA Dn Dc)).setCell ⟨w.heap.size + 1, 10, none⟩ (.slice PA Pn Pc)) = wz at *
  obtain ⟨e0, e1, e2, e3, e4, e5, e6, e7, e8, e9, e10⟩ := XZ.cells11
  refine bodyPost_ret (v := .agg #[.int .i64 lsn, .int .i64 work, .int .i64 prev, .int .i64 next, .int .u8 kind, .int .i64 page, .slice KA Kn Kc, .slice OA On Oc, .slice (some ⟨w.heap.size + 1 + 1 + 1, 0, none⟩) (Nn + 201) c4, .slice DA Dn Dc, .slice PA Pn Pc]) (by simp [results, Tryz.results25, go_sem, e0, e1, e2, e3, e4, e5, e6, e7, e8, e9, e10]) rfl ?_
  exact bent_fin ⟨lsn, work, prev, next, kind, page, key, old, new ++ List.replicate 201 0, dirty, opn⟩ ⟨⟨KA, Kn, Kc⟩, ⟨OA, On, Oc⟩, ⟨some ⟨w.heap.size + 1 + 1 + 1, 0, none⟩, Nn + 201, c4⟩, ⟨DA, Dn, Dc⟩, ⟨PA, Pn, Pc⟩⟩ H.out TZ rfl (fun H' => ⟨H'.key, H'.old, OwnV.slB (s := ⟨some ⟨w.heap.size + 1 + 1 + 1, 0, none⟩, Nn + 201, c4⟩) OZ (by show Nn + 201 ≤ 1000000; omega), H'.dirty, H'.opn⟩) ⟨hk.lsn, hk.work, hk.prev, hk.next, hk.kind, hk.page, hk.key, hk.old, (fun z hz => (List.mem_append.1 hz).elim (hk.new z) (reps_byte 201 z)), hk.dirty, hk.opn⟩
end Go.Proofs.YtohajofkflibjaaGreatDoor

