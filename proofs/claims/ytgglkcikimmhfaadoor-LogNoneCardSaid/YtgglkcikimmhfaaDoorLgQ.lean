/-
  storemanlaw20.LogNone: logs that aren't there answer nothing; stretches that may not be are refused. Conditions: none but the record's own.
-/
import Derived.Test.YtgglkcikimmhfaaDoorLgO
import Derived.Test.YtgglkcikimmhfaaDoorRecK
namespace Go.Proofs.YtgglkcikimmhfaaDoor
open Go.RowKit Go.Maps
set_option linter.unusedVariables false
set_option linter.unusedSimpArgs false

def SomeB (w : World) (e : Ending) (w' : World) : Prop := ∃ b, e = .returned (.bool b) ∧ Turned (fun _ => False) w w'
theorem zero_is (w : World) : RecIs w Rec.zero RecS.nil := by
  have hb : SlB w Sl.nil [] := ⟨⟨BytR.none_ w, fun _ => ⟨rfl, rfl⟩⟩, Nat.le_refl _, by unfold Sl.nil maxLen; simp, Nat.zero_le _⟩
  have hp : SlP w Sl.nil [] := ⟨CelR.none_ w, rfl, fun _ => ⟨rfl, rfl⟩, Nat.le_refl _, by unfold Sl.nil maxLen; simp, Nat.zero_le _⟩
  exact ⟨hb, hb, hb, hp, hp⟩
theorem no_logs {w3 : World} {L : Nat} {b c d e : Value} {f g : Value} (hz : Blk w3 L 50 #[.pointer none, b, c, d, e, f, g]) (hy : Blk w3 (L + 1) 24 #[.pointer none, .pointer (some ⟨L, 0, none⟩)]) (k : Nat) (hk : k < 2) : ∃ p, ∀ w', Turned (fun _ => False) w3 w' → w'.cell? ⟨L + 1, k, none⟩ = some (.pointer p) ∧ NoLog p w' := by
  rcases (show k = 0 ∨ k = 1 by omega) with rfl | rfl
  · exact ⟨none, fun w' t => ⟨(hy.turned t (fun e => e)).cell 0, .inl rfl⟩⟩
  · exact ⟨some ⟨L, 0, none⟩, fun w' t => ⟨(hy.turned t (fun e => e)).cell 1, .inr ⟨L, rfl, (hz.turned t (fun e => e)).cell 0⟩⟩⟩
set_option maxRecDepth 100000 in
set_option maxHeartbeats 2000000 in
theorem small20_any (R : Rec) (S : RecS) (w : World) (h : RecIs w R S) : Calls Tryd.prog 14 #[.agg (recC R S)] w (SomeB w) := by
  have b1 := h.key.few; have b2 := h.old.few; have b3 := h.new.few; have b4 := h.dirty.few; have b5 := h.opn.few
  have T0 := Lib.hid ((Turned.refl (fun _ => False) w).alloc (.cells (recC R S) 39))
  clear h
  obtain ⟨lsn, work, prev, next, kind, page, key, old, new, dirty, opn⟩ := R
  obtain ⟨⟨KA, Kn, Kc⟩, ⟨OA, On, Oc⟩, ⟨NA, Nn, Nc⟩, ⟨DA, Dn, Dc⟩, ⟨PA, Pn, Pc⟩⟩ := S
  unfold recC at *
  simp only at *
  by_cases h1 : (Kn : Int) + (On : Int) + (Nn : Int) ≤ 2000
  · by_cases h2 : (Dn : Int) + (Pn : Int) ≤ 300
    · go_enter Tryd.func14, Tryd.ntmps14
      go_wp2
      go_ret
      exact ⟨_, rfl, T0.out⟩
    · go_enter Tryd.func14, Tryd.ntmps14
      go_wp2
      go_ret
      exact ⟨_, rfl, T0.out⟩
  · go_enter Tryd.func14, Tryd.ntmps14
    go_wp2
    go_ret
    exact ⟨_, rfl, T0.out⟩
set_option maxRecDepth 100000 in
set_option maxHeartbeats 4000000 in
theorem logNone_core (R : Rec) (S : RecS) (lsn0 : Int) (w : World) (h : RecIs w R S) : Calls Tryd.prog 4 #[.agg (recC R S), .int .i64 lsn0] w (OkNew w) := by
  have mixed : Tryd.prog.follows .mixedOrders = true := by kernel_rfl
  have HSm := Lib.hid (fun (w' : World) (t : Turned (fun _ => False) w w') => small20_any R S w' (h.fresh t))
  have HAp := Lib.hid (fun (p : Option Addr) (w' : World) (hp : NoLog p w') => nl_append p R S w' hp)
  have B1 := Lib.hid (Blk.new w 39 (recC R S))
  have T0 := Lib.hid ((Turned.refl (fun _ => False) w).alloc (.cells (recC R S) 39))
  clear h
  obtain ⟨lsn, work, prev, next, kind, page, key, old, new, dirty, opn⟩ := R
  obtain ⟨⟨KA, Kn, Kc⟩, ⟨OA, On, Oc⟩, ⟨NA, Nn, Nc⟩, ⟨DA, Dn, Dc⟩, ⟨PA, Pn, Pc⟩⟩ := S
  unfold recC at *
  simp only at *
  go_enter Tryd.func4, Tryd.ntmps4
  go_wp2_with fail
  generalize w.alloc (.cells #[.int .i64 lsn, .int .i64 work, .int .i64 prev, .int .i64 next, .int .u8 kind, .int .i64 page, .slice KA Kn Kc, .slice OA On Oc, .slice NA Nn Nc, .slice DA Dn Dc, .slice PA Pn Pc] 39) = w0 at *
  obtain ⟨bx, hbx⟩ : ∃ bx, bx = w.heap.size := ⟨_, rfl⟩
  rw [← hbx] at B1 ⊢
  clear hbx
  refine (awake20_any w0).mono ?_
  rintro e w1 ⟨rfl, t1⟩
  have T1 := Lib.hid (T0.out.trans (W := fun _ => False) t1 (fun _ e => e) (fun _ e => e.elim))
  have B1 := Lib.hid (B1.out.turned t1 (fun e => e))
  clear t1 T0
  have x0 : w1.cell? ⟨bx, 0, none⟩ = some (.int .i64 lsn) := B1.out.cell 0
  have x1 : w1.cell? ⟨bx, 1, none⟩ = some (.int .i64 work) := B1.out.cell 1
  have x2 : w1.cell? ⟨bx, 2, none⟩ = some (.int .i64 prev) := B1.out.cell 2
  have x3 : w1.cell? ⟨bx, 3, none⟩ = some (.int .i64 next) := B1.out.cell 3
  have x4 : w1.cell? ⟨bx, 4, none⟩ = some (.int .u8 kind) := B1.out.cell 4
  have x5 : w1.cell? ⟨bx, 5, none⟩ = some (.int .i64 page) := B1.out.cell 5
  have x6 : w1.cell? ⟨bx, 6, none⟩ = some (.slice KA Kn Kc) := B1.out.cell 6
  have x7 : w1.cell? ⟨bx, 7, none⟩ = some (.slice OA On Oc) := B1.out.cell 7
  have x8 : w1.cell? ⟨bx, 8, none⟩ = some (.slice NA Nn Nc) := B1.out.cell 8
  have x9 : w1.cell? ⟨bx, 9, none⟩ = some (.slice DA Dn Dc) := B1.out.cell 9
  have x10 : w1.cell? ⟨bx, 10, none⟩ = some (.slice PA Pn Pc) := B1.out.cell 10
  go_wp2_with fail
  clear x0 x1 x2 x3 x4 x5 x6 x7 x8 x9 x10
  refine (HSm.out _ T1.out).mono ?_
  rintro e w2 ⟨b, rfl, t2⟩
  have T2 := Lib.hid (T1.out.trans (W := fun _ => False) t2 (fun _ e => e) (fun _ e => e.elim))
  have B2 := Lib.hid (B1.out.turned t2 (fun e => e))
  clear t2 T1 B1 HSm
  cases b with
  | false =>
    go_wp2_with fail
    go_ret
    exact ⟨rfl, T2.out⟩
  | true =>
    go_wp2_with fail
    have BZ := Lib.hid ((Blk.new w2 50 #[.pointer none, .int .i64 0, .int .i64 0, .int .i64 0, .int .i64 0, .slice none 0 0, .slice none 0 0]).alloc (.cells #[.pointer none, .pointer (some ⟨w2.heap.size, 0, none⟩)] 24))
    have BY := Lib.hid (Blk.new_at (k := w2.heap.size + 1) (w2.alloc (.cells #[.pointer none, .int .i64 0, .int .i64 0, .int .i64 0, .int .i64 0, .slice none 0 0, .slice none 0 0] 50)) 24 #[.pointer none, .pointer (some ⟨w2.heap.size, 0, none⟩)] (by simp))
    have tw := ((Turned.refl (fun _ => False) w2).alloc (.cells #[.pointer none, .int .i64 0, .int .i64 0, .int .i64 0, .int .i64 0, .slice none 0 0, .slice none 0 0] 50)).alloc (.cells #[.pointer none, .pointer (some ⟨w2.heap.size, 0, none⟩)] 24)
    have T3 := Lib.hid (T2.out.trans (W := fun _ => False) tw (fun _ e => e) (fun _ e => e.elim))
    have B3 := Lib.hid (B2.out.turned tw (fun e => e))
    clear tw T2 B2
    generalize ((w2.alloc (.cells #[.pointer none, .int .i64 0, .int .i64 0, .int .i64 0, .int .i64 0, .slice none 0 0, .slice none 0 0] 50)).alloc (.cells #[.pointer none, .pointer (some ⟨w2.heap.size, 0, none⟩)] 24)) = w3 at *
    generalize w2.heap.size = L at *
    have HX := Lib.hid (no_logs BZ.out BY.out)
    go_loopw [6, 7, 8, 9, 10] (fun i _ _ _ _ wr => ∃ k : Nat, k ≤ 2 ∧ i = .int .i64 k ∧ Turned (fun _ => False) w3 wr) (fun i _ _ _ _ _ => 2 - (intOf i).toNat)
    case atStart => exact ⟨0, by omega, rfl, Turned.refl _ _⟩
    case round =>
      obtain ⟨k, hk, rfl, tk⟩ := hrel
      have Tk := Lib.hid tk
      clear tk
      by_cases hlt : k < 2
      · obtain ⟨p, hp⟩ := HX.out k hlt
        have HP := Lib.hid hp
        clear hp HX BZ BY
        have hki : (k : Int) < 2 := by omega
        have hxk := (HP.out _ Tk.out).1
        go_wp2_with fail
        refine wp_region_segs (fun w' => (w'.cell? ⟨L + 1, k, none⟩ = some (.pointer p) ∧ Blk w' bx 39 (#[.int .i64 lsn, .int .i64 work, .int .i64 prev, .int .i64 next, .int .u8 kind, .int .i64 page, .slice KA Kn Kc, .slice OA On Oc, .slice NA Nn Nc, .slice DA Dn Dc, .slice PA Pn Pc]))) (segT [0, 1, 2, 3, 4] ++ segF [5] ++ segT [6, 7, 8, 9, 10]) mixed (by kernel_rfl) (fun _ _ _ _ _ h => h) ?_
        simp only [segT, segF, pickSegs, List.map_cons, List.map_nil, List.cons_append, List.nil_append, List.filterMap_cons, List.filterMap_nil, List.getElem?_cons_zero, List.getElem?_cons_succ, Option.map_some]
        have Td := Lib.hid Tk.out.drew
        clear hxk
        generalize wr.drew = v0 at *
        have hS : (v0.cell? ⟨L + 1, k, none⟩ = some (.pointer p) ∧ Blk v0 bx 39 (#[.int .i64 lsn, .int .i64 work, .int .i64 prev, .int .i64 next, .int .u8 kind, .int .i64 page, .slice KA Kn Kc, .slice OA On Oc, .slice NA Nn Nc, .slice DA Dn Dc, .slice PA Pn Pc])) := And.intro (HP.out _ Td.out).1 (B3.out.turned Td.out (fun e => e))
        (refine wpSegs_take (v := ?_) hS rfl (fun w' hw => ?_) ?_; rotate_left; (obtain ⟨c, hB⟩ := hw; obtain ⟨c0, c1, c2, c3, c4, c5, c6, c7, c8, c9, c10⟩ := hB.cells11; clear hB; (focus (go_simp; (try with_reducible rfl); done))); try simp only [Act.put, List.setIfInBounds_toArray, List.set_cons_zero, List.set_cons_succ])
        (refine wpSegs_take (v := ?_) hS rfl (fun w' hw => ?_) ?_; rotate_left; (obtain ⟨c, hB⟩ := hw; obtain ⟨c0, c1, c2, c3, c4, c5, c6, c7, c8, c9, c10⟩ := hB.cells11; clear hB; (focus (go_simp; (try with_reducible rfl); done))); try simp only [Act.put, List.setIfInBounds_toArray, List.set_cons_zero, List.set_cons_succ])
        (refine wpSegs_take (v := ?_) hS rfl (fun w' hw => ?_) ?_; rotate_left; (obtain ⟨c, hB⟩ := hw; obtain ⟨c0, c1, c2, c3, c4, c5, c6, c7, c8, c9, c10⟩ := hB.cells11; clear hB; (focus (go_simp; (try with_reducible rfl); done))); try simp only [Act.put, List.setIfInBounds_toArray, List.set_cons_zero, List.set_cons_succ])
        (refine wpSegs_take (v := ?_) hS rfl (fun w' hw => ?_) ?_; rotate_left; (obtain ⟨c, hB⟩ := hw; obtain ⟨c0, c1, c2, c3, c4, c5, c6, c7, c8, c9, c10⟩ := hB.cells11; clear hB; (focus (go_simp; (try with_reducible rfl); done))); try simp only [Act.put, List.setIfInBounds_toArray, List.set_cons_zero, List.set_cons_succ])
        (refine wpSegs_take (v := ?_) hS rfl (fun w' hw => ?_) ?_; rotate_left; (obtain ⟨c, hB⟩ := hw; obtain ⟨c0, c1, c2, c3, c4, c5, c6, c7, c8, c9, c10⟩ := hB.cells11; clear hB; (focus (go_simp; (try with_reducible rfl); done))); try simp only [Act.put, List.setIfInBounds_toArray, List.set_cons_zero, List.set_cons_succ])
        refine wpSegs_run rfl (fun K hK => ?_)
        go_simp
        refine (HAp.out p v0 (HP.out _ Td.out).2).mono ?_
        rintro e v1 ⟨rfl, t1⟩
        have T4 := Lib.hid (Td.out.trans (W := fun _ => False) t1 (fun _ e => e) (fun _ e => e.elim))
        have hS := And.intro (cell_turned t1 hS.1 (fun e => e)) (hS.2.turned t1 (fun e => e))
        clear t1
        refine hK.out _ _ hS ?_
        clear hK K
        try simp only [Act.put, List.setIfInBounds_toArray, List.set_cons_zero, List.set_cons_succ]
        (refine wpSegs_take (v := ?_) hS rfl (fun w' hw => ?_) ?_; rotate_left; (obtain ⟨c, hB⟩ := hw; obtain ⟨c0, c1, c2, c3, c4, c5, c6, c7, c8, c9, c10⟩ := hB.cells11; clear hB; (focus (go_simp; (try with_reducible rfl); done))); try simp only [Act.put, List.setIfInBounds_toArray, List.set_cons_zero, List.set_cons_succ])
        (refine wpSegs_take (v := ?_) hS rfl (fun w' hw => ?_) ?_; rotate_left; (obtain ⟨c, hB⟩ := hw; obtain ⟨c0, c1, c2, c3, c4, c5, c6, c7, c8, c9, c10⟩ := hB.cells11; clear hB; (focus (go_simp; (try with_reducible rfl); done))); try simp only [Act.put, List.setIfInBounds_toArray, List.set_cons_zero, List.set_cons_succ])
        (refine wpSegs_take (v := ?_) hS rfl (fun w' hw => ?_) ?_; rotate_left; (obtain ⟨c, hB⟩ := hw; obtain ⟨c0, c1, c2, c3, c4, c5, c6, c7, c8, c9, c10⟩ := hB.cells11; clear hB; (focus (go_simp; (try with_reducible rfl); done))); try simp only [Act.put, List.setIfInBounds_toArray, List.set_cons_zero, List.set_cons_succ])
        (refine wpSegs_take (v := ?_) hS rfl (fun w' hw => ?_) ?_; rotate_left; (obtain ⟨c, hB⟩ := hw; obtain ⟨c0, c1, c2, c3, c4, c5, c6, c7, c8, c9, c10⟩ := hB.cells11; clear hB; (focus (go_simp; (try with_reducible rfl); done))); try simp only [Act.put, List.setIfInBounds_toArray, List.set_cons_zero, List.set_cons_succ])
        (refine wpSegs_take (v := ?_) hS rfl (fun w' hw => ?_) ?_; rotate_left; (obtain ⟨c, hB⟩ := hw; obtain ⟨c0, c1, c2, c3, c4, c5, c6, c7, c8, c9, c10⟩ := hB.cells11; clear hB; (focus (go_simp; (try with_reducible rfl); done))); try simp only [Act.put, List.setIfInBounds_toArray, List.set_cons_zero, List.set_cons_succ])
        refine wpSegs_nil ?_
        clear hS Td Tk
        have x := (HP.out _ T4.out).1
        go_wp2_with fail
        refine (nl_read p lsn0 v1 (HP.out _ T4.out).2).mono ?_
        rintro e u5 ⟨rfl, t5⟩
        have T5 := Lib.hid ((T4.out.trans (W := fun _ => False) t5 (fun _ e => e) (fun _ e => e.elim)).alloc (.cells (#[.int .i64 0, .int .i64 0, .int .i64 0, .int .i64 0, .int .u8 0, .int .i64 0, .slice none 0 0, .slice none 0 0, .slice none 0 0, .slice none 0 0, .slice none 0 0]) 39))
        clear t5 x
        have x := (HP.out _ T5.out).1
        go_wp2_with fail
        have hsr := sameR_any Rec.zero RecS.nil RecS.nil (u5.alloc (.cells (#[.int .i64 0, .int .i64 0, .int .i64 0, .int .i64 0, .int .u8 0, .int .i64 0, .slice none 0 0, .slice none 0 0, .slice none 0 0, .slice none 0 0, .slice none 0 0]) 39)) (zero_is _) (zero_is _)
        unfold recC Rec.zero RecS.nil Sl.nil at hsr
        simp only at hsr
        refine (hsr).mono ?_
        rintro e u6 ⟨rfl, t6⟩
        have T6 := Lib.hid (T5.out.trans (W := fun _ => False) t6 (fun _ e => e) (fun _ e => e.elim))
        clear t6 x
        clear hsr
        have x := (HP.out _ T6.out).1
        go_wp2_with fail
        refine (nl_force p _ (HP.out _ T6.out).2).mono ?_
        rintro e u7 ⟨rfl, t7⟩
        have T7 := Lib.hid (T6.out.trans (W := fun _ => False) t7 (fun _ e => e) (fun _ e => e.elim))
        clear t7 x
        have x := (HP.out _ T7.out).1
        go_wp2_with fail
        refine (nl_trim p lsn0 _ (HP.out _ T7.out).2).mono ?_
        rintro e u8 ⟨rfl, t8⟩
        have T8 := Lib.hid (T7.out.trans (W := fun _ => False) t8 (fun _ e => e) (fun _ e => e.elim))
        clear t8 x
        have x := (HP.out _ T8.out).1
        go_wp2_with fail
        refine (nl_from p lsn0 _ (HP.out _ T8.out).2).mono ?_
        rintro e u9 ⟨rfl, t9⟩
        have T9 := Lib.hid (T8.out.trans (W := fun _ => False) t9 (fun _ e => e) (fun _ e => e.elim))
        clear t9 x
        have x := (HP.out _ T9.out).1
        go_wp2_with fail
        refine (nl_oldest p _ (HP.out _ T9.out).2).mono ?_
        rintro e u10 ⟨rfl, t10⟩
        have T10 := Lib.hid (T9.out.trans (W := fun _ => False) t10 (fun _ e => e) (fun _ e => e.elim))
        clear t10 x
        have x := (HP.out _ T10.out).1
        go_wp2_with fail
        refine (nl_end p _ (HP.out _ T10.out).2).mono ?_
        rintro e u11 ⟨rfl, t11⟩
        have T11 := Lib.hid (T10.out.trans (W := fun _ => False) t11 (fun _ e => e) (fun _ e => e.elim))
        clear t11 x
        have x := (HP.out _ T11.out).1
        go_wp2_with fail
        refine (nl_safe p _ (HP.out _ T11.out).2).mono ?_
        rintro e u12 ⟨rfl, t12⟩
        have T12 := Lib.hid (T11.out.trans (W := fun _ => False) t12 (fun _ e => e) (fun _ e => e.elim))
        clear t12 x
        have x := (HP.out _ T12.out).1
        go_wp2_with fail
        refine (nl_room p _ (HP.out _ T12.out).2).mono ?_
        rintro e u13 ⟨rfl, t13⟩
        have T13 := Lib.hid (T12.out.trans (W := fun _ => False) t13 (fun _ e => e) (fun _ e => e.elim))
        clear t13 x
        go_wp2_with fail
        go_roundw
        case rel =>
          first
          | exact ⟨k + 1, by omega, by go_num, T13.out⟩
          | ((repeat apply Exists.intro); exact ⟨⟨k + 1, by omega, by go_num, T13.out⟩, rfl⟩)
        case measure => simp [intOf] <;> omega
      · have hge : (2 : Int) ≤ (k : Int) := by omega
        have T4 := Lib.hid (T3.out.trans (W := fun _ => False) Tk.out (fun _ e => e) (fun _ e => e.elim))
        clear HX BZ BY B3 Tk
        go_wp2_with fail
        refine (lopen_nil _).mono ?_
        rintro e u5 ⟨rfl, t5⟩
        have T5 := Lib.hid (T4.out.trans (W := fun _ => False) t5 (fun _ e => e) (fun _ e => e.elim))
        clear t5
        go_wp2_with fail
        refine (new_yes 4 _ (by omega) (by omega)).mono ?_
        rintro e u6 ⟨d, ms, mo, rfl, hd, t6, _, _⟩
        have T6 := Lib.hid (T5.out.trans (W := fun _ => False) t6 (fun _ e => e) (fun _ e => e.elim))
        have hx := Lib.hid (show u6.cell? ⟨d, 0, none⟩ = some (.int .i64 4) from hd.blk.cell 0)
        clear t6 hd
        go_wp2_with fail
        refine (lopen_turn d _ hx.out).mono ?_
        rintro e u7 ⟨rfl, t7⟩
        have T7 := Lib.hid (T6.out.trans (W := fun _ => False) t7 (fun _ e => e) (fun _ e => e.elim))
        clear t7 hx
        go_wp2_with fail
        refine (new_yes 4 _ (by omega) (by omega)).mono ?_
        rintro e u8 ⟨d, ms, mo, rfl, hd, t8, _, _⟩
        have T8 := Lib.hid (T7.out.trans (W := fun _ => False) t8 (fun _ e => e) (fun _ e => e.elim))
        have hx := Lib.hid (show u8.cell? ⟨d, 0, none⟩ = some (.int .i64 4) from hd.blk.cell 0)
        clear t8 hd
        go_wp2_with fail
        refine (lopen_count d _ hx.out).mono ?_
        rintro e u9 ⟨rfl, t9⟩
        have T9 := Lib.hid (T8.out.trans (W := fun _ => False) t9 (fun _ e => e) (fun _ e => e.elim))
        clear t9 hx
        go_wp2_with fail
        refine (new_yes 4 _ (by omega) (by omega)).mono ?_
        rintro e u10 ⟨d, ms, mo, rfl, hd, t10, _, _⟩
        have T10 := Lib.hid (T9.out.trans (W := fun _ => False) t10 (fun _ e => e) (fun _ e => e.elim))
        have hx := Lib.hid (show u10.cell? ⟨d, 0, none⟩ = some (.int .i64 4) from hd.blk.cell 0)
        clear t10 hd
        go_wp2_with fail
        refine (lopen_place d _ hx.out).mono ?_
        rintro e u11 ⟨rfl, t11⟩
        have T11 := Lib.hid (T10.out.trans (W := fun _ => False) t11 (fun _ e => e) (fun _ e => e.elim))
        clear t11 hx
        go_wp2_with fail
        go_ret
        exact ⟨rfl, T11.out⟩
theorem logNone_any (R : Rec) (S : RecS) (lsn0 : Int) (w : World) (h : RecIs w R S) (_hk : R.Ok) (_hx : -9223372036854775808 ≤ lsn0 ∧ lsn0 ≤ 9223372036854775807) : Calls Tryd.prog 4 #[.agg (recC R S), .int .i64 lsn0] w (OkNew w) := logNone_core R S lsn0 w h
end Go.Proofs.YtgglkcikimmhfaaDoor
