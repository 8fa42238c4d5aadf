/-
  MarkLives: a step.
-/
import Derived.Test.YtobjoafhhchjgaaLivN
namespace Go.Proofs.Ytobjoafhhchjgaa
open Go.RowKit Go.Maps

structure DoMOk (w : World) (B : Nat) (x : DoM) : Prop where
  b0 : -9223372036854775808 ≤ x.op ∧ x.op ≤ 9223372036854775807
  b1 : -9223372036854775808 ≤ x.num ∧ x.num ≤ 9223372036854775807
  mok : x.mas.Ok
  b7 : 0 ≤ x.byt ∧ x.byt ≤ 255
  fates : FatesR w B x.F x.fn x.fs
theorem DoMAt.okM {w : World} {B b o : Nat} {x : DoM} (h : DoMAt w B b o x) : DoMOk w B x := ⟨h.b0, h.b1, h.mok, h.b7, h.fates⟩
set_option maxRecDepth 100000 in
set_option maxHeartbeats 1000000 in
theorem step25_fmt {w : World} {base d s o r : Nat} {A : DA} (h : Bo w base d s o r A) (x : DoM) (hx : DoMOk w base x) (hp : x.op % 8 = 0) :
    Calls Try.prog 39 #[.pointer (some ⟨d, 0, none⟩), .pointer (some ⟨r, 0, none⟩), .agg #[.int .i64 x.op, .int .i64 x.num, .int .i64 x.mas.seq, .int .i64 x.mas.turn, .int .i64 x.mas.old, .int .i64 x.mas.mark, .slice x.F x.fn x.fc, .int .u8 x.byt]] w (BPost base d s o r w) := by
  obtain ⟨op, num, ⟨seq, turn, old, mark⟩, byt, F, fn, fc, fs⟩ := x
  obtain ⟨lv, m, X, hr⟩ := h.ref
  have hlow := Lib.hid h.low
  have hd' := Lib.hid h.dsk
  have hr' := Lib.hid hr
  have hp' := Lib.hid hp
  have hx' := Lib.hid hx
  have hb0 := hx.b0
  clear h hr hp hx
  go_enter Try.func39, Try.ntmps39
  go_wp2_with fail
  have hx := Blk.new w 69 #[.int .i64 op, .int .i64 num, .int .i64 seq, .int .i64 turn, .int .i64 old, .int .i64 mark, .slice F fn fc, .int .u8 byt]
  have hta := (Turned.refl (fun _ => False) w).alloc (.cells #[.int .i64 op, .int .i64 num, .int .i64 seq, .int .i64 turn, .int .i64 old, .int .i64 mark, .slice F fn fc, .int .u8 byt] 69)
  refine (pick_to op 8 0 _ hp'.out (by omega) (by omega) hb0.1 hb0.2).mono ?_
  rintro e w1 ⟨rfl, rfl⟩
  generalize w.alloc (.cells #[.int .i64 op, .int .i64 num, .int .i64 seq, .int .i64 turn, .int .i64 old, .int .i64 mark, .slice F fn fc, .int .u8 byt] 69) = w1 at *
  generalize w.heap.size = xb at *
  have hD1 := hd'.out.fresh hta
  have hR1 := hr'.out.fresh hta
  obtain ⟨q0, q1, q2, q3, q4, q5, q6, q7⟩ := do8_cells hx
  go_wp2_with fail
  refine (mformat_all hD1).mono ?_
  rintro e w2 ⟨rfl, hD2, ht2⟩
  have hR2 := hR1.dskTurned hD1 ht2
  go_wp2_with fail
  refine (rmformat_all hR2).mono ?_
  rintro e w3 ⟨rfl, hRn, ht3⟩
  have hDn := hD2.refTurned ht3
  have hTn := wide_then (wide_then (wide_new hta) ht2 hlow.out) ht3 (fun _ e => e.1)
  go_wp2_with fail
  go_ret
  exact ⟨ret_bool (by simp), ⟨_, hDn, hRn, hlow.out⟩, hTn⟩
set_option maxRecDepth 100000 in
set_option maxHeartbeats 1000000 in
theorem step25_arm {w : World} {base d s o r : Nat} {A : DA} (h : Bo w base d s o r A) (x : DoM) (hx : DoMOk w base x) (hp : x.op % 8 = 1) :
    Calls Try.prog 39 #[.pointer (some ⟨d, 0, none⟩), .pointer (some ⟨r, 0, none⟩), .agg #[.int .i64 x.op, .int .i64 x.num, .int .i64 x.mas.seq, .int .i64 x.mas.turn, .int .i64 x.mas.old, .int .i64 x.mas.mark, .slice x.F x.fn x.fc, .int .u8 x.byt]] w (BPost base d s o r w) := by
  obtain ⟨op, num, ⟨seq, turn, old, mark⟩, byt, F, fn, fc, fs⟩ := x
  obtain ⟨lv, m, X, hr⟩ := h.ref
  have hlow := Lib.hid h.low
  have hd' := Lib.hid h.dsk
  have hr' := Lib.hid hr
  have hp' := Lib.hid hp
  have hx' := Lib.hid hx
  have hb0 := hx.b0
  clear h hr hp hx
  go_enter Try.func39, Try.ntmps39
  go_wp2_with fail
  have hx := Blk.new w 69 #[.int .i64 op, .int .i64 num, .int .i64 seq, .int .i64 turn, .int .i64 old, .int .i64 mark, .slice F fn fc, .int .u8 byt]
  have hta := (Turned.refl (fun _ => False) w).alloc (.cells #[.int .i64 op, .int .i64 num, .int .i64 seq, .int .i64 turn, .int .i64 old, .int .i64 mark, .slice F fn fc, .int .u8 byt] 69)
  refine (pick_to op 8 1 _ hp'.out (by omega) (by omega) hb0.1 hb0.2).mono ?_
  rintro e w1 ⟨rfl, rfl⟩
  generalize w.alloc (.cells #[.int .i64 op, .int .i64 num, .int .i64 seq, .int .i64 turn, .int .i64 old, .int .i64 mark, .slice F fn fc, .int .u8 byt] 69) = w1 at *
  generalize w.heap.size = xb at *
  have hD1 := hd'.out.fresh hta
  have hR1 := hr'.out.fresh hta
  obtain ⟨q0, q1, q2, q3, q4, q5, q6, q7⟩ := do8_cells hx
  go_wp2_with fail
  have hn := hx'.out.b1
  have hm0 : 0 ≤ num % 60 := Int.emod_nonneg _ (by omega)
  have hm1 : num % 60 < 60 := Int.emod_lt_of_pos _ (by omega)
  refine (pick_to num 60 (num % 60) _ rfl (by omega) (by omega) hn.1 hn.2).mono ?_
  rintro e w2 ⟨rfl, rfl⟩
  generalize ha : num % 60 = a at *
  have ha' := Lib.hid ha
  clear ha
  go_wp2_with fail
  refine (darm_all hD1 a (by omega)).mono ?_
  rintro e w3 ⟨rfl, hD3, ht3⟩
  have hR3 := hR1.dskTurned hD1 ht3
  have hx3 := hx.dskTurned hD1 ht3 (by decide)
  obtain ⟨q0, q1, q2, q3, q4, q5, q6, q7⟩ := do8_cells hx3
  go_wp2_with fail
  refine (pick_to num 60 a _ ha'.out (by omega) (by omega) hn.1 hn.2).mono ?_
  rintro e w4 ⟨rfl, rfl⟩
  go_wp2_with fail
  refine (rarm_all hR3 a (by omega)).mono ?_
  rintro e w5 hp5
  obtain ⟨rfl, hRn, ht5⟩ := hp5.weak
  clear hp5
  have hDn := hD3.refTurned ht5
  have hTn := wide_then (wide_then (wide_new hta) ht3 hlow.out) ht5 (fun _ e => e.1)
  go_wp2_with fail
  go_ret
  exact ⟨rfl, ⟨_, hDn, hRn, hlow.out⟩, hTn⟩
set_option maxRecDepth 100000 in
set_option maxHeartbeats 1000000 in
theorem step25_wake {w : World} {base d s o r : Nat} {A : DA} (h : Bo w base d s o r A) (x : DoM) (hx : DoMOk w base x) (hp : x.op % 8 = 2) :
    Calls Try.prog 39 #[.pointer (some ⟨d, 0, none⟩), .pointer (some ⟨r, 0, none⟩), .agg #[.int .i64 x.op, .int .i64 x.num, .int .i64 x.mas.seq, .int .i64 x.mas.turn, .int .i64 x.mas.old, .int .i64 x.mas.mark, .slice x.F x.fn x.fc, .int .u8 x.byt]] w (BPost base d s o r w) := by
  obtain ⟨op, num, ⟨seq, turn, old, mark⟩, byt, F, fn, fc, fs⟩ := x
  obtain ⟨lv, m, X, hr⟩ := h.ref
  have hlow := Lib.hid h.low
  have hd' := Lib.hid h.dsk
  have hr' := Lib.hid hr
  have hp' := Lib.hid hp
  have hx' := Lib.hid hx
  have hb0 := hx.b0
  clear h hr hp hx
  go_enter Try.func39, Try.ntmps39
  go_wp2_with fail
  have hx := Blk.new w 69 #[.int .i64 op, .int .i64 num, .int .i64 seq, .int .i64 turn, .int .i64 old, .int .i64 mark, .slice F fn fc, .int .u8 byt]
  have hta := (Turned.refl (fun _ => False) w).alloc (.cells #[.int .i64 op, .int .i64 num, .int .i64 seq, .int .i64 turn, .int .i64 old, .int .i64 mark, .slice F fn fc, .int .u8 byt] 69)
  refine (pick_to op 8 2 _ hp'.out (by omega) (by omega) hb0.1 hb0.2).mono ?_
  rintro e w1 ⟨rfl, rfl⟩
  generalize w.alloc (.cells #[.int .i64 op, .int .i64 num, .int .i64 seq, .int .i64 turn, .int .i64 old, .int .i64 mark, .slice F fn fc, .int .u8 byt] 69) = w1 at *
  generalize w.heap.size = xb at *
  have hD1 := hd'.out.fresh hta
  have hR1 := hr'.out.fresh hta
  obtain ⟨q0, q1, q2, q3, q4, q5, q6, q7⟩ := do8_cells hx
  go_wp2_with fail
  have hF1 := hx'.out.fates.fresh hta
  refine (wake_any d s o A F fn fc fs _ hD1 (hF1.intsB (hlow.out d (.inl rfl)))).mono ?_
  rintro e w3 ⟨rfl, hD3, ht3⟩
  have hR3 := hR1.dskTurned hD1 ht3
  have hF3 := hF1.keepB ht3 hlow.out
  have hx3 := hx.dskTurned hD1 ht3 (by decide)
  obtain ⟨q0, q1, q2, q3, q4, q5, q6, q7⟩ := do8_cells hx3
  go_wp2_with fail
  refine (rwake_any hR3 F fn fc fs hF3).mono ?_
  rintro e w5 hp5
  obtain ⟨rfl, hRn, ht5⟩ := hp5.weak
  clear hp5
  have hDn := hD3.refTurned ht5
  have hTn := wide_then (wide_then (wide_new hta) ht3 hlow.out) ht5 (fun _ e => e.1)
  go_wp2_with fail
  go_ret
  exact ⟨rfl, ⟨_, hDn, hRn, hlow.out⟩, hTn⟩
set_option maxRecDepth 100000 in
set_option maxHeartbeats 1000000 in
theorem step25_raw {w : World} {base d s o r : Nat} {A : DA} (h : Bo w base d s o r A) (x : DoM) (hx : DoMOk w base x) (hp : x.op % 8 = 3) :
    Calls Try.prog 39 #[.pointer (some ⟨d, 0, none⟩), .pointer (some ⟨r, 0, none⟩), .agg #[.int .i64 x.op, .int .i64 x.num, .int .i64 x.mas.seq, .int .i64 x.mas.turn, .int .i64 x.mas.old, .int .i64 x.mas.mark, .slice x.F x.fn x.fc, .int .u8 x.byt]] w (BPost base d s o r w) := by
  obtain ⟨op, num, ⟨seq, turn, old, mark⟩, byt, F, fn, fc, fs⟩ := x
  obtain ⟨lv, m, X, hr⟩ := h.ref
  have hlow := Lib.hid h.low
  have hd' := Lib.hid h.dsk
  have hr' := Lib.hid hr
  have hp' := Lib.hid hp
  have hx' := Lib.hid hx
  have hb0 := hx.b0
  clear h hr hp hx
  go_enter Try.func39, Try.ntmps39
  go_wp2_with fail
  have hx := Blk.new w 69 #[.int .i64 op, .int .i64 num, .int .i64 seq, .int .i64 turn, .int .i64 old, .int .i64 mark, .slice F fn fc, .int .u8 byt]
  have hta := (Turned.refl (fun _ => False) w).alloc (.cells #[.int .i64 op, .int .i64 num, .int .i64 seq, .int .i64 turn, .int .i64 old, .int .i64 mark, .slice F fn fc, .int .u8 byt] 69)
  refine (pick_to op 8 3 _ hp'.out (by omega) (by omega) hb0.1 hb0.2).mono ?_
  rintro e w1 ⟨rfl, rfl⟩
  generalize w.alloc (.cells #[.int .i64 op, .int .i64 num, .int .i64 seq, .int .i64 turn, .int .i64 old, .int .i64 mark, .slice F fn fc, .int .u8 byt] 69) = w1 at *
  generalize w.heap.size = xb at *
  have hD1 := hd'.out.fresh hta
  have hR1 := hr'.out.fresh hta
  obtain ⟨q0, q1, q2, q3, q4, q5, q6, q7⟩ := do8_cells hx
  go_wp2_with fail
  refine (raw_any ⟨hD1, ⟨_, _, _, hR1⟩, hlow.out⟩ (by have := hR1.rb; have := hR1.r_lt; omega) ⟨op, num, ⟨seq, turn, old, mark⟩, byt, F, fn, fc, fs⟩ hx'.out.b1 hx'.out.b7).mono ?_
  rintro e w2 ⟨rfl, hB2, ht2⟩
  go_wp2_with fail
  go_ret
  exact ⟨rfl, hB2, wide_then (wide_new hta) ht2 (fun _ e => e)⟩
set_option maxRecDepth 100000 in
set_option maxHeartbeats 1000000 in
theorem step25_write {w : World} {base d s o r : Nat} {A : DA} (h : Bo w base d s o r A) (x : DoM) (hx : DoMOk w base x) (k : Int) (hk : 4 ≤ k) (hp : x.op % 8 = k) :
    Calls Try.prog 39 #[.pointer (some ⟨d, 0, none⟩), .pointer (some ⟨r, 0, none⟩), .agg #[.int .i64 x.op, .int .i64 x.num, .int .i64 x.mas.seq, .int .i64 x.mas.turn, .int .i64 x.mas.old, .int .i64 x.mas.mark, .slice x.F x.fn x.fc, .int .u8 x.byt]] w (BPost base d s o r w) := by
  have hk0 : (k == 0) = false := by rw [beq_eq_false_iff_ne]; omega
  have hk1 : (k == 1) = false := by rw [beq_eq_false_iff_ne]; omega
  have hk2 : (k == 2) = false := by rw [beq_eq_false_iff_ne]; omega
  have hk3 : (k == 3) = false := by rw [beq_eq_false_iff_ne]; omega
  obtain ⟨op, num, ⟨seq, turn, old, mark⟩, byt, F, fn, fc, fs⟩ := x
  obtain ⟨lv, m, X, hr⟩ := h.ref
  have hlow := Lib.hid h.low
  have hd' := Lib.hid h.dsk
  have hr' := Lib.hid hr
  have hp' := Lib.hid hp
  have hx' := Lib.hid hx
  have hb0 := hx.b0
  clear h hr hp hx
  go_enter Try.func39, Try.ntmps39
  go_wp2_with fail
  have hx := Blk.new w 69 #[.int .i64 op, .int .i64 num, .int .i64 seq, .int .i64 turn, .int .i64 old, .int .i64 mark, .slice F fn fc, .int .u8 byt]
  have hta := (Turned.refl (fun _ => False) w).alloc (.cells #[.int .i64 op, .int .i64 num, .int .i64 seq, .int .i64 turn, .int .i64 old, .int .i64 mark, .slice F fn fc, .int .u8 byt] 69)
  refine (pick_to op 8 k _ hp'.out (by omega) (by omega) hb0.1 hb0.2).mono ?_
  rintro e w1 ⟨rfl, rfl⟩
  generalize w.alloc (.cells #[.int .i64 op, .int .i64 num, .int .i64 seq, .int .i64 turn, .int .i64 old, .int .i64 mark, .slice F fn fc, .int .u8 byt] 69) = w1 at *
  generalize w.heap.size = xb at *
  have hD1 := hd'.out.fresh hta
  have hR1 := hr'.out.fresh hta
  obtain ⟨q0, q1, q2, q3, q4, q5, q6, q7⟩ := do8_cells hx
  go_wp2_with fail
  have hmok := Lib.hid hx'.out.mok
  refine wp_region_segs (fun w' => w'.cell? ⟨xb, 0, none⟩ = some (.int .i64 op) ∧ w'.cell? ⟨xb, 1, none⟩ = some (.int .i64 num) ∧ w'.cell? ⟨xb, 2, none⟩ = some (.int .i64 seq) ∧ w'.cell? ⟨xb, 3, none⟩ = some (.int .i64 turn) ∧ w'.cell? ⟨xb, 4, none⟩ = some (.int .i64 old) ∧ w'.cell? ⟨xb, 5, none⟩ = some (.int .i64 mark) ∧ w'.cell? ⟨xb, 6, none⟩ = some (.slice F fn fc) ∧ w'.cell? ⟨xb, 7, none⟩ = some (.int .u8 byt)) (segT [0, 1, 2, 4, 5, 6] ++ segF [3, 7, 8] ++ segT [9, 10]) mixed (by kernel_rfl) (fun _ _ _ _ _ h => h) ?_
  simp only [segT, segF, pickSegs, List.map_cons, List.map_nil, List.cons_append, List.nil_append, List.filterMap_cons, List.filterMap_nil, List.getElem?_cons_zero, List.getElem?_cons_succ, Option.map_some]
  iterate 6 (refine wpSegs_take (v := ?_) (do8_cells hx) rfl (fun w' hw => ?_) ?_; rotate_left; (obtain ⟨hw0, hw1, hw2, hw3, hw4, hw5, hw6, hw7⟩ := hw; go_simp; try with_reducible rfl); try simp only [Act.put, List.setIfInBounds_toArray, List.set_cons_zero, List.set_cons_succ])
  refine wpSegs_run rfl (fun K hK => ?_)
  go_simp
  refine (mwrite_all (hD1.fresh (Turned.refl (fun _ => False) w1).drew) ⟨seq, turn, old, mark⟩ hmok.out).mono ?_
  rintro e w2 ⟨rfl, hD2, ht2'⟩
  have ht2 : Turned (dskW d s o) w1 w2 := ⟨ht2'.os, ht2'.tape, ht2'.output, ht2'.size, ht2'.block⟩
  have hR2 := hR1.dskTurned hD1 ht2
  have hx2 := hx.dskTurned hD1 ht2 (by decide)
  refine hK.out _ _ (do8_cells hx2) ?_
  clear hK K
  refine wpSegs_run rfl (fun K hK => ?_)
  go_simp
  refine (of_any ⟨seq, turn, old, mark⟩ w2).mono ?_
  rintro e w3 ⟨rfl, ht3⟩
  have hD3 := hD2.fresh ht3
  have hR3 := hR2.fresh ht3
  have hx3 := hx2.turned ht3 (fun e => e)
  refine hK.out _ _ (do8_cells hx3) ?_
  clear hK K
  refine wpSegs_run rfl (fun K hK => ?_)
  go_simp
  refine (rmwrite_all hR3 ⟨seq, turn, old, mark⟩ hmok.out).mono ?_
  rintro e w4 ⟨rfl, hRn, ht4⟩
  have hDn := hD3.refTurned ht4
  have hx4 := hx3.refTurned ht4 (by decide) (by decide)
  refine hK.out _ _ (do8_cells hx4) ?_
  clear hK K
  iterate 2 (refine wpSegs_take (v := ?_) (do8_cells hx4) rfl (fun w' hw => ?_) ?_; rotate_left; (obtain ⟨hw0, hw1, hw2, hw3, hw4, hw5, hw6, hw7⟩ := hw; go_simp; try with_reducible rfl); try simp only [Act.put, List.setIfInBounds_toArray, List.set_cons_zero, List.set_cons_succ])
  refine wpSegs_nil ?_
  have hTn := wide_then (wide_then (wide_then (wide_new hta) ht2 hlow.out) ht3 (fun _ e => e.elim)) ht4 (fun _ e => e.1)
  go_wp2_with fail
  go_ret
  exact ⟨ret_bool (by simp), ⟨_, hDn, hRn, hlow.out⟩, hTn⟩
theorem step25_any {w : World} {base d s o r : Nat} {A : DA} (h : Bo w base d s o r A) (x : DoM) (hx : DoMOk w base x) :
    Calls Try.prog 39 #[.pointer (some ⟨d, 0, none⟩), .pointer (some ⟨r, 0, none⟩), .agg #[.int .i64 x.op, .int .i64 x.num, .int .i64 x.mas.seq, .int .i64 x.mas.turn, .int .i64 x.mas.old, .int .i64 x.mas.mark, .slice x.F x.fn x.fc, .int .u8 x.byt]] w (BPost base d s o r w) := by
  have e0 := Int.emod_nonneg x.op (show (8 : Int) ≠ 0 by omega)
  have e1 := Int.emod_lt_of_pos x.op (show (0 : Int) < 8 by omega)
  rcases (show x.op % 8 = 0 ∨ x.op % 8 = 1 ∨ x.op % 8 = 2 ∨ x.op % 8 = 3 ∨ 4 ≤ x.op % 8 by omega) with hp | hp | hp | hp | hp
  · exact step25_fmt h x hx hp
  · exact step25_arm h x hx hp
  · exact step25_wake h x hx hp
  · exact step25_raw h x hx hp
  · exact step25_write h x hx _ hp rfl
end Go.Proofs.Ytobjoafhhchjgaa
