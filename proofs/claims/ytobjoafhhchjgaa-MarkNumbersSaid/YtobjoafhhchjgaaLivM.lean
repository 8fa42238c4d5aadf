/-
  MarkLives: what two disks with masters have alike; the law's read.
-/
import Derived.Test.YtobjoafhhchjgaaMrkS
import Derived.Test.YtobjoafhhchjgaaKeptW
namespace Go.Proofs.Ytobjoafhhchjgaa
open Go.RowKit Go.Maps

set_option maxRecDepth 100000 in
set_option maxHeartbeats 1000000 in
theorem mread_all {w : World} {d s o : Nat} {A : DA} (h : IsDisk w d s o A) : Calls Try.prog 36 #[.pointer (some ⟨d, 0, none⟩)] w (MrPost (mread A) w) := by
  by_cases hn : A.n < 40
  · obtain ⟨c0, _, _, _, _⟩ := dsk_cells h
    have hn1 := h.n1
    have hb : bigC A.n = 2 := by unfold bigC; rw [if_pos hn]
    have hR' := Lib.hid (show mread A = (2, M4.zero) by unfold mread; rw [if_pos hn])
    have hbig := Lib.hid (big_any d A.n (w.alloc (.cells #[.int .i64 0, .int .i64 0, .int .i64 0, .int .i64 0] 59)) ((cell_turned ((Turned.refl (fun _ => False) w).alloc _) c0 (fun e => e))) hn1)
    rw [hb] at hbig
    clear h hb c0 hn
    go_enter Try.func36, Try.ntmps36
    go_wp2_with fail
    refine hbig.out.mono ?_
    rintro e w1 ⟨rfl, rfl⟩
    go_wp2_with fail
    rw [hR'.out]
    refine bodyPost_ret (v := .tuple #[.agg #[.int .i64 0, .int .i64 0, .int .i64 0, .int .i64 0], .int .i64 2]) (by simp [results, Try.results36, go_sem]) rfl ⟨rfl, ?_⟩
    exact (Turned.refl (fun _ => False) w).alloc _
  · cases hd : A.down with
    | false =>
      have e : mread A = mreadUp A := by unfold mread; rw [if_neg hn, hd]; rfl
      rw [e]
      exact mread_up h (by omega) hd
    | true =>
      obtain ⟨c0, _, _, _, _⟩ := dsk_cells h
      have hn1 := h.n1
      have h' := Lib.hid h
      have hb : bigC A.n = 0 := by unfold bigC; rw [if_neg hn]
      have hR' := Lib.hid (show mread A = (8, M4.zero) by unfold mread; rw [if_neg hn, hd]; rfl)
      have hd' := Lib.hid hd
      have hbig := Lib.hid (big_any d A.n (w.alloc (.cells #[.int .i64 0, .int .i64 0, .int .i64 0, .int .i64 0] 59)) ((cell_turned ((Turned.refl (fun _ => False) w).alloc _) c0 (fun e => e))) hn1)
      rw [hb] at hbig
      clear h hb c0 hn hd
      have ht0 := ((Turned.refl (fun _ => False) w).alloc (.cells #[.int .i64 0, .int .i64 0, .int .i64 0, .int .i64 0] 59)).alloc (.cells #[.int .i64 0, .int .i64 0, .int .i64 0, .int .i64 0] 59)
      have hB0 := (Blk.new w 59 #[.int .i64 0, .int .i64 0, .int .i64 0, .int .i64 0]).alloc (.cells #[.int .i64 0, .int .i64 0, .int .i64 0, .int .i64 0] 59)
      have hX := Lib.hid (And.intro hB0 ht0)
      clear hB0 ht0
      go_enter Try.func36, Try.ntmps36
      go_wp2_with fail
      refine hbig.out.mono ?_
      rintro e w1 ⟨rfl, rfl⟩
      go_wp2_with fail
      generalize (w.alloc (.cells #[.int .i64 0, .int .i64 0, .int .i64 0, .int .i64 0] 59)).alloc (.cells #[.int .i64 0, .int .i64 0, .int .i64 0, .int .i64 0] 59) = w2 at *
      go_loopw [19] (fun i wr => i = .int .i64 0 ∧ wr = w2) (fun i _ => 2 - (intOf i).toNat)
      case atStart => exact ⟨rfl, rfl⟩
      case round =>
        obtain ⟨rfl, rfl⟩ := hrel
        have hD2 := h'.out.fresh hX.out.2
        obtain ⟨k0, _, _, _, k4⟩ := dsk_cells hD2
        rw [hd'.out] at k4
        have hrd := Lib.hid (read_err _ 0 8 _ (may_down d A.n 0 _ k0 hn1 k4) rfl)
        clear k0 k4 hD2
        obtain ⟨z0, z1, z2, z3⟩ := m4_cells hX.out.1
        have hfz := hX.out.1.frozen
        have hFin := Lib.hid ((((hX.out.1.set_ 0 (.int .i64 0)).set_ 1 (.int .i64 0)).set_ 2 (.int .i64 0)).set_ 3 (.int .i64 0))
        have hTf : Turned (fun _ => False) w ((((wr.setCell ⟨w.heap.size, 0, none⟩ (.int .i64 0)).setCell ⟨w.heap.size, 1, none⟩ (.int .i64 0)).setCell ⟨w.heap.size, 2, none⟩ (.int .i64 0)).setCell ⟨w.heap.size, 3, none⟩ (.int .i64 0)) := (((hX.out.2.setCell (p := ⟨w.heap.size, 0, none⟩) (.inr (Nat.le_refl _)) _).setCell (p := ⟨w.heap.size, 1, none⟩) (.inr (Nat.le_refl _)) _).setCell (p := ⟨w.heap.size, 2, none⟩) (.inr (Nat.le_refl _)) _).setCell (p := ⟨w.heap.size, 3, none⟩) (.inr (Nat.le_refl _)) _
        go_wp2_with fail
        refine hrd.out.mono ?_
        rintro e w3 ⟨rfl, rfl⟩
        go_wp2_with fail
        clear z0 z1 z2 z3 hfz
        generalize (((wr.setCell ⟨w.heap.size, 0, none⟩ (.int .i64 0)).setCell ⟨w.heap.size, 1, none⟩ (.int .i64 0)).setCell ⟨w.heap.size, 2, none⟩ (.int .i64 0)).setCell ⟨w.heap.size, 3, none⟩ (.int .i64 0) = wf at *
        obtain ⟨z0, z1, z2, z3⟩ := m4_cells hFin.out
        rw [hR'.out]
        refine bodyPost_ret (v := .tuple #[.agg #[.int .i64 0, .int .i64 0, .int .i64 0, .int .i64 0], .int .i64 8]) (by simp [results, Try.results36, go_sem, z0, z1, z2, z3]) rfl ⟨rfl, hTf⟩

/-- Two disks, one as the other. -/
structure Bo (w : World) (base d s o r : Nat) (A : DA) : Prop where
  dsk : IsDisk w d s o A
  ref : ∃ lv m X, IsRef w base r lv A m X
  low : ∀ k, dskW d s o k → base ≤ k
theorem Bo.fresh {w w' : World} {base d s o r : Nat} {A : DA} (h : Bo w base d s o r A) (ht : Turned (fun _ => False) w w') : Bo w' base d s o r A :=
  ⟨h.dsk.fresh ht, let ⟨lv, m, X, hr⟩ := h.ref; ⟨lv, m, X, hr.fresh ht⟩, h.low⟩
/-- A step of both: it is told the same of both, and both stay alike. -/
def BPost (base d s o r : Nat) (w : World) (e : Ending) (w' : World) : Prop := e = .returned (.bool true) ∧ (∃ A, Bo w' base d s o r A) ∧ Turned (fun k => base ≤ k) w w'

set_option maxRecDepth 100000 in
set_option maxHeartbeats 1000000 in
theorem read25_any {w : World} {base d s o r : Nat} {A : DA} (h : Bo w base d s o r A) : Calls Try.prog 40 #[.pointer (some ⟨d, 0, none⟩), .pointer (some ⟨r, 0, none⟩)] w (OkNew w) := by
  obtain ⟨lv, m, X, hr⟩ := h.ref
  have h1 := Lib.hid (mread_all h.dsk)
  have hr' := Lib.hid hr
  clear hr h
  generalize hm : mread A = R at *
  obtain ⟨code, ⟨seq, turn, old, mark⟩⟩ := R
  have hm' := Lib.hid hm
  clear hm
  go_enter Try.func40, Try.ntmps40
  go_wp2_with fail
  refine h1.out.mono ?_
  rintro e w1 ⟨rfl, ht1⟩
  have ht2 := ht1.alloc (.cells #[.int .i64 seq, .int .i64 turn, .int .i64 old, .int .i64 mark] 59)
  have hx2 := Lib.hid (Blk.new w1 59 #[.int .i64 seq, .int .i64 turn, .int .i64 old, .int .i64 mark])
  go_wp2_with fail
  generalize w1.alloc (.cells #[.int .i64 seq, .int .i64 turn, .int .i64 old, .int .i64 mark] 59) = w2 at *
  generalize hxa : w1.heap.size = xa at *
  have h3 := rmread_all (hr'.out.fresh ht2)
  rw [hm'.out] at h3
  refine h3.mono ?_
  clear h3
  rintro e w3 ⟨rfl, ht3⟩
  have hx3 := hx2.out.turned ht3 (fun e => e)
  have hx4 := Lib.hid (hx3.alloc (.cells #[.int .i64 seq, .int .i64 turn, .int .i64 old, .int .i64 mark] 95))
  have hy4 := Lib.hid (Blk.new w3 95 #[.int .i64 seq, .int .i64 turn, .int .i64 old, .int .i64 mark])
  have ht4 := (ht2.trans (W := fun _ => False) ht3 (fun _ e => e) (fun _ e => e.elim)).alloc (.cells #[.int .i64 seq, .int .i64 turn, .int .i64 old, .int .i64 mark] 95)
  clear hx3 ht3 ht2
  go_wp2_with fail
  generalize w3.alloc (.cells #[.int .i64 seq, .int .i64 turn, .int .i64 old, .int .i64 mark] 95) = w4 at *
  generalize hya : w3.heap.size = ya at *
  obtain ⟨x0, x1, x2, x3⟩ := m4_cells hx4.out
  obtain ⟨y0, y1, y2, y3⟩ := m4_cells hy4.out
  refine wp_region_segs (fun w' => (w'.cell? ⟨xa, 0, none⟩ = some (.int .i64 seq) ∧ w'.cell? ⟨xa, 1, none⟩ = some (.int .i64 turn) ∧ w'.cell? ⟨xa, 2, none⟩ = some (.int .i64 old) ∧ w'.cell? ⟨xa, 3, none⟩ = some (.int .i64 mark)) ∧ (w'.cell? ⟨ya, 0, none⟩ = some (.int .i64 seq) ∧ w'.cell? ⟨ya, 1, none⟩ = some (.int .i64 turn) ∧ w'.cell? ⟨ya, 2, none⟩ = some (.int .i64 old) ∧ w'.cell? ⟨ya, 3, none⟩ = some (.int .i64 mark))) (segT [0, 2] ++ segF [1] ++ segT [3, 4, 5, 6, 7, 8, 9]) mixed (by kernel_rfl) (fun _ _ _ _ _ h => h) ?_
  simp only [segT, segF, pickSegs, List.map_cons, List.map_nil, List.cons_append, List.nil_append, List.filterMap_cons, List.filterMap_nil, List.getElem?_cons_zero, List.getElem?_cons_succ, Option.map_some]
  iterate 2 (refine wpSegs_take (v := ?_) ⟨⟨x0, x1, x2, x3⟩, y0, y1, y2, y3⟩ rfl (fun w' hw => ?_) ?_; rotate_left; (obtain ⟨⟨hw0, hw1, hw2, hw3⟩, hv0, hv1, hv2, hv3⟩ := hw; go_simp; try with_reducible rfl); try simp only [Act.put, List.setIfInBounds_toArray, List.set_cons_zero, List.set_cons_succ])
  refine wpSegs_run rfl (fun K hK => ?_)
  go_simp
  refine (of_any ⟨seq, turn, old, mark⟩ w4.drew).mono ?_
  rintro e w5 ⟨rfl, ht5'⟩
  have ht5 : Turned (fun _ => False) w4 w5 := ⟨ht5'.os, ht5'.tape, ht5'.output, ht5'.size, ht5'.block⟩
  obtain ⟨x0, x1, x2, x3⟩ := m4_cells (hx4.out.turned ht5 (fun e => e))
  obtain ⟨y0, y1, y2, y3⟩ := m4_cells (hy4.out.turned ht5 (fun e => e))
  refine hK.out _ _ ⟨⟨x0, x1, x2, x3⟩, y0, y1, y2, y3⟩ ?_
  clear hK K
  iterate 7 (refine wpSegs_take (v := ?_) ⟨⟨x0, x1, x2, x3⟩, y0, y1, y2, y3⟩ rfl (fun w' hw => ?_) ?_; rotate_left; (obtain ⟨⟨hw0, hw1, hw2, hw3⟩, hv0, hv1, hv2, hv3⟩ := hw; go_simp; try with_reducible rfl); try simp only [Act.put, List.setIfInBounds_toArray, List.set_cons_zero, List.set_cons_succ])
  refine wpSegs_nil ?_
  go_wp2_with fail
  go_ret
  exact ⟨rfl, ht4.trans (W := fun _ => False) ht5 (fun _ e => e) (fun _ e => e.elim)⟩
end Go.Proofs.Ytobjoafhhchjgaa
