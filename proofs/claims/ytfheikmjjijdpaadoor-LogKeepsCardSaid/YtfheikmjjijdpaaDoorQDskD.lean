/-
  The program's disk: Wake.
-/
import Derived.Test.YtfheikmjjijdpaaDoorQReg
namespace Go.Proofs.YtfheikmjjijdpaaDoor
open Go.RowKit Go.Maps

def DA.wake (A : DA) (fs : List Int) : DA :=
  { A with lat := fun k => if A.opn k && fs.contains k then A.lat k else A.saf k, saf := fun k => if A.opn k && fs.contains k then A.lat k else A.saf k, opn := fun _ => false, armed := 0, down := false }

/-- n numbers at A, not in block d. -/
structure IntsR (w : World) (d : Nat) (A : Option Addr) (n : Nat) (fs : List Int) : Prop where
  len : fs.length = n
  max : n ≤ 9223372036854775807
  wf : ∀ f ∈ fs, (Lit.int .i64 f).wf = true
  cell : 0 < n → ∃ b off, A = some ⟨b, off, none⟩ ∧ b ≠ d ∧ ∀ j, j < n → w.cell? ⟨b, off + j, none⟩ = some (.int .i64 (fs.getD j 0))

/-- How the safe map reads behind some fates. -/
def woken (vs vo : Int → Option (List Int)) (fs : List Int) (k : Int) : Option (List Int) := if fs.contains k then (vo k).or (vs k) else vs k
theorem woken_nil (vs vo : Int → Option (List Int)) (k : Int) : vs k = woken vs vo [] k := by simp [woken]
theorem woken_hit {vs vo : Int → Option (List Int)} {fs : List Int} {x : Int} {zs : List Int} (hx : vo x = some zs) (k : Int) : upd (woken vs vo fs) x (some zs) k = woken vs vo (fs ++ [x]) k := by
  unfold upd woken
  by_cases e : k = x
  · subst e; simp [hx]
  · have : (k == x) = false := by simp [e]
    simp [e, List.contains_eq_mem]
theorem woken_miss {vs vo : Int → Option (List Int)} {fs : List Int} {x : Int} (hx : vo x = none) (k : Int) : woken vs vo fs k = woken vs vo (fs ++ [x]) k := by
  unfold woken
  by_cases e : k = x
  · subst e; simp [hx]
  · simp [e, List.contains_eq_mem]
theorem cell_turned {w w' : World} {W : Nat → Prop} (ht : Turned W w w') {a : Addr} {v : Value} (h : w.cell? a = some v) (hW : ¬ W a.block) : w'.cell? a = some v :=
  (World.cell?_of_block (ht.block a.block (World.block_lt_of_cell? w a h) hW)).trans h
theorem cell_not_map {P : Program} {K : TypeId} {w : World} {b : Nat} {f : Int → Option (List Int)} (h : MapIs P K w b f) {a : Addr} {v : Value} (hc : w.cell? a = some v) : a.block ≠ b := by
  rintro rfl
  obtain ⟨n, D, ⟨es, clock, hb, _⟩, _⟩ := h
  unfold World.cell? at hc
  rw [hb] at hc
  cases hc

def WakeRel (d s o : Nat) (n : Int) (vs vo : Int → Option (List Int)) (fs : List Int) (w wr : World) : Prop :=
  MapIs Tryd.prog 3 wr s (woken vs vo fs) ∧ MapIs Tryd.prog 3 wr o vo ∧ Blk wr d 79 (dskCells n s o 0 false) ∧ Turned (dskW d s o) w wr
theorem wakeRel_end {d s o : Nat} {A : DA} {vs vo : Int → Option (List Int)} {fs : List Int} {w wr w' : World} (h : IsDisk w d s o A) (hr : WakeRel d s o A.n vs vo fs w wr) (m : MapIs Tryd.prog 3 w' o (fun _ => none)) (hg : wr.grownBy w' (some o)) (hdo : d ≠ o) (hne : s ≠ o)
    (b1 : ∀ k, vs k ≠ none → 0 ≤ k ∧ k < A.n) (b2 : ∀ k, vo k ≠ none → 0 ≤ k ∧ k < A.n) (e1 : ∀ k, A.saf k = (vs k).getD noughts) (e2 : ∀ k, A.opn k = (vo k).isSome) (e3 : ∀ k, A.lat k = (vo k).getD (A.saf k)) (s1 : ∀ k, Sec (A.saf k)) (s2 : ∀ k, Sec (A.lat k)) :
    IsDisk w' d s o (A.wake fs) ∧ Turned (dskW d s o) w w' := by
  obtain ⟨m1, m2, hB, ht⟩ := hr
  have hsec : ∀ k, Sec (if A.opn k && fs.contains k then A.lat k else A.saf k) := fun k => by split; exact s2 k; exact s1 k
  refine ⟨⟨blk_grown hB hg hdo, h.ne, h.n1, h.n2, by simp [DA.wake], by simp [DA.wake], woken vs vo fs, fun _ => none, m1.grown hg (fun e => hne (by injection e)), m, ?_, by simp, ?_, fun _ => rfl, fun _ => rfl, hsec, hsec⟩,
    ht.grown hg (fun i e => by injection e with e; subst e; exact .inl (.inr (.inr rfl)))⟩
  · intro k hk
    unfold woken at hk
    split at hk
    · rcases hvk : vo k with _ | z
      · rw [hvk] at hk; exact b1 k (by simpa using hk)
      · exact b2 k (by rw [hvk]; simp)
    · exact b1 k hk
  · intro k
    show (if A.opn k && fs.contains k then A.lat k else A.saf k) = _
    unfold woken
    rw [e2, e3, e1]
    cases hvk : vo k <;> cases hc : fs.contains k <;> simp

def WakePost (d s o : Nat) (A : DA) (w : World) (e : Ending) (w' : World) : Prop := e = .returned (.tuple #[]) ∧ IsDisk w' d s o A ∧ Turned (dskW d s o) w w'

set_option maxRecDepth 100000 in
set_option maxHeartbeats 1000000 in
theorem wake_any (d s o : Nat) (A : DA) (F : Option Addr) (n c : Nat) (fs : List Int) (w : World) (h : IsDisk w d s o A) (hF : IntsR w d F n fs) :
    Calls Tryd.prog 21 #[.pointer (some ⟨d, 0, none⟩), .slice F n c] w (WakePost d s o (A.wake fs) w) := by
  obtain ⟨vs, vo, m1, m2, b1, b2, e1, e2, e3, s1, s2⟩ := h.maps
  obtain ⟨c0, c1, c2, c3, c4⟩ := cells_of_blk h.blk
  have hf := h.blk.frozen
  have hn1 := h.n1
  have hn2 := h.n2
  have hB := h.blk
  have hne := h.ne
  have hdo := m2.ne_blk hB
  have hds := m1.ne_blk hB
  have hend := Lib.hid (fun (wr w' : World) (hr : WakeRel d s o A.n vs vo fs w wr) m hg => wakeRel_end (w' := w') h hr m hg hdo hne b1 b2 e1 e2 e3 s1 s2)
  have hb1 := Lib.hid b1
  have hb2 := Lib.hid b2
  have hsec := Lib.hid (fun (k : Int) (zs : List Int) (hk : vo k = some zs) => (show Sec zs by have := s2 k; rw [e3, hk] at this; exact this))
  have hnm := hF.max
  have hF' := Lib.hid hF
  have hn0 : (A.n == 0) = false := by simp; omega
  clear b1 b2 e1 e2 e3 s1 s2 h hF
  go_enter Tryd.func21, Tryd.ntmps21
  go_wp2
  generalize hw1 : (w.setCell _ _).setCell _ _ = w1
  have hB1 : Blk w1 d 79 (dskCells A.n s o 0 false) := by rw [← hw1]; exact (hB.set_ 4 _).set_ 3 _
  have ht0 : Turned (· = d) w w1 := by rw [← hw1]; exact ((Turned.refl (· = d) w).setCell (.inl rfl) _).setCell (.inl rfl) _
  have ht1 : Turned (dskW d s o) w w1 := ht0.mono (fun i hi => .inl (.inl hi))
  clear hw1
  go_loopw [25] (fun i wr => ∃ j : Nat, j ≤ n ∧ i = .int .i64 j ∧ WakeRel d s o A.n vs vo (fs.take j) w wr) (fun i _ => n - (intOf i).toNat)
  case atStart => exact ⟨0, Nat.zero_le _, rfl, (m1.turned ht0 (fun e => hds e.symm)).congr (woken_nil vs vo), m2.turned ht0 (fun e => hdo e.symm), hB1, ht1⟩
  case round =>
    obtain ⟨j, hj, rfl, hR⟩ := hrel
    have hR' := Lib.hid hR
    obtain ⟨n1, n2, hBr, htr⟩ := hR
    obtain ⟨r0, r1, r2, r3, r4⟩ := cells_of_blk hBr
    by_cases hjn : j < n
    · obtain ⟨fb, fo, rfl, hfb, hfc⟩ := hF'.out.cell (by omega)
      have hc1 := hfc j hjn
      have hcell : wr.cell? ⟨fb, fo + j, none⟩ = some (.int .i64 (fs.getD j 0)) := cell_turned htr hc1 (by
        rintro (e | e | e)
        · exact hfb e
        · exact cell_not_map m1 hc1 e
        · exact cell_not_map m2 hc1 e)
      clear hfc hc1
      generalize hx : fs.getD j 0 = x at hcell
      have hx' := Lib.hid hx
      clear hx
      go_wp2
      have hB4 := hBr.alloc (.cells #[.int .i64 x] 109)
      have n14 := n1.alloc (.cells #[.int .i64 x] 109)
      have n24 := n2.alloc (.cells #[.int .i64 x] 109)
      have ht4 := htr.alloc (.cells #[.int .i64 x] 109)
      have hbx := Blk.new wr 109 #[.int .i64 x]
      have hs4 : (wr.alloc (.cells #[.int .i64 x] 109)).heap.size = wr.heap.size + 1 := by simp
      have hdl := hBr.lt
      have hsl := n1.lt
      have hol := n2.lt
      generalize wr.alloc (.cells #[.int .i64 x] 109) = w4 at *
      have hs4' := Lib.hid hs4
      clear n1 n2 hBr htr r0 r1 r2 r3 r4 hs4
      obtain ⟨r0, r1, r2, r3, r4⟩ := cells_of_blk hB4
      have rx : w4.cell? ⟨wr.heap.size, 0, none⟩ = some (.int .i64 x) := hbx.cell 0
      have hwx : (Lit.int .i64 x).wf = true := by
        have hl := hF'.out.len
        have : x = fs[j] := by rw [← hx'.out, List.getD_eq_getElem?_getD, List.getElem?_eq_getElem (by omega)]; rfl
        rw [this]; exact hF'.out.wf _ (List.getElem_mem _)
      have htk : fs.take (j + 1) = fs.take j ++ [x] := by
        have hl := hF'.out.len
        rw [List.take_succ_eq_append_getElem (by omega)]
        rw [← hx'.out, List.getD_eq_getElem?_getD, List.getElem?_eq_getElem (by omega)]; rfl
      have htk' := Lib.hid htk
      clear htk
      have hl2 : ∀ w' : World, Below w4.heap.size w4 w' → w'.cell? ⟨d, 2, none⟩ = some (.map (some o)) := fun w' hw => (hw.cell (p := ⟨d, 2, none⟩) hB4.lt).trans r2
      have hlx : ∀ w' : World, Below w4.heap.size w4 w' → w'.cell? ⟨wr.heap.size, 0, none⟩ = some (.int .i64 x) := fun w' hw => (hw.cell (p := ⟨wr.heap.size, 0, none⟩) hbx.lt).trans rx
      have hb1o := Lib.hid (fun (k : Int) (h : woken vs vo (fs.take j) k ≠ none) => (show 0 ≤ k ∧ k < ((8192 : Nat) : Int) by
        unfold woken at h
        split at h
        · rcases hvk : vo k with _ | z
          · rw [hvk] at h; have := hb1.out k (by simpa using h); omega
          · have := hb2.out k (by rw [hvk]; simp); omega
        · have := hb1.out k h; omega))
      cases hvx : vo x with
      | none =>
        have hvx' := Lib.hid hvx
        clear hvx
        refine wp_region_order (fun w' => Below w4.heap.size w4 w') [0, 1, 2, 3, 4, 5, 6, 7, 8, 9] [10, 11, 12] mixed (by kernel_rfl) (fun _ _ _ _ _ h => h) (Below.refl _ w4).drew ?_
        simp only [pickOps, List.filterMap_cons, List.filterMap_nil, List.getElem?_cons_zero, List.getElem?_cons_succ]
        iterate 6 (refine wpHead_step (v := ?_) rfl (fun w' hw => ?_) ?_; rotate_left; (go_simp; try with_reducible rfl); simp only [Act.put, List.setIfInBounds_toArray, List.set_cons_zero, List.set_cons_succ])
        refine wpHead_sec_look secT rfl (.tmp 33) (.tmp 35) rfl Tryd.underlying3 Tryd.underlying77 rfl (fun w' hw => n24.turned (Turned.of_below hw (fun _ => False)) (fun e => e)) x rfl hwx none hvx'.out ?_
        simp only [Act.put, List.setIfInBounds_toArray, List.set_cons_zero, List.set_cons_succ]
        iterate 3 (refine wpHead_step (v := ?_) rfl (fun w' hw => ?_) ?_; rotate_left; (go_simp; try with_reducible rfl); simp only [Act.put, List.setIfInBounds_toArray, List.set_cons_zero, List.set_cons_succ])
        refine wpHead_nil ?_
        refine wpSeqS_sec_alloc secT rfl rfl ((Below.refl _ w4).drew.alloc (Nat.le_refl _) _) ?_
        refine wpSeqS_sec_storeAt secT rfl (.tmp 6) (.tmp 37) rfl w4.heap.size rfl 111 (u8s noughts).toArray (Blk.new_at _ _ _ rfl) (u8s_size sec_noughts.len) noughts rfl sec_noughts.len (fun w' hg => below_grown ((Below.refl _ w4).drew.alloc (Nat.le_refl _) _) hg (Nat.le_refl _)) ?_
        intro w5 hb5 hg5 hs5
        have hbl5 := below_grown ((Below.refl _ w4).drew.alloc (Nat.le_refl _) _) hg5 (Nat.le_refl _)
        refine wpSeqS_step rfl (fun K hK => ?_)
        go_simp
        refine hK.out _ _ hbl5 ?_
        clear hK K
        refine wpSeqS_nil ?_
        have hR5 : WakeRel d s o A.n vs vo (fs.take (j + 1)) w w5 := by
          have h4 := hs4'.out
          have e4 : w4.drew.heap.size = w4.heap.size := rfl
          exact ⟨by rw [htk'.out]; exact ((n14.drew.alloc _).grown hg5 (fun e => by injection e with e; omega)).congr (woken_miss hvx'.out), (n24.drew.alloc _).grown hg5 (fun e => by injection e with e; omega), blk_grown (hB4.drew.alloc _) hg5 (by omega),
            (ht4.drew.alloc _).grown hg5 (fun i e => by injection e with e; right; have := ht4.size; omega)⟩
        have hR5' := Lib.hid hR5
        clear hR5 hg5 hs5
        go_wp2
        go_roundw
        case rel =>
          first
          | exact ⟨j + 1, by omega, by go_num, hR5'.out⟩
          | ((repeat apply Exists.intro); exact ⟨⟨j + 1, by omega, by go_num, hR5'.out⟩, rfl⟩)
        case measure => simp [intOf]; omega
      | some zs =>
        have hvx' := Lib.hid hvx
        clear hvx
        have hSz : Sec zs := hsec.out x zs hvx'.out
        have hzs := hSz.len
        refine wp_region_order (fun w' => Below w4.heap.size w4 w') [0, 1, 2, 3, 4, 5, 6, 7, 8, 9] [10, 11, 12] mixed (by kernel_rfl) (fun _ _ _ _ _ h => h) (Below.refl _ w4).drew ?_
        simp only [pickOps, List.filterMap_cons, List.filterMap_nil, List.getElem?_cons_zero, List.getElem?_cons_succ]
        iterate 6 (refine wpHead_step (v := ?_) rfl (fun w' hw => ?_) ?_; rotate_left; (go_simp; try with_reducible rfl); simp only [Act.put, List.setIfInBounds_toArray, List.set_cons_zero, List.set_cons_succ])
        refine wpHead_sec_look secT rfl (.tmp 33) (.tmp 35) rfl Tryd.underlying3 Tryd.underlying77 rfl (fun w' hw => n24.turned (Turned.of_below hw (fun _ => False)) (fun e => e)) x rfl hwx (some zs) hvx'.out ?_
        simp only [Act.put, List.setIfInBounds_toArray, List.set_cons_zero, List.set_cons_succ]
        iterate 3 (refine wpHead_step (v := ?_) rfl (fun w' hw => ?_) ?_; rotate_left; (go_simp; try with_reducible rfl); simp only [Act.put, List.setIfInBounds_toArray, List.set_cons_zero, List.set_cons_succ])
        refine wpHead_nil ?_
        refine wpSeqS_sec_alloc secT rfl rfl ((Below.refl _ w4).drew.alloc (Nat.le_refl _) _) ?_
        refine wpSeqS_sec_storeAt secT rfl (.tmp 6) (.tmp 37) rfl w4.heap.size rfl 111 (u8s noughts).toArray (Blk.new_at _ _ _ rfl) (u8s_size sec_noughts.len) zs rfl hzs (fun w' hg => below_grown ((Below.refl _ w4).drew.alloc (Nat.le_refl _) _) hg (Nat.le_refl _)) ?_
        intro w5 hb5 hg5 hs5
        have hbl5 := below_grown ((Below.refl _ w4).drew.alloc (Nat.le_refl _) _) hg5 (Nat.le_refl _)
        refine wpSeqS_step rfl (fun K hK => ?_)
        go_simp
        refine hK.out _ _ hbl5 ?_
        clear hK K
        refine wpSeqS_nil ?_
        have h4 := hs4'.out
        have hs5' : w5.heap.size = w4.heap.size + 1 := by have e4 : w4.drew.heap.size = w4.heap.size := rfl; simpa [e4] using hs5
        have n15 := ((n14.drew.alloc (.cells (u8s noughts).toArray 111)).grown hg5 (fun e => by injection e with e; have : w4.drew.heap.size = w4.heap.size := rfl; omega))
        have n25 := ((n24.drew.alloc (.cells (u8s noughts).toArray 111)).grown hg5 (fun e => by injection e with e; have : w4.drew.heap.size = w4.heap.size := rfl; omega))
        have hB5 := blk_grown (hB4.drew.alloc (.cells (u8s noughts).toArray 111)) hg5 (by have : w4.drew.heap.size = w4.heap.size := rfl; omega)
        have ht5 : Turned (dskW d s o) w w5 := (ht4.drew.alloc (.cells (u8s noughts).toArray 111)).grown hg5 (fun i e => by injection e with e; right; have := ht4.size; have : w4.drew.heap.size = w4.heap.size := rfl; omega)
        have hbx5 := blk_grown (hbx.drew.alloc (.cells (u8s noughts).toArray 111)) hg5 (by have : w4.drew.heap.size = w4.heap.size := rfl; omega)
        have hs4h := Lib.hid h4
        have hs5h := Lib.hid hs5'
        clear hg5 hs5 hs5' h4 hl2 hlx r0 r1 r2 r3 r4 rx n14 n24 hB4 ht4 hbx
        obtain ⟨r0, r1, r2, r3, r4⟩ := cells_of_blk hB5
        have rx : w5.cell? ⟨wr.heap.size, 0, none⟩ = some (.int .i64 x) := hbx5.cell 0
        go_wp2
        have hl1 : ∀ w' : World, Below w5.heap.size w5 w' → w'.cell? ⟨d, 1, none⟩ = some (.map (some s)) := fun w' hw => (hw.cell (p := ⟨d, 1, none⟩) hB5.lt).trans r1
        have hlx : ∀ w' : World, Below w5.heap.size w5 w' → w'.cell? ⟨wr.heap.size, 0, none⟩ = some (.int .i64 x) := fun w' hw => (hw.cell (p := ⟨wr.heap.size, 0, none⟩) hbx5.lt).trans rx
        refine wp_region_still_tail 7 mixed (by kernel_rfl) ?_
        simp only [List.take_succ_cons, List.take_zero, List.drop_succ_cons, List.drop_zero]
        change wpStill _ _ w5.drew (fun a' => wpList _ _ _ _ a' w5.drew) _ _
        iterate 6 still_step
        refine wpStill_sec_load secT rfl (.tmp 6) rfl w4.heap.size rfl 111 zs hb5.drew hzs ?_
        refine wpStill_nil ?_
        refine wpList_sec_store _ rfl (.tmp 43) (.tmp 45) (.tmp 46) 77 3 111 rfl Tryd.underlying3 Tryd.underlying77 s (woken vs vo (fs.take j)) rfl n15.drew 8192 (by omega) (fun k hk => hb1o.out k hk) x rfl hwx zs rfl hSz ?_
        intro w6 m6 hg6'
        have hg6 := grown_of_drew hg6'
        have hR6 : WakeRel d s o A.n vs vo (fs.take (j + 1)) w w6 :=
          ⟨by rw [htk'.out]; exact m6.congr (woken_hit hvx'.out), n25.grown hg6 (fun e => hne (by injection e with e; exact e.symm)), blk_grown hB5 hg6 hds, ht5.grown hg6 (fun i e => by injection e with e; subst e; exact .inl (.inr (.inl rfl)))⟩
        have hR6' := Lib.hid hR6
        clear hR6 hg6 hg6'
        go_wp2
        go_roundw
        case rel =>
          first
          | exact ⟨j + 1, by omega, by go_num, hR6'.out⟩
          | ((repeat apply Exists.intro); exact ⟨⟨j + 1, by omega, by go_num, hR6'.out⟩, rfl⟩)
        case measure => simp [intOf]; omega
    · have hjn' : j = n := by omega
      subst hjn'
      have hfull := Lib.hid (show fs.take j = fs by rw [List.take_of_length_le (by rw [hF'.out.len]; omega)])
      go_wp2_with (refine wpList_sec_clear _ rfl (.tmp 51) 77 3 111 rfl Tryd.underlying77 o vo rfl n2 ?_; intro w5 m5 hg5)
      go_end0
      have := hR'.out
      rw [hfull.out] at this
      exact ⟨rfl, hend.out wr w5 this m5 hg5⟩
end Go.Proofs.YtfheikmjjijdpaaDoor

