/-
  Copies of both disks.
-/
import Derived.Test.YtmblonmpiomjgaaGreatLivC
namespace Go.Proofs.YtmblonmpiomjgaaGreat
open Go.RowKit Go.Maps

/-- A copy of the program's disk: new, as the disk is. -/
def CopyPost (A : DA) (w : World) (e : Ending) (w' : World) : Prop := ∃ d s o, e = .returned (.pointer (some ⟨d, 0, none⟩)) ∧ IsDisk w' d s o A ∧ Turned (fun _ => False) w w' ∧ (∀ k, dskW d s o k → w.heap.size ≤ k)
/-- A copy of the document's disk: new, as the disk is; the bytes are the same ones. -/
def RCopyPost (base : Nat) (m : Nat) (X : Nat → RS) (A : DA) (w : World) (e : Ending) (w' : World) : Prop := ∃ r lv', e = .returned (.pointer (some ⟨r, 0, none⟩)) ∧ IsRef w' base r lv' A m X ∧ Turned (fun _ => False) w w' ∧ w.heap.size ≤ r ∧ (∀ k, lv'.ownBlock = some k → w.heap.size ≤ k)

def CpRel (src dst r : Nat) (vT vs : Int → Option (List Int)) (N : Nat) (D : DataW (List Int)) (w wr : World) : Prop :=
  ∃ left cnt, wr.ranges Tryz.prog 3 secR src r N D left cnt ∧ MapIs Tryz.prog 3 wr dst (mixed2 vT vs left) ∧ Turned (· = dst) w wr ∧ r < wr.heap.size

set_option maxRecDepth 100000 in
set_option maxHeartbeats 1000000 in
theorem dcopy_any {w : World} {d s o : Nat} {A : DA} (h : IsDisk w d s o A) : Calls Tryz.prog 9 #[.pointer (some ⟨d, 0, none⟩)] w (CopyPost A w) := by
  obtain ⟨c0, c1, c2, c3, c4⟩ := cells_of_blk h.blk
  have hn1 := h.n1
  have hn2 := h.n2
  have hh := Lib.hid h
  have hn0 : (A.n == 0) = false := by rw [beq_eq_false_iff_ne]; omega
  clear h
  go_enter Tryz.func9, Tryz.ntmps9
  go_wp2_with fail
  refine (new_yes A.n _ (by omega) (by omega)).mono ?_
  rintro e w1 ⟨d1, s1', o1, rfl, hD1, ht1, hfr1, _⟩
  have hh1 := hh.out.fresh ht1
  obtain ⟨c0, c1, c2, c3, c4⟩ := cells_of_blk hh1.blk
  obtain ⟨k0, k1, k2, k3, k4⟩ := cells_of_blk hD1.blk
  have hkf := hD1.blk.frozen
  go_wp2_with fail
  refine wp_region_segs (fun w' => w'.cell? ⟨d, 3, none⟩ = some (.int .i64 A.armed) ∧ w'.cell? ⟨d, 4, none⟩ = some (.bool A.down)) (segT [0, 1, 2, 3, 4, 5, 6, 7, 8, 9, 10, 11] ++ segF [12] ++ segT [13, 14] ++ segF [15]) mixed (by kernel_rfl) (fun _ _ _ _ _ h => h) ?_
  simp only [segT, segF, pickSegs, List.map_cons, List.map_nil, List.cons_append, List.nil_append, List.filterMap_cons, List.filterMap_nil, List.getElem?_cons_zero, List.getElem?_cons_succ, Option.map_some]
  iterate 12 (refine wpSegs_take (v := ?_) ⟨c3, c4⟩ rfl (fun w' hw => ?_) ?_; rotate_left; (obtain ⟨hw0, hw1⟩ := hw; go_simp; try with_reducible rfl); try simp only [Act.put, List.setIfInBounds_toArray, List.set_cons_zero, List.set_cons_succ])
  have hne : d ≠ d1 := fun e => by have := hfr1 d1 (.inl rfl); have := hh.out.lt (.inl rfl : dskW d s o d); omega
  have hB2 : Blk (w1.setCell ⟨d1, 3, none⟩ (.int .i64 A.armed)).drew d1 48 (dskCells A.n s1' o1 A.armed false) := hD1.blk.set_ 3 (.int .i64 A.armed)
  have ht2 : Turned (· = d1) w1 (w1.setCell ⟨d1, 3, none⟩ (.int .i64 A.armed)).drew := ((Turned.refl (· = d1) w1).setCell (.inl rfl) _).drew
  have c3' := cell_turned ht2 c3 hne
  have c4' := cell_turned ht2 c4 hne
  refine wpSegs_run rfl (fun K hK => ?_)
  go_simp
  refine hK.out _ _ ⟨c3', c4'⟩ ?_
  clear hK K
  iterate 2 (refine wpSegs_take (v := ?_) ⟨c3', c4'⟩ rfl (fun w' hw => ?_) ?_; rotate_left; (obtain ⟨hw0, hw1⟩ := hw; go_simp; try with_reducible rfl); try simp only [Act.put, List.setIfInBounds_toArray, List.set_cons_zero, List.set_cons_succ])
  obtain ⟨k0, k1, k2, k3, k4⟩ := cells_of_blk hB2
  have hkf := hB2.frozen
  have hB3 : Blk ((w1.setCell ⟨d1, 3, none⟩ (.int .i64 A.armed)).setCell ⟨d1, 4, none⟩ (.bool A.down)).drew d1 48 (dskCells A.n s1' o1 A.armed A.down) := hB2.set_ 4 (.bool A.down)
  have ht3 : Turned (· = d1) w1 ((w1.setCell ⟨d1, 3, none⟩ (.int .i64 A.armed)).setCell ⟨d1, 4, none⟩ (.bool A.down)).drew := (((Turned.refl (· = d1) w1).setCell (.inl rfl) _).setCell (.inl rfl) _).drew
  refine wpSegs_run rfl (fun K hK => ?_)
  go_simp
  refine hK.out _ _ ⟨cell_turned ht3 c3 hne, cell_turned ht3 c4 hne⟩ ?_
  clear hK K
  generalize ((w1.setCell ⟨d1, 3, none⟩ (.int .i64 A.armed)).setCell ⟨d1, 4, none⟩ (.bool A.down)).drew = w3 at *
  refine wpSegs_nil ?_
  have hfr := Lib.hid hfr1
  have hne1 : ∀ k, dskW d s o k → k < w.heap.size := fun k hk => hh.out.lt hk
  have hd3 := hh1.turned ht3 (fun k hk e => by have e' : k = d1 := e; have := hne1 k hk; have := hfr1 d1 (.inl rfl); omega)
  obtain ⟨vs, vo, m1, m2, b1, b2, e1, e2, e3, s1, s2⟩ := hd3.maps
  obtain ⟨vT, voT, n1', n2', f1, f2, g1, g2, g3, _, _⟩ := hD1.maps
  have n1 := n1'.turned ht3 (fun e => n1'.ne_blk hD1.blk e.symm)
  have n2 := n2'.turned ht3 (fun e => n2'.ne_blk hD1.blk e.symm)
  have hsne := hd3.ne
  have hs1 : s < w.heap.size := hne1 s (.inr (.inl rfl))
  have ho1 : o < w.heap.size := hne1 o (.inr (.inr rfl))
  have hs2 : w.heap.size ≤ s1' := hfr1 s1' (.inr (.inl rfl))
  have ho2 : w.heap.size ≤ o1 := hfr1 o1 (.inr (.inr rfl))
  have hd2 : w.heap.size ≤ d1 := hfr1 d1 (.inl rfl)
  have hdd : d < w.heap.size := hne1 d (.inl rfl)
  obtain ⟨D, hO, hV⟩ := m1.bound (N := 8192) Tryz.underlying3 (fun k hk => by have := b1 k hk; omega)
  obtain ⟨q0, q1, q2, q3, q4⟩ := cells_of_blk hd3.blk
  have hV' := Lib.hid hV
  clear hV
  go_wp2_with (first
    | (at_range; refine wpList_range_own _ rfl _ 46 rfl 3 64 (int_keyed Tryz.underlying3) Tryz.underlying46 secR s 8192 D rfl hO ?_; intro w4 hrg hg4 hs4))
  have hd1s : d1 ≠ s1' := n1.ne_blk hB3
  go_frame
  go_loopw [4] (fun _ wr => CpRel s s1' w3.heap.size vT vs 8192 D w3 wr) (fun _ wr => wr.rangeLeft s w3.heap.size)
  case atStart =>
    exact ⟨_, _, hrg, (n1.grown hg4 (by simp)).congr_wf (fun k hk => mixed2_start hO Tryz.underlying3 hV'.out k hk), (Turned.refl (· = s1') w3).grown hg4 (by simp), by omega⟩
  case round =>
    obtain ⟨left, cnt, hrg, hm, htr, hlt⟩ := hrel
    have hBr := hB3.turned htr (fun e => hd1s e)
    obtain ⟨r0, r1, r2, r3, r4⟩ := cells_of_blk hBr
    go_wp2_with (at_next; refine wpList_next_ranges _ rfl (.tmp 40) rfl 3 (int_keyed Tryz.underlying3) secR (Value.int .i64) secV (fun key kl hkey => by obtain ⟨x, rfl, _⟩ := Maps.keyOf_int_inv Tryz.underlying3 hkey; exact ⟨x, rfl⟩) (fun v y hv => by obtain ⟨zs, rfl, _⟩ := secR_inv hv; exact ⟨zs, rfl⟩) s w3.heap.size 8192 D left cnt rfl hrg ?_ ?_)
    · intro hc0 hl0
      obtain ⟨wa, hwa⟩ : ∃ wa : World, wa = wr := ⟨_, rfl⟩
      subst hwa
      have hs1o1 : s1' ≠ o1 := hD1.ne
      have hd1o : d1 ≠ o1 := n2.ne_blk hB3
      have hS1 := hm.congr (mixed2_end hl0)
      have m2w := m2.turned htr (fun e => by have e' : o = s1' := e; omega)
      have n2w := n2.turned htr (fun e => hs1o1 (by have e' : o1 = s1' := e; exact e'.symm))
      have hB3w := hB3.turned htr (fun e => hd1s e)
      have hdw := hd3.blk.turned htr (fun e => by have e' : d = s1' := e; omega)
      have hTw : Turned (fun _ => False) w wa := ((ht1.mono (W' := fun _ => False) (fun _ e => .inl e)).trans ht3 (fun _ e => e) (fun k e => .inr (by have e' : k = d1 := e; omega))).trans htr (fun _ e => e) (fun k e => .inr (by have e' : k = s1' := e; omega))
      have hS1' := Lib.hid hS1
      have hTw' := Lib.hid hTw
      have hz1 : s1' < wa.heap.size := hm.lt
      obtain ⟨E, hO2, hV2⟩ := m2w.bound (N := 8192) Tryz.underlying3 (fun k hk => by have := b2 k hk; omega)
      have hV2' := Lib.hid hV2
      obtain ⟨q0, q1, q2, q3, q4⟩ := cells_of_blk hdw
      clear hV2 hS1 hTw hrg hm htr hBr r0 r1 r2 r3 r4 hl0 hc0
      go_wp2_with (first
        | (at_range; refine wpList_range_own _ rfl _ 46 rfl 3 64 (int_keyed Tryz.underlying3) Tryz.underlying46 secR o 8192 E rfl hO2 ?_; intro w4 hrg hg4 hs4))
      go_frame
      go_loopw [6] (fun _ wr => CpRel o o1 wa.heap.size voT vo 8192 E wa wr) (fun _ wr => wr.rangeLeft o wa.heap.size)
      case atStart =>
        exact ⟨_, _, hrg, (n2w.grown hg4 (by simp)).congr_wf (fun k hk => mixed2_start hO2 Tryz.underlying3 hV2'.out k hk), (Turned.refl (· = o1) wa).grown hg4 (by simp), by omega⟩
      case round =>
        obtain ⟨left, cnt, hrg, hm, htr, hlt⟩ := hrel
        have hBr := hB3w.turned htr (fun e => hd1o e)
        obtain ⟨r0, r1, r2, r3, r4⟩ := cells_of_blk hBr
        go_wp2_with (at_next; refine wpList_next_ranges _ rfl (.tmp 56) rfl 3 (int_keyed Tryz.underlying3) secR (Value.int .i64) secV (fun key kl hkey => by obtain ⟨x, rfl, _⟩ := Maps.keyOf_int_inv Tryz.underlying3 hkey; exact ⟨x, rfl⟩) (fun v y hv => by obtain ⟨zs, rfl, _⟩ := secR_inv hv; exact ⟨zs, rfl⟩) o wa.heap.size 8192 E left cnt rfl hrg ?_ ?_)
        · intro hc0 hl0
          go_wp2
          go_ret
          have hvo : ∀ k, voT k = none := fun k => by have := g2 k; have e : (DA.new A.n).opn k = false := rfl; rw [e] at this; cases hv : voT k with | none => rfl | some z => rw [hv] at this; cases this
          have hvs : ∀ k, (vT k).getD noughts = noughts := fun k => (g1 k).symm
          have hdn : (DA.new A.n).n = A.n := rfl
          refine ⟨d1, s1', o1, rfl, ⟨hBr, hs1o1, hn1, hn2, hh.out.a1, hh.out.a2, fun k => (vs k).or (vT k), fun k => (vo k).or (voT k), hS1'.out.turned htr (fun e => hs1o1 e), hm.congr (mixed2_end hl0), ?_, ?_, ?_, ?_, ?_, s1, s2⟩, hTw'.out.trans htr (fun _ e => e) (fun k e => .inr (by have e' : k = o1 := e; omega)), hfr.out⟩
          · intro k hk
            have hk : (vs k).or (vT k) ≠ none := hk
            rcases hvk : vs k with _ | z
            · rw [hvk] at hk; exact f1 k (by simpa using hk)
            · exact b1 k (by rw [hvk]; simp)
          · intro k hk
            have hk : (vo k).or (voT k) ≠ none := hk
            rw [hvo k] at hk
            exact b2 k (by simpa using hk)
          · intro k
            show A.saf k = ((vs k).or (vT k)).getD noughts
            rw [e1 k]
            cases vs k with
            | none => simpa using (hvs k).symm
            | some z => rfl
          · intro k
            show A.opn k = ((vo k).or (voT k)).isSome
            rw [e2 k, hvo k]
            simp
          · intro k
            show A.lat k = ((vo k).or (voT k)).getD (A.saf k)
            rw [e3 k, hvo k]
            simp
        · intro x zs kl y yp w5 cnt1 hkey hlk hRv hat hrg1 hlt1 hg5 hs5 hen
          obtain ⟨x', ex, rfl, hwx⟩ := Maps.keyOf_int_inv Tryz.underlying3 hkey
          injection ex with _ ex
          subst ex
          obtain ⟨zs', ez, hSz, ey⟩ := secR_inv hRv
          have hvx : vo x = some zs := by
            have h1 := hV2'.out x hwx
            unfold mview at h1
            injection ey with ey1 ey2
            rw [hat, ey1] at h1
            rw [secV_inj ez]
            exact h1.symm
          have hl3 := n2w.lt
          have hl3o := m2w.lt
          have hl3d := hB3w.lt
          have hBr4 := blk_grown hBr hg5 (fun e => by have e' : d1 = wa.heap.size := e; omega)
          obtain ⟨r0, r1, r2, r3, r4⟩ := cells_of_blk hBr4
          have hzs : zs.length = 512 := by rw [secV_inj ez]; exact hSz.len
          have hSz' : Sec zs := by rw [secV_inj ez]; exact hSz
          have hm4 := hm.grown hg5 (fun e => by injection e with e; omega)
          have hvx' := Lib.hid hvx
          have hs5' := Lib.hid hs5
          clear hvx hat hs5 ez ey hRv hSz
          go_wp2_with (first
            | (refine wpList_sec_alloc secT rfl rfl ?_)
            | (refine wpList_sec_storeAt secT rfl (.tmp 7) (.tmp 61) rfl w5.heap.size rfl 64 (u8s noughts).toArray (Blk.new_at _ _ _ rfl) (u8s_size sec_noughts.len) zs rfl hzs ?_; intro w6 hb6 hg6 hs6))
          have hs5 := hs5'.out
          have hw25 : wa.heap.size < w5.heap.size := by omega
          have hB6 := blk_grown (hBr4.alloc (.cells (u8s noughts).toArray 64)) hg6 (by omega)
          have hm6 := (hm4.alloc (.cells (u8s noughts).toArray 64)).grown hg6 (fun e => by injection e with e; omega)
          have hrg6 := (hrg1.alloc (.cells (u8s noughts).toArray 64)).kept hg6 (fun e => by injection e with e; have := m2w.lt; omega) (fun e => by injection e with e; omega)
          have htr6 : Turned (· = o1) wa w6 := ((htr.grown hg5 (fun i e => by injection e with e; right; omega)).alloc (.cells (u8s noughts).toArray 64)).grown hg6 (fun i e => by injection e with e; right; omega)
          obtain ⟨r0, r1, r2, r3, r4⟩ := cells_of_blk hB6
          have hs6' : w6.heap.size = w5.heap.size + 1 := by simpa using hs6
          have hs6'' := Lib.hid hs6'
          clear hs5 hs6 hs6'
          refine wp_region_still_tail 6 mixed (by kernel_rfl) ?_
          simp only [List.take_succ_cons, List.take_zero, List.drop_succ_cons, List.drop_zero]
          change wpStill _ _ w6.drew (fun a' => wpList _ _ _ _ a' w6.drew) _ _
          iterate 5 still_step
          refine wpStill_sec_load secT rfl (.tmp 7) rfl w5.heap.size rfl 64 zs hb6.drew hzs ?_
          refine wpStill_nil ?_
          refine wpList_sec_store _ rfl (.tmp 65) (.tmp 66) (.tmp 67) 46 3 64 rfl Tryz.underlying3 Tryz.underlying46 o1 (mixed2 voT vo left) rfl hm6.drew 8192 (by omega) (fun j hj => ?_) x rfl hwx zs rfl hSz' ?_
          · unfold mixed2 at hj
            split at hj
            · have := f2 j hj; have : (DA.new A.n).n = A.n := rfl; omega
            · rcases hvk : vo j with _ | z
              · rw [hvk] at hj; have := f2 j (by simpa using hj); have : (DA.new A.n).n = A.n := rfl; omega
              · have := b2 j (by rw [hvk]; simp); omega
          · intro w7 m7 hg7'
            have hg7 := grown_of_drew hg7'
            clear hg7'
            have hss : o ≠ o1 := by omega
            have hrg7 := hrg6.kept hg7 (fun e => hss (by injection e)) (fun e => by injection e with e; omega)
            have hR : CpRel o o1 wa.heap.size voT vo 8192 E wa w7 := by
              have h1 := hg7.size
              have h2 := hs6''.out
              have h3 := hs5'.out
              exact ⟨_, _, hrg7, m7.congr (mixed2_step hvx'.out), htr6.grown hg7 (fun i e => by injection e with e; subst e; exact .inl rfl), by omega⟩
            have hM : w7.rangeLeft o wa.heap.size < wr.rangeLeft o wa.heap.size := by rw [hrg7.left_eq, hrg.left_eq]; exact hlt1
            have hRM := Lib.hid (And.intro hR hM)
            clear hR hM
            go_wp2
            go_roundw
            case rel =>
              first
              | exact hRM.out.1
              | ((repeat apply Exists.intro); exact ⟨hRM.out.1, rfl⟩)
            case measure => exact hRM.out.2
    · intro x zs kl y yp w5 cnt1 hkey hlk hRv hat hrg1 hlt1 hg5 hs5 hen
      obtain ⟨x', ex, rfl, hwx⟩ := Maps.keyOf_int_inv Tryz.underlying3 hkey
      injection ex with _ ex
      subst ex
      obtain ⟨zs', ez, hSz, ey⟩ := secR_inv hRv
      have hvx : vs x = some zs := by
        have h1 := hV'.out x hwx
        unfold mview at h1
        injection ey with ey1 ey2
        rw [hat, ey1] at h1
        rw [secV_inj ez]
        exact h1.symm
      have hl3 := n1.lt
      have hl3d := hB3.lt
      have hBr4 := blk_grown hBr hg5 (fun e => by have e' : d1 = w3.heap.size := e; omega)
      obtain ⟨r0, r1, r2, r3, r4⟩ := cells_of_blk hBr4
      have hzs : zs.length = 512 := by rw [secV_inj ez]; exact hSz.len
      have hSz' : Sec zs := by rw [secV_inj ez]; exact hSz
      have hm4 := hm.grown hg5 (fun e => by injection e with e; omega)
      have hvx' := Lib.hid hvx
      have hs5' := Lib.hid hs5
      clear hvx hat hs5 ez ey hRv hSz
      go_wp2_with (first
        | (refine wpList_sec_alloc secT rfl rfl ?_)
        | (refine wpList_sec_storeAt secT rfl (.tmp 5) (.tmp 45) rfl w5.heap.size rfl 64 (u8s noughts).toArray (Blk.new_at _ _ _ rfl) (u8s_size sec_noughts.len) zs rfl hzs ?_; intro w6 hb6 hg6 hs6))
      have hs5 := hs5'.out
      have hw25 : w3.heap.size < w5.heap.size := by omega
      have hB6 := blk_grown (hBr4.alloc (.cells (u8s noughts).toArray 64)) hg6 (by omega)
      have hm6 := (hm4.alloc (.cells (u8s noughts).toArray 64)).grown hg6 (fun e => by injection e with e; omega)
      have hrg6 := (hrg1.alloc (.cells (u8s noughts).toArray 64)).kept hg6 (fun e => by injection e with e; have := m1.lt; omega) (fun e => by injection e with e; omega)
      have htr6 : Turned (· = s1') w3 w6 := ((htr.grown hg5 (fun i e => by injection e with e; right; omega)).alloc (.cells (u8s noughts).toArray 64)).grown hg6 (fun i e => by injection e with e; right; omega)
      obtain ⟨r0, r1, r2, r3, r4⟩ := cells_of_blk hB6
      have hs6' : w6.heap.size = w5.heap.size + 1 := by simpa using hs6
      have hs6'' := Lib.hid hs6'
      clear hs5 hs6 hs6'
      refine wp_region_still_tail 6 mixed (by kernel_rfl) ?_
      simp only [List.take_succ_cons, List.take_zero, List.drop_succ_cons, List.drop_zero]
      change wpStill _ _ w6.drew (fun a' => wpList _ _ _ _ a' w6.drew) _ _
      iterate 5 still_step
      refine wpStill_sec_load secT rfl (.tmp 5) rfl w5.heap.size rfl 64 zs hb6.drew hzs ?_
      refine wpStill_nil ?_
      refine wpList_sec_store _ rfl (.tmp 49) (.tmp 50) (.tmp 51) 46 3 64 rfl Tryz.underlying3 Tryz.underlying46 s1' (mixed2 vT vs left) rfl hm6.drew 8192 (by omega) (fun j hj => ?_) x rfl hwx zs rfl hSz' ?_
      · unfold mixed2 at hj
        split at hj
        · have := f1 j hj; have : (DA.new A.n).n = A.n := rfl; omega
        · rcases hvk : vs j with _ | z
          · rw [hvk] at hj; have := f1 j (by simpa using hj); have : (DA.new A.n).n = A.n := rfl; omega
          · have := b1 j (by rw [hvk]; simp); omega
      · intro w7 m7 hg7'
        have hg7 := grown_of_drew hg7'
        clear hg7'
        have hss : s ≠ s1' := by omega
        have hrg7 := hrg6.kept hg7 (fun e => hss (by injection e)) (fun e => by injection e with e; omega)
        have hR : CpRel s s1' w3.heap.size vT vs 8192 D w3 w7 := by
          have h1 := hg7.size
          have h2 := hs6''.out
          have h3 := hs5'.out
          exact ⟨_, _, hrg7, m7.congr (mixed2_step hvx'.out), htr6.grown hg7 (fun i e => by injection e with e; subst e; exact .inl rfl), by omega⟩
        have hM : w7.rangeLeft s w3.heap.size < wr.rangeLeft s w3.heap.size := by rw [hrg7.left_eq, hrg.left_eq]; exact hlt1
        have hRM := Lib.hid (And.intro hR hM)
        clear hR hM
        go_wp2
        go_roundw
        case rel =>
          first
          | exact hRM.out.1
          | ((repeat apply Exists.intro); exact ⟨hRM.out.1, rfl⟩)
        case measure => exact hRM.out.2
end Go.Proofs.YtmblonmpiomjgaaGreat
