/-
  DiskLives' walk: whatever is done to both disks, the answers are the same.
-/
import Derived.Test.YtobjoafhhchjgaaLivC
namespace Go.Proofs.Ytobjoafhhchjgaa
open Go.RowKit Go.Maps
set_option linter.unusedVariables false

def LivRel (w : World) (d s o r : Nat) (wr : World) : Prop := ∃ lv m X A, Both wr w.heap.size d s o r lv m X A ∧ Turned (fun _ => False) w wr
def LivesRel (n : Nat) (w : World) (d s o r : Nat) (i : Value) (wr : World) : Prop := ∃ j : Nat, j ≤ n ∧ i = .int .i64 j ∧ LivRel w d s o r wr
set_option maxRecDepth 100000 in
set_option maxHeartbeats 2000000 in
theorem diskLives_few_no (sectors : Int) (L : Option Addr) (n c : Nat) (D : Nat → DoV) (w : World) (hL : DosR w w.heap.size L n D) (hnc : n ≤ c) (hcm : c ≤ maxLen) (hn : n ≤ 80) (hs : sectors < 1 ∨ 8192 < sectors) :
    Calls Try.prog 4 #[.int .i64 sectors, .slice L n c] w (OkNew w) := by
  unfold maxLen at hcm
  clear hL
  have hni : (n : Int) ≤ 80 := by omega
  go_enter Try.func4, Try.ntmps4
  go_wp2_with fail
  refine (new_no sectors _ (by omega)).mono ?_
  rintro e w1 ⟨rfl, rfl⟩
  go_wp2_with fail
  refine (rnew_no sectors _ (by omega)).mono ?_
  rintro e w1 ⟨rfl, rfl⟩
  go_wp2_with fail
  refine (awake_any _).mono ?_
  rintro e w3 ⟨rfl, ht3⟩
  go_wp2_with fail
  go_ret
  exact ⟨rfl, ht3⟩
set_option maxRecDepth 100000 in
set_option maxHeartbeats 2000000 in
theorem diskLives_few_yes (sectors : Int) (L : Option Addr) (n c : Nat) (D : Nat → DoV) (w : World) (hL : DosR w w.heap.size L n D) (hnc : n ≤ c) (hcm : c ≤ maxLen) (hn : n ≤ 80) (hs : 1 ≤ sectors ∧ sectors ≤ 8192) :
    Calls Try.prog 4 #[.int .i64 sectors, .slice L n c] w (OkNew w) := by
  unfold maxLen at hcm
  have hni : (n : Int) ≤ 80 := by omega
  have hL' := Lib.hid hL
  clear hL
  go_enter Try.func4, Try.ntmps4
  go_wp2_with fail
  refine (new_yes sectors _ hs.1 hs.2).mono ?_
  rintro e w1 ⟨d, s, o, rfl, hD1, ht1, hfr, _⟩
  go_wp2_with fail
  refine (rnew_yes sectors w.heap.size _ ht1.size hs.1 hs.2).mono ?_
  rintro e w2 ⟨r, rfl, hR2, ht2⟩
  have hB2 : LivRel w d s o r w2 := ⟨_, _, _, _, ⟨hD1.fresh ht2, hR2⟩, ht1.trans (W := fun _ => False) ht2 (fun _ e => e) (fun _ e => e.elim)⟩
  have hfr' := Lib.hid hfr
  clear hD1 ht1 hfr hR2 ht2
  go_wp2_with fail
  go_loopw [7] (fun i wr => LivesRel (n) w d s o r i wr) (fun i _ => n - (intOf i).toNat)
  case atStart => exact ⟨0, by omega, rfl, hB2⟩
  case round =>
    obtain ⟨j, hj, rfl, lv, m, X, A, hB, ht⟩ := hrel
    clear hB2
    have hL := hL'.out.keep ht (fun _ e => e.elim) (Nat.le_refl _)
    have hLh := Lib.hid hL
    have hBh := Lib.hid hB
    by_cases hlt : j < n
    · have hji : (j : Int) < ((n : Nat) : Int) := by omega
      have hji2 : (j : Int) < (n : Int) := by omega
      obtain ⟨b, off, rfl, hb, hall⟩ := hL.at_ (by omega)
      have hx := hall j hlt
      have hok := Lib.hid hx.ok
      obtain ⟨q0, q1, q2, q3, q4, _, _, _, _, _, _⟩ := hx
      clear hall hL hB
      by_cases hf : (D j).fn > 1000
      · have hfi : (1000 : Int) < ((D j).fn : Int) := by omega
        go_wp2_with fail
        refine (awake_any _).mono ?_
        rintro e w3 ⟨rfl, ht3⟩
        go_wp2_with fail
        go_ret
        exact ⟨rfl, ht.trans (W := fun _ => False) ht3 (fun _ e => e) (fun _ e => e.elim)⟩
      · have hfi : ((D j).fn : Int) ≤ 1000 := by omega
        have hstep := Lib.hid (step_any hBh.out (D j) hok.out (by omega) hfr'.out)
        generalize hop : (D j).op = op at q0
        generalize hsec : (D j).sec = sec at q1
        generalize hnum : (D j).num = num at q2
        generalize hbyt : (D j).byt = byt at q3
        generalize hF : (D j).F = F at q4
        generalize hfn : (D j).fn = fn at q4 hf hfi
        generalize hfc : (D j).fc = fc at q4
        have hH := Lib.hid (And.intro hop (And.intro hsec (And.intro hnum (And.intro hbyt (And.intro hF (And.intro hfn hfc))))))
        clear hop hsec hnum hbyt hF hfn hfc hf
        go_wp2_with fail
        have hst := hstep.out
        rw [hH.out.1, hH.out.2.1, hH.out.2.2.1, hH.out.2.2.2.1, hH.out.2.2.2.2.1, hH.out.2.2.2.2.2.1, hH.out.2.2.2.2.2.2] at hst
        refine hst.mono ?_
        clear hst
        rintro e w3 ⟨rfl, ⟨lv3, m3, X3, hB3, hN3⟩, ht3⟩
        have hT3 : Turned (fun _ => False) w w3 := ht.trans ht3 (fun _ e => e) (fun k e => by
          right
          rcases e with e | rfl | e
          · exact hfr'.out k e
          · exact hBh.out.ref.rb
          · exact own_block_ge (hBh.out.ref.row.own.choose_spec.1) e)
        have hR3 : LivesRel (n) w d s o r (.int .i64 ((j + 1 : Nat) : Int)) w3 := ⟨j + 1, by omega, rfl, _, _, _, _, hB3, hT3⟩
        obtain ⟨c0, _, _, _, c4⟩ := dsk_cells hB3.dsk
        have hrd := Lib.hid (rdown_any hB3.ref)
        have hR3' := Lib.hid hR3
        clear hN3 hR3 hB3
        generalize (doNext A (D j)).down = dn at *
        go_wp2_with fail
        refine (down_any d dn _ c4).mono ?_
        rintro e w4 ⟨rfl, rfl⟩
        go_wp2_with fail
        refine hrd.out.mono ?_
        rintro e w4 ⟨rfl, rfl⟩
        go_wp2_with fail
        go_roundw
        case rel =>
          have hz : Value.int .i64 ((j : Int) + 1) = .int .i64 ((j + 1 : Nat) : Int) := by go_num
          first
          | (rw [hz]; exact hR3'.out)
          | ((repeat apply Exists.intro); exact ⟨by rw [hz]; exact hR3'.out, rfl⟩)
        case measure => simp [intOf]; omega
    · have hge : (n : Int) ≤ (j : Int) := by omega
      clear hL hB
      go_wp2_with fail
      refine (like_any hBh.out _ _ _ D hLh.out).mono ?_
      rintro e w3 ⟨rfl, ht3⟩
      have hB3 := hBh.out.fresh ht3
      have hL3 := hLh.out.keep ht3 (fun _ e => e.elim) (Nat.le_trans ht.size (Nat.le_refl _))
      go_wp2_with fail
      refine (wake_any d s o A none 0 0 [] _ hB3.dsk ⟨rfl, by omega, by simp, fun h => absurd h (by omega)⟩).mono ?_
      rintro e w4 ⟨rfl, hD4, ht4⟩
      have hR4 := hB3.ref.dskTurned hB3.dsk ht4
      go_wp2_with fail
      refine (rwake_any hR4 none 0 0 [] (FatesR.none_ _ _)).mono ?_
      rintro e w5 ⟨rfl, ⟨lv5, m5, X5, hR5, hN5⟩, ht5⟩
      have hB5 : Both w5 w.heap.size d s o r lv5 m5 X5 (A.wake []) := ⟨hD4.refVTurned ht5, hR5⟩
      have hL5 := (hL3.keep ht4 (fun k e => hfr'.out k e) (Nat.le_trans ht.size ht3.size)).keep ht5 (fun k e => e.2.1) (Nat.le_trans ht.size (Nat.le_trans ht3.size ht4.size))
      have hT5 : Turned (fun _ => False) w w5 := ((ht.trans (W := fun _ => False) ht3 (fun _ e => e) (fun _ e => e.elim)).trans (W := fun _ => False) ht4 (fun _ e => e) (fun k e => .inr (hfr'.out k e))).trans ht5 (fun _ e => e) (fun k e => .inr e.2.1)
      go_wp2_with fail
      refine (like_any hB5 _ _ _ D hL5).mono ?_
      rintro e w6 ⟨rfl, ht6⟩
      go_wp2_with fail
      refine (awake_any _).mono ?_
      rintro e w7 ⟨rfl, ht7⟩
      go_wp2_with fail
      go_ret
      exact ⟨rfl, (hT5.trans (W := fun _ => False) ht6 (fun _ e => e) (fun _ e => e.elim)).trans (W := fun _ => False) ht7 (fun _ e => e) (fun _ e => e.elim)⟩
set_option maxRecDepth 100000 in
set_option maxHeartbeats 2000000 in
theorem diskLives_many_no (sectors : Int) (L : Option Addr) (n c : Nat) (D : Nat → DoV) (w : World) (hL : DosR w w.heap.size L n D) (hnc : n ≤ c) (hcm : c ≤ maxLen) (hn : 80 < n) (hs : sectors < 1 ∨ 8192 < sectors) :
    Calls Try.prog 4 #[.int .i64 sectors, .slice L n c] w (OkNew w) := by
  unfold maxLen at hcm
  clear hL
  have hni : (80 : Int) < (n : Int) := by omega
  have hci : (80 : Int) ≤ (c : Int) := by omega
  go_enter Try.func4, Try.ntmps4
  go_wp2_with fail
  refine (new_no sectors _ (by omega)).mono ?_
  rintro e w1 ⟨rfl, rfl⟩
  go_wp2_with fail
  refine (rnew_no sectors _ (by omega)).mono ?_
  rintro e w1 ⟨rfl, rfl⟩
  go_wp2_with fail
  refine (awake_any _).mono ?_
  rintro e w3 ⟨rfl, ht3⟩
  go_wp2_with fail
  go_ret
  exact ⟨rfl, ht3⟩
set_option maxRecDepth 100000 in
set_option maxHeartbeats 2000000 in
theorem diskLives_many_yes (sectors : Int) (L : Option Addr) (n c : Nat) (D : Nat → DoV) (w : World) (hL : DosR w w.heap.size L n D) (hnc : n ≤ c) (hcm : c ≤ maxLen) (hn : 80 < n) (hs : 1 ≤ sectors ∧ sectors ≤ 8192) :
    Calls Try.prog 4 #[.int .i64 sectors, .slice L n c] w (OkNew w) := by
  unfold maxLen at hcm
  have hni : (80 : Int) < (n : Int) := by omega
  have hci : (80 : Int) ≤ (c : Int) := by omega
  have hL' := Lib.hid (hL.cut (m := 80) (by omega))
  clear hL
  go_enter Try.func4, Try.ntmps4
  go_wp2_with fail
  refine (new_yes sectors _ hs.1 hs.2).mono ?_
  rintro e w1 ⟨d, s, o, rfl, hD1, ht1, hfr, _⟩
  go_wp2_with fail
  refine (rnew_yes sectors w.heap.size _ ht1.size hs.1 hs.2).mono ?_
  rintro e w2 ⟨r, rfl, hR2, ht2⟩
  have hB2 : LivRel w d s o r w2 := ⟨_, _, _, _, ⟨hD1.fresh ht2, hR2⟩, ht1.trans (W := fun _ => False) ht2 (fun _ e => e) (fun _ e => e.elim)⟩
  have hfr' := Lib.hid hfr
  clear hD1 ht1 hfr hR2 ht2
  go_wp2_with fail
  go_loopw [7] (fun i wr => LivesRel (80) w d s o r i wr) (fun i _ => 80 - (intOf i).toNat)
  case atStart => exact ⟨0, by omega, rfl, hB2⟩
  case round =>
    obtain ⟨j, hj, rfl, lv, m, X, A, hB, ht⟩ := hrel
    clear hB2
    have hL := hL'.out.keep ht (fun _ e => e.elim) (Nat.le_refl _)
    have hLh := Lib.hid hL
    have hBh := Lib.hid hB
    by_cases hlt : j < 80
    · have hji : (j : Int) < ((80 : Nat) : Int) := by omega
      have hji2 : (j : Int) < (80 : Int) := by omega
      obtain ⟨b, off, rfl, hb, hall⟩ := hL.at_ (by omega)
      have hx := hall j hlt
      have hok := Lib.hid hx.ok
      obtain ⟨q0, q1, q2, q3, q4, _, _, _, _, _, _⟩ := hx
      clear hall hL hB
      by_cases hf : (D j).fn > 1000
      · have hfi : (1000 : Int) < ((D j).fn : Int) := by omega
        go_wp2_with fail
        refine (awake_any _).mono ?_
        rintro e w3 ⟨rfl, ht3⟩
        go_wp2_with fail
        go_ret
        exact ⟨rfl, ht.trans (W := fun _ => False) ht3 (fun _ e => e) (fun _ e => e.elim)⟩
      · have hfi : ((D j).fn : Int) ≤ 1000 := by omega
        have hstep := Lib.hid (step_any hBh.out (D j) hok.out (by omega) hfr'.out)
        generalize hop : (D j).op = op at q0
        generalize hsec : (D j).sec = sec at q1
        generalize hnum : (D j).num = num at q2
        generalize hbyt : (D j).byt = byt at q3
        generalize hF : (D j).F = F at q4
        generalize hfn : (D j).fn = fn at q4 hf hfi
        generalize hfc : (D j).fc = fc at q4
        have hH := Lib.hid (And.intro hop (And.intro hsec (And.intro hnum (And.intro hbyt (And.intro hF (And.intro hfn hfc))))))
        clear hop hsec hnum hbyt hF hfn hfc hf
        go_wp2_with fail
        have hst := hstep.out
        rw [hH.out.1, hH.out.2.1, hH.out.2.2.1, hH.out.2.2.2.1, hH.out.2.2.2.2.1, hH.out.2.2.2.2.2.1, hH.out.2.2.2.2.2.2] at hst
        refine hst.mono ?_
        clear hst
        rintro e w3 ⟨rfl, ⟨lv3, m3, X3, hB3, hN3⟩, ht3⟩
        have hT3 : Turned (fun _ => False) w w3 := ht.trans ht3 (fun _ e => e) (fun k e => by
          right
          rcases e with e | rfl | e
          · exact hfr'.out k e
          · exact hBh.out.ref.rb
          · exact own_block_ge (hBh.out.ref.row.own.choose_spec.1) e)
        have hR3 : LivesRel (80) w d s o r (.int .i64 ((j + 1 : Nat) : Int)) w3 := ⟨j + 1, by omega, rfl, _, _, _, _, hB3, hT3⟩
        obtain ⟨c0, _, _, _, c4⟩ := dsk_cells hB3.dsk
        have hrd := Lib.hid (rdown_any hB3.ref)
        have hR3' := Lib.hid hR3
        clear hN3 hR3 hB3
        generalize (doNext A (D j)).down = dn at *
        go_wp2_with fail
        refine (down_any d dn _ c4).mono ?_
        rintro e w4 ⟨rfl, rfl⟩
        go_wp2_with fail
        refine hrd.out.mono ?_
        rintro e w4 ⟨rfl, rfl⟩
        go_wp2_with fail
        go_roundw
        case rel =>
          have hz : Value.int .i64 ((j : Int) + 1) = .int .i64 ((j + 1 : Nat) : Int) := by go_num
          first
          | (rw [hz]; exact hR3'.out)
          | ((repeat apply Exists.intro); exact ⟨by rw [hz]; exact hR3'.out, rfl⟩)
        case measure => simp [intOf]; omega
    · have hge : (80 : Int) ≤ (j : Int) := by omega
      clear hL hB
      go_wp2_with fail
      refine (like_any hBh.out _ _ _ D hLh.out).mono ?_
      rintro e w3 ⟨rfl, ht3⟩
      have hB3 := hBh.out.fresh ht3
      have hL3 := hLh.out.keep ht3 (fun _ e => e.elim) (Nat.le_trans ht.size (Nat.le_refl _))
      go_wp2_with fail
      refine (wake_any d s o A none 0 0 [] _ hB3.dsk ⟨rfl, by omega, by simp, fun h => absurd h (by omega)⟩).mono ?_
      rintro e w4 ⟨rfl, hD4, ht4⟩
      have hR4 := hB3.ref.dskTurned hB3.dsk ht4
      go_wp2_with fail
      refine (rwake_any hR4 none 0 0 [] (FatesR.none_ _ _)).mono ?_
      rintro e w5 ⟨rfl, ⟨lv5, m5, X5, hR5, hN5⟩, ht5⟩
      have hB5 : Both w5 w.heap.size d s o r lv5 m5 X5 (A.wake []) := ⟨hD4.refVTurned ht5, hR5⟩
      have hL5 := (hL3.keep ht4 (fun k e => hfr'.out k e) (Nat.le_trans ht.size ht3.size)).keep ht5 (fun k e => e.2.1) (Nat.le_trans ht.size (Nat.le_trans ht3.size ht4.size))
      have hT5 : Turned (fun _ => False) w w5 := ((ht.trans (W := fun _ => False) ht3 (fun _ e => e) (fun _ e => e.elim)).trans (W := fun _ => False) ht4 (fun _ e => e) (fun k e => .inr (hfr'.out k e))).trans ht5 (fun _ e => e) (fun k e => .inr e.2.1)
      go_wp2_with fail
      refine (like_any hB5 _ _ _ D hL5).mono ?_
      rintro e w6 ⟨rfl, ht6⟩
      go_wp2_with fail
      refine (awake_any _).mono ?_
      rintro e w7 ⟨rfl, ht7⟩
      go_wp2_with fail
      go_ret
      exact ⟨rfl, (hT5.trans (W := fun _ => False) ht6 (fun _ e => e) (fun _ e => e.elim)).trans (W := fun _ => False) ht7 (fun _ e => e) (fun _ e => e.elim)⟩
theorem diskLives_any (sectors : Int) (L : Option Addr) (n c : Nat) (D : Nat → DoV) (w : World) (hL : DosR w w.heap.size L n D) (hnc : n ≤ c) (hcm : c ≤ maxLen) :
    Calls Try.prog 4 #[.int .i64 sectors, .slice L n c] w (OkNew w) := by
  by_cases hs : 1 ≤ sectors ∧ sectors ≤ 8192
  · by_cases hn : n ≤ 80
    · exact diskLives_few_yes sectors L n c D w hL hnc hcm hn hs
    · exact diskLives_many_yes sectors L n c D w hL hnc hcm (by omega) hs
  · by_cases hn : n ≤ 80
    · exact diskLives_few_no sectors L n c D w hL hnc hcm hn (by omega)
    · exact diskLives_many_no sectors L n c D w hL hnc hcm (by omega) (by omega)
end Go.Proofs.Ytobjoafhhchjgaa
