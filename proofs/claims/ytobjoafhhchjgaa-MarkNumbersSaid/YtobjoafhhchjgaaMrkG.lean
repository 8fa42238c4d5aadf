/-
  The masters' awake (the chapter's second example); MarkPlaces, MarkParts: walks.
-/
import Derived.Test.YtobjoafhhchjgaaMrkF
namespace Go.Proofs.Ytobjoafhhchjgaa
open Go.RowKit Go.Maps

def m257 : M4 := ⟨2, 5, 7, 0⟩
theorem m257_ok : m257.Ok := ⟨⟨by decide, by decide⟩, ⟨by decide, by decide⟩, ⟨by decide, by decide⟩, ⟨by decide, by decide⟩⟩
theorem made_calm {N : Int} {A : DA} (h : Made N A) (hN : 40 ≤ N) : Calm A := ⟨by rw [h.n]; exact hN, h.armed, h.down⟩
/-- The disk of the example, behind the second master. -/
theorem aw25 : ∃ A1 A2, fmt (DA.new 40) = (0, A1) ∧ mw A1 m257 = (0, A2) ∧ A2.n = 40 ∧ A2.down = false ∧ mreadUp A2 = (0, m257) ∧ A2.lat 0 = mBytes m257.list ∧ mw A2 ⟨0, 1, 1, 0⟩ = (2, A2) := by
  obtain ⟨A1, h1, hM⟩ := fmt_new 40 (by omega) (by omega)
  have hc := made_calm hM (by omega)
  have hm : m257.may = true := by decide
  refine ⟨A1, _, h1, calm_mw hc m257 hm, hM.n, rfl, ?_, rfl, ?_⟩
  · have e1 : bestAt { A1 with lat := upd A1.lat (m257.seq % 2) (mBytes m257.list), saf := upd A1.lat (m257.seq % 2) (mBytes m257.list), opn := fun _ => false, armed := 0, down := false } 1 = m257 := by
      show rdAt (mBytes m257.list) 0 M4.zero = m257
      unfold rdAt
      rw [rdOk_bytes m257 hm]
      rfl
    have e2 : bestAt { A1 with lat := upd A1.lat (m257.seq % 2) (mBytes m257.list), saf := upd A1.lat (m257.seq % 2) (mBytes m257.list), opn := fun _ => false, armed := 0, down := false } 2 = m257 := by
      show rdAt (A1.lat 1) 1 (bestAt _ 1) = m257
      rw [e1, hM.one]
      unfold rdAt
      rw [rdOk_bytes mOne (by decide)]
      rfl
    unfold mreadUp
    rw [e2]
    rfl
  · unfold mw
    rw [if_neg (by show ¬ A1.n < 40; rw [hM.n]; omega), if_neg (by decide)]

set_option maxRecDepth 100000 in
set_option maxHeartbeats 2000000 in
theorem awake25_any (w : World) : Calls Try.prog 35 #[] w (OkNew w) := by
  obtain ⟨A1, A2, hf1, hw2, hn2, hd2, hr2, hl2, hw3⟩ := aw25
  have H1 := Lib.hid hf1
  have H2 := Lib.hid hw2
  have H3 := Lib.hid hr2
  have H4 := Lib.hid hl2
  have H5 := Lib.hid hw3
  have H6 := Lib.hid (And.intro hn2 hd2)
  clear hf1 hw2 hr2 hl2 hw3 hn2 hd2
  go_enter Try.func35, Try.ntmps35
  go_wp2_with fail
  refine (new_yes 40 _ (by omega) (by omega)).mono ?_
  rintro e w1 ⟨d, s, o, rfl, hD1, ht1, hfr, _⟩
  have hfr' := Lib.hid hfr
  clear hfr
  go_wp2_with fail
  refine (mformat_all hD1).mono ?_
  rintro e w2 ⟨he, hD2, ht2⟩
  rw [H1.out] at he hD2
  subst he
  have hT2 := ht1.trans (W := fun _ => False) ht2 (fun _ h => h) (fun i hi => .inr (hfr'.out i hi))
  clear hD1 ht1 ht2
  go_wp2_with fail
  refine (mwrite_all hD2 m257 m257_ok).mono ?_
  rintro e w3 ⟨he, hD3, ht3⟩
  rw [H2.out] at he hD3
  subst he
  have hT3 := hT2.trans (W := fun _ => False) ht3 (fun _ h => h) (fun i hi => .inr (hfr'.out i hi))
  clear hD2 ht3 hT2
  go_wp2_with fail
  refine (mread_up hD3 (by rw [H6.out.1]; omega) H6.out.2).mono ?_
  rintro e w4 ⟨he, ht4⟩
  rw [H3.out] at he
  subst he
  have hD4 := hD3.fresh ht4
  have hT4 := hT3.trans (W := fun _ => False) ht4 (fun _ h => h) (fun _ h => h.elim)
  clear hD3 ht4 hT3
  unfold m257
  go_wp2_with fail
  have hx5 := Blk.new w4 59 #[.int .i64 2, .int .i64 5, .int .i64 7, .int .i64 0]
  have hta := (Turned.refl (fun _ => False) w4).alloc (.cells #[.int .i64 2, .int .i64 5, .int .i64 7, .int .i64 0] 59)
  have hD5 := hD4.fresh hta
  have hT5 := hT4.alloc (.cells #[.int .i64 2, .int .i64 5, .int .i64 7, .int .i64 0] 59)
  clear hD4 hT4 hta
  refine (read_to d s o _ 0 (mBytes m257.list) _ hD5 H6.out.2 (by omega) (by rw [H6.out.1]; omega) H4.out).mono ?_
  rintro e w6 ⟨g6, c6, rfl, hr6, hg6, ht6⟩
  have hD6 := hD5.fresh ht6
  have hx6 := hx5.turned ht6 (fun e => e)
  have hT6 := hT5.trans (W := fun _ => False) ht6 (fun _ h => h) (fun _ h => h.elim)
  clear hD5 hx5 ht6 hT5 hg6
  go_wp2_with fail
  refine (place_yes 100 _ (by omega) (by omega)).mono ?_
  rintro e w7 ⟨he, rfl⟩
  have he' : e = .returned (.tuple #[.int .i64 2, .int .i64 73, .int .i64 75, .int .i64 25]) := he
  subst he'
  clear he
  obtain ⟨q0, q1, q2, q3⟩ := m4_cells hx6
  go_wp2_with fail
  refine (of_any m257 _).mono ?_
  rintro e w8 ⟨rfl, ht8⟩
  have hD8 := hD6.fresh ht8
  have hr8 := hr6.turned ht8 (fun e => e)
  have hT8 := hT6.trans (W := fun _ => False) ht8 (fun _ h => h) (fun _ h => h.elim)
  clear hD6 hr6 ht8 hT6 q0 q1 q2 q3 hx6
  unfold m257
  go_wp2_with fail
  refine (rbytes_any m257 m257_ok _).mono ?_
  rintro e w9 ⟨g9, c9, rfl, hr9, hg9, ht9⟩
  have hD9 := hD8.fresh ht9
  have hr89 := hr8.turned ht9 (fun e => e)
  have hT9 := hT8.trans (W := fun _ => False) ht9 (fun _ h => h) (fun _ h => h.elim)
  clear hD8 hr8 ht9 hT8 hg9
  go_wp2_with fail
  refine (same_yes _ _ 512 512 _ _ _ _ _ hr89.bytR hr9.bytR rfl).mono ?_
  rintro e w10 ⟨rfl, n10, rfl⟩
  have hD10 := hD9.fresh ((Turned.refl (fun _ => False) w9).drewN n10)
  go_wp2_with fail
  refine (mwrite_all hD10 ⟨0, 1, 1, 0⟩ ⟨⟨by decide, by decide⟩, ⟨by decide, by decide⟩, ⟨by decide, by decide⟩, ⟨by decide, by decide⟩⟩).mono ?_
  rintro e w11 ⟨he, hD11, ht11⟩
  rw [H5.out] at he hD11
  subst he
  have hT11 := (hT9.drewN n10).trans (W := fun _ => False) ht11 (fun _ h => h) (fun i hi => .inr (hfr'.out i hi))
  go_wp2_with fail
  go_ret
  exact ⟨rfl, hT11⟩

set_option maxRecDepth 100000 in
theorem markPlaces_any (n : Int) (w : World) : Calls Try.prog 8 #[.int .i64 n] w (OkNew w) := by
  by_cases h : 40 ≤ n ∧ n ≤ 8192
  · have H1 := Lib.hid (place_yes n w h.1 h.2)
    have H2 := Lib.hid (rplace_yes n w h.1 h.2)
    generalize n - placeC n - 2 = b at *
    generalize n - placeC n = c at *
    generalize placeC n = k at *
    go_enter Try.func8, Try.ntmps8
    go_wp2_with fail
    refine H1.out.mono ?_
    rintro e w1 ⟨rfl, rfl⟩
    go_wp2_with fail
    refine H2.out.mono ?_
    rintro e w1 ⟨rfl, rfl⟩
    go_wp2_with fail
    refine (awake25_any _).mono ?_
    rintro e w2 ⟨rfl, ht⟩
    go_wp2_with fail
    go_ret
    exact ⟨rfl, ht⟩
  · go_enter Try.func8, Try.ntmps8
    go_wp2_with fail
    refine (place_no n _ (by omega)).mono ?_
    rintro e w1 ⟨rfl, rfl⟩
    go_wp2_with fail
    refine (rplace_no n _ (by omega)).mono ?_
    rintro e w1 ⟨rfl, rfl⟩
    go_wp2_with fail
    refine (awake25_any _).mono ?_
    rintro e w2 ⟨rfl, ht⟩
    go_wp2_with fail
    go_ret
    exact ⟨rfl, ht⟩

theorem placeC_facts (n : Int) (h1 : 40 ≤ n) : 12 ≤ placeC n ∧ 26 ≤ n - placeC n - 2 ∧ placeC n ≤ n := by
  unfold placeC
  split <;> omega
theorem placeC_mono (n m : Int) (h1 : n ≤ m) : placeC n ≤ placeC m ∧ n - placeC n ≤ m - placeC m := by
  unfold placeC
  split <;> split <;> omega
set_option maxRecDepth 100000 in
theorem markParts_any (n m : Int) (w : World) (hn : -9223372036854775808 ≤ n ∧ n ≤ 9223372036854775807) (hm : -9223372036854775808 ≤ m ∧ m ≤ 9223372036854775807) :
    Calls Try.prog 10 #[.int .i64 n, .int .i64 m] w (OkNew w) := by
  have a0 := Int.emod_nonneg n (show (8153 : Int) ≠ 0 by omega)
  have a1 := Int.emod_lt_of_pos n (show (0 : Int) < 8153 by omega)
  have b0 := Int.emod_nonneg m (show (8153 : Int) ≠ 0 by omega)
  have b1 := Int.emod_lt_of_pos m (show (0 : Int) < 8153 by omega)
  have P1 := Lib.hid (fun w => pick_any n 8153 w (by omega) (by omega) hn.1 hn.2)
  have P2 := Lib.hid (fun w => pick_any m 8153 w (by omega) (by omega) hm.1 hm.2)
  generalize hx : 40 + n % 8153 = x
  generalize hy : 40 + m % 8153 = y
  have x0 : 40 ≤ x := by omega
  have x1 : x ≤ 8192 := by omega
  have y0 : 40 ≤ y := by omega
  have y1 : y ≤ 8192 := by omega
  have F1 := placeC_facts x x0
  obtain ⟨z, hz⟩ : ∃ z, z = max x y := ⟨_, rfl⟩
  have z0 : x ≤ z := by omega
  have z1 : z ≤ 8192 := by omega
  have F2 := placeC_mono x z z0
  have Q1 := Lib.hid (fun w => place_yes x w x0 x1)
  have Q2 := Lib.hid (fun w => place_yes z w (by omega) z1)
  have hx' := Lib.hid hx
  have hy' := Lib.hid hy
  have hz' := Lib.hid hz
  have g1 : 26 ≤ x - placeC x - 2 := F1.2.1
  have g2 : 12 ≤ placeC x := F1.1
  have g3 : x - placeC x - 2 ≤ z - placeC z - 2 := by omega
  have g4 : placeC x ≤ placeC z := F2.1
  have b1 : (x - placeC x == 2 + (x - placeC x - 2)) = true := by rw [beq_iff_eq]; omega
  have b2 : (x - placeC x + placeC x == x) = true := by rw [beq_iff_eq]; omega
  have g5 : x - placeC x ≤ 8192 := by omega
  have g6 : 0 ≤ x - placeC x := by omega
  have g7 : x - placeC x - 2 ≤ 8192 := by omega
  have g8 : z - placeC z - 2 ≤ 8192 := by omega
  have g9 : placeC x ≤ 8192 := by omega
  have g10 : placeC z ≤ 8192 := by unfold placeC; split <;> omega
  clear hx hy hz F1 F2 hn hm
  generalize x - placeC x - 2 = b at *
  generalize x - placeC x = c at *
  generalize z - placeC z - 2 = b' at *
  generalize z - placeC z = c' at *
  generalize placeC x = k at *
  generalize placeC z = l at *
  go_enter Try.func10, Try.ntmps10
  go_wp2_with fail
  refine (awake25_any _).mono ?_
  rintro e w1 ⟨rfl, ht⟩
  go_wp2_with fail
  refine (P1.out _).mono ?_
  rintro e w2 ⟨rfl, rfl⟩
  go_wp2_with fail
  refine (P2.out _).mono ?_
  rintro e w2 ⟨rfl, rfl⟩
  go_wp2_with fail
  rw [hx'.out]
  refine (Q1.out _).mono ?_
  rintro e w2 ⟨rfl, rfl⟩
  go_wp2_with fail
  rw [hy'.out, ← hz'.out]
  refine (Q2.out _).mono ?_
  rintro e w2 ⟨rfl, rfl⟩
  go_wp2_with fail
  go_ret
  refine ⟨ret_bool ?_, ht⟩
  simp
end Go.Proofs.Ytobjoafhhchjgaa
