/-
  MarkLives' walk: whatever masters are written, with crashes and bytes turned, the answers are the same.
-/
import Derived.Test.YtobjoafhhchjgaaLivO
namespace Go.Proofs.Ytobjoafhhchjgaa
open Go.RowKit Go.Maps
set_option linter.unusedVariables false

def MLivesRel (n : Nat) (w : World) (d s o r : Nat) (i : Value) (wr : World) : Prop := ∃ j : Nat, j ≤ n ∧ i = .int .i64 j ∧ (∃ A, Bo wr w.heap.size d s o r A) ∧ Turned (fun _ => False) w wr
def MSecRel (nn : Int) (w : World) (d s o r : Nat) (A : DA) (i : Value) (wr : World) : Prop := ∃ j : Nat, (j : Int) ≤ nn ∧ i = .int .i64 j ∧ Bo wr w.heap.size d s o r A ∧ Turned (fun _ => False) w wr
set_option maxRecDepth 100000 in
set_option maxHeartbeats 2000000 in
theorem markLives_few (sectors : Int) (hsb : -9223372036854775808 ≤ sectors ∧ sectors ≤ 9223372036854775807) (L : Option Addr) (n c : Nat) (X : Nat → DoM) (w : World) (hL : DosM w w.heap.size L n X) (hnc : n ≤ c) (hcm : c ≤ maxLen) (hn : n ≤ 40) :
    Calls Try.prog 11 #[.int .i64 sectors, .slice L n c] w (OkNew w) := by
  unfold maxLen at hcm
  have hz0 : 0 ≤ sectors % 30 := Int.emod_nonneg _ (by omega)
  have hz1 : sectors % 30 < 30 := Int.emod_lt_of_pos _ (by omega)
  have hni : (n : Int) ≤ 40 := by omega
  have hL' := Lib.hid hL
  clear hL
  go_enter Try.func11, Try.ntmps11
  go_wp2_with fail
  refine (pick_to sectors 30 (sectors % 30) _ rfl (by omega) (by omega) hsb.1 hsb.2).mono ?_
  rintro e w0 ⟨rfl, rfl⟩
  generalize sectors % 30 = z at *
  have hz3 : IntKind.i64.wrap (30 + z) = 30 + z := IntWalk.i64_in _ (by omega)
  go_wp2_with fail
  clear hz3
  generalize hnn : 30 + z = nn at *
  have hn0 : 30 ≤ nn := by omega
  have hn1 : nn ≤ 60 := by omega
  clear hnn hz0 hz1
  refine (new_yes nn _ (by omega) (by omega)).mono ?_
  rintro e w1 ⟨d, s, o, rfl, hD1, ht1, hfr, _⟩
  go_wp2_with fail
  refine (rnew_yes nn w.heap.size _ ht1.size (by omega) (by omega)).mono ?_
  rintro e w2 ⟨r, rfl, hR2, ht2⟩
  have hB2 : MLivesRel (n) w d s o r (.int .i64 0) w2 := ⟨0, by omega, rfl, ⟨_, hD1.fresh ht2, ⟨_, _, _, hR2⟩, hfr⟩, ht1.trans (W := fun _ => False) ht2 (fun _ e => e) (fun _ e => e.elim)⟩
  have hB2' := Lib.hid hB2
  clear hD1 ht1 hR2 ht2 hB2 hfr
  go_wp2_with fail
  go_loopw [8] (fun i wr => MLivesRel (n) w d s o r i wr) (fun i _ => n - (intOf i).toNat)
  case atStart => exact hB2'.out
  case round =>
    obtain ⟨j, hj, rfl, ⟨A, hB⟩, ht⟩ := hrel
    clear hB2'
    have hL := hL'.out.keep ht (fun _ e => e.elim) (Nat.le_refl _)
    have hBh := Lib.hid hB
    by_cases hlt : j < n
    · have hji : (j : Int) < ((n : Nat) : Int) := by omega
      have hji2 : (j : Int) < (n : Int) := by omega
      obtain ⟨b, off, rfl, hb, hall⟩ := hL.at_ (by omega)
      have hx := hall j hlt
      have hok := Lib.hid hx.okM
      obtain ⟨p0, p1, p2, p3, p4, p5, p6, p7, _, _, _, _, _, _⟩ := hx
      clear hall hL hB
      by_cases hf : (X j).fn > 1000
      · have hfi : (1000 : Int) < ((X j).fn : Int) := by omega
        clear p0 p1 p2 p3 p4 p5 p7
        go_wp2_with fail
        refine (awake25_any _).mono ?_
        rintro e w3 ⟨rfl, ht3⟩
        go_wp2_with fail
        go_ret
        exact ⟨rfl, ht.trans (W := fun _ => False) ht3 (fun _ e => e) (fun _ e => e.elim)⟩
      · have hfi : ((X j).fn : Int) ≤ 1000 := by omega
        have hstep := Lib.hid (step25_any hBh.out (X j) hok.out)
        clear hf
        generalize hxj : X j = xj at *
        obtain ⟨op, num, ⟨seq, turn, old, mark⟩, byt, F, fn, fc, fs⟩ := xj
        clear hxj
        have hfi : (fn : Int) ≤ 1000 := hfi
        simp only [] at p0 p1 p2 p3 p4 p5 p6 p7
        go_wp2_with fail
        refine hstep.out.mono ?_
        rintro e w3 ⟨rfl, ⟨A3, hB3⟩, ht3⟩
        have hT3 : Turned (fun _ => False) w w3 := ht.trans ht3 (fun _ e => e) (fun k e => .inr e)
        clear p0 p1 p2 p3 p4 p5 p6 p7
        go_wp2_with fail
        refine (read25_any hB3).mono ?_
        rintro e w4 ⟨rfl, ht4⟩
        have hR4 : MLivesRel (n) w d s o r (.int .i64 ((j + 1 : Nat) : Int)) w4 := ⟨j + 1, by omega, rfl, ⟨_, hB3.fresh ht4⟩, hT3.trans (W := fun _ => False) ht4 (fun _ e => e) (fun _ e => e.elim)⟩
        have hR4' := Lib.hid hR4
        clear hR4 hB3 ht3 ht4
        go_wp2_with fail
        go_roundw
        case rel =>
          have hz : Value.int .i64 ((j : Int) + 1) = .int .i64 ((j + 1 : Nat) : Int) := by go_num
          first
          | (rw [hz]; exact hR4'.out)
          | ((repeat apply Exists.intro); exact ⟨by rw [hz]; exact hR4'.out, rfl⟩)
        case measure => simp [intOf]; omega
    · have hge : (n : Int) ≤ (j : Int) := by omega
      have hsz := ht.size
      clear hL hB
      obtain ⟨hDk, ⟨lvk, mk, Xk, hRk⟩, hlow⟩ := hBh.out
      have hlow' := Lib.hid hlow
      have hRk' := Lib.hid hRk
      clear hlow hRk
      go_wp2_with fail
      refine (wake_any d s o A none 0 0 [] _ hDk ⟨rfl, by omega, by simp, fun h => absurd h (by omega)⟩).mono ?_
      rintro e w4 ⟨rfl, hD4, ht4⟩
      have hR4 := hRk'.out.dskTurned hDk ht4
      go_wp2_with fail
      refine (rwake_any hR4 none 0 0 [] (FatesR.none_ _ _)).mono ?_
      rintro e w5 hp5
      obtain ⟨rfl, hR5, ht5⟩ := hp5.weak
      have hB5 : Bo w5 w.heap.size d s o r (A.wake []) := ⟨hD4.refTurned ht5, hR5, hlow'.out⟩
      have hT5 : Turned (fun _ => False) w w5 := (ht.trans (W := fun _ => False) ht4 (fun _ e => e) (fun k e => .inr (hlow'.out k e))).trans ht5 (fun _ e => e) (fun k e => .inr e.1)
      clear hp5 hD4 hR4 ht4 ht5 hR5
      go_wp2_with fail
      refine (read25_any hB5).mono ?_
      rintro e w6 ⟨rfl, ht6⟩
      have hS0 : MSecRel nn w d s o r (A.wake []) (.int .i64 0) w6 := ⟨0, by omega, rfl, hB5.fresh ht6, hT5.trans (W := fun _ => False) ht6 (fun _ e => e) (fun _ e => e.elim)⟩
      have hS0' := Lib.hid hS0
      clear hS0 hB5 hT5 ht6
      go_wp2_with fail
      go_loopw [9, 10, 11, 12, 13] (fun i _ _ _ _ wr => MSecRel nn w d s o r (A.wake []) i wr) (fun i _ _ _ _ _ => nn.toNat - (intOf i).toNat)
      case atStart => exact hS0'.out
      case round =>
        obtain ⟨i, hi, rfl, hB, htt⟩ := hrel
        clear hS0'
        obtain ⟨hDi, ⟨lvi, mi, Xi, hRi⟩, hlowi⟩ := hB
        by_cases hlt2 : (i : Int) < nn
        · go_wp2_with fail
          refine (dread_all hDi i).mono ?_
          rintro e w7 ⟨v7, n7, c7, rfl, hb7, ht7, _, _⟩
          have hD7 := hDi.fresh ht7
          have hR7 := hRi.fresh ht7
          go_wp2_with fail
          refine (rread_all hR7 i).mono ?_
          rintro e w8 ⟨v8, n8, c8, rfl, hb8, ht8, _, _⟩
          have hb78 := hb7.turned ht8 (fun _ _ _ e => e)
          have hD8 := Lib.hid (hD7.fresh ht8)
          have hR8 := Lib.hid (hR7.fresh ht8)
          have hT8 := Lib.hid ((htt.trans (W := fun _ => False) ht7 (fun _ e => e) (fun _ e => e.elim)).trans (W := fun _ => False) ht8 (fun _ e => e) (fun _ e => e.elim))
          clear hD7 hR7 ht7 ht8
          generalize (A.wake []).rCode i = code at *
          go_wp2_with fail
          refine (same_yes _ _ _ _ _ _ _ _ _ hb78.toBytR hb8.toBytR rfl).mono ?_
          rintro e w9 ⟨rfl, n9, rfl⟩
          have hR9 : MSecRel nn w d s o r (A.wake []) (.int .i64 ((i + 1 : Nat) : Int)) (w8.drewN n9) := ⟨i + 1, by omega, rfl, ⟨hD8.out.fresh ((Turned.refl (fun _ => False) w8).drewN n9), ⟨_, _, _, hR8.out.fresh ((Turned.refl (fun _ => False) w8).drewN n9)⟩, hlowi⟩, hT8.out.drewN n9⟩
          have hR9' := Lib.hid hR9
          clear hR9 hb8 hb78 hb7
          go_wp2_with fail
          go_roundw
          case rel =>
            have hz : Value.int .i64 ((i : Int) + 1) = .int .i64 ((i + 1 : Nat) : Int) := by go_num
            first
            | (rw [hz]; exact hR9'.out)
            | ((repeat apply Exists.intro); exact ⟨by rw [hz]; exact hR9'.out, rfl⟩)
          case measure => simp [intOf]; omega
        · have hge2 : nn ≤ (i : Int) := by omega
          go_wp2_with fail
          refine (awake25_any _).mono ?_
          rintro e w7 ⟨rfl, ht7⟩
          go_wp2_with fail
          go_ret
          exact ⟨rfl, htt.trans (W := fun _ => False) ht7 (fun _ e => e) (fun _ e => e.elim)⟩
set_option maxRecDepth 100000 in
set_option maxHeartbeats 2000000 in
theorem markLives_many (sectors : Int) (hsb : -9223372036854775808 ≤ sectors ∧ sectors ≤ 9223372036854775807) (L : Option Addr) (n c : Nat) (X : Nat → DoM) (w : World) (hL : DosM w w.heap.size L n X) (hnc : n ≤ c) (hcm : c ≤ maxLen) (hn : 40 < n) :
    Calls Try.prog 11 #[.int .i64 sectors, .slice L n c] w (OkNew w) := by
  unfold maxLen at hcm
  have hz0 : 0 ≤ sectors % 30 := Int.emod_nonneg _ (by omega)
  have hz1 : sectors % 30 < 30 := Int.emod_lt_of_pos _ (by omega)
  have hni : (40 : Int) < (n : Int) := by omega
  have hci : (40 : Int) ≤ (c : Int) := by omega
  have hL' := Lib.hid (hL.cut (m := 40) (by omega))
  clear hL
  go_enter Try.func11, Try.ntmps11
  go_wp2_with fail
  refine (pick_to sectors 30 (sectors % 30) _ rfl (by omega) (by omega) hsb.1 hsb.2).mono ?_
  rintro e w0 ⟨rfl, rfl⟩
  generalize sectors % 30 = z at *
  have hz3 : IntKind.i64.wrap (30 + z) = 30 + z := IntWalk.i64_in _ (by omega)
  go_wp2_with fail
  clear hz3
  generalize hnn : 30 + z = nn at *
  have hn0 : 30 ≤ nn := by omega
  have hn1 : nn ≤ 60 := by omega
  clear hnn hz0 hz1
  refine (new_yes nn _ (by omega) (by omega)).mono ?_
  rintro e w1 ⟨d, s, o, rfl, hD1, ht1, hfr, _⟩
  go_wp2_with fail
  refine (rnew_yes nn w.heap.size _ ht1.size (by omega) (by omega)).mono ?_
  rintro e w2 ⟨r, rfl, hR2, ht2⟩
  have hB2 : MLivesRel (40) w d s o r (.int .i64 0) w2 := ⟨0, by omega, rfl, ⟨_, hD1.fresh ht2, ⟨_, _, _, hR2⟩, hfr⟩, ht1.trans (W := fun _ => False) ht2 (fun _ e => e) (fun _ e => e.elim)⟩
  have hB2' := Lib.hid hB2
  clear hD1 ht1 hR2 ht2 hB2 hfr
  go_wp2_with fail
  go_loopw [8] (fun i wr => MLivesRel (40) w d s o r i wr) (fun i _ => 40 - (intOf i).toNat)
  case atStart => exact hB2'.out
  case round =>
    obtain ⟨j, hj, rfl, ⟨A, hB⟩, ht⟩ := hrel
    clear hB2'
    have hL := hL'.out.keep ht (fun _ e => e.elim) (Nat.le_refl _)
    have hBh := Lib.hid hB
    by_cases hlt : j < 40
    · have hji : (j : Int) < ((40 : Nat) : Int) := by omega
      have hji2 : (j : Int) < (40 : Int) := by omega
      obtain ⟨b, off, rfl, hb, hall⟩ := hL.at_ (by omega)
      have hx := hall j hlt
      have hok := Lib.hid hx.okM
      obtain ⟨p0, p1, p2, p3, p4, p5, p6, p7, _, _, _, _, _, _⟩ := hx
      clear hall hL hB
      by_cases hf : (X j).fn > 1000
      · have hfi : (1000 : Int) < ((X j).fn : Int) := by omega
        clear p0 p1 p2 p3 p4 p5 p7
        go_wp2_with fail
        refine (awake25_any _).mono ?_
        rintro e w3 ⟨rfl, ht3⟩
        go_wp2_with fail
        go_ret
        exact ⟨rfl, ht.trans (W := fun _ => False) ht3 (fun _ e => e) (fun _ e => e.elim)⟩
      · have hfi : ((X j).fn : Int) ≤ 1000 := by omega
        have hstep := Lib.hid (step25_any hBh.out (X j) hok.out)
        clear hf
        generalize hxj : X j = xj at *
        obtain ⟨op, num, ⟨seq, turn, old, mark⟩, byt, F, fn, fc, fs⟩ := xj
        clear hxj
        have hfi : (fn : Int) ≤ 1000 := hfi
        simp only [] at p0 p1 p2 p3 p4 p5 p6 p7
        go_wp2_with fail
        refine hstep.out.mono ?_
        rintro e w3 ⟨rfl, ⟨A3, hB3⟩, ht3⟩
        have hT3 : Turned (fun _ => False) w w3 := ht.trans ht3 (fun _ e => e) (fun k e => .inr e)
        clear p0 p1 p2 p3 p4 p5 p6 p7
        go_wp2_with fail
        refine (read25_any hB3).mono ?_
        rintro e w4 ⟨rfl, ht4⟩
        have hR4 : MLivesRel (40) w d s o r (.int .i64 ((j + 1 : Nat) : Int)) w4 := ⟨j + 1, by omega, rfl, ⟨_, hB3.fresh ht4⟩, hT3.trans (W := fun _ => False) ht4 (fun _ e => e) (fun _ e => e.elim)⟩
        have hR4' := Lib.hid hR4
        clear hR4 hB3 ht3 ht4
        go_wp2_with fail
        go_roundw
        case rel =>
          have hz : Value.int .i64 ((j : Int) + 1) = .int .i64 ((j + 1 : Nat) : Int) := by go_num
          first
          | (rw [hz]; exact hR4'.out)
          | ((repeat apply Exists.intro); exact ⟨by rw [hz]; exact hR4'.out, rfl⟩)
        case measure => simp [intOf]; omega
    · have hge : (40 : Int) ≤ (j : Int) := by omega
      have hsz := ht.size
      clear hL hB
      obtain ⟨hDk, ⟨lvk, mk, Xk, hRk⟩, hlow⟩ := hBh.out
      have hlow' := Lib.hid hlow
      have hRk' := Lib.hid hRk
      clear hlow hRk
      go_wp2_with fail
      refine (wake_any d s o A none 0 0 [] _ hDk ⟨rfl, by omega, by simp, fun h => absurd h (by omega)⟩).mono ?_
      rintro e w4 ⟨rfl, hD4, ht4⟩
      have hR4 := hRk'.out.dskTurned hDk ht4
      go_wp2_with fail
      refine (rwake_any hR4 none 0 0 [] (FatesR.none_ _ _)).mono ?_
      rintro e w5 hp5
      obtain ⟨rfl, hR5, ht5⟩ := hp5.weak
      have hB5 : Bo w5 w.heap.size d s o r (A.wake []) := ⟨hD4.refTurned ht5, hR5, hlow'.out⟩
      have hT5 : Turned (fun _ => False) w w5 := (ht.trans (W := fun _ => False) ht4 (fun _ e => e) (fun k e => .inr (hlow'.out k e))).trans ht5 (fun _ e => e) (fun k e => .inr e.1)
      clear hp5 hD4 hR4 ht4 ht5 hR5
      go_wp2_with fail
      refine (read25_any hB5).mono ?_
      rintro e w6 ⟨rfl, ht6⟩
      have hS0 : MSecRel nn w d s o r (A.wake []) (.int .i64 0) w6 := ⟨0, by omega, rfl, hB5.fresh ht6, hT5.trans (W := fun _ => False) ht6 (fun _ e => e) (fun _ e => e.elim)⟩
      have hS0' := Lib.hid hS0
      clear hS0 hB5 hT5 ht6
      go_wp2_with fail
      go_loopw [9, 10, 11, 12, 13] (fun i _ _ _ _ wr => MSecRel nn w d s o r (A.wake []) i wr) (fun i _ _ _ _ _ => nn.toNat - (intOf i).toNat)
      case atStart => exact hS0'.out
      case round =>
        obtain ⟨i, hi, rfl, hB, htt⟩ := hrel
        clear hS0'
        obtain ⟨hDi, ⟨lvi, mi, Xi, hRi⟩, hlowi⟩ := hB
        by_cases hlt2 : (i : Int) < nn
        · go_wp2_with fail
          refine (dread_all hDi i).mono ?_
          rintro e w7 ⟨v7, n7, c7, rfl, hb7, ht7, _, _⟩
          have hD7 := hDi.fresh ht7
          have hR7 := hRi.fresh ht7
          go_wp2_with fail
          refine (rread_all hR7 i).mono ?_
          rintro e w8 ⟨v8, n8, c8, rfl, hb8, ht8, _, _⟩
          have hb78 := hb7.turned ht8 (fun _ _ _ e => e)
          have hD8 := Lib.hid (hD7.fresh ht8)
          have hR8 := Lib.hid (hR7.fresh ht8)
          have hT8 := Lib.hid ((htt.trans (W := fun _ => False) ht7 (fun _ e => e) (fun _ e => e.elim)).trans (W := fun _ => False) ht8 (fun _ e => e) (fun _ e => e.elim))
          clear hD7 hR7 ht7 ht8
          generalize (A.wake []).rCode i = code at *
          go_wp2_with fail
          refine (same_yes _ _ _ _ _ _ _ _ _ hb78.toBytR hb8.toBytR rfl).mono ?_
          rintro e w9 ⟨rfl, n9, rfl⟩
          have hR9 : MSecRel nn w d s o r (A.wake []) (.int .i64 ((i + 1 : Nat) : Int)) (w8.drewN n9) := ⟨i + 1, by omega, rfl, ⟨hD8.out.fresh ((Turned.refl (fun _ => False) w8).drewN n9), ⟨_, _, _, hR8.out.fresh ((Turned.refl (fun _ => False) w8).drewN n9)⟩, hlowi⟩, hT8.out.drewN n9⟩
          have hR9' := Lib.hid hR9
          clear hR9 hb8 hb78 hb7
          go_wp2_with fail
          go_roundw
          case rel =>
            have hz : Value.int .i64 ((i : Int) + 1) = .int .i64 ((i + 1 : Nat) : Int) := by go_num
            first
            | (rw [hz]; exact hR9'.out)
            | ((repeat apply Exists.intro); exact ⟨by rw [hz]; exact hR9'.out, rfl⟩)
          case measure => simp [intOf]; omega
        · have hge2 : nn ≤ (i : Int) := by omega
          go_wp2_with fail
          refine (awake25_any _).mono ?_
          rintro e w7 ⟨rfl, ht7⟩
          go_wp2_with fail
          go_ret
          exact ⟨rfl, htt.trans (W := fun _ => False) ht7 (fun _ e => e) (fun _ e => e.elim)⟩
theorem markLives_any (sectors : Int) (L : Option Addr) (n c : Nat) (X : Nat → DoM) (w : World) (hsb : -9223372036854775808 ≤ sectors ∧ sectors ≤ 9223372036854775807) (hL : DosM w w.heap.size L n X) (hnc : n ≤ c) (hcm : c ≤ maxLen) :
    Calls Try.prog 11 #[.int .i64 sectors, .slice L n c] w (OkNew w) := by
  by_cases hn : n ≤ 40
  · exact markLives_few sectors hsb L n c X w hL hnc hcm hn
  · exact markLives_many sectors hsb L n c X w hL hnc hcm (by omega)
end Go.Proofs.Ytobjoafhhchjgaa
