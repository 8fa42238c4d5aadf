/-
  ApartBytes over rows that lie apart: true; of what was there only the rows themselves turn.
-/
import Derived.Test.YtgglkcikimmhfaaGreatDoorApP
import Derived.Test.YtgglkcikimmhfaaGreatDoorFlt
namespace Go.Proofs.YtgglkcikimmhfaaGreatDoor
open Go.RowKit Go.Maps
set_option linter.unusedVariables false

set_option maxRecDepth 100000 in
set_option maxHeartbeats 4000000 in
theorem apartB_any (b L N cL : Nat) (A : Nat → Option Addr) (n c : Nat → Nat) (Z : Nat → List Int) (w : World) (hb : Blk w b 84 (bagB (.slice (some ⟨L, 0, none⟩) N cL))) (h : Fl w L N A n c Z) (h0 : 1 ≤ N) (hN : N ≤ 100) (hn : ∀ k, k < N → n k ≤ 1000000) :
    Calls Tryz.prog 34 #[.pointer (some ⟨b, 0, none⟩)] w (fun e w' => e = .returned (.bool true) ∧ Turned (FlW N A) w w') := by
  have hb0 := Lib.hid hb
  have hF := Lib.hid h
  have hn' := Lib.hid hn
  have hT0 := Lib.hid (Turned.refl (FlW N A) w)
  have q0 : w.cell? ⟨b, 0, none⟩ = some (.slice none 0 0) := hb.cell 0
  clear hb h hn
  go_enter Tryz.func34, Tryz.ntmps34
  go_wp2_with fail
  refine (flatWords_nil _).mono ?_
  rintro e w1 ⟨rfl, ht1⟩
  have hb1 := Lib.hid (hb0.out.turned ht1 (fun e => e))
  have hT1 := Lib.hid (hT0.out.trans (W := FlW N A) ht1 (fun _ e => e) (fun _ e => e.elim))
  have hS1 := Lib.hid ((Turned.refl (fun _ => False) w).trans (W := fun _ => False) ht1 (fun _ e => e) (fun _ e => e.elim))
  have q1 : w1.cell? ⟨b, 1, none⟩ = some (.slice none 0 0) := hb1.out.cell 1
  clear ht1 q0 hb0 hT0
  go_wp2_with fail
  refine (flatInts_nil _).mono ?_
  rintro e w2 ⟨rfl, ht2⟩
  have hb2 := Lib.hid (hb1.out.turned ht2 (fun e => e))
  have hT2 := Lib.hid (hT1.out.trans (W := FlW N A) ht2 (fun _ e => e) (fun _ e => e.elim))
  have hS2 := Lib.hid (hS1.out.trans (W := fun _ => False) ht2 (fun _ e => e) (fun _ e => e.elim))
  have q2 : w2.cell? ⟨b, 2, none⟩ = some (.slice none 0 0) := hb2.out.cell 2
  clear ht2 q1 hb1 hT1 hS1
  go_wp2_with fail
  refine (flatLongs_nil _).mono ?_
  rintro e w3 ⟨rfl, ht3⟩
  have hb3 := Lib.hid (hb2.out.turned ht3 (fun e => e))
  have hT3 := Lib.hid (hT2.out.trans (W := FlW N A) ht3 (fun _ e => e) (fun _ e => e.elim))
  have hS3 := Lib.hid (hS2.out.trans (W := fun _ => False) ht3 (fun _ e => e) (fun _ e => e.elim))
  have q3 : w3.cell? ⟨b, 3, none⟩ = some (.slice none 0 0) := hb3.out.cell 3
  clear ht3 q2 hb2 hT2 hS2
  go_wp2_with fail
  refine (flatTexts_nil _).mono ?_
  rintro e w4 ⟨rfl, ht4⟩
  have hb4 := Lib.hid (hb3.out.turned ht4 (fun e => e))
  have hT4 := Lib.hid (hT3.out.trans (W := FlW N A) ht4 (fun _ e => e) (fun _ e => e.elim))
  have hS4 := Lib.hid (hS3.out.trans (W := fun _ => False) ht4 (fun _ e => e) (fun _ e => e.elim))
  have q4 : w4.cell? ⟨b, 4, none⟩ = some (.slice (some ⟨L, 0, none⟩) N cL) := hb4.out.cell 4
  clear ht4 q3 hb3 hT3 hS3
  go_wp2_with fail
  refine (flatBytes_any L N cL A n c Z _ (hF.out.fresh hS4.out) h0 hN hn'.out).mono ?_
  rintro e w5 ⟨rfl, ht5⟩
  have hbA : ¬ FlW N A b := by
    rintro ⟨k, hk, e⟩
    exact ((hF.out.fresh hS4.out).own k hk).blk hb4.out (by decide) e rfl
  have hb5 := Lib.hid (hb4.out.turned ht5 hbA)
  have hT5 := Lib.hid (hT4.out.trans (W := FlW N A) ht5 (fun _ e => e) (fun _ e => .inl e))
  have q5 : w5.cell? ⟨b, 5, none⟩ = some (.slice none 0 0) := hb5.out.cell 5
  clear ht5 hbA q4 hb4 hT4 hS4 hF
  go_wp2_with fail
  refine (flatWindows_nil _).mono ?_
  rintro e w6 ⟨rfl, ht6⟩
  have hb6 := Lib.hid (hb5.out.turned ht6 (fun e => e))
  have hT6 := Lib.hid (hT5.out.trans (W := FlW N A) ht6 (fun _ e => e) (fun _ e => e.elim))
  have q6 : w6.cell? ⟨b, 6, none⟩ = some (.slice none 0 0) := hb6.out.cell 6
  clear ht6 q5 hb5 hT5
  go_wp2_with fail
  refine (flatLots_nil _).mono ?_
  rintro e w7 ⟨rfl, ht7⟩
  have hb7 := Lib.hid (hb6.out.turned ht7 (fun e => e))
  have hT7 := Lib.hid (hT6.out.trans (W := FlW N A) ht7 (fun _ e => e) (fun _ e => e.elim))
  have q7 : w7.cell? ⟨b, 7, none⟩ = some (.slice none 0 0) := hb7.out.cell 7
  clear ht7 q6 hb6 hT6
  go_wp2_with fail
  refine (flatWants_nil _).mono ?_
  rintro e w8 ⟨rfl, ht8⟩
  have hb8 := Lib.hid (hb7.out.turned ht8 (fun e => e))
  have hT8 := Lib.hid (hT7.out.trans (W := FlW N A) ht8 (fun _ e => e) (fun _ e => e.elim))
  have q8 : w8.cell? ⟨b, 8, none⟩ = some (.slice none 0 0) := hb8.out.cell 8
  clear ht8 q7 hb7 hT7
  go_wp2_with fail
  refine (flatUses_nil _).mono ?_
  rintro e w9 ⟨rfl, ht9⟩
  have hb9 := Lib.hid (hb8.out.turned ht9 (fun e => e))
  have hT9 := Lib.hid (hT8.out.trans (W := FlW N A) ht9 (fun _ e => e) (fun _ e => e.elim))
  have q9 : w9.cell? ⟨b, 9, none⟩ = some (.slice none 0 0) := hb9.out.cell 9
  clear ht9 q8 hb8 hT8
  go_wp2_with fail
  refine (flatParts_nil _).mono ?_
  rintro e w10 ⟨rfl, ht10⟩
  have hb10 := Lib.hid (hb9.out.turned ht10 (fun e => e))
  have hT10 := Lib.hid (hT9.out.trans (W := FlW N A) ht10 (fun _ e => e) (fun _ e => e.elim))
  have q10 : w10.cell? ⟨b, 10, none⟩ = some (.slice none 0 0) := hb10.out.cell 10
  clear ht10 q9 hb9 hT9
  go_wp2_with fail
  refine (flatItems_nil _).mono ?_
  rintro e w11 ⟨rfl, ht11⟩
  have hb11 := Lib.hid (hb10.out.turned ht11 (fun e => e))
  have hT11 := Lib.hid (hT10.out.trans (W := FlW N A) ht11 (fun _ e => e) (fun _ e => e.elim))
  have q11 : w11.cell? ⟨b, 11, none⟩ = some (.slice none 0 0) := hb11.out.cell 11
  clear ht11 q10 hb10 hT10
  go_wp2_with fail
  refine (flatLines_nil _).mono ?_
  rintro e w12 ⟨rfl, ht12⟩
  have hb12 := Lib.hid (hb11.out.turned ht12 (fun e => e))
  have hT12 := Lib.hid (hT11.out.trans (W := FlW N A) ht12 (fun _ e => e) (fun _ e => e.elim))
  have q12 : w12.cell? ⟨b, 12, none⟩ = some (.slice none 0 0) := hb12.out.cell 12
  clear ht12 q11 hb11 hT11
  go_wp2_with fail
  refine (flatAsks_nil _).mono ?_
  rintro e w13 ⟨rfl, ht13⟩
  have hb13 := Lib.hid (hb12.out.turned ht13 (fun e => e))
  have hT13 := Lib.hid (hT12.out.trans (W := FlW N A) ht13 (fun _ e => e) (fun _ e => e.elim))
  have q13 : w13.cell? ⟨b, 13, none⟩ = some (.slice none 0 0) := hb13.out.cell 13
  clear ht13 q12 hb12 hT12
  go_wp2_with fail
  refine (flatTells_nil _).mono ?_
  rintro e w14 ⟨rfl, ht14⟩
  have hb14 := Lib.hid (hb13.out.turned ht14 (fun e => e))
  have hT14 := Lib.hid (hT13.out.trans (W := FlW N A) ht14 (fun _ e => e) (fun _ e => e.elim))
  have q14 : w14.cell? ⟨b, 14, none⟩ = some (.slice none 0 0) := hb14.out.cell 14
  clear ht14 q13 hb13 hT13
  go_wp2_with fail
  refine (flatStates_nil _).mono ?_
  rintro e w15 ⟨rfl, ht15⟩
  have hb15 := Lib.hid (hb14.out.turned ht15 (fun e => e))
  have hT15 := Lib.hid (hT14.out.trans (W := FlW N A) ht15 (fun _ e => e) (fun _ e => e.elim))
  have q15 : w15.cell? ⟨b, 15, none⟩ = some (.slice none 0 0) := hb15.out.cell 15
  clear ht15 q14 hb14 hT14
  go_wp2_with fail
  refine (flatRows_nil _).mono ?_
  rintro e w16 ⟨rfl, ht16⟩
  have hb16 := Lib.hid (hb15.out.turned ht16 (fun e => e))
  have hT16 := Lib.hid (hT15.out.trans (W := FlW N A) ht16 (fun _ e => e) (fun _ e => e.elim))
  have q16 : w16.cell? ⟨b, 16, none⟩ = some (.slice none 0 0) := hb16.out.cell 16
  clear ht16 q15 hb15 hT15
  go_wp2_with fail
  refine (flatTurns_nil _).mono ?_
  rintro e w17 ⟨rfl, ht17⟩
  have hb17 := Lib.hid (hb16.out.turned ht17 (fun e => e))
  have hT17 := Lib.hid (hT16.out.trans (W := FlW N A) ht17 (fun _ e => e) (fun _ e => e.elim))
  have q17 : w17.cell? ⟨b, 17, none⟩ = some (.slice none 0 0) := hb17.out.cell 17
  clear ht17 q16 hb16 hT16
  go_wp2_with fail
  refine (flatFates_nil _).mono ?_
  rintro e w18 ⟨rfl, ht18⟩
  have hb18 := Lib.hid (hb17.out.turned ht18 (fun e => e))
  have hT18 := Lib.hid (hT17.out.trans (W := FlW N A) ht18 (fun _ e => e) (fun _ e => e.elim))
  have q18 : w18.cell? ⟨b, 18, none⟩ = some (.slice none 0 0) := hb18.out.cell 18
  clear ht18 q17 hb17 hT17
  go_wp2_with fail
  refine (flatDirties_nil _).mono ?_
  rintro e w19 ⟨rfl, ht19⟩
  have hb19 := Lib.hid (hb18.out.turned ht19 (fun e => e))
  have hT19 := Lib.hid (hT18.out.trans (W := FlW N A) ht19 (fun _ e => e) (fun _ e => e.elim))
  have q19 : w19.cell? ⟨b, 19, none⟩ = some (.slice none 0 0) := hb19.out.cell 19
  clear ht19 q18 hb18 hT18
  go_wp2_with fail
  refine (flatOpens_nil _).mono ?_
  rintro e w20 ⟨rfl, ht20⟩
  have hb20 := Lib.hid (hb19.out.turned ht20 (fun e => e))
  have hT20 := Lib.hid (hT19.out.trans (W := FlW N A) ht20 (fun _ e => e) (fun _ e => e.elim))
  have q20 : w20.cell? ⟨b, 20, none⟩ = some (.slice none 0 0) := hb20.out.cell 20
  clear ht20 q19 hb19 hT19
  go_wp2_with fail
  refine (flatRecords_nil _).mono ?_
  rintro e w21 ⟨rfl, ht21⟩
  have hb21 := Lib.hid (hb20.out.turned ht21 (fun e => e))
  have hT21 := Lib.hid (hT20.out.trans (W := FlW N A) ht21 (fun _ e => e) (fun _ e => e.elim))
  have q21 : w21.cell? ⟨b, 21, none⟩ = some (.slice none 0 0) := hb21.out.cell 21
  clear ht21 q20 hb20 hT20
  go_wp2_with fail
  refine (flatSteps_nil _).mono ?_
  rintro e w22 ⟨rfl, ht22⟩
  have hb22 := Lib.hid (hb21.out.turned ht22 (fun e => e))
  have hT22 := Lib.hid (hT21.out.trans (W := FlW N A) ht22 (fun _ e => e) (fun _ e => e.elim))
  have q22 : w22.cell? ⟨b, 22, none⟩ = some (.slice none 0 0) := hb22.out.cell 22
  clear ht22 q21 hb21 hT21
  go_wp2_with fail
  refine (flatTales_nil _).mono ?_
  rintro e w23 ⟨rfl, ht23⟩
  have hb23 := Lib.hid (hb22.out.turned ht23 (fun e => e))
  have hT23 := Lib.hid (hT22.out.trans (W := FlW N A) ht23 (fun _ e => e) (fun _ e => e.elim))
  clear ht23 q22 hb22 hT22
  go_wp2_with fail
  go_ret
  exact ⟨rfl, hT23.out⟩

def rowsV (A : Nat → Option Addr) (n c : Nat → Nat) (k : Nat) : List Value := (List.range k).map fun j => .slice (A j) (n j) (c j)
def AptRel (w : World) (b N : Nat) (A : Nat → Option Addr) (n c : Nat → Nat) (i : Value) (wr : World) : Prop := ∃ k : Nat, k ≤ N ∧ i = .int .i64 k ∧ ∃ v, Blk wr b 84 (bagB v) ∧ wr.ownsRow w.heap.size 22 1 v k (rowsV A n c k) ∧ Turned (fun _ => False) w wr
theorem rowsV_succ (A : Nat → Option Addr) (n c : Nat → Nat) (k : Nat) : rowsV A n c (k + 1) = rowsV A n c k ++ [.slice (A k) (n k) (c k)] := by simp [rowsV, List.range_succ]
theorem rowsV_get (A : Nat → Option Addr) (n c : Nat → Nat) (N k : Nat) (h : k < N) : (rowsV A n c N)[k]? = some (.slice (A k) (n k) (c k)) := by simp [rowsV, h]

set_option maxRecDepth 100000 in
set_option maxHeartbeats 1000000 in
theorem apartBytes_any (L0 o0 N c0 : Nat) (A : Nat → Option Addr) (n c : Nat → Nat) (Z : Nat → List Int) (w : World) (hc : ∀ k, k < N → w.cell? ⟨L0, o0 + k, none⟩ = some (.slice (A k) (n k) (c k))) (hown : ∀ k, k < N → OwnV w (A k) (n k) (c k) (Z k))
    (hap : ∀ j k, j < N → k < N → j ≠ k → ∀ g, A j = some ⟨g, 0, none⟩ → A k ≠ some ⟨g, 0, none⟩) (h0 : 1 ≤ N) (hN : N ≤ 100) (hn : ∀ k, k < N → n k ≤ 1000000) :
    Calls Tryz.prog 22 #[.slice (some ⟨L0, o0, none⟩) N c0] w (fun e w' => e = .returned (.bool true) ∧ Turned (FlW N A) w w') := by
  have hc' := Lib.hid hc
  have hown' := Lib.hid hown
  have hap' := Lib.hid hap
  have hn' := Lib.hid hn
  clear hc hown hap hn
  go_enter Tryz.func22, Tryz.ntmps22
  go_wp2
  go_loopw [4] (fun i wr => AptRel w w.heap.size N A n c i wr) (fun i _ => N - (intOf i).toNat)
  case atStart => exact ⟨0, by omega, rfl, .slice none 0 0, Blk.new _ _ _, World.ownsRow_nil _ _ _ _, (Turned.refl _ w).alloc _⟩
  case round =>
    obtain ⟨k, hk, rfl, v, hb, ho, hT⟩ := hrel
    by_cases hlt : k < N
    · have hki : (k : Int) < (N : Int) := by omega
      have q1 := cell_turned hT (hc'.out k hlt) (fun e => e)
      have hb' := Lib.hid hb
      have ho' := Lib.hid ho
      have hT' := Lib.hid hT
      clear hb ho hT
      go_wp2_with (go_at_call 33; refine (putB_any w.heap.size w.heap.size k v (rowsV A n c k) (A k) (n k) (c k) _ hb'.out (Nat.le_refl _) ho'.out (by omega)).mono ?_; rintro e w2 ⟨h2, cap2, rfl, hb2, ho2, hT2⟩)
      have hR : AptRel w w.heap.size N A n c (.int .i64 ((k + 1 : Nat) : Int)) w2 := ⟨k + 1, by omega, rfl, _, hb2, by rw [rowsV_succ]; exact ho2, hT'.out.trans (W := fun _ => False) hT2 (fun _ e => e) (fun _ e => .inr e)⟩
      have hR' := Lib.hid hR
      clear hR hb2 ho2 hT2
      go_roundw
      case rel =>
        have hz : Value.int .i64 ((k : Int) + 1) = .int .i64 ((k + 1 : Nat) : Int) := by go_num
        first
        | (rw [hz]; exact hR'.out)
        | ((repeat apply Exists.intro); exact ⟨by rw [hz]; exact hR'.out, rfl⟩)
      case measure => simp [intOf]; omega
    · have hkN : N = k := by omega
      subst hkN
      have hge : (N : Int) ≤ (N : Int) := Int.le_refl _
      obtain ⟨h, cap, rfl, hbase, hlt2⟩ := ho.form (by omega)
      have hF : Fl wr h N A n c Z := by
        refine ⟨?_, fun k hk => (hown'.out k hk).turned hT (fun _ _ e => e), hap'.out⟩
        rcases ho.2 with ⟨e, _⟩ | ⟨g, cap2, cur, e, _, h2, _, _, hs, htk⟩
        · cases e
        · injection e with e1 e2 e3
          injection e1 with e1
          injection e1 with e1
          subst e1
          refine ⟨cur, h2, fun k hk => ?_⟩
          have := rowsV_get A n c N k hk
          rw [← htk, List.getElem?_take] at this
          rw [if_pos (by omega)] at this
          simpa using this
      have hb' := Lib.hid hb
      have hF' := Lib.hid hF
      have hT' := Lib.hid hT
      clear hb ho hF hT
      go_wp2_with (go_at_call 34; refine (apartB_any w.heap.size h N cap A n c Z _ hb'.out hF'.out h0 hN hn'.out).mono ?_; rintro e w2 ⟨rfl, hT2⟩)
      go_ret
      exact ⟨rfl, (hT'.out.mono (fun _ e => e.elim)).trans (W := FlW N A) hT2 (fun _ e => e) (fun _ e => .inl e)⟩
end Go.Proofs.YtgglkcikimmhfaaGreatDoor
