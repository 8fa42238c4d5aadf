/-
  bag.apart where four lists hold rows. No condition but numbers.
-/
import Derived.Test.YtohajofkflibjaaGreatDoorBag
import Derived.Test.YtohajofkflibjaaGreatDoorFlt
import Derived.Test.YtohajofkflibjaaGreatDoorFlP
import Derived.Test.YtohajofkflibjaaGreatDoorFlR
namespace Go.Proofs.YtohajofkflibjaaGreatDoor
open Go.RowKit Go.Maps
set_option linter.unusedVariables false

theorem FlE.off {T q SL : Nat} {w : World} {L N : Nat} {A : Nat → Option Addr} {n c : Nat → Nat} {Z : Nat → List Value} (h : FlE T q SL w L N A n c Z) {g U : Nat} {cs : Array Value} (hb : Blk w g U cs) (hU : U ≠ T) : ¬ FlEW N A g := fun ⟨k, hk, e⟩ => (h.own k hk).blk hb hU e rfl
theorem Fl.off {w : World} {L N : Nat} {A : Nat → Option Addr} {n c : Nat → Nat} {Z : Nat → List Int} (h : Fl w L N A n c Z) {g U : Nat} {cs : Array Value} (hb : Blk w g U cs) (hU : U ≠ 5) : ¬ FlW N A g := fun ⟨k, hk, e⟩ => (h.own k hk).blk hb hU e rfl
theorem FlE.past {T q SL : Nat} {w w' : World} {L N : Nat} {A : Nat → Option Addr} {n c : Nat → Nat} {Z : Nat → List Value} {W : Nat → Prop} (h : FlE T q SL w L N A n c Z) (ht : Turned W w w') (hW : ∀ (g U : Nat) (cs : Array Value), Blk w g U cs → U = T ∨ U = SL → ¬ W g) : FlE T q SL w' L N A n c Z := by
  refine h.turned ht ?_ (fun k g hk e => ?_)
  · obtain ⟨cs, hb, _⟩ := h.cells
    exact hW _ _ _ hb (.inr rfl)
  · have ho := h.own k hk
    rw [e] at ho
    obtain ⟨cs, hb, _⟩ := ho.row.row
    exact hW _ _ _ hb (.inl rfl)
set_option maxRecDepth 100000 in
set_option maxHeartbeats 4000000 in
theorem apart4_any (b : Nat) (LB NB dB : Nat) (AB : Nat → Option Addr) (nB cB : Nat → Nat) (ZB : Nat → List Int) (LD ND dD : Nat) (AD : Nat → Option Addr) (nD cD : Nat → Nat) (ZD : Nat → List Value) (LO NO dO : Nat) (AO : Nat → Option Addr) (nO cO : Nat → Nat) (ZO : Nat → List Value) (LR NR dR : Nat) (AR : Nat → Option Addr) (nR cR : Nat → Nat) (ZR : Nat → List Value) (w : World) (hb : Blk w b 105 (bag4 (.slice (some ⟨LB, 0, none⟩) NB dB) (.slice (some ⟨LD, 0, none⟩) ND dD) (.slice (some ⟨LO, 0, none⟩) NO dO) (.slice (some ⟨LR, 0, none⟩) NR dR)))
    (hB : Fl w LB NB AB nB cB ZB) (pB : 1 ≤ NB) (mB : NB ≤ 100) (fB : ∀ k, k < NB → nB k ≤ 1000000) (hD : FlE 52 2 26 w LD ND AD nD cD ZD) (pD : 1 ≤ ND) (mD : ND ≤ 100) (fD : ∀ k, k < ND → nD k ≤ 1000000) (hO : FlE 54 2 27 w LO NO AO nO cO ZO) (pO : 1 ≤ NO) (mO : NO ≤ 100) (fO : ∀ k, k < NO → nO k ≤ 1000000) (hR : FlE 29 11 46 w LR NR AR nR cR ZR) (pR : 1 ≤ NR) (mR : NR ≤ 100) (fR : ∀ k, k < NR → nR k ≤ 1000000) :
    Calls Tryz.prog 52 #[.pointer (some ⟨b, 0, none⟩)] w (fun e w' => e = .returned (.bool true) ∧ Turned (fun g => FlW NB AB g ∨ FlEW ND AD g ∨ FlEW NO AO g ∨ FlEW NR AR g) w w') := by
  have fx := Lib.hid (And.intro fB (And.intro fD (And.intro fO fR)))
  have hb0 := Lib.hid hb
  have gB0 := Lib.hid hB
  have gD0 := Lib.hid hD
  have gO0 := Lib.hid hO
  have gR0 := Lib.hid hR
  have hT0 := Lib.hid (Turned.refl (fun g => FlW NB AB g ∨ FlEW ND AD g ∨ FlEW NO AO g ∨ FlEW NR AR g) w)
  have q0 : w.cell? ⟨b, 0, none⟩ = some (.slice none 0 0) := hb.cell 0
  clear hb hB hD hO hR fB fD fO fR
  go_enter Tryz.func52, Tryz.ntmps52
  go_wp2_with fail
  refine (flatWords_nil _).mono ?_
  rintro e w1 ⟨rfl, ht1⟩
  have hb1 := Lib.hid (hb0.out.turned ht1 (fun e => e))
  have hT1 := Lib.hid (hT0.out.trans (W := fun g => FlW NB AB g ∨ FlEW ND AD g ∨ FlEW NO AO g ∨ FlEW NR AR g) ht1 (fun _ e => e) (fun _ e => e.elim))
  have gB1 := Lib.hid (gB0.out.fresh ht1)
  have gD1 := Lib.hid (gD0.out.fresh ht1)
  have gO1 := Lib.hid (gO0.out.fresh ht1)
  have gR1 := Lib.hid (gR0.out.fresh ht1)
  have q1 : w1.cell? ⟨b, 1, none⟩ = some (.slice none 0 0) := hb1.out.cell 1
  clear ht1 q0 hb0 hT0 gB0 gD0 gO0 gR0
  go_wp2_with fail
  refine (flatInts_nil _).mono ?_
  rintro e w2 ⟨rfl, ht2⟩
  have hb2 := Lib.hid (hb1.out.turned ht2 (fun e => e))
  have hT2 := Lib.hid (hT1.out.trans (W := fun g => FlW NB AB g ∨ FlEW ND AD g ∨ FlEW NO AO g ∨ FlEW NR AR g) ht2 (fun _ e => e) (fun _ e => e.elim))
  have gB2 := Lib.hid (gB1.out.fresh ht2)
  have gD2 := Lib.hid (gD1.out.fresh ht2)
  have gO2 := Lib.hid (gO1.out.fresh ht2)
  have gR2 := Lib.hid (gR1.out.fresh ht2)
  have q2 : w2.cell? ⟨b, 2, none⟩ = some (.slice none 0 0) := hb2.out.cell 2
  clear ht2 q1 hb1 hT1 gB1 gD1 gO1 gR1
  go_wp2_with fail
  refine (flatLongs_nil _).mono ?_
  rintro e w3 ⟨rfl, ht3⟩
  have hb3 := Lib.hid (hb2.out.turned ht3 (fun e => e))
  have hT3 := Lib.hid (hT2.out.trans (W := fun g => FlW NB AB g ∨ FlEW ND AD g ∨ FlEW NO AO g ∨ FlEW NR AR g) ht3 (fun _ e => e) (fun _ e => e.elim))
  have gB3 := Lib.hid (gB2.out.fresh ht3)
  have gD3 := Lib.hid (gD2.out.fresh ht3)
  have gO3 := Lib.hid (gO2.out.fresh ht3)
  have gR3 := Lib.hid (gR2.out.fresh ht3)
  have q3 : w3.cell? ⟨b, 3, none⟩ = some (.slice none 0 0) := hb3.out.cell 3
  clear ht3 q2 hb2 hT2 gB2 gD2 gO2 gR2
  go_wp2_with fail
  refine (flatTexts_nil _).mono ?_
  rintro e w4 ⟨rfl, ht4⟩
  have hb4 := Lib.hid (hb3.out.turned ht4 (fun e => e))
  have hT4 := Lib.hid (hT3.out.trans (W := fun g => FlW NB AB g ∨ FlEW ND AD g ∨ FlEW NO AO g ∨ FlEW NR AR g) ht4 (fun _ e => e) (fun _ e => e.elim))
  have gB4 := Lib.hid (gB3.out.fresh ht4)
  have gD4 := Lib.hid (gD3.out.fresh ht4)
  have gO4 := Lib.hid (gO3.out.fresh ht4)
  have gR4 := Lib.hid (gR3.out.fresh ht4)
  have q4 : w4.cell? ⟨b, 4, none⟩ = some (.slice (some ⟨LB, 0, none⟩) NB dB) := hb4.out.cell 4
  clear ht4 q3 hb3 hT3 gB3 gD3 gO3 gR3
  go_wp2_with fail
  refine (flatBytes_any LB NB dB AB nB cB ZB _ gB4.out pB mB fx.out.1).mono ?_
  rintro e w5 ⟨rfl, ht5⟩
  have hb5 := Lib.hid (hb4.out.turned ht5 (gB4.out.off hb4.out (by decide)))
  have hT5 := Lib.hid (hT4.out.trans (W := fun g => FlW NB AB g ∨ FlEW ND AD g ∨ FlEW NO AO g ∨ FlEW NR AR g) ht5 (fun _ e => e) (fun _ e => .inl (.inl e)))
  have gD5 := Lib.hid (gD4.out.past ht5 (fun g U cs hb hU => gB4.out.off hb (by rcases hU with rfl | rfl <;> decide)))
  have gO5 := Lib.hid (gO4.out.past ht5 (fun g U cs hb hU => gB4.out.off hb (by rcases hU with rfl | rfl <;> decide)))
  have gR5 := Lib.hid (gR4.out.past ht5 (fun g U cs hb hU => gB4.out.off hb (by rcases hU with rfl | rfl <;> decide)))
  have q5 : w5.cell? ⟨b, 5, none⟩ = some (.slice none 0 0) := hb5.out.cell 5
  clear ht5 q4 hb4 hT4 gB4 gD4 gO4 gR4
  go_wp2_with fail
  refine (flatWindows_nil _).mono ?_
  rintro e w6 ⟨rfl, ht6⟩
  have hb6 := Lib.hid (hb5.out.turned ht6 (fun e => e))
  have hT6 := Lib.hid (hT5.out.trans (W := fun g => FlW NB AB g ∨ FlEW ND AD g ∨ FlEW NO AO g ∨ FlEW NR AR g) ht6 (fun _ e => e) (fun _ e => e.elim))
  have gD6 := Lib.hid (gD5.out.fresh ht6)
  have gO6 := Lib.hid (gO5.out.fresh ht6)
  have gR6 := Lib.hid (gR5.out.fresh ht6)
  have q6 : w6.cell? ⟨b, 6, none⟩ = some (.slice none 0 0) := hb6.out.cell 6
  clear ht6 q5 hb5 hT5 gD5 gO5 gR5
  go_wp2_with fail
  refine (flatLots_nil _).mono ?_
  rintro e w7 ⟨rfl, ht7⟩
  have hb7 := Lib.hid (hb6.out.turned ht7 (fun e => e))
  have hT7 := Lib.hid (hT6.out.trans (W := fun g => FlW NB AB g ∨ FlEW ND AD g ∨ FlEW NO AO g ∨ FlEW NR AR g) ht7 (fun _ e => e) (fun _ e => e.elim))
  have gD7 := Lib.hid (gD6.out.fresh ht7)
  have gO7 := Lib.hid (gO6.out.fresh ht7)
  have gR7 := Lib.hid (gR6.out.fresh ht7)
  have q7 : w7.cell? ⟨b, 7, none⟩ = some (.slice none 0 0) := hb7.out.cell 7
  clear ht7 q6 hb6 hT6 gD6 gO6 gR6
  go_wp2_with fail
  refine (flatWants_nil _).mono ?_
  rintro e w8 ⟨rfl, ht8⟩
  have hb8 := Lib.hid (hb7.out.turned ht8 (fun e => e))
  have hT8 := Lib.hid (hT7.out.trans (W := fun g => FlW NB AB g ∨ FlEW ND AD g ∨ FlEW NO AO g ∨ FlEW NR AR g) ht8 (fun _ e => e) (fun _ e => e.elim))
  have gD8 := Lib.hid (gD7.out.fresh ht8)
  have gO8 := Lib.hid (gO7.out.fresh ht8)
  have gR8 := Lib.hid (gR7.out.fresh ht8)
  have q8 : w8.cell? ⟨b, 8, none⟩ = some (.slice none 0 0) := hb8.out.cell 8
  clear ht8 q7 hb7 hT7 gD7 gO7 gR7
  go_wp2_with fail
  refine (flatUses_nil _).mono ?_
  rintro e w9 ⟨rfl, ht9⟩
  have hb9 := Lib.hid (hb8.out.turned ht9 (fun e => e))
  have hT9 := Lib.hid (hT8.out.trans (W := fun g => FlW NB AB g ∨ FlEW ND AD g ∨ FlEW NO AO g ∨ FlEW NR AR g) ht9 (fun _ e => e) (fun _ e => e.elim))
  have gD9 := Lib.hid (gD8.out.fresh ht9)
  have gO9 := Lib.hid (gO8.out.fresh ht9)
  have gR9 := Lib.hid (gR8.out.fresh ht9)
  have q9 : w9.cell? ⟨b, 9, none⟩ = some (.slice none 0 0) := hb9.out.cell 9
  clear ht9 q8 hb8 hT8 gD8 gO8 gR8
  go_wp2_with fail
  refine (flatParts_nil _).mono ?_
  rintro e w10 ⟨rfl, ht10⟩
  have hb10 := Lib.hid (hb9.out.turned ht10 (fun e => e))
  have hT10 := Lib.hid (hT9.out.trans (W := fun g => FlW NB AB g ∨ FlEW ND AD g ∨ FlEW NO AO g ∨ FlEW NR AR g) ht10 (fun _ e => e) (fun _ e => e.elim))
  have gD10 := Lib.hid (gD9.out.fresh ht10)
  have gO10 := Lib.hid (gO9.out.fresh ht10)
  have gR10 := Lib.hid (gR9.out.fresh ht10)
  have q10 : w10.cell? ⟨b, 10, none⟩ = some (.slice none 0 0) := hb10.out.cell 10
  clear ht10 q9 hb9 hT9 gD9 gO9 gR9
  go_wp2_with fail
  refine (flatItems_nil _).mono ?_
  rintro e w11 ⟨rfl, ht11⟩
  have hb11 := Lib.hid (hb10.out.turned ht11 (fun e => e))
  have hT11 := Lib.hid (hT10.out.trans (W := fun g => FlW NB AB g ∨ FlEW ND AD g ∨ FlEW NO AO g ∨ FlEW NR AR g) ht11 (fun _ e => e) (fun _ e => e.elim))
  have gD11 := Lib.hid (gD10.out.fresh ht11)
  have gO11 := Lib.hid (gO10.out.fresh ht11)
  have gR11 := Lib.hid (gR10.out.fresh ht11)
  have q11 : w11.cell? ⟨b, 11, none⟩ = some (.slice none 0 0) := hb11.out.cell 11
  clear ht11 q10 hb10 hT10 gD10 gO10 gR10
  go_wp2_with fail
  refine (flatLines_nil _).mono ?_
  rintro e w12 ⟨rfl, ht12⟩
  have hb12 := Lib.hid (hb11.out.turned ht12 (fun e => e))
  have hT12 := Lib.hid (hT11.out.trans (W := fun g => FlW NB AB g ∨ FlEW ND AD g ∨ FlEW NO AO g ∨ FlEW NR AR g) ht12 (fun _ e => e) (fun _ e => e.elim))
  have gD12 := Lib.hid (gD11.out.fresh ht12)
  have gO12 := Lib.hid (gO11.out.fresh ht12)
  have gR12 := Lib.hid (gR11.out.fresh ht12)
  have q12 : w12.cell? ⟨b, 12, none⟩ = some (.slice none 0 0) := hb12.out.cell 12
  clear ht12 q11 hb11 hT11 gD11 gO11 gR11
  go_wp2_with fail
  refine (flatAsks_nil _).mono ?_
  rintro e w13 ⟨rfl, ht13⟩
  have hb13 := Lib.hid (hb12.out.turned ht13 (fun e => e))
  have hT13 := Lib.hid (hT12.out.trans (W := fun g => FlW NB AB g ∨ FlEW ND AD g ∨ FlEW NO AO g ∨ FlEW NR AR g) ht13 (fun _ e => e) (fun _ e => e.elim))
  have gD13 := Lib.hid (gD12.out.fresh ht13)
  have gO13 := Lib.hid (gO12.out.fresh ht13)
  have gR13 := Lib.hid (gR12.out.fresh ht13)
  have q13 : w13.cell? ⟨b, 13, none⟩ = some (.slice none 0 0) := hb13.out.cell 13
  clear ht13 q12 hb12 hT12 gD12 gO12 gR12
  go_wp2_with fail
  refine (flatTells_nil _).mono ?_
  rintro e w14 ⟨rfl, ht14⟩
  have hb14 := Lib.hid (hb13.out.turned ht14 (fun e => e))
  have hT14 := Lib.hid (hT13.out.trans (W := fun g => FlW NB AB g ∨ FlEW ND AD g ∨ FlEW NO AO g ∨ FlEW NR AR g) ht14 (fun _ e => e) (fun _ e => e.elim))
  have gD14 := Lib.hid (gD13.out.fresh ht14)
  have gO14 := Lib.hid (gO13.out.fresh ht14)
  have gR14 := Lib.hid (gR13.out.fresh ht14)
  have q14 : w14.cell? ⟨b, 14, none⟩ = some (.slice none 0 0) := hb14.out.cell 14
  clear ht14 q13 hb13 hT13 gD13 gO13 gR13
  go_wp2_with fail
  refine (flatStates_nil _).mono ?_
  rintro e w15 ⟨rfl, ht15⟩
  have hb15 := Lib.hid (hb14.out.turned ht15 (fun e => e))
  have hT15 := Lib.hid (hT14.out.trans (W := fun g => FlW NB AB g ∨ FlEW ND AD g ∨ FlEW NO AO g ∨ FlEW NR AR g) ht15 (fun _ e => e) (fun _ e => e.elim))
  have gD15 := Lib.hid (gD14.out.fresh ht15)
  have gO15 := Lib.hid (gO14.out.fresh ht15)
  have gR15 := Lib.hid (gR14.out.fresh ht15)
  have q15 : w15.cell? ⟨b, 15, none⟩ = some (.slice none 0 0) := hb15.out.cell 15
  clear ht15 q14 hb14 hT14 gD14 gO14 gR14
  go_wp2_with fail
  refine (flatRows_nil _).mono ?_
  rintro e w16 ⟨rfl, ht16⟩
  have hb16 := Lib.hid (hb15.out.turned ht16 (fun e => e))
  have hT16 := Lib.hid (hT15.out.trans (W := fun g => FlW NB AB g ∨ FlEW ND AD g ∨ FlEW NO AO g ∨ FlEW NR AR g) ht16 (fun _ e => e) (fun _ e => e.elim))
  have gD16 := Lib.hid (gD15.out.fresh ht16)
  have gO16 := Lib.hid (gO15.out.fresh ht16)
  have gR16 := Lib.hid (gR15.out.fresh ht16)
  have q16 : w16.cell? ⟨b, 16, none⟩ = some (.slice none 0 0) := hb16.out.cell 16
  clear ht16 q15 hb15 hT15 gD15 gO15 gR15
  go_wp2_with fail
  refine (flatTurns_nil _).mono ?_
  rintro e w17 ⟨rfl, ht17⟩
  have hb17 := Lib.hid (hb16.out.turned ht17 (fun e => e))
  have hT17 := Lib.hid (hT16.out.trans (W := fun g => FlW NB AB g ∨ FlEW ND AD g ∨ FlEW NO AO g ∨ FlEW NR AR g) ht17 (fun _ e => e) (fun _ e => e.elim))
  have gD17 := Lib.hid (gD16.out.fresh ht17)
  have gO17 := Lib.hid (gO16.out.fresh ht17)
  have gR17 := Lib.hid (gR16.out.fresh ht17)
  have q17 : w17.cell? ⟨b, 17, none⟩ = some (.slice none 0 0) := hb17.out.cell 17
  clear ht17 q16 hb16 hT16 gD16 gO16 gR16
  go_wp2_with fail
  refine (flatFates_nil _).mono ?_
  rintro e w18 ⟨rfl, ht18⟩
  have hb18 := Lib.hid (hb17.out.turned ht18 (fun e => e))
  have hT18 := Lib.hid (hT17.out.trans (W := fun g => FlW NB AB g ∨ FlEW ND AD g ∨ FlEW NO AO g ∨ FlEW NR AR g) ht18 (fun _ e => e) (fun _ e => e.elim))
  have gD18 := Lib.hid (gD17.out.fresh ht18)
  have gO18 := Lib.hid (gO17.out.fresh ht18)
  have gR18 := Lib.hid (gR17.out.fresh ht18)
  have q18 : w18.cell? ⟨b, 18, none⟩ = some (.slice (some ⟨LD, 0, none⟩) ND dD) := hb18.out.cell 18
  clear ht18 q17 hb17 hT17 gD17 gO17 gR17
  go_wp2_with fail
  refine (flatD_any LD ND dD AD nD cD ZD _ gD18.out pD mD fx.out.2.1).mono ?_
  rintro e w19 ⟨rfl, ht19⟩
  have hb19 := Lib.hid (hb18.out.turned ht19 (gD18.out.off hb18.out (by decide)))
  have hT19 := Lib.hid (hT18.out.trans (W := fun g => FlW NB AB g ∨ FlEW ND AD g ∨ FlEW NO AO g ∨ FlEW NR AR g) ht19 (fun _ e => e) (fun _ e => .inl (.inr (.inl e))))
  have gO19 := Lib.hid (gO18.out.past ht19 (fun g U cs hb hU => gD18.out.off hb (by rcases hU with rfl | rfl <;> decide)))
  have gR19 := Lib.hid (gR18.out.past ht19 (fun g U cs hb hU => gD18.out.off hb (by rcases hU with rfl | rfl <;> decide)))
  have q19 : w19.cell? ⟨b, 19, none⟩ = some (.slice (some ⟨LO, 0, none⟩) NO dO) := hb19.out.cell 19
  clear ht19 q18 hb18 hT18 gD18 gO18 gR18
  go_wp2_with fail
  refine (flatO_any LO NO dO AO nO cO ZO _ gO19.out pO mO fx.out.2.2.1).mono ?_
  rintro e w20 ⟨rfl, ht20⟩
  have hb20 := Lib.hid (hb19.out.turned ht20 (gO19.out.off hb19.out (by decide)))
  have hT20 := Lib.hid (hT19.out.trans (W := fun g => FlW NB AB g ∨ FlEW ND AD g ∨ FlEW NO AO g ∨ FlEW NR AR g) ht20 (fun _ e => e) (fun _ e => .inl (.inr (.inr (.inl e)))))
  have gR20 := Lib.hid (gR19.out.past ht20 (fun g U cs hb hU => gO19.out.off hb (by rcases hU with rfl | rfl <;> decide)))
  have q20 : w20.cell? ⟨b, 20, none⟩ = some (.slice (some ⟨LR, 0, none⟩) NR dR) := hb20.out.cell 20
  clear ht20 q19 hb19 hT19 gO19 gR19
  go_wp2_with fail
  refine (flatR_any LR NR dR AR nR cR ZR _ gR20.out pR mR fx.out.2.2.2).mono ?_
  rintro e w21 ⟨rfl, ht21⟩
  have hb21 := Lib.hid (hb20.out.turned ht21 (gR20.out.off hb20.out (by decide)))
  have hT21 := Lib.hid (hT20.out.trans (W := fun g => FlW NB AB g ∨ FlEW ND AD g ∨ FlEW NO AO g ∨ FlEW NR AR g) ht21 (fun _ e => e) (fun _ e => .inl (.inr (.inr (.inr e)))))
  have q21 : w21.cell? ⟨b, 21, none⟩ = some (.slice none 0 0) := hb21.out.cell 21
  clear ht21 q20 hb20 hT20 gR20
  go_wp2_with fail
  refine (flatSteps_nil _).mono ?_
  rintro e w22 ⟨rfl, ht22⟩
  have hb22 := Lib.hid (hb21.out.turned ht22 (fun e => e))
  have hT22 := Lib.hid (hT21.out.trans (W := fun g => FlW NB AB g ∨ FlEW ND AD g ∨ FlEW NO AO g ∨ FlEW NR AR g) ht22 (fun _ e => e) (fun _ e => e.elim))
  have q22 : w22.cell? ⟨b, 22, none⟩ = some (.slice none 0 0) := hb22.out.cell 22
  clear ht22 q21 hb21 hT21 
  go_wp2_with fail
  refine (flatTales_nil _).mono ?_
  rintro e w23 ⟨rfl, ht23⟩
  have hb23 := Lib.hid (hb22.out.turned ht23 (fun e => e))
  have hT23 := Lib.hid (hT22.out.trans (W := fun g => FlW NB AB g ∨ FlEW ND AD g ∨ FlEW NO AO g ∨ FlEW NR AR g) ht23 (fun _ e => e) (fun _ e => e.elim))
  clear ht23 q22 hb22 hT22 
  go_wp2_with fail
  go_ret
  exact ⟨rfl, hT23.out⟩
end Go.Proofs.YtohajofkflibjaaGreatDoor

