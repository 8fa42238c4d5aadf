/-
  bag.apart where three lists hold rows; ApartAsks over two rows of one command each, whose lists lie in memory of their own. No condition but numbers.
-/
import Derived.Test.YtijmfglgeaaoaaaGreatDoorQBgA
import Derived.Test.YtijmfglgeaaoaaaGreatDoorQFlt
import Derived.Test.YtijmfglgeaaoaaaGreatDoorQFlS
import Derived.Test.YtijmfglgeaaoaaaGreatDoorQFlT
import Derived.Test.YtijmfglgeaaoaaaGreatDoorQFlA
import Derived.Test.YtijmfglgeaaoaaaGreatDoorQAp2
namespace Go.Proofs.YtijmfglgeaaoaaaGreatDoor
open Go.RowKit Go.Maps
set_option linter.unusedVariables false
set_option linter.unusedSimpArgs false

theorem FlE.off {T q SL : Nat} {w : World} {L N : Nat} {A : Nat → Option Addr} {n c : Nat → Nat} {Z : Nat → List Value} (h : FlE T q SL w L N A n c Z) {g U : Nat} {cs : Array Value} (hb : Blk w g U cs) (hU : U ≠ T) : ¬ FlEW N A g := fun ⟨k, hk, e⟩ => (h.own k hk).blk hb hU e rfl
theorem FlE.past {T q SL : Nat} {w w' : World} {L N : Nat} {A : Nat → Option Addr} {n c : Nat → Nat} {Z : Nat → List Value} {W : Nat → Prop} (h : FlE T q SL w L N A n c Z) (ht : Turned W w w') (hW : ∀ (g U : Nat) (cs : Array Value), Blk w g U cs → U = T ∨ U = SL → ¬ W g) : FlE T q SL w' L N A n c Z := by
  refine h.turned ht ?_ (fun k g hk e => ?_)
  · obtain ⟨cs, hb, _⟩ := h.cells
    exact hW _ _ _ hb (.inr rfl)
  · have ho := h.own k hk
    rw [e] at ho
    obtain ⟨cs, hb, _⟩ := ho.row.row
    exact hW _ _ _ hb (.inl rfl)
set_option maxRecDepth 100000 in
set_option maxHeartbeats 400000 in
theorem flatBytes_nil (w : World) : Calls Tryz.prog 65 #[.slice none 0 0] w (OkNew w) := by
  have hmk : ∀ w : World, (Instr.makeSlice 66 (.int .i64 0) (.int .i64 0)).run Tryz.prog w = .ok (.slice (some ⟨w.heap.size, 0, none⟩) 0 0) (w.alloc (.cells #[] 22)) := fun _ => by kernel_rfl
  go_enter Tryz.func65, Tryz.ntmps65
  go_wp2
  go_rounds 1
  go_rounds 1
  go_rounds 1
  go_rounds 1
  go_rounds 1
  go_ret
  exact ⟨rfl, (Turned.refl _ w).alloc _⟩
set_option maxRecDepth 100000 in
set_option maxHeartbeats 4000000 in
theorem apart3_any (b : Nat) (LX NX dX : Nat) (AX : Nat → Option Addr) (nX cX : Nat → Nat) (ZX : Nat → List Value) (LQ NQ dQ : Nat) (AQ : Nat → Option Addr) (nQ cQ : Nat → Nat) (ZQ : Nat → List Value) (LA NA dA : Nat) (AA : Nat → Option Addr) (nA cA : Nat → Nat) (ZA : Nat → List Value) (w : World) (hb : Blk w b 85 (bag3 (.slice (some ⟨LX, 0, none⟩) NX dX) (.slice (some ⟨LQ, 0, none⟩) NQ dQ) (.slice (some ⟨LA, 0, none⟩) NA dA)))
    (hX : FlE 9 1 27 w LX NX AX nX cX ZX) (pX : 1 ≤ NX) (mX : NX ≤ 100) (fX : ∀ k, k < NX → nX k ≤ 1000000) (hQ : FlE 55 2 26 w LQ NQ AQ nQ cQ ZQ) (pQ : 1 ≤ NQ) (mQ : NQ ≤ 100) (fQ : ∀ k, k < NQ → nQ k ≤ 1000000) (hA : FlE 29 11 37 w LA NA AA nA cA ZA) (pA : 1 ≤ NA) (mA : NA ≤ 100) (fA : ∀ k, k < NA → nA k ≤ 1000000) :
    Calls Tryz.prog 34 #[.pointer (some ⟨b, 0, none⟩)] w (fun e w' => e = .returned (.bool true) ∧ Turned (fun g => FlEW NX AX g ∨ FlEW NQ AQ g ∨ FlEW NA AA g) w w') := by
  have fx := Lib.hid (And.intro fX (And.intro fQ fA))
  have hb0 := Lib.hid hb
  have gX0 := Lib.hid hX
  have gQ0 := Lib.hid hQ
  have gA0 := Lib.hid hA
  have hT0 := Lib.hid (Turned.refl (fun g => FlEW NX AX g ∨ FlEW NQ AQ g ∨ FlEW NA AA g) w)
  have q0 : w.cell? ⟨b, 0, none⟩ = some (.slice none 0 0) := hb.cell 0
  clear hb hX hQ hA fX fQ fA
  go_enter Tryz.func34, Tryz.ntmps34
  go_wp2_with fail
  refine (flatWords_nil _).mono ?_
  rintro e w1 ⟨rfl, ht1⟩
  have hb1 := Lib.hid (hb0.out.turned ht1 (fun e => e))
  have hT1 := Lib.hid (hT0.out.trans (W := fun g => FlEW NX AX g ∨ FlEW NQ AQ g ∨ FlEW NA AA g) ht1 (fun _ e => e) (fun _ e => e.elim))
  have gX1 := Lib.hid (gX0.out.fresh ht1)
  have gQ1 := Lib.hid (gQ0.out.fresh ht1)
  have gA1 := Lib.hid (gA0.out.fresh ht1)
  have q1 : w1.cell? ⟨b, 1, none⟩ = some (.slice none 0 0) := hb1.out.cell 1
  clear ht1 q0 hb0 hT0 gX0 gQ0 gA0
  go_wp2_with fail
  refine (flatInts_nil _).mono ?_
  rintro e w2 ⟨rfl, ht2⟩
  have hb2 := Lib.hid (hb1.out.turned ht2 (fun e => e))
  have hT2 := Lib.hid (hT1.out.trans (W := fun g => FlEW NX AX g ∨ FlEW NQ AQ g ∨ FlEW NA AA g) ht2 (fun _ e => e) (fun _ e => e.elim))
  have gX2 := Lib.hid (gX1.out.fresh ht2)
  have gQ2 := Lib.hid (gQ1.out.fresh ht2)
  have gA2 := Lib.hid (gA1.out.fresh ht2)
  have q2 : w2.cell? ⟨b, 2, none⟩ = some (.slice none 0 0) := hb2.out.cell 2
  clear ht2 q1 hb1 hT1 gX1 gQ1 gA1
  go_wp2_with fail
  refine (flatLongs_nil _).mono ?_
  rintro e w3 ⟨rfl, ht3⟩
  have hb3 := Lib.hid (hb2.out.turned ht3 (fun e => e))
  have hT3 := Lib.hid (hT2.out.trans (W := fun g => FlEW NX AX g ∨ FlEW NQ AQ g ∨ FlEW NA AA g) ht3 (fun _ e => e) (fun _ e => e.elim))
  have gX3 := Lib.hid (gX2.out.fresh ht3)
  have gQ3 := Lib.hid (gQ2.out.fresh ht3)
  have gA3 := Lib.hid (gA2.out.fresh ht3)
  have q3 : w3.cell? ⟨b, 3, none⟩ = some (.slice (some ⟨LX, 0, none⟩) NX dX) := hb3.out.cell 3
  clear ht3 q2 hb2 hT2 gX2 gQ2 gA2
  go_wp2_with fail
  refine (flatX_any LX NX dX AX nX cX ZX _ gX3.out pX mX fx.out.1).mono ?_
  rintro e w4 ⟨rfl, ht4⟩
  have hb4 := Lib.hid (hb3.out.turned ht4 (gX3.out.off hb3.out (by decide)))
  have hT4 := Lib.hid (hT3.out.trans (W := fun g => FlEW NX AX g ∨ FlEW NQ AQ g ∨ FlEW NA AA g) ht4 (fun _ e => e) (fun _ e => .inl (.inl e)))
  have gQ4 := Lib.hid (gQ3.out.past ht4 (fun g U cs hb hU => gX3.out.off hb (by rcases hU with rfl | rfl <;> decide)))
  have gA4 := Lib.hid (gA3.out.past ht4 (fun g U cs hb hU => gX3.out.off hb (by rcases hU with rfl | rfl <;> decide)))
  have q4 : w4.cell? ⟨b, 4, none⟩ = some (.slice none 0 0) := hb4.out.cell 4
  clear ht4 q3 hb3 hT3 gX3 gQ3 gA3
  go_wp2_with fail
  refine (flatBytes_nil _).mono ?_
  rintro e w5 ⟨rfl, ht5⟩
  have hb5 := Lib.hid (hb4.out.turned ht5 (fun e => e))
  have hT5 := Lib.hid (hT4.out.trans (W := fun g => FlEW NX AX g ∨ FlEW NQ AQ g ∨ FlEW NA AA g) ht5 (fun _ e => e) (fun _ e => e.elim))
  have gQ5 := Lib.hid (gQ4.out.fresh ht5)
  have gA5 := Lib.hid (gA4.out.fresh ht5)
  have q5 : w5.cell? ⟨b, 5, none⟩ = some (.slice none 0 0) := hb5.out.cell 5
  clear ht5 q4 hb4 hT4 gQ4 gA4
  go_wp2_with fail
  refine (flatWindows_nil _).mono ?_
  rintro e w6 ⟨rfl, ht6⟩
  have hb6 := Lib.hid (hb5.out.turned ht6 (fun e => e))
  have hT6 := Lib.hid (hT5.out.trans (W := fun g => FlEW NX AX g ∨ FlEW NQ AQ g ∨ FlEW NA AA g) ht6 (fun _ e => e) (fun _ e => e.elim))
  have gQ6 := Lib.hid (gQ5.out.fresh ht6)
  have gA6 := Lib.hid (gA5.out.fresh ht6)
  have q6 : w6.cell? ⟨b, 6, none⟩ = some (.slice none 0 0) := hb6.out.cell 6
  clear ht6 q5 hb5 hT5 gQ5 gA5
  go_wp2_with fail
  refine (flatLots_nil _).mono ?_
  rintro e w7 ⟨rfl, ht7⟩
  have hb7 := Lib.hid (hb6.out.turned ht7 (fun e => e))
  have hT7 := Lib.hid (hT6.out.trans (W := fun g => FlEW NX AX g ∨ FlEW NQ AQ g ∨ FlEW NA AA g) ht7 (fun _ e => e) (fun _ e => e.elim))
  have gQ7 := Lib.hid (gQ6.out.fresh ht7)
  have gA7 := Lib.hid (gA6.out.fresh ht7)
  have q7 : w7.cell? ⟨b, 7, none⟩ = some (.slice none 0 0) := hb7.out.cell 7
  clear ht7 q6 hb6 hT6 gQ6 gA6
  go_wp2_with fail
  refine (flatWants_nil _).mono ?_
  rintro e w8 ⟨rfl, ht8⟩
  have hb8 := Lib.hid (hb7.out.turned ht8 (fun e => e))
  have hT8 := Lib.hid (hT7.out.trans (W := fun g => FlEW NX AX g ∨ FlEW NQ AQ g ∨ FlEW NA AA g) ht8 (fun _ e => e) (fun _ e => e.elim))
  have gQ8 := Lib.hid (gQ7.out.fresh ht8)
  have gA8 := Lib.hid (gA7.out.fresh ht8)
  have q8 : w8.cell? ⟨b, 8, none⟩ = some (.slice none 0 0) := hb8.out.cell 8
  clear ht8 q7 hb7 hT7 gQ7 gA7
  go_wp2_with fail
  refine (flatUses_nil _).mono ?_
  rintro e w9 ⟨rfl, ht9⟩
  have hb9 := Lib.hid (hb8.out.turned ht9 (fun e => e))
  have hT9 := Lib.hid (hT8.out.trans (W := fun g => FlEW NX AX g ∨ FlEW NQ AQ g ∨ FlEW NA AA g) ht9 (fun _ e => e) (fun _ e => e.elim))
  have gQ9 := Lib.hid (gQ8.out.fresh ht9)
  have gA9 := Lib.hid (gA8.out.fresh ht9)
  have q9 : w9.cell? ⟨b, 9, none⟩ = some (.slice (some ⟨LQ, 0, none⟩) NQ dQ) := hb9.out.cell 9
  clear ht9 q8 hb8 hT8 gQ8 gA8
  go_wp2_with fail
  refine (flatQ_any LQ NQ dQ AQ nQ cQ ZQ _ gQ9.out pQ mQ fx.out.2.1).mono ?_
  rintro e w10 ⟨rfl, ht10⟩
  have hb10 := Lib.hid (hb9.out.turned ht10 (gQ9.out.off hb9.out (by decide)))
  have hT10 := Lib.hid (hT9.out.trans (W := fun g => FlEW NX AX g ∨ FlEW NQ AQ g ∨ FlEW NA AA g) ht10 (fun _ e => e) (fun _ e => .inl (.inr (.inl e))))
  have gA10 := Lib.hid (gA9.out.past ht10 (fun g U cs hb hU => gQ9.out.off hb (by rcases hU with rfl | rfl <;> decide)))
  have q10 : w10.cell? ⟨b, 10, none⟩ = some (.slice none 0 0) := hb10.out.cell 10
  clear ht10 q9 hb9 hT9 gQ9 gA9
  go_wp2_with fail
  refine (flatItems_nil _).mono ?_
  rintro e w11 ⟨rfl, ht11⟩
  have hb11 := Lib.hid (hb10.out.turned ht11 (fun e => e))
  have hT11 := Lib.hid (hT10.out.trans (W := fun g => FlEW NX AX g ∨ FlEW NQ AQ g ∨ FlEW NA AA g) ht11 (fun _ e => e) (fun _ e => e.elim))
  have gA11 := Lib.hid (gA10.out.fresh ht11)
  have q11 : w11.cell? ⟨b, 11, none⟩ = some (.slice none 0 0) := hb11.out.cell 11
  clear ht11 q10 hb10 hT10 gA10
  go_wp2_with fail
  refine (flatLines_nil _).mono ?_
  rintro e w12 ⟨rfl, ht12⟩
  have hb12 := Lib.hid (hb11.out.turned ht12 (fun e => e))
  have hT12 := Lib.hid (hT11.out.trans (W := fun g => FlEW NX AX g ∨ FlEW NQ AQ g ∨ FlEW NA AA g) ht12 (fun _ e => e) (fun _ e => e.elim))
  have gA12 := Lib.hid (gA11.out.fresh ht12)
  have q12 : w12.cell? ⟨b, 12, none⟩ = some (.slice (some ⟨LA, 0, none⟩) NA dA) := hb12.out.cell 12
  clear ht12 q11 hb11 hT11 gA11
  go_wp2_with fail
  refine (flatA_any LA NA dA AA nA cA ZA _ gA12.out pA mA fx.out.2.2).mono ?_
  rintro e w13 ⟨rfl, ht13⟩
  have hb13 := Lib.hid (hb12.out.turned ht13 (gA12.out.off hb12.out (by decide)))
  have hT13 := Lib.hid (hT12.out.trans (W := fun g => FlEW NX AX g ∨ FlEW NQ AQ g ∨ FlEW NA AA g) ht13 (fun _ e => e) (fun _ e => .inl (.inr (.inr e))))
  have q13 : w13.cell? ⟨b, 13, none⟩ = some (.slice none 0 0) := hb13.out.cell 13
  clear ht13 q12 hb12 hT12 gA12
  go_wp2_with fail
  refine (flatTells_nil _).mono ?_
  rintro e w14 ⟨rfl, ht14⟩
  have hb14 := Lib.hid (hb13.out.turned ht14 (fun e => e))
  have hT14 := Lib.hid (hT13.out.trans (W := fun g => FlEW NX AX g ∨ FlEW NQ AQ g ∨ FlEW NA AA g) ht14 (fun _ e => e) (fun _ e => e.elim))
  have q14 : w14.cell? ⟨b, 14, none⟩ = some (.slice none 0 0) := hb14.out.cell 14
  clear ht14 q13 hb13 hT13 
  go_wp2_with fail
  refine (flatStates_nil _).mono ?_
  rintro e w15 ⟨rfl, ht15⟩
  have hb15 := Lib.hid (hb14.out.turned ht15 (fun e => e))
  have hT15 := Lib.hid (hT14.out.trans (W := fun g => FlEW NX AX g ∨ FlEW NQ AQ g ∨ FlEW NA AA g) ht15 (fun _ e => e) (fun _ e => e.elim))
  have q15 : w15.cell? ⟨b, 15, none⟩ = some (.slice none 0 0) := hb15.out.cell 15
  clear ht15 q14 hb14 hT14 
  go_wp2_with fail
  refine (flatRows_nil _).mono ?_
  rintro e w16 ⟨rfl, ht16⟩
  have hb16 := Lib.hid (hb15.out.turned ht16 (fun e => e))
  have hT16 := Lib.hid (hT15.out.trans (W := fun g => FlEW NX AX g ∨ FlEW NQ AQ g ∨ FlEW NA AA g) ht16 (fun _ e => e) (fun _ e => e.elim))
  have q16 : w16.cell? ⟨b, 16, none⟩ = some (.slice none 0 0) := hb16.out.cell 16
  clear ht16 q15 hb15 hT15 
  go_wp2_with fail
  refine (flatTurns_nil _).mono ?_
  rintro e w17 ⟨rfl, ht17⟩
  have hb17 := Lib.hid (hb16.out.turned ht17 (fun e => e))
  have hT17 := Lib.hid (hT16.out.trans (W := fun g => FlEW NX AX g ∨ FlEW NQ AQ g ∨ FlEW NA AA g) ht17 (fun _ e => e) (fun _ e => e.elim))
  have q17 : w17.cell? ⟨b, 17, none⟩ = some (.slice none 0 0) := hb17.out.cell 17
  clear ht17 q16 hb16 hT16 
  go_wp2_with fail
  refine (flatFates_nil _).mono ?_
  rintro e w18 ⟨rfl, ht18⟩
  have hb18 := Lib.hid (hb17.out.turned ht18 (fun e => e))
  have hT18 := Lib.hid (hT17.out.trans (W := fun g => FlEW NX AX g ∨ FlEW NQ AQ g ∨ FlEW NA AA g) ht18 (fun _ e => e) (fun _ e => e.elim))
  have q18 : w18.cell? ⟨b, 18, none⟩ = some (.slice none 0 0) := hb18.out.cell 18
  clear ht18 q17 hb17 hT17 
  go_wp2_with fail
  refine (flatDirties_nil _).mono ?_
  rintro e w19 ⟨rfl, ht19⟩
  have hb19 := Lib.hid (hb18.out.turned ht19 (fun e => e))
  have hT19 := Lib.hid (hT18.out.trans (W := fun g => FlEW NX AX g ∨ FlEW NQ AQ g ∨ FlEW NA AA g) ht19 (fun _ e => e) (fun _ e => e.elim))
  have q19 : w19.cell? ⟨b, 19, none⟩ = some (.slice none 0 0) := hb19.out.cell 19
  clear ht19 q18 hb18 hT18 
  go_wp2_with fail
  refine (flatOpens_nil _).mono ?_
  rintro e w20 ⟨rfl, ht20⟩
  have hb20 := Lib.hid (hb19.out.turned ht20 (fun e => e))
  have hT20 := Lib.hid (hT19.out.trans (W := fun g => FlEW NX AX g ∨ FlEW NQ AQ g ∨ FlEW NA AA g) ht20 (fun _ e => e) (fun _ e => e.elim))
  have q20 : w20.cell? ⟨b, 20, none⟩ = some (.slice none 0 0) := hb20.out.cell 20
  clear ht20 q19 hb19 hT19 
  go_wp2_with fail
  refine (flatRecords_nil _).mono ?_
  rintro e w21 ⟨rfl, ht21⟩
  have hb21 := Lib.hid (hb20.out.turned ht21 (fun e => e))
  have hT21 := Lib.hid (hT20.out.trans (W := fun g => FlEW NX AX g ∨ FlEW NQ AQ g ∨ FlEW NA AA g) ht21 (fun _ e => e) (fun _ e => e.elim))
  have q21 : w21.cell? ⟨b, 21, none⟩ = some (.slice none 0 0) := hb21.out.cell 21
  clear ht21 q20 hb20 hT20 
  go_wp2_with fail
  refine (flatSteps_nil _).mono ?_
  rintro e w22 ⟨rfl, ht22⟩
  have hb22 := Lib.hid (hb21.out.turned ht22 (fun e => e))
  have hT22 := Lib.hid (hT21.out.trans (W := fun g => FlEW NX AX g ∨ FlEW NQ AQ g ∨ FlEW NA AA g) ht22 (fun _ e => e) (fun _ e => e.elim))
  have q22 : w22.cell? ⟨b, 22, none⟩ = some (.slice none 0 0) := hb22.out.cell 22
  clear ht22 q21 hb21 hT21 
  go_wp2_with fail
  refine (flatTales_nil _).mono ?_
  rintro e w23 ⟨rfl, ht23⟩
  have hb23 := Lib.hid (hb22.out.turned ht23 (fun e => e))
  have hT23 := Lib.hid (hT22.out.trans (W := fun g => FlEW NX AX g ∨ FlEW NQ AQ g ∨ FlEW NA AA g) ht23 (fun _ e => e) (fun _ e => e.elim))
  clear ht23 q22 hb22 hT22 
  go_wp2_with fail
  go_ret
  exact ⟨rfl, hT23.out⟩
/-- What the loop has put in after k of the two rows. -/
def upTo (k : Nat) (x y : List Value) : List Value := if k = 0 then [] else if k = 1 then x else x ++ y
def AptR (ga gc : Nat) (S1 S2 : AskS) (w : World) (b : Nat) (i : Value) (wr : World) : Prop := ∃ k : Nat, k ≤ 2 ∧ i = .int .i64 k ∧
  BagIs wr b w.heap.size (upTo k [.slice S1.O.A S1.O.n S1.O.c] [.slice S2.O.A S2.O.n S2.O.c]) (upTo k [.slice S1.P.A S1.P.n S1.P.c] [.slice S2.P.A S2.P.n S2.P.c]) (upTo k [.slice (some ⟨ga, 0, none⟩) 1 1] [.slice (some ⟨gc, 0, none⟩) 1 1]) ∧ Turned (fun _ => False) w wr
theorem bag_new (w : World) (b s : Nat) (hb : Blk w b 85 (bag3 (.slice none 0 0) (.slice none 0 0) (.slice none 0 0))) : BagIs w b s [] [] [] := ⟨_, _, _, hb, World.ownsRow_nil _ _ _ _, World.ownsRow_nil _ _ _ _, World.ownsRow_nil _ _ _ _⟩
/-- The rows of a list in the bag, as FlE wants them. -/
theorem bag_rows {w : World} {s T q SL : Nat} {v : Value} {xs : List Value} (h : w.ownsRow s SL 1 v xs.length xs) (h0 : 0 < xs.length) (A : Nat → Option Addr) (n c : Nat → Nat) (Z : Nat → List Value) (hx : ∀ k, k < xs.length → xs[k]? = some (.slice (A k) (n k) (c k))) (hown : ∀ k, k < xs.length → OwnE w T q (A k) (n k) (c k) (Z k))
    (hap : ∀ j k, j < xs.length → k < xs.length → j ≠ k → ∀ g, A j = some ⟨g, 0, none⟩ → A k ≠ some ⟨g, 0, none⟩) (ty : SL ≠ T) : ∃ L cap, v = .slice (some ⟨L, 0, none⟩) xs.length cap ∧ FlE T q SL w L xs.length A n c Z := by
  rcases h.2 with ⟨_, e⟩ | ⟨g, cap, cur, rfl, _, h2, _, _, hs, htk⟩
  · omega
  · refine ⟨g, cap, rfl, ⟨cur, h2, fun k hk => ?_⟩, hown, hap, ty⟩
    have := hx k hk
    rw [← htk, List.getElem?_take, if_pos (by omega)] at this
    simpa using this
structure AskLt (S : AskS) (B : Nat) : Prop where
  p : ∀ g, S.P.A = some ⟨g, 0, none⟩ → g < B
  o : ∀ g, S.O.A = some ⟨g, 0, none⟩ → g < B
structure AskFew (S : AskS) : Prop where
  p : S.P.n ≤ 1000000
  o : S.O.n ≤ 1000000
theorem AskOwn.lt_ {w : World} {B : Nat} {a : AskV} {S : AskS} (h : AskOwn w B a S) : AskLt S w.heap.size := ⟨fun g e => h.parts.lt e, fun g e => h.others.lt e⟩
/-- apart on the bag of two commands' rows. -/
theorem apartBag_any {w : World} {b s ga gc B1 B2 : Nat} {a1 a2 : AskV} {S1 S2 : AskS} (h : BagIs w b s ([.slice S1.O.A S1.O.n S1.O.c] ++ [.slice S2.O.A S2.O.n S2.O.c]) ([.slice S1.P.A S1.P.n S1.P.c] ++ [.slice S2.P.A S2.P.n S2.P.c]) ([.slice (some ⟨ga, 0, none⟩) 1 1] ++ [.slice (some ⟨gc, 0, none⟩) 1 1]))
    (h1 : AskOwn w B1 a1 S1) (h2 : AskOwn w B2 a2 S2) (hl : AskLt S1 B2) (hf1 : AskFew S1) (hf2 : AskFew S2) (ha : Blk w ga 29 (askC a1 S1)) (hc : Blk w gc 29 (askC a2 S2)) (hne : ga ≠ gc) (B : Nat) (hB1 : B ≤ B1) (hB2 : B ≤ B2) (hga : B ≤ ga) (hgc : B ≤ gc) :
    Calls Tryz.prog 34 #[.pointer (some ⟨b, 0, none⟩)] w (fun e w' => e = .returned (.bool true) ∧ Turned (fun g => B ≤ g) w w') := by
  obtain ⟨vt, vp, vk, hb, o1, o2, o3⟩ := h
  obtain ⟨LX, dX, rfl, fX⟩ := bag_rows (w := w) (T := 9) (q := 1) o1 (by simp) (two S1.O.A S2.O.A) (two S1.O.n S2.O.n) (two S1.O.c S2.O.c) (two (textC a1.others) (textC a2.others)) (fun k hk => by
    simp at hk
    rcases (show k = 0 ∨ k = 1 by omega) with rfl | rfl <;> rfl) (fun k hk => by
    simp at hk
    rcases (show k = 0 ∨ k = 1 by omega) with rfl | rfl
    · exact h1.others
    · exact h2.others) (fun j k hj hk hjk g e e2 => by
    simp at hj hk
    rcases (show j = 0 ∨ j = 1 by omega) with rfl | rfl <;> rcases (show k = 0 ∨ k = 1 by omega) with rfl | rfl <;> simp only [two_0, two_1] at e e2
    · exact hjk rfl
    · have := hl.o g e; have := h2.oB g e2; omega
    · have := hl.o g e2; have := h2.oB g e; omega
    · exact hjk rfl) (by decide)
  obtain ⟨LQ, dQ, rfl, fQ⟩ := bag_rows (w := w) (T := 55) (q := 2) o2 (by simp) (two S1.P.A S2.P.A) (two S1.P.n S2.P.n) (two S1.P.c S2.P.c) (two (partC a1.parts) (partC a2.parts)) (fun k hk => by
    simp at hk
    rcases (show k = 0 ∨ k = 1 by omega) with rfl | rfl <;> rfl) (fun k hk => by
    simp at hk
    rcases (show k = 0 ∨ k = 1 by omega) with rfl | rfl
    · exact h1.parts
    · exact h2.parts) (fun j k hj hk hjk g e e2 => by
    simp at hj hk
    rcases (show j = 0 ∨ j = 1 by omega) with rfl | rfl <;> rcases (show k = 0 ∨ k = 1 by omega) with rfl | rfl <;> simp only [two_0, two_1] at e e2
    · exact hjk rfl
    · have := hl.p g e; have := h2.pB g e2; omega
    · have := hl.p g e2; have := h2.pB g e; omega
    · exact hjk rfl) (by decide)
  have own1 : ∀ {g : Nat} {a : AskV} {S : AskS}, Blk w g 29 (askC a S) → OwnE w 29 11 (some ⟨g, 0, none⟩) 1 1 (askC a S).toList := fun hb => ⟨rfl, .inr ⟨_, _, _, rfl, Nat.zero_le _, hb, Nat.le_refl _, by unfold maxLen; omega, rfl, rfl⟩⟩
  obtain ⟨LA, dA, rfl, fA⟩ := bag_rows (w := w) (T := 29) (q := 11) o3 (by simp) (two (some ⟨ga, 0, none⟩) (some ⟨gc, 0, none⟩)) (two 1 1) (two 1 1) (two (askC a1 S1).toList (askC a2 S2).toList) (fun k hk => by
    simp at hk
    rcases (show k = 0 ∨ k = 1 by omega) with rfl | rfl <;> rfl) (fun k hk => by
    simp at hk
    rcases (show k = 0 ∨ k = 1 by omega) with rfl | rfl
    · exact own1 ha
    · exact own1 hc) (fun j k hj hk hjk g e e2 => by
    simp at hj hk
    rcases (show j = 0 ∨ j = 1 by omega) with rfl | rfl <;> rcases (show k = 0 ∨ k = 1 by omega) with rfl | rfl <;> simp only [two_0, two_1] at e e2
    · exact hjk rfl
    · injection e2 with e2; injection e2 with e2; injection e with e; injection e with e; omega
    · injection e2 with e2; injection e2 with e2; injection e with e; injection e with e; omega
    · exact hjk rfl) (by decide)
  refine (apart3_any b _ _ _ _ _ _ _ _ _ _ _ _ _ _ _ _ _ _ _ _ _ w hb fX (by simp) (by simp) (fun k hk => by
    simp at hk
    rcases (show k = 0 ∨ k = 1 by omega) with rfl | rfl
    · exact hf1.o
    · exact hf2.o) fQ (by simp) (by simp) (fun k hk => by
    simp at hk
    rcases (show k = 0 ∨ k = 1 by omega) with rfl | rfl
    · exact hf1.p
    · exact hf2.p) fA (by simp) (by simp) (fun k hk => by
    simp at hk
    rcases (show k = 0 ∨ k = 1 by omega) with rfl | rfl <;> decide)).mono ?_
  rintro e w' ⟨he, ht⟩
  refine ⟨he, ht.mono (fun g hg => .inl ?_)⟩
  rcases hg with ⟨k, hk, e⟩ | ⟨k, hk, e⟩ | ⟨k, hk, e⟩
  · simp at hk
    rcases (show k = 0 ∨ k = 1 by omega) with rfl | rfl <;> simp only [two_0, two_1] at e
    · exact Nat.le_trans hB1 (h1.oB g e)
    · exact Nat.le_trans hB2 (h2.oB g e)
  · simp at hk
    rcases (show k = 0 ∨ k = 1 by omega) with rfl | rfl <;> simp only [two_0, two_1] at e
    · exact Nat.le_trans hB1 (h1.pB g e)
    · exact Nat.le_trans hB2 (h2.pB g e)
  · simp at hk
    rcases (show k = 0 ∨ k = 1 by omega) with rfl | rfl <;> simp only [two_0, two_1] at e
    · injection e with e; injection e with e; omega
    · injection e with e; injection e with e; omega
set_option maxRecDepth 100000 in
set_option maxHeartbeats 1000000 in
/-- ApartAsks of two rows of one command each: true; only what lies from B on turns. -/
theorem apartAsk_any (gl ga gc cl B B1 B2 : Nat) (a1 a2 : AskV) (S1 S2 : AskS) (w : World) (hL : Blk w gl 37 #[.slice (some ⟨ga, 0, none⟩) 1 1, .slice (some ⟨gc, 0, none⟩) 1 1]) (ha : Blk w ga 29 (askC a1 S1)) (hc : Blk w gc 29 (askC a2 S2)) (hne : ga ≠ gc)
    (h1 : AskOwn w B1 a1 S1) (h2 : AskOwn w B2 a2 S2) (hl : AskLt S1 B2) (hf1 : AskFew S1) (hf2 : AskFew S2) (hB1 : B ≤ B1) (hB2 : B ≤ B2) (hga : B ≤ ga) (hgc : B ≤ gc) (hBw : B ≤ w.heap.size) :
    Calls Tryz.prog 12 #[.slice (some ⟨gl, 0, none⟩) 2 cl] w (fun e w' => e = .returned (.bool true) ∧ Turned (fun g => B ≤ g) w w') := by
  have hla := ha.lt
  have hlc := hc.lt
  have H := Lib.hid (And.intro hL (And.intro ha (And.intro hc (And.intro h1 h2))))
  have hl' := Lib.hid hl
  clear hL ha hc h1 h2 hl
  go_enter Tryz.func12, Tryz.ntmps12
  go_wp2
  go_loopw [4] (fun i wr => AptR ga gc S1 S2 w w.heap.size i wr) (fun i _ => 2 - (intOf i).toNat)
  case atStart => exact ⟨0, by omega, rfl, bag_new _ _ _ (Blk.new _ _ _), (Turned.refl _ w).alloc _⟩
  case round =>
    obtain ⟨k, hk, rfl, hB, hT⟩ := hrel
    have hB := Lib.hid hB
    have hT := Lib.hid hT
    have hsz := hT.out.size
    rcases (show k = 0 ∨ k = 1 ∨ k = 2 by omega) with rfl | rfl | rfl
    · have q0 := (H.out.1.turned hT.out (fun e => e)).cell 0
      simp only [List.getElem?_toArray, List.getElem?_cons_succ, List.getElem?_cons_zero] at q0
      go_wp2_with fail
      refine (putAsk_any w.heap.size w.heap.size ga 1 [] [] [] a1 S1 _ (by simpa [upTo] using hB.out) (Nat.le_refl _) hla hsz (H.out.2.1.turned hT.out (fun e => e)) (by simp) (by simp) (by simp)).mono ?_
      rintro e w2 ⟨rfl, hP, hT2, _⟩
      have hR := Lib.hid (show AptR ga gc S1 S2 w w.heap.size (.int .i64 ((1 : Nat) : Int)) w2 from ⟨1, by omega, rfl, by simpa [upTo] using hP, hT.out.trans (W := fun _ => False) hT2 (fun _ e => e) (fun _ e => .inr e)⟩)
      clear hP hT2
      go_wp2_with fail
      go_roundw
      case rel => exact hR.out
      case measure => simp [intOf]
    · have q0 := (H.out.1.turned hT.out (fun e => e)).cell 1
      simp only [List.getElem?_toArray, List.getElem?_cons_succ, List.getElem?_cons_zero] at q0
      go_wp2_with fail
      refine (putAsk_any w.heap.size w.heap.size gc 1 [.slice S1.O.A S1.O.n S1.O.c] [.slice S1.P.A S1.P.n S1.P.c] [.slice (some ⟨ga, 0, none⟩) 1 1] a2 S2 _ (by simpa [upTo] using hB.out) (Nat.le_refl _) hlc hsz (H.out.2.2.1.turned hT.out (fun e => e)) (by simp) (by simp) (by simp)).mono ?_
      rintro e w2 ⟨rfl, hP, hT2, _⟩
      have hR := Lib.hid (show AptR ga gc S1 S2 w w.heap.size (.int .i64 ((2 : Nat) : Int)) w2 from ⟨2, by omega, rfl, by simpa [upTo] using hP, hT.out.trans (W := fun _ => False) hT2 (fun _ e => e) (fun _ e => .inr e)⟩)
      clear hP hT2
      go_wp2_with fail
      go_roundw
      case rel => exact hR.out
      case measure => simp [intOf]
    · go_wp2_with fail
      have hT' := hT.out
      refine (apartBag_any (s := w.heap.size) (ga := ga) (gc := gc) (B1 := B1) (B2 := B2) (a1 := a1) (a2 := a2) (by simpa [upTo] using hB.out) (H.out.2.2.2.1.fresh hT') (H.out.2.2.2.2.fresh hT') hl'.out hf1 hf2 (H.out.2.1.turned hT' (fun e => e)) (H.out.2.2.1.turned hT' (fun e => e)) hne B hB1 hB2 hga hgc).mono ?_
      rintro e w2 ⟨rfl, hT2⟩
      clear hT'
      have hT2 := Lib.hid hT2
      go_wp2_with fail
      go_ret
      exact ⟨rfl, (hT.out.mono (fun _ e => e.elim)).trans (W := fun g => B ≤ g) hT2.out (fun _ e => e) (fun _ e => .inl e)⟩
end Go.Proofs.YtijmfglgeaaoaaaGreatDoor

