/-
  storemanlaw20.awake: a record is kept over a crash, and another one lost. No condition.
-/
import Derived.Test.YtfheikmjjijdpaaDoorLgM
namespace Go.Proofs.YtfheikmjjijdpaaDoor
open Go.RowKit Go.Maps
set_option linter.unusedVariables false
set_option linter.unusedSimpArgs false

theorem comW_ok (n : Int) (h : I64 n) : (comW n).Ok := by
  have z : I64 0 := ⟨by decide, by decide⟩
  exact ⟨z, h, z, z, (show isByte 3 from ⟨by decide, by decide⟩), z, by simp [comW], by simp [comW], by simp [comW], by simp [comW], by simp [comW]⟩
theorem com7_right : rightR (comW 7) = true := by decide
theorem com8_right : rightR (comW 8) = true := by decide
theorem com7_len : (putR (comW 7)).length = 19 := by decide
theorem com8_len : (putR (comW 8)).length = 19 := by decide
theorem com_is (n : Int) (w : World) : RecIs w (comW n) RecS.nil := by
  have hb : SlB w Sl.nil [] := ⟨⟨BytR.none_ w, fun _ => ⟨rfl, rfl⟩⟩, Nat.le_refl _, by unfold Sl.nil maxLen; simp, Nat.zero_le _⟩
  have hp : SlP w Sl.nil [] := ⟨CelR.none_ w, rfl, fun _ => ⟨rfl, rfl⟩, Nat.le_refl _, by unfold Sl.nil maxLen; simp, Nat.zero_le _⟩
  exact ⟨hb, hb, hb, hp, hp⟩
def awD : DA := (((DA.new 8).write 2 (shtL 0 1 0 (putR (comW 7)))).sync).wake []
theorem awD_2 : awD.lat 2 = shtL 0 1 0 (putR (comW 7)) := by rfl
theorem awD_3 : awD.lat 3 = noughts := by rfl
set_option maxRecDepth 100000 in
set_option maxHeartbeats 4000000 in
theorem awake20_any (w : World) : Calls Tryd.prog 5 #[] w (OkNew w) := by
  go_enter Tryd.func5, Tryd.ntmps5
  go_wp2_with fail
  refine (new_yes 8 w (by omega) (by omega)).mono ?_
  rintro e w1 ⟨d, ms, mo, rfl, hd, t1, hnew, _⟩
  have D1 := Lib.hid hd
  have T1 := Lib.hid t1
  have HN := Lib.hid hnew
  have HdB := Lib.hid (fun i (hi : dskW d ms mo i) => hd.lt hi)
  clear hd t1 hnew
  go_wp2_with fail
  refine (lopen_zero d ms mo (DA.new 8) 2 4 1 w1 D1.out rfl (by omega) (by omega) (by show (2 : Int) + 4 ≤ 8; omega) ⟨by omega, by omega⟩ rfl).mono ?_
  rintro e w2 ⟨L, S, g, gb, cS, rfl, l2, t2⟩
  have L2 := Lib.hid l2
  have T2 := Lib.hid (T1.out.trans (W := fun _ => False) t2 (fun _ e => e) (fun _ e => e.elim))
  have D2 := Lib.hid (D1.out.fresh t2)
  have s12 := Lib.hid t2.size
  clear l2 t2 D1
  go_wp2_with fail
  refine (commit20_any 7 w2).mono ?_
  rintro e w3 ⟨rfl, t3⟩
  have L3 := Lib.hid (L2.out.fresh t3)
  have T3 := Lib.hid (T2.out.trans (W := fun _ => False) t3 (fun _ e => e) (fun _ e => e.elim))
  have D3 := Lib.hid (D2.out.fresh t3)
  have s13 := Lib.hid (Nat.le_trans s12.out t3.size)
  clear t3 L2 D2 T2 s12
  go_wp2_with fail
  refine (lapp_fit w1.heap.size (LgS.new L d S g gb 2 4 1 cS) (comW 7) RecS.nil w3 L3.out com7_right (com_is 7 w3) s13.out (by rw [com7_len]; omega) (by show 0 < 10000000; omega) (by rw [com7_len]; show 0 + 19 ≤ 496; omega)).mono ?_
  rintro e w4 ⟨gb1, c1, Al1, cl1, rfl, l4, t4⟩
  have ol := l4.lsn.some_ (show 0 < 1 by omega)
  obtain ⟨al1, eal, _⟩ := ol
  simp only at eal
  subst eal
  have L4 := Lib.hid (show LogW w4 w1.heap.size ⟨L, d, S, g, gb1, 2, 4, 1, 1, 0, cS, [], some ⟨al1, 0, none⟩, cl1, [1], 0, 1, 0, 0, 0, putR (comW 7), c1, true⟩ from l4)
  have T4 := Lib.hid (T3.out.trans (W := fun _ => False) t4 (fun _ e => e) (fun i e => .inr (by have h1 := T1.out.size; have h2 : w1.heap.size ≤ i := e; omega)))
  have D4 := Lib.hid (D3.out.turned t4 (fun q hq e => by have h1 := HdB.out q hq; have h2 : w1.heap.size ≤ q := e; omega))
  have s14 := Lib.hid (Nat.le_trans s13.out t4.size)
  clear l4 t4 L3 D3 T3 s13
  rw [show (LgS.new L d S g gb 2 4 1 cS).num * 512 + ((LgS.new L d S g gb 2 4 1 cS).body.length : Int) + 1 = 1 from rfl]
  go_wp2_with fail
  refine (lforce_any w1.heap.size ms mo al1 0 ⟨L, d, S, g, gb1, 2, 4, 1, 1, 0, cS, [], some ⟨al1, 0, none⟩, cl1, [1], 0, 1, 0, 0, 0, putR (comW 7), c1, true⟩ (DA.new 8) w4 L4.out rfl D4.out rfl rfl HdB.out s14.out (by show (putR (comW 7)).length < 496; rw [com7_len]; omega) (putR_bytes com7_right (comW_ok 7 (by unfold I64; decide))) (by show (0 : Int) ≤ 2; omega) (by show (2 : Int) + 4 ≤ 8; omega) rfl (by show (0 : Int) ≤ 0; omega) (by show (0 : Int) < ((putR (comW 7)).length : Int); rw [com7_len]; omega) (by simp) (by show ([1] : List Int).countP (· < 0 * 512 + 0 + 1) = 0; decide) (by show 0 < 1; omega) (by show (1 : Int) ≠ 0 * 512 + ((putR (comW 7)).length : Int) + 1; rw [com7_len]; decide)).mono ?_
  rintro e w5 ⟨rfl, d5, l5, t5⟩
  have L5 := Lib.hid (show LogW w5 w1.heap.size ⟨L, d, S, g, gb1, 2, 4, 1, 1, 0, cS, [], some ⟨al1, 0, none⟩, cl1, [1], 0, 1, 0, 0, 19, putR (comW 7), c1, false⟩ by have h9 := l5; rw [com7_len] at h9; exact h9)
  have D5 := Lib.hid (show IsDisk w5 d ms mo ((DA.new 8).write 2 (shtL 0 1 0 (putR (comW 7)))).sync from d5)
  have hgB : w1.heap.size ≤ g := L4.out.bg
  have T5 := Lib.hid (T4.out.trans (W := fun _ => False) t5 (fun _ e => e) (fun i e => .inr (e.elim (fun e => by have h1 := T1.out.size; have h2 : i = g := e; omega) (fun e => HN.out i e))))
  have s15 := Lib.hid (Nat.le_trans s14.out t5.size)
  clear l5 d5 t5 L4 D4 T4 s14
  go_wp2_with fail
  refine (commit20_any 8 w5).mono ?_
  rintro e w6 ⟨rfl, t6⟩
  have L6 := Lib.hid (L5.out.fresh t6)
  have T6 := Lib.hid (T5.out.trans (W := fun _ => False) t6 (fun _ e => e) (fun _ e => e.elim))
  have D6 := Lib.hid (D5.out.fresh t6)
  have s16 := Lib.hid (Nat.le_trans s15.out t6.size)
  clear t6 L5 D5 T5 s15
  go_wp2_with fail
  refine (lapp_fit w1.heap.size ⟨L, d, S, g, gb1, 2, 4, 1, 1, 0, cS, [], some ⟨al1, 0, none⟩, cl1, [1], 0, 1, 0, 0, 19, putR (comW 7), c1, false⟩ (comW 8) RecS.nil w6 L6.out com8_right (com_is 8 w6) s16.out (by rw [com8_len]; omega) (by show 1 < 10000000; omega) (by show (putR (comW 7)).length + (putR (comW 8)).length ≤ 496; rw [com7_len, com8_len]; omega)).mono ?_
  rintro e w7 ⟨gb2, c2, Al2, cl2, rfl, l7, t7⟩
  have ol := l7.lsn.some_ (show 0 < 2 by omega)
  obtain ⟨al2, eal, _⟩ := ol
  simp only at eal
  subst eal
  have L7 := Lib.hid (show LogW w7 w1.heap.size ⟨L, d, S, g, gb2, 2, 4, 1, 1, 0, cS, [], some ⟨al2, 0, none⟩, cl2, [1, 20], 0, 1, 0, 0, 19, putR (comW 7) ++ putR (comW 8), c2, false⟩ by have h9 := l7; simp only at h9; rw [com7_len] at h9; exact h9)
  have T7 := Lib.hid (T6.out.trans (W := fun _ => False) t7 (fun _ e => e) (fun i e => .inr (by have h1 := T1.out.size; have h2 : w1.heap.size ≤ i := e; omega)))
  have D7 := Lib.hid (D6.out.turned t7 (fun q hq e => by have h1 := HdB.out q hq; have h2 : w1.heap.size ≤ q := e; omega))
  clear l7 t7 L6 D6 T6 s16
  simp only
  rw [com7_len]
  rw [show (0 : Int) * 512 + ((19 : Nat) : Int) + 1 = 20 from rfl]
  go_wp2_with fail
  have hsf := lsafe_any w1.heap.size al2 1 ⟨L, d, S, g, gb2, 2, 4, 1, 1, 0, cS, [], some ⟨al2, 0, none⟩, cl2, [1, 20], 0, 1, 0, 0, 19, putR (comW 7) ++ putR (comW 8), c2, false⟩ w7 L7.out rfl rfl (by show (0 : Int) ≤ 19; omega) (by show (19 : Int) < ((putR (comW 7) ++ putR (comW 8)).length : Int); rw [List.length_append, com7_len, com8_len]; omega) (by simp) (by show ([1, 20] : List Int).countP (· < 0 * 512 + 19 + 1) = 1; decide) (by show 1 < 2; omega)
  refine hsf.mono ?_
  clear hsf
  simp only
  rw [show ([1, 20] : List Int).getD 1 0 = 20 from rfl]
  rintro e w8 ⟨rfl, t8⟩
  have L8 := Lib.hid (L7.out.fresh t8)
  have T8 := Lib.hid (T7.out.trans (W := fun _ => False) t8 (fun _ e => e) (fun _ e => e.elim))
  have D8 := Lib.hid (D7.out.fresh t8)
  clear t8 L7 D7 T7
  go_wp2_with fail
  refine (lroom_any _ _ _ _ _ _ _ _ _ _ _ w8 L8.out.read).mono ?_
  simp only
  rw [show max ((4 : Int) - 1 - ((0 + 1 : Nat) : Int) - 1) 0 * 248 = 248 from by decide]
  rintro e w9 ⟨rfl, t9⟩
  have T9 := Lib.hid (T8.out.trans (W := fun _ => False) t9 (fun _ e => e) (fun _ e => e.elim))
  have D9 := Lib.hid (D8.out.fresh t9)
  clear t9 D8 T8 L8
  go_wp2_with fail
  refine (wake_any d ms mo _ none 0 0 [] w9 D9.out ⟨rfl, by omega, by simp, by omega⟩).mono ?_
  rintro e w10 ⟨rfl, d10, t10⟩
  have D10 := Lib.hid (show IsDisk w10 d ms mo awD from d10)
  have T10 := Lib.hid (T9.out.trans (W := fun _ => False) t10 (fun _ e => e) (fun i e => .inr (HN.out i e)))
  clear d10 t10 D9 T9
  go_wp2_with fail
  have hps : putsL [comW 7] = putR (comW 7) := by simp [putsL]
  refine (lopen_one d ms mo awD 2 4 2 1 [comW 7] w10 D10.out rfl (by omega) (by omega) (by show (2 : Int) + 4 ≤ 8; omega) ⟨by omega, by omega⟩ (by omega) (fun R hR => by rw [List.mem_singleton.1 hR]; exact ⟨com7_right, comW_ok 7 ⟨by decide, by decide⟩⟩) (by rw [hps, com7_len]; omega) (by rw [hps, com7_len]; omega) (by rw [hps]; exact awD_2) awD_3).mono ?_
  rintro e w11 ⟨L9, S9, g9, gb9, cS9, al9, cl9, c9, rfl, l11, t11⟩
  have L11 := Lib.hid l11
  have T11 := Lib.hid (T10.out.trans (W := fun _ => False) t11 (fun _ e => e) (fun _ e => e.elim))
  clear l11 t11 D10 T10
  go_wp2_with fail
  have hen := lend_any _ _ _ _ _ _ _ _ _ _ _ w11 L11.out.read
  unfold LgS.one at hen
  simp only at hen
  rw [hps, com7_len, show (0 : Int) * 512 + ((19 : Nat) : Int) + 1 = 20 from rfl] at hen
  refine hen.mono ?_
  clear hen
  rintro e w12 ⟨rfl, t12⟩
  have L12 := Lib.hid (L11.out.fresh t12)
  have T12 := Lib.hid (T11.out.trans (W := fun _ => False) t12 (fun _ e => e) (fun _ e => e.elim))
  clear t12 L11 T11
  go_wp2_with fail
  refine (lrd_any _ L9 d S9 g9 gb9 2 4 2 cS9 al9 cl9 c9 1 (comW 7) w12 L12.out com7_right (comW_ok 7 ⟨by decide, by decide⟩)).mono ?_
  rintro e w13 ⟨SS, rfl, t13⟩
  unfold recC Rec.bare comW
  simp only
  have L13 := Lib.hid (L12.out.fresh t13)
  have T13 := Lib.hid (T12.out.trans (W := fun _ => False) t13 (fun _ e => e) (fun _ e => e.elim))
  clear t13 L12 T12
  go_wp2_with fail
  refine (lfr_any _ L9 d S9 g9 gb9 2 4 2 cS9 al9 cl9 c9 1 (comW 7) _ (L13.out.fresh ((Turned.refl (fun _ => False) w13).alloc _)) com7_right (comW_ok 7 ⟨by decide, by decide⟩)).mono ?_
  rintro e w14 ⟨A, cc, rfl, t14⟩
  have T14 := Lib.hid ((T13.out.alloc _).trans (W := fun _ => False) t14 (fun _ e => e) (fun _ e => e.elim))
  clear t14
  go_wp2_with fail
  go_ret
  exact ⟨rfl, T14.out⟩
end Go.Proofs.YtfheikmjjijdpaaDoor
