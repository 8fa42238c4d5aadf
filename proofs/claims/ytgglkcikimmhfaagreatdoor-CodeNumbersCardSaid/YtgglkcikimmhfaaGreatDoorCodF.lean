/-
  storemanlaw03.awake: the chapter's examples stand. Conditions: three variables of the library's hold what their initialisers lay.
-/
import Derived.Test.YtgglkcikimmhfaaGreatDoorCodE
namespace Go.Proofs.YtgglkcikimmhfaaGreatDoor
open Go.RowKit Go.Maps
set_option linter.unusedVariables false

theorem num_m5 : numL [45, 53] = some (-5) := by
  have h := numL_itoa (-5) (by unfold int64; omega)
  have e : Lib.itoa (-5) = [45, 53] := by
    unfold Lib.itoa
    rw [if_pos (by omega), Lib.decDigits_one (by decide)]
    rfl
  rw [e] at h
  exact h
theorem itoa_m12 : Lib.itoa (-12) = [45, 49, 50] := by
  unfold Lib.itoa
  rw [if_pos (by omega), Lib.decDigits_two (by decide) (by decide)]
  rfl
set_option maxRecDepth 100000 in
set_option maxHeartbeats 1000000 in
theorem awake03_any (w : World) (hv : VarsOk w) : Calls Tryz.prog 11 #[] w (OkNew w) := by
  have hg := fun (w : World) => (get_any (some ⟨w.heap.size, 0, none⟩) 4 4 [2, 65, 66, 9] (w.alloc (.cells #[.int .u8 2, .int .u8 65, .int .u8 66, .int .u8 9] 5)) (RowB.bytR (U := 5) (cap := 4) ⟨rfl, Nat.le_refl _, by unfold maxLen; omega, _, Blk.new _ _ _, rfl, rfl⟩) (by unfold isByte; simp) (Nat.le_refl _) (by unfold maxLen; omega))
  have eg : getL [2, 65, 66, 9] = some [65, 66] := by decide
  rw [eg] at hg
  have hn := fun (w : World) (hv : VarsOk w) => number_any ⟨#[45, 53]⟩ w hv (by decide)
  rw [show (⟨#[45, 53]⟩ : ByteArray).data.toList = [45, 53] from rfl, num_m5] at hn
  have hr1 := fun (w : World) => right_any ⟨#[75, 73, 84, 45, 55]⟩ w (by decide)
  rw [show codeL (⟨#[75, 73, 84, 45, 55]⟩ : ByteArray).data.toList = true by decide] at hr1
  have hr2 := fun (w : World) => right_any ⟨#[55, 65]⟩ w (by decide)
  rw [show codeL (⟨#[55, 65]⟩ : ByteArray).data.toList = false by decide] at hr2
  have hr3 := fun (w : World) => right_any ⟨#[]⟩ w (by decide)
  rw [show codeL (⟨#[]⟩ : ByteArray).data.toList = false by decide] at hr3
  have hp := fun (w : World) => put_any ⟨#[65, 66]⟩ w (by decide)
  rw [show putL (⟨#[65, 66]⟩ : ByteArray).data.toList = [2, 65, 66] by decide] at hp
  have ht := fun (w : World) (hv : VarsOk w) => text_any (-12) w hv (by unfold int64; omega)
  rw [itoa_m12] at ht
  have Hg := Lib.hid hg
  have Hn := Lib.hid hn
  have H1 := Lib.hid hr1
  have H2 := Lib.hid hr2
  have H3 := Lib.hid hr3
  have Hp := Lib.hid hp
  have Ht := Lib.hid ht
  clear hg hn hr1 hr2 hr3 hp ht eg
  go_enter Tryz.func11, Tryz.ntmps11
  go_wp2_with fail
  refine (Hg.out w).mono ?_
  rintro e w1 ⟨rfl, t1⟩
  have T1 := Lib.hid (((Turned.refl (fun _ => False) w).alloc (.cells #[.int .u8 2, .int .u8 65, .int .u8 66, .int .u8 9] 5)).trans (W := fun _ => False) t1 (fun _ e => e) (fun _ e => e.elim))
  clear t1
  go_wp2_with fail
  refine (Hn.out _ (hv.turned T1.out)).mono ?_
  rintro e w2 ⟨rfl, t2⟩
  have T2 := Lib.hid (T1.out.trans (W := fun _ => False) t2 (fun _ e => e) (fun _ e => e.elim))
  clear t2 T1
  go_wp2_with fail
  refine (H1.out _).mono ?_
  rintro e w3 ⟨rfl, t3⟩
  have T3 := Lib.hid (T2.out.trans (W := fun _ => False) t3 (fun _ e => e) (fun _ e => e.elim))
  clear t3 T2
  go_wp2_with fail
  refine (H2.out _).mono ?_
  rintro e w4 ⟨rfl, t4⟩
  have T4 := Lib.hid (T3.out.trans (W := fun _ => False) t4 (fun _ e => e) (fun _ e => e.elim))
  clear t4 T3
  go_wp2_with fail
  refine (H3.out _).mono ?_
  rintro e w5 ⟨rfl, t5⟩
  have T5 := Lib.hid (T4.out.trans (W := fun _ => False) t5 (fun _ e => e) (fun _ e => e.elim))
  clear t5 T4
  go_wp2_with fail
  refine (Hp.out _).mono ?_
  rintro e w6 ⟨A, c, rfl, ho, _, t6⟩
  have T6 := Lib.hid (T5.out.trans (W := fun _ => False) t6 (fun _ e => e) (fun _ e => e.elim))
  have ho' := Lib.hid ho
  clear t6 T5 ho
  go_wp2_with fail
  obtain ⟨g, rfl, hr⟩ := ho'.out.some_ (by decide)
  have hr7 := hr.turned ((Turned.refl (fun _ => False) w6).alloc (.cells #[.int .u8 2, .int .u8 65, .int .u8 66] 5)) (fun e => e)
  refine (same_yes _ _ _ _ _ _ _ _ _ hr7.bytR (RowB.bytR (U := 5) (zs := [2, 65, 66]) (cap := 3) ⟨rfl, Nat.le_refl _, by unfold maxLen; omega, _, Blk.new _ _ _, rfl, rfl⟩) rfl).mono ?_
  rintro e w7 ⟨rfl, nq, rfl⟩
  have T7 := Lib.hid ((T6.out.alloc (.cells #[.int .u8 2, .int .u8 65, .int .u8 66] 5)).drewN nq)
  clear hr hr7 T6
  go_wp2_with fail
  refine (Ht.out _ (hv.turned T7.out)).mono ?_
  rintro e w8 ⟨rfl, t8⟩
  have T8 := Lib.hid (T7.out.trans (W := fun _ => False) t8 (fun _ e => e) (fun _ e => e.elim))
  clear t8 T7
  go_wp2_with fail
  go_ret
  exact ⟨rfl, T8.out⟩
end Go.Proofs.YtgglkcikimmhfaaGreatDoor
