/-
  CodeTexts' walk. Conditions: three variables of the library's hold what their initialisers lay.
-/
import Derived.Test.YtgglkcikimmhfaaGreatDoorCodF
import Derived.Test.YtgglkcikimmhfaaGreatDoorCodH
namespace Go.Proofs.YtgglkcikimmhfaaGreatDoor
open Go.RowKit Go.Maps
set_option linter.unusedVariables false

theorem rnumber_any (s : ByteArray) (w : World) (hs : s.size ≤ 9223372036854775807) : Calls Tryz.prog 12 #[.string s] w (RNumPost (numL s.data.toList) w) := by
  rw [← refNum_eq]
  by_cases h0 : 0 < s.size
  · by_cases hc : (s[0]'h0).toNat = 45
    · exact rnumber_neg s w hs h0 hc
    · exact rnumber_pos s w hs h0 hc
  · obtain rfl := ba_empty (s := s) (by omega)
    have hno := Lib.hid (refMag_no (neg := false) (d := ([] : List UInt8)) (.inl rfl))
    clear h0 hs
    go_enter Tryz.func12, Tryz.ntmps12
    go_wp2
    go_ret2
    have e : refNum (⟨#[]⟩ : ByteArray).data.toList = none := hno.out
    rw [e]
    exact ⟨rfl, rfl⟩
theorem OwnV.bytR {w : World} {A : Option Addr} {n c : Nat} {zs : List Int} (h : OwnV w A n c zs) : BytR w A n zs := by
  rcases h.row_or with ⟨rfl, rfl, rfl, rfl⟩ | ⟨g, rfl, hr⟩
  · exact BytR.none_ w
  · exact hr.bytR
set_option maxRecDepth 100000 in
set_option maxHeartbeats 1000000 in
theorem codeTexts_any (s : ByteArray) (w : World) (hv : VarsOk w) (hs : s.size ≤ maxLen) :
    Calls Tryz.prog 4 #[.string s] w (OkNew w) := by
  unfold maxLen at hs
  by_cases hgt : 100000 < s.size
  · have hi : (100000 : Int) < (s.size : Int) := by omega
    go_enter Tryz.func4, Tryz.ntmps4
    go_wp2_with fail
    refine (awake03_any _ hv).mono ?_
    rintro e w1 ⟨rfl, t1⟩
    go_wp2_with fail
    go_ret
    exact ⟨rfl, t1⟩
  · have hi : (s.size : Int) ≤ 100000 := by omega
    have H1 := Lib.hid (fun (w : World) (hv : VarsOk w) => number_any s w hv (by omega))
    have H2 := Lib.hid (fun (w : World) => rnumber_any s w (by omega))
    have H3 := Lib.hid (fun (w : World) => right_any s w (by omega))
    have H4 := Lib.hid (fun (w : World) => rright_any s w (by omega))
    have H5 := Lib.hid (fun (w : World) => put_any s w (by omega))
    have H6 := Lib.hid (fun (w : World) => rput_any s w (by omega))
    unfold NumPost at H1
    unfold RNumPost at H2
    generalize (numL s.data.toList).getD 0 = nn at H1 H2
    generalize (numL s.data.toList).isSome = bb at H1 H2
    generalize codeL s.data.toList = cc at H3 H4
    generalize putL s.data.toList = zs at H5 H6
    go_enter Tryz.func4, Tryz.ntmps4
    go_wp2_with fail
    refine (H1.out _ hv).mono ?_
    rintro e w1 ⟨rfl, t1⟩
    have T1 := Lib.hid t1
    clear t1
    go_wp2_with fail
    refine (H2.out _).mono ?_
    rintro e w2 ⟨rfl, rfl⟩
    go_wp2_with fail
    refine (H3.out _).mono ?_
    rintro e w3 ⟨rfl, t3⟩
    have T3 := Lib.hid (T1.out.trans (W := fun _ => False) t3 (fun _ e => e) (fun _ e => e.elim))
    clear t3 T1
    go_wp2_with fail
    refine (H4.out _).mono ?_
    rintro e w4 ⟨rfl, rfl⟩
    go_wp2_with fail
    refine (H5.out _).mono ?_
    rintro e w5 ⟨A5, c5, rfl, o5, _, t5⟩
    have T5 := Lib.hid (T3.out.trans (W := fun _ => False) t5 (fun _ e => e) (fun _ e => e.elim))
    have o5' := Lib.hid o5
    clear t5 T3 o5
    go_wp2_with fail
    refine (H6.out _).mono ?_
    rintro e w6 ⟨A6, c6, rfl, o6, _, t6⟩
    have T6 := Lib.hid (T5.out.trans (W := fun _ => False) t6 (fun _ e => e) (fun _ e => e.elim))
    have o6' := Lib.hid (o5'.out.turned t6 (fun _ _ e => e))
    have o6'' := Lib.hid o6
    clear t6 T5 o5' o6
    go_wp2_with fail
    refine (same_yes _ _ _ _ _ _ _ _ _ o6'.out.bytR o6''.out.bytR rfl).mono ?_
    rintro e w7 ⟨rfl, nq, rfl⟩
    go_wp2_with fail
    refine (awake03_any _ (hv.turned (T6.out.drewN nq))).mono ?_
    rintro e w8 ⟨rfl, t8⟩
    go_wp2_with fail
    go_ret
    exact ⟨rfl, (T6.out.drewN nq).trans (W := fun _ => False) t8 (fun _ e => e) (fun _ e => e.elim)⟩
end Go.Proofs.YtgglkcikimmhfaaGreatDoor
