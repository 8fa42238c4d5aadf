/-
  The document's kind of a word, and a session's number. No condition but that the word is a text.
-/
import Derived.Test.YtglojnmcbochaaaGreatDoorSAskB
import Derived.Test.YtglojnmcbochaaaGreatDoorSLnsP
namespace Go.Proofs.YtglojnmcbochaaaGreatDoor
open Go.RowKit Go.Maps
set_option linter.unusedVariables false
set_option linter.unusedSimpArgs false

def kindV (wd : List UInt8) : Value := .tuple #[.int .u8 (kindW wd), .string (fBA ((fieldsK (kindW wd)).getD []))]
theorem kindW_val (wd : List UInt8) (k : Int) (h : kindW wd = k) : kindV wd = .tuple #[.int .u8 k, .string (fBA ((fieldsK k).getD []))] := by
  unfold kindV
  rw [h]
set_option maxRecDepth 100000 in
set_option maxHeartbeats 4000000 in
theorem rkind_any (wd : List UInt8) (w : World) : Calls Tryz.prog 81 #[.string ⟨wd.toArray⟩] w (RetSame (kindV wd) w) := by
  by_cases h_item : wd = [105, 116, 101, 109]
  · have hk : kindW wd = 1 := by
      unfold kindW
      rw [if_pos h_item]
    have hk := Lib.hid (kindW_val wd _ hk)
    have q_item : (wd == [105, 116, 101, 109]) = true := by rw [h_item]; rfl
    clear h_item
    go_enter Tryz.func81, Tryz.ntmps81
    go_wp2
    go_ret2
    rw [hk.out]
    exact ⟨rfl, rfl⟩
  have n_item := h_item
  clear h_item
  have q_item : (wd == [105, 116, 101, 109]) = false := beq_eq_false_iff_ne.2 n_item
  by_cases h_kit : wd = [107, 105, 116]
  · have hk : kindW wd = 2 := by
      unfold kindW
      rw [if_neg n_item, if_pos h_kit]
    have hk := Lib.hid (kindW_val wd _ hk)
    have q_kit : (wd == [107, 105, 116]) = true := by rw [h_kit]; rfl
    clear h_kit
    go_enter Tryz.func81, Tryz.ntmps81
    go_wp2
    go_ret2
    rw [hk.out]
    exact ⟨rfl, rfl⟩
  have n_kit := h_kit
  clear h_kit
  have q_kit : (wd == [107, 105, 116]) = false := beq_eq_false_iff_ne.2 n_kit
  by_cases h_others : wd = [111, 116, 104, 101, 114, 115]
  · have hk : kindW wd = 3 := by
      unfold kindW
      rw [if_neg n_item, if_neg n_kit, if_pos h_others]
    have hk := Lib.hid (kindW_val wd _ hk)
    have q_others : (wd == [111, 116, 104, 101, 114, 115]) = true := by rw [h_others]; rfl
    clear h_others
    go_enter Tryz.func81, Tryz.ntmps81
    go_wp2
    go_ret2
    rw [hk.out]
    exact ⟨rfl, rfl⟩
  have n_others := h_others
  clear h_others
  have q_others : (wd == [111, 116, 104, 101, 114, 115]) = false := beq_eq_false_iff_ne.2 n_others
  by_cases h_receive : wd = [114, 101, 99, 101, 105, 118, 101]
  · have hk : kindW wd = 4 := by
      unfold kindW
      rw [if_neg n_item, if_neg n_kit, if_neg n_others, if_pos h_receive]
    have hk := Lib.hid (kindW_val wd _ hk)
    have q_receive : (wd == [114, 101, 99, 101, 105, 118, 101]) = true := by rw [h_receive]; rfl
    clear h_receive
    go_enter Tryz.func81, Tryz.ntmps81
    go_wp2
    go_ret2
    rw [hk.out]
    exact ⟨rfl, rfl⟩
  have n_receive := h_receive
  clear h_receive
  have q_receive : (wd == [114, 101, 99, 101, 105, 118, 101]) = false := beq_eq_false_iff_ne.2 n_receive
  by_cases h_order : wd = [111, 114, 100, 101, 114]
  · have hk : kindW wd = 5 := by
      unfold kindW
      rw [if_neg n_item, if_neg n_kit, if_neg n_others, if_neg n_receive, if_pos h_order]
    have hk := Lib.hid (kindW_val wd _ hk)
    have q_order : (wd == [111, 114, 100, 101, 114]) = true := by rw [h_order]; rfl
    clear h_order
    go_enter Tryz.func81, Tryz.ntmps81
    go_wp2
    go_ret2
    rw [hk.out]
    exact ⟨rfl, rfl⟩
  have n_order := h_order
  clear h_order
  have q_order : (wd == [111, 114, 100, 101, 114]) = false := beq_eq_false_iff_ne.2 n_order
  by_cases h_due : wd = [100, 117, 101]
  · have hk : kindW wd = 6 := by
      unfold kindW
      rw [if_neg n_item, if_neg n_kit, if_neg n_others, if_neg n_receive, if_neg n_order, if_pos h_due]
    have hk := Lib.hid (kindW_val wd _ hk)
    have q_due : (wd == [100, 117, 101]) = true := by rw [h_due]; rfl
    clear h_due
    go_enter Tryz.func81, Tryz.ntmps81
    go_wp2
    go_ret2
    rw [hk.out]
    exact ⟨rfl, rfl⟩
  have n_due := h_due
  clear h_due
  have q_due : (wd == [100, 117, 101]) = false := beq_eq_false_iff_ne.2 n_due
  by_cases h_drop : wd = [100, 114, 111, 112]
  · have hk : kindW wd = 7 := by
      unfold kindW
      rw [if_neg n_item, if_neg n_kit, if_neg n_others, if_neg n_receive, if_neg n_order, if_neg n_due, if_pos h_drop]
    have hk := Lib.hid (kindW_val wd _ hk)
    have q_drop : (wd == [100, 114, 111, 112]) = true := by rw [h_drop]; rfl
    clear h_drop
    go_enter Tryz.func81, Tryz.ntmps81
    go_wp2
    go_ret2
    rw [hk.out]
    exact ⟨rfl, rfl⟩
  have n_drop := h_drop
  clear h_drop
  have q_drop : (wd == [100, 114, 111, 112]) = false := beq_eq_false_iff_ne.2 n_drop
  by_cases h_arrive : wd = [97, 114, 114, 105, 118, 101]
  · have hk : kindW wd = 8 := by
      unfold kindW
      rw [if_neg n_item, if_neg n_kit, if_neg n_others, if_neg n_receive, if_neg n_order, if_neg n_due, if_neg n_drop, if_pos h_arrive]
    have hk := Lib.hid (kindW_val wd _ hk)
    have q_arrive : (wd == [97, 114, 114, 105, 118, 101]) = true := by rw [h_arrive]; rfl
    clear h_arrive
    go_enter Tryz.func81, Tryz.ntmps81
    go_wp2
    go_ret2
    rw [hk.out]
    exact ⟨rfl, rfl⟩
  have n_arrive := h_arrive
  clear h_arrive
  have q_arrive : (wd == [97, 114, 114, 105, 118, 101]) = false := beq_eq_false_iff_ne.2 n_arrive
  by_cases h_need : wd = [110, 101, 101, 100]
  · have hk : kindW wd = 9 := by
      unfold kindW
      rw [if_neg n_item, if_neg n_kit, if_neg n_others, if_neg n_receive, if_neg n_order, if_neg n_due, if_neg n_drop, if_neg n_arrive, if_pos h_need]
    have hk := Lib.hid (kindW_val wd _ hk)
    have q_need : (wd == [110, 101, 101, 100]) = true := by rw [h_need]; rfl
    clear h_need
    go_enter Tryz.func81, Tryz.ntmps81
    go_wp2
    go_ret2
    rw [hk.out]
    exact ⟨rfl, rfl⟩
  have n_need := h_need
  clear h_need
  have q_need : (wd == [110, 101, 101, 100]) = false := beq_eq_false_iff_ne.2 n_need
  by_cases h_cancel : wd = [99, 97, 110, 99, 101, 108]
  · have hk : kindW wd = 10 := by
      unfold kindW
      rw [if_neg n_item, if_neg n_kit, if_neg n_others, if_neg n_receive, if_neg n_order, if_neg n_due, if_neg n_drop, if_neg n_arrive, if_neg n_need, if_pos h_cancel]
    have hk := Lib.hid (kindW_val wd _ hk)
    have q_cancel : (wd == [99, 97, 110, 99, 101, 108]) = true := by rw [h_cancel]; rfl
    clear h_cancel
    go_enter Tryz.func81, Tryz.ntmps81
    go_wp2
    go_ret2
    rw [hk.out]
    exact ⟨rfl, rfl⟩
  have n_cancel := h_cancel
  clear h_cancel
  have q_cancel : (wd == [99, 97, 110, 99, 101, 108]) = false := beq_eq_false_iff_ne.2 n_cancel
  by_cases h_ship : wd = [115, 104, 105, 112]
  · have hk : kindW wd = 11 := by
      unfold kindW
      rw [if_neg n_item, if_neg n_kit, if_neg n_others, if_neg n_receive, if_neg n_order, if_neg n_due, if_neg n_drop, if_neg n_arrive, if_neg n_need, if_neg n_cancel, if_pos h_ship]
    have hk := Lib.hid (kindW_val wd _ hk)
    have q_ship : (wd == [115, 104, 105, 112]) = true := by rw [h_ship]; rfl
    clear h_ship
    go_enter Tryz.func81, Tryz.ntmps81
    go_wp2
    go_ret2
    rw [hk.out]
    exact ⟨rfl, rfl⟩
  have n_ship := h_ship
  clear h_ship
  have q_ship : (wd == [115, 104, 105, 112]) = false := beq_eq_false_iff_ne.2 n_ship
  by_cases h_tick : wd = [116, 105, 99, 107]
  · have hk : kindW wd = 12 := by
      unfold kindW
      rw [if_neg n_item, if_neg n_kit, if_neg n_others, if_neg n_receive, if_neg n_order, if_neg n_due, if_neg n_drop, if_neg n_arrive, if_neg n_need, if_neg n_cancel, if_neg n_ship, if_pos h_tick]
    have hk := Lib.hid (kindW_val wd _ hk)
    have q_tick : (wd == [116, 105, 99, 107]) = true := by rw [h_tick]; rfl
    clear h_tick
    go_enter Tryz.func81, Tryz.ntmps81
    go_wp2
    go_ret2
    rw [hk.out]
    exact ⟨rfl, rfl⟩
  have n_tick := h_tick
  clear h_tick
  have q_tick : (wd == [116, 105, 99, 107]) = false := beq_eq_false_iff_ne.2 n_tick
  by_cases h_when : wd = [119, 104, 101, 110]
  · have hk : kindW wd = 13 := by
      unfold kindW
      rw [if_neg n_item, if_neg n_kit, if_neg n_others, if_neg n_receive, if_neg n_order, if_neg n_due, if_neg n_drop, if_neg n_arrive, if_neg n_need, if_neg n_cancel, if_neg n_ship, if_neg n_tick, if_pos h_when]
    have hk := Lib.hid (kindW_val wd _ hk)
    have q_when : (wd == [119, 104, 101, 110]) = true := by rw [h_when]; rfl
    clear h_when
    go_enter Tryz.func81, Tryz.ntmps81
    go_wp2
    go_ret2
    rw [hk.out]
    exact ⟨rfl, rfl⟩
  have n_when := h_when
  clear h_when
  have q_when : (wd == [119, 104, 101, 110]) = false := beq_eq_false_iff_ne.2 n_when
  by_cases h_line : wd = [108, 105, 110, 101]
  · have hk : kindW wd = 14 := by
      unfold kindW
      rw [if_neg n_item, if_neg n_kit, if_neg n_others, if_neg n_receive, if_neg n_order, if_neg n_due, if_neg n_drop, if_neg n_arrive, if_neg n_need, if_neg n_cancel, if_neg n_ship, if_neg n_tick, if_neg n_when, if_pos h_line]
    have hk := Lib.hid (kindW_val wd _ hk)
    have q_line : (wd == [108, 105, 110, 101]) = true := by rw [h_line]; rfl
    clear h_line
    go_enter Tryz.func81, Tryz.ntmps81
    go_wp2
    go_ret2
    rw [hk.out]
    exact ⟨rfl, rfl⟩
  have n_line := h_line
  clear h_line
  have q_line : (wd == [108, 105, 110, 101]) = false := beq_eq_false_iff_ne.2 n_line
  by_cases h_stock : wd = [115, 116, 111, 99, 107]
  · have hk : kindW wd = 15 := by
      unfold kindW
      rw [if_neg n_item, if_neg n_kit, if_neg n_others, if_neg n_receive, if_neg n_order, if_neg n_due, if_neg n_drop, if_neg n_arrive, if_neg n_need, if_neg n_cancel, if_neg n_ship, if_neg n_tick, if_neg n_when, if_neg n_line, if_pos h_stock]
    have hk := Lib.hid (kindW_val wd _ hk)
    have q_stock : (wd == [115, 116, 111, 99, 107]) = true := by rw [h_stock]; rfl
    clear h_stock
    go_enter Tryz.func81, Tryz.ntmps81
    go_wp2
    go_ret2
    rw [hk.out]
    exact ⟨rfl, rfl⟩
  have n_stock := h_stock
  clear h_stock
  have q_stock : (wd == [115, 116, 111, 99, 107]) = false := beq_eq_false_iff_ne.2 n_stock
  have hk : kindW wd = 0 := by
    unfold kindW
    rw [if_neg n_item, if_neg n_kit, if_neg n_others, if_neg n_receive, if_neg n_order, if_neg n_due, if_neg n_drop, if_neg n_arrive, if_neg n_need, if_neg n_cancel, if_neg n_ship, if_neg n_tick, if_neg n_when, if_neg n_line, if_neg n_stock]
  have hk := Lib.hid (kindW_val wd _ hk)
  go_enter Tryz.func81, Tryz.ntmps81
  go_wp2
  go_ret2
  rw [hk.out]
  exact ⟨rfl, rfl⟩
/-- A session: told as the number, and whether it is one. -/
def SesPost (v : List UInt8) (w : World) (e : Ending) (w' : World) : Prop := ∃ n, e = .returned (.tuple #[.int .i64 n, .bool (sessW v).isSome]) ∧ I64 n ∧ (∀ m, sessW v = some m → n = m) ∧ w' = w
set_option maxRecDepth 100000 in
theorem rsession_any (v : List UInt8) (w : World) (hv : v.length ≤ 9223372036854775807) : Calls Tryz.prog 68 #[.string ⟨v.toArray⟩] w (SesPost v w) := by
  have hn := rnumber_any ⟨v.toArray⟩ w (by show v.toArray.size ≤ _; rw [List.size_toArray]; exact hv)
  have hn : Calls Tryz.prog 67 #[.string ⟨v.toArray⟩] w (RNumPost (numL v) w) := by
    have e : (⟨v.toArray⟩ : ByteArray).data.toList = v := by simp
    rw [e] at hn
    exact hn
  have hn := Lib.hid hn
  have hse : sessW v = sessO (numL v) := rfl
  have hse := Lib.hid hse
  cases ho : numL v with
  | none =>
    rw [ho] at hn hse
    go_enter Tryz.func68, Tryz.ntmps68
    go_wp2_with fail
    refine hn.out.mono ?_
    rintro e w' ⟨rfl, rfl⟩
    go_wp2
    go_ret2
    refine ⟨0, ?_, by unfold I64; decide, fun m h => ?_, rfl⟩
    · rw [hse.out]; rfl
    · rw [hse.out] at h; cases h
  | some n =>
    have hb := (numL_some ho).2
    unfold int64 at hb
    rw [ho] at hn hse
    by_cases h1 : 0 ≤ n
    · by_cases h2 : n < 4
      · have hs : sessW v = some n := by rw [hse.out]; show (if 0 ≤ n ∧ n < 4 then some n else none) = _; rw [if_pos ⟨h1, h2⟩]
        have hs := Lib.hid hs
        go_enter Tryz.func68, Tryz.ntmps68
        go_wp2_with fail
        refine hn.out.mono ?_
        rintro e w' ⟨rfl, rfl⟩
        go_wp2
        all_goals
          go_ret2
          refine ⟨n, ?_, by unfold I64; omega, fun m h => ?_, rfl⟩
          · rw [hs.out]; simp [h1, h2]
          · rw [hs.out] at h; injection h
      · have hs : sessW v = none := by rw [hse.out]; show (if 0 ≤ n ∧ n < 4 then some n else none) = _; rw [if_neg (fun h => h2 h.2)]
        have hs := Lib.hid hs
        go_enter Tryz.func68, Tryz.ntmps68
        go_wp2_with fail
        refine hn.out.mono ?_
        rintro e w' ⟨rfl, rfl⟩
        go_wp2
        all_goals
          go_ret2
          refine ⟨n, ?_, by unfold I64; omega, fun m h => ?_, rfl⟩
          · rw [hs.out]; first | (simp [h1]; done) | (simp [h1]; omega)
          · rw [hs.out] at h; cases h
    · have hs : sessW v = none := by rw [hse.out]; show (if 0 ≤ n ∧ n < 4 then some n else none) = _; rw [if_neg (fun h => h1 h.1)]
      have hs := Lib.hid hs
      go_enter Tryz.func68, Tryz.ntmps68
      go_wp2_with fail
      refine hn.out.mono ?_
      rintro e w' ⟨rfl, rfl⟩
      go_wp2
      all_goals
        go_ret2
        refine ⟨n, ?_, by unfold I64; omega, fun m h => ?_, rfl⟩
        · rw [hs.out]; first | (simp; done) | (simp; omega)
        · rw [hs.out] at h; cases h
end Go.Proofs.YtglojnmcbochaaaGreatDoor

