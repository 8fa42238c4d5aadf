/-
 ytglojnmcbochaaagreatdoor: laws and walks on the road to LinesNumbers, joined: RfK RfW AskEh. Conditions stand at each theorem.
-/
import Derived.Test.YtglojnmcbochaaaGreatDoorUAskB
import Derived.Test.YtglojnmcbochaaaGreatDoorURtB
import Derived.Test.YtglojnmcbochaaaGreatDoorULnsP
import Derived.Test.YtglojnmcbochaaaGreatDoorURdFh
import Derived.Test.YtglojnmcbochaaaGreatDoorUAskF
import Derived.Test.YtglojnmcbochaaaGreatDoorURegD
import Derived.StillTailTactics
import Derived.Deep.CutRange
namespace Go.Proofs.YtglojnmcbochaaaGreatDoor
open Go.RowKit Go.Maps
set_option linter.unusedVariables false
set_option linter.unusedSimpArgs false

def kindV (wd : List UInt8) : Value := .tuple #[.int .u8 (kindW wd), .string (fBA ((fieldsK (kindW wd)).getD []))]
theorem kindW_val (wd : List UInt8) (k : Int) (h : kindW wd = k) : kindV wd = .tuple #[.int .u8 k, .string (fBA ((fieldsK k).getD []))] := by
 unfold kindV
 rw [h]
set_option maxRecDepth 100000 in
set_option maxHeartbeats 4000000 in
theorem rkind_any (wd : List UInt8) (w : World) : Calls Tryz.prog 81 #[.string ⟨wd.toArray⟩] w (RetSame (kindV wd) w) := by
 by_cases h_item : wd = [105, 116, 101, 109]
 ·have hk : kindW wd = 1 := by
   unfold kindW
   rw [if_pos h_item]
  have hk := hZ (kindW_val wd _ hk)
  have q_item : (wd == [105, 116, 101, 109]) = true := by rw [h_item]; rfl
  clear h_item
  go_enter Tryz.func81, Tryz.ntmps81
  go_wp2
  go_ret2
  rw [hk.out]
  exact ⟨rfl, rfl⟩
 have n_item := h_item
 clear h_item
 have q_item : (wd == [105, 116, 101, 109]) = false := beq_eq_false_iff_ne.2 n_item
 by_cases h_kit : wd = [107, 105, 116]
 ·have hk : kindW wd = 2 := by
   unfold kindW
   rw [if_neg n_item, if_pos h_kit]
  have hk := hZ (kindW_val wd _ hk)
  have q_kit : (wd == [107, 105, 116]) = true := by rw [h_kit]; rfl
  clear h_kit
  go_enter Tryz.func81, Tryz.ntmps81
  go_wp2
  go_ret2
  rw [hk.out]
  exact ⟨rfl, rfl⟩
 have n_kit := h_kit
 clear h_kit
 have q_kit : (wd == [107, 105, 116]) = false := beq_eq_false_iff_ne.2 n_kit
 by_cases h_others : wd = [111, 116, 104, 101, 114, 115]
 ·have hk : kindW wd = 3 := by
   unfold kindW
   rw [if_neg n_item, if_neg n_kit, if_pos h_others]
  have hk := hZ (kindW_val wd _ hk)
  have q_others : (wd == [111, 116, 104, 101, 114, 115]) = true := by rw [h_others]; rfl
  clear h_others
  go_enter Tryz.func81, Tryz.ntmps81
  go_wp2
  go_ret2
  rw [hk.out]
  exact ⟨rfl, rfl⟩
 have n_others := h_others
 clear h_others
 have q_others : (wd == [111, 116, 104, 101, 114, 115]) = false := beq_eq_false_iff_ne.2 n_others
 by_cases h_receive : wd = [114, 101, 99, 101, 105, 118, 101]
 ·have hk : kindW wd = 4 := by
   unfold kindW
   rw [if_neg n_item, if_neg n_kit, if_neg n_others, if_pos h_receive]
  have hk := hZ (kindW_val wd _ hk)
  have q_receive : (wd == [114, 101, 99, 101, 105, 118, 101]) = true := by rw [h_receive]; rfl
  clear h_receive
  go_enter Tryz.func81, Tryz.ntmps81
  go_wp2
  go_ret2
  rw [hk.out]
  exact ⟨rfl, rfl⟩
 have n_receive := h_receive
 clear h_receive
 have q_receive : (wd == [114, 101, 99, 101, 105, 118, 101]) = false := beq_eq_false_iff_ne.2 n_receive
 by_cases h_order : wd = [111, 114, 100, 101, 114]
 ·have hk : kindW wd = 5 := by
   unfold kindW
   rw [if_neg n_item, if_neg n_kit, if_neg n_others, if_neg n_receive, if_pos h_order]
  have hk := hZ (kindW_val wd _ hk)
  have q_order : (wd == [111, 114, 100, 101, 114]) = true := by rw [h_order]; rfl
  clear h_order
  go_enter Tryz.func81, Tryz.ntmps81
  go_wp2
  go_ret2
  rw [hk.out]
  exact ⟨rfl, rfl⟩
 have n_order := h_order
 clear h_order
 have q_order : (wd == [111, 114, 100, 101, 114]) = false := beq_eq_false_iff_ne.2 n_order
 by_cases h_due : wd = [100, 117, 101]
 ·have hk : kindW wd = 6 := by
   unfold kindW
   rw [if_neg n_item, if_neg n_kit, if_neg n_others, if_neg n_receive, if_neg n_order, if_pos h_due]
  have hk := hZ (kindW_val wd _ hk)
  have q_due : (wd == [100, 117, 101]) = true := by rw [h_due]; rfl
  clear h_due
  go_enter Tryz.func81, Tryz.ntmps81
  go_wp2
  go_ret2
  rw [hk.out]
  exact ⟨rfl, rfl⟩
 have n_due := h_due
 clear h_due
 have q_due : (wd == [100, 117, 101]) = false := beq_eq_false_iff_ne.2 n_due
 by_cases h_drop : wd = [100, 114, 111, 112]
 ·have hk : kindW wd = 7 := by
   unfold kindW
   rw [if_neg n_item, if_neg n_kit, if_neg n_others, if_neg n_receive, if_neg n_order, if_neg n_due, if_pos h_drop]
  have hk := hZ (kindW_val wd _ hk)
  have q_drop : (wd == [100, 114, 111, 112]) = true := by rw [h_drop]; rfl
  clear h_drop
  go_enter Tryz.func81, Tryz.ntmps81
  go_wp2
  go_ret2
  rw [hk.out]
  exact ⟨rfl, rfl⟩
 have n_drop := h_drop
 clear h_drop
 have q_drop : (wd == [100, 114, 111, 112]) = false := beq_eq_false_iff_ne.2 n_drop
 by_cases h_arrive : wd = [97, 114, 114, 105, 118, 101]
 ·have hk : kindW wd = 8 := by
   unfold kindW
   rw [if_neg n_item, if_neg n_kit, if_neg n_others, if_neg n_receive, if_neg n_order, if_neg n_due, if_neg n_drop, if_pos h_arrive]
  have hk := hZ (kindW_val wd _ hk)
  have q_arrive : (wd == [97, 114, 114, 105, 118, 101]) = true := by rw [h_arrive]; rfl
  clear h_arrive
  go_enter Tryz.func81, Tryz.ntmps81
  go_wp2
  go_ret2
  rw [hk.out]
  exact ⟨rfl, rfl⟩
 have n_arrive := h_arrive
 clear h_arrive
 have q_arrive : (wd == [97, 114, 114, 105, 118, 101]) = false := beq_eq_false_iff_ne.2 n_arrive
 by_cases h_need : wd = [110, 101, 101, 100]
 ·have hk : kindW wd = 9 := by
   unfold kindW
   rw [if_neg n_item, if_neg n_kit, if_neg n_others, if_neg n_receive, if_neg n_order, if_neg n_due, if_neg n_drop, if_neg n_arrive, if_pos h_need]
  have hk := hZ (kindW_val wd _ hk)
  have q_need : (wd == [110, 101, 101, 100]) = true := by rw [h_need]; rfl
  clear h_need
  go_enter Tryz.func81, Tryz.ntmps81
  go_wp2
  go_ret2
  rw [hk.out]
  exact ⟨rfl, rfl⟩
 have n_need := h_need
 clear h_need
 have q_need : (wd == [110, 101, 101, 100]) = false := beq_eq_false_iff_ne.2 n_need
 by_cases h_cancel : wd = [99, 97, 110, 99, 101, 108]
 ·have hk : kindW wd = 10 := by
   unfold kindW
   rw [if_neg n_item, if_neg n_kit, if_neg n_others, if_neg n_receive, if_neg n_order, if_neg n_due, if_neg n_drop, if_neg n_arrive, if_neg n_need, if_pos h_cancel]
  have hk := hZ (kindW_val wd _ hk)
  have q_cancel : (wd == [99, 97, 110, 99, 101, 108]) = true := by rw [h_cancel]; rfl
  clear h_cancel
  go_enter Tryz.func81, Tryz.ntmps81
  go_wp2
  go_ret2
  rw [hk.out]
  exact ⟨rfl, rfl⟩
 have n_cancel := h_cancel
 clear h_cancel
 have q_cancel : (wd == [99, 97, 110, 99, 101, 108]) = false := beq_eq_false_iff_ne.2 n_cancel
 by_cases h_ship : wd = [115, 104, 105, 112]
 ·have hk : kindW wd = 11 := by
   unfold kindW
   rw [if_neg n_item, if_neg n_kit, if_neg n_others, if_neg n_receive, if_neg n_order, if_neg n_due, if_neg n_drop, if_neg n_arrive, if_neg n_need, if_neg n_cancel, if_pos h_ship]
  have hk := hZ (kindW_val wd _ hk)
  have q_ship : (wd == [115, 104, 105, 112]) = true := by rw [h_ship]; rfl
  clear h_ship
  go_enter Tryz.func81, Tryz.ntmps81
  go_wp2
  go_ret2
  rw [hk.out]
  exact ⟨rfl, rfl⟩
 have n_ship := h_ship
 clear h_ship
 have q_ship : (wd == [115, 104, 105, 112]) = false := beq_eq_false_iff_ne.2 n_ship
 by_cases h_tick : wd = [116, 105, 99, 107]
 ·have hk : kindW wd = 12 := by
   unfold kindW
   rw [if_neg n_item, if_neg n_kit, if_neg n_others, if_neg n_receive, if_neg n_order, if_neg n_due, if_neg n_drop, if_neg n_arrive, if_neg n_need, if_neg n_cancel, if_neg n_ship, if_pos h_tick]
  have hk := hZ (kindW_val wd _ hk)
  have q_tick : (wd == [116, 105, 99, 107]) = true := by rw [h_tick]; rfl
  clear h_tick
  go_enter Tryz.func81, Tryz.ntmps81
  go_wp2
  go_ret2
  rw [hk.out]
  exact ⟨rfl, rfl⟩
 have n_tick := h_tick
 clear h_tick
 have q_tick : (wd == [116, 105, 99, 107]) = false := beq_eq_false_iff_ne.2 n_tick
 by_cases h_when : wd = [119, 104, 101, 110]
 ·have hk : kindW wd = 13 := by
   unfold kindW
   rw [if_neg n_item, if_neg n_kit, if_neg n_others, if_neg n_receive, if_neg n_order, if_neg n_due, if_neg n_drop, if_neg n_arrive, if_neg n_need, if_neg n_cancel, if_neg n_ship, if_neg n_tick, if_pos h_when]
  have hk := hZ (kindW_val wd _ hk)
  have q_when : (wd == [119, 104, 101, 110]) = true := by rw [h_when]; rfl
  clear h_when
  go_enter Tryz.func81, Tryz.ntmps81
  go_wp2
  go_ret2
  rw [hk.out]
  exact ⟨rfl, rfl⟩
 have n_when := h_when
 clear h_when
 have q_when : (wd == [119, 104, 101, 110]) = false := beq_eq_false_iff_ne.2 n_when
 by_cases h_line : wd = [108, 105, 110, 101]
 ·have hk : kindW wd = 14 := by
   unfold kindW
   rw [if_neg n_item, if_neg n_kit, if_neg n_others, if_neg n_receive, if_neg n_order, if_neg n_due, if_neg n_drop, if_neg n_arrive, if_neg n_need, if_neg n_cancel, if_neg n_ship, if_neg n_tick, if_neg n_when, if_pos h_line]
  have hk := hZ (kindW_val wd _ hk)
  have q_line : (wd == [108, 105, 110, 101]) = true := by rw [h_line]; rfl
  clear h_line
  go_enter Tryz.func81, Tryz.ntmps81
  go_wp2
  go_ret2
  rw [hk.out]
  exact ⟨rfl, rfl⟩
 have n_line := h_line
 clear h_line
 have q_line : (wd == [108, 105, 110, 101]) = false := beq_eq_false_iff_ne.2 n_line
 by_cases h_stock : wd = [115, 116, 111, 99, 107]
 ·have hk : kindW wd = 15 := by
   unfold kindW
   rw [if_neg n_item, if_neg n_kit, if_neg n_others, if_neg n_receive, if_neg n_order, if_neg n_due, if_neg n_drop, if_neg n_arrive, if_neg n_need, if_neg n_cancel, if_neg n_ship, if_neg n_tick, if_neg n_when, if_neg n_line, if_pos h_stock]
  have hk := hZ (kindW_val wd _ hk)
  have q_stock : (wd == [115, 116, 111, 99, 107]) = true := by rw [h_stock]; rfl
  clear h_stock
  go_enter Tryz.func81, Tryz.ntmps81
  go_wp2
  go_ret2
  rw [hk.out]
  exact ⟨rfl, rfl⟩
 have n_stock := h_stock
 clear h_stock
 have q_stock : (wd == [115, 116, 111, 99, 107]) = false := beq_eq_false_iff_ne.2 n_stock
 have hk : kindW wd = 0 := by
  unfold kindW
  rw [if_neg n_item, if_neg n_kit, if_neg n_others, if_neg n_receive, if_neg n_order, if_neg n_due, if_neg n_drop, if_neg n_arrive, if_neg n_need, if_neg n_cancel, if_neg n_ship, if_neg n_tick, if_neg n_when, if_neg n_line, if_neg n_stock]
 have hk := hZ (kindW_val wd _ hk)
 go_enter Tryz.func81, Tryz.ntmps81
 go_wp2
 go_ret2
 rw [hk.out]
 exact ⟨rfl, rfl⟩
def SesPost (v : List UInt8) (w : World) (e : Ending) (w' : World) : Prop := ∃ n, e = .returned (.tuple #[.int .i64 n, .bool (sessW v).isSome]) ∧ I64 n ∧ (∀ m, sessW v = some m → n = m) ∧ w' = w
set_option maxRecDepth 100000 in
theorem rsession_any (v : List UInt8) (w : World) (hv : v.length ≤ 9223372036854775807) : Calls Tryz.prog 68 #[.string ⟨v.toArray⟩] w (SesPost v w) := by
 have hn := rnumber_any ⟨v.toArray⟩ w (by show v.toArray.size ≤ _; rw [List.size_toArray]; exact hv)
 have hn : Calls Tryz.prog 67 #[.string ⟨v.toArray⟩] w (RNumPost (numL v) w) := by
  have e : (⟨v.toArray⟩ : ByteArray).data.toList = v := by simp
  rw [e] at hn
  exact hn
 have hn := hZ hn
 have hse : sessW v = sessO (numL v) := rfl
 have hse := hZ hse
 cases ho : numL v with
 | none =>
  rw [ho] at hn hse
  go_enter Tryz.func68, Tryz.ntmps68
  go_wp2_with fail
  refine hn.out.mono ?_
  rintro e w' ⟨rfl, rfl⟩
  go_wp2
  go_ret2
  refine ⟨0, ?_, by unfold I64; decide, fun m h => ?_, rfl⟩
  ·rw [hse.out]; rfl
  ·rw [hse.out] at h; cases h
 | some n =>
  have hb := (numL_some ho).2
  unfold int64 at hb
  rw [ho] at hn hse
  by_cases h1 : 0 ≤ n
  ·by_cases h2 : n < 4
   ·have hs : sessW v = some n := by rw [hse.out]; show (if 0 ≤ n ∧ n < 4 then some n else none) = _; rw [if_pos ⟨h1, h2⟩]
    have hs := hZ hs
    go_enter Tryz.func68, Tryz.ntmps68
    go_wp2_with fail
    refine hn.out.mono ?_
    rintro e w' ⟨rfl, rfl⟩
    go_wp2
    all_goals
     go_ret2
     refine ⟨n, ?_, by unfold I64; omega, fun m h => ?_, rfl⟩
     ·rw [hs.out]; simp [h1, h2]
     ·rw [hs.out] at h; injection h
   ·have hs : sessW v = none := by rw [hse.out]; show (if 0 ≤ n ∧ n < 4 then some n else none) = _; rw [if_neg (fun h => h2 h.2)]
    have hs := hZ hs
    go_enter Tryz.func68, Tryz.ntmps68
    go_wp2_with fail
    refine hn.out.mono ?_
    rintro e w' ⟨rfl, rfl⟩
    go_wp2
    all_goals
     go_ret2
     refine ⟨n, ?_, by unfold I64; omega, fun m h => ?_, rfl⟩
     ·rw [hs.out]; first | (simp [h1]; done) | (simp [h1]; omega)
     ·rw [hs.out] at h; cases h
  ·have hs : sessW v = none := by rw [hse.out]; show (if 0 ≤ n ∧ n < 4 then some n else none) = _; rw [if_neg (fun h => h1 h.1)]
   have hs := hZ hs
   go_enter Tryz.func68, Tryz.ntmps68
   go_wp2_with fail
   refine hn.out.mono ?_
   rintro e w' ⟨rfl, rfl⟩
   go_wp2
   all_goals
    go_ret2
    refine ⟨n, ?_, by unfold I64; omega, fun m h => ?_, rfl⟩
    ·rw [hs.out]; first | (simp; done) | (simp; omega)
    ·rw [hs.out] at h; cases h
end Go.Proofs.YtglojnmcbochaaaGreatDoor

namespace Go.Proofs.YtglojnmcbochaaaGreatDoor
open Go.RowKit Go.Maps
set_option linter.unusedVariables false
set_option linter.unusedSimpArgs false

theorem words_at (l : List UInt8) (k : Nat) (hk : k < l.length) (h : l[k] = 32) : wordsL (l.drop k) = wordsL (l.drop (k + 1)) := by
 rw [List.drop_eq_getElem_cons hk, h, words_blank]
theorem words_to (l : List UInt8) (k j : Nat) (hkj : k < j) (hj : j ≤ l.length) (h : ∀ i (hi : i < l.length), k ≤ i → i < j → l[i] ≠ 32) (he : j = l.length ∨ ∃ hj : j < l.length, l[j] = 32) : wordsL (l.drop k) = (l.drop k).take (j - k) :: wordsL (l.drop j) := by
 have e : l.drop k = (l.drop k).take (j - k) ++ l.drop j := by
  conv => lhs; rw [← List.take_append_drop (j - k) (l.drop k)]
  rw [List.drop_drop]
  congr 2
  omega
 have hn : ∀ c ∈ (l.drop k).take (j - k), c ≠ 32 := by
  intro c hc
  obtain ⟨i, hi, rfl⟩ := List.mem_iff_getElem.1 hc
  rw [List.length_take, List.length_drop] at hi
  rw [List.getElem_take, List.getElem_drop]
  exact h _ (by omega) (by omega) (by omega)
 have h0 : (l.drop k).take (j - k) ≠ [] := by
  intro e
  have := congrArg List.length e
  rw [List.length_take, List.length_drop, List.length_nil] at this
  omega
 conv => lhs; rw [e]
 rcases he with rfl | ⟨hj, he⟩
 ·rw [List.drop_length, List.append_nil, words_word hn h0]
  rfl
 ·rw [List.drop_eq_getElem_cons hj, he, words_cons _ hn h0, words_blank]
def WsRel (s : ByteArray) (w : World) (out at_ : Value) (wr : World) : Prop :=
 ∃ (k : Nat) (A : Option Addr) (c : Nat) (pre : WS), k ≤ s.size ∧ at_ = .int .i64 k ∧ out = .slice A pre.length c ∧ OwnE wr 9 1 A pre.length c (textC pre) ∧ (∀ i, A = some ⟨i, 0, none⟩ → w.heap.size ≤ i) ∧ wordsL s.data.toList = pre ++ wordsL (s.data.toList.drop k) ∧ pre.length ≤ k ∧ Turned (fun _ => False) w wr
def WsPost (s : ByteArray) (w : World) (e : Ending) (w' : World) : Prop :=
 ∃ A c, e = .returned (.slice A (wordsL s.data.toList).length c) ∧ OwnE w' 9 1 A (wordsL s.data.toList).length c (textC (wordsL s.data.toList)) ∧ (∀ i, A = some ⟨i, 0, none⟩ → w.heap.size ≤ i) ∧ Turned (fun _ => False) w w'
theorem byte32 (s : ByteArray) (k : Nat) (hk : k < s.size) : (((s[k]'hk).toNat : Int) == 32) = decide (s.data.toList[k]'(by rw [ba_size]; exact hk) = 32) := by
 have e : s.data.toList[k]'(by rw [ba_size]; exact hk) = s[k]'hk := by
  rw [ba_get s k hk]
 rw [e]
 by_cases h : s[k]'hk = 32
 ·rw [h]; rfl
 ·rw [decide_eq_false h]
  apply beq_eq_false_iff_ne.2
  intro h2
  apply h
  apply UInt8.toNat_inj.1
  have : (s[k]'hk).toNat = 32 := by omega
  rw [this]
  rfl
set_option maxRecDepth 100000 in
set_option maxHeartbeats 4000000 in
theorem rwords_any (s : ByteArray) (w : World) (hs : s.size ≤ 1048576) : Calls Tryz.prog 28 #[.string s] w (WsPost s w) := by
 go_enter Tryz.func28, Tryz.ntmps28
 go_wp2
 go_loopw [3, 4] (fun out at_ wr => WsRel s w out at_ wr) (fun out at_ _ => s.size - (intOf at_).toNat)
 case atStart => exact ⟨0, none, 0, [], by omega, rfl, rfl, OwnE.nil _ _ _, (fun i e => by cases e), rfl, Nat.le_refl _, Turned.refl _ _⟩
 case round =>
  obtain ⟨k, A, c, pre, hk, rfl, rfl, ho, hA, hw, hpk, ht⟩ := hrel
  have ho := hZ ho
  have hw := hZ hw
  have ht := hZ ht
  by_cases hlt : k < s.size
  ·have hki : (k : Int) < (s.size : Int) := by omega
   have hkl : k < s.data.toList.length := by rw [ba_size]; exact hlt
   by_cases h32 : s.data.toList[k]'hkl = 32
   ·have hb := byte32 s k hlt
    rw [decide_eq_true h32] at hb
    have FI := hZ (show WsRel s w (.slice A pre.length c) (.int .i64 ((k + 1 : Nat) : Int)) wr from ⟨k + 1, A, c, pre, hlt, rfl, rfl, ho.out, hA, by rw [hw.out, words_at _ k hkl h32], by omega, ht.out⟩)
    go_wp2_with fail
    go_roundw
    case rel => exact FI.out
    case measure => simp [intOf] <;> omega
   ·have hb := byte32 s k hlt
    rw [decide_eq_false h32] at hb
    go_wp2_with fail
    go_loop [5] (fun en => ∃ j : Nat, k ≤ j ∧ j ≤ s.size ∧ en = .int .i64 j ∧ ∀ i (hi : i < s.data.toList.length), k ≤ i → i < j → s.data.toList[i] ≠ 32) (fun en => s.size - (intOf en).toNat)
    case atStart => exact ⟨k, Nat.le_refl _, hk, rfl, fun i hi h1 h2 => by omega⟩
    case round =>
     obtain ⟨j, hj1, hj2, rfl, hn⟩ := hrel
     by_cases hjl : j < s.size
     ·have hji : (j : Int) < (s.size : Int) := by omega
      have hjl' : j < s.data.toList.length := by rw [ba_size]; exact hjl
      have hb2 := byte32 s j hjl
      by_cases h322 : s.data.toList[j]'hjl' = 32
      ·rw [decide_eq_true h322] at hb2
       have hkj : k < j := by
        rcases Nat.lt_or_ge k j with h | h
        ·exact h
        ·exfalso
         obtain rfl : j = k := by omega
         exact h32 h322
       have hwd := hZ (words_to s.data.toList k j hkj (by rw [ba_size]; exact hj2) hn (.inr ⟨hjl', h322⟩))
       have hex : ((s.data.toList.drop k).take (j - k)) = (s.extract k j).data.toList := by
        rw [Lib.extract_data]
       rw [hex] at hwd
       have hxs := strV_ba (s.extract k j)
       have hki2 : (k : Int) ≤ (j : Int) := by omega
       have hji2 : (j : Int) ≤ (s.size : Int) := by omega
       go_wp2_with (at_builtin; refine wpList_appE textT rfl (.tmp 29) (.tmp 34) rfl (show OwnE _ 9 1 A pre.length c (textC pre) from ho.out.fresh ((Turned.refl (fun _ => False) wr).alloc (.cells #[.string (s.extract k j)] 9))) ⟨wr.heap.size, 0, none⟩ 1 1 [.string (s.extract k j)] rfl (news_new1 wr 9 _) (by simp [Value.oneCell']) (by omega) (by unfold maxLen; omega) (by omega) rfl rfl ?_; intro A9 c9 W9 ho9 hor9)
       have FI := hZ (show WsRel s w (.slice A9 (pre.length + 1) c9) (.int .i64 (j : Int)) W9 from ⟨j, A9, c9, pre ++ [(s.extract k j).data.toList], hj2, rfl, by rw [List.length_append]; rfl, by rw [List.length_append, textC_append]; exact ho9, fun i e => (hor9.at_ (Nat.le_trans ht.out.size (by simp))).elim (fun h => hA i (by rw [← h.1]; exact e)) (fun ⟨g2, h1, h2⟩ => by rw [h1] at e; injection e with e; injection e with e; omega), by rw [hw.out, hwd.out]; simp, by rw [List.length_append]; simp only [List.length_cons, List.length_nil]; omega, ?_⟩)
       ·go_roundw
        case rel => exact FI.out
        case measure => simp [intOf] <;> omega
       ·exact (ht.out.alloc _).trans hor9.turned (fun _ e => e) (fun i e => .inr (hA i e))
      ·rw [decide_eq_false h322] at hb2
       go_wp2_with fail
       go_roundw
       case rel =>
        refine ⟨j + 1, by omega, hjl, rfl, fun i hi h1 h2 => ?_⟩
        rcases Nat.lt_or_ge i j with h3 | h3
        ·exact hn i hi h1 h3
        ·obtain rfl : i = j := by omega
         exact h322
       case measure => simp [intOf] <;> omega
     ·have hjs := hZ (show j = s.size by omega)
      have hjsi : ¬ (j : Int) < (s.size : Int) := by omega
      have hkj : k < j := by
       rcases Nat.lt_or_ge k j with h | h
       ·exact h
       ·exfalso
        omega
      have hwd := hZ (words_to s.data.toList k j hkj (by rw [ba_size]; exact hj2) hn (.inl (by rw [ba_size]; exact hjs.out)))
      have hex : ((s.data.toList.drop k).take (j - k)) = (s.extract k j).data.toList := by
       rw [Lib.extract_data]
      rw [hex] at hwd
      have hxs := strV_ba (s.extract k j)
      have hki2 : (k : Int) ≤ (j : Int) := by omega
      have hji2 : (j : Int) ≤ (s.size : Int) := by omega
      go_wp2_with (at_builtin; refine wpList_appE textT rfl (.tmp 29) (.tmp 34) rfl (show OwnE _ 9 1 A pre.length c (textC pre) from ho.out.fresh ((Turned.refl (fun _ => False) wr).alloc (.cells #[.string (s.extract k j)] 9))) ⟨wr.heap.size, 0, none⟩ 1 1 [.string (s.extract k j)] rfl (news_new1 wr 9 _) (by simp [Value.oneCell']) (by omega) (by unfold maxLen; omega) (by omega) rfl rfl ?_; intro A9 c9 W9 ho9 hor9)
      have FI := hZ (show WsRel s w (.slice A9 (pre.length + 1) c9) (.int .i64 (j : Int)) W9 from ⟨j, A9, c9, pre ++ [(s.extract k j).data.toList], hj2, rfl, by rw [List.length_append]; rfl, by rw [List.length_append, textC_append]; exact ho9, fun i e => (hor9.at_ (Nat.le_trans ht.out.size (by simp))).elim (fun h => hA i (by rw [← h.1]; exact e)) (fun ⟨g2, h1, h2⟩ => by rw [h1] at e; injection e with e; injection e with e; omega), by rw [hw.out, hwd.out]; simp, by rw [List.length_append]; simp only [List.length_cons, List.length_nil]; omega, ?_⟩)
      ·go_roundw
       case rel => exact FI.out
       case measure => simp [intOf] <;> omega
      ·exact (ht.out.alloc _).trans hor9.turned (fun _ e => e) (fun i e => .inr (hA i e))
  ·obtain rfl : k = s.size := by omega
   have he : wordsL s.data.toList = pre := by
    rw [hw.out, List.drop_of_length_le (by rw [ba_size]; exact Nat.le_refl _), words_nil, List.append_nil]
   have he := hZ he
   go_wp2_with fail
   go_ret
   unfold WsPost
   rw [he.out]
   exact ⟨A, c, rfl, ho.out, hA, ht.out⟩
end Go.Proofs.YtglojnmcbochaaaGreatDoor

namespace Go.Proofs.YtglojnmcbochaaaGreatDoor
open Go.RowKit Go.Maps
set_option linter.unusedVariables false
set_option linter.unusedSimpArgs false

def hasZ (f : List Nat) (z : Int) : Bool := f.any fun c => ((c : Nat) : Int) == z
set_option maxRecDepth 100000 in
set_option maxHeartbeats 1000000 in
theorem hasZ_any (f : List Nat) (hf : f ∈ kindsL) (z : Int) (hz : isByte z) (w : World) : Calls Tryz.prog 108 #[.string (fBA f), .int .u8 z] w (RetSame (.bool (hasZ f z)) w) := by
 have hl := (kinds_letters hf).1
 have hsz := fBA_size f
 have hszi : ((fBA f).size : Int) = (f.length : Int) := by rw [hsz]
 generalize hbc : hasZ f z = bc
 have hbc' := hZ hbc
 clear hbc
 go_enter Tryz.func108, Tryz.ntmps108
 go_wp2
 go_loop [5] (fun i => ∃ j : Nat, j ≤ f.length ∧ i = .int .i64 j ∧ hasZ (f.take j) z = false) (fun i => f.length - (intOf i).toNat)
 case atStart => exact ⟨0, Nat.zero_le _, rfl, rfl⟩
 case round =>
  obtain ⟨j, hj, rfl, hn⟩ := hrel
  have hn' := hZ hn
  clear hn
  by_cases hlt : j < f.length
  ·have hp : j < (fBA f).size := by omega
   obtain ⟨d, hdm, hdv, htk, hd128⟩ := letter_at hf hp
   have htk' := hZ htk
   clear htk
   have hji : (j : Int) < (f.length : Int) := by omega
   generalize hg : ((fBA f)[j]'hp).toNat = d' at hdv
   subst hdv
   have hg' := hZ hg
   by_cases he : (d' : Int) = z
   ·have hy := hZ (show bc = true from by
     rw [← hbc'.out]
     unfold hasZ
     rw [List.any_eq_true]
     exact ⟨d', List.mem_of_mem_take (i := j + 1) (by rw [htk'.out]; simp), by simpa using he⟩)
    have heb : ((d' : Int) == z) = true := by simpa using he
    clear he
    go_wp2
    go_ret
    exact ⟨ret_bool hy.out.symm, rfl⟩
   ·have hne : ((d' : Int) == z) = false := by rw [beq_eq_false_iff_ne]; exact he
    have hne' := hZ hne
    go_wp2
    go_round
    case rel =>
     refine ⟨j + 1, hlt, by go_num, ?_⟩
     rw [htk'.out]
     have h1 := hn'.out
     unfold hasZ at h1 ⊢
     rw [List.any_append, h1]
     simp [hne'.out]
    case measure => simp [intOf]; omega
  ·have hjn : j = f.length := by omega
   have hge : (f.length : Int) ≤ (j : Int) := by omega
   have hno := hZ (show bc = false from by
    have h1 := hn'.out
    rw [hjn, List.take_length] at h1
    rw [← hbc'.out]
    exact h1)
   clear hjn
   go_wp2
   go_ret
   exact ⟨ret_bool hno.out.symm, rfl⟩
end Go.Proofs.YtglojnmcbochaaaGreatDoor

