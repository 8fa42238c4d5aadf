/-
  The document's words of a line; a kind's word; a session's number. No condition but that the line is a string.
-/
import Derived.Test.YtglojnmcbochaaaGreatDoorSAskB
import Derived.Test.YtglojnmcbochaaaGreatDoorSAskN
import Derived.Test.YtglojnmcbochaaaGreatDoorSLnsP
namespace Go.Proofs.YtglojnmcbochaaaGreatDoor
open Go.RowKit Go.Maps
set_option linter.unusedVariables false
set_option linter.unusedSimpArgs false

theorem words_at (l : List UInt8) (k : Nat) (hk : k < l.length) (h : l[k] = 32) : wordsL (l.drop k) = wordsL (l.drop (k + 1)) := by
  rw [List.drop_eq_getElem_cons hk, h, words_blank]
theorem words_to (l : List UInt8) (k j : Nat) (hkj : k < j) (hj : j ≤ l.length) (h : ∀ i (hi : i < l.length), k ≤ i → i < j → l[i] ≠ 32) (he : j = l.length ∨ ∃ hj : j < l.length, l[j] = 32) : wordsL (l.drop k) = (l.drop k).take (j - k) :: wordsL (l.drop j) := by
  have e : l.drop k = (l.drop k).take (j - k) ++ l.drop j := by
    conv => lhs; rw [← List.take_append_drop (j - k) (l.drop k)]
    rw [List.drop_drop]
    congr 2
    omega
  have hn : ∀ c ∈ (l.drop k).take (j - k), c ≠ 32 := by
    intro c hc
    obtain ⟨i, hi, rfl⟩ := List.mem_iff_getElem.1 hc
    rw [List.length_take, List.length_drop] at hi
    rw [List.getElem_take, List.getElem_drop]
    exact h _ (by omega) (by omega) (by omega)
  have h0 : (l.drop k).take (j - k) ≠ [] := by
    intro e
    have := congrArg List.length e
    rw [List.length_take, List.length_drop, List.length_nil] at this
    omega
  conv => lhs; rw [e]
  rcases he with rfl | ⟨hj, he⟩
  · rw [List.drop_length, List.append_nil, words_word hn h0]
    rfl
  · rw [List.drop_eq_getElem_cons hj, he, words_cons _ hn h0, words_blank]
def WsRel (s : ByteArray) (w : World) (out at_ : Value) (wr : World) : Prop :=
  ∃ (k : Nat) (A : Option Addr) (c : Nat) (pre : WS), k ≤ s.size ∧ at_ = .int .i64 k ∧ out = .slice A pre.length c ∧ OwnE wr 9 1 A pre.length c (textC pre) ∧ (∀ i, A = some ⟨i, 0, none⟩ → w.heap.size ≤ i) ∧ wordsL s.data.toList = pre ++ wordsL (s.data.toList.drop k) ∧ pre.length ≤ k ∧ Turned (fun _ => False) w wr
def WsPost (s : ByteArray) (w : World) (e : Ending) (w' : World) : Prop :=
  ∃ A c, e = .returned (.slice A (wordsL s.data.toList).length c) ∧ OwnE w' 9 1 A (wordsL s.data.toList).length c (textC (wordsL s.data.toList)) ∧ (∀ i, A = some ⟨i, 0, none⟩ → w.heap.size ≤ i) ∧ Turned (fun _ => False) w w'
theorem byte32 (s : ByteArray) (k : Nat) (hk : k < s.size) : (((s[k]'hk).toNat : Int) == 32) = decide (s.data.toList[k]'(by rw [ba_size]; exact hk) = 32) := by
  have e : s.data.toList[k]'(by rw [ba_size]; exact hk) = s[k]'hk := by
    rw [ba_get s k hk]
  rw [e]
  by_cases h : s[k]'hk = 32
  · rw [h]; rfl
  · rw [decide_eq_false h]
    apply beq_eq_false_iff_ne.2
    intro h2
    apply h
    apply UInt8.toNat_inj.1
    have : (s[k]'hk).toNat = 32 := by omega
    rw [this]
    rfl
set_option maxRecDepth 100000 in
set_option maxHeartbeats 4000000 in
theorem rwords_any (s : ByteArray) (w : World) (hs : s.size ≤ 1048576) : Calls Tryz.prog 28 #[.string s] w (WsPost s w) := by
  go_enter Tryz.func28, Tryz.ntmps28
  go_wp2
  go_loopw [3, 4] (fun out at_ wr => WsRel s w out at_ wr) (fun out at_ _ => s.size - (intOf at_).toNat)
  case atStart => exact ⟨0, none, 0, [], by omega, rfl, rfl, OwnE.nil _ _ _, (fun i e => by cases e), rfl, Nat.le_refl _, Turned.refl _ _⟩
  case round =>
    obtain ⟨k, A, c, pre, hk, rfl, rfl, ho, hA, hw, hpk, ht⟩ := hrel
    have ho := Lib.hid ho
    have hw := Lib.hid hw
    have ht := Lib.hid ht
    by_cases hlt : k < s.size
    · have hki : (k : Int) < (s.size : Int) := by omega
      have hkl : k < s.data.toList.length := by rw [ba_size]; exact hlt
      by_cases h32 : s.data.toList[k]'hkl = 32
      · have hb := byte32 s k hlt
        rw [decide_eq_true h32] at hb
        have FI := Lib.hid (show WsRel s w (.slice A pre.length c) (.int .i64 ((k + 1 : Nat) : Int)) wr from ⟨k + 1, A, c, pre, hlt, rfl, rfl, ho.out, hA, by rw [hw.out, words_at _ k hkl h32], by omega, ht.out⟩)
        go_wp2_with fail
        go_roundw
        case rel => exact FI.out
        case measure => simp [intOf] <;> omega
      · have hb := byte32 s k hlt
        rw [decide_eq_false h32] at hb
        go_wp2_with fail
        go_loop [5] (fun en => ∃ j : Nat, k ≤ j ∧ j ≤ s.size ∧ en = .int .i64 j ∧ ∀ i (hi : i < s.data.toList.length), k ≤ i → i < j → s.data.toList[i] ≠ 32) (fun en => s.size - (intOf en).toNat)
        case atStart => exact ⟨k, Nat.le_refl _, hk, rfl, fun i hi h1 h2 => by omega⟩
        case round =>
          obtain ⟨j, hj1, hj2, rfl, hn⟩ := hrel
          by_cases hjl : j < s.size
          · have hji : (j : Int) < (s.size : Int) := by omega
            have hjl' : j < s.data.toList.length := by rw [ba_size]; exact hjl
            have hb2 := byte32 s j hjl
            by_cases h322 : s.data.toList[j]'hjl' = 32
            · rw [decide_eq_true h322] at hb2
              have hkj : k < j := by
                rcases Nat.lt_or_ge k j with h | h
                · exact h
                · exfalso
                  obtain rfl : j = k := by omega
                  exact h32 h322
              have hwd := Lib.hid (words_to s.data.toList k j hkj (by rw [ba_size]; exact hj2) hn (.inr ⟨hjl', h322⟩))
              have hex : ((s.data.toList.drop k).take (j - k)) = (s.extract k j).data.toList := by
                rw [Lib.extract_data]
              rw [hex] at hwd
              have hxs := strV_ba (s.extract k j)
              have hki2 : (k : Int) ≤ (j : Int) := by omega
              have hji2 : (j : Int) ≤ (s.size : Int) := by omega
              go_wp2_with (at_builtin; refine wpList_appE textT rfl (.tmp 29) (.tmp 34) rfl (show OwnE _ 9 1 A pre.length c (textC pre) from ho.out.fresh ((Turned.refl (fun _ => False) wr).alloc (.cells #[.string (s.extract k j)] 9))) ⟨wr.heap.size, 0, none⟩ 1 1 [.string (s.extract k j)] rfl (news_new1 wr 9 _) (by simp [Value.oneCell']) (by omega) (by unfold maxLen; omega) (by omega) rfl rfl ?_; intro A9 c9 W9 ho9 hor9)
              have FI := Lib.hid (show WsRel s w (.slice A9 (pre.length + 1) c9) (.int .i64 (j : Int)) W9 from ⟨j, A9, c9, pre ++ [(s.extract k j).data.toList], hj2, rfl, by rw [List.length_append]; rfl, by rw [List.length_append, textC_append]; exact ho9, fun i e => (hor9.at_ (Nat.le_trans ht.out.size (by simp))).elim (fun h => hA i (by rw [← h.1]; exact e)) (fun ⟨g2, h1, h2⟩ => by rw [h1] at e; injection e with e; injection e with e; omega), by rw [hw.out, hwd.out]; simp, by rw [List.length_append]; simp only [List.length_cons, List.length_nil]; omega, ?_⟩)
              · go_roundw
                case rel => exact FI.out
                case measure => simp [intOf] <;> omega
              · exact (ht.out.alloc _).trans hor9.turned (fun _ e => e) (fun i e => .inr (hA i e))
            · rw [decide_eq_false h322] at hb2
              go_wp2_with fail
              go_roundw
              case rel =>
                refine ⟨j + 1, by omega, hjl, rfl, fun i hi h1 h2 => ?_⟩
                rcases Nat.lt_or_ge i j with h3 | h3
                · exact hn i hi h1 h3
                · obtain rfl : i = j := by omega
                  exact h322
              case measure => simp [intOf] <;> omega
          · have hjs := Lib.hid (show j = s.size by omega)
            have hjsi : ¬ (j : Int) < (s.size : Int) := by omega
            have hkj : k < j := by
              rcases Nat.lt_or_ge k j with h | h
              · exact h
              · exfalso
                omega
            have hwd := Lib.hid (words_to s.data.toList k j hkj (by rw [ba_size]; exact hj2) hn (.inl (by rw [ba_size]; exact hjs.out)))
            have hex : ((s.data.toList.drop k).take (j - k)) = (s.extract k j).data.toList := by
              rw [Lib.extract_data]
            rw [hex] at hwd
            have hxs := strV_ba (s.extract k j)
            have hki2 : (k : Int) ≤ (j : Int) := by omega
            have hji2 : (j : Int) ≤ (s.size : Int) := by omega
            go_wp2_with (at_builtin; refine wpList_appE textT rfl (.tmp 29) (.tmp 34) rfl (show OwnE _ 9 1 A pre.length c (textC pre) from ho.out.fresh ((Turned.refl (fun _ => False) wr).alloc (.cells #[.string (s.extract k j)] 9))) ⟨wr.heap.size, 0, none⟩ 1 1 [.string (s.extract k j)] rfl (news_new1 wr 9 _) (by simp [Value.oneCell']) (by omega) (by unfold maxLen; omega) (by omega) rfl rfl ?_; intro A9 c9 W9 ho9 hor9)
            have FI := Lib.hid (show WsRel s w (.slice A9 (pre.length + 1) c9) (.int .i64 (j : Int)) W9 from ⟨j, A9, c9, pre ++ [(s.extract k j).data.toList], hj2, rfl, by rw [List.length_append]; rfl, by rw [List.length_append, textC_append]; exact ho9, fun i e => (hor9.at_ (Nat.le_trans ht.out.size (by simp))).elim (fun h => hA i (by rw [← h.1]; exact e)) (fun ⟨g2, h1, h2⟩ => by rw [h1] at e; injection e with e; injection e with e; omega), by rw [hw.out, hwd.out]; simp, by rw [List.length_append]; simp only [List.length_cons, List.length_nil]; omega, ?_⟩)
            · go_roundw
              case rel => exact FI.out
              case measure => simp [intOf] <;> omega
            · exact (ht.out.alloc _).trans hor9.turned (fun _ e => e) (fun i e => .inr (hA i e))
    · obtain rfl : k = s.size := by omega
      have he : wordsL s.data.toList = pre := by
        rw [hw.out, List.drop_of_length_le (by rw [ba_size]; exact Nat.le_refl _), words_nil, List.append_nil]
      have he := Lib.hid he
      go_wp2_with fail
      go_ret
      unfold WsPost
      rw [he.out]
      exact ⟨A, c, rfl, ho.out, hA, ht.out⟩
end Go.Proofs.YtglojnmcbochaaaGreatDoor

