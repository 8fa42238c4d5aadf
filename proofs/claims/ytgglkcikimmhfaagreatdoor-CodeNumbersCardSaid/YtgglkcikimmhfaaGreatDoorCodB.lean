/-
  The document's Right; code.Put and the document's: a code's bytes. No condition but a text's length.
-/
import Derived.Test.YtgglkcikimmhfaaGreatDoorCodA
import Derived.Laws.BytesString
namespace Go.Proofs.YtgglkcikimmhfaaGreatDoor
open Go.RowKit Go.Maps
set_option linter.unusedVariables false

theorem not_ok_at {s : ByteArray} {pos : Nat} (hp : pos < s.size) (h : okAt pos (s[pos]'hp).toNat = true) (ho : okFrom 0 (s.data.toList.take pos) = true) : okFrom 0 (s.data.toList.take (pos + 1)) = true := by
  rw [okFrom_snoc _ _ (by rw [ba_size]; exact hp), ho, ba_get s pos hp, h]
  rfl
set_option maxRecDepth 100000 in
set_option maxHeartbeats 1000000 in
theorem rright_any (s : ByteArray) (w : World) (hs : s.size ≤ 9223372036854775807) :
    Calls Tryz.prog 13 #[.string s] w (RetSame (.bool (codeL s.data.toList)) w) := by
  by_cases h1 : s.size < 1
  · have e : codeL s.data.toList = false := by
      unfold codeL
      rw [ba_size]
      have : decide (0 < s.size) = false := decide_eq_false (by omega)
      rw [this]
      rfl
    have h1i : (s.size : Int) < 1 := by omega
    have e' := Lib.hid e
    clear e
    go_enter Tryz.func13, Tryz.ntmps13
    go_wp2
    go_ret
    rw [e'.out]
    exact ⟨rfl, rfl⟩
  · by_cases h2 : 12 < s.size
    · have e : codeL s.data.toList = false := by
        unfold codeL
        rw [ba_size]
        have : decide (s.size ≤ 12) = false := decide_eq_false (by omega)
        rw [this]
        simp
      have h1i : (1 : Int) ≤ (s.size : Int) := by omega
      have h2i : (12 : Int) < (s.size : Int) := by omega
      have e' := Lib.hid e
      clear e
      go_enter Tryz.func13, Tryz.ntmps13
      go_wp2
      go_ret
      rw [e'.out]
      exact ⟨rfl, rfl⟩
    · have h1i : (1 : Int) ≤ (s.size : Int) := by omega
      have h2i : (s.size : Int) ≤ 12 := by omega
      go_enter Tryz.func13, Tryz.ntmps13
      go_wp2
      go_loop [3] (fun i => ∃ j : Nat, j ≤ s.size ∧ i = .int .i64 j ∧ okFrom 0 (s.data.toList.take j) = true) (fun i => s.size - (intOf i).toNat)
      case atStart => exact ⟨0, by omega, rfl, rfl⟩
      case round =>
        obtain ⟨j, hj, rfl, ho⟩ := hrel
        have ho' := Lib.hid ho
        clear ho
        by_cases hlt : j < s.size
        · have hji : (j : Int) < (s.size : Int) := by omega
          by_cases hok : okAt j (s[j]'hlt).toNat = true
          · have hR := Lib.hid (not_ok_at hlt hok ho'.out)
            rw [okAt_iff] at hok
            go_wp2
            all_goals first
              | (go_round
                 case rel => exact ⟨j + 1, by omega, by go_num, hR.out⟩
                 case measure => simp [intOf]; omega)
              | (exfalso; simp only [beq_iff_eq, beq_eq_false_iff_ne, ne_eq, Bool.not_eq_eq_eq_not, Bool.not_true] at *; omega)
              | (subst_vars; exfalso; simp only [Bool.not_eq_false', Bool.not_eq_true', decide_eq_true_eq, decide_eq_false_iff_not, beq_iff_eq, beq_eq_false_iff_ne, ne_eq] at *; omega)
          · have hno := Lib.hid (not_code hlt hok)
            rw [okAt_iff] at hok
            go_wp2
            all_goals first
              | (go_ret; rw [hno.out]; exact ⟨rfl, rfl⟩)
              | (exfalso; simp only [decide_eq_true_eq, beq_iff_eq, beq_eq_false_iff_ne, ne_eq, Bool.not_eq_eq_eq_not, Bool.not_false] at *; omega)
              | (subst_vars; exfalso; simp only [] at *; omega)
        · have hjn : s.size = j := by omega
          have hge : (s.size : Int) ≤ (j : Int) := by omega
          have e : codeL s.data.toList = true := by
            have := ho'.out
            rw [← hjn, List.take_of_length_le (by rw [ba_size]; exact Nat.le_refl _)] at this
            exact codeL_mk (by rw [ba_size]; omega) (by rw [ba_size]; omega) this
          have e' := Lib.hid e
          clear e hjn
          go_wp2
          go_ret
          rw [e'.out]
          exact ⟨rfl, rfl⟩
end Go.Proofs.YtgglkcikimmhfaaGreatDoor
