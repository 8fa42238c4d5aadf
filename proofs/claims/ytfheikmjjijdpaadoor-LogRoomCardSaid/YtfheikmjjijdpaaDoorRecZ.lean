/-
  Records, plain: their bytes are bytes, and how many they are. No program in sight. (Cut from RecO, RcQ.)
-/
import Derived.Test.YtfheikmjjijdpaaDoorRecF
namespace Go.Proofs.YtfheikmjjijdpaaDoor
open Go.RowKit Go.Maps
set_option linter.unusedVariables false

theorem app_bytes {a b : List Int} (ha : ∀ z ∈ a, isByte z) (hb : ∀ z ∈ b, isByte z) : ∀ z ∈ a ++ b, isByte z := by
  intro z hz
  rcases List.mem_append.1 hz with h | h
  · exact ha z h
  · exact hb z h
theorem rowL_bytes {l : List Int} (h : ∀ z ∈ l, isByte z) (hl : l.length ≤ 255) : ∀ z ∈ rowL l, isByte z := by
  intro z hz
  rcases List.mem_cons.1 hz with rfl | h1
  · unfold isByte; omega
  · exact h z h1
theorem pairs_bytes (a : Nat) (l : List (Int × Int)) : ∀ z ∈ l.flatMap (pairL a), isByte z := by
  intro z hz
  obtain ⟨p, _, hp⟩ := List.mem_flatMap.1 hz
  exact app_bytes (be_byte _ _) (be_byte _ _) z hp
theorem putR_bytes {R : Rec} (hr : rightR R = true) (hk : R.Ok) : ∀ z ∈ putR R, isByte z := by
  rw [rput_yes hr]
  refine app_bytes (be_byte _ _) ?_
  have hkk := hk.kind
  have h1 := hk.key
  have h2 := hk.old
  have h3 := hk.new
  have hT : turnB R = true → ∀ z ∈ turnL R, isByte z := fun ht => by
    have hl := turnB_len ht
    exact app_bytes (rowL_bytes h1 (by omega)) (app_bytes (rowL_bytes h2 (by omega)) (rowL_bytes h3 (by omega)))
  intro z hz
  refine (List.mem_cons.1 hz).elim (fun e => by rw [e]; exact hkk) (fun hz => ?_)
  unfold restL at hz
  unfold rightR at hr
  by_cases h5 : R.kind = 5
  · rw [if_pos h5] at hz
    exact app_bytes (app_bytes (be_byte _ _) (pairs_bytes _ _)) (app_bytes (be_byte _ _) (pairs_bytes _ _)) z hz
  · rw [if_neg h5] at hr hz
    simp only [Bool.and_eq_true, decide_eq_true_eq] at hr
    have hkd := hr.2
    unfold kindB at hkd
    by_cases k1 : R.kind = 1
    · rw [if_pos k1] at hkd hz
      simp only [Bool.and_eq_true] at hkd
      exact app_bytes (be_byte _ _) (app_bytes (be_byte _ _) (app_bytes (be_byte _ _) (hT hkd.2))) z hz
    · rw [if_neg k1] at hkd hz
      by_cases k2 : R.kind = 2
      · rw [if_pos k2] at hkd hz
        simp only [Bool.and_eq_true] at hkd
        exact app_bytes (be_byte _ _) (app_bytes (be_byte _ _) (app_bytes (be_byte _ _) (app_bytes (be_byte _ _) (hT hkd.2)))) z hz
      · rw [if_neg k2] at hz
        by_cases k6 : R.kind = 6
        · rw [if_pos k6] at hz
          exact app_bytes (be_byte _ _) (app_bytes (be_byte _ _) (app_bytes (be_byte _ _) (be_byte _ _))) z hz
        · rw [if_neg k6, List.append_nil] at hz
          exact app_bytes (be_byte _ _) (be_byte _ _) z hz
theorem rput_len {R : Rec} (hr : rightR R = true) (hk : R.Ok) : 3 ≤ (putR R).length ∧ (putR R).length ≤ 1002 := by
  have h1 := body_len hr
  have h2 : 1 ≤ (bodyL R).length := by unfold bodyL; simp
  rw [rput_yes hr, List.length_append, be_length]
  omega
end Go.Proofs.YtfheikmjjijdpaaDoor
