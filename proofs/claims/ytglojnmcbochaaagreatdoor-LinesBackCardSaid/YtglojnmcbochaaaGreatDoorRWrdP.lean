/-
  A line's words, plain: what stands between the bytes 32. No program in sight.
-/
import Derived.Lib.Join
namespace Go.Proofs.YtglojnmcbochaaaGreatDoor
set_option linter.unusedVariables false
set_option linter.unusedSimpArgs false

/-- What stands between the bytes 32, the empty ones too. -/
def pieces : List UInt8 → List (List UInt8)
  | [] => [[]]
  | c :: l => if c = 32 then [] :: pieces l else match pieces l with
    | [] => [[c]]
    | p :: ps => (c :: p) :: ps
/-- A line's words. -/
def wordsL (l : List UInt8) : List (List UInt8) := (pieces l).filter fun p => !p.isEmpty

def putC (c : UInt8) : List (List UInt8) → List (List UInt8)
  | [] => [[c]]
  | p :: ps => (c :: p) :: ps
theorem pieces_blank (l : List UInt8) : pieces (32 :: l) = [] :: pieces l := by
  conv => lhs; unfold pieces
  rw [if_pos rfl]
theorem pieces_other {c : UInt8} (l : List UInt8) (h : c ≠ 32) : pieces (c :: l) = putC c (pieces l) := by
  conv => lhs; unfold pieces
  rw [if_neg h]
  rfl
theorem pieces_ne (l : List UInt8) : pieces l ≠ [] := by
  cases l with
  | nil => simp [pieces]
  | cons c l =>
    unfold pieces
    split
    · simp
    · split <;> simp
theorem pieces_none {l : List UInt8} (h : ∀ c ∈ l, c ≠ 32) : pieces l = [l] := by
  induction l with
  | nil => rfl
  | cons c l ih =>
    unfold pieces
    rw [if_neg (h c (by simp)), ih (fun d hd => h d (by simp [hd]))]
/-- What stands ahead of the first 32; then the rest. -/
theorem pieces_at {a : List UInt8} (b : List UInt8) (h : ∀ c ∈ a, c ≠ 32) : pieces (a ++ 32 :: b) = a :: pieces b := by
  induction a with
  | nil => simp [pieces]
  | cons c a ih =>
    rw [List.cons_append, pieces_other _ (h c (by simp)), ih (fun d hd => h d (by simp [hd]))]
    rfl
theorem pieces_app (a b : List UInt8) : pieces (a ++ 32 :: b) = pieces a ++ pieces b := by
  induction a with
  | nil => simp [pieces]
  | cons c a ih =>
    rw [List.cons_append]
    by_cases hc : c = 32
    · subst hc
      rw [pieces_blank, pieces_blank, ih, List.cons_append]
    · rw [pieces_other _ hc, pieces_other _ hc, ih]
      cases hp : pieces a with
      | nil => exact absurd hp (pieces_ne a)
      | cons p ps => rfl
theorem words_nil : wordsL [] = [] := rfl
theorem words_app (a b : List UInt8) : wordsL (a ++ 32 :: b) = wordsL a ++ wordsL b := by
  unfold wordsL
  rw [pieces_app, List.filter_append]
theorem words_blank (b : List UInt8) : wordsL (32 :: b) = wordsL b := by
  have := words_app [] b
  simpa [words_nil] using this
theorem words_word {p : List UInt8} (h : ∀ c ∈ p, c ≠ 32) (h0 : p ≠ []) : wordsL p = [p] := by
  unfold wordsL
  rw [pieces_none h]
  cases p with
  | nil => exact absurd rfl h0
  | cons c p => rfl
theorem words_behind (a : List UInt8) : wordsL (a ++ [32]) = wordsL a := by
  rw [words_app a [], words_nil, List.append_nil]
/-- A word, then a blank or the end. -/
theorem words_cons {p : List UInt8} (b : List UInt8) (h : ∀ c ∈ p, c ≠ 32) (h0 : p ≠ []) : wordsL (p ++ 32 :: b) = p :: wordsL b := by
  rw [words_app, words_word h h0]
  rfl
/-- Words put together with one blank between them. -/
theorem words_join {l : List (List UInt8)} (h : ∀ p ∈ l, p ≠ [] ∧ ∀ c ∈ p, c ≠ 32) : wordsL (l.flatMap fun p => 32 :: p) = l := by
  induction l with
  | nil => rfl
  | cons p l ih =>
    rw [List.flatMap_cons, List.cons_append, words_blank]
    have hp := h p (by simp)
    have ih' := ih (fun q hq => h q (by simp [hq]))
    cases l with
    | nil => rw [List.flatMap_nil, List.append_nil, words_word hp.2 hp.1]
    | cons q l =>
      rw [List.flatMap_cons, List.cons_append] at ih' ⊢
      rw [words_cons _ hp.2 hp.1]
      rw [words_blank] at ih'
      rw [ih']
theorem pieces_sum (l : List UInt8) : ((pieces l).map fun p => p.length + 1).sum = l.length + 1 := by
  induction l with
  | nil => rfl
  | cons c l ih =>
    by_cases hc : c = 32
    · subst hc
      rw [pieces_blank, List.map_cons, List.sum_cons, ih]
      simp
      omega
    · rw [pieces_other _ hc]
      cases hp : pieces l with
      | nil => exact absurd hp (pieces_ne l)
      | cons p ps =>
        rw [hp] at ih
        simp only [putC, List.map_cons, List.sum_cons, List.length_cons] at ih ⊢
        omega
theorem full_sum (ps : List (List UInt8)) : 2 * (ps.filter fun p => !p.isEmpty).length ≤ (ps.map fun p => p.length + 1).sum := by
  induction ps with
  | nil => simp
  | cons p ps ih =>
    rw [List.filter_cons, List.map_cons, List.sum_cons]
    split
    · rename_i h
      cases p with
      | nil => cases h
      | cons c p =>
        simp only [List.length_cons]
        omega
    · omega
theorem words_few (l : List UInt8) : 2 * (wordsL l).length ≤ l.length + 1 := by
  have := full_sum (pieces l)
  rw [pieces_sum] at this
  exact this
theorem pieces_mem {l p : List UInt8} (h : p ∈ pieces l) : p.length ≤ l.length ∧ ∀ c ∈ p, c ∈ l ∧ c ≠ 32 := by
  induction l generalizing p with
  | nil =>
    unfold pieces at h
    rw [List.mem_singleton] at h
    subst h
    simp
  | cons c l ih =>
    unfold pieces at h
    split at h
    · rcases List.mem_cons.1 h with rfl | h
      · simp
      · obtain ⟨h1, h2⟩ := ih h
        exact ⟨by simp; omega, fun d hd => ⟨by simp [(h2 d hd).1], (h2 d hd).2⟩⟩
    · rename_i hc
      split at h
      · rw [List.mem_singleton] at h
        subst h
        exact ⟨by simp, fun d hd => by
          rw [List.mem_singleton] at hd
          subst hd
          exact ⟨by simp, hc⟩⟩
      · rename_i q qs e
        rcases List.mem_cons.1 h with rfl | h
        · obtain ⟨h1, h2⟩ := ih (p := q) (by rw [e]; simp)
          refine ⟨by simp; omega, fun d hd => ?_⟩
          rcases List.mem_cons.1 hd with rfl | hd
          · exact ⟨by simp, hc⟩
          · exact ⟨by simp [(h2 d hd).1], (h2 d hd).2⟩
        · obtain ⟨h1, h2⟩ := ih (p := p) (by rw [e]; simp [h])
          exact ⟨by simp; omega, fun d hd => ⟨by simp [(h2 d hd).1], (h2 d hd).2⟩⟩
theorem words_mem {l p : List UInt8} (h : p ∈ wordsL l) : p ≠ [] ∧ p.length ≤ l.length ∧ ∀ c ∈ p, c ∈ l ∧ c ≠ 32 := by
  unfold wordsL at h
  obtain ⟨h1, h2⟩ := List.mem_filter.1 h
  refine ⟨?_, pieces_mem h1⟩
  rintro rfl
  simp at h2
/-- Words with one blank between them, as one joins them. -/
theorem join32 (p : List UInt8) (l : List (List UInt8)) : Go.Lib.join (p :: l) [32] = p ++ l.flatMap fun q => 32 :: q := by
  rw [Go.Lib.join_cons]
  unfold Go.Lib.joinTail
  rw [List.flatMap_def]
  rfl
end Go.Proofs.YtglojnmcbochaaaGreatDoor

