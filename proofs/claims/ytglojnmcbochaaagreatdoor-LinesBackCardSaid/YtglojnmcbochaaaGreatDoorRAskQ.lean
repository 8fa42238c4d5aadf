/-
  Commands, plain: the shapes in which the program and the document tell what is right. No program in sight.
-/
import Derived.Test.YtglojnmcbochaaaGreatDoorRAskP
namespace Go.Proofs.YtglojnmcbochaaaGreatDoor
set_option linter.unusedVariables false
set_option linter.unusedSimpArgs false

/-- The program's shape: all fields of the kind are right, and no other has anything. -/
theorem fit_prog {a : AskV} {f : List Nat} (hf : ∀ c ∈ f, c ∈ letters) : letters.all (fitF a f) = (f.all (okF a) && letters.all (fun c => f.contains c || zeroF a c)) := by
  apply Bool.eq_iff_iff.2
  simp only [Bool.and_eq_true, List.all_eq_true, Bool.or_eq_true]
  constructor
  · intro h
    refine ⟨fun c hc => ?_, fun c hc => ?_⟩
    · have := h c (hf c hc)
      unfold fitF at this
      rw [if_pos (by simpa using hc)] at this
      exact this
    · have := h c hc
      unfold fitF at this
      by_cases hm : f.contains c = true
      · exact .inl hm
      · rw [if_neg hm] at this; exact .inr this
  · rintro ⟨h1, h2⟩ c hc
    unfold fitF
    by_cases hm : f.contains c = true
    · rw [if_pos hm]; exact h1 c (by simpa using hm)
    · rw [if_neg hm]
      rcases h2 c hc with h | h
      · exact absurd h hm
      · exact h
/-! The letters as bytes. -/
def fBytes (f : List Nat) : List UInt8 := f.map UInt8.ofNat
def fBA (f : List Nat) : ByteArray := ⟨(fBytes f).toArray⟩
/-- The kinds' fields, each once. -/
def kindsL : List (List Nat) := [[105, 108], [105, 112], [105, 111], [105, 113], [105, 113, 100], [116, 100], [116], [105, 113, 100, 114], [110], [], [105]]
theorem fieldsK_kinds {k : Int} {f : List Nat} (h : fieldsK k = some f) : f ∈ kindsL := by
  obtain ⟨h1, h2⟩ := fieldsK_range h
  rcases (show k = 1 ∨ k = 2 ∨ k = 3 ∨ k = 4 ∨ k = 5 ∨ k = 6 ∨ k = 7 ∨ k = 8 ∨ k = 9 ∨ k = 10 ∨ k = 11 ∨ k = 12 ∨ k = 13 ∨ k = 14 ∨ k = 15 by omega) with rfl | rfl | rfl | rfl | rfl | rfl | rfl | rfl | rfl | rfl | rfl | rfl | rfl | rfl | rfl
  all_goals (unfold fieldsK at h; simp only [Int.reduceEq, if_true, if_false] at h; injection h with h; subst h; decide)
theorem kinds_letters {f : List Nat} (h : f ∈ kindsL) : f.length ≤ 4 ∧ ∀ c ∈ f, c ∈ letters := by
  unfold kindsL at h
  simp only [List.mem_cons, List.not_mem_nil, or_false] at h
  rcases h with rfl | rfl | rfl | rfl | rfl | rfl | rfl | rfl | rfl | rfl | rfl <;> decide
theorem kinds_contains {f : List Nat} (h : f ∈ kindsL) : ∀ c ∈ letters, (fBytes f).contains (UInt8.ofNat c) = f.contains c := by
  unfold kindsL at h
  simp only [List.mem_cons, List.not_mem_nil, or_false] at h
  rcases h with rfl | rfl | rfl | rfl | rfl | rfl | rfl | rfl | rfl | rfl | rfl <;> decide
theorem fBA_size (f : List Nat) : (fBA f).size = f.length := by
  show (fBytes f).toArray.size = _
  simp [fBytes]
theorem fBA_data (f : List Nat) : (fBA f).data.toList = fBytes f := rfl
theorem letter_at {f : List Nat} (h : f ∈ kindsL) {p : Nat} (hp : p < (fBA f).size) : ∃ c, c ∈ letters ∧ ((fBA f)[p]'hp).toNat = c ∧ f.take (p + 1) = f.take p ++ [c] ∧ c < 128 := by
  have hl : p < f.length := by rw [fBA_size] at hp; exact hp
  have hm := (kinds_letters h).2 _ (List.getElem_mem hl)
  refine ⟨f[p], hm, ?_, ?_, ?_⟩
  · show ((fBytes f).toArray[p]'(by simpa [fBytes] using hl)).toNat = _
    simp only [fBytes, List.getElem_toArray, List.getElem_map]
    unfold letters at hm
    simp only [List.mem_cons, List.not_mem_nil, or_false] at hm
    rcases hm with e | e | e | e | e | e | e | e | e <;> rw [e] <;> rfl
  · rw [List.take_succ_eq_append_getElem hl]
  · unfold letters at hm
    simp only [List.mem_cons, List.not_mem_nil, or_false] at hm
    omega

/-! The program's shape, step by step: the fields of the kind put into a bare command. -/
def setB (a x : AskV) (c : Nat) : AskV := if c = 112 ∨ c = 111 then x else setF a x c
def bareA (a : AskV) (f : List Nat) : AskV := f.foldl (setB a) ⟨a.kind, a.request, [], 0, 0, 0, 0, 0, 0, [], []⟩
def okTo (a : AskV) (f : List Nat) : Bool := f.all (okF a)
theorem bareA_snoc (a : AskV) (f : List Nat) (c : Nat) : bareA a (f ++ [c]) = setB a (bareA a f) c := by unfold bareA; rw [List.foldl_append]; rfl
theorem okTo_snoc (a : AskV) (f : List Nat) (c : Nat) : okTo a (f ++ [c]) = (okTo a f && okF a c) := by unfold okTo; rw [List.all_append]; simp
/-- Are two commands alike, but for their lists? -/
def plainB (a b : AskV) : Bool := decide (a.kind = b.kind) && decide (a.request = b.request) && decide (a.qty = b.qty) && decide (a.item = b.item) && decide (a.day = b.day) && decide (a.days = b.days) && decide (a.rank = b.rank) && decide (a.lot = b.lot) && decide (a.line = b.line)
theorem plainB_nil (kind request : Int) (item : List UInt8) (qty day days rank lot line : Int) (parts : List (List UInt8 × Int)) (others : List (List UInt8)) : plainB ⟨kind, request, item, qty, day, days, rank, lot, line, parts, others⟩ (bareA ⟨kind, request, item, qty, day, days, rank, lot, line, parts, others⟩ []) = (decide (qty = 0) && decide (item = []) && decide (day = 0) && decide (days = 0) && decide (rank = 0) && decide (lot = 0) && decide (line = 0)) := by
  have e : plainB ⟨kind, request, item, qty, day, days, rank, lot, line, parts, others⟩ (bareA ⟨kind, request, item, qty, day, days, rank, lot, line, parts, others⟩ []) = (decide (kind = kind) && decide (request = request) && decide (qty = 0) && decide (item = []) && decide (day = 0) && decide (days = 0) && decide (rank = 0) && decide (lot = 0) && decide (line = 0)) := rfl
  rw [e]
  simp
theorem rightA_prog {a : AskV} {f : List Nat} (hf : fieldsK a.kind = some f) : rightA a = (withinB a.request 0 4611686018427387904 && (okTo a f && ((decide (a.parts = []) || f.contains 112) && ((decide (a.others = []) || f.contains 111) && plainB a (bareA a f))))) := by
  have hk := fieldsK_kinds hf
  unfold rightA
  rw [hf]
  simp only
  congr 1
  rw [fit_prog (kinds_letters hk).2]
  unfold okTo
  congr 1
  unfold kindsL at hk
  simp only [List.mem_cons, List.not_mem_nil, or_false] at hk
  obtain ⟨kind, request, item, qty, day, days, rank, lot, line, parts, others⟩ := a
  rcases hk with rfl | rfl | rfl | rfl | rfl | rfl | rfl | rfl | rfl | rfl | rfl
  all_goals
    try rw [plainB_nil]
    simp only [letters, List.all_cons, List.all_nil, zeroF, plainB, bareA, AskV.zero, List.foldl_cons, List.foldl_nil, setB, setF, List.contains_cons, List.contains_nil, Nat.reduceEqDiff, Nat.reduceBEq, if_true, if_false, or_true, or_false, true_or, false_or, decide_true, Bool.true_and, Bool.and_true, Bool.or_false, Bool.false_or, Bool.true_or, Bool.or_true]
    apply Bool.eq_iff_iff.2
    simp only [Bool.and_eq_true, decide_eq_true_eq]
    clear hf
    constructor <;> (intro h; simp_all)
/-! The document's shape: by the kind's fields. -/
end Go.Proofs.YtglojnmcbochaaaGreatDoor

