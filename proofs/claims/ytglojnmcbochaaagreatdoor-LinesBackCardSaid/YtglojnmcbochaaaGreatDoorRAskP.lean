/-
  Commands, plain: which are right, what their bytes are, and what is got of bytes. No program in sight.
-/
import Derived.Test.YtglojnmcbochaaaGreatDoorRCodQ
namespace Go.Proofs.YtglojnmcbochaaaGreatDoor
set_option linter.unusedVariables false
set_option linter.unusedSimpArgs false

/-- A command. Codes are lists of bytes. -/
structure AskV where
  kind : Int
  request : Int
  item : List UInt8
  qty : Int
  day : Int
  days : Int
  rank : Int
  lot : Int
  line : Int
  parts : List (List UInt8 × Int)
  others : List (List UInt8)
def AskV.zero : AskV := ⟨0, 0, [], 0, 0, 0, 0, 0, 0, [], []⟩
/-- The fields of a kind, each as one letter: i 105, q 113, d 100, l 108, r 114, t 116, n 110, p 112, o 111. -/
def fieldsK (k : Int) : Option (List Nat) :=
  if k = 1 then some [105, 108] else if k = 2 then some [105, 112] else if k = 3 then some [105, 111] else if k = 4 then some [105, 113] else if k = 5 then some [105, 113, 100] else if k = 6 then some [116, 100]
  else if k = 7 then some [116] else if k = 8 then some [116] else if k = 9 then some [105, 113, 100, 114] else if k = 10 then some [110] else if k = 11 then some [110] else if k = 12 then some []
  else if k = 13 then some [105, 113, 100] else if k = 14 then some [110] else if k = 15 then some [105] else none
def withinB (n least most : Int) : Bool := decide (least ≤ n) && decide (n ≤ most)
/-- Are all of a list codes, no two alike? -/
def unlikeB (l : List (List UInt8)) : Bool := (List.range l.length).all fun i => codeL (l.getD i []) && !(l.take i).contains (l.getD i [])
def partsB (l : List (List UInt8 × Int)) : Bool := (l.all fun p => withinB p.2 1 1073741824) && (decide (0 < l.length) && (decide (l.length ≤ 8) && unlikeB (l.map Prod.fst)))
def othersB (l : List (List UInt8)) (item : List UInt8) : Bool := decide (l.length ≤ 4) && (unlikeB l && !l.contains item)
/-- Is a field that a kind has right? -/
def okF (a : AskV) (c : Nat) : Bool :=
  if c = 105 then codeL a.item else if c = 113 then withinB a.qty 1 1073741824 else if c = 100 then withinB a.day 0 4000 else if c = 108 then withinB a.days 1 2000 else if c = 114 then withinB a.rank 0 99
  else if c = 116 then decide (0 < a.lot) else if c = 110 then decide (0 < a.line) else if c = 112 then partsB a.parts else if c = 111 then othersB a.others a.item else true
/-- Has a field that a kind has not nothing? -/
def zeroF (a : AskV) (c : Nat) : Bool :=
  if c = 105 then decide (a.item = []) else if c = 113 then decide (a.qty = 0) else if c = 100 then decide (a.day = 0) else if c = 108 then decide (a.days = 0) else if c = 114 then decide (a.rank = 0)
  else if c = 116 then decide (a.lot = 0) else if c = 110 then decide (a.line = 0) else if c = 112 then decide (a.parts = []) else if c = 111 then decide (a.others = []) else true
def letters : List Nat := [105, 113, 100, 108, 114, 116, 110, 112, 111]
def fitF (a : AskV) (f : List Nat) (c : Nat) : Bool := if f.contains c then okF a c else zeroF a c
def rightA (a : AskV) : Bool := match fieldsK a.kind with
  | none => false
  | some f => withinB a.request 0 4611686018427387904 && letters.all (fitF a f)
/-! Got of bytes. -/
def codeS : Option (List Int) → List UInt8 × Option (List Int)
  | none => ([], none)
  | some zs => match getL zs with
    | some l => (l, some (zs.drop (1 + l.length)))
    | none => ([], none)
def partsS : Nat → Option (List Int) → List (List UInt8 × Int) × Option (List Int)
  | 0, s => ([], s)
  | _ + 1, none => ([], none)
  | n + 1, some zs => (((codeS (some zs)).1, (numS 8 (codeS (some zs)).2).1) :: (partsS n (numS 8 (codeS (some zs)).2).2).1, (partsS n (numS 8 (codeS (some zs)).2).2).2)
def othersS : Nat → Option (List Int) → List (List UInt8) × Option (List Int)
  | 0, s => ([], s)
  | _ + 1, none => ([], none)
  | n + 1, some zs => ((codeS (some zs)).1 :: (othersS n (codeS (some zs)).2).1, (othersS n (codeS (some zs)).2).2)
/-- One field is got. -/
def decF (x : AskV × Option (List Int)) (c : Nat) : AskV × Option (List Int) :=
  if c = 105 then ({ x.1 with item := (codeS x.2).1 }, (codeS x.2).2) else if c = 113 then ({ x.1 with qty := (numS 8 x.2).1 }, (numS 8 x.2).2) else if c = 100 then ({ x.1 with day := (numS 2 x.2).1 }, (numS 2 x.2).2)
  else if c = 108 then ({ x.1 with days := (numS 2 x.2).1 }, (numS 2 x.2).2) else if c = 114 then ({ x.1 with rank := (numS 1 x.2).1 }, (numS 1 x.2).2) else if c = 116 then ({ x.1 with lot := (numS 8 x.2).1 }, (numS 8 x.2).2)
  else if c = 110 then ({ x.1 with line := (numS 8 x.2).1 }, (numS 8 x.2).2) else if c = 112 then ({ x.1 with parts := (partsS (numS 1 x.2).1.toNat (numS 1 x.2).2).1 }, (partsS (numS 1 x.2).1.toNat (numS 1 x.2).2).2)
  else if c = 111 then ({ x.1 with others := (othersS (numS 1 x.2).1.toNat (numS 1 x.2).2).1 }, (othersS (numS 1 x.2).1.toNat (numS 1 x.2).2).2) else x
def startA (s : Option (List Int)) : AskV × Option (List Int) := ({ AskV.zero with kind := (numS 1 s).1, request := (numS 8 (numS 1 s).2).1 }, (numS 8 (numS 1 s).2).2)
/-! What is put is got. -/
theorem unlikeB_codes {l : List (List UInt8)} (h : unlikeB l = true) : ∀ p ∈ l, codeL p = true := by
  intro p hp
  obtain ⟨i, hi, rfl⟩ := List.mem_iff_getElem.1 hp
  have := (List.all_eq_true.1 h) i (List.mem_range.2 hi)
  rw [List.getD_eq_getElem?_getD, List.getElem?_eq_getElem hi] at this
  simp only [Option.getD_some, Bool.and_eq_true] at this
  exact this.1
theorem withinB_iff {n a b : Int} : withinB n a b = true ↔ a ≤ n ∧ n ≤ b := by unfold withinB; simp
theorem partsB_mem {l : List (List UInt8 × Int)} (h : partsB l = true) : 0 < l.length ∧ l.length ≤ 8 ∧ ∀ p ∈ l, codeL p.1 = true ∧ 1 ≤ p.2 ∧ p.2 ≤ 1073741824 := by
  unfold partsB at h
  simp only [Bool.and_eq_true, decide_eq_true_eq] at h
  obtain ⟨h1, h2, h3, h4⟩ := h
  refine ⟨h2, h3, fun p hp => ⟨unlikeB_codes h4 p.1 (List.mem_map_of_mem hp), ?_⟩⟩
  exact withinB_iff.1 ((List.all_eq_true.1 h1) p hp)
theorem othersB_mem {l : List (List UInt8)} {item : List UInt8} (h : othersB l item = true) : l.length ≤ 4 ∧ ∀ p ∈ l, codeL p = true := by
  unfold othersB at h
  simp only [Bool.and_eq_true, decide_eq_true_eq] at h
  exact ⟨h.1, unlikeB_codes h.2.1⟩
/-- A field of one command put into another. -/
def setF (a : AskV) (x : AskV) (c : Nat) : AskV :=
  if c = 105 then { x with item := a.item } else if c = 113 then { x with qty := a.qty } else if c = 100 then { x with day := a.day } else if c = 108 then { x with days := a.days } else if c = 114 then { x with rank := a.rank }
  else if c = 116 then { x with lot := a.lot } else if c = 110 then { x with line := a.line } else if c = 112 then { x with parts := a.parts } else if c = 111 then { x with others := a.others } else x
/-- The kinds, one by one. -/
theorem fieldsK_none {k : Int} (h : k < 1 ∨ 15 < k) : fieldsK k = none := by
  unfold fieldsK
  rw [if_neg (by omega), if_neg (by omega), if_neg (by omega), if_neg (by omega), if_neg (by omega), if_neg (by omega), if_neg (by omega), if_neg (by omega), if_neg (by omega), if_neg (by omega), if_neg (by omega), if_neg (by omega), if_neg (by omega), if_neg (by omega), if_neg (by omega)]
theorem fieldsK_range {k : Int} {f : List Nat} (h : fieldsK k = some f) : 1 ≤ k ∧ k ≤ 15 := by
  by_cases hk : k < 1 ∨ 15 < k
  · rw [fieldsK_none hk] at h; cases h
  · omega
theorem fieldsK_some {k : Int} {f : List Nat} (h : fieldsK k = some f) : 1 ≤ k ∧ k ≤ 15 ∧ ∀ c ∈ f, c ∈ letters := by
  obtain ⟨h1, h2⟩ := fieldsK_range h
  refine ⟨h1, h2, ?_⟩
  rcases (show k = 1 ∨ k = 2 ∨ k = 3 ∨ k = 4 ∨ k = 5 ∨ k = 6 ∨ k = 7 ∨ k = 8 ∨ k = 9 ∨ k = 10 ∨ k = 11 ∨ k = 12 ∨ k = 13 ∨ k = 14 ∨ k = 15 by omega) with rfl | rfl | rfl | rfl | rfl | rfl | rfl | rfl | rfl | rfl | rfl | rfl | rfl | rfl | rfl
  · rw [show fieldsK 1 = some [105, 108] from rfl] at h; injection h with h; subst h; decide
  · rw [show fieldsK 2 = some [105, 112] from rfl] at h; injection h with h; subst h; decide
  · rw [show fieldsK 3 = some [105, 111] from rfl] at h; injection h with h; subst h; decide
  · rw [show fieldsK 4 = some [105, 113] from rfl] at h; injection h with h; subst h; decide
  · rw [show fieldsK 5 = some [105, 113, 100] from rfl] at h; injection h with h; subst h; decide
  · rw [show fieldsK 6 = some [116, 100] from rfl] at h; injection h with h; subst h; decide
  · rw [show fieldsK 7 = some [116] from rfl] at h; injection h with h; subst h; decide
  · rw [show fieldsK 8 = some [116] from rfl] at h; injection h with h; subst h; decide
  · rw [show fieldsK 9 = some [105, 113, 100, 114] from rfl] at h; injection h with h; subst h; decide
  · rw [show fieldsK 10 = some [110] from rfl] at h; injection h with h; subst h; decide
  · rw [show fieldsK 11 = some [110] from rfl] at h; injection h with h; subst h; decide
  · rw [show fieldsK 12 = some [] from rfl] at h; injection h with h; subst h; decide
  · rw [show fieldsK 13 = some [105, 113, 100] from rfl] at h; injection h with h; subst h; decide
  · rw [show fieldsK 14 = some [110] from rfl] at h; injection h with h; subst h; decide
  · rw [show fieldsK 15 = some [105] from rfl] at h; injection h with h; subst h; decide
theorem rightA_some {a : AskV} (h : rightA a = true) : ∃ f, fieldsK a.kind = some f ∧ 0 ≤ a.request ∧ a.request ≤ 4611686018427387904 ∧ ∀ c ∈ letters, fitF a f c = true := by
  unfold rightA at h
  split at h
  · cases h
  · rename_i f hf
    simp only [Bool.and_eq_true] at h
    have h1 := withinB_iff.1 h.1
    exact ⟨f, hf, h1.1, h1.2, List.all_eq_true.1 h.2⟩
/-- A right command is its fields, put into one of its kind. -/
theorem set_all {a : AskV} {f : List Nat} (hf : fieldsK a.kind = some f) (h : ∀ c ∈ letters, fitF a f c = true) : f.foldl (setF a) { AskV.zero with kind := a.kind, request := a.request } = a := by
  have h1 := h 105 (by decide)
  have h2 := h 113 (by decide)
  have h3 := h 100 (by decide)
  have h4 := h 108 (by decide)
  have h5 := h 114 (by decide)
  have h6 := h 116 (by decide)
  have h7 := h 110 (by decide)
  have h8 := h 112 (by decide)
  have h9 := h 111 (by decide)
  clear h
  obtain ⟨kind, request, item, qty, day, days, rank, lot, line, parts, others⟩ := a
  simp only at hf
  obtain ⟨g1, g2⟩ := fieldsK_range hf
  rcases (show kind = 1 ∨ kind = 2 ∨ kind = 3 ∨ kind = 4 ∨ kind = 5 ∨ kind = 6 ∨ kind = 7 ∨ kind = 8 ∨ kind = 9 ∨ kind = 10 ∨ kind = 11 ∨ kind = 12 ∨ kind = 13 ∨ kind = 14 ∨ kind = 15 by omega) with rfl | rfl | rfl | rfl | rfl | rfl | rfl | rfl | rfl | rfl | rfl | rfl | rfl | rfl | rfl
  · rw [show fieldsK 1 = some [105, 108] from rfl] at hf; injection hf with hf; subst hf; simp [fitF, okF, zeroF] at h1 h2 h3 h4 h5 h6 h7 h8 h9; simp [setF, AskV.zero, *]
  · rw [show fieldsK 2 = some [105, 112] from rfl] at hf; injection hf with hf; subst hf; simp [fitF, okF, zeroF] at h1 h2 h3 h4 h5 h6 h7 h8 h9; simp [setF, AskV.zero, *]
  · rw [show fieldsK 3 = some [105, 111] from rfl] at hf; injection hf with hf; subst hf; simp [fitF, okF, zeroF] at h1 h2 h3 h4 h5 h6 h7 h8 h9; simp [setF, AskV.zero, *]
  · rw [show fieldsK 4 = some [105, 113] from rfl] at hf; injection hf with hf; subst hf; simp [fitF, okF, zeroF] at h1 h2 h3 h4 h5 h6 h7 h8 h9; simp [setF, AskV.zero, *]
  · rw [show fieldsK 5 = some [105, 113, 100] from rfl] at hf; injection hf with hf; subst hf; simp [fitF, okF, zeroF] at h1 h2 h3 h4 h5 h6 h7 h8 h9; simp [setF, AskV.zero, *]
  · rw [show fieldsK 6 = some [116, 100] from rfl] at hf; injection hf with hf; subst hf; simp [fitF, okF, zeroF] at h1 h2 h3 h4 h5 h6 h7 h8 h9; simp [setF, AskV.zero, *]
  · rw [show fieldsK 7 = some [116] from rfl] at hf; injection hf with hf; subst hf; simp [fitF, okF, zeroF] at h1 h2 h3 h4 h5 h6 h7 h8 h9; simp [setF, AskV.zero, *]
  · rw [show fieldsK 8 = some [116] from rfl] at hf; injection hf with hf; subst hf; simp [fitF, okF, zeroF] at h1 h2 h3 h4 h5 h6 h7 h8 h9; simp [setF, AskV.zero, *]
  · rw [show fieldsK 9 = some [105, 113, 100, 114] from rfl] at hf; injection hf with hf; subst hf; simp [fitF, okF, zeroF] at h1 h2 h3 h4 h5 h6 h7 h8 h9; simp [setF, AskV.zero, *]
  · rw [show fieldsK 10 = some [110] from rfl] at hf; injection hf with hf; subst hf; simp [fitF, okF, zeroF] at h1 h2 h3 h4 h5 h6 h7 h8 h9; simp [setF, AskV.zero, *]
  · rw [show fieldsK 11 = some [110] from rfl] at hf; injection hf with hf; subst hf; simp [fitF, okF, zeroF] at h1 h2 h3 h4 h5 h6 h7 h8 h9; simp [setF, AskV.zero, *]
  · rw [show fieldsK 12 = some [] from rfl] at hf; injection hf with hf; subst hf; simp [fitF, okF, zeroF] at h1 h2 h3 h4 h5 h6 h7 h8 h9; simp [setF, AskV.zero, *]
  · rw [show fieldsK 13 = some [105, 113, 100] from rfl] at hf; injection hf with hf; subst hf; simp [fitF, okF, zeroF] at h1 h2 h3 h4 h5 h6 h7 h8 h9; simp [setF, AskV.zero, *]
  · rw [show fieldsK 14 = some [110] from rfl] at hf; injection hf with hf; subst hf; simp [fitF, okF, zeroF] at h1 h2 h3 h4 h5 h6 h7 h8 h9; simp [setF, AskV.zero, *]
  · rw [show fieldsK 15 = some [105] from rfl] at hf; injection hf with hf; subst hf; simp [fitF, okF, zeroF] at h1 h2 h3 h4 h5 h6 h7 h8 h9; simp [setF, AskV.zero, *]
/-! What is got is put. -/
def BytesO (s : Option (List Int)) : Prop := ∀ ys, s = some ys → ∀ y ∈ ys, isByte y
theorem BytesO.of {l r : List Int} {s : Option (List Int)} (h : BytesO s) (e : s = some (l ++ r)) : BytesO (some r) := fun ys e' y hy => by
  injection e' with e'
  subst e'
  exact h _ e y (by simp [hy])
end Go.Proofs.YtglojnmcbochaaaGreatDoor

